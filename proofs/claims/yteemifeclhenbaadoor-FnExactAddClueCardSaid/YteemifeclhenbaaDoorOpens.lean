import Derived.Test.YteemifeclhenbaaDoorP0
import Derived.WalkKit
import Derived.ProofKit
import Derived.Deep.Slices
namespace Go.Proofs.YteemifeclhenbaaDoor.Opens
open Go.RowKit Go.Proofs.YteemifeclhenbaaDoorW.PrintWords
variable {P : Program}
/-- What reads as a value of type t is one of kind k, and good. -/
def Opens {α : Type} (P : Program) (t : TypeId) (k : Kd α) (G : α → Prop) : Prop :=
  ∀ (H : Type) (enc : TypeId × Value → H) (w : World) (fuel : Nat) (cs : List Value) (y : DataW H × List MemPlace),
    DataW.trod enc P w 0 (fun _ => true) true fuel t cs = some y → ∃ x, k.K w x cs ∧ G x
theorem opens_int {t : TypeId} {ik : IntKind} (ht : P.underlying t = some (.int ik)) : Opens P t (Kd.int ik) (fun x => (Lit.int ik x).wf = true) := by
  intro H enc w fuel cs y h
  obtain ⟨n, rfl, _, hw⟩ := DataW.trod_int ht h
  exact ⟨n, rfl, hw⟩
theorem opens_string {t : TypeId} (ht : P.underlying t = some .string) : Opens P t Kd.string (fun x => x.size ≤ maxLen) := by
  intro H enc w fuel cs y h
  obtain ⟨s, rfl, _, hs⟩ := DataW.trod_string ht h
  exact ⟨s, rfl, hs⟩
theorem choose_list {α : Type} {R : Nat → α → Prop} (n : Nat) (h : ∀ i, i < n → ∃ x, R i x) : ∃ xs : List α, xs.length = n ∧ ∀ i x, xs[i]? = some x → R i x := by
  induction n with
  | zero => exact ⟨[], rfl, fun i x hx => by simp at hx⟩
  | succ n ih =>
    obtain ⟨xs, hl, hx⟩ := ih (fun i hi => h i (by omega))
    obtain ⟨x, hr⟩ := h n (by omega)
    refine ⟨xs ++ [x], by simp [hl], fun i z hz => ?_⟩
    by_cases hi : i < n
    · rw [List.getElem?_append_left (by omega)] at hz
      exact hx i z hz
    · have hlt := (List.getElem?_eq_some_iff.1 hz).1
      rw [List.length_append, List.length_singleton] at hlt
      have e : i = n := by omega
      subst e
      rw [List.getElem?_append_right (by omega), hl, Nat.sub_self] at hz
      obtain rfl : x = z := by simpa using hz
      exact hr
theorem opens_slice {α : Type} {t e : TypeId} {d : Kd α} {G : α → Prop} (ht : P.underlying t = some (.slice e)) (he : Opens P e d G) (hsz : P.cellsOf e = d.sz) :
    Opens P t (Kd.slice e d) (fun xs => xs.length ≤ maxLen ∧ ∀ x, x ∈ xs → G x) := by
  intro H enc w fuel cs y h
  rcases DataW.trod_slice ht h with ⟨rfl, _⟩ | ⟨a, len, cap, elems, rest, n, _, rfl, _, _, hl, hm, hlen, hel, _, _⟩
  · exact ⟨[], ⟨none, 0, rfl, Nat.le_refl _, rfl, by simp, fun h0 => absurd h0 (by simp)⟩, by simp, fun x hx => by simp at hx⟩
  · have h1 : ∀ i, i < len → ∃ x, (∃ c, c.length = d.sz ∧ d.K w x c ∧ ∀ j u, c[j]? = some u → w.cell? (a.add (i * d.sz + j)) = some u) ∧ G x := by
      intro i hi
      have h2 := hel i hi
      rw [List.getElem?_eq_getElem (by omega : i < elems.length)] at h2
      obtain ⟨c, hc, hy⟩ := Option.bind_eq_some_iff.1 h2
      obtain ⟨x, hK, hG⟩ := he H enc w n c _ hy
      obtain ⟨_, hcl, hcc⟩ := World.cells?_some hc
      refine ⟨x, ⟨c, by rw [hcl, hsz], hK, fun j u hu => ?_⟩, hG⟩
      have hj : j < c.length := (List.getElem?_eq_some_iff.1 hu).1
      have h3 := hcc j (by omega)
      rw [hsz, hu] at h3
      rw [← Addr.add_add]
      exact h3
    obtain ⟨xs, hxl, hx⟩ := choose_list len h1
    subst hxl
    refine ⟨xs, ⟨some a, cap, rfl, hl, rfl, by unfold maxLen at hm; omega, fun _ => ⟨a, rfl, fun j p hp => (hx j p hp).1⟩⟩, by omega, fun x hxm => ?_⟩
    obtain ⟨i, hi, rfl⟩ := List.getElem_of_mem hxm
    exact (hx i _ (List.getElem?_eq_getElem hi)).2
/-- The fields of a struct from a place on. -/
def OpensF {α : Type} (P : Program) (fs : List Field) (off len : Nat) (k : Kd α) (G : α → Prop) : Prop :=
  ∀ (H : Type) (enc : TypeId × Value → H) (w : World) (n : Nat) (cs : List Value),
    (∀ f, f ∈ fs → ∃ y, DataW.trod enc P w 0 (fun _ => true) true n f.type ((cs.drop f.offset).take (P.cellsOf f.type)) = some y) →
    ∃ x, k.K w x ((cs.drop off).take len) ∧ G x
theorem opensF_one {α : Type} {f : Field} {off len : Nat} {k : Kd α} {G : α → Prop} (h : Opens P f.type k G) (ho : f.offset = off) (hl : P.cellsOf f.type = len) : OpensF P [f] off len k G := by
  intro H enc w n cs hf
  obtain ⟨y, hy⟩ := hf f (by simp)
  rw [ho, hl] at hy
  exact h H enc w n _ y hy
theorem opensF_cons {α β : Type} {f : Field} {fs : List Field} {off l0 l1 : Nat} {k : Kd α} {k' : Kd β} {G : α → Prop} {G' : β → Prop} (h : Opens P f.type k G) (ho : f.offset = off) (hl : P.cellsOf f.type = l0)
    (hr : OpensF P fs (off + l0) l1 k' G') : OpensF P (f :: fs) off (l0 + l1) (Kd.pair k k') (fun x => G x.1 ∧ G' x.2) := by
  intro H enc w n cs hf
  obtain ⟨y, hy⟩ := hf f (by simp)
  rw [ho, hl] at hy
  obtain ⟨x, hx, hg⟩ := h H enc w n _ y hy
  obtain ⟨x', hx', hg'⟩ := hr H enc w n cs (fun f' hf' => hf f' (List.mem_cons_of_mem _ hf'))
  refine ⟨(x, x'), ⟨_, _, ?_, hx, hx'⟩, hg, hg'⟩
  rw [← List.drop_drop, List.take_add]
theorem opens_struct {α : Type} {t : TypeId} {fs : Array Field} {len : Nat} {k : Kd α} {G : α → Prop} (ht : P.underlying t = some (.struct fs)) (hl : P.cellsOf t = len) (h : OpensF P fs.toList 0 len k G) : Opens P t k G := by
  intro H enc w fuel cs y hy
  obtain ⟨xs, n, _, _, hc, hlen, hf⟩ := DataW.trod_struct ht hy
  obtain ⟨x, hx, hg⟩ := h H enc w n cs (fun f hf' => by
    obtain ⟨i, hi, rfl⟩ := List.getElem_of_mem hf'
    have hi' : i < fs.size := by simpa using hi
    have := hf i fs[i] (by rw [Array.getElem?_eq_getElem hi'])
    rw [List.getElem?_eq_getElem (by omega)] at this
    exact ⟨_, by simpa using this⟩)
  refine ⟨x, ?_, hg⟩
  rw [List.drop_zero, List.take_of_length_le (by omega)] at hx
  exact hx
theorem opens_iso {α β : Type} {t : TypeId} {k : Kd α} {G : α → Prop} (h : Opens P t k G) (f : β → α) (g : α → β) (hfg : ∀ a, f (g a) = a) : Opens P t (Kd.iso k f) (fun b => G (f b)) := by
  intro H enc w fuel cs y hy
  obtain ⟨x, hx, hg⟩ := h H enc w fuel cs y hy
  refine ⟨g x, ?_, ?_⟩
  · show k.K w (f (g x)) cs
    rw [hfg]
    exact hx
  · show G (f (g x))
    rw [hfg]
    exact hg
theorem lt_of_trod {H : Type} {enc : TypeId × Value → H} {t : TypeId} {w : World} {v : Value} {d : DataW H} {p : List MemPlace} (h : DataW.Trod enc P w 0 (fun _ => true) true t v d p) : ∀ x ∈ p, x.block < w.heap.size := by
  obtain ⟨m, hm⟩ := h
  exact DataW.trod_lt m _ _ _ hm
end Go.Proofs.YteemifeclhenbaaDoor.Opens
