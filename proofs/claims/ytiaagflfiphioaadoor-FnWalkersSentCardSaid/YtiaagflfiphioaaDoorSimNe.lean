/- Slices of slices, slices of structs that aren't told whole: every operation. -/
import Derived.Test.YtiaagflfiphioaaDoorSimL
namespace Go.Proofs.YtiaagflfiphioaaDoorS
open Go
set_option linter.unusedVariables false
set_option linter.unusedSimpArgs false

section
variable {P : Program} {w0 : World} {A : List Nat} {W : WL} {nt : Nat} {sh : Nat → Value} {U : Nat → Prop} {ρ : Rho} {tm : Nat → AVal} {F F0 : Nat → AObj} {a : Act} {w : World} {id cnt : Nat}

/-- A slice of slices in memory. -/
theorem nest_of {own : Bool} {t : BT} {d : t.D} {x : Operand} {i : Nat} (S : Sim w0 A W nt sh U ρ tm F a w) (hs : Sub F0 F) (hx : ev tm x = .c (.mp i)) (hF : F0 i = .blob own t d) :
    F i = .blob own t d ∧ ρ i = some (a.eval x) ∧ BlobRel ρ own t d (a.eval x) w := by
  have hF' := hs.blob hF
  have hxr := ev_rel S x
  rw [hx] at hxr
  obtain ⟨hρ, _⟩ := hxr
  have hobj := S.obj i
  rw [hF'] at hobj
  obtain ⟨hd, q1, hb⟩ := hobj
  rw [hρ] at q1
  obtain rfl := Option.some.inj q1
  exact ⟨hF', hρ, hb⟩
theorem nest_len {o : Oper} {c : Call} (ho : o.op = .call c) (hb : c.callee = .builtin .len) {v : AVal} {u : List (Nat × AObj)} (S : Sim w0 A W nt sh U ρ tm F a w) (hs : Sub F0 F) (h : Gives (nestEff P o.op tm F0 id) v u) : Out w0 A W U ρ F id cnt v u ((execOp a.eval o).run P w) := by
  rw [ho] at h
  simp only [nestEff, hb] at h
  split at h
  rotate_left
  exact h.fail.elim
  rename_i i t hargs h0
  obtain ⟨x, hxx, hx⟩ := args1 hargs
  have hrun : ∀ {y : Value}, (Builtin.len_ c.argTypes o.type #[a.eval x]).run P w = .ok y w → (execOp a.eval o).run P w = .ok (.value y) w := fun {y} e => by
    simp [execOp, ho, resolve, hb, invoke, builtin, hxx, e]
  split at h
  · rename_i e own oo io s xss ht hF
    obtain ⟨rfl, rfl⟩ := h.c
    obtain ⟨_, _, ⟨p, cap, e1, _⟩, _⟩ := nest_of S hs hx hF
    refine Out.pure S (hrun ?_) (rfl : CRel ρ (.int .i64 xss.length) (.int .i64 xss.length))
    rw [e1]
    simp [Builtin.len_, h0, run_underlying ht, goInt]
  · rename_i e own cs d ht hF
    obtain ⟨rfl, rfl⟩ := h.c
    obtain ⟨_, _, p, cap, e1, _⟩ := nest_of S hs hx hF
    refine Out.pure S (hrun ?_) (rfl : CRel ρ (.int .i64 (List.length d)) (.int .i64 (List.length d)))
    rw [e1]
    simp [Builtin.len_, h0, run_underlying ht, goInt]
  · exact h.fail.elim
theorem nest_indexAddr {o : Oper} {t : TypeId} {x i : Operand} (ho : o.op = .indexAddr t x i) {v : AVal} {u : List (Nat × AObj)} (S : Sim w0 A W nt sh U ρ tm F a w) (hs : Sub F0 F) (h : Gives (nestEff P o.op tm F0 id) v u) : Out w0 A W U ρ F id cnt v u ((execOp a.eval o).run P w) := by
  rw [ho] at h
  simp only [nestEff] at h
  split at h
  rotate_left
  exact h.fail.elim
  rename_i k j e r hi hu hx
  split at h
  · rename_i own oo io s xss n hF hsz
    obtain ⟨hb, rfl, rfl⟩ := h.ck
    obtain ⟨hj0, hj1, hj2⟩ := inB_parts hb
    obtain ⟨_, hρ, ⟨p, c, hv, hle, hp⟩, _⟩ := nest_of S hs hx hF
    cases p with
    | none => obtain ⟨hl, _⟩ := hp; omega
    | some ad =>
      obtain ⟨hsp, _⟩ := hp
      obtain ⟨b, off, sp⟩ := ad
      simp only at hsp
      subst hsp
      rw [hv] at hρ
      refine Out.pure S (x := .pointer (some ⟨b, off + j.toNat * n, none⟩)) ?_ ⟨b, off, _, c, hρ, hj2, by simp⟩
      simp [execOp, ho, Instr.indexAt, int_of S hi, asIntOf, underlying, hu, hv, hj0, hj1, run_sizeOf hsz, add_lit]
  · rename_i own cs d n hF hsz
    obtain ⟨hb, rfl, rfl⟩ := h.ck
    obtain ⟨hj0, hj1, hj2⟩ := inB_parts hb
    obtain ⟨_, hρ, p, c, hv, hle, hp⟩ := nest_of S hs hx hF
    cases p with
    | none =>
      obtain ⟨hl, _⟩ := hp
      have : List.length d = 0 := by rw [hl]; rfl
      omega
    | some ad =>
      obtain ⟨hsp, _⟩ := hp
      obtain ⟨b, off, sp⟩ := ad
      simp only at hsp
      subst hsp
      rw [hv] at hρ
      refine Out.pure S (x := .pointer (some ⟨b, off + j.toNat * n, none⟩)) ?_ ⟨b, off, _, c, hρ, hj2, by simp⟩
      simp [execOp, ho, Instr.indexAt, int_of S hi, asIntOf, underlying, hu, hv, hj0, hj1, run_sizeOf hsz, add_lit]
  · exact h.fail.elim
theorem RecRel.at {ρ : Rho} {cs : List (Option Sh)} : ∀ {xs : List (RecT cs)} {vs : List Value} (_ : RecRel ρ cs xs vs) (j : Nat), j < xs.length →
    LRel ρ (recCells cs (xs.getD j (recDft cs))) ((vs.drop (j * cs.length)).take cs.length) ∧ (∀ v ∈ (vs.drop (j * cs.length)).take cs.length, v.oneCell' = true) ∧ (j + 1) * cs.length ≤ vs.length
  | [], _, _, j, hj => by simp at hj
  | x :: xs, vs, ⟨a, b, c, d⟩, 0, _ => by
    rw [Nat.zero_mul, List.drop_zero]
    exact ⟨a, c, by omega⟩
  | x :: xs, vs, ⟨a, b, c, d⟩, j + 1, hj => by
    obtain ⟨h1, h2, h3⟩ := RecRel.at d j (by simpa using hj)
    rw [List.drop_drop] at h1 h2
    have e : (j + 1) * cs.length = cs.length + j * cs.length := by rw [Nat.succ_mul]; omega
    rw [e]
    refine ⟨h1, h2, ?_⟩
    rw [List.length_drop] at h3
    rw [Nat.succ_mul, e]
    rw [e] at h3
    omega

/-! ### Objects that reach several blocks: taken away, laid anew -/
def NoCell (o : AObj) : Prop := ∀ own k n c, o ≠ .cell own k n c
theorem HR.only (H : HR w0 A W U ρ F w) {i : Nat} (hi : NoCell (F i)) {b : Nat} (hb : fpw (F i) (ρ i) w b) (j : Nat) (hj : j ≠ i) : ¬ fp (F j) (ρ j) w b := fun e => by
  obtain ⟨ki, kj, n, ci, cj, e1, _⟩ := H.sepf i j (Ne.symm hj) b hb e
  exact hi _ _ _ _ e1
theorem HR.noW (H : HR w0 A W U ρ F w) {i : Nat} (hi : NoCell (F i)) {b : Nat} (hb : fp (F i) (ρ i) w b) (j : Nat) (hj : j ≠ i) : ¬ fpw (F j) (ρ j) w b := fun e => by
  obtain ⟨ki, kj, n, ci, cj, _, e2, _⟩ := H.sepf j i hj b e hb
  exact hi _ _ _ _ e2
theorem HR.dead_of (H : HR w0 A W U ρ F w) {i : Nat} (hi : U i) : F i = .dead := by
  have h := H.obj i
  rw [H.fre i hi] at h
  cases hF : F i with
  | dead => rfl
  | cell => rw [hF] at h; obtain ⟨_, e, _⟩ := h; cases e
  | row => rw [hF] at h; obtain ⟨_, e, _⟩ := h; cases e
  | blob => rw [hF] at h; obtain ⟨_, e, _⟩ := h; cases e
/-- A block that no object reads turns, or comes. -/
theorem HR.grow {w' : World} {b : Nat} (H : HR w0 A W U ρ F w) (g : w.grownBy w' (some b)) (hb : w0.heap.size ≤ b ∨ b ∈ W) (hn : ∀ j, ¬ fp (F j) (ρ j) w b) : HR w0 A W U ρ F w' := by
  have keep : ∀ i b', fp (F i) (ρ i) w b' → w'.heap[b']? = w.heap[b']? := fun i b' hb' => g.block b' (H.flt hb') (fun e => by cases e; exact hn i hb')
  exact H.turnF (H.fr.grown g (fun k e => by cases e; exact hb)) (fun i => MetaOk.refl _) (fun i b' => ⟨(fp_kept (keep i) b').1.1, (fp_kept (keep i) b').2.1⟩) (fun i hl => (H.obj i).kept (ext.refl ρ) (keep i))
theorem grow_fp {w' : World} {b : Nat} (H : HR w0 A W U ρ F w) (g : w.grownBy w' (some b)) (hn : ∀ j, ¬ fp (F j) (ρ j) w b) (j b' : Nat) : (fp (F j) (ρ j) w' b' ↔ fp (F j) (ρ j) w b') ∧ (fpw (F j) (ρ j) w' b' ↔ fpw (F j) (ρ j) w b') :=
  fp_kept (fun b' hb' => g.block b' (H.flt hb') (fun e => by cases e; exact hn j hb')) b'
/-- A number is given a value; no object lies there yet. -/
def rset (ρ : Rho) (id : Nat) (hd : Value) : Rho := fun i => if i = id then some hd else ρ i
theorem rset_at (ρ : Rho) (id : Nat) (hd : Value) : rset ρ id hd id = some hd := if_pos rfl
theorem rset_ne (ρ : Rho) {id : Nat} (hd : Value) {i : Nat} (h : i ≠ id) : rset ρ id hd i = ρ i := if_neg h
theorem HR.bindId (H : HR w0 A W U ρ F w) {id : Nat} (hd : Value) (hid : U id) :
    ∃ ρ', ext ρ ρ' ∧ (∀ i, i ≠ id → ρ' i = ρ i) ∧ ρ' id = some hd ∧ HR w0 A W (fun i => U i ∧ i ≠ id) ρ' F w := by
  have hnone := H.fre id hid
  have hF := H.dead_of hid
  have hx : ext ρ (rset ρ id hd) := fun i v hv => by
    have : i ≠ id := fun e => by subst e; rw [hnone] at hv; cases hv
    rw [rset_ne ρ hd this]; exact hv
  have same : ∀ i, F i ≠ .dead → rset ρ id hd i = ρ i := fun i hi => rset_ne ρ hd fun e => by subst e; exact hi hF
  have fpe : ∀ i b, fp (F i) (rset ρ id hd i) w b → fp (F i) (ρ i) w b := fun i b hb => by
    rwa [same i fun e => by rw [e] at hb; exact hb.elim] at hb
  have fpwe : ∀ i b, fpw (F i) (rset ρ id hd i) w b → fpw (F i) (ρ i) w b := fun i b hb => by
    rwa [same i fun e => by rw [e] at hb; exact (fpw_dead hb).elim] at hb
  refine ⟨rset ρ id hd, hx, fun i hi => rset_ne ρ hd hi, rset_at ρ id hd, H.fr, ?_, ?_, ?_, ?_, ?_⟩
  · intro i hi; rw [rset_ne ρ hd hi.2]; exact H.fre i hi.1
  · intro i
    by_cases hd : F i = .dead
    · rw [hd]; trivial
    · rw [same i hd]; exact (H.obj i).kept hx (fun _ _ => rfl)
  · intro i j hij b hb hb'; exact H.sepf i j hij b (fpwe i b hb) (fpe j b hb')
  · intro i b hb; exact H.locf i b (fpe i b hb)
  · intro i b hb; exact H.locfw i b (fpwe i b hb)
/-- A block that a new object may read, or own. -/
def FreeB (w0 : World) (A : List Nat) (W : WL) (ρ : Rho) (F : Nat → AObj) (w : World) (own : Bool) (b : Nat) : Prop :=
  (w0.heap.size ≤ b ∨ b ∈ A) ∧ (∀ j, ¬ fpw (F j) (ρ j) w b) ∧ (own = true → (w0.heap.size ≤ b ∨ b ∈ W) ∧ ∀ j, ¬ fp (F j) (ρ j) w b)
theorem FreeB.weak {o o' : Bool} {b : Nat} (h : FreeB w0 A W ρ F w o b) (ho : o' = true → o = true) : FreeB w0 A W ρ F w o' b := ⟨h.1, h.2.1, fun e => h.2.2 (ho e)⟩
theorem upd_one (F : Nat → AObj) (i : Nat) (o : AObj) (j : Nat) : upd F [(i, o)] j = if i = j then o else F j := rfl
theorem upd_twice (F : Nat → AObj) (i : Nat) (o o' : AObj) : upd (upd F [(i, o)]) [(i, o')] = upd F [(i, o')] := by
  funext j
  rw [upd_one, upd_one, upd_one]
  by_cases h : i = j <;> simp [h]
theorem upd_swap (F : Nat → AObj) {i k : Nat} (h : i ≠ k) (o o' : AObj) : upd (upd F [(i, o)]) [(k, o')] = upd (upd F [(k, o')]) [(i, o)] := by
  funext j
  simp only [upd_one]
  by_cases h1 : i = j
  · subst h1
    rw [if_neg (Ne.symm h), if_pos rfl, if_pos rfl]
  · by_cases h2 : k = j <;> simp [h1, h2]
theorem upd_self (F : Nat → AObj) (i : Nat) (o : AObj) : upd F [(i, o)] i = o := by rw [upd_one, if_pos rfl]
theorem upd_ne (F : Nat → AObj) {i j : Nat} (o : AObj) (h : j ≠ i) : upd F [(i, o)] j = F j := by rw [upd_one, if_neg (Ne.symm h)]
theorem kill_fp {i j b : Nat} (h : fp (upd F [(i, .dead)] j) (ρ j) w b) : j ≠ i ∧ fp (F j) (ρ j) w b := by
  by_cases hj : j = i
  · subst hj; rw [upd_self] at h; exact h.elim
  · rw [upd_ne F _ hj] at h; exact ⟨hj, h⟩
theorem kill_fpw {i j b : Nat} (h : fpw (upd F [(i, .dead)] j) (ρ j) w b) : j ≠ i ∧ fpw (F j) (ρ j) w b := by
  by_cases hj : j = i
  · subst hj; rw [upd_self] at h; exact (fpw_dead h).elim
  · rw [upd_ne F _ hj] at h; exact ⟨hj, h⟩
theorem FreeB.kill {o : Bool} {b : Nat} (h : FreeB w0 A W ρ F w o b) (i : Nat) : FreeB w0 A W ρ (upd F [(i, .dead)]) w o b :=
  ⟨h.1, fun j e => h.2.1 j (kill_fpw e).2, fun ho => ⟨(h.2.2 ho).1, fun j e => (h.2.2 ho).2 j (kill_fp e).2⟩⟩
/-- What a killed object owned, or read, is free. -/
theorem HR.freed (H : HR w0 A W U ρ F w) {i : Nat} (hi : NoCell (F i)) {b : Nat} (o : Bool) (hb : fp (F i) (ρ i) w b) (ho : o = true → fpw (F i) (ρ i) w b) : FreeB w0 A W ρ (upd F [(i, .dead)]) w o b :=
  ⟨H.locf i b hb, fun j e => H.noW hi hb j (kill_fpw e).1 (kill_fpw e).2, fun h => ⟨H.locfw i b (ho h), fun j e => H.only hi (ho h) j (kill_fp e).1 (kill_fp e).2⟩⟩
/-- What an object reads and does not own may be read. -/
theorem HR.shared (H : HR w0 A W U ρ F w) {i : Nat} (hi : NoCell (F i)) {b : Nat} (hb : fp (F i) (ρ i) w b) (hw : ¬ fpw (F i) (ρ i) w b) : FreeB w0 A W ρ F w false b :=
  ⟨H.locf i b hb, fun j e => by
    by_cases hj : j = i
    · subst hj; exact hw e
    · exact H.noW hi hb j hj e, fun h => by cases h⟩
theorem FreeB.grow {w' : World} {b b' : Nat} {o : Bool} (H : HR w0 A W U ρ F w) (g : w.grownBy w' (some b)) (hn : ∀ j, ¬ fp (F j) (ρ j) w b) (h : FreeB w0 A W ρ F w o b') : FreeB w0 A W ρ F w' o b' :=
  ⟨h.1, fun j e => h.2.1 j ((grow_fp H g hn j b').2.1 e), fun ho => ⟨(h.2.2 ho).1, fun j e => (h.2.2 ho).2 j ((grow_fp H g hn j b').1.1 e)⟩⟩
theorem FreeB.bind {ρ' : Rho} {o : Bool} {b : Nat} {id : Nat} (hF : F id = .dead) (hs : ∀ i, i ≠ id → ρ' i = ρ i) (h : FreeB w0 A W ρ F w o b) : FreeB w0 A W ρ' F w o b :=
  ⟨h.1, fun j e => by
    by_cases hj : j = id
    · subst hj; rw [hF] at e; exact fpw_dead e
    · rw [hs j hj] at e; exact h.2.1 j e, fun ho => ⟨(h.2.2 ho).1, fun j e => by
    by_cases hj : j = id
    · subst hj; rw [hF] at e; exact e
    · rw [hs j hj] at e; exact (h.2.2 ho).2 j e⟩⟩
/-- The new block of the heap. -/
theorem HR.freeNew (H : HR w0 A W U ρ F w) : FreeB w0 A W ρ F w true w.heap.size :=
  ⟨.inl H.fr.size, fun j e => H.fresh j (fpw_fp e), fun _ => ⟨.inl H.fr.size, H.fresh⟩⟩
/-- An object is laid where none lies. -/
theorem HR.put (H : HR w0 A W U ρ F w) (i : Nat) (o : AObj) (hF : F i = .dead) (hc : NoCell o) (ho : ORel ρ w o (ρ i))
    (hr : ∀ b, fp o (ρ i) w b → FreeB w0 A W ρ F w false b) (hw : ∀ b, fpw o (ρ i) w b → FreeB w0 A W ρ F w true b) : HR w0 A W U ρ (upd F [(i, o)]) w := by
  refine ⟨H.fr, H.fre, fun j => ?_, fun j k hjk b hb hb' => ?_, fun j b hb => ?_, fun j b hb => ?_⟩
  · by_cases hj : j = i
    · subst hj; rw [upd_self]; exact ho
    · rw [upd_ne F _ hj]; exact H.obj j
  · by_cases hj : j = i
    · subst hj
      rw [upd_self] at hb
      rw [upd_ne F _ (Ne.symm hjk)] at hb'
      exact absurd hb' (((hw b hb).2.2 rfl).2 k)
    · rw [upd_ne F _ hj] at hb
      by_cases hk : k = i
      · subst hk
        rw [upd_self] at hb'
        exact absurd hb ((hr b hb').2.1 j)
      · rw [upd_ne F _ hk] at hb'
        obtain ⟨ki, kj, n, ci, cj, e1, e2, e3⟩ := H.sepf j k hjk b hb hb'
        exact ⟨ki, kj, n, ci, cj, by rw [upd_ne F _ hj, e1], by rw [upd_ne F _ hk, e2], e3⟩
  · by_cases hj : j = i
    · subst hj; rw [upd_self] at hb; exact (hr b hb).1
    · rw [upd_ne F _ hj] at hb; exact H.locf j b hb
  · by_cases hj : j = i
    · subst hj; rw [upd_self] at hb; exact ((hw b hb).2.2 rfl).1
    · rw [upd_ne F _ hj] at hb; exact H.locfw j b hb
/-- A new object. -/
theorem HR.newObj (H : HR w0 A W U ρ F w) (id : Nat) (o : AObj) (hd : Value) (hid : U id) (hc : NoCell o) (ho : ∀ ρ', ext ρ ρ' → ORel ρ' w o (some hd))
    (hr : ∀ b, fp o (some hd) w b → FreeB w0 A W ρ F w false b) (hw : ∀ b, fpw o (some hd) w b → FreeB w0 A W ρ F w true b) :
    ∃ ρ', ext ρ ρ' ∧ (∀ i, i ≠ id → ρ' i = ρ i) ∧ ρ' id = some hd ∧ HR w0 A W (fun i => U i ∧ i ≠ id) ρ' (upd F [(id, o)]) w := by
  have hF := H.dead_of hid
  obtain ⟨ρ', h1, h2, h3, h4⟩ := H.bindId hd hid
  refine ⟨ρ', h1, h2, h3, h4.put id o hF hc (by rw [h3]; exact ho _ h1) (fun b hb => ?_) (fun b hb => ?_)⟩
  · rw [h3] at hb; exact (hr b hb).bind hF h2
  · rw [h3] at hb; exact (hw b hb).bind hF h2

/-! ### Values that lie beside each other -/
def RawRel (own : Bool) (sz n : Nat) (vs : List Value) (hd : Value) (w : World) : Prop :=
  ∃ a cap, hd = .slice a n cap ∧ n ≤ cap ∧ vs.length = n * sz ∧ match a with
    | none => n = 0 ∧ cap = 0
    | some ad => ad.spot = none ∧ ∃ cs el fz, w.heap[ad.block]? = some (.cells cs el fz) ∧ (cs.toList.drop ad.off).take (n * sz) = vs ∧
        (own = true → ad.off = 0 ∧ cs.size = cap * sz ∧ ∀ o, o < cs.size → ¬ (fz.1 ≤ o ∧ o < fz.2))
theorem RawRel.inn {own : Bool} {n : Nat} {vs : List Value} {hd : Value} (h : RawRel own 1 n vs hd w) : inn hd w = vs := by
  obtain ⟨a, cap, rfl, _, hl, hr⟩ := h
  rw [Nat.mul_one] at hl
  cases a with
  | none =>
    obtain ⟨rfl, _⟩ := hr
    have : vs = [] := List.eq_nil_of_length_eq_zero hl
    subst this
    rfl
  | some ad =>
    obtain ⟨_, cs, el, fz, hh, hc, _⟩ := hr
    rw [Nat.mul_one] at hc
    simp only [Go.Proofs.YtiaagflfiphioaaDoorS.inn, hh]
    exact hc
theorem RawRel.out {sz n : Nat} {vs : List Value} {hd : Value} (h : RawRel true sz n vs hd w) : OutRel true sz n hd w := by
  obtain ⟨a, cap, rfl, hle, hl, hr⟩ := h
  refine ⟨a, cap, rfl, hle, ?_⟩
  cases a with
  | none => exact hr
  | some ad =>
    obtain ⟨hs, cs, el, fz, hh, hc, ho⟩ := hr
    obtain ⟨h1, h2, h3⟩ := ho rfl
    refine ⟨hs, cs, el, fz, hh, ?_, fun _ => ⟨h1, h2, h3⟩⟩
    have := Nat.mul_le_mul_right sz hle
    omega
theorem OutRel.raw {own : Bool} {n : Nat} {hd : Value} (h : OutRel own 1 n hd w) : RawRel own 1 n (inn hd w) hd w := by
  obtain ⟨a, cap, rfl, hle, hr⟩ := h
  cases a with
  | none =>
    obtain ⟨rfl, rfl⟩ := hr
    exact ⟨none, 0, rfl, Nat.le_refl _, rfl, rfl, rfl⟩
  | some ad =>
    obtain ⟨hs, cs, el, fz, hh, hb, ho⟩ := hr
    have e : inn (.slice (some ad) n cap) w = (cs.toList.drop ad.off).take (n * 1) := by simp only [inn, hh, Nat.mul_one]
    refine ⟨some ad, cap, rfl, hle, ?_, hs, cs, el, fz, hh, e.symm, ho⟩
    rw [e, List.length_take, List.length_drop, Array.length_toList]
    omega
theorem RawRel.first {own : Bool} {sz n : Nat} {vs : List Value} {hd : Value} {w' : World} (h : RawRel own sz n vs hd w) (hw : w'.heap = w.heap) : (Builtin.lenOf hd).run P w' = .ok n w' ∧ (Builtin.firstCells sz n hd).run P w' = .ok vs.toArray w' := by
  obtain ⟨a, cap, rfl, hle, hl, hr⟩ := h
  refine ⟨by simp [Builtin.lenOf], ?_⟩
  cases a with
  | none =>
    obtain ⟨rfl, _⟩ := hr
    have : vs = [] := List.eq_nil_of_length_eq_zero (by simpa using hl)
    subst this
    exact run_firstCells_none _ _ _ _ _
  | some ad =>
    obtain ⟨hs, cs, el, fz, hh, hc, _⟩ := hr
    refine run_firstCells_some _ _ _ _ _ _ _ hl fun j v hv => ?_
    obtain ⟨b, o, sp⟩ := ad
    simp only at hs hh hc
    subst hs
    rw [add_lit, cell_of (by rw [hw]; exact hh)]
    rw [← hc, List.getElem?_take, List.getElem?_drop] at hv
    split at hv
    · simpa using hv
    · cases hv
/-- Appending. -/
theorem raw_append (ats : Array TypeId) (ty t u e e' : TypeId) (h0 : ats[0]? = some t) (h1 : ats[1]? = some u) (ht : P.underlying t = some (.slice e)) (hu : P.underlying u = some (.slice e')) (i : TypeInfo) (zv : Value) (hi : P.info? e = some i) (hz : i.zero = some zv)
    {sz : Nat} (hisz : i.size = sz) (hzs : zv.cells.size = sz) (hb : 0 < i.bytes) {n m : Nat} {vs us : List Value} {hx hy : Value} {own2 : Bool} (hr : RawRel true sz n vs hx w) (hr2 : RawRel own2 sz m us hy w) (hone : ∀ v ∈ us, v.oneCell' = true) (hfit : (n + m) * i.bytes < maxRow) :
    ∃ hd' w' b, (Builtin.append_ ats ty #[hx, hy]).run P w = .ok hd' w' ∧ RawRel true sz (n + m) (vs ++ us) hd' w' ∧ w.grownBy w' (some b) ∧ (∀ b', blk (some hd') = some b' → b' = b) ∧ (b = w.heap.size ∨ blk (some hx) = some b) := by
  subst hisz
  obtain ⟨hlen, hnews⟩ := hr2.first (P := P) (w' := w) rfl
  obtain ⟨_, hnews'⟩ := hr2.first (P := P) (w' := w.drew) rfl
  obtain ⟨_, holds⟩ := hr.first (P := P) (w' := w.drew) rfl
  have hl2 : us.length = m * i.size := by obtain ⟨_, _, _, _, h, _⟩ := hr2; exact h
  have hsz : sizeB P e = some i.size := by unfold sizeB; rw [hi]
  obtain ⟨p, cap, rfl, hle, hl, hp⟩ := hr
  have hlen2 : (vs ++ us).length = (n + m) * i.size := by rw [List.length_append, hl, hl2, Nat.add_mul]
  by_cases hroom : n + m ≤ cap
  · cases p with
    | none =>
      obtain ⟨rfl, rfl⟩ := hp
      have hm : m = 0 := by omega
      subst hm
      rw [run_append_room0 ats ty t u e _ h0 h1 ht hu (.inl ⟨_, rfl⟩) i.size hsz none 0 0 0 _ us hlen hnews hroom w rfl]
      exact ⟨_, w, w.heap.size, rfl, ⟨none, 0, rfl, Nat.le_refl _, hlen2, rfl, rfl⟩, grownBy_self w _, fun b' hb' => by simp [blk] at hb', .inl rfl⟩
    | some ad =>
      obtain ⟨b, of, sp⟩ := ad
      obtain ⟨hsp, cs, el, fz, hh, hc, hown⟩ := hp
      obtain ⟨hof, hcs, hfz⟩ := hown rfl
      simp only at hsp hh hc hof
      subst hsp hof
      have hmul : n * i.size + m * i.size ≤ cap * i.size := by rw [← Nat.add_mul]; exact Nat.mul_le_mul_right _ hroom
      have hfit2 : n * i.size + us.length ≤ cs.size := by rw [hl2, hcs]; exact hmul
      have hst := run_stores (P := P) (o := n * i.size) hh us hfit2 (fun q hq => hfz _ (by omega)) hone
      rw [run_append_room0 ats ty t u e _ h0 h1 ht hu (.inl ⟨_, rfl⟩) i.size hsz (some ⟨b, 0, none⟩) n cap m _ us hlen hnews hroom (w.setCells b (n * i.size) us) (by
        simp only [add_lit, Nat.zero_add]; exact hst)]
      refine ⟨_, _, b, rfl, ⟨some ⟨b, 0, none⟩, cap, rfl, hroom, hlen2, rfl, _, el, fz, setCells_heap b _ _ w cs el fz hh hfit2, ?_, fun _ => ⟨rfl, ?_, fun q hq => hfz q ?_⟩⟩, setCells_grown b _ _ _, fun b' hb' => by simp [blk] at hb'; exact hb'.symm, .inr rfl⟩
      · rw [List.drop_zero] at hc ⊢
        have hlt : (cs.toList.take (n * i.size)).length = n * i.size := by rw [hc]; exact hl
        rw [List.take_append_of_le_length (by rw [List.length_append, hlt, hl2, Nat.add_mul]; exact Nat.le_refl _), List.take_of_length_le (by rw [List.length_append, hlt, hl2, Nat.add_mul]; exact Nat.le_refl _), hc]
      · rw [put_size _ _ _ hfit2, hcs]
      · rwa [put_size _ _ _ hfit2] at hq
  · have hge := grownCap_ge w (n + m) cap e
    rw [run_append_grow0 ats ty t u e _ h0 h1 ht hu (.inl ⟨_, rfl⟩) i zv hi hz p n cap m _ vs us hlen hnews' holds (by omega) hb hfit]
    have hg := World.grownBy_alloc w.drew (.cells ((vs ++ us).toArray ++ Builtin.zeroCells zv.cells (grownCap w (n + m) cap e - (n + m))) e) (some w.heap.size)
    refine ⟨_, _, w.heap.size, rfl, ⟨some ⟨w.heap.size, 0, none⟩, _, rfl, hge, hlen2, rfl, _, e, (0, 0), heap_alloc_new w.drew _, ?_, fun _ => ⟨rfl, ?_, fun q hq => by omega⟩⟩, ⟨hg.os, hg.tape, hg.output, hg.size, hg.block⟩, fun b' hb' => by simp [blk] at hb'; exact hb'.symm, .inl rfl⟩
    · rw [List.drop_zero, Array.toList_append, List.take_append_of_le_length (by simp only [List.size_toArray, Array.length_toList]; omega), List.take_of_length_le (by simp only [List.size_toArray, Array.length_toList]; omega)]
    · rw [Array.size_append, List.size_toArray, hlen2, size_zeroCells, hzs, ← Nat.add_mul]
      congr 1
      omega

/-- Inner rows, by their values. -/
def RowsRel (own : Bool) (s : Sh) (xss : List (List s.T)) (vs : List Value) (w : World) : Prop :=
  (∀ (k : Nat) (xs : List s.T), xss[k]? = some xs → ∃ v, vs[k]? = some v ∧ RowRel own s xs v w) ∧
  (own = true → ∀ (k k' : Nat) (v v' : Value) (b : Nat), k ≠ k' → vs[k]? = some v → vs[k']? = some v' → blk (some v) = some b → blk (some v') ≠ some b)
structure Nest (own oo io : Bool) (s : Sh) (xss : List (List s.T)) (hd : Value) (w : World) : Prop where
  out : OutRel (own && oo) 1 xss.length hd w
  rows : RowsRel (own && io) s xss (inn hd w) w
  off : own = true → ∀ v ∈ inn hd w, ∀ b, blk (some v) = some b → blk (some hd) ≠ some b
theorem RawRel.len {own : Bool} {sz n : Nat} {vs : List Value} {hd : Value} (h : RawRel own sz n vs hd w) : vs.length = n * sz := by obtain ⟨_, _, _, _, h, _⟩ := h; exact h
theorem OutRel.len {own : Bool} {n : Nat} {hd : Value} (h : OutRel own 1 n hd w) : (inn hd w).length = n := by rw [h.raw.len, Nat.mul_one]
theorem nest_iff {own oo io : Bool} {s : Sh} {xss : List (List s.T)} {hd : Value} : BlobRel ρ own (.rows oo io s) xss hd w ↔ Nest own oo io s xss hd w := by
  constructor
  · rintro ⟨h1, ⟨h2, h3⟩, h4⟩
    refine ⟨h1, ⟨fun k xs hk => ?_, fun ho k k' v v' b hne hv hv' hb => h3 ho k k' v v' b hne (Nat.zero_le _) (Nat.zero_le _) rfl rfl hv hv' hb⟩, fun ho v hv b hb => ?_⟩
    · have := h2 k xs hk rfl
      rwa [Nat.zero_add] at this
    · obtain ⟨k, hk, rfl⟩ := List.mem_iff_getElem.1 hv
      exact h4 ho b ⟨k, _, List.getElem?_eq_getElem hk, rfl, hb⟩
  · rintro ⟨h1, ⟨h2, h3⟩, h4⟩
    refine ⟨h1, ⟨fun k xs hk _ => ?_, fun ho k k' v v' b hne _ _ _ _ hv hv' hb => h3 ho k k' v v' b hne hv hv' hb⟩, fun ho b hb => ?_⟩
    · rw [Nat.zero_add]
      exact h2 k xs hk
    · obtain ⟨k, v, hv, _, hb⟩ := hb
      exact h4 ho v (List.mem_of_getElem? hv) b hb
theorem inr_rows {oo io : Bool} {s : Sh} {xss : List (List s.T)} {hd : Value} {b : Nat} : inr (.rows oo io s) xss hd w b ↔ ∃ v ∈ inn hd w, blk (some v) = some b := by
  constructor
  · rintro ⟨k, v, hv, _, hb⟩
    exact ⟨v, List.mem_of_getElem? hv, hb⟩
  · rintro ⟨v, hv, hb⟩
    obtain ⟨k, hk, rfl⟩ := List.mem_iff_getElem.1 hv
    exact ⟨k, _, List.getElem?_eq_getElem hk, rfl, hb⟩
theorem fp_rows {own oo io : Bool} {s : Sh} {xss : List (List s.T)} {hd : Value} {b : Nat} : fp (.blob own (.rows oo io s) xss) (some hd) w b ↔ blk (some hd) = some b ∨ ∃ v ∈ inn hd w, blk (some v) = some b := by
  constructor
  · rintro (h | ⟨hd', e, h⟩)
    · exact .inl h
    · cases e; exact .inr (inr_rows.1 h)
  · rintro (h | h)
    · exact .inl h
    · exact .inr ⟨hd, rfl, inr_rows.2 h⟩
theorem fpw_rows {own oo io : Bool} {s : Sh} {xss : List (List s.T)} {hd : Value} {b : Nat} : fpw (.blob own (.rows oo io s) xss) (some hd) w b ↔ ((own && oo) = true ∧ blk (some hd) = some b) ∨ ((own && io) = true ∧ ∃ v ∈ inn hd w, blk (some v) = some b) := by
  constructor
  · rintro (h | ⟨ho, hd', e, h⟩)
    · exact .inl h
    · cases e; exact .inr ⟨ho, inr_rows.1 h⟩
  · rintro (h | ⟨ho, h⟩)
    · exact .inl h
    · exact .inr ⟨ho, hd, rfl, inr_rows.2 h⟩
theorem noCell_blob {own : Bool} {t : BT} {d : t.D} : NoCell (.blob own t d) := fun _ _ _ _ e => by cases e
theorem noCell_row {own : Bool} {s : Sh} {xs : List s.T} : NoCell (.row own s xs) := fun _ _ _ _ e => by cases e
theorem noCell_dead : NoCell .dead := fun _ _ _ _ e => by cases e
theorem RowsRel.weak {own own' : Bool} {s : Sh} {xss : List (List s.T)} {vs : List Value} (h : RowsRel own s xss vs w) (ho : own' = true → own = true) : RowsRel own' s xss vs w :=
  ⟨fun k xs hk => by obtain ⟨v, hv, hr⟩ := h.1 k xs hk; exact ⟨v, hv, hr.weak ho⟩, fun e => h.2 (ho e)⟩
theorem RowsRel.kept {own : Bool} {s : Sh} {xss : List (List s.T)} {vs : List Value} {w' : World} (h : RowsRel own s xss vs w) (hb : ∀ v ∈ vs, ∀ b, blk (some v) = some b → w'.heap[b]? = w.heap[b]?) : RowsRel own s xss vs w' :=
  ⟨fun k xs hk => by obtain ⟨v, hv, hr⟩ := h.1 k xs hk; exact ⟨v, hv, hr.kept fun b e => hb v (List.mem_of_getElem? hv) b e⟩, h.2⟩
theorem RowsRel.append {own : Bool} {s : Sh} {xss yss : List (List s.T)} {vs us : List Value} (h1 : RowsRel own s xss vs w) (h2 : RowsRel own s yss us w) (hl : vs.length = xss.length)
    (hd : own = true → ∀ v ∈ vs, ∀ u ∈ us, ∀ b, blk (some v) = some b → blk (some u) ≠ some b) : RowsRel own s (xss ++ yss) (vs ++ us) w := by
  refine ⟨fun k xs hk => ?_, fun ho k k' v v' b hne hv hv' hb hb' => ?_⟩
  · by_cases h : k < xss.length
    · rw [List.getElem?_append_left h] at hk
      obtain ⟨v, hv, hr⟩ := h1.1 k xs hk
      exact ⟨v, by rw [List.getElem?_append_left (by omega)]; exact hv, hr⟩
    · rw [List.getElem?_append_right (by omega)] at hk
      obtain ⟨v, hv, hr⟩ := h2.1 _ xs hk
      exact ⟨v, by rw [List.getElem?_append_right (by omega), hl]; exact hv, hr⟩
  · by_cases h : k < vs.length
    · rw [List.getElem?_append_left h] at hv
      by_cases h' : k' < vs.length
      · rw [List.getElem?_append_left h'] at hv'
        exact h1.2 ho k k' v v' b hne hv hv' hb hb'
      · rw [List.getElem?_append_right (by omega)] at hv'
        exact hd ho v (List.mem_of_getElem? hv) v' (List.mem_of_getElem? hv') b hb hb'
    · rw [List.getElem?_append_right (by omega)] at hv
      by_cases h' : k' < vs.length
      · rw [List.getElem?_append_left h'] at hv'
        exact hd ho v' (List.mem_of_getElem? hv') v (List.mem_of_getElem? hv) b hb' hb
      · rw [List.getElem?_append_right (by omega)] at hv'
        exact h2.2 ho _ _ v v' b (by omega) hv hv' hb hb'
/-- What lies at an object's number turns. -/
theorem HR.re (H : HR w0 A W U ρ F w) (i : Nat) (o : AObj) (hi : NoCell (F i)) (hc : NoCell o) (ho : ORel ρ w o (ρ i)) (hf : ∀ b, fp o (ρ i) w b → fp (F i) (ρ i) w b) (hfw : ∀ b, fpw o (ρ i) w b → fpw (F i) (ρ i) w b) :
    HR w0 A W U ρ (upd F [(i, o)]) w := by
  have := (H.kill i).put i o (upd_self _ _ _) hc ho (fun b hb => H.freed hi false (hf b hb) (fun e => by cases e)) (fun b hb => H.freed hi true (hf b (fpw_fp hb)) (fun _ => hfw b hb))
  rwa [upd_twice] at this
theorem RawRel.cell {own : Bool} {sz n cap b o : Nat} {vs : List Value} (h : RawRel own sz n vs (.slice (some ⟨b, o, none⟩) n cap) w) {k : Nat} {v : Value} (hv : vs[k]? = some v) : w.cell? ⟨b, o + k, none⟩ = some v := by
  obtain ⟨p, c, e, _, hl, hr⟩ := h
  cases e
  obtain ⟨_, cs, el, fz, hh, hc, _⟩ := hr
  simp only at hh hc
  rw [cell_of hh]
  rw [← hc, List.getElem?_take, List.getElem?_drop] at hv
  split at hv
  · simpa using hv
  · cases hv
theorem RowRel.shape {own : Bool} {s : Sh} {xs : List s.T} {v : Value} (h : RowRel own s xs v w) : ∃ p n c, v = .slice p n c := by
  obtain ⟨p, c, e, _⟩ := h
  exact ⟨p, _, c, e⟩
/-- A look at an inner row. -/
theorem nest_look (H : HR w0 A W U ρ F w) {i : Nat} {o oo io : Bool} {s : Sh} {xss : List (List s.T)} (hF : F i = .blob o (.rows oo io s) xss) {hd : Value} (hρ : ρ i = some hd) (hio : (o && io) = false) (hid : U id) {v : Value} {xs : List s.T} (hv : v ∈ inn hd w) (hr : RowRel false s xs v w) :
    ∃ ρ', ext ρ ρ' ∧ (∀ i, i ≠ id → ρ' i = ρ i) ∧ HR w0 A W (fun i => U i ∧ i ≠ id) ρ' (upd F [(id, .row false s xs)]) w ∧ CRel ρ' (.slc id) v := by
  have hob := H.obj i
  rw [hF, hρ] at hob
  obtain ⟨hd', e, hob⟩ := hob
  cases e
  have N := nest_iff.1 hob
  obtain ⟨ρ', h1, h2, h3, h4⟩ := H.newObj id (.row false s xs) v hid noCell_row (fun ρ' hx => ⟨v, rfl, hr⟩) (fun b hb => by
    have hb : blk (some v) = some b := hb
    refine H.shared (i := i) (by rw [hF]; exact noCell_blob) (by rw [hF, hρ]; exact fp_rows.2 (.inr ⟨v, hv, hb⟩)) fun q => ?_
    rw [hF, hρ] at q
    rcases fpw_rows.1 q with ⟨q1, q2⟩ | ⟨q1, _⟩
    · rw [Bool.and_eq_true] at q1
      exact N.off q1.1 v hv b hb q2
    · rw [hio] at q1; cases q1) (fun b hb => by simp [fpw, AObj.own] at hb)
  exact ⟨ρ', h1, h2, h4, h3, hr.shape⟩
theorem look_rows {o : Oper} {t : TypeId} {x : Operand} (ho : o.op = .load t x) (S : Sim w0 A W nt sh U ρ tm F a w) (hid : U id) {i j b o' len cap : Nat} {own oo io : Bool} {s : Sh} {xss : List (List s.T)} (hF' : F i = .blob own (.rows oo io s) xss)
    (hρ : ρ i = some (.slice (some ⟨b, o', none⟩) len cap)) (hj : j < len) (hv : a.eval x = .pointer (some ⟨b, o' + (j * 1 + 0), none⟩)) (hl : loadB P t = some (1, false)) :
    Out w0 A W U ρ F id 1 (.c (.slc id)) ((if (own && io) = true then [(i, .blob true (.rows oo false s) xss)] else []) ++ [(id, .row false s (xss.getD j []))]) ((execOp a.eval o).run P w) := by
  have hobj := S.obj i
  rw [hρ, hF'] at hobj
  obtain ⟨hd, e, hob⟩ := hobj
  cases e
  have N := nest_iff.1 hob
  have hlen : len = xss.length := by obtain ⟨p, c, e, _⟩ := N.out; cases e; rfl
  subst hlen
  obtain ⟨xs, hxs⟩ : ∃ xs, xss[j]? = some xs := ⟨xss[j], by simp [hj]⟩
  obtain ⟨y, hy, hr⟩ := N.rows.1 j xs hxs
  have hg : xss.getD j [] = xs := by rw [List.getD_eq_getElem?_getD, hxs]; rfl
  rw [hg]
  have hcell := N.out.raw.cell hy
  simp only [Nat.mul_one, Nat.add_zero] at hv
  obtain ⟨z, hz, hzz⟩ := run_loadVar hl w b (o' + j) [y] rfl (fun k q hq => by
    cases k with
    | zero => simp at hq; subst hq; simpa using hcell
    | succ k => simp at hq)
  have hzz : [y] = [z] := hzz
  cases hzz
  have hrun : (execOp a.eval o).run P w = .ok (.value y) w := by simp [execOp, ho, hv, Instr.loadAt, Instr.sureAddr, hz]
  have hx1 : ∃ o1 io1, (o1 && io1) = false ∧ upd F (if (own && io) = true then [(i, .blob true (.rows oo false s) xss)] else []) i = .blob o1 (.rows oo io1 s) xss ∧ HR w0 A W U ρ (upd F (if (own && io) = true then [(i, .blob true (.rows oo false s) xss)] else [])) w := by
    cases hoi : (own && io) with
    | false => exact ⟨own, io, hoi, hF', S.toHR⟩
    | true =>
      rw [Bool.and_eq_true] at hoi
      obtain ⟨rfl, rfl⟩ := hoi
      refine ⟨true, false, rfl, upd_self _ _ _, S.toHR.re i _ (by rw [hF']; exact noCell_blob) noCell_blob ⟨_, hρ, nest_iff.2 ⟨N.out, N.rows.weak (fun e => by cases e), N.off⟩⟩ (fun b' hb' => ?_) (fun b' hb' => ?_)⟩
      · rw [hρ] at hb'; rw [hF', hρ]; exact fp_rows.2 (fp_rows.1 hb')
      · rw [hρ] at hb'; rw [hF', hρ]
        rcases fpw_rows.1 hb' with q | ⟨q, _⟩
        · exact fpw_rows.2 (.inl q)
        · cases q
  obtain ⟨o1, io1, hoi, hF1, H1⟩ := hx1
  obtain ⟨ρ', g1, g2, g3, g4⟩ := nest_look H1 hF1 hρ hoi hid (List.mem_of_getElem? hy) (hr.weak (fun e => by cases e))
  refine ⟨w, ρ', ⟨_, .inl hrun, g4⟩, g1, fun k hk => g2 k (by omega), ?_⟩
  rw [upd_append]
  exact g3.weak fun k hk => ⟨hk.1, by omega⟩
theorem load_recs {o : Oper} {t : TypeId} {x : Operand} (ho : o.op = .load t x) (S : Sim w0 A W nt sh U ρ tm F a w) {i j b o' len cap n off : Nat} {ag own : Bool} {cs : List (Option Sh)} {d : List (RecT cs)} (hF' : F i = .blob own (.recs cs) d)
    (hρ : ρ i = some (.slice (some ⟨b, o', none⟩) len cap)) (hj : j < len) (hv : a.eval x = .pointer (some ⟨b, o' + (j * cs.length + off), none⟩)) (hl : loadB P t = some (n, ag)) (hoff : off + n ≤ cs.length) :
    Out w0 A W U ρ F id cnt (AVal.of ag (((recCells cs (d.getD j (recDft cs))).drop off).take n)) [] ((execOp a.eval o).run P w) := by
  have hobj := S.obj i
  rw [hρ, hF'] at hobj
  obtain ⟨hd, e, p, cap', e2, hle, hp⟩ := hobj
  cases e
  cases e2
  obtain ⟨_, vs, el, fz, hh, hrec, _⟩ := hp
  simp only at hh hrec
  obtain ⟨r1, r2, r3⟩ := RecRel.at hrec j hj
  have hlen1 : ((((vs.toList.drop o').take (List.length d * cs.length)).drop (j * cs.length)).take cs.length).length = cs.length := by
    rw [List.length_take, List.length_drop]
    rw [Nat.succ_mul] at r3
    omega
  have hlen : ((((((vs.toList.drop o').take (List.length d * cs.length)).drop (j * cs.length)).take cs.length).drop off).take n).length = n := by
    rw [List.length_take, List.length_drop, hlen1]; omega
  obtain ⟨y, hy, hyy⟩ := run_loadVar hl w b (o' + (j * cs.length + off)) _ hlen (fun k q hq => by
    have hk : k < n := by rw [← hlen]; exact (List.getElem?_eq_some_iff.1 hq).1
    rw [List.getElem?_take, if_pos hk, List.getElem?_drop, List.getElem?_take, if_pos (by omega), List.getElem?_drop, List.getElem?_take] at hq
    split at hq
    · rw [List.getElem?_drop] at hq
      rw [cell_of hh, show o' + (j * cs.length + off) + k = o' + (j * cs.length + (off + k)) by omega]
      simpa using hq
    · cases hq)
  exact Out.pure S (x := y) (by simp [execOp, ho, hv, Instr.loadAt, Instr.sureAddr, hy]) (VRel.of_load ((r1.drop off).take n) hyy)
theorem nest_load {o : Oper} {t : TypeId} {x : Operand} (ho : o.op = .load t x) {v : AVal} {u : List (Nat × AObj)} (S : Sim w0 A W nt sh U ρ tm F a w) (hs : Sub F0 F) (hid : ∀ i, id ≤ i → i < id + cntO P o.op → U i) (h : Gives (nestEff P o.op tm F0 id) v u) : Out w0 A W U ρ F id (cntO P o.op) v u ((execOp a.eval o).run P w) := by
  have hcn : cntO P o.op = if sliceT P t then 1 else 0 := by rw [ho]; rfl
  rw [ho] at h
  simp only [nestEff] at h
  split at h
  rotate_left
  exact h.fail.elim
  rename_i n ag i j sz off hl hx
  have hxr := ev_rel S x
  rw [hx] at hxr
  obtain ⟨b, o', len, cap, hρ, hj, hv⟩ := hxr
  split at h
  · rename_i own oo io s xss hF
    split at h
    rotate_left
    exact h.fail.elim
    rename_i hc
    simp only [Bool.and_eq_true, beq_iff_eq, Bool.not_eq_true'] at hc
    obtain ⟨⟨⟨⟨rfl, rfl⟩, rfl⟩, rfl⟩, hst⟩ := hc
    rw [hst, if_pos rfl] at hcn
    rw [hcn] at hid ⊢
    obtain ⟨rfl, rfl⟩ := h.val
    exact look_rows ho S (hid id (Nat.le_refl _) (by omega)) (hs.blob hF) hρ hj hv hl
  · rename_i own cs d hF
    split at h
    rotate_left
    exact h.fail.elim
    rename_i hc
    simp only [Bool.and_eq_true, beq_iff_eq, decide_eq_true_eq] at hc
    obtain ⟨rfl, hoff⟩ := hc
    obtain ⟨rfl, rfl⟩ := h.val
    exact load_recs ho S (hs.blob hF) hρ hj hv hl hoff
  · exact h.fail.elim

theorem newNest (H : HR w0 A W U ρ F w) (hid : U id) {oo io : Bool} {s : Sh} {xss : List (List s.T)} {hd : Value} (N : Nest true oo io s xss hd w)
    (ho : ∀ b, blk (some hd) = some b → FreeB w0 A W ρ F w oo b) (hi : ∀ v ∈ inn hd w, ∀ b, blk (some v) = some b → FreeB w0 A W ρ F w io b) :
    ∃ ρ', ext ρ ρ' ∧ (∀ i, i ≠ id → ρ' i = ρ i) ∧ HR w0 A W (fun i => U i ∧ i ≠ id) ρ' (upd F [(id, .blob true (.rows oo io s) xss)]) w ∧ CRel ρ' (.mp id) hd := by
  obtain ⟨ρ', h1, h2, h3, h4⟩ := H.newObj id (.blob true (.rows oo io s) xss) hd hid noCell_blob (fun ρ' _ => ⟨hd, rfl, nest_iff.2 N⟩) (fun b hb => by
    rcases fp_rows.1 hb with h | ⟨v, hv, h⟩
    · exact (ho b h).weak (fun e => by cases e)
    · exact (hi v hv b h).weak (fun e => by cases e)) (fun b hb => by
    rcases fpw_rows.1 hb with ⟨q, h⟩ | ⟨q, v, hv, h⟩
    · exact (ho b h).weak (fun _ => by simpa using q)
    · exact (hi v hv b h).weak (fun _ => by simpa using q))
  obtain ⟨p, c, e, _⟩ := N.out
  exact ⟨ρ', h1, h2, h4, h3, .inr ⟨p, _, c, e⟩⟩
theorem putNest (H : HR w0 A W U ρ F w) (i : Nat) (hF : F i = .dead) {oo io : Bool} {s : Sh} {xss : List (List s.T)} {hd : Value} (hρ : ρ i = some hd) (N : Nest true oo io s xss hd w)
    (ho : ∀ b, blk (some hd) = some b → FreeB w0 A W ρ F w oo b) (hi : ∀ v ∈ inn hd w, ∀ b, blk (some v) = some b → FreeB w0 A W ρ F w io b) :
    HR w0 A W U ρ (upd F [(i, .blob true (.rows oo io s) xss)]) w := by
  refine H.put i _ hF noCell_blob ⟨hd, hρ, nest_iff.2 N⟩ (fun b hb => ?_) (fun b hb => ?_)
  · rw [hρ] at hb
    rcases fp_rows.1 hb with h | ⟨v, hv, h⟩
    · exact (ho b h).weak (fun e => by cases e)
    · exact (hi v hv b h).weak (fun e => by cases e)
  · rw [hρ] at hb
    rcases fpw_rows.1 hb with ⟨q, h⟩ | ⟨q, v, hv, h⟩
    · exact (ho b h).weak (fun _ => by simpa using q)
    · exact (hi v hv b h).weak (fun _ => by simpa using q)
/-- A literal's cells. -/
theorem fill_run (sz : Nat) : ∀ (ps : List (Nat × Value)) (k : Nat) (cs : Array Value), ps.map (·.1) = List.range' k ps.length → (∀ p ∈ ps, p.2.cells.size = sz) → cs.size = (k + ps.length) * sz →
    ∃ cs', Instr.fill (fun i => some (i * sz, sz)) cs ps = some cs' ∧ cs'.toList = cs.toList.take (k * sz) ++ ps.flatMap (fun p => p.2.cells.toList)
  | [], k, cs, _, _, hl => ⟨cs, rfl, by
      rw [List.flatMap_nil, List.append_nil, List.take_of_length_le (by rw [Array.length_toList, hl]; simp)]⟩
  | (j, v) :: ps, k, cs, hj, hv, hl => by
    simp only [List.map_cons, List.length_cons, List.range'_succ, List.cons.injEq] at hj
    obtain ⟨rfl, hj⟩ := hj
    have hvs := hv (j, v) (by simp)
    simp only at hvs
    simp only [List.length_cons] at hl
    have hle : j * sz + sz ≤ cs.size := by
      have : (j + 1) * sz ≤ (j + (ps.length + 1)) * sz := Nat.mul_le_mul_right _ (by omega)
      rw [Nat.succ_mul] at this
      omega
    have hcs := set_fold v.cells.toList (j * sz) 0 cs (by rw [Array.length_toList, hvs]; omega)
    have hlt : (cs.toList.take (j * sz)).length = j * sz := by rw [List.length_take, Array.length_toList]; omega
    have hn : (v.cells.zipIdx.foldl (fun cs (x : Value × Nat) => cs.setIfInBounds (j * sz + x.2) x.1) cs).toList = cs.toList.take (j * sz) ++ v.cells.toList ++ cs.toList.drop (j * sz + sz) := by
      rw [← Array.foldl_toList, Array.toList_zipIdx, hcs, Array.length_toList, hvs, Nat.add_zero]
    have hsize : (v.cells.zipIdx.foldl (fun cs (x : Value × Nat) => cs.setIfInBounds (j * sz + x.2) x.1) cs).size = (j + 1 + ps.length) * sz := by
      rw [← Array.length_toList, hn]
      simp only [List.length_append, hlt, Array.length_toList, hvs, List.length_drop, hl]
      rw [show j + 1 + ps.length = j + (ps.length + 1) by omega]
      omega
    obtain ⟨cs', h1, h2⟩ := fill_run sz ps (j + 1) _ hj (fun p hp => hv p (by simp [hp])) hsize
    refine ⟨cs', ?_, ?_⟩
    · simp only [Instr.fill]
      rw [if_neg]
      · exact h1
      · simp [hvs]; omega
    · rw [h2, hn, List.flatMap_cons]
      have : (cs.toList.take (j * sz) ++ v.cells.toList ++ cs.toList.drop (j * sz + sz)).take ((j + 1) * sz) = cs.toList.take (j * sz) ++ v.cells.toList := by
        rw [List.take_append_of_le_length (by rw [List.length_append, hlt, Array.length_toList, hvs, Nat.succ_mul]; exact Nat.le_refl _), List.take_of_length_le (by rw [List.length_append, hlt, Array.length_toList, hvs, Nat.succ_mul]; exact Nat.le_refl _)]
      rw [this, List.append_assoc]
theorem zlen_parts {e : TypeId} {sz : Nat} (h : zlenB P e = some sz) : ∃ i z, P.info? e = some i ∧ i.zero = some z ∧ z.cells.size = sz := by
  unfold zlenB at h
  cases hz : zeroB P e with
  | none => rw [hz] at h; cases h
  | some z =>
    rw [hz] at h
    obtain ⟨i, v, h1, h2, h3⟩ := zeroB_parts hz
    refine ⟨i, v, h1, h2, ?_⟩
    have h4 : z.length = v.cells.toList.length := (ofVals_rel (ρ := fun _ => none) h3).length
    have h5 : z.length = sz := Option.some.inj h
    have h6 : v.cells.toList.length = v.cells.size := Array.length_toList
    omega
theorem run_lit {o : Oper} {t e : TypeId} {len sz : Nat} {parts : Array (Nat × Operand)} (ho : o.op = .buildSlice t len parts) (hu : P.underlying t = some (.slice e)) (hsz : sizeB P e = some sz) (hz : zlenB P e = some sz) (hmax : len * sz ≤ 16777216) (hps : parts.size = len)
    (hi : parts.toList.map (·.1) = List.range' 0 parts.toList.length) (hc : ∀ p ∈ parts.toList, (a.eval p.2).cells.size = sz) :
    ∃ cs', (execOp a.eval o).run P w = .ok (.value (.slice (some ⟨w.heap.size, 0, none⟩) len len)) (w.alloc (.cells cs' e)) ∧ cs'.toList = parts.toList.flatMap (fun p => (a.eval p.2).cells.toList) ∧ cs'.size = len * sz := by
  obtain ⟨i, zv, hinf, hzv, hzs⟩ := zlen_parts hz
  have hpl : parts.toList.length = len := by rw [Array.length_toList, hps]
  obtain ⟨cs', h1, h2⟩ := fill_run sz (parts.toList.map fun (x : Nat × Operand) => (x.1, a.eval x.2)) 0 ((Array.range (len * sz)).map ((if len * sz = 0 then #[] else zv.cells)[· % (if len * sz = 0 then #[] else zv.cells).size]!)) (by
    rw [List.map_map, List.length_map]; exact hi) (fun p hp => by
    obtain ⟨q, hq, rfl⟩ := List.mem_map.1 hp
    exact hc q hq) (by simp [hps])
  rw [Nat.zero_mul, List.take_zero, List.nil_append, List.flatMap_map] at h2
  have hsize : cs'.size = len * sz := by
    rw [← Array.length_toList, h2, ← hpl]
    generalize parts.toList = l at hc
    induction l with
    | nil => simp
    | cons p l ih =>
      rw [List.flatMap_cons, List.length_append, ih (fun q hq => hc q (by simp [hq])), Array.length_toList, hc p (by simp), List.length_cons, Nat.succ_mul, Nat.add_comm]
  refine ⟨cs', ?_, h2, hsize⟩
  have hnb : ¬ (16777216 < len * sz) := by omega
  simp only [execOp, ho, Instr.buildSlice, Sem.run_bind, underlying, run_program, hu, Result.andThen_ok, Sem.run_pure, run_sizeOf hsz, Array.toList_map]
  rw [show (2 : Nat) ^ 24 = 16777216 from rfl, if_neg hnb]
  by_cases h0 : len * sz = 0
  · simp only [if_pos h0] at h1
    rw [if_pos h0]
    simp only [Sem.run_bind, Result.andThen_ok, Sem.run_pure, h1, newRow, run_newObj, World.alloc_eq]
  · simp only [if_neg h0] at h1
    rw [if_neg h0]
    simp only [Sem.run_bind, run_zero hinf hzv, Result.andThen_ok, Sem.run_pure, h1, newRow, run_newObj, World.alloc_eq]

/-- What becomes of the inner rows. -/
theorem innerUps_out (s : Sh) (b : Bool) : ∀ (l : List (Nat × Bool × List s.T)) (F : Nat → AObj) (j : Nat), j ∉ l.map (·.1) → upd F (innerUps s b l) j = F j
  | [], _, _, _ => rfl
  | (i, o, ys) :: l, F, j, h => by
    simp only [List.map_cons, List.mem_cons, not_or] at h
    simp only [innerUps]
    rw [upd_append, innerUps_out s b l _ j h.2]
    cases o with
    | true => exact upd_ne F _ h.1
    | false => rfl
theorem innerUps_HR (s : Sh) (b : Bool) : ∀ (l : List (Nat × Bool × List s.T)) (F : Nat → AObj), HR w0 A W U ρ F w → (∀ x ∈ l, F x.1 = .row x.2.1 s x.2.2) → (l.map (·.1)).Nodup →
    HR w0 A W U ρ (upd F (innerUps s b l)) w ∧ ∀ x ∈ l, upd F (innerUps s b l) x.1 = if x.2.1 = true then (if b = true then .dead else .row false s x.2.2) else .row false s x.2.2
  | [], F, H, _, _ => ⟨H, fun x hx => by simp at hx⟩
  | (i, o, ys) :: l, F, H, hF, hn => by
    simp only [List.map_cons, List.nodup_cons] at hn
    have hFi := hF (i, o, ys) (by simp)
    simp only at hFi
    have hob := H.obj i
    rw [hFi] at hob
    simp only [innerUps]
    have H1 : HR w0 A W U ρ (upd F (if o = true then [(i, if b = true then AObj.dead else AObj.row false s ys)] else [])) w := by
      cases o with
      | false => exact H
      | true =>
        cases b with
        | true => exact H.kill i
        | false => exact (H.unown hFi).1
    have hout : ∀ j, j ≠ i → upd F (if o = true then [(i, if b = true then AObj.dead else AObj.row false s ys)] else []) j = F j := fun j hj => by
      cases o with
      | false => rfl
      | true => exact upd_ne F _ hj
    have hat : upd F (if o = true then [(i, if b = true then AObj.dead else AObj.row false s ys)] else []) i = if o = true then (if b = true then .dead else .row false s ys) else .row false s ys := by
      cases o with
      | false => exact hFi
      | true => exact upd_self _ _ _
    obtain ⟨h1, h2⟩ := innerUps_HR s b l _ H1 (fun x hx => by
      rw [hout x.1 (fun e => hn.1 (by rw [← e]; exact List.mem_map_of_mem hx))]
      exact hF x (by simp [hx])) hn.2
    rw [upd_append]
    refine ⟨h1, fun x hx => ?_⟩
    rcases List.mem_cons.1 hx with rfl | hx
    · rw [innerUps_out s b l _ _ hn.1]
      exact hat
    · exact h2 x hx
/-- The rows of a literal. -/
theorem innerL_sound (S : Sim w0 A W nt sh U ρ tm F a w) (hs : Sub F0 F) (s : Sh) : ∀ (ps : List (Nat × Operand)) (k : Nat) (yss : List (List s.T)) (b : Bool) (l : List (Nat × Bool × List s.T)), innerL s F0 k (ps.map fun (i, x) => (i, ev tm x)) = some (yss, b, l) →
    ps.map (·.1) = List.range' k ps.length ∧ yss.length = ps.length ∧ RowsRel b s yss (ps.map fun p => a.eval p.2) w ∧ (∀ p ∈ ps, (a.eval p.2).cells = #[a.eval p.2]) ∧
    (∀ p ∈ ps, ∀ b', blk (some (a.eval p.2)) = some b' → ∃ x ∈ l, ρ x.1 = some (a.eval p.2)) ∧ (∀ x ∈ l, F x.1 = .row x.2.1 s x.2.2) ∧ (l.map (·.1)).Nodup ∧ (b = true → ∀ x ∈ l, x.2.1 = true)
  | [], k, yss, b, l, h => by
    simp only [List.map_nil, innerL] at h
    cases h
    exact ⟨rfl, rfl, ⟨fun k xs h => by simp at h, fun _ k k' v v' b' _ h => by simp at h⟩, fun p hp => by simp at hp, fun p hp => by simp at hp, fun x hx => by simp at hx, by simp, fun _ x hx => by simp at hx⟩
  | (j, x) :: ps, k, yss, b, l, h => by
    simp only [List.map_cons, innerL] at h
    split at h
    rotate_left
    cases h
    rename_i hj
    have hj : j = k := by simpa using hj
    subst hj
    split at h
    · rename_i ys o i yss' b' l' h1 h2
      split at h <;> cases h
      rename_i hall
      obtain ⟨r1, r2, r3, r4, r5, r6, r7, r8⟩ := innerL_sound S hs s ps (j + 1) _ _ _ h2
      have hx : ∃ s' ys', ev tm x = .c (.slc i) ∧ F0 i = .row o s' ys' ∧ castRow s s' ys' = some ys := by
        unfold innerR at h1
        split at h1
        · cases h1
        · split at h1 <;> try cases h1
          split at h1 <;> cases h1
          exact ⟨_, _, by assumption, by assumption, by assumption⟩
        · cases h1
      obtain ⟨s', ys', hev, hF, hc⟩ := hx
      obtain ⟨rfl, hc⟩ := castRow_eq hc
      cases hc
      have hF' := hs.row hF
      obtain ⟨p, c, e1, hr, hρ⟩ := row_of S hs hev hF
      have hni : i ∉ l'.map (·.1) := fun hm => by
        obtain ⟨y, hy, e⟩ := List.mem_map.1 hm
        have := List.all_eq_true.1 hall y hy
        rw [e] at this
        simp at this
      have hρ' : ρ i = some (a.eval x) := by rw [hρ, e1]
      refine ⟨?_, by simp [r2], ?_, ?_, ?_, ?_, ?_, ?_⟩
      · simp only [List.map_cons, List.length_cons, List.range'_succ]
        rw [r1]
      · have : RowsRel (o && b') s' (ys' :: yss') (a.eval x :: ps.map fun p => a.eval p.2) w := by
          refine RowsRel.append (xss := [ys']) (vs := [a.eval x]) ⟨fun k xs hk => ?_, fun _ k k' v v' b1 hne hv hv' => ?_⟩ (r3.weak (fun e => by rw [Bool.and_eq_true] at e; exact e.2)) rfl (fun ho v hv u hu b1 hb hb' => ?_)
          · cases k with
            | zero =>
              simp at hk
              subst hk
              exact ⟨_, rfl, by rw [e1]; exact hr.weak (fun e => by rw [Bool.and_eq_true] at e; exact e.1)⟩
            | succ k => simp at hk
          · cases k <;> cases k' <;> simp at hv hv' hne
          · rw [Bool.and_eq_true] at ho
            obtain ⟨rfl, rfl⟩ := ho
            have hv : v = a.eval x := by simpa using hv
            subst hv
            obtain ⟨q, hq, rfl⟩ := List.mem_map.1 hu
            obtain ⟨y, hy, hρy⟩ := r5 q hq b1 hb'
            have hFy := r6 y hy
            have hyi : i ≠ y.1 := fun e => hni (by rw [e]; exact List.mem_map_of_mem hy)
            refine S.toHR.only (i := i) (by rw [hF']; exact noCell_row) (b := b1) (by rw [hF', hρ']; exact ⟨rfl, hb⟩) y.1 (Ne.symm hyi) ?_
            rw [hFy, hρy]
            exact hb'
        exact this
      · intro q hq
        rcases List.mem_cons.1 hq with rfl | hq
        · simp only; rw [e1]; rfl
        · exact r4 q hq
      · intro q hq b1 hb
        rcases List.mem_cons.1 hq with rfl | hq
        · exact ⟨(i, o, ys'), by simp, hρ'⟩
        · obtain ⟨y, hy, e⟩ := r5 q hq b1 hb
          exact ⟨y, by simp [hy], e⟩
      · intro y hy
        rcases List.mem_cons.1 hy with rfl | hy
        · exact hF'
        · exact r6 y hy
      · simp only [List.map_cons, List.nodup_cons]
        exact ⟨hni, r7⟩
      · intro hb y hy
        rw [Bool.and_eq_true] at hb
        rcases List.mem_cons.1 hy with rfl | hy
        · exact hb.1
        · exact r8 hb.2 y hy
    · rename_i ys o yss' b' l' h1 h2
      cases h
      obtain ⟨r1, r2, r3, r4, r5, r6, r7, r8⟩ := innerL_sound S hs s ps (j + 1) _ _ _ h2
      have hx : ev tm x = .c .nils ∧ ys = [] := by
        unfold innerR at h1
        split at h1
        · cases h1; exact ⟨by assumption, rfl⟩
        · split at h1 <;> try cases h1
          split at h1 <;> cases h1
        · cases h1
      obtain ⟨hev, rfl⟩ := hx
      have hxr := ev_rel S x
      rw [hev] at hxr
      have hxr : a.eval x = .slice none 0 0 := hxr
      refine ⟨?_, by simp [r2], ?_, ?_, ?_, r6, r7, r8⟩
      · simp only [List.map_cons, List.length_cons, List.range'_succ]
        rw [r1]
      · refine RowsRel.append (xss := [[]]) (vs := [a.eval x]) ⟨fun k xs hk => ?_, fun _ k k' v v' b1 hne hv hv' => ?_⟩ r3 rfl (fun ho v hv u hu b1 hb hb' => ?_)
        · cases k with
          | zero =>
            simp at hk
            subst hk
            exact ⟨_, rfl, by rw [hxr]; exact ⟨none, 0, rfl, Nat.le_refl _, rfl, rfl⟩⟩
          | succ k => simp at hk
        · cases k <;> cases k' <;> simp at hv hv' hne
        · have hv : v = a.eval x := by simpa using hv
          subst hv
          rw [hxr] at hb
          simp [blk] at hb
      · intro q hq
        rcases List.mem_cons.1 hq with rfl | hq
        · simp only; rw [hxr]; rfl
        · exact r4 q hq
      · intro q hq b1 hb
        rcases List.mem_cons.1 hq with rfl | hq
        · simp only at hb; rw [hxr] at hb; simp [blk] at hb
        · exact r5 q hq b1 hb
    · cases h
/-- A literal's rows are free behind it. -/
theorem inner_free (H : HR w0 A W U ρ F w) (s : Sh) (b : Bool) (l : List (Nat × Bool × List s.T)) (hF : ∀ x ∈ l, F x.1 = .row x.2.1 s x.2.2) (hn : (l.map (·.1)).Nodup) (hb : b = true → ∀ x ∈ l, x.2.1 = true) {x : Nat × Bool × List s.T} (hx : x ∈ l) {v : Value} (hρ : ρ x.1 = some v) {b' : Nat} (hv : blk (some v) = some b') :
    FreeB w0 A W ρ (upd F (innerUps s b l)) w b b' := by
  have hFx := hF x hx
  have hfp : fp (F x.1) (ρ x.1) w b' := by rw [hFx, hρ]; exact hv
  have hnc : NoCell (F x.1) := by rw [hFx]; exact noCell_row
  obtain ⟨_, hat⟩ := innerUps_HR (A := A) (W := W) (U := U) (w := w) s b l F H hF hn
  have hat : ∀ x ∈ l, ∀ b1, ¬ fpw (upd F (innerUps s b l) x.1) (ρ x.1) w b1 := fun y hy b1 e => by
    rw [hat y hy] at e
    split at e
    · split at e
      · exact fpw_dead e
      · simp [fpw, AObj.own] at e
    · simp [fpw, AObj.own] at e
  refine ⟨H.locf _ _ hfp, fun j e => ?_, fun ht => ?_⟩
  · by_cases hj : j ∈ l.map (·.1)
    · obtain ⟨y, hy, rfl⟩ := List.mem_map.1 hj
      exact hat y hy _ e
    · rw [innerUps_out s b l F j hj] at e
      have hjx : j ≠ x.1 := fun e => hj (by rw [e]; exact List.mem_map_of_mem hx)
      exact H.noW hnc hfp j hjx e
  · have hxo := hb ht x hx
    have hfw : fpw (F x.1) (ρ x.1) w b' := by rw [hFx, hρ, hxo]; exact ⟨rfl, hv⟩
    refine ⟨H.locfw _ _ hfw, fun j e => ?_⟩
    by_cases hj : j ∈ l.map (·.1)
    · obtain ⟨y, hy, rfl⟩ := List.mem_map.1 hj
      obtain ⟨_, hat2⟩ := innerUps_HR (A := A) (W := W) (U := U) (w := w) s b l F H hF hn
      rw [hat2 y hy, hb ht y hy, ht, if_pos rfl, if_pos rfl] at e
      exact e
    · rw [innerUps_out s b l F j hj] at e
      have hjx : j ≠ x.1 := fun e => hj (by rw [e]; exact List.mem_map_of_mem hx)
      exact H.only hnc hfw j hjx e

theorem rowsB_parts {e : TypeId} {s : Sh} (h : rowsB P e = some s) : sizeB P e = some 1 ∧ zlenB P e = some 1 := by
  unfold rowsB at h
  split at h <;> try cases h
  split at h <;> try cases h
  split at h
  rotate_left
  cases h
  rename_i hc
  cases h
  simp only [Bool.and_eq_true, beq_iff_eq] at hc
  exact hc.1
theorem recsB_parts {e : TypeId} {cs : List (Option Sh)} (h : recsB P e = some cs) : sizeB P e = some cs.length ∧ zlenB P e = some cs.length ∧ cs.all (fun x => match x with | some s => s.sz == 1 | none => true) = true ∧ cs.length ≤ 1000 := by
  unfold recsB at h
  split at h <;> try cases h
  split at h
  rotate_left
  cases h
  rename_i hc
  cases h
  simp only [Bool.and_eq_true, beq_iff_eq, decide_eq_true_eq] at hc
  exact ⟨hc.1.1.1.1.1, hc.1.1.1.1.2, hc.1.2, hc.2⟩
theorem flat_one_cells {α : Type} (f : α → Value) : ∀ (l : List α), (∀ p ∈ l, (f p).cells = #[f p]) → l.flatMap (fun p => (f p).cells.toList) = l.map f
  | [], _ => rfl
  | p :: l, h => by
    rw [List.flatMap_cons, h p (by simp), flat_one_cells f l (fun q hq => h q (by simp [hq]))]
    rfl
theorem lit_rows {o : Oper} {t e : TypeId} {len : Nat} {parts : Array (Nat × Operand)} (ho : o.op = .buildSlice t len parts) (S : Sim w0 A W nt sh U ρ tm F a w) (hs : Sub F0 F) (hid : U id) (hu : P.underlying t = some (.slice e)) {s : Sh} (hr : rowsB P e = some s) (hps : parts.size = len) (hmax : len ≤ 1000)
    {yss : List (List s.T)} {b b0 : Bool} {l : List (Nat × Bool × List s.T)} (h : innerL s F0 0 (parts.toList.map fun (i, x) => (i, ev tm x)) = some (yss, b0, l)) (hb0 : b = true → b0 = true) :
    Out w0 A W U ρ F id 1 (.c (.mp id)) (innerUps s b l ++ [(id, .blob true (.rows true b s) yss)]) ((execOp a.eval o).run P w) := by
  obtain ⟨hsz, hz⟩ := rowsB_parts hr
  obtain ⟨r1, r2, r3, r4, r5, r6, r7, r8⟩ := innerL_sound S hs s parts.toList 0 _ _ _ h
  have r3 := r3.weak hb0
  have r8 : b = true → ∀ x ∈ l, x.2.1 = true := fun e => r8 (hb0 e)
  obtain ⟨cs', hrun, hcs, hsize⟩ := run_lit (w := w) ho hu hsz hz (by omega) hps r1 (fun p hp => by rw [r4 p hp]; rfl)
  rw [flat_one_cells _ _ r4] at hcs
  have hpl : parts.toList.length = len := by rw [Array.length_toList, hps]
  obtain ⟨H1, hat⟩ := innerUps_HR (A := A) (W := W) (U := U) (w := w) s b l F S.toHR r6 r7
  have g := World.grownBy_alloc w (.cells cs' e) (some w.heap.size)
  have hw : w0.heap.size ≤ w.heap.size := S.fr.size
  have H2 := H1.grow g (.inl hw) H1.fresh
  have hlt : ∀ v ∈ parts.toList.map (fun p => a.eval p.2), ∀ b', blk (some v) = some b' → b' < w.heap.size ∧ FreeB w0 A W ρ (upd F (innerUps s b l)) w b b' := fun v hv b' hb => by
    obtain ⟨p, hp, rfl⟩ := List.mem_map.1 hv
    obtain ⟨x, hx, hρ⟩ := r5 p hp b' hb
    refine ⟨S.toHR.flt (i := x.1) (by rw [r6 x hx, hρ]; exact hb), inner_free S.toHR s b l r6 r7 r8 hx hρ hb⟩
  have hinn : inn (.slice (some ⟨w.heap.size, 0, none⟩) len len) (w.alloc (.cells cs' e)) = parts.toList.map (fun p => a.eval p.2) := by
    simp only [inn, heap_alloc_new]
    rw [List.drop_zero, hcs, List.take_of_length_le (by simp [hps])]
  have N : Nest true true b s yss (.slice (some ⟨w.heap.size, 0, none⟩) len len) (w.alloc (.cells cs' e)) := by
    refine ⟨⟨some ⟨w.heap.size, 0, none⟩, len, by rw [r2, hpl], by rw [r2, hpl]; exact Nat.le_refl _, rfl, cs', e, (0, 0), heap_alloc_new w _, ?_, fun _ => ⟨rfl, hsize, fun o _ => by omega⟩⟩, ?_, fun _ v hv b' hb => ?_⟩
    · rw [r2, hpl, hsize]; exact Nat.le_of_eq (Nat.zero_add _)
    · rw [hinn]
      exact r3.kept fun v hv b' hb => g.block b' (hlt v hv b' hb).1 (fun e => by have := (hlt v hv b' hb).1; cases e; omega)
    · rw [hinn] at hv
      have := (hlt v hv b' hb).1
      simp [blk]
      omega
  obtain ⟨ρ', g1, g2, g3, g4⟩ := newNest H2 hid N (fun b' hb => by
    have : w.heap.size = b' := by simpa [blk] using hb
    subst this
    exact H1.freeNew.grow H1 g H1.fresh) (fun v hv b' hb => by
    rw [hinn] at hv
    exact (hlt v hv b' hb).2.grow H1 g H1.fresh)
  refine ⟨_, ρ', ⟨_, .inl hrun, g4⟩, g1, fun k hk => g2 k (by omega), ?_⟩
  rw [upd_append]
  exact g3.weak fun k hk => ⟨hk.1, by omega⟩
theorem recCells_len : ∀ (cs : List (Option Sh)) (x : RecT cs), cs.all (fun x => match x with | some s => s.sz == 1 | none => true) = true → (recCells cs x).length = cs.length
  | [], _, _ => rfl
  | none :: r, d, h => by
    simp only [recCells, List.length_cons]
    rw [recCells_len r d (by simpa using h)]
  | some s :: r, d, h => by
    simp only [List.all_cons, Bool.and_eq_true, beq_iff_eq] at h
    simp only [recCells, List.length_append, Sh.cells_len, List.length_cons]
    rw [recCells_len r d.2 h.2, h.1]
    omega
theorem recOf_sound : ∀ (cs : List (Option Sh)) {l rest : List Cell} {x : RecT cs} {vs : List Value}, recOf cs l = some (x, rest) → LRel ρ l vs → (∀ v ∈ vs, v.oneCell' = true) → ∃ v1 r, vs = v1 ++ r ∧ LRel ρ (recCells cs x) v1 ∧ LRel ρ rest r
  | [], l, rest, x, vs, h, hr, hone => by
    simp only [recOf] at h
    cases h
    exact ⟨[], vs, rfl, trivial, hr⟩
  | none :: cs, [], rest, x, vs, h, hr, hone => by simp [recOf] at h
  | none :: cs, c :: l, rest, x, vs, h, hr, hone => by
    simp only [recOf] at h
    match vs, hr with
    | v :: vs, ⟨_, hr⟩ =>
      obtain ⟨v1, r, e, h1, h2⟩ := recOf_sound cs h hr (fun v hv => hone v (by simp [hv]))
      exact ⟨v :: v1, r, by rw [e]; rfl, ⟨hone v (by simp), h1⟩, h2⟩
  | some s :: cs, l, rest, x, vs, h, hr, hone => by
    have h : (match s.of l with | some (x, l) => (match recOf cs l with | some (y, l) => some (((x, y) : s.T × RecT cs), l) | none => none) | none => none) = some (x, rest) := by cases l <;> exact h
    cases h1 : s.of l with
    | none => rw [h1] at h; cases h
    | some q =>
      obtain ⟨y, l1⟩ := q
      rw [h1] at h
      simp only at h
      cases h2 : recOf cs l1 with
      | none => rw [h2] at h; cases h
      | some q =>
        obtain ⟨z, l2⟩ := q
        rw [h2] at h
        cases h
        obtain ⟨r1, e1, f1⟩ := Sh.of_rel s h1 hr
        obtain ⟨v1, r2, e2, f2, f3⟩ := recOf_sound cs h2 f1 (fun v hv => hone v (by rw [e1]; simp [hv]))
        exact ⟨s.vals y ++ v1, r2, by rw [e1, e2, List.append_assoc], LRel.append (Sh.rel ρ s y) f2, f3⟩
theorem recsL_sound (S : Sim w0 A W nt sh U ρ tm F a w) (cs : List (Option Sh)) (hall : cs.all (fun x => match x with | some s => s.sz == 1 | none => true) = true) : ∀ (ps : List (Nat × Operand)) (k : Nat) (xs : List (RecT cs)), recsL cs k (ps.map fun (i, x) => (i, ev tm x)) = some xs →
    ps.map (·.1) = List.range' k ps.length ∧ xs.length = ps.length ∧ (∀ p ∈ ps, (a.eval p.2).cells.size = cs.length) ∧ RecRel ρ cs xs (ps.flatMap fun p => (a.eval p.2).cells.toList)
  | [], k, xs, h => by
    simp only [List.map_nil, recsL] at h
    cases h
    exact ⟨rfl, rfl, fun p hp => by simp at hp, rfl⟩
  | (j, x) :: ps, k, xs, h => by
    simp only [List.map_cons, recsL] at h
    split at h
    rotate_left
    cases h
    rename_i hc
    simp only [Bool.and_eq_true, beq_iff_eq] at hc
    obtain ⟨⟨rfl, hag⟩, hk⟩ := hc
    split at h <;> try cases h
    rename_i y ys h1 h2
    obtain ⟨r1, r2, r3, r4⟩ := recsL_sound S cs hall ps (j + 1) _ h2
    have hrel := (ev_rel S x).cells (fun l e => by rw [e] at hag; cases hag) hk
    obtain ⟨v1, r, e, f1, f2⟩ := recOf_sound cs h1 hrel (hrel.one hk)
    have hr : r = [] := by
      cases r with
      | nil => rfl
      | cons => exact f2.elim
    subst hr
    rw [List.append_nil] at e
    have hl := f1.length
    rw [recCells_len cs y hall, ← e] at hl
    have hl2 : (a.eval x).cells.toList.length = cs.length := hl.symm
    refine ⟨?_, by simp [r2], fun q hq => ?_, ?_⟩
    · simp only [List.map_cons, List.length_cons, List.range'_succ]
      rw [r1]
    · rcases List.mem_cons.1 hq with rfl | hq
      · have h6 : (a.eval x).cells.toList.length = (a.eval x).cells.size := Array.length_toList
        exact (by omega : (a.eval x).cells.size = cs.length)
      · exact r3 q hq
    · rw [List.flatMap_cons]
      have et : ((a.eval x).cells.toList ++ ps.flatMap fun p => (a.eval p.2).cells.toList).take cs.length = (a.eval x).cells.toList := by
        rw [List.take_append_of_le_length (by omega), List.take_of_length_le (by omega)]
      have ed : ((a.eval x).cells.toList ++ ps.flatMap fun p => (a.eval p.2).cells.toList).drop cs.length = ps.flatMap fun p => (a.eval p.2).cells.toList := by
        rw [← hl2, List.drop_left]
      refine ⟨?_, by rw [List.length_append]; simp only; omega, ?_, ?_⟩
      · simp only; rw [et, e]; exact f1
      · simp only; rw [et]; exact hrel.one hk
      · simp only; rw [ed]; exact r4
theorem lit_recs {o : Oper} {t e : TypeId} {len : Nat} {parts : Array (Nat × Operand)} (ho : o.op = .buildSlice t len parts) (S : Sim w0 A W nt sh U ρ tm F a w) (hid : U id) (hu : P.underlying t = some (.slice e)) {cs : List (Option Sh)} (hr : recsB P e = some cs) (hps : parts.size = len) (hmax : len * cs.length ≤ 16777216)
    {xs : List (RecT cs)} (h : recsL cs 0 (parts.toList.map fun (i, x) => (i, ev tm x)) = some xs) :
    Out w0 A W U ρ F id 1 (.c (.mp id)) [(id, .blob true (.recs cs) xs)] ((execOp a.eval o).run P w) := by
  obtain ⟨hsz, hz, hall, _⟩ := recsB_parts hr
  obtain ⟨r1, r2, r3, r4⟩ := recsL_sound S cs hall parts.toList 0 _ h
  obtain ⟨cs', hrun, hcs, hsize⟩ := run_lit (w := w) ho hu hsz hz hmax hps r1 r3
  have hpl : parts.toList.length = len := by rw [Array.length_toList, hps]
  have hw : w0.heap.size ≤ w.heap.size := S.fr.size
  obtain ⟨ρ', g1, g2, g3, g4⟩ := S.toHR.newBlob (w' := w.alloc (.cells cs' e)) id true (.recs cs) xs (.slice (some ⟨w.heap.size, 0, none⟩) len len) w.heap.size hid (World.grownBy_alloc w _ _) (.inl hw) (.inl hw) S.toHR.fresh rfl
    (fun b' hb => by simp [blk] at hb; omega) (fun ρ' hx => by
      refine ⟨some ⟨w.heap.size, 0, none⟩, len, by rw [r2, hpl], by rw [r2, hpl]; exact Nat.le_refl _, rfl, cs', e, (0, 0), heap_alloc_new w _, ?_, fun _ => ⟨rfl, hsize, fun o _ => by omega⟩⟩
      rw [List.drop_zero, hcs, List.take_of_length_le (by rw [← hcs, Array.length_toList, hsize, r2, hpl]; exact Nat.le_refl _)]
      exact r4.mono hx cs) (.inr ⟨_, _, _, rfl⟩)
  exact ⟨_, ρ', ⟨_, .inl hrun, g4⟩, g1, fun k hk => g2 k (by omega), g3.weak fun k hk => ⟨hk.1, by omega⟩⟩

theorem Out.after {u1 u2 : List (Nat × AObj)} {v : AVal} {run : Result Next} (h : Out w0 A W U ρ (upd F u1) id cnt v u2 run) : Out w0 A W U ρ F id cnt v (u1 ++ u2) run := by
  obtain ⟨w', ρ', h1, h2, h3, h4⟩ := h
  exact ⟨w', ρ', h1, h2, h3, by rw [upd_append]; exact h4⟩
theorem bytesOfT_parts {e : TypeId} {bs : Nat} (h : bytesOfT P e = some bs) : ∃ i, P.info? e = some i ∧ i.bytes = bs := by
  unfold bytesOfT at h
  split at h <;> cases h
  exact ⟨_, by assumption, rfl⟩
/-- Rows are appended to rows. -/
theorem app_rows (H1 : HR w0 A W U ρ F w) (hid : U id) {ats : Array TypeId} {ty t u e e' : TypeId} (h0 : ats[0]? = some t) (h1 : ats[1]? = some u) (ht : P.underlying t = some (.slice e)) (hu : P.underlying u = some (.slice e')) {bs : Nat} (hbs : bytesOfT P e = some bs) (hbp : 0 < bs) {s : Sh} (hr : rowsB P e = some s)
    {xss yss : List (List s.T)} {vs us : List Value} {hx hy : Value} {own2 io1 io2 : Bool} (r1 : RawRel true 1 xss.length vs hx w) (r2 : RawRel own2 1 yss.length us hy w) (q1 : RowsRel io1 s xss vs w) (q2 : RowsRel io2 s yss us w)
    (f0 : ∀ b, blk (some hx) = some b → FreeB w0 A W ρ F w true b) (f1 : ∀ v ∈ vs, ∀ b, blk (some v) = some b → b < w.heap.size ∧ blk (some hx) ≠ some b ∧ FreeB w0 A W ρ F w io1 b) (f2 : ∀ v ∈ us, ∀ b, blk (some v) = some b → b < w.heap.size ∧ blk (some hx) ≠ some b ∧ FreeB w0 A W ρ F w io2 b)
    (hd : (io1 && io2) = true → ∀ v ∈ vs, ∀ u ∈ us, ∀ b, blk (some v) = some b → blk (some u) ≠ some b) (hfit : fits (xss.length + yss.length) bs = true) :
    Out w0 A W U ρ F id 1 (.c (.mp id)) [(id, .blob true (.rows true (io1 && io2) s) (xss ++ yss))] (((Builtin.append_ ats ty #[hx, hy]).run P w).andThen fun v w => .ok (.value v) w) := by
  obtain ⟨hsz, hz⟩ := rowsB_parts hr
  obtain ⟨i, hi, hisz⟩ := sizeB_info hsz
  obtain ⟨i', zv, hi', hzv, hzs⟩ := zlen_parts hz
  obtain ⟨i2, hi2, hib⟩ := bytesOfT_parts hbs
  rw [hi] at hi' hi2
  cases hi'
  cases hi2
  have hl1 : vs.length = xss.length := by rw [r1.len, Nat.mul_one]
  have hl2 : us.length = yss.length := by rw [r2.len, Nat.mul_one]
  have hone : ∀ v ∈ us, v.oneCell' = true := fun v hv => by
    obtain ⟨k, hk, rfl⟩ := List.mem_iff_getElem.1 hv
    obtain ⟨v, hv, hr⟩ := q2.1 k yss[k] (List.getElem?_eq_getElem (by omega))
    rw [List.getElem?_eq_getElem hk] at hv
    obtain ⟨p, n, c, e⟩ := hr.shape
    rw [← Option.some.inj hv] at e
    rw [e]
    rfl
  obtain ⟨hd', w', b, hrun, hraw, g, hbd, hb⟩ := raw_append ats ty t u e e' h0 h1 ht hu i zv hi hzv hisz hzs (by omega) r1 r2 hone (by unfold fits at hfit; rw [hib]; exact of_decide_eq_true hfit)
  have hfree : FreeB w0 A W ρ F w true b := by
    rcases hb with rfl | hb
    · exact H1.freeNew
    · exact f0 b hb
  have hn := (hfree.2.2 rfl).2
  have H2 := H1.grow g (hfree.2.2 rfl).1 hn
  have hinn := hraw.inn
  have inner : ∀ v ∈ vs ++ us, ∀ b', blk (some v) = some b' → b' < w.heap.size ∧ b' ≠ b ∧ FreeB w0 A W ρ F w (io1 && io2) b' := fun v hv b' hb' => by
    have key : b' < w.heap.size ∧ blk (some hx) ≠ some b' ∧ FreeB w0 A W ρ F w (io1 && io2) b' := by
      rcases List.mem_append.1 hv with hv | hv
      · obtain ⟨k1, k2, k3⟩ := f1 v hv b' hb'
        exact ⟨k1, k2, k3.weak fun e => by rw [Bool.and_eq_true] at e; exact e.1⟩
      · obtain ⟨k1, k2, k3⟩ := f2 v hv b' hb'
        exact ⟨k1, k2, k3.weak fun e => by rw [Bool.and_eq_true] at e; exact e.2⟩
    refine ⟨key.1, fun e => ?_, key.2.2⟩
    subst e
    rcases hb with hb | hb
    · have := key.1; omega
    · exact key.2.1 hb
  have N : Nest true true (io1 && io2) s (xss ++ yss) hd' w' := by
    refine ⟨by rw [List.length_append]; exact hraw.out, ?_, fun _ v hv b' hb' e => ?_⟩
    · rw [hinn]
      exact (RowsRel.append (q1.weak fun e => by rw [Bool.and_eq_true, Bool.and_eq_true] at e; exact e.2.1) (q2.weak fun e => by rw [Bool.and_eq_true, Bool.and_eq_true] at e; exact e.2.2) hl1 (fun e => hd (by simpa using e))).kept fun v hv b' hb' =>
        g.block b' (inner v hv b' hb').1 (fun e => (inner v hv b' hb').2.1 (by cases e; rfl))
    · rw [hinn] at hv
      exact (inner v hv b' hb').2.1 (hbd b' e)
  obtain ⟨ρ', g1, g2, g3, g4⟩ := newNest H2 hid N (fun b' hb' => by
    rw [hbd b' hb']
    exact hfree.grow H1 g hn) (fun v hv b' hb' => by
    rw [hinn] at hv
    exact (inner v hv b' hb').2.2.grow H1 g hn)
  refine ⟨w', ρ', ⟨hd', .inl (by rw [hrun]; rfl), g4⟩, g1, fun k hk => g2 k (by omega), g3.weak fun k hk => ⟨hk.1, by omega⟩⟩
theorem RecRel.len {cs : List (Option Sh)} : ∀ {xs : List (RecT cs)} {vs : List Value}, RecRel ρ cs xs vs → vs.length = xs.length * cs.length
  | [], vs, h => by
    have h : vs = [] := h
    rw [h]; simp
  | x :: xs, vs, ⟨a, b, c, d⟩ => by
    have := RecRel.len d
    rw [List.length_drop] at this
    rw [List.length_cons, Nat.succ_mul]
    omega
theorem RecRel.one {cs : List (Option Sh)} : ∀ {xs : List (RecT cs)} {vs : List Value}, RecRel ρ cs xs vs → ∀ v ∈ vs, v.oneCell' = true
  | [], vs, h, v, hv => by
    have h : vs = [] := h
    rw [h] at hv; simp at hv
  | x :: xs, vs, ⟨a, b, c, d⟩, v, hv => by
    rw [← List.take_append_drop cs.length vs] at hv
    rcases List.mem_append.1 hv with hv | hv
    · exact c v hv
    · exact RecRel.one d v hv
theorem RecRel.append {cs : List (Option Sh)} {ys : List (RecT cs)} {us : List Value} (h2 : RecRel ρ cs ys us) : ∀ {xs : List (RecT cs)} {vs : List Value}, RecRel ρ cs xs vs → RecRel ρ cs (xs ++ ys) (vs ++ us)
  | [], vs, h => by
    have h : vs = [] := h
    subst h
    exact h2
  | x :: xs, vs, ⟨a, b, c, d⟩ => by
    have e1 : (vs ++ us).take cs.length = vs.take cs.length := List.take_append_of_le_length b
    have e2 : (vs ++ us).drop cs.length = vs.drop cs.length ++ us := List.drop_append_of_le_length b
    refine ⟨by rw [e1]; exact a, by rw [List.length_append]; omega, by rw [e1]; exact c, ?_⟩
    rw [e2]
    exact RecRel.append h2 d
theorem recs_raw {own : Bool} {cs : List (Option Sh)} {xs : List (RecT cs)} {hd : Value} (h : BlobRel ρ own (.recs cs) xs hd w) : ∃ vs, RawRel own cs.length xs.length vs hd w ∧ RecRel ρ cs xs vs := by
  obtain ⟨a, cap, rfl, hle, hr⟩ := h
  cases a with
  | none =>
    obtain ⟨rfl, rfl⟩ := hr
    exact ⟨[], ⟨none, 0, rfl, Nat.le_refl _, by simp, rfl, rfl⟩, rfl⟩
  | some ad =>
    obtain ⟨hs, vs, el, fz, hh, hc, ho⟩ := hr
    exact ⟨_, ⟨some ad, cap, rfl, hle, hc.len, hs, vs, el, fz, hh, rfl, ho⟩, hc⟩
theorem raw_recs {own : Bool} {cs : List (Option Sh)} {xs : List (RecT cs)} {vs : List Value} {hd : Value} (h : RawRel own cs.length xs.length vs hd w) (hr : RecRel ρ cs xs vs) : BlobRel ρ own (.recs cs) xs hd w := by
  obtain ⟨a, cap, rfl, hle, hl, hq⟩ := h
  refine ⟨a, cap, rfl, hle, ?_⟩
  cases a with
  | none =>
    obtain ⟨h0, rfl⟩ := hq
    exact ⟨List.eq_nil_of_length_eq_zero h0, rfl⟩
  | some ad =>
    obtain ⟨hs, cs', el, fz, hh, hc, ho⟩ := hq
    refine ⟨hs, cs', el, fz, hh, ?_, ho⟩
    rw [hc]
    exact hr
/-- Structs are appended. -/
theorem app_recs (H1 : HR w0 A W U ρ F w) (hid : U id) {ats : Array TypeId} {ty t u e e' : TypeId} (h0 : ats[0]? = some t) (h1 : ats[1]? = some u) (ht : P.underlying t = some (.slice e)) (hu : P.underlying u = some (.slice e')) {bs : Nat} (hbs : bytesOfT P e = some bs) (hbp : 0 < bs) {cs : List (Option Sh)} (hr : recsB P e = some cs)
    {xs ys : List (RecT cs)} {vs us : List Value} {hx hy : Value} {own2 : Bool} (r1 : RawRel true cs.length xs.length vs hx w) (r2 : RawRel own2 cs.length ys.length us hy w) (q1 : RecRel ρ cs xs vs) (q2 : RecRel ρ cs ys us)
    (f0 : ∀ b, blk (some hx) = some b → FreeB w0 A W ρ F w true b) (hfit : fits (xs.length + ys.length) bs = true) :
    Out w0 A W U ρ F id 1 (.c (.mp id)) [(id, .blob true (.recs cs) (xs ++ ys))] (((Builtin.append_ ats ty #[hx, hy]).run P w).andThen fun v w => .ok (.value v) w) := by
  obtain ⟨hsz, hz, _⟩ := recsB_parts hr
  obtain ⟨i, hi, hisz⟩ := sizeB_info hsz
  obtain ⟨i', zv, hi', hzv, hzs⟩ := zlen_parts hz
  obtain ⟨i2, hi2, hib⟩ := bytesOfT_parts hbs
  rw [hi] at hi' hi2
  cases hi'
  cases hi2
  obtain ⟨hd', w', b, hrun, hraw, g, hbd, hb⟩ := raw_append ats ty t u e e' h0 h1 ht hu i zv hi hzv hisz hzs (by omega) r1 r2 q2.one (by unfold fits at hfit; rw [hib]; exact of_decide_eq_true hfit)
  have hfree : FreeB w0 A W ρ F w true b := by
    rcases hb with rfl | hb
    · exact H1.freeNew
    · exact f0 b hb
  have hn := (hfree.2.2 rfl).2
  have hfA := hfree.1
  obtain ⟨ρ', g1, g2, g3, g4⟩ := H1.newBlob (w' := w') id true (.recs cs) (xs ++ ys) hd' b hid g (hfree.2.2 rfl).1 hfree.1 hn rfl hbd (fun ρ' hx => by
    refine raw_recs ?_ ((q2.append q1).mono hx cs)
    rw [List.length_append]
    exact hraw) (.inr (by obtain ⟨p, c, e, _⟩ := hraw; exact ⟨p, _, c, e⟩))
  exact ⟨w', ρ', ⟨hd', .inl (by rw [hrun]; rfl), g4⟩, g1, fun k hk => g2 k (by omega), g3.weak fun k hk => ⟨hk.1, by omega⟩⟩

/-- The rows that are appended. -/
theorem rowsS_sound (S : Sim w0 A W nt sh U ρ tm F a w) (hs : Sub F0 F) {s : Sh} {y : Operand} {c : Cell} (hy : ev tm y = .c c) {ys : List (List s.T)} {io : Bool} {j : Option Nat} (h : rowsS s F0 c = some (ys, io, j)) :
    (j = none ∧ io = true ∧ ys = [] ∧ a.eval y = .slice none 0 0) ∨ ∃ k own oo io', j = some k ∧ io = (own && io') ∧ F k = .blob own (.rows oo io' s) ys ∧ ρ k = some (a.eval y) ∧ Nest own oo io' s ys (a.eval y) w := by
  unfold rowsS at h
  split at h
  · cases h
    have := ev_rel S y
    rw [hy] at this
    exact .inl ⟨rfl, rfl, rfl, this⟩
  · rename_i k
    split at h
    rotate_left
    cases h
    rename_i own oo io' s' ys' hF
    split at h
    rotate_left
    cases h
    rename_i ys1 hc
    obtain ⟨rfl, hc⟩ := castRows_eq hc
    cases hc
    cases h
    obtain ⟨hF', hρ, hb⟩ := nest_of S hs hy hF
    exact .inr ⟨k, own, oo, io', rfl, rfl, hF', hρ, nest_iff.1 hb⟩
  · cases h
theorem castRecs_eq {c c' : List (Option Sh)} {xs : List (RecT c')} {ys : List (RecT c)} (h : castRecs c c' xs = some ys) : ∃ e : c' = c, e ▸ xs = ys := by
  unfold castRecs at h
  split at h <;> cases h
  exact ⟨by assumption, rfl⟩
/-- A blob's blocks when it, and perhaps another, is taken away. -/
theorem src_free (H : HR w0 A W U ρ F w) {k : Nat} {own oo io : Bool} {s : Sh} {ys : List (List s.T)} (hF : F k = .blob own (.rows oo io s) ys) {hy : Value} (hρ : ρ k = some hy) (N : Nest own oo io s ys hy w) {v : Value} (hv : v ∈ inn hy w) {b : Nat} (hb : blk (some v) = some b) :
    b < w.heap.size ∧ FreeB w0 A W ρ (upd F (if (own && io) = true then [(k, .dead)] else [])) w (own && io) b := by
  have hfp : fp (F k) (ρ k) w b := by rw [hF, hρ]; exact fp_rows.2 (.inr ⟨v, hv, hb⟩)
  refine ⟨H.flt hfp, ?_⟩
  cases ho : (own && io) with
  | true => exact H.freed (by rw [hF]; exact noCell_blob) true hfp (fun _ => by rw [hF, hρ]; exact fpw_rows.2 (.inr ⟨ho, v, hv, hb⟩))
  | false =>
    refine H.shared (by rw [hF]; exact noCell_blob) hfp fun q => ?_
    rw [hF, hρ] at q
    rcases fpw_rows.1 q with ⟨q1, q2⟩ | ⟨q1, _⟩
    · rw [Bool.and_eq_true] at q1
      exact N.off q1.1 v hv b hb q2
    · rw [ho] at q1; cases q1
theorem nest_append {o : Oper} {c : Call} (ho : o.op = .call c) (hb : c.callee = .builtin .append) {v : AVal} {u : List (Nat × AObj)} (S : Sim w0 A W nt sh U ρ tm F a w) (hs : Sub F0 F) (hid : U id) (h : Gives (nestEff P o.op tm F0 id) v u) : Out w0 A W U ρ F id 1 v u ((execOp a.eval o).run P w) := by
  rw [ho] at h
  simp only [nestEff, hb] at h
  split at h
  rotate_left
  exact h.fail.elim
  rename_i c1 c2 t t' hargs h0 h1
  obtain ⟨x, y, hxy, hx, hy⟩ := args2 hargs
  have hrun : (execOp a.eval o).run P w = ((Builtin.append_ c.argTypes o.type #[a.eval x, a.eval y]).run P w).andThen fun v w => .ok (.value v) w := by
    simp [execOp, ho, resolve, hb, invoke, builtin, hxy]
  rw [hrun]
  split at h
  rotate_left
  exact h.fail.elim
  rename_i e e' ht hu
  split at h
  rotate_left
  exact h.fail.elim
  rename_i bs hbs
  split at h
  exact h.fail.elim
  rename_i hq
  have hbp : 0 < bs := of_decide_eq_true (of_nn hq)
  split at h
  · rename_i s hr
    split at h
    rotate_left
    exact h.fail.elim
    rename_i ys io2 j hsrc
    have hsrc := rowsS_sound S hs hy hsrc
    split at h
    · obtain ⟨hfit, rfl, rfl⟩ := h.chk
      have hv : a.eval x = .slice none 0 0 := by
        have := ev_rel S x
        rw [hx] at this
        exact this
      rw [hv]
      refine Out.after ?_
      have e1 : fits (([] : List (List s.T)).length + ys.length) bs = true := by simpa using hfit
      rcases hsrc with ⟨rfl, rfl, rfl, hyv⟩ | ⟨k, own, oo, io', rfl, rfl, hFk, hρk, N⟩
      · exact app_rows (xss := []) (io1 := true) (io2 := true) (own2 := true) S.toHR hid h0 h1 ht hu hbs hbp hr (vs := []) (us := []) ⟨none, 0, rfl, Nat.le_refl _, rfl, rfl, rfl⟩ (by rw [hyv]; exact ⟨none, 0, rfl, Nat.le_refl _, rfl, rfl, rfl⟩)
          ⟨fun k xs h => by simp at h, fun _ k k' v v' b' _ h => by simp at h⟩ ⟨fun k xs h => by simp at h, fun _ k k' v v' b' _ h => by simp at h⟩ (fun b hb => by simp [blk] at hb) (fun v hv => by simp at hv) (fun v hv => by simp at hv) (fun _ v hv => by simp at hv) e1
      · have H1 : HR w0 A W U ρ (upd F (if (own && io') = true then [(k, .dead)] else [])) w := by
          cases (own && io') with
          | true => exact S.toHR.kill k
          | false => exact S.toHR
        have := app_rows (ty := o.type) (xss := []) (io1 := true) H1 hid h0 h1 ht hu hbs hbp hr (vs := []) ⟨none, 0, rfl, Nat.le_refl _, rfl, rfl, rfl⟩ N.out.raw
          ⟨fun k xs h => by simp at h, fun _ k k' v v' b' _ h => by simp at h⟩ N.rows (fun b hb => by simp [blk] at hb) (fun v hv => by simp at hv) (fun v hv b hb => ⟨(src_free S.toHR hFk hρk N hv hb).1, by simp [blk], (src_free S.toHR hFk hρk N hv hb).2⟩) (fun _ v hv => by simp at hv) e1
        exact this
    · rename_i i
      split at h
      rotate_left
      exact h.fail.elim
      rename_i io1 s' xs' hF
      split at h
      rotate_left
      exact h.fail.elim
      rename_i xs hcast
      obtain ⟨rfl, hcast⟩ := castRows_eq hcast
      cases hcast
      split at h
      exact h.fail.elim
      rename_i hji
      obtain ⟨hfit, rfl, rfl⟩ := h.chk
      obtain ⟨hFi, hρi, hbi⟩ := nest_of S hs hx hF
      have Ni := nest_iff.1 hbi
      have hnc : NoCell (F i) := by rw [hFi]; exact noCell_blob
      -- the first one is taken away
      have outer : ∀ b, blk (some (a.eval x)) = some b → FreeB w0 A W ρ (upd F [(i, .dead)]) w true b := fun b hb =>
        S.toHR.freed hnc true (by rw [hFi, hρi]; exact fp_rows.2 (.inl hb)) (fun _ => by rw [hFi, hρi]; exact fpw_rows.2 (.inl ⟨rfl, hb⟩))
      have inner : ∀ v ∈ inn (a.eval x) w, ∀ b, blk (some v) = some b → b < w.heap.size ∧ blk (some (a.eval x)) ≠ some b ∧ FreeB w0 A W ρ (upd F [(i, .dead)]) w io1 b := fun v hv b hb => by
        have hfp : fp (F i) (ρ i) w b := by rw [hFi, hρi]; exact fp_rows.2 (.inr ⟨v, hv, hb⟩)
        exact ⟨S.toHR.flt hfp, Ni.off rfl v hv b hb, S.toHR.freed hnc io1 hfp (fun e => by rw [hFi, hρi]; exact fpw_rows.2 (.inr ⟨e, v, hv, hb⟩))⟩
      rw [List.append_assoc]
      refine Out.after (Out.after ?_)
      have K := S.toHR.kill i
      rcases hsrc with ⟨rfl, rfl, rfl, hyv⟩ | ⟨k, own, oo, io', rfl, rfl, hFk, hρk, N⟩
      · exact app_rows (io2 := true) (own2 := true) K hid h0 h1 ht hu hbs hbp hr Ni.out.raw (us := []) (by rw [hyv]; exact ⟨none, 0, rfl, Nat.le_refl _, rfl, rfl, rfl⟩)
          (Ni.rows.weak fun e => by simpa using e) ⟨fun k xs h => by simp at h, fun _ k k' v v' b' _ h => by simp at h⟩ outer inner (fun v hv => by simp at hv) (fun _ v hv u hu => by simp at hu) hfit
      · have hki : k ≠ i := fun e => by subst e; simp at hji
        have hFk' : upd F [(i, .dead)] k = .blob own (.rows oo io' s') ys := by rw [upd_ne F _ hki, hFk]
        have H1 : HR w0 A W U ρ (upd (upd F [(i, .dead)]) (if (own && io') = true then [(k, .dead)] else [])) w := by
          cases (own && io') with
          | true => exact K.kill k
          | false => exact K
        have kk : ∀ {o b}, FreeB w0 A W ρ (upd F [(i, .dead)]) w o b → FreeB w0 A W ρ (upd (upd F [(i, .dead)]) (if (own && io') = true then [(k, .dead)] else [])) w o b := fun {o b} h => by
          cases (own && io') with
          | true => exact h.kill k
          | false => exact h
        have := app_rows (ty := o.type) H1 hid h0 h1 ht hu hbs hbp hr Ni.out.raw N.out.raw (Ni.rows.weak fun e => by simpa using e) N.rows (fun b hb => kk (outer b hb)) (fun v hv b hb => ⟨(inner v hv b hb).1, (inner v hv b hb).2.1, kk (inner v hv b hb).2.2⟩)
          (fun v hv b hb => by
            obtain ⟨g1, g2⟩ := src_free K hFk' hρk N hv hb
            refine ⟨g1, fun e => ?_, g2⟩
            refine S.toHR.only hnc (b := b) (by rw [hFi, hρi]; exact fpw_rows.2 (.inl ⟨rfl, e⟩)) k hki ?_
            rw [hFk, hρk]
            exact fp_rows.2 (.inr ⟨v, hv, hb⟩))
          (fun e v hv u hu b hb hb' => by
            rw [Bool.and_eq_true] at e
            refine S.toHR.only hnc (b := b) (by rw [hFi, hρi]; exact fpw_rows.2 (.inr ⟨e.1, v, hv, hb⟩)) k hki ?_
            rw [hFk, hρk]
            exact fp_rows.2 (.inr ⟨u, hu, hb'⟩)) hfit
        exact this
    · exact h.fail.elim
  · split at h
    rotate_left
    exact h.fail.elim
    rename_i cs hr
    split at h
    rotate_left
    exact h.fail.elim
    rename_i ys hsrc
    have hsrc : ∃ us own2, RawRel own2 cs.length ys.length us (a.eval y) w ∧ RecRel ρ cs ys us := by
      unfold recsS at hsrc
      split at hsrc
      · cases hsrc
        have := ev_rel S y
        rw [hy] at this
        have this : a.eval y = .slice none 0 0 := this
        rw [this]
        exact ⟨[], true, ⟨none, 0, rfl, Nat.le_refl _, by simp, rfl, rfl⟩, rfl⟩
      · split at hsrc
        rotate_left
        cases hsrc
        rename_i own c' ys' hF
        obtain ⟨rfl, hc⟩ := castRecs_eq hsrc
        cases hc
        obtain ⟨_, _, hb⟩ := nest_of S hs hy hF
        obtain ⟨us, g1, g2⟩ := recs_raw hb
        exact ⟨us, own, g1, g2⟩
      · cases hsrc
    obtain ⟨us, own2, g1, g2⟩ := hsrc
    split at h
    · obtain ⟨hfit, rfl, rfl⟩ := h.chk
      have hv : a.eval x = .slice none 0 0 := by
        have := ev_rel S x
        rw [hx] at this
        exact this
      rw [hv]
      have := app_recs (ty := o.type) (xs := []) S.toHR hid h0 h1 ht hu hbs hbp hr (vs := []) ⟨none, 0, rfl, Nat.le_refl _, by simp, rfl, rfl⟩ g1 rfl g2 (fun b hb => by simp [blk] at hb) (by simpa using hfit)
      exact this
    · rename_i i
      split at h
      rotate_left
      exact h.fail.elim
      rename_i c' xs' hF
      split at h
      rotate_left
      exact h.fail.elim
      rename_i xs hcast
      obtain ⟨rfl, hcast⟩ := castRecs_eq hcast
      cases hcast
      obtain ⟨hfit, rfl, rfl⟩ := h.chk
      obtain ⟨hFi, hρi, hbi⟩ := nest_of S hs hx hF
      obtain ⟨vs, k1, k2⟩ := recs_raw hbi
      refine Out.after (u1 := [(i, .dead)]) ?_
      exact app_recs (S.toHR.kill i) hid h0 h1 ht hu hbs hbp hr k1 g1 k2 g2 (fun b hb =>
        S.toHR.freed (by rw [hFi]; exact noCell_blob) true (by rw [hFi, hρi]; exact .inl hb) (fun _ => by rw [hFi, hρi]; exact .inl ⟨rfl, hb⟩)) hfit
    · exact h.fail.elim

theorem RowsRel.set {own : Bool} {s : Sh} {xss : List (List s.T)} {vs : List Value} (h : RowsRel own s xss vs w) {j : Nat} {ys : List s.T} {y : Value} (hl : vs.length = xss.length) (hj : j < xss.length) (hr : RowRel own s ys y w)
    (hd : own = true → ∀ (k : Nat) (v : Value), k ≠ j → vs[k]? = some v → ∀ b, blk (some y) = some b → blk (some v) ≠ some b) : RowsRel own s (xss.set j ys) (vs.set j y) w := by
  refine ⟨fun k xs hk => ?_, fun ho k k' v v' b hne hv hv' hb hb' => ?_⟩
  · by_cases hkj : k = j
    · subst hkj
      rw [List.getElem?_set_self hj] at hk
      cases hk
      exact ⟨y, List.getElem?_set_self (by omega), hr⟩
    · rw [List.getElem?_set_ne (Ne.symm hkj)] at hk
      obtain ⟨v, hv, hr⟩ := h.1 k xs hk
      exact ⟨v, by rw [List.getElem?_set_ne (Ne.symm hkj)]; exact hv, hr⟩
  · by_cases hkj : k = j
    · subst hkj
      rw [List.getElem?_set_self (by omega)] at hv
      cases hv
      rw [List.getElem?_set_ne hne] at hv'
      exact hd ho k' v' (Ne.symm hne) hv' b hb hb'
    · rw [List.getElem?_set_ne (Ne.symm hkj)] at hv
      by_cases hkj' : k' = j
      · subst hkj'
        rw [List.getElem?_set_self (by omega)] at hv'
        cases hv'
        exact hd ho k v hkj hv b hb' hb
      · rw [List.getElem?_set_ne (Ne.symm hkj')] at hv'
        exact h.2 ho k k' v v' b hne hv hv' hb hb'
theorem mem_set {l : List Value} {j : Nat} {y v : Value} (h : v ∈ l.set j y) : v ∈ l ∨ v = y := by
  obtain ⟨k, hk, rfl⟩ := List.mem_iff_getElem.1 h
  rw [List.getElem_set]
  split
  · exact .inr rfl
  · exact .inl (List.getElem_mem _)
theorem FreeB.add {o : Bool} {b i : Nat} {x : AObj} (h : FreeB w0 A W ρ F w o b) (h1 : ¬ fpw x (ρ i) w b) (h2 : o = true → ¬ fp x (ρ i) w b) : FreeB w0 A W ρ (upd F [(i, x)]) w o b :=
  ⟨h.1, fun j e => by
    by_cases hj : j = i
    · subst hj; rw [upd_self] at e; exact h1 e
    · rw [upd_ne F _ hj] at e; exact h.2.1 j e, fun ho => ⟨(h.2.2 ho).1, fun j e => by
    by_cases hj : j = i
    · subst hj; rw [upd_self] at e; exact h2 ho e
    · rw [upd_ne F _ hj] at e; exact (h.2.2 ho).2 j e⟩⟩
/-- An outer cell is given another row. -/
theorem store_row (H1 : HR w0 A W U ρ F w) {i : Nat} {io io3 : Bool} {s : Sh} {xss : List (List s.T)} (hF : F i = .blob true (.rows true io s) xss) {b o' len cap j : Nat} (hρ : ρ i = some (.slice (some ⟨b, o', none⟩) len cap)) (hj : j < len) {ys : List s.T} {y : Value} (hio : io3 = true → io = true) (hr : RowRel io3 s ys y w)
    (hy : ∀ b', blk (some y) = some b' → b' < w.heap.size ∧ b' ≠ b ∧ FreeB w0 A W ρ (upd F [(i, .dead)]) w io3 b' ∧ (io3 = true → ∀ v ∈ inn (.slice (some ⟨b, o', none⟩) len cap) w, blk (some v) ≠ some b')) :
    ∃ w', (storeCells ⟨b, o' + j, none⟩ [y]).run P w = .ok () w' ∧ HR w0 A W U ρ (upd F [(i, .blob true (.rows true io3 s) (xss.set j ys))]) w' := by
  have hob := H1.obj i
  rw [hF, hρ] at hob
  obtain ⟨hd, e, hob⟩ := hob
  cases e
  have N := nest_iff.1 hob
  have hnc : NoCell (F i) := by rw [hF]; exact noCell_blob
  obtain ⟨p, cap', e, hle, hp⟩ := N.out
  cases e
  obtain ⟨_, cs, el, fz, hh, hb2, hown⟩ := hp
  simp only at hh hb2
  obtain ⟨hz, hcs, hfz⟩ := hown rfl
  have hz : o' = 0 := hz
  subst hz
  obtain ⟨p, n, c, rfl⟩ := hr.shape
  rw [Nat.mul_one] at hcs hb2
  have hle2 : 0 + j + [Value.slice p n c].length ≤ cs.size := by simp; omega
  have hst := run_stores (P := P) (o := 0 + j) hh [.slice p n c] hle2 (fun q hq => hfz _ (by simp at hq; omega)) (fun v hv => by simp at hv; subst hv; rfl)
  have hh' := setCells_heap b _ (0 + j) w cs el fz hh hle2
  have g := setCells_grown b [.slice p n c] (0 + j) w
  have hbb : blk (some (.slice (some ⟨b, 0, none⟩) xss.length cap)) = some b := rfl
  have hfree : FreeB w0 A W ρ (upd F [(i, .dead)]) w true b := H1.freed hnc true (by rw [hF, hρ]; exact fp_rows.2 (.inl hbb)) (fun _ => by rw [hF, hρ]; exact fpw_rows.2 (.inl ⟨rfl, hbb⟩))
  have hn := (hfree.2.2 rfl).2
  have K := H1.kill i
  have H2 := K.grow g (hfree.2.2 rfl).1 hn
  have hlen : (inn (.slice (some ⟨b, 0, none⟩) xss.length cap) w).length = xss.length := N.out.len
  have hinn : inn (.slice (some ⟨b, 0, none⟩) xss.length cap) (w.setCells b (0 + j) [.slice p n c]) = (inn (.slice (some ⟨b, 0, none⟩) xss.length cap) w).set j (.slice p n c) := by
    simp only [inn]
    rw [hh', hh]
    simp only [List.drop_zero, Nat.zero_add, List.length_singleton]
    apply List.ext_getElem?
    intro q
    have hcl : cs.toList.length = cs.size := Array.length_toList
    by_cases hq : q < xss.length
    · rw [List.getElem?_take, if_pos hq]
      by_cases hqj : q = j
      · subst hqj
        rw [List.getElem?_set_self (by rw [List.length_take]; omega), List.append_assoc, List.getElem?_append_right (by rw [List.length_take]; omega), List.length_take, show q - min q cs.toList.length = 0 by omega]
        rfl
      · rw [List.getElem?_set_ne (Ne.symm hqj), List.getElem?_take, if_pos hq]
        rcases Nat.lt_or_gt_of_ne hqj with h | h
        · rw [List.append_assoc, List.getElem?_append_left (by rw [List.length_take]; omega), List.getElem?_take, if_pos h]
        · rw [List.getElem?_append_right (by rw [List.length_append, List.length_take, List.length_singleton]; omega), List.getElem?_drop, List.length_append, List.length_take, List.length_singleton]
          congr 1
          omega
    · rw [List.getElem?_take, if_neg hq, List.getElem?_eq_none (by rw [List.length_set, List.length_take]; omega)]
  have old : ∀ v ∈ inn (.slice (some ⟨b, 0, none⟩) xss.length cap) w, ∀ b', blk (some v) = some b' → b' < w.heap.size ∧ b' ≠ b ∧ FreeB w0 A W ρ (upd F [(i, .dead)]) w io3 b' := fun v hv b' hb' => by
    have hfp : fp (F i) (ρ i) w b' := by rw [hF, hρ]; exact fp_rows.2 (.inr ⟨v, hv, hb'⟩)
    exact ⟨H1.flt hfp, fun e => by subst e; exact N.off rfl v hv b' hb' rfl, H1.freed hnc io3 hfp (fun e => by rw [hF, hρ]; exact fpw_rows.2 (.inr ⟨by rw [hio e]; rfl, v, hv, hb'⟩))⟩
  have all : ∀ v ∈ (inn (.slice (some ⟨b, 0, none⟩) xss.length cap) w).set j (.slice p n c), ∀ b', blk (some v) = some b' → b' < w.heap.size ∧ b' ≠ b ∧ FreeB w0 A W ρ (upd F [(i, .dead)]) w io3 b' := fun v hv b' hb' => by
    rcases mem_set hv with hv | rfl
    · exact old v hv b' hb'
    · obtain ⟨k1, k2, k3, _⟩ := hy b' hb'
      exact ⟨k1, k2, k3⟩
  have N2 : Nest true true io3 s (xss.set j ys) (.slice (some ⟨b, 0, none⟩) xss.length cap) (w.setCells b (0 + j) [.slice p n c]) := by
    refine ⟨?_, ?_, fun _ v hv b' hb' e => ?_⟩
    · rw [List.length_set]
      refine ⟨_, cap, rfl, hle, rfl, _, el, fz, hh', ?_, fun _ => ⟨rfl, ?_, fun q hq => hfz q ?_⟩⟩
      · rw [put_size _ _ _ hle2]; omega
      · rw [put_size _ _ _ hle2, Nat.mul_one]; exact hcs
      · rwa [put_size _ _ _ hle2] at hq
    · rw [hinn]
      refine (RowsRel.set ((N.rows.weak (own' := io3) fun e => by rw [hio e]; rfl)) hlen hj hr (fun e k v _ hv b' hb' e' => ?_) |>.kept fun v hv b' hb' => g.block b' (all v hv b' hb').1 (fun e => (all v hv b' hb').2.1 (by cases e; rfl))).weak fun e => by simpa using e
      exact (hy b' hb').2.2.2 e v (List.mem_of_getElem? hv) e'
    · rw [hinn] at hv
      have e : b = b' := by simpa [blk] using e
      exact (all v hv b' hb').2.1 e.symm
  refine ⟨_, hst, ?_⟩
  have := putNest H2 i (upd_self _ _ _) hρ N2 (fun b' hb' => by
    have e : b = b' := by simpa [blk] using hb'
    subst e
    exact hfree.grow K g hn) (fun v hv b' hb' => by
    rw [hinn] at hv
    exact (all v hv b' hb').2.2.grow K g hn)
  rwa [upd_twice] at this
theorem nest_store {o : Oper} {t : TypeId} {x y : Operand} (ho : o.op = .store t x y) {v : AVal} {u : List (Nat × AObj)} (S : Sim w0 A W nt sh U ρ tm F a w) (hs : Sub F0 F) (h : Gives (nestEff P o.op tm F0 id) v u) : Out w0 A W U ρ F id cnt v u ((execOp a.eval o).run P w) := by
  rw [ho] at h
  simp only [nestEff] at h
  split at h
  rotate_left
  exact h.fail.elim
  rename_i n i j sz off hn hx
  have hxr := ev_rel S x
  rw [hx] at hxr
  obtain ⟨b, o', len, cap, hρ, hj, hv⟩ := hxr
  split at h
  rotate_left
  exact h.fail.elim
  rename_i io s xss hF
  split at h
  rotate_left
  exact h.fail.elim
  rename_i hc
  simp only [Bool.and_eq_true, beq_iff_eq] at hc
  obtain ⟨⟨rfl, rfl⟩, rfl⟩ := hc
  simp only [Nat.mul_one, Nat.add_zero] at hv
  have hF' := hs.blob hF
  have run : ∀ w', (∃ p q c, a.eval y = .slice p q c) → (storeCells ⟨b, o' + j, none⟩ [a.eval y]).run P w = .ok () w' → (execOp a.eval o).run P w = .ok .skip w' := by
    rintro w' ⟨p, q, c, e⟩ hst
    have hcc : (a.eval y).cells = #[a.eval y] := by rw [e]; rfl
    simp [execOp, ho, hv, Instr.storeAt, Instr.sureAddr, storeVar, run_sizeOf hn, hcc, hst]
  split at h
  · rename_i ys o k hin
    split at h
    exact h.fail.elim
    rename_i hki
    obtain ⟨rfl, rfl⟩ := h.val
    have hk : ∃ s' ys', ev tm y = .c (.slc k) ∧ F0 k = .row o s' ys' ∧ castRow s s' ys' = some ys := by
      unfold innerR at hin
      split at hin
      · cases hin
      · split at hin <;> try cases hin
        split at hin <;> cases hin
        exact ⟨_, _, by assumption, by assumption, by assumption⟩
      · cases hin
    obtain ⟨s', ys', hev, hFk, hcast⟩ := hk
    obtain ⟨rfl, hcast⟩ := castRow_eq hcast
    cases hcast
    have hFk' := hs.row hFk
    obtain ⟨p, c, e1, hr, hρk⟩ := row_of S hs hev hFk
    rw [← e1] at hr hρk
    have hki : k ≠ i := by simpa using hki
    have hob := S.obj i
    rw [hF', hρ] at hob
    obtain ⟨_, e, hob⟩ := hob
    cases e
    have N := nest_iff.1 hob
    -- the row is given away, or frozen
    have H1 : HR w0 A W U ρ (upd F [(k, if (o && io) = true then .dead else .row false s' ys')]) w := by
      cases (o && io) with
      | true => exact S.toHR.kill k
      | false =>
        refine S.toHR.re k _ (by rw [hFk']; exact noCell_row) noCell_row ⟨_, hρk, hr.weak (fun e => by cases e)⟩ (fun b' hb' => by rw [hFk']; exact hb') (fun b' hb' => by simp [fpw, AObj.own] at hb')
    have hFi : upd F [(k, if (o && io) = true then AObj.dead else .row false s' ys')] i = .blob true (.rows true io s') xss := by rw [upd_ne F _ (Ne.symm hki), hF']
    obtain ⟨w', hst, H2⟩ := store_row (P := P) (io3 := io && o) H1 hFi hρ hj (ys := ys') (y := a.eval y) (fun e => by rw [Bool.and_eq_true] at e; exact e.1) (hr.weak fun e => by rw [Bool.and_eq_true] at e; exact e.2) (fun b' hb' => by
      have hfpk : fp (F k) (ρ k) w b' := by rw [hFk', hρk]; exact hb'
      refine ⟨S.toHR.flt hfpk, fun e => ?_, ?_, fun e v hv e' => ?_⟩
      · subst e
        exact S.toHR.only (i := i) (b := b') (by rw [hF']; exact noCell_blob) (by rw [hF', hρ]; exact fpw_rows.2 (.inl ⟨rfl, rfl⟩)) k hki hfpk
      · refine FreeB.kill ?_ i
        cases hoi : (o && io) with
        | true =>
          rw [Bool.and_comm, hoi]
          refine S.toHR.freed (by rw [hFk']; exact noCell_row) true hfpk (fun _ => ?_)
          rw [Bool.and_eq_true] at hoi
          rw [hFk', hρk, hoi.1]
          exact ⟨rfl, hb'⟩
        | false =>
          rw [Bool.and_comm io o, hoi]
          rw [hoi] at H1
          refine H1.shared (i := k) (by rw [upd_self]; exact noCell_row) (by rw [upd_self, hρk]; exact hb') ?_
          rw [upd_self]
          simp [fpw, AObj.own]
      · rw [Bool.and_eq_true] at e
        refine S.toHR.only (i := k) (b := b') (by rw [hFk']; exact noCell_row) (by rw [hFk', hρk, e.2]; exact ⟨rfl, hb'⟩) i (Ne.symm hki) ?_
        rw [hF', hρ]
        exact fp_rows.2 (.inr ⟨v, hv, e'⟩))
    refine ⟨w', ρ, ⟨undef, .inr ⟨run w' hr.shape hst, rfl⟩, trivial⟩, ext.refl ρ, fun _ _ => rfl, ?_⟩
    exact H2.weak fun _ h => h.1
  · rename_i ys o hin
    obtain ⟨rfl, rfl⟩ := h.val
    have hk : ev tm y = .c .nils ∧ ys = [] := by
      unfold innerR at hin
      split at hin
      · cases hin; exact ⟨by assumption, rfl⟩
      · split at hin <;> try cases hin
        split at hin <;> cases hin
      · cases hin
    obtain ⟨hev, rfl⟩ := hk
    have hyr := ev_rel S y
    rw [hev] at hyr
    have hyr : a.eval y = .slice none 0 0 := hyr
    obtain ⟨w', hst, H2⟩ := store_row (P := P) (io3 := io) S.toHR hF' hρ hj (ys := []) (y := a.eval y) (fun e => e) (by rw [hyr]; exact ⟨none, 0, rfl, Nat.le_refl _, rfl, rfl⟩) (fun b' hb' => by rw [hyr] at hb'; simp [blk] at hb')
    refine ⟨w', ρ, ⟨undef, .inr ⟨run w' ⟨_, _, _, hyr⟩ hst, rfl⟩, trivial⟩, ext.refl ρ, fun _ _ => rfl, ?_⟩
    exact H2.weak fun _ h => h.1
  · exact h.fail.elim

/-! ### An inner row taken out -/
theorem take_row {o : Oper} {t : TypeId} {x : Operand} (ho : o.op = .load t x) (S : Sim w0 A W nt sh U ρ tm F a w) (hid : U id) {i j b o' len cap : Nat} {oo : Bool} {s : Sh} {xss : List (List s.T)} (hF' : F i = .blob true (.rows oo true s) xss)
    (hρ : ρ i = some (.slice (some ⟨b, o', none⟩) len cap)) (hj : j < len) (hv : a.eval x = .pointer (some ⟨b, o' + (j * 1 + 0), none⟩)) (hl : loadB P t = some (1, false)) :
    Out w0 A W U ρ F id 1 (.c (.slc id)) [(i, .blob true (.hole oo s) ((j, id), xss)), (id, .row true s (xss.getD j []))] ((execOp a.eval o).run P w) := by
  have hobj := S.obj i
  rw [hρ, hF'] at hobj
  obtain ⟨hd, e, hob⟩ := hobj
  cases e
  have N := nest_iff.1 hob
  have hlen : len = xss.length := by obtain ⟨p, c, e, _⟩ := N.out; cases e; rfl
  subst hlen
  obtain ⟨xs, hxs⟩ : ∃ xs, xss[j]? = some xs := ⟨xss[j], by simp [hj]⟩
  obtain ⟨y, hy, hr⟩ := N.rows.1 j xs hxs
  have hg : xss.getD j [] = xs := by rw [List.getD_eq_getElem?_getD, hxs]; rfl
  rw [hg]
  have hcell := N.out.raw.cell hy
  simp only [Nat.mul_one, Nat.add_zero] at hv
  obtain ⟨z, hz, hzz⟩ := run_loadVar hl w b (o' + j) [y] rfl (fun k q hq => by
    cases k with
    | zero => simp at hq; subst hq; simpa using hcell
    | succ k => simp at hq)
  have hzz : [y] = [z] := hzz
  cases hzz
  have hrun : (execOp a.eval o).run P w = .ok (.value y) w := by simp [execOp, ho, hv, Instr.loadAt, Instr.sureAddr, hz]
  have hnc : NoCell (F i) := by rw [hF']; exact noCell_blob
  have hii : i ≠ id := fun e => by rw [S.fre i (by rw [e]; exact hid)] at hρ; cases hρ
  have hfp : ∀ b', (blk (some (.slice (some ⟨b, o', none⟩) xss.length cap)) = some b' ∨ ∃ v ∈ inn (.slice (some ⟨b, o', none⟩) xss.length cap) w, blk (some v) = some b') → fp (F i) (ρ i) w b' := fun b' h => by rw [hF', hρ]; exact fp_rows.2 h
  have hym := List.mem_of_getElem? hy
  have K := S.toHR.kill i
  -- the row by itself
  have hyf : ∀ b', blk (some y) = some b' → FreeB w0 A W ρ (upd F [(i, .dead)]) w true b' := fun b' hb' =>
    S.toHR.freed hnc true (hfp b' (.inr ⟨y, hym, hb'⟩)) (fun _ => by rw [hF', hρ]; exact fpw_rows.2 (.inr ⟨rfl, y, hym, hb'⟩))
  obtain ⟨ρ', g1, g2, g3, g4⟩ := K.newObj id (.row true s xs) y hid noCell_row (fun ρ' _ => ⟨y, rfl, hr.weak fun _ => rfl⟩) (fun b' hb' => (hyf b' hb').weak (fun e => by cases e)) (fun b' hb' => hyf b' hb'.2)
  have hFd : upd F [(i, .dead)] id = .dead := by rw [upd_ne F _ (Ne.symm hii)]; exact S.toHR.dead_of hid
  have hρi : ρ' i = some (.slice (some ⟨b, o', none⟩) xss.length cap) := by rw [g2 i hii]; exact hρ
  have hin : (inn (.slice (some ⟨b, o', none⟩) xss.length cap) w)[j]? = some y := hy
  -- what is left
  have free : ∀ (q : Bool) (b' : Nat), fp (F i) (ρ i) w b' → (q = true → fpw (F i) (ρ i) w b') → blk (some y) ≠ some b' → FreeB w0 A W ρ' (upd (upd F [(i, .dead)]) [(id, .row true s xs)]) w q b' := fun q b' h1 h2 h3 => by
    refine ((S.toHR.freed hnc q h1 h2).bind hFd g2).add (fun e => ?_) (fun _ e => ?_)
    · rw [g3] at e; exact h3 e.2
    · rw [g3] at e; exact h3 e
  have hole : HR w0 A W (fun k => U k ∧ k ≠ id) ρ' (upd (upd (upd F [(i, .dead)]) [(id, .row true s xs)]) [(i, .blob true (.hole oo s) ((j, id), xss))]) w := by
    have inner : ∀ {k : Nat} {v : Value} {b' : Nat}, (inn (.slice (some ⟨b, o', none⟩) xss.length cap) w)[k]? = some v → (!(k == j)) = true → blk (some v) = some b' → blk (some y) ≠ some b' := fun {k v b'} hv hk hb' e => by
      have hkj : k ≠ j := by simpa using hk
      exact N.rows.2 rfl k j v y b' hkj hv hy hb' e
    refine g4.put i _ (by rw [upd_ne _ _ hii, upd_self]) noCell_blob ⟨_, hρi, N.out, ⟨fun k ys hk hs => ?_, fun _ k k' v v' b' hne _ _ _ _ hv hv' hb' => N.rows.2 rfl k k' v v' b' hne hv hv' hb'⟩, fun _ b' hb' => ?_, hj, y, hy, g3⟩ (fun b' hb' => ?_) (fun b' hb' => ?_)
    · rw [Nat.zero_add]
      exact N.rows.1 k ys hk
    · obtain ⟨k, v, hv, _, hb'⟩ := hb'
      exact N.off rfl v (List.mem_of_getElem? hv) b' hb'
    · rw [hρi] at hb'
      rcases hb' with hb' | ⟨hd', e, k, v, hv, hm, hb'⟩
      · exact free false b' (hfp b' (.inl hb')) (fun e => by cases e) (fun e => N.off rfl y hym b' e hb')
      · cases e
        exact free false b' (hfp b' (.inr ⟨v, List.mem_of_getElem? hv, hb'⟩)) (fun e => by cases e) (inner hv hm hb')
    · rw [hρi] at hb'
      rcases hb' with ⟨q, hb'⟩ | ⟨_, hd', e, k, v, hv, hm, hb'⟩
      · refine free true b' (hfp b' (.inl hb')) (fun _ => ?_) (fun e => N.off rfl y hym b' e hb')
        rw [hF', hρ]
        exact fpw_rows.2 (.inl ⟨q, hb'⟩)
      · cases e
        refine free true b' (hfp b' (.inr ⟨v, List.mem_of_getElem? hv, hb'⟩)) (fun _ => ?_) (inner hv hm hb')
        rw [hF', hρ]
        exact fpw_rows.2 (.inr ⟨rfl, v, List.mem_of_getElem? hv, hb'⟩)
  rw [upd_swap (upd F [(i, .dead)]) (Ne.symm hii), upd_twice] at hole
  refine ⟨w, ρ', ⟨_, .inl hrun, g3, hr.shape⟩, g1, fun k hk => g2 k (by omega), ?_⟩
  exact hole.weak fun k hk => ⟨hk.1, by omega⟩
theorem nestS_sound {m : Nat} {o : Oper} {v : AVal} {u : List (Nat × AObj)} (S : Sim w0 A W nt sh U ρ tm F a w) (hs : Sub F0 F) (hid : ∀ i, id ≤ i → i < id + cntO P o.op → U i) (h : Gives (nestS P m o.op tm F0 id) v u) : Out w0 A W U ρ F id (cntO P o.op) v u ((execOp a.eval o).run P w) := by
  unfold nestS at h
  split at h
  rotate_left
  · rename_i t len parts ho
    split at h
    rotate_left
    exact h.fail.elim
    rename_i e hu
    split at h
    exact h.fail.elim
    rename_i hc
    have hc := of_nn hc
    simp only [Bool.and_eq_true, beq_iff_eq, decide_eq_true_eq] at hc
    obtain ⟨⟨_, hps⟩, hmax⟩ := hc
    split at h
    rotate_left
    exact h.fail.elim
    rename_i s hr
    split at h
    rotate_left
    exact h.fail.elim
    rename_i yss b0 l hi
    obtain ⟨rfl, rfl⟩ := h.val
    have hcn : cntO P o.op = 1 := by rw [ho]; rfl
    rw [hcn] at hid ⊢
    exact lit_rows ho S hs (hid id (Nat.le_refl _) (by omega)) hu hr hps hmax hi (fun e => by cases e)
  · exact h.fail.elim
  rename_i t x ho
  have hcn : cntO P o.op = if sliceT P t then 1 else 0 := by rw [ho]; rfl
  split at h
  rotate_left
  exact h.fail.elim
  rename_i n ag i j sz off hl hx
  have hxr := ev_rel S x
  rw [hx] at hxr
  obtain ⟨b, o', len, cap, hρ, hj, hv⟩ := hxr
  split at h
  rotate_left
  exact h.fail.elim
  rename_i oo s xss hF
  split at h
  rotate_left
  exact h.fail.elim
  rename_i hc
  simp only [Bool.and_eq_true, beq_iff_eq, Bool.not_eq_true'] at hc
  obtain ⟨⟨⟨⟨⟨_, rfl⟩, rfl⟩, rfl⟩, rfl⟩, hst⟩ := hc
  rw [hst, if_pos rfl] at hcn
  rw [hcn] at hid ⊢
  obtain ⟨_, rfl, rfl⟩ := h.chk
  exact take_row ho S (hid id (Nat.le_refl _) (by omega)) (hs.blob hF) hρ hj hv hl

/-! ### An inner row put back -/
theorem back_row (H : HR w0 A W U ρ F w) {p k j : Nat} (hpk : k ≠ p) {oo : Bool} {s : Sh} {xss : List (List s.T)} {ys : List s.T} (hp : F p = .blob true (.hole oo s) ((j, k), xss)) (hk : F k = .row true s ys) :
    HR w0 A W U ρ (upd F [(k, .dead), (p, .blob true (.rows oo true s) (xss.set j ys))]) w := by
  have hob := H.obj p
  rw [hp] at hob
  obtain ⟨hd, hρ, h1, ⟨h2, h3⟩, h4, h5, y, h6, h7⟩ := hob
  have hok := H.obj k
  rw [hk] at hok
  obtain ⟨y', e0, hr⟩ := hok
  have h7 : ρ k = some y := h7
  rw [h7] at e0
  obtain rfl := Option.some.inj e0
  clear e0
  have h5 : j < xss.length := h5
  have h6 : (inn hd w)[j]? = some y := h6
  have hlen : (inn hd w).length = xss.length := OutRel.len h1
  have hnk : NoCell (F k) := by rw [hk]; exact noCell_row
  have hnp : NoCell (F p) := by rw [hp]; exact noCell_blob
  have hset : (inn hd w).set j y = inn hd w := by
    apply List.ext_getElem?
    intro q
    by_cases hq : q = j
    · subst hq; rw [List.getElem?_set_self (by omega), h6]
    · rw [List.getElem?_set_ne (Ne.symm hq)]
  have fpk : ∀ b, blk (some y) = some b → fpw (F k) (ρ k) w b := fun b hb => by rw [hk, h7]; exact ⟨rfl, hb⟩
  have fpo : ∀ b, blk (some hd) = some b → fp (F p) (ρ p) w b := fun b hb => by rw [hp, hρ]; exact .inl hb
  have fpi : ∀ (q : Nat) (v : Value) (b : Nat), q ≠ j → (inn hd w)[q]? = some v → blk (some v) = some b → fpw (F p) (ρ p) w b := fun q v b hq hv hb => by
    rw [hp, hρ]
    exact .inr ⟨rfl, hd, rfl, q, v, hv, by show (!(q == j)) = true; simp [hq], hb⟩
  have yoff : ∀ b, blk (some y) = some b → Nat → fp (F p) (ρ p) w b → True → False := fun b hb _ hf _ => H.only hnk (fpk b hb) p (Ne.symm hpk) hf
  have N : Nest true oo true s (xss.set j ys) hd w := by
    refine ⟨by rw [List.length_set]; exact h1, ?_, fun _ v hv b hb eo => ?_⟩
    · refine ⟨fun q xs hq => ?_, fun _ q q' v v' b hne hv hv' hb hb' => ?_⟩
      · by_cases hqj : q = j
        · subst hqj
          rw [List.getElem?_set_self h5] at hq
          cases hq
          exact ⟨y, h6, hr⟩
        · rw [List.getElem?_set_ne (Ne.symm hqj)] at hq
          have := h2 q xs hq (by show ((0 + q) == j) = false; simp [hqj])
          rw [Nat.zero_add] at this
          obtain ⟨v, hv, hrv⟩ := this
          exact ⟨v, hv, hrv⟩
      · by_cases hqj : q = j
        · subst hqj
          rw [h6] at hv
          cases hv
          exact yoff b hb 0 (fpw_fp (fpi q' v' b (Ne.symm hne) hv' hb')) trivial
        · by_cases hqj' : q' = j
          · subst hqj'
            rw [h6] at hv'
            cases hv'
            exact yoff b hb' 0 (fpw_fp (fpi q v b hqj hv hb)) trivial
          · exact h3 rfl q q' v v' b hne (Nat.zero_le _) (Nat.zero_le _) (by show (q == j) = false; simp [hqj]) (by show (q' == j) = false; simp [hqj']) hv hv' hb hb'
    · obtain ⟨q, hq, rfl⟩ := List.mem_iff_getElem.1 hv
      by_cases hqj : q = j
      · subst hqj
        rw [List.getElem?_eq_getElem hq] at h6
        cases h6
        exact yoff b hb 0 (fpo b eo) trivial
      · exact h4 rfl b ⟨q, _, List.getElem?_eq_getElem hq, by show (!(q == j)) = true; simp [hqj], hb⟩ eo
  have K := H.kill k
  have hpk' : upd F [(k, .dead)] p = .blob true (.hole oo s) ((j, k), xss) := by rw [upd_ne F _ (Ne.symm hpk), hp]
  have K2 := K.kill p
  have hnp' : NoCell (upd F [(k, .dead)] p) := by rw [hpk']; exact noCell_blob
  have := putNest K2 p (upd_self _ _ _) hρ N (fun b hb => by
    refine K.freed hnp' oo (by rw [hpk', hρ]; exact .inl hb) (fun e => ?_)
    rw [hpk', hρ]
    exact .inl ⟨by show (true && oo) = true; rw [e]; rfl, hb⟩) (fun v hv b hb => by
    obtain ⟨q, hq, rfl⟩ := List.mem_iff_getElem.1 hv
    by_cases hqj : q = j
    · subst hqj
      rw [List.getElem?_eq_getElem hq] at h6
      cases h6
      exact (H.freed hnk true (fpw_fp (fpk b hb)) (fun _ => fpk b hb)).kill p
    · have hf := fpi q _ b hqj (List.getElem?_eq_getElem hq) hb
      rw [hp] at hf
      exact K.freed hnp' true (by rw [hpk']; exact fpw_fp hf) (fun _ => by rw [hpk']; exact hf))
  rw [upd_twice] at this
  exact this
theorem backEff_sound {p : Nat} {k : Option Nat} {e : Eff} {v : AVal} {u : List (Nat × AObj)} {cnt : Nat} {run : Result Next} (hs : Sub F0 F) (h : Gives (backEff F0 p k e) v u) (hE : ∀ {v : AVal} {u : List (Nat × AObj)}, Gives e v u → Out w0 A W U ρ F id cnt v u run) : Out w0 A W U ρ F id cnt v u run := by
  unfold backEff at h
  split at h
  rotate_left
  exact h.fail.elim
  rename_i v1 u1 k1
  split at h
  rotate_left
  exact h.fail.elim
  rename_i u2 hb
  obtain ⟨rfl, rfl⟩ := h.val
  obtain ⟨w', ρ', h1, h2, h3, h4⟩ := hE (.inl rfl)
  refine ⟨w', ρ', h1, h2, h3, ?_⟩
  rw [upd_append]
  unfold backU at hb
  split at hb
  rotate_left
  cases hb
  rename_i k' s' ys
  split at hb
  rotate_left
  cases hb
  rename_i oo s d hF
  split at hb
  rotate_left
  cases hb
  rename_i hc
  split at hb
  rotate_left
  cases hb
  rename_i ys1 hcast
  cases hb
  obtain ⟨rfl, hcast⟩ := castRow_eq hcast
  cases hcast
  simp only [Bool.and_eq_true, beq_iff_eq, Bool.not_eq_true', beq_eq_false_iff_ne] at hc
  obtain ⟨⟨rfl, hdk⟩, hkp⟩ := hc
  obtain ⟨⟨j, k2⟩, xss⟩ := d
  have hdk : k2 = k' := hdk
  subst hdk
  refine back_row h4 hkp (j := j) ?_ (upd_self _ _ _)
  rw [upd_ne F _ (Ne.symm hkp)]
  exact hs.blob hF

theorem OutRel.view {o : Bool} {n cap l r : Nat} {p : Option Addr} (h : OutRel o 1 n (.slice p n cap) w) (hl : l ≤ r) (hr : r ≤ n) :
    OutRel false 1 (r - l) (sliced p l r cap 1) w ∧ inn (sliced p l r cap 1) w = ((inn (.slice p n cap) w).drop l).take (r - l) ∧ (∀ b, blk (some (sliced p l r cap 1)) = some b → blk (some (.slice p n cap)) = some b) := by
  obtain ⟨p', cap', e, hle, hp⟩ := h
  cases e
  unfold sliced
  cases p with
  | none =>
    obtain ⟨rfl, rfl⟩ := hp
    have : r = 0 := by omega
    subst this
    have : l = 0 := by omega
    subst this
    exact ⟨⟨none, 0, rfl, Nat.le_refl _, rfl, rfl⟩, rfl, fun b hb => by simp [blk] at hb⟩
  | some ad =>
    obtain ⟨hsp, cs, el, fz, hh, hb2, _⟩ := hp
    obtain ⟨b, off, sp⟩ := ad
    simp only at hsp hh hb2
    subst hsp
    by_cases hcl : cap = l
    · have h0 : r - l = 0 := by omega
      simp only [hcl, if_true]
      refine ⟨⟨_, l - l, rfl, by omega, rfl, cs, el, fz, hh, by simp only; omega, fun e => by cases e⟩, ?_, fun b' hb' => hb'⟩
      rw [h0, List.take_zero]
      simp only [inn, hh]
      rw [List.take_zero]
    · simp only [if_neg hcl, Option.map_some, add_lit]
      refine ⟨⟨_, cap - l, rfl, by omega, rfl, cs, el, fz, hh, by simp only; omega, fun e => by cases e⟩, ?_, fun b' hb' => hb'⟩
      simp only [inn, hh, Nat.mul_one]
      rw [List.drop_take, List.drop_drop, List.take_take]
      congr 1
      omega
theorem RowsRel.take {own : Bool} {s : Sh} {xss : List (List s.T)} {vs : List Value} (h : RowsRel own s xss vs w) (n : Nat) : RowsRel own s (xss.take n) (vs.take n) w := by
  refine ⟨fun k xs hk => ?_, fun ho k k' v v' b hne hv hv' => ?_⟩
  · rw [List.getElem?_take] at hk
    split at hk
    · rename_i hkn
      obtain ⟨v, hv, hr⟩ := h.1 k xs hk
      exact ⟨v, by rw [List.getElem?_take, if_pos hkn]; exact hv, hr⟩
    · cases hk
  · rw [List.getElem?_take] at hv hv'
    split at hv <;> try cases hv
    split at hv' <;> try cases hv'
    exact h.2 ho k k' v v' b hne hv hv'
theorem RowsRel.drop {own : Bool} {s : Sh} {xss : List (List s.T)} {vs : List Value} (h : RowsRel own s xss vs w) (n : Nat) : RowsRel own s (xss.drop n) (vs.drop n) w := by
  refine ⟨fun k xs hk => ?_, fun ho k k' v v' b hne hv hv' => ?_⟩
  · rw [List.getElem?_drop] at hk
    obtain ⟨v, hv, hr⟩ := h.1 _ xs hk
    exact ⟨v, by rw [List.getElem?_drop]; exact hv, hr⟩
  · rw [List.getElem?_drop] at hv hv'
    exact h.2 ho _ _ v v' b (by omega) hv hv'
/-- The first rows, away from the others. -/
theorem part_rows (H : HR w0 A W U ρ F w) (hid : U id) {i : Nat} {oo : Bool} {s : Sh} {xss : List (List s.T)} (hF : F i = .blob true (.rows oo true s) xss) {p : Option Addr} {cap r : Nat} (hρ : ρ i = some (.slice p xss.length cap)) (hr : r ≤ xss.length) :
    ∃ ρ', ext ρ ρ' ∧ (∀ k, k ≠ id → ρ' k = ρ k) ∧ HR w0 A W (fun k => U k ∧ k ≠ id) ρ' (upd F [(i, .blob true (.tail s) (r, xss.drop r)), (id, .blob true (.rows false true s) (xss.take r))]) w ∧ CRel ρ' (.mp id) (sliced p 0 r cap 1) := by
  have hob := H.obj i
  rw [hF, hρ] at hob
  obtain ⟨hd, e, hob⟩ := hob
  cases e
  have N := nest_iff.1 hob
  have hnc : NoCell (F i) := by rw [hF]; exact noCell_blob
  obtain ⟨v1, v2, v3⟩ := N.out.view (Nat.zero_le r) hr
  rw [Nat.sub_zero, List.drop_zero] at v2
  rw [Nat.sub_zero] at v1
  have hii : i ≠ id := fun e => by rw [H.fre i (by rw [e]; exact hid)] at hρ; cases hρ
  have hl : (inn (.slice p xss.length cap) w).length = xss.length := N.out.len
  have fpo : ∀ b, blk (some (.slice p xss.length cap)) = some b → fp (F i) (ρ i) w b := fun b hb => by rw [hF, hρ]; exact fp_rows.2 (.inl hb)
  have fpi : ∀ v ∈ inn (.slice p xss.length cap) w, ∀ b, blk (some v) = some b → fpw (F i) (ρ i) w b := fun v hv b hb => by rw [hF, hρ]; exact fpw_rows.2 (.inr ⟨rfl, v, hv, hb⟩)
  have K := H.kill i
  have htake : ∀ v ∈ inn (sliced p 0 r cap 1) w, v ∈ inn (.slice p xss.length cap) w := fun v hv => by rw [v2] at hv; exact List.mem_of_mem_take hv
  have N2 : Nest true false true s (xss.take r) (sliced p 0 r cap 1) w := by
    refine ⟨?_, ?_, fun _ v hv b hb e => N.off rfl v (htake v hv) b hb (v3 b e)⟩
    · rw [List.length_take, Nat.min_eq_left hr]; exact v1
    · rw [v2]; exact N.rows.take r
  obtain ⟨ρ', g1, g2, g3, g4⟩ := newNest K hid N2 (fun b hb => H.freed hnc false (fpo b (v3 b hb)) (fun e => by cases e)) (fun v hv b hb => H.freed hnc true (fpw_fp (fpi v (htake v hv) b hb)) (fun _ => fpi v (htake v hv) b hb))
  have hFd : upd F [(i, .dead)] id = .dead := by rw [upd_ne F _ (Ne.symm hii)]; exact H.dead_of hid
  have hρi : ρ' i = some (.slice p xss.length cap) := by rw [g2 i hii]; exact hρ
  obtain ⟨g5, _⟩ := g4
  -- the others
  have hsec : ∀ (k : Nat) (v : Value) (b : Nat), r ≤ k → (inn (.slice p xss.length cap) w)[k]? = some v → blk (some v) = some b → ¬ fp (.blob true (.rows false true s) (xss.take r)) (ρ' id) w b := fun k v b hk hv hb e => by
    rw [g5] at e
    rcases fp_rows.1 e with e | ⟨v', hv', e⟩
    · exact N.off rfl v (List.mem_of_getElem? hv) b hb (v3 b e)
    · rw [v2] at hv'
      obtain ⟨q, hq, rfl⟩ := List.mem_iff_getElem.1 hv'
      rw [List.length_take] at hq
      rw [List.getElem_take] at e
      exact N.rows.2 rfl k q v _ b (by omega) hv (List.getElem?_eq_getElem (by omega)) hb e
  have T : HR w0 A W (fun k => U k ∧ k ≠ id) ρ' (upd (upd (upd F [(i, .dead)]) [(id, .blob true (.rows false true s) (xss.take r))]) [(i, .blob true (.tail s) (r, xss.drop r))]) w := by
    refine g3.put i _ (by rw [upd_ne _ _ hii, upd_self]) noCell_blob ⟨_, hρi, ?_, ⟨fun k ys hk _ => ?_, fun _ k k' v v' b hne _ _ _ _ hv hv' hb => N.rows.2 rfl k k' v v' b hne hv hv' hb⟩, fun _ b hb => ?_⟩ (fun b hb => ?_) (fun b hb => ?_)
    · have e : r + (xss.drop r).length = xss.length := by rw [List.length_drop]; omega
      show OutRel false 1 (r + (xss.drop r).length) _ w
      rw [e]
      exact N.out.weak (fun e => by cases e)
    · have hk : (xss.drop r)[k]? = some ys := hk
      rw [List.getElem?_drop] at hk
      exact N.rows.1 (r + k) ys hk
    · obtain ⟨k, v, hv, _, hb⟩ := hb
      exact N.off rfl v (List.mem_of_getElem? hv) b hb
    · rw [hρi] at hb
      rcases hb with hb | ⟨hd', e, k, v, hv, hm, hb⟩
      · refine ((H.freed hnc false (fpo b hb) (fun e => by cases e)).bind hFd g2).add (fun e => ?_) (fun e => by cases e)
        rw [g5] at e
        rcases fpw_rows.1 e with ⟨q, _⟩ | ⟨_, v, hv, e⟩
        · cases q
        · exact N.off rfl v (htake v hv) b e hb
      · cases e
        have hm : r ≤ k := of_decide_eq_true hm
        have hf := fpi v (List.mem_of_getElem? hv) b hb
        refine ((H.freed hnc false (fpw_fp hf) (fun e => by cases e)).bind hFd g2).add (fun e => hsec k v b hm hv hb (fpw_fp e)) (fun e => by cases e)
    · rw [hρi] at hb
      rcases hb with ⟨q, _⟩ | ⟨_, hd', e, k, v, hv, hm, hb⟩
      · cases q
      · cases e
        have hm : r ≤ k := of_decide_eq_true hm
        have hf := fpi v (List.mem_of_getElem? hv) b hb
        exact ((H.freed hnc true (fpw_fp hf) (fun _ => hf)).bind hFd g2).add (fun e => hsec k v b hm hv hb (fpw_fp e)) (fun _ e => hsec k v b hm hv hb e)
  rw [upd_swap (upd F [(i, .dead)]) (Ne.symm hii), upd_twice] at T
  refine ⟨ρ', g1, g2, T, g5, ?_⟩
  obtain ⟨q, c, e, _⟩ := v1
  exact .inr ⟨q, _, c, e⟩
/-- The rows behind an index. -/
theorem tail_rows (H : HR w0 A W U ρ F w) (hid : U id) {i : Nat} {s : Sh} {k : Nat} {xss : List (List s.T)} (hF : F i = .blob true (.tail s) (k, xss)) {p : Option Addr} {cap : Nat} (hρ : ρ i = some (.slice p (k + xss.length) cap)) :
    ∃ ρ', ext ρ ρ' ∧ (∀ k, k ≠ id → ρ' k = ρ k) ∧ HR w0 A W (fun k => U k ∧ k ≠ id) ρ' (upd F [(i, .dead), (id, .blob true (.rows false true s) xss)]) w ∧ CRel ρ' (.mp id) (sliced p k (k + xss.length) cap 1) := by
  have hob := H.obj i
  rw [hF, hρ] at hob
  obtain ⟨hd, e, h1, ⟨h2, h3⟩, h4⟩ := hob
  cases e
  have h1 : OutRel false 1 (k + xss.length) (.slice p (k + xss.length) cap) w := h1
  have hnc : NoCell (F i) := by rw [hF]; exact noCell_blob
  obtain ⟨v1, v2, v3⟩ := h1.view (Nat.le_add_right k xss.length) (Nat.le_refl _)
  rw [Nat.add_sub_cancel_left] at v1 v2
  have hl := h1.len
  have hv2 : inn (sliced p k (k + xss.length) cap 1) w = (inn (.slice p (k + xss.length) cap) w).drop k := by
    rw [v2, List.take_of_length_le (by rw [List.length_drop, hl]; omega)]
  have hin : ∀ v ∈ inn (sliced p k (k + xss.length) cap 1) w, ∀ b, blk (some v) = some b → inr (.tail s) (k, xss) (.slice p (k + xss.length) cap) w b := fun v hv b hb => by
    rw [hv2] at hv
    obtain ⟨q, hq⟩ := List.getElem?_of_mem hv
    rw [List.getElem?_drop] at hq
    exact ⟨k + q, v, hq, decide_eq_true (by omega), hb⟩
  have N2 : Nest true false true s xss (sliced p k (k + xss.length) cap 1) w := by
    refine ⟨v1, ⟨fun q xs hq => ?_, fun _ q q' v v' b hne hv hv' hb => ?_⟩, fun _ v hv b hb e => h4 rfl b (hin v hv b hb) (v3 b e)⟩
    · obtain ⟨v, hv, hr⟩ := h2 q xs hq rfl
      exact ⟨v, by rw [hv2, List.getElem?_drop]; exact hv, hr⟩
    · rw [hv2, List.getElem?_drop] at hv hv'
      exact h3 rfl _ _ v v' b (by omega) (Nat.le_add_right _ _) (Nat.le_add_right _ _) rfl rfl hv hv' hb
  obtain ⟨ρ', g1, g2, g3, g4⟩ := newNest (H.kill i) hid N2 (fun b hb => H.freed hnc false (by rw [hF, hρ]; exact .inl (v3 b hb)) (fun e => by cases e)) (fun v hv b hb => by
    have hf : fpw (F i) (ρ i) w b := by rw [hF, hρ]; exact .inr ⟨rfl, _, rfl, hin v hv b hb⟩
    exact H.freed hnc true (fpw_fp hf) (fun _ => hf))
  exact ⟨ρ', g1, g2, g3, g4⟩
theorem nest_slice {o : Oper} {t : TypeId} {x : Operand} {lo hi : Option Operand} (ho : o.op = .slice t x lo hi none) {v : AVal} {u : List (Nat × AObj)} (S : Sim w0 A W nt sh U ρ tm F a w) (hs : Sub F0 F) (hid : U id) (h : Gives (nestEff P o.op tm F0 id) v u) : Out w0 A W U ρ F id 1 v u ((execOp a.eval o).run P w) := by
  rw [ho] at h
  simp only [nestEff] at h
  split at h
  rotate_left
  exact h.fail.elim
  rename_i e i hu hx
  split at h
  · rename_i oo s xss hF
    split at h
    rotate_left
    exact h.fail.elim
    rename_i hsz
    have hsz : sizeB P e = some 1 := by simpa using hsz
    split at h
    rotate_left
    exact h.fail.elim
    rename_i b q r eb
    obtain ⟨hb, rfl, rfl⟩ := h.chk
    obtain ⟨hF', hρ, hbl⟩ := nest_of S hs hx hF
    have N := nest_iff.1 hbl
    obtain ⟨p, cap, hv, hlc, _⟩ := N.out
    have eb' : sliceB (List.length xss) ((none : Option Operand).map (ev tm)) (hi.map (ev tm)) = some (b, q, r) := eb
    have hq : q = 0 := by
      revert eb
      simp only [sliceB]
      split <;> intro e <;> simp_all
    subst hq
    obtain ⟨hr, hlr, hrl⟩ := run_bounds (P := P) S true (List.length xss) cap hlc (fun e => by cases e) none hi eb' hb
    have hrun : (execOp a.eval o).run P w = .ok (.value (sliced p 0 r cap 1)) w := by
      have hr' : (Instr.sliceBounds true (List.length xss) cap none (hi.map a.eval) none).run P w = .ok (0, r, cap) w := hr
      simp [execOp, ho, Instr.sliceAt, Instr.slice, underlying, hu, hv, hr', run_sizeOf hsz, sliced]
    rw [hv] at hρ
    obtain ⟨ρ', g1, g2, g3, g4⟩ := part_rows (xss := xss) S.toHR hid hF' hρ hrl
    exact ⟨w, ρ', ⟨_, .inl hrun, g4⟩, g1, fun k hk => g2 k (by omega), g3.weak fun k hk => ⟨hk.1, by omega⟩⟩
  · rename_i s d hF
    split at h
    rotate_left
    exact h.fail.elim
    rename_i hsz
    have hsz : sizeB P e = some 1 := by simpa using hsz
    split at h
    rotate_left
    exact h.fail.elim
    rename_i b l r eb
    obtain ⟨hb, rfl, rfl⟩ := h.chk
    rw [Bool.and_eq_true] at hb
    obtain ⟨hb, hld⟩ := hb
    have hld : l = d.1 := by simpa using hld
    subst hld
    obtain ⟨hF', hρ, hbl⟩ := nest_of S hs hx hF
    obtain ⟨k, xss⟩ := d
    obtain ⟨p, cap, hv, hlc, _⟩ := hbl.1
    have hv : a.eval x = .slice p (k + List.length xss) cap := hv
    have hlc : k + List.length xss ≤ cap := hlc
    have eb' : sliceB (k + List.length xss) (lo.map (ev tm)) ((none : Option Operand).map (ev tm)) = some (b, k, r) := eb
    obtain ⟨hr, hlr, hrl⟩ := run_bounds (P := P) S true (k + List.length xss) cap hlc (fun e => by cases e) lo none eb' hb
    have hrr : r = k + List.length xss := by
      revert eb
      simp only [sliceB]
      split <;> intro e <;> simp_all
    subst hrr
    have hrun : (execOp a.eval o).run P w = .ok (.value (sliced p k (k + List.length xss) cap 1)) w := by
      have hr' : (Instr.sliceBounds true (k + List.length xss) cap (lo.map a.eval) none none).run P w = .ok (k, k + List.length xss, cap) w := hr
      simp [execOp, ho, Instr.sliceAt, Instr.slice, underlying, hu, hv, hr', run_sizeOf hsz, sliced]
    rw [hv] at hρ
    obtain ⟨ρ', g1, g2, g3, g4⟩ := tail_rows (xss := xss) S.toHR hid hF' hρ
    exact ⟨w, ρ', ⟨_, .inl hrun, g4⟩, g1, fun k hk => g2 k (by omega), g3.weak fun k hk => ⟨hk.1, by omega⟩⟩
  · exact h.fail.elim
theorem nest_buildSlice {o : Oper} {t : TypeId} {len : Nat} {parts : Array (Nat × Operand)} (ho : o.op = .buildSlice t len parts) {v : AVal} {u : List (Nat × AObj)} (S : Sim w0 A W nt sh U ρ tm F a w) (hs : Sub F0 F) (hid : U id) (h : Gives (nestEff P o.op tm F0 id) v u) : Out w0 A W U ρ F id 1 v u ((execOp a.eval o).run P w) := by
  rw [ho] at h
  simp only [nestEff] at h
  split at h
  rotate_left
  exact h.fail.elim
  rename_i e hu
  split at h
  exact h.fail.elim
  rename_i hc
  have hc := of_nn hc
  simp only [Bool.and_eq_true, beq_iff_eq, decide_eq_true_eq] at hc
  obtain ⟨hps, hmax⟩ := hc
  split at h
  · rename_i s hr
    split at h
    rotate_left
    exact h.fail.elim
    rename_i yss b l hi
    obtain ⟨rfl, rfl⟩ := h.val
    exact lit_rows ho S hs hid hu hr hps hmax hi (fun e => e)
  · split at h
    rotate_left
    exact h.fail.elim
    rename_i cs hr
    split at h
    rotate_left
    exact h.fail.elim
    rename_i xs hx
    obtain ⟨rfl, rfl⟩ := h.val
    have hcl := (recsB_parts hr).2.2.2
    exact lit_recs ho S hid hu hr hps (Nat.le_trans (Nat.mul_le_mul hmax hcl) (by decide)) hx
/-- Every operation at slices of slices. -/
theorem nestEff_sound {o : Oper} {v : AVal} {u : List (Nat × AObj)} (S : Sim w0 A W nt sh U ρ tm F a w) (hs : Sub F0 F) (hid : ∀ i, id ≤ i → i < id + cntO P o.op → U i) (h : Gives (nestEff P o.op tm F0 id) v u) : Out w0 A W U ρ F id (cntO P o.op) v u ((execOp a.eval o).run P w) := by
  cases ho : o.op
  case load => rw [← ho]; exact nest_load ho S hs hid h
  case store => exact nest_store ho S hs h
  case indexAddr => exact nest_indexAddr ho S hs h
  case buildSlice => exact nest_buildSlice ho S hs (hid _ (Nat.le_refl _) (by rw [ho]; simp [cntO])) h
  case slice t x lo hi mx =>
    cases mx with
    | none => exact nest_slice ho S hs (hid _ (Nat.le_refl _) (by rw [ho]; simp [cntO])) h
    | some m => rw [ho] at h; exact (Gives.fail h).elim
  case call c =>
    cases hb : c.callee
    case builtin b =>
      by_cases hl : b = .len
      · subst hl
        exact nest_len ho hb S hs h
      · by_cases ha : b = .append
        · subst ha
          have hc : cntO P (.call c) = 1 := by simp [cntO, hb]
          rw [hc]
          exact nest_append ho hb S hs (hid _ (Nat.le_refl _) (by rw [ho, hc]; omega)) h
        · rw [ho] at h
          simp only [nestEff, hb] at h
          cases b <;> first | exact absurd rfl hl | exact absurd rfl ha | exact h.fail.elim
    all_goals (rw [ho] at h; simp only [nestEff, hb] at h; exact h.fail.elim)
  all_goals (rw [ho] at h; exact (Gives.fail h).elim)
theorem effT_sound {o : Oper} {v : AVal} {u : List (Nat × AObj)} (S : Sim w0 A W nt sh U ρ tm F a w) (hs : Sub F0 F) (hid : ∀ i, id ≤ i → i < id + cntO P o.op → U i) (h : Gives (effT P o.op o.type tm F0 id) v u) : Out w0 A W U ρ F id (cntO P o.op) v u ((execOp a.eval o).run P w) := by
  unfold effT at h
  split at h
  · exact nestEff_sound S hs hid h
  · exact eff_sound S hs hid h
end
end Go.Proofs.YtiaagflfiphioaaDoorS
