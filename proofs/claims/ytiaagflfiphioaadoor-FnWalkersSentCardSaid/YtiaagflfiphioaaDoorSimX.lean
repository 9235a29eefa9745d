/- Code, entries; the soundness of the evaluation. -/
import Derived.Test.YtiaagflfiphioaaDoorSimW
namespace Go.Proofs.YtiaagflfiphioaaDoorS
open Go
set_option linter.unusedVariables false
set_option linter.unusedSimpArgs false

theorem loop_round {P : Program} {c : Code} {Q : Exit → Act → World → Prop} {a : Act} {w : World} (h : c.wp P (Exit.then (LoopWp P c Q) Q) a w) : LoopWp P c Q a w := by
  intro b k cs
  obtain ⟨e, a₁, w₁, hq, harr⟩ := h b (.inLoop c :: k) cs
  cases e with
  | normal =>
    obtain ⟨e₂, a₂, w₂, hq₂, harr₂⟩ := hq b k cs
    exact ⟨e₂, a₂, w₂, hq₂, .of_steps (Steps.trans harr (.one step_inLoop)) harr₂⟩
  | exit id => exact ⟨_, a₁, w₁, hq, .pass (x := .inLoop c) rfl (fun _ _ => .inl (by simp)) harr⟩
  | goto l => exact ⟨_, a₁, w₁, hq, .pass (x := .inLoop c) rfl (fun _ _ => .inl (by simp)) harr⟩
  | ret => exact ⟨_, a₁, w₁, hq, .pass (x := .inLoop c) rfl (fun _ _ => .inl (by simp)) harr⟩
  | panic ch => exact ⟨_, a₁, w₁, hq, .pass (x := .inLoop c) rfl (fun _ _ => .inl (by simp)) harr⟩
  | outgrown => exact ⟨_, a₁, w₁, hq, .pass (x := .inLoop c) rfl (fun _ _ => .inl (by simp)) harr⟩
theorem loop_of {P : Program} {c : Code} {Q : Exit → Act → World → Prop} {a : Act} {w : World} (h : LoopWp P c Q a w) : (Code.loop c).wp P Q a w := by
  intro b k cs
  obtain ⟨e, a', w', hq, harr⟩ := h b k cs
  exact ⟨e, a', w', hq, .of_steps (.one step_loop) harr⟩
/-- What the table of entries must keep. -/
def EntOk (P : Program) : Ent → Prop
  | .fn f fn _ _ _ _ _ => P.funcs[f]? = some fn ∧ (fn.name == "runtime.NumGoroutine") = false
  | .fr f ins ios res sem => ∀ d r, sem d = some r → FnSpec P f ins ios res d r
  | .pt f fn _ _ _ _ _ _ => P.funcs[f]? = some fn
/-- Temporaries that were packed. -/
theorem putL_look {ρ ρ' : Rho} {V : Nat → Value} {tm : Nat → AVal} (htm : ∀ t, VRel ρ (tm t) (V t)) {tl : List (Nat × AVal)} (htl : ∀ t, VRel ρ' (St.look tl t) (V t)) (off : Nat) : ∀ (l : List Slot) {vs avs : List AVal}, vs = l.map (fun s => tm (s.src + off)) → VMap ρ ρ' vs avs → ∀ t, VRel ρ' (St.look (putL off l avs ++ tl) t) (V t)
  | [], _, _, _, _, t => by simpa [putL] using htl t
  | s :: r, vs, avs, e, h, t => by
    subst e
    match avs, h with
    | a :: avs, ⟨g, h⟩ =>
      simp only [putL, List.cons_append, St.look]
      by_cases hs : s.src + off = t
      · simp only [hs, beq_self_eq_true, if_true]
        have := g (V (s.src + off)) (htm (s.src + off))
        rwa [hs] at this
      · have : (s.src + off == t) = false := by simp [hs]
        rw [this]
        exact putL_look htm htl off r rfl h t
theorem lookL_map (tm : List (Nat × AVal)) (off : Nat) : ∀ l : List Slot, lookL tm off l = l.map (fun s => St.look tm (s.src + off))
  | [] => rfl
  | s :: r => by simp only [lookL, List.map_cons, lookL_map tm off r]
/-- Packing a state's temporaries. -/
theorem sim_pack {w0 : World} {A : List Nat} {W : WL} {nt : Nat} {sh : Nat → Value} {st : St} {ρ : Rho} {a : Act} {w : World} (S : SimS w0 A W nt sh st ρ a w) {l : List Slot} {d : Dl l} {T : Acc} (hp : packL l (lookL st.tm 0 l) (getF st.F) [] = some (d, T)) (hs : sepOk T = true) :
    ∃ ρ', SimS w0 A W nt sh (stOf l d) ρ' a w := by
  obtain ⟨B, hB, PL⟩ := packL_sound (ρ := ρ) l hp
  rw [List.nil_append] at hB
  subst hB
  have H := S.toHR.packed T (unpackL l d 0 0).2 PL.len PL.obj PL.grp hs (w1 := w0) (A1 := A) (W1 := W) S.fr
    (fun i o j b _ h2 => S.locf j b h2) (fun i j b _ h2 => S.locfw j b h2)
  refine ⟨rhoA ρ T, { toHR := H, tms := fun t => ?_, siz := S.siz, nts := S.nts, dfr := S.dfr }⟩
  have := putL_look (tl := []) S.tms (fun t => trivial) 0 l (lookL_map st.tm 0 l) PL.rel t
  rw [List.append_nil] at this
  exact this
theorem inj_sound {w0 : World} {A : List Nat} {W : WL} {nt : Nat} {sh : Nat → Value} {st : St} {ρ : Rho} {a : Act} {w : World} (S : SimS w0 A W nt sh st ρ a w) {ex : Ex} : ∀ (exs : List (Ex × List Slot)) (q : DS exs), inj exs ex st = some q → ∃ st' ρ', ExitIs ex st' exs q ∧ SimS w0 A W nt sh st' ρ' a w
  | [], q, h => by simp [inj] at h
  | [o], q, h => by
    simp only [inj] at h
    split at h <;> try cases h
    rename_i he
    split at h <;> try cases h
    rename_i d T hp
    split at h <;> try cases h
    rename_i hs
    obtain ⟨ρ', S'⟩ := sim_pack S hp hs
    exact ⟨stOf o.2 q, ρ', ⟨he.symm, rfl⟩, S'⟩
  | o :: p :: r, q, h => by
    simp only [inj] at h
    split at h
    · rename_i he
      split at h <;> try cases h
      rename_i d T hp
      split at h <;> cases h
      rename_i hs
      obtain ⟨ρ', S'⟩ := sim_pack S hp hs
      exact ⟨stOf o.2 d, ρ', ⟨he.symm, rfl⟩, S'⟩
    · split at h <;> cases h
      rename_i d hd
      obtain ⟨st', ρ', h1, h2⟩ := inj_sound S (p :: r) d hd
      exact ⟨st', ρ', h1, h2⟩
theorem exitsK_det {R : Type} {K : Ex → St → Option R} {ex : Ex} {st : St} {q : R} : ∀ (exs : List (Ex × List Slot)) (d : DS exs), exitsK (fun ex vo l => K ex ⟨putL 0 l vo.1, ups 0 vo.2, vo.2.length⟩) exs d = some q → ExitIs ex st exs d → K ex st = some q
  | [], d, _, h => h.elim
  | [o], d, h, hi => by
    obtain ⟨rfl, rfl⟩ := hi
    exact h
  | o :: p :: r, d, h, hi => by
    cases d with
    | inl d =>
      obtain ⟨rfl, rfl⟩ : ex = o.1 ∧ st = stOf o.2 d := hi
      exact h
    | inr d => exact exitsK_det (p :: r) d h hi
section
variable {P : Program} {E : Nat → Ent} {call : CallF E} {R : Type}
theorem isPt_eq {en : Ent} {f : FuncId} {p : List Bool} {loop : Bool} (h : isPt en f p loop = true) : ∃ fn ins exits cal subs, en = .pt f fn p loop ins exits cal subs := by
  cases en with
  | pt f' fn q l ins exits cal subs =>
    simp only [isPt, Bool.and_eq_true, beq_iff_eq] at h
    obtain ⟨⟨rfl, rfl⟩, rfl⟩ := h
    exact ⟨fn, ins, exits, cal, subs, rfl⟩
  | fn => simp [isPt] at h
  | fr => simp [isPt] at h
theorem ent_pt {fn : Func} {f : FuncId} (hf : P.funcs[f]? = some fn) {body c : Code} (hb : fn.body = some body) {p : List Bool} (hat : at? body p = some c) {loop : Bool} (en : Ent) (hok : EntOk P en) (hpt : isPt en f p loop = true) {w0 : World} {A : List Nat} {W : WL} {sh : Nat → Value} {st : St} {ρ : Rho} {a : Act} {w : World}
    (S : SimS w0 A W fn.ntmps sh st ρ a w) {d : Dl en.ins} {T : Acc} (hp : packL en.ins (lookL st.tm 0 en.ins) (getF st.F) [] = some (d, T)) (hs : sepOk T = true) {r : en.R} (hspec : EntSpec P en d r) {K : Ex → St → Option R} {q : R}
    (hK : exitsR (fun ex vo l => K ex ⟨putL 0 l vo.1, ups 0 vo.2, vo.2.length⟩) en r = some q) {Q : Exit → Act → World → Prop} (hQ : ∀ ex st' ρ' a' w', K ex st' = some q → SimS w0 A W fn.ntmps sh st' ρ' a' w' → Q ex.to a' w') :
    if loop then (∃ b, c = .loop b ∧ LoopWp P b Q a w) else c.wp P Q a w := by
  obtain ⟨fn', ins, exits, cal, subs, rfl⟩ := isPt_eq hpt
  have hfn : fn' = fn := by
    have : P.funcs[f]? = some fn' := hok
    rw [hf] at this
    exact (Option.some.inj this).symm
  subst hfn
  obtain ⟨ρ', S'⟩ := sim_pack S hp hs
  exact hspec body c hb hat w0 A W sh ρ' a w S' Q fun ex st' ρ2 a' w' hi S2 => hQ ex st' ρ2 a' w' (exitsK_det exits r hK hi) S2
theorem xsub_sound (hE : ∀ e d r, call e d = some r → EntSpec P (E e) d r) (hP : ∀ e, EntOk P (E e)) {fn : Func} {f : FuncId} (hf : P.funcs[f]? = some fn) {body c : Code} (hb : fn.body = some body) {p : List Bool} (hat : at? body p = some c) {loop : Bool} {e : Nat} {w0 : World} {A : List Nat} {W : WL} {sh : Nat → Value} {st : St} {ρ : Rho} {a : Act} {w : World}
    (S : SimS w0 A W fn.ntmps sh st ρ a w) {K : Ex → St → Option R} {q : R} (h : xsub E call f p loop e st K = some q) {Q : Exit → Act → World → Prop} (hQ : ∀ ex st' ρ' a' w', K ex st' = some q → SimS w0 A W fn.ntmps sh st' ρ' a' w' → Q ex.to a' w') :
    if loop then (∃ b, c = .loop b ∧ LoopWp P b Q a w) else c.wp P Q a w := by
  unfold xsub at h
  split at h <;> try cases h
  rename_i hpt
  split at h <;> try cases h
  rename_i d T hp
  split at h <;> try cases h
  rename_i hs
  cases hc : call e d with
  | none => rw [hc] at h; cases h
  | some r =>
    rw [hc] at h
    exact ent_pt hf hb hat (E e) (hP e) hpt S hp hs (hE e d r hc) h hQ
theorem bool_run {w0 : World} {A : List Nat} {W : WL} {nt : Nat} {sh : Nat → Value} {st : St} {ρ : Rho} {a : Act} {w : World} (S : SimS w0 A W nt sh st ρ a w) {c : Operand} {t : Bool} (h : bool? (ev (St.look st.tm) c) = some t) : a.eval c = .bool t ∧ SimS w0 A W nt sh (setB st c t) ρ a w := by
  have hr := ev_rel S c
  have he : ev (St.look st.tm) c = .c (.bool t) := by
    unfold bool? at h
    split at h <;> cases h
    assumption
  rw [he] at hr
  refine ⟨hr, ?_⟩
  cases c with
  | tmp k =>
    have hk : St.look st.tm k = .c (.bool t) := by
      simp only [ev] at he
      cases hb : Nat.blt k shadow with
      | true => rw [hb] at he; exact he
      | false => rw [hb] at he; cases he
    simp only [setB]
    unfold SimS
    rw [look_same hk]
    exact S
  | _ => exact S
theorem xcode_sound (hE : ∀ e d r, call e d = some r → EntSpec P (E e) d r) (hm : P.follows .mixedOrders = true) (hP : ∀ e, EntOk P (E e)) {fn : Func} {f : FuncId} (hf : P.funcs[f]? = some fn) {body : Code} (hb : fn.body = some body) {w0 : World} {A : List Nat} {W : WL} {sh : Nat → Value} (cal : List (Nat × Nat)) (subs : List (List Bool × Nat)) {q : R} :
    ∀ (c : Code) (p : List Bool) (st : St) (K : Ex → St → Option R), at? body p = some c → xcode P E call cal fn.ntmps f subs c p st K = some q → ∀ (ρ : Rho) (a : Act) (w : World), SimS w0 A W fn.ntmps sh st ρ a w → ∀ Q : Exit → Act → World → Prop,
      (∀ ex st' ρ' a' w', K ex st' = some q → SimS w0 A W fn.ntmps sh st' ρ' a' w' → Q ex.to a' w') → c.wp P Q a w := by
  intro c
  induction c with
  | skip =>
    intro p st K hat h ρ a w S Q hQ
    exact wp_skip (hQ .normal st ρ a w h S)
  | label l =>
    intro p st K hat h ρ a w S Q hQ
    exact wp_label (hQ .normal st ρ a w h S)
  | exit id =>
    intro p st K hat h ρ a w S Q hQ
    exact wp_exit (hQ (.exit id) st ρ a w h S)
  | ret =>
    intro p st K hat h ρ a w S Q hQ
    exact wp_ret (hQ .ret st ρ a w h S)
  | region id ops draw =>
    intro p st K hat h ρ a w S Q hQ
    simp only [xcode] at h
    cases hreg : okReg fn.ntmps draw ops with
    | false => rw [hreg] at h; cases h
    | true =>
      rw [hreg] at h
      simp only [cond_true] at h
      cases draw with
      | false =>
        have hd : dstsOk fn.ntmps ops.toList = true := by simp only [okReg, Bool.and_eq_true] at hreg; exact hreg.1
        have := xops_seq hE ops hd (Q := Q) (st.n + cntOps P E cal ops.toList) (fun st' ρ' a' w' hK hn S' => hQ .normal st' ρ' a' w' hK (by unfold SimS; rw [hn]; exact S'))
          ops.toList [] rfl _ st.n [] ⟨st.tm, st.F, st.n + cntOps P E cal ops.toList⟩ ρ a w h rfl rfl S
        refine wp_region ?_
        rw [List.range_eq_range']
        simpa using this
      | true =>
        refine wp_region_any hm ?_
        have hq := fun st' ρ' a' w' hK (hn : st'.n = st.n + cntOps P E cal ops.toList) S' => hQ .normal st' ρ' a' w' hK (by unfold SimS; rw [hn]; exact S')
        exact xops_draw hE ops hreg st.n ⟨st.tm, st.F, st.n + cntOps P E cal ops.toList⟩ rfl hq h { S with toHR := S.toHR.drew (w.drawn + 1) }
  | seq x y ihx ihy =>
    intro p st K hat h ρ a w S Q hQ
    simp only [xcode] at h
    split at h
    · exact xsub_sound hE hP hf hb hat (loop := false) S h hQ
    · refine wp_seq (ihx (false :: p) st _ (by simp [at?, hat]) h ρ a w S _ fun ex st' ρ' a' w' hK S' => ?_)
      cases ex with
      | normal => exact ihy (true :: p) st' K (by simp [at?, hat]) hK ρ' a' w' S' Q hQ
      | exit id => exact hQ (.exit id) st' ρ' a' w' hK S'
      | ret => exact hQ .ret st' ρ' a' w' hK S'
  | cond c x y ihx ihy =>
    intro p st K hat h ρ a w S Q hQ
    simp only [xcode] at h
    split at h
    · exact xsub_sound hE hP hf hb hat (loop := false) S h hQ
    · split at h <;> try cases h
      rename_i t ht
      obtain ⟨hc, _⟩ := bool_run S ht
      cases t with
      | true => exact wp_cond_true hc (ihx (false :: p) _ K (by simp [at?, hat]) h ρ a w (bool_run S ht).2 Q hQ)
      | false => exact wp_cond_false hc (ihy (true :: p) _ K (by simp [at?, hat]) h ρ a w (bool_run S ht).2 Q hQ)
  | block id x ih =>
    intro p st K hat h ρ a w S Q hQ
    simp only [xcode] at h
    split at h
    · exact xsub_sound hE hP hf hb hat (loop := false) S h hQ
    · refine wp_block (ih (false :: p) st _ (by simp [at?, hat]) h ρ a w S _ fun ex st' ρ' a' w' hK S' => ?_)
      cases ex with
      | normal => exact hQ .normal st' ρ' a' w' (by simpa using hK) S'
      | ret => exact hQ .ret st' ρ' a' w' (by simpa using hK) S'
      | exit i =>
        show (if i = id then Q .normal a' w' else Q (.exit i) a' w')
        by_cases hi : i = id
        · rw [if_pos hi]
          subst hi
          exact hQ .normal st' ρ' a' w' (by simpa using hK) S'
        · rw [if_neg hi]
          have hne : ¬ (Ex.exit i = Ex.exit id) := fun e => hi (by cases e; rfl)
          exact hQ (.exit i) st' ρ' a' w' (by simpa [hi] using hK) S'
  | loop x ih =>
    intro p st K hat h ρ a w S Q hQ
    simp only [xcode] at h
    split at h <;> try cases h
    obtain ⟨b, e, hl⟩ := xsub_sound hE hP hf hb hat (loop := true) S h hQ
    cases e
    exact loop_of hl
  | _ =>
    intro p st K hat h ρ a w S Q hQ
    simp only [xcode] at h
    cases h
end
end Go.Proofs.YtiaagflfiphioaaDoorS
