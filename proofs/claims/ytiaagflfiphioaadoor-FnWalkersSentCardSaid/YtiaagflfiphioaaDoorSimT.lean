/- One operation, calls among them. -/
import Derived.Test.YtiaagflfiphioaaDoorSimS
import Derived.Test.YtiaagflfiphioaaDoorSimNe
namespace Go.Proofs.YtiaagflfiphioaaDoorS
open Go
set_option linter.unusedVariables false
set_option linter.unusedSimpArgs false

/-! ### What an operation does hangs on its operands alone -/
theorem capL_congr {tm tm' : Nat → AVal} : ∀ (l : List Operand), (∀ x ∈ l, ev tm x = ev tm' x) → capL tm l = capL tm' l
  | [], _ => rfl
  | x :: r, h => by
    simp only [capL]
    rw [h x (by simp), capL_congr r fun y hy => h y (by simp [hy])]
theorem eff_congr {P : Program} {tm tm' : Nat → AVal} (o : Op) (ty : TypeId) (F : Nat → AObj) (id : Nat) (h : ∀ x ∈ o.operands, ev tm x = ev tm' x) : eff P o ty tm F id = eff P o ty tm' F id := by
  have pairs : ∀ ps : Array (Nat × Operand), (∀ x ∈ (ps.toList.map (·.2)).toArray, ev tm x = ev tm' x) → (ps.toList.map fun (i, x) => (i, ev tm x)) = (ps.toList.map fun (i, x) => (i, ev tm' x)) := fun ps hp =>
    List.map_congr_left fun p hm => by
      obtain ⟨i, x⟩ := p
      simp only [hp x (by simp only [List.mem_toArray]; exact List.mem_map.2 ⟨(i, x), hm, rfl⟩)]
  cases o <;> simp only [Op.operands] at h <;> simp only [eff]
  case move x => rw [h x (by simp)]
  case assign x => rw [h x (by simp)]
  case pick c x y => rw [h c (by simp), h x (by simp), h y (by simp)]
  case box t x => rw [h x (by simp)]
  case build t ps => rw [pairs ps h]
  case buildSlice t n ps => rw [pairs ps h]
  case load t x => rw [h x (by simp)]
  case store t x y => rw [h x (by simp), h y (by simp)]
  case nilCheck x => rw [h x (by simp)]
  case binOp op t x y yt => rw [h x (by simp), h y (by simp)]
  case unOp op t x => rw [h x (by simp)]
  case convert s d x => rw [h x (by simp)]
  case makeFunc f fs cs => rw [capL_congr cs.toList fun x hx => h x (by simp at hx; simp [hx])]
  case makeSlice t x y => rw [h x (by simp), h y (by simp)]
  case slice t x lo hi mx =>
    have h1 : lo.map (ev tm) = lo.map (ev tm') := by cases lo with | none => rfl | some y => simp only [Option.map_some]; rw [h y (by simp)]
    have h2 : hi.map (ev tm) = hi.map (ev tm') := by cases hi with | none => rfl | some y => simp only [Option.map_some]; rw [h y (by simp)]
    rw [h x (by simp), h1, h2]
  case fieldAddr t x f => rw [h x (by simp)]
  case field t x f => rw [h x (by simp)]
  case indexAddr t x y => rw [h x (by simp), h y (by simp)]
  case index t x y => rw [h x (by simp), h y (by simp)]
  case extract x i => rw [h x (by simp)]
  case range t x => rw [h x (by simp)]
  case next x s => rw [h x (by simp)]
  case makeMap t r => cases r <;> rfl
  case lookup t x y b => simp only [mapEff]; rw [h x (by simp), h y (by simp)]
  case mapUpdate t x y z => simp only [mapEff]; rw [h x (by simp), h y (by simp), h z (by simp)]
  case call c =>
    have : c.args.toList.map (ev tm) = c.args.toList.map (ev tm') := List.map_congr_left fun x hx => h x (by simp [Call.operands]; exact .inr (by simpa using hx))
    rw [this]
theorem nestEff_congr {P : Program} {tm tm' : Nat → AVal} (o : Op) (F : Nat → AObj) (id : Nat) (h : ∀ x ∈ o.operands, ev tm x = ev tm' x) : nestEff P o tm F id = nestEff P o tm' F id := by
  have pairs : ∀ ps : Array (Nat × Operand), (∀ x ∈ (ps.toList.map (·.2)).toArray, ev tm x = ev tm' x) → (ps.toList.map fun (i, x) => (i, ev tm x)) = (ps.toList.map fun (i, x) => (i, ev tm' x)) := fun ps hp =>
    List.map_congr_left fun p hm => by
      obtain ⟨i, x⟩ := p
      simp only [hp x (by simp only [List.mem_toArray]; exact List.mem_map.2 ⟨(i, x), hm, rfl⟩)]
  cases o <;> simp only [Op.operands] at h <;> simp only [nestEff]
  case load t x => rw [h x (by simp)]
  case store t x y => rw [h x (by simp), h y (by simp)]
  case indexAddr t x y => rw [h x (by simp), h y (by simp)]
  case buildSlice t n ps => rw [pairs ps h]
  case slice t x lo hi mx =>
    have h1 : lo.map (ev tm) = lo.map (ev tm') := by cases lo with | none => rfl | some y => simp only [Option.map_some]; rw [h y (by simp)]
    have h2 : hi.map (ev tm) = hi.map (ev tm') := by cases hi with | none => rfl | some y => simp only [Option.map_some]; rw [h y (by simp)]
    cases mx with
    | none => simp only []; rw [h x (by simp), h1, h2]
    | some m => rfl
  case call c =>
    have : c.args.toList.map (ev tm) = c.args.toList.map (ev tm') := List.map_congr_left fun x hx => h x (by simp [Call.operands]; exact .inr (by simpa using hx))
    rw [this]
theorem nestS_congr {P : Program} {tm tm' : Nat → AVal} (m : Nat) (o : Op) (F : Nat → AObj) (id : Nat) (h : ∀ x ∈ o.operands, ev tm x = ev tm' x) : nestS P m o tm F id = nestS P m o tm' F id := by
  have pairs : ∀ ps : Array (Nat × Operand), (∀ x ∈ (ps.toList.map (·.2)).toArray, ev tm x = ev tm' x) → (ps.toList.map fun (i, x) => (i, ev tm x)) = (ps.toList.map fun (i, x) => (i, ev tm' x)) := fun ps hp =>
    List.map_congr_left fun p hm => by
      obtain ⟨i, x⟩ := p
      simp only [hp x (by simp only [List.mem_toArray]; exact List.mem_map.2 ⟨(i, x), hm, rfl⟩)]
  cases o <;> simp only [Op.operands] at h <;> simp only [nestS]
  case load t x => rw [h x (by simp)]
  case buildSlice t n ps => rw [pairs ps h]
theorem effT_congr {P : Program} {tm tm' : Nat → AVal} (o : Op) (ty : TypeId) (F : Nat → AObj) (id : Nat) (h : ∀ x ∈ o.operands, ev tm x = ev tm' x) : effT P o ty tm F id = effT P o ty tm' F id := by
  unfold effT
  rw [eff_congr o ty F id h, nestEff_congr o F id h]
theorem storeId_congr {tm tm' : Nat → AVal} (o : Op) (h : ∀ x ∈ o.operands, ev tm x = ev tm' x) : storeId o tm = storeId o tm' := by
  cases o <;> simp only [Op.operands] at h <;> simp only [storeId]
  case store t x y => rw [h x (by simp)]
/-! ### Calls -/
def CallsF (P : Program) (f : FuncId) (args : Array Value) (w : World) (R : Value → World → Prop) : Prop :=
  match (callFunc f args).run P w with
  | .ok (.enter g ars) w' => Calls P g ars w' fun e w'' => ∃ v, e = .returned v ∧ R v w''
  | .ok (.value v) w' => R v w'
  | _ => False
/-- What a call of a function does, told by data. -/
def FnSpec (P : Program) (f : FuncId) (ins : List Slot) (ios : List Nat) (res : List Slot) (d : Dl ins) (r : RF res (pick ins ios)) : Prop :=
  ∀ (A : List Nat) (W : WL) (ρ : Rho) (args : Array Value) (w : World), VRelL ρ (unpackL ins d 0 0).1 args.toList → HR w A W (fun i => (unpackL ins d 0 0).2.length ≤ i) ρ (getF (ups 0 (unpackL ins d 0 0).2)) w →
    CallsF P f args w fun v w' => ∃ Ux ρx, VRel ρx (resAVal (unpackL res (RF.res _ _ r) 0 0).1) v ∧ VRelL ρx (unpackL (pick ins ios) (RF.io _ _ r) 0 (cntL res)).1 (pick args.toList ios) ∧
      HR w A W Ux ρx (getF (ups 0 ((unpackL res (RF.res _ _ r) 0 0).2 ++ (unpackL (pick ins ios) (RF.io _ _ r) 0 (cntL res)).2))) w'
/-- What a step of an operation gives. -/
def OpWp (P : Program) (o : Oper) (v : AVal) (u : List (Nat × AObj)) (id cnt : Nat) (tmT : Nat → AVal) (F0 : Nat → AObj) : Prop :=
  ∀ {w0 : World} {A : List Nat} {W : WL} {nt : Nat} {sh : Nat → Value} {U : Nat → Prop} {ρ : Rho} {tm : Nat → AVal} {F : Nat → AObj} {a : Act} {w : World},
    Sim w0 A W nt sh U ρ tm F a w → (∀ x ∈ o.op.operands, ev tm x = ev tmT x) → Sub F0 F → (∀ i, id ≤ i → i < id + cnt → U i) → ∀ (next : Act → World → Prop) (Q : Exit → Act → World → Prop),
    (∀ x w' ρ', VRel ρ' v x → ext ρ ρ' → (∀ i, ¬ (id ≤ i ∧ i < id + cnt) → ρ' i = ρ i) → HR w0 A W (fun i => U i ∧ ¬ (id ≤ i ∧ i < id + cnt)) ρ' (upd F u) w' → next (a.put o.dst x) w') → o.wp P a w next Q
theorem effS_congr {P : Program} {tm tm' : Nat → AVal} (m : Nat) (o : Op) (F : Nat → AObj) (id : Nat) (h : ∀ x ∈ o.operands, ev tm x = ev tm' x) : effS P m o tm F id = effS P m o tm' F id := by
  cases o <;> simp only [Op.operands] at h <;> simp only [effS]
  case slice t x lo hi mx =>
    have h1 : lo.map (ev tm) = lo.map (ev tm') := by cases lo with | none => rfl | some y => simp only [Option.map_some]; rw [h y (by simp)]
    have h2 : hi.map (ev tm) = hi.map (ev tm') := by cases hi with | none => rfl | some y => simp only [Option.map_some]; rw [h y (by simp)]
    cases mx with
    | none => simp only []; rw [h x (by simp), h1, h2]
    | some m => rfl
theorem opWp_effS {P : Program} {m : Nat} {o : Oper} {v : AVal} {u : List (Nat × AObj)} {id : Nat} {tmT : Nat → AVal} {F0 : Nat → AObj} (h : Gives (effS P m o.op tmT F0 id) v u) : OpWp P o v u id (cntO P o.op) tmT F0 := by
  intro w0 A W nt sh U ρ tm F a w S hops hs hid next Q hn
  rw [← effS_congr m o.op F0 id hops] at h
  obtain ⟨w', ρ', ⟨x, hx, hv⟩, h1, h2, h3⟩ := effS_sound S hs hid h
  unfold Oper.wp
  rcases hx with hx | ⟨hx, rfl⟩
  · rw [hx]; exact hn x w' ρ' hv h1 h2 h3
  · rw [hx]; exact hn undef w' ρ' hv h1 h2 h3
theorem opWp_out {P : Program} {o : Oper} {v : AVal} {u : List (Nat × AObj)} {id cnt : Nat} {tmT : Nat → AVal} {F0 : Nat → AObj}
    (h : ∀ {w0 : World} {A : List Nat} {W : WL} {nt : Nat} {sh : Nat → Value} {U : Nat → Prop} {ρ : Rho} {tm : Nat → AVal} {F : Nat → AObj} {a : Act} {w : World}, Sim w0 A W nt sh U ρ tm F a w → (∀ x ∈ o.op.operands, ev tm x = ev tmT x) → Sub F0 F → (∀ i, id ≤ i → i < id + cnt → U i) → Out w0 A W U ρ F id cnt v u ((execOp a.eval o).run P w)) : OpWp P o v u id cnt tmT F0 := by
  intro w0 A W nt sh U ρ tm F a w S hops hs hid next Q hn
  obtain ⟨w', ρ', ⟨x, hx, hv⟩, h1, h2, h3⟩ := h S hops hs hid
  unfold Oper.wp
  rcases hx with hx | ⟨hx, rfl⟩
  · rw [hx]; exact hn x w' ρ' hv h1 h2 h3
  · rw [hx]; exact hn undef w' ρ' hv h1 h2 h3
theorem opWp_nestS {P : Program} {m : Nat} {o : Oper} {v : AVal} {u : List (Nat × AObj)} {id : Nat} {tmT : Nat → AVal} {F0 : Nat → AObj} (h : Gives (nestS P m o.op tmT F0 id) v u) : OpWp P o v u id (cntO P o.op) tmT F0 :=
  opWp_out fun S hops hs hid => nestS_sound S hs hid (by rw [nestS_congr m o.op F0 id hops]; exact h)
theorem opWp_effT {P : Program} {o : Oper} {v : AVal} {u : List (Nat × AObj)} {id : Nat} {tmT : Nat → AVal} {F0 : Nat → AObj} (h : Gives (effT P o.op o.type tmT F0 id) v u) : OpWp P o v u id (cntO P o.op) tmT F0 :=
  opWp_out fun S hops hs hid => effT_sound S hs hid (by rw [effT_congr o.op o.type F0 id hops]; exact h)
theorem opWp_back {P : Program} {o : Oper} {p : Nat} {v : AVal} {u : List (Nat × AObj)} {id : Nat} {tmT : Nat → AVal} {F0 : Nat → AObj} (h : Gives (backEff F0 p (storeId o.op tmT) (effT P o.op o.type tmT F0 id)) v u) : OpWp P o v u id (cntO P o.op) tmT F0 :=
  opWp_out fun {w0 A W nt sh U ρ tm F a w} S hops hs hid => by
    rw [← effT_congr o.op o.type F0 id hops, ← storeId_congr o.op hops] at h
    exact backEff_sound hs h fun g => effT_sound S hs hid g
theorem evs_rel {P : Program} {w0 : World} {A : List Nat} {W : WL} {nt : Nat} {sh : Nat → Value} {U : Nat → Prop} {ρ : Rho} {tm : Nat → AVal} {F : Nat → AObj} {a : Act} {w : World} (S : Sim w0 A W nt sh U ρ tm F a w) : ∀ xs : List Operand, VRelL ρ (xs.map (ev tm)) (xs.map a.eval)
  | [] => trivial
  | x :: xs => ⟨ev_rel S x, evs_rel (P := P) S xs⟩
theorem cOf_caps {ρ : Rho} : ∀ {l : List (Nat × Nat)} {vs : List Value}, CapsAt ρ l vs → VRelL ρ (cOf (capCells l)) vs
  | [], [], _ => trivial
  | (_, _) :: _, _ :: _, ⟨h, g⟩ => ⟨h, cOf_caps g⟩
/-- The blocks of what was packed. -/
noncomputable def blks (ρ : Rho) (F : Nat → AObj) (w : World) (own : Bool) (T : Acc) : List Nat :=
  (List.range w.heap.size).filter fun b => @decide (∃ o j, (o, some j) ∈ T ∧ (own = true → o = true ∧ fpw (F j) (ρ j) w b) ∧ fp (F j) (ρ j) w b) (Classical.propDecidable _)
theorem mem_blks {ρ : Rho} {F : Nat → AObj} {w : World} {own : Bool} {T : Acc} {b : Nat} : b ∈ blks ρ F w own T ↔ b < w.heap.size ∧ ∃ o j, (o, some j) ∈ T ∧ (own = true → o = true ∧ fpw (F j) (ρ j) w b) ∧ fp (F j) (ρ j) w b := by
  unfold blks
  rw [List.mem_filter, List.mem_range]
  exact and_congr Iff.rfl (@decide_eq_true_iff _ (Classical.propDecidable _))
theorem opWp_call {P : Program} {o : Oper} {c : Call} (ho : o.op = .call c) {fo : Operand} (hc : c.callee = .value fo) {tmT : Nat → AVal} {F0 : Nat → AObj} {cal : List (Nat × Nat)} {e : Nat} {f : FuncId} {args : List AVal}
    (ht : target cal o.dst (ev tmT fo) (c.args.toList.map (ev tmT)) = some (e, f, args)) {ins : List Slot} {ios : List Nat} {res : List Slot} {d : Dl ins} {T : Acc} (hp : packL ins args F0 [] = some (d, T)) (hsep : sepOk T = true)
    {f' : FuncId} {r : RF res (pick ins ios)} (hspec : FnSpec P f' ins ios res d r) {id cnt : Nat} {v : AVal} {u : List (Nat × AObj)} (hfin : finF f' ins ios res f args T F0 id r = some (v, u)) (hcnt : cntL res + nestL (pick ins ios) ≤ cnt) :
    OpWp P o v u id cnt tmT F0 := by
  intro w0 A W nt sh U ρ tm F a w S hops hs hid next Q hn
  have hfo : ev tm fo = ev tmT fo := hops fo (by rw [ho]; simp [Op.operands, Call.operands, hc])
  have hargs : c.args.toList.map (ev tm) = c.args.toList.map (ev tmT) := List.map_congr_left fun x hx => hops x (by rw [ho]; simp only [Op.operands, Call.operands, hc]; simp; exact .inr (by simpa using hx))
  rw [← hfo, ← hargs] at ht
  unfold target at ht
  split at ht
  rotate_left
  cases ht
  rename_i f0 caps hfv
  have hargs' : args = c.args.toList.map (ev tm) ++ cOf (capCells caps) ∧ f = f0 := by
    split at ht
    · cases ht; exact ⟨rfl, rfl⟩
    · split at ht <;> cases ht
      exact ⟨rfl, rfl⟩
  obtain ⟨rfl, rfl⟩ := hargs'
  have hfr := ev_rel S fo
  rw [hfv] at hfr
  obtain ⟨cs, hfe, hcaps⟩ := hfr
  have hrun : (execOp a.eval o).run P w = (callFunc f (c.args.map a.eval ++ cs)).run P w := by
    simp [execOp, ho, resolve, hc, hfe, Deferred.ofValue, invoke]
  have hvals : VRelL ρ (c.args.toList.map (ev tm) ++ cOf (capCells caps)) (c.args.map a.eval ++ cs).toList := by
    rw [Array.toList_append, Array.toList_map]
    exact (evs_rel (P := P) S _).append (cOf_caps hcaps)
  obtain ⟨B, hB, PL⟩ := packL_sound (ρ := ρ) ins hp
  rw [List.nil_append] at hB
  subst hB
  have hff : f' = f := by
    unfold finF at hfin
    split at hfin
    · rename_i h; exact h.1
    · cases hfin
  subst hff
  have H1 := S.toHR.packed T (unpackL ins d 0 0).2 PL.len (fun i q h => (PL.obj i q h).sub hs) PL.grp hsep (w1 := w) (A1 := blks ρ F w false T) (W1 := ⟨blks ρ F w true T, W.w, W.q⟩) (Fr.refl w _ (S.fr.wok fun b hb => by obtain ⟨_, o, j, h1, h4, h2⟩ := mem_blks.1 hb; exact S.locfw j b (h4 rfl).2))
    (fun i o j b h1 h2 => .inr (mem_blks.2 ⟨S.toHR.flt h2, o, j, List.mem_of_getElem? h1, nofun, h2⟩)) (fun i j b h1 h2 => .inr (mem_blks.2 ⟨S.toHR.flt (fpw_fp h2), true, j, List.mem_of_getElem? h1, fun _ => ⟨rfl, h2⟩, fpw_fp h2⟩))
  have H2 := hspec (blks ρ F w false T) ⟨blks ρ F w true T, W.w, W.q⟩ (rhoA ρ T) (c.args.map a.eval ++ cs) w (PL.rel.rel hvals) H1
  unfold Oper.wp
  rw [hrun]
  have fin : ∀ x w', (∃ Ux ρx, VRel ρx (resAVal (unpackL res (RF.res _ _ r) 0 0).1) x ∧ VRelL ρx (unpackL (pick ins ios) (RF.io _ _ r) 0 (cntL res)).1 (pick (c.args.map a.eval ++ cs).toList ios) ∧
      HR w (blks ρ F w false T) ⟨blks ρ F w true T, W.w, W.q⟩ Ux ρx (getF (ups 0 ((unpackL res (RF.res _ _ r) 0 0).2 ++ (unpackL (pick ins ios) (RF.io _ _ r) 0 (cntL res)).2))) w') → next (a.put o.dst x) w' := by
    rintro x w' ⟨Ux, ρx, hv, hio, X⟩
    obtain ⟨_, ρ', h1, h2, h3, h4⟩ := fin_sound S.toHR hs hp hsep hfin (fun i h1 h2 => hid i h1 (by omega)) hvals X
      (fun b hb => by obtain ⟨_, o, j, h1, _, h2⟩ := mem_blks.1 hb; exact ⟨j, ⟨o, h1⟩, h2⟩) (fun b hb => by obtain ⟨_, o, j, h1, h4, h2⟩ := mem_blks.1 hb; obtain ⟨rfl, h5⟩ := h4 rfl; exact ⟨j, h1, h5⟩) hv hio
    exact hn x w' ρ' h1 h2 (fun i hi => h3 i (by omega)) (h4.weak fun i hi => ⟨hi.1, by omega⟩)
  unfold CallsF at H2
  generalize (callFunc f' (c.args.map a.eval ++ cs)).run P w = run at H2
  cases run with
  | halt x w' => exact H2.elim
  | ok nx w' =>
    cases nx with
    | enter g ars => exact Calls.mono H2 fun e w'' he => by obtain ⟨x, rfl, hx⟩ := he; exact fin x w'' hx
    | value x => exact fin x w' H2
    | _ => exact H2.elim
end Go.Proofs.YtiaagflfiphioaaDoorS
