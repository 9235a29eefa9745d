/- The soundness of the evaluation. -/
import Derived.Test.YtiaagflfiphioaaDoorSimX
namespace Go.Proofs.YtiaagflfiphioaaDoorS
open Go
set_option linter.unusedVariables false
set_option linter.unusedSimpArgs false

section
variable {P : Program} {E : Nat → Ent} {call : CallF E}
def resF (tmps : Array Value) : ResultVar → Sem Value
  | .tmp t => pure (tmps.getD t undef)
  | .cell p t => do loadVar t (← asAddr (tmps.getD p undef))
def retVal : List Value → Value
  | [v] => v
  | vs => .tuple vs.toArray
theorem res_sound {w0 : World} {A : List Nat} {W : WL} {nt : Nat} {sh : Nat → Value} {st : St} {ρ : Rho} {a : Act} {w : World} (S : SimS w0 A W nt sh st ρ a w) : ∀ (l : List ResultVar) (rs : List AVal), resA P st l = some rs →
    ∃ vs, (l.mapM (resF a.tmps)).run P w = .ok vs w ∧ VRelL ρ rs vs
  | [], rs, h => by
    simp only [resA] at h
    cases h
    exact ⟨[], by simp, trivial⟩
  | .tmp t :: r, rs, h => by
    simp only [resA] at h
    split at h <;> cases h
    rename_i l hl
    obtain ⟨vs, h1, h2⟩ := res_sound S r l hl
    refine ⟨a.tmps.getD t undef :: vs, by simp only [List.mapM_cons, resF, Sem.run_bind, Sem.run_pure, Result.andThen_ok, h1], ev_rel S (.tmp t), h2⟩
  | .cell p t :: r, rs, h => by
    simp only [resA] at h
    split at h <;> try cases h
    rename_i n ag i m hlb hp
    split at h <;> try cases h
    rename_i hnm
    split at h <;> cases h
    rename_i cs l hcs hl
    obtain ⟨vs, h1, h2⟩ := res_sound S r l hl
    obtain ⟨b, o, e, g⟩ := ptr_of S hp
    obtain ⟨us, hul, hur, _, huc⟩ := ldCells_rel S.toHR (fun i => .inr rfl) n i b o cs (fun k hk => g k (by have : n ≤ m := by simpa using hnm
                                                                                                            omega)) hcs
    obtain ⟨v, hv1, hv2⟩ := run_loadVar hlb w b o us hul huc
    have e : a.tmps.getD p undef = .pointer (some ⟨b, o, none⟩) := e
    refine ⟨v :: vs, ?_, VRel.of_load hur hv2, h2⟩
    have hone : (resF a.tmps (.cell p t)).run P w = .ok v w := by simp only [resF, Sem.run_bind, e, asAddr, Sem.run_pure, Result.andThen_ok, hv1]
    simp only [List.mapM_cons, Sem.run_bind, hone, Sem.run_pure, Result.andThen_ok, h1]
theorem run_results {fn : Func} {tmps : Array Value} {w : World} {vs : List Value} (h : (fn.results.toList.mapM (resF tmps)).run P w = .ok vs w) : (results fn tmps).run P w = .ok (retVal vs) w := by
  have e : results fn tmps = (do
    let vs ← fn.results.mapM (resF tmps)
    pure (if h : vs.size = 1 then vs[0] else .tuple vs)) := rfl
  rw [e, Array.mapM_eq_mapM_toList]
  simp only [Sem.run_bind, map_eq_pure_bind, h, Result.andThen_ok, Sem.run_pure]
  match vs with
  | [] => rfl
  | [v] => rfl
  | a :: b :: r => simp [retVal]
theorem trel_of {ρ : Rho} : ∀ {avs : List AVal} {vs : List Value}, (∀ a ∈ avs, a.isV = true) → VRelL ρ avs vs → TRel ρ (tupOf avs) vs
  | [], [], _, _ => trivial
  | [], _ :: _, _, h => h.elim
  | _ :: _, [], _, h => h.elim
  | a :: avs, v :: vs, hv, ⟨h, g⟩ => by
    refine ⟨?_, trel_of (fun x hx => hv x (by simp [hx])) g⟩
    cases a with
    | c x => exact ⟨x, rfl, h⟩
    | agg l => obtain ⟨cs, e, f⟩ := h; exact ⟨cs, e, f⟩
    | tup l => have := hv (.tup l) (by simp); simp [AVal.isV] at this
theorem resAVal_rel {ρ : Rho} {avs : List AVal} {vs : List Value} (hv : ∀ a ∈ avs, a.isV = true) (h : VRelL ρ avs vs) : VRel ρ (resAVal avs) (retVal vs) := by
  match avs, vs, h with
  | [], [], _ => exact ⟨#[], rfl, trivial⟩
  | [a], [v], h => exact h.1
  | a :: b :: r, v :: u :: s, h => exact ⟨_, rfl, trel_of hv h⟩
theorem of_isV (ag : Bool) (cs : List Cell) : (AVal.of ag cs).isV = true := by
  cases ag
  · cases cs <;> rfl
  · rfl
theorem unpackL_isV : ∀ (l : List Slot) (d : Dl l) (b n : Nat), ∀ a ∈ (unpackL l d b n).1, a.isV = true
  | [], _, _, _, a, h => by simp [unpackL] at h
  | [s], d, b, n, a, h => by
    simp only [unpackL, List.mem_singleton] at h
    rw [h]
    exact of_isV _ _
  | s :: t :: r, d, b, n, a, h => by
    simp only [unpackL, List.mem_cons] at h
    rcases h with h | h
    · rw [h]; exact of_isV _ _
    · exact unpackL_isV (t :: r) d.2 b _ a h
theorem RF.res_mk : ∀ (res io : List Slot) (d : Dl res) (e : Dl io), RF.res res io (RF.mk res io d e) = d
  | _, [], _, _ => rfl
  | _, _ :: _, _, _ => rfl
theorem RF.io_mk : ∀ (res io : List Slot) (d : Dl res) (e : Dl io), RF.io res io (RF.mk res io d e) = e
  | _, [], _, e => rfl
  | _, _ :: _, _, _ => rfl
theorem srcsOk_get : ∀ {l : List Slot} {k nt : Nat}, srcsOk k l nt = true → k + l.length ≤ nt ∧ ∀ (i : Nat) (s : Slot), l[i]? = some s → s.src = k + i
  | [], k, nt, h => by
    simp only [srcsOk, Nat.ble_eq] at h
    exact ⟨by simpa using h, fun i s h => by simp at h⟩
  | s :: l, k, nt, h => by
    simp only [srcsOk, Bool.and_eq_true] at h
    obtain ⟨h1, h2⟩ := srcsOk_get h.2
    refine ⟨by simp; omega, fun i s' hi => ?_⟩
    cases i with
    | zero => simp at hi; subst hi; exact Nat.eq_of_beq_eq_true h.1
    | succ i => rw [h2 i s' (by simpa using hi)]; omega
theorem VRelL.len {ρ : Rho} : ∀ {a : List AVal} {vs : List Value}, VRelL ρ a vs → a.length = vs.length
  | [], [], _ => rfl
  | _ :: _, _ :: _, ⟨_, h⟩ => by simp [VRelL.len h]
theorem unpackL_vlen : ∀ (l : List Slot) (d : Dl l) (b n : Nat), (unpackL l d b n).1.length = l.length
  | [], _, _, _ => rfl
  | [s], _, _, _ => rfl
  | s :: t :: r, d, b, n => by
    simp only [unpackL, List.length_cons]
    rw [unpackL_vlen (t :: r)]
    rfl
/-- The temporaries at a function's beginning. -/
theorem putL_args {ρ : Rho} {V : Nat → Value} {off : Nat} {tl : List (Nat × AVal)} (htl : ∀ t, VRel ρ (St.look tl t) (V t)) : ∀ (l : List Slot) {vs : List AVal} {xs : List Value}, VRelL ρ vs xs → (∀ (i : Nat) (s : Slot) (x : Value), l[i]? = some s → xs[i]? = some x → V (s.src + off) = x) → ∀ t, VRel ρ (St.look (putL off l vs ++ tl) t) (V t)
  | [], vs, xs, _, _, t => by simpa [putL] using htl t
  | s :: r, [], xs, _, _, t => by simpa [putL] using htl t
  | s :: r, v :: vs, [], h, _, t => h.elim
  | s :: r, v :: vs, x :: xs, ⟨h, g⟩, hV, t => by
    simp only [putL, List.cons_append, St.look]
    by_cases hs : s.src + off = t
    · simp only [hs, beq_self_eq_true, if_true]
      rw [← hs, hV 0 s x rfl rfl]
      exact h
    · have : (s.src + off == t) = false := by simp [hs]
      rw [this]
      exact putL_args htl r g (fun i s' x' h1 h2 => hV (i + 1) s' x' (by simpa using h1) (by simpa using h2)) t
theorem pick_get {α β : Type} {l : List α} {m : List β} (hl : l.length = m.length) : ∀ (is : List Nat) (i : Nat) (x : α) (y : β), (pick l is)[i]? = some x → (pick m is)[i]? = some y → ∃ j : Nat, l[j]? = some x ∧ m[j]? = some y
  | [], i, x, y, h, _ => by simp [pick] at h
  | k :: is, i, x, y, h, g => by
    simp only [pick] at h g
    cases hk : l[k]? with
    | none =>
      have : m[k]? = none := by rw [List.getElem?_eq_none_iff] at hk ⊢; omega
      rw [hk] at h
      rw [this] at g
      exact pick_get hl is i x y (by simpa using h) (by simpa using g)
    | some a =>
      have hkl : k < m.length := by rw [← hl]; exact (List.getElem?_eq_some_iff.1 hk).1
      have hm : m[k]? = some m[k] := by simp [hkl]
      rw [hk] at h
      rw [hm] at g
      cases i with
      | zero => simp at h g; exact ⟨k, by rw [hk, h], by rw [hm, g]⟩
      | succ i => exact pick_get hl is i x y (by simpa using h) (by simpa using g)
theorem fn_sound (hE : ∀ e d r, call e d = some r → EntSpec P (E e) d r) (hm : P.follows .mixedOrders = true) (hP : ∀ e, EntOk P (E e)) {f : FuncId} {fn : Func} {ins : List Slot} {ios : List Nat} {res : List Slot} {cal : List (Nat × Nat)} {subs : List (List Bool × Nat)} (hok : EntOk P (.fn f fn ins ios res cal subs))
    {again : (e : Nat) → Dl (E e).ins → Option (E e).R} {e : Nat} {self : Dl ins → Option (RF res (pick ins ios))} {d : Dl ins} {r : RF res (pick ins ios)} (h : xent P E call again e (.fn f fn ins ios res cal subs) self d = some r) : FnSpec P f ins ios res d r := by
  obtain ⟨hf, hnm⟩ := hok
  simp only [xent] at h
  split at h <;> try cases h
  rename_i c hcb
  split at hcb <;> try cases hcb
  rename_i hck
  simp only [Bool.and_eq_true, Nat.ble_eq] at hck
  obtain ⟨hsh, hsrc⟩ := hck
  obtain ⟨hlen, hsrc⟩ := srcsOk_get hsrc
  rw [Nat.zero_add] at hlen
  intro A W ρ args w hargs H
  have hal := hargs.len
  rw [unpackL_vlen] at hal
  have hasz : args.size = ins.length := by simpa using hal.symm
  unfold CallsF
  have hcf : (callFunc f args).run P w = .ok (.enter f args) w := by
    have hn2 : ¬ fn.name = "runtime.NumGoroutine" := by simpa using hnm
    have hbn : ¬ fn.body = none := by rw [hcb]; simp
    simp [callFunc, hf, hn2, hbn]
  rw [hcf]
  refine calls_of_wp hf hcb ?_
  let a0 : Act := { tmps := args ++ Array.replicate (fn.ntmps - args.size) undef, defers := [] }
  let sh : Nat → Value := fun t => a0.tmps.getD t undef
  have ha0 : ∀ (i : Nat) (s : Slot) (x : Value), ins[i]? = some s → args.toList[i]? = some x → a0.tmps.getD s.src undef = x ∧ s.src < fn.ntmps := fun i s x h1 h2 => by
    have hs := hsrc i s h1
    rw [Nat.zero_add] at hs
    have hi : i < ins.length := (List.getElem?_eq_some_iff.1 h1).1
    rw [Array.getElem?_toList] at h2
    refine ⟨?_, by omega⟩
    rw [hs]
    simp only [a0]
    rw [Array.getD_eq_getD_getElem?, Array.getElem?_append_left (by omega), h2]
    rfl
  have V1 : ∀ (i : Nat) (s : Slot) (x : Value), ins[i]? = some s → args.toList[i]? = some x → valAt a0 sh (s.src + 0) = x := fun i s x h1 h2 => by
    obtain ⟨g1, g2⟩ := ha0 i s x h1 h2
    unfold valAt
    rw [if_pos (by omega)]
    exact g1
  have V2 : ∀ (a' : Act) (i : Nat) (s : Slot) (x : Value), (pick ins ios)[i]? = some s → (pick args.toList ios)[i]? = some x → valAt a' sh (s.src + shadow) = x := fun a' i s x h1 h2 => by
    obtain ⟨j, g1, g2⟩ := pick_get (by simpa using hal) ios i s x h1 h2
    unfold valAt
    rw [if_neg (by omega), Nat.add_sub_cancel]
    exact (ha0 j s x g1 g2).1
  have S0 : SimS w A W fn.ntmps sh ⟨putL 0 ins (unpackL ins d 0 0).1 ++ putL shadow (pick ins ios) (pick (unpackL ins d 0 0).1 ios), ups 0 (unpackL ins d 0 0).2, (unpackL ins d 0 0).2.length⟩ ρ a0 w := by
    refine { toHR := H, tms := fun t => ?_, siz := by simp [a0]; omega, nts := hsh, dfr := rfl }
    refine putL_args (fun t => ?_) ins hargs V1 t
    have := putL_args (ρ := ρ) (V := valAt a0 sh) (off := shadow) (tl := []) (fun t => trivial) (pick ins ios) (hargs.pick ios) (V2 a0) t
    rwa [List.append_nil] at this
  refine xcode_sound hE hm hP hf hcb (w0 := w) (A := A) (W := W) (sh := sh) cal subs c [] _ _ rfl h ρ a0 w S0 _ fun ex st' ρ' a' w' hK S' => ?_
  split at hK <;> try cases hK
  rename_i hex
  split at hK <;> try cases hK
  rename_i rs hrs
  split at hK <;> try cases hK
  rename_i d1 T1 hp1
  split at hK <;> try cases hK
  rename_i d2 T2 hp2
  split at hK <;> cases hK
  rename_i hsep
  obtain ⟨vs, hvs, hrel⟩ := res_sound S' _ rs hrs
  obtain ⟨B1, hB1, PL1⟩ := packL_sound (ρ := ρ') res hp1
  rw [List.nil_append] at hB1
  subst hB1
  obtain ⟨B2, rfl, PL2⟩ := packL_sound (ρ := ρ') (pick ins ios) hp2
  obtain ⟨q1, q2, q3⟩ := PL1.append PL2
  have HX := S'.toHR.packed (T1 ++ B2) _ q1 q2 q3 hsep (w1 := w) (A1 := A) (W1 := W) S'.fr (fun i o j b _ h2 => S'.locf j b h2) (fun i j b _ h2 => S'.locfw j b h2)
  have hT1 : T1.length = cntL res := by
    have h1 : (unpackL res d1 0 ([] : Acc).length).2.length = T1.length := PL1.len
    have h2 : (unpackL res d1 0 ([] : Acc).length).2.length = cntL res := unpackL_len res d1 0 _
    omega
  rw [hT1] at HX PL2
  have hpost : ∃ v, (results fn a'.tmps).run P w' = .ok v w' ∧ ∃ v', Ending.returned v = Ending.returned v' ∧ ∃ Ux ρx, VRel ρx (resAVal (unpackL res (RF.res _ _ (RF.mk res (pick ins ios) d1 d2)) 0 0).1) v' ∧ VRelL ρx (unpackL (pick ins ios) (RF.io _ _ (RF.mk res (pick ins ios) d1 d2)) 0 (cntL res)).1 (pick args.toList ios) ∧
      HR w A W Ux ρx (getF (ups 0 ((unpackL res (RF.res _ _ (RF.mk res (pick ins ios) d1 d2)) 0 0).2 ++ (unpackL (pick ins ios) (RF.io _ _ (RF.mk res (pick ins ios) d1 d2)) 0 (cntL res)).2))) w' := by
    rw [RF.res_mk, RF.io_mk]
    refine ⟨_, run_results hvs, _, rfl, _, rhoA ρ' (T1 ++ B2), resAVal_rel (unpackL_isV res d1 0 0) ?_, ?_, HX⟩
    · have : VRelL (rhoA ρ' ([] ++ T1)) (unpackL res d1 0 0).1 vs := PL1.rel.rel hrel
      exact this.mono (by rw [List.nil_append]; exact rhoA_ext _ _ _)
    · refine PL2.rel.rel ?_
      rw [lookL_map]
      have : ∀ (l : List Slot) (xs : List Value), l.length = xs.length → (∀ (i : Nat) (s : Slot) (x : Value), l[i]? = some s → xs[i]? = some x → valAt a' sh (s.src + shadow) = x) → VRelL ρ' (l.map fun s => St.look st'.tm (s.src + shadow)) xs := by
        intro l
        induction l with
        | nil => intro xs hl _; cases xs with | nil => exact trivial | cons => simp at hl
        | cons s l ih =>
          intro xs hl hV
          cases xs with
          | nil => simp at hl
          | cons x xs =>
            refine ⟨?_, ih xs (by simpa using hl) fun i s' x' h1 h2 => hV (i + 1) s' x' (by simpa using h1) (by simpa using h2)⟩
            have := S'.tms (s.src + shadow)
            rwa [hV 0 s x rfl rfl] at this
      refine this _ _ ?_ (V2 a')
      have := (hargs.pick ios).len
      rw [← this]
      have hpl : ∀ {α β : Type} {l : List α} {m : List β} (hl : l.length = m.length) (is : List Nat), (pick l is).length = (pick m is).length := by
        intro α β l m hl is
        induction is with
        | nil => rfl
        | cons k is ih =>
          simp only [pick, List.length_append, ih]
          congr 1
          cases hk : l[k]? with
          | none =>
            have : m[k]? = none := by rw [List.getElem?_eq_none_iff] at hk ⊢; omega
            rw [this]; rfl
          | some a =>
            have hkl : k < m.length := by rw [← hl]; exact (List.getElem?_eq_some_iff.1 hk).1
            have hm : m[k]? = some m[k] := by simp [hkl]
            rw [hm]; rfl
      exact hpl (unpackL_vlen ins d 0 0).symm ios
  obtain ⟨v, hv1, v', hv2, hv3⟩ := hpost
  rcases hex with rfl | rfl
  · exact ⟨S'.dfr, v, hv1, v', hv2, hv3⟩
  · exact ⟨S'.dfr, v, hv1, v', hv2, hv3⟩
theorem pt_sound (hE : ∀ e d r, call e d = some r → EntSpec P (E e) d r) (hm : P.follows .mixedOrders = true) (hP : ∀ e, EntOk P (E e)) {f : FuncId} {fn : Func} {path : List Bool} {loop : Bool} {ins : List Slot} {exits : List (Ex × List Slot)} {cal : List (Nat × Nat)} {subs : List (List Bool × Nat)} (hok : EntOk P (.pt f fn path loop ins exits cal subs))
    {again : (e : Nat) → Dl (E e).ins → Option (E e).R} {e : Nat} {self : Dl ins → Option (DS exits)} (hself : ∀ d r, self d = some r → PtSpec P fn path loop ins exits d r) {d : Dl ins} {r : DS exits} (h : xent P E call again e (.pt f fn path loop ins exits cal subs) self d = some r) : PtSpec P fn path loop ins exits d r := by
  have hf : P.funcs[f]? = some fn := hok
  intro body c hb hat w0 A W sh ρ a w S Q hQ
  simp only [xent, hb, Option.bind_some, hat] at h
  cases loop with
  | false =>
    simp only [Bool.false_eq_true, if_false] at h ⊢
    refine xcode_sound hE hm hP hf hb cal _ c path _ _ hat h ρ a w S Q fun ex st' ρ' a' w' hK S' => ?_
    obtain ⟨st2, ρ2, h1, h2⟩ := inj_sound S' exits _ hK
    exact hQ ex st2 ρ2 a' w' h1 h2
  | true =>
    simp only [if_true] at h ⊢
    split at h <;> try cases h
    rename_i b
    refine ⟨b, rfl, loop_round ?_⟩
    refine xcode_sound hE hm hP hf hb cal _ b (false :: path) _ _ (by simp [at?, hat]) h ρ a w S _ fun ex st' ρ' a' w' hK S' => ?_
    cases ex with
    | normal =>
      simp only at hK
      split at hK <;> try cases hK
      rename_i d' T hp
      have hK : (if sepOk T = true then self d' else none : Option (DS exits)) = some r := hK
      by_cases hs : sepOk T = true
      rotate_left
      · rw [if_neg hs] at hK; cases hK
      rw [if_pos hs] at hK
      obtain ⟨ρ2, S2⟩ := sim_pack S' hp hs
      obtain ⟨b', e, hl⟩ := hself d' _ hK body (.loop b) hb hat w0 A W sh ρ2 a' w' S2 Q hQ
      cases e
      exact hl
    | exit id =>
      obtain ⟨st2, ρ2, h1, h2⟩ := inj_sound S' exits _ hK
      exact hQ (.exit id) st2 ρ2 a' w' h1 h2
    | ret =>
      obtain ⟨st2, ρ2, h1, h2⟩ := inj_sound S' exits _ hK
      exact hQ .ret st2 ρ2 a' w' h1 h2
theorem xent_sound (hE : ∀ e d r, call e d = some r → EntSpec P (E e) d r) (hm : P.follows .mixedOrders = true) (hP : ∀ e, EntOk P (E e)) {again : (e : Nat) → Dl (E e).ins → Option (E e).R} {e : Nat} (en : Ent) (hok : EntOk P en) {self : Dl en.ins → Option en.R} (hself : ∀ d r, self d = some r → EntSpec P en d r) {d : Dl en.ins} {r : en.R} (h : xent P E call again e en self d = some r) : EntSpec P en d r := by
  cases en with
  | fn f fn ins ios res cal subs => exact fn_sound hE hm hP hok h
  | fr f ins ios res sem => exact hok d r h
  | pt f fn path loop ins exits cal subs => exact pt_sound hE hm hP hok hself h
end
/-- THE EVALUATION IS SOUND. -/
theorem acall_sound {P : Program} {E : Nat → Ent} (hm : P.follows .mixedOrders = true) (hP : ∀ e, EntOk P (E e)) : ∀ (k e : Nat) (d : Dl (E e).ins) (r : (E e).R), acall P E k e d = some r → EntSpec P (E e) d r
  | 0, e, d, r, h => by cases h
  | k + 1, e, d, r, h => xent_sound (acall_sound hm hP k) hm hP (E e) (hP e) (fun d r h => acall_sound hm hP k e d r h) h
end Go.Proofs.YtiaagflfiphioaaDoorS
