/- Specifications of entries; regions in the text's order. -/
import Derived.Test.YtiaagflfiphioaaDoorSimT
namespace Go.Proofs.YtiaagflfiphioaaDoorS
open Go
set_option linter.unusedVariables false
set_option linter.unusedSimpArgs false

def Ex.to : Ex → Exit
  | .normal => .normal | .exit id => .exit id | .ret => .ret
def stOf (l : List Slot) (d : Dl l) : St := ⟨putL 0 l (unpackL l d 0 0).1, ups 0 (unpackL l d 0 0).2, (unpackL l d 0 0).2.length⟩
def ExitIs (ex : Ex) (st : St) : (l : List (Ex × List Slot)) → DS l → Prop
  | [], _ => False
  | [o], d => ex = o.1 ∧ st = stOf o.2 d
  | o :: p :: r, d => Sum.elim (fun d => ex = o.1 ∧ st = stOf o.2 d) (fun d => ExitIs ex st (p :: r) d) d
def LoopWp (P : Program) (c : Code) (Q : Exit → Act → World → Prop) (a : Act) (w : World) : Prop :=
  ∀ (b : Frame) (k : List Item) (cs : List Frame), ∃ e a' w', Q e a' w' ∧ Arrives P (lone (b.at a (.code c :: .inLoop c :: k)) cs w) b k cs e a' w'
abbrev SimS (w0 : World) (A : List Nat) (W : WL) (nt : Nat) (sh : Nat → Value) (st : St) (ρ : Rho) (a : Act) (w : World) : Prop := Sim w0 A W nt sh (fun i => st.n ≤ i) ρ (St.look st.tm) (getF st.F) a w
def PtSpec (P : Program) (fn : Func) (path : List Bool) (loop : Bool) (ins : List Slot) (exits : List (Ex × List Slot)) (d : Dl ins) (r : DS exits) : Prop :=
  ∀ body c, fn.body = some body → at? body path = some c → ∀ (w0 : World) (A : List Nat) (W : WL) (sh : Nat → Value) (ρ : Rho) (a : Act) (w : World), SimS w0 A W fn.ntmps sh (stOf ins d) ρ a w → ∀ Q : Exit → Act → World → Prop,
    (∀ ex st ρ' a' w', ExitIs ex st exits r → SimS w0 A W fn.ntmps sh st ρ' a' w' → Q ex.to a' w') → if loop then (∃ b, c = .loop b ∧ LoopWp P b Q a w) else c.wp P Q a w
def EntSpec (P : Program) (en : Ent) (d : Dl en.ins) (r : en.R) : Prop := match en, d, r with
  | .fn f _ ins ios res _ _, d, r => FnSpec P f ins ios res d r
  | .fr f ins ios res _, d, r => FnSpec P f ins ios res d r
  | .pt _ fn path loop ins exits _ _, d, r => PtSpec P fn path loop ins exits d r

section
variable {P : Program} {E : Nat → Ent} {call : CallF E} {cal : List (Nat × Nat)} {R : Type}

theorem ent_call {o : Oper} {c : Call} (ho : o.op = .call c) {fo : Operand} (hc : c.callee = .value fo) {tmT : Nat → AVal} {F0 : Nat → AObj} {e : Nat} {f : FuncId} {args : List AVal}
    (ht : target cal o.dst (ev tmT fo) (c.args.toList.map (ev tmT)) = some (e, f, args)) (en : Ent) {d : Dl en.ins} {T : Acc} (hp : packL en.ins args F0 [] = some (d, T)) (hsep : sepOk T = true)
    {r : en.R} (hspec : EntSpec P en d r) {id cnt : Nat} {v : AVal} {u : List (Nat × AObj)} (hfin : finC en f args T F0 id r = some (v, u)) (hcnt : cntE en ≤ cnt) : OpWp P o v u id cnt tmT F0 := by
  cases en with
  | fn f' fn ins ios res cal' subs => exact opWp_call ho hc ht hp hsep hspec hfin hcnt
  | fr f' ins ios res sem => exact opWp_call ho hc ht hp hsep hspec hfin hcnt
  | pt f' fn path loop ins exits cal' subs => cases hfin
theorem xop_sound (hE : ∀ e d r, call e d = some r → EntSpec P (E e) d r) {o : Oper} {tmT : Nat → AVal} {F0 : Nat → AObj} {id : Nat} {K : AVal → List (Nat × AObj) → Option R} {q : R} (h : xop P E call cal o tmT F0 id K = some q) :
    ∃ v u, K v u = some q ∧ OpWp P o v u id (cntOp P E cal o) tmT F0 := by
  have heff : ∀ {e : Eff} {q : R}, (match e with
      | .val v u => K v u
      | .chk b v u => cond b (K v u) none
      | .two b v u v' u' => cond b (K v u) (K v' u')
      | .fail => none) = some q → (∀ v u, Gives e v u → OpWp P o v u id (cntOp P E cal o) tmT F0) → ∃ v u, K v u = some q ∧ OpWp P o v u id (cntOp P E cal o) tmT F0 := by
    intro e q h hG
    cases e with
    | val v u => exact ⟨v, u, h, hG _ _ (.inl rfl)⟩
    | chk b v u =>
      cases b with
      | false => cases h
      | true => exact ⟨v, u, h, hG _ _ (.inr (.inl ⟨true, rfl, rfl⟩))⟩
    | two b v u v' u' =>
      cases b with
      | false => exact ⟨v', u', h, hG _ _ (.inr (.inr ⟨_, _, _, _, _, rfl, .inr ⟨rfl, rfl, rfl⟩⟩))⟩
      | true => exact ⟨v, u, h, hG _ _ (.inr (.inr ⟨_, _, _, _, _, rfl, .inl ⟨rfl, rfl, rfl⟩⟩))⟩
    | fail => cases h
  unfold xop at h
  split at h
  · rename_i c ho
    split at h
    · rename_i fo hc
      split at h <;> try cases h
      rename_i e f args ht
      split at h <;> try cases h
      rename_i d T hp
      split at h <;> try cases h
      rename_i hck
      simp only [Bool.and_eq_true, Nat.ble_eq] at hck
      cases hcall : call e d with
      | none => rw [hcall] at h; cases h
      | some r =>
        rw [hcall] at h
        simp only [Option.bind_some] at h
        split at h <;> try cases h
        rename_i v u hfin
        exact ⟨v, u, h, ent_call ho hc ht (E e) hp hck.1 (hE e d r hcall) hfin hck.2⟩
    · rename_i hne
      refine heff h fun v u g => ?_
      rw [show cntOp P E cal o = cntO P o.op by unfold cntOp; rw [ho]; simp only]
      exact opWp_effT g
  · rename_i hne
    refine heff h fun v u g => ?_
    rw [show cntOp P E cal o = cntO P o.op by
      unfold cntOp
      split
      · rename_i c ho; exact absurd ho (hne c)
      · rfl]
    unfold effX at g
    split at g
    · split at g
      · exact opWp_nestS g
      · exact opWp_effS g
    · split at g
      · exact opWp_back g
      · exact opWp_effT g
def Wants (ops : List Oper) (o : Oper) (tm : Nat → AVal) (t : Bool) : Prop := match o.guard with
  | none => t = true
  | some (j, want) => ∃ d, dstOf ops j = some d ∧ ((∃ b, tm d = .c (.bool b) ∧ (b == want) = t) ∨ (tm d = .tup [] ∧ t = false))
theorem look_same {tm : List (Nat × AVal)} {d : Nat} {v : AVal} (h : St.look tm d = v) : St.look ((d, v) :: tm) = St.look tm := by
  funext t
  simp only [St.look]
  by_cases hd : d = t
  · subst hd; simp [h]
  · simp [hd]
theorem xops_step (hE : ∀ e d r, call e d = some r → EntSpec P (E e) d r) {draw : Bool} {ops : List Oper} {o : Oper} {r : List Oper} {bs : List Nat} {i id : Nat} {lg : Log} {st : St} {K : St → Option R} {q : R}
    (h : xops P E call cal draw ops (o :: r) bs i id lg st K = some q) :
    ∃ tm', St.look tm' = St.look st.tm ∧
    ((Wants ops o (St.look st.tm) true ∧ ∃ v u, OpWp P o v u id (cntOp P E cal o) (St.look st.tm) (restr (rdsC P cal o.op (St.look st.tm) (getF st.F)) (getF st.F)) ∧
        (draw = true → logOk (bs.headD 0) (rdsC P cal o.op (St.look st.tm) (getF st.F)) (idsUp u) lg = true) ∧
        xops P E call cal draw ops r bs.tail (i + 1) (id + cntOp P E cal o) (if draw then (i, rdsC P cal o.op (St.look st.tm) (getF st.F), idsUp u) :: lg else lg) ⟨putTm tm' o.dst v, setF st.F u, st.n⟩ K = some q) ∨
     (Wants ops o (St.look st.tm) false ∧ xops P E call cal draw ops r bs.tail (i + 1) (id + cntOp P E cal o) lg ⟨putTm tm' o.dst (.tup []), st.F, st.n⟩ K = some q)) := by
  have go : ∀ (tm' : List (Nat × AVal)), St.look tm' = St.look st.tm → (xop P E call cal o (St.look tm') (restr (rdsC P cal o.op (St.look tm') (getF st.F)) (getF st.F)) id fun v u =>
      cond (!draw || logOk (bs.headD 0) (rdsC P cal o.op (St.look tm') (getF st.F)) (idsUp u) lg)
        (xops P E call cal draw ops r bs.tail (i + 1) (id + cntOp P E cal o) (if draw then (i, rdsC P cal o.op (St.look tm') (getF st.F), idsUp u) :: lg else lg) ⟨putTm tm' o.dst v, setF st.F u, st.n⟩ K) none) = some q →
      ∃ v u, OpWp P o v u id (cntOp P E cal o) (St.look st.tm) (restr (rdsC P cal o.op (St.look st.tm) (getF st.F)) (getF st.F)) ∧
        (draw = true → logOk (bs.headD 0) (rdsC P cal o.op (St.look st.tm) (getF st.F)) (idsUp u) lg = true) ∧
        xops P E call cal draw ops r bs.tail (i + 1) (id + cntOp P E cal o) (if draw then (i, rdsC P cal o.op (St.look st.tm) (getF st.F), idsUp u) :: lg else lg) ⟨putTm tm' o.dst v, setF st.F u, st.n⟩ K = some q := by
    intro tm' htm h
    rw [htm] at h
    obtain ⟨v, u, h1, h2⟩ := xop_sound hE h
    cases hb : (!draw || logOk (bs.headD 0) (rdsC P cal o.op (St.look st.tm) (getF st.F)) (idsUp u) lg) with
    | false => rw [hb] at h1; cases h1
    | true =>
      rw [hb] at h1
      exact ⟨v, u, h2, fun hd => by rw [hd] at hb; simpa using hb, h1⟩
  rw [xops] at h
  cases hg : o.guard with
  | none =>
    rw [hg] at h
    exact ⟨st.tm, rfl, .inl ⟨by unfold Wants; rw [hg], go st.tm rfl h⟩⟩
  | some g =>
    obtain ⟨j, want⟩ := g
    rw [hg] at h
    simp only at h
    split at h <;> try cases h
    rename_i d hd
    split at h <;> try cases h
    rotate_left
    · rename_i hb
      exact ⟨st.tm, rfl, .inr ⟨by unfold Wants; rw [hg]; exact ⟨d, hd, .inr ⟨hb, rfl⟩⟩, h⟩⟩
    rename_i b hb
    have hsame := look_same hb
    have hW : ∀ t, (b == want) = t → Wants ops o (St.look st.tm) t := fun t ht => by
      unfold Wants
      rw [hg]
      exact ⟨d, hd, .inl ⟨b, hb, ht⟩⟩
    cases b with
    | true =>
      simp only [cond_true] at h
      cases hw : (true == want) with
      | true =>
        rw [hw] at h
        exact ⟨_, hsame, .inl ⟨hW true hw, go _ hsame h⟩⟩
      | false =>
        rw [hw] at h
        exact ⟨_, hsame, .inr ⟨hW false hw, h⟩⟩
    | false =>
      simp only [cond_false] at h
      cases hw : (false == want) with
      | true =>
        rw [hw] at h
        exact ⟨_, hsame, .inl ⟨hW true hw, go _ hsame h⟩⟩
      | false =>
        rw [hw] at h
        exact ⟨_, hsame, .inr ⟨hW false hw, h⟩⟩
def setTm (tm : Nat → AVal) (dst : Option Tmp) (v : AVal) : Nat → AVal := match dst with
  | some d => fun t => if d = t then v else tm t
  | none => tm
theorem look_put (tm : List (Nat × AVal)) (dst : Option Tmp) (v : AVal) : St.look (putTm tm dst v) = setTm (St.look tm) dst v := by
  cases dst with
  | none => rfl
  | some d =>
    funext t
    simp only [putTm, St.look, setTm]
    by_cases h : d = t <;> simp [h]
theorem Sim.after {w0 : World} {A : List Nat} {W : WL} {nt : Nat} {sh : Nat → Value} {U U' : Nat → Prop} {ρ ρ' : Rho} {tm : Nat → AVal} {F F' : Nat → AObj} {a : Act} {w w' : World} (S : Sim w0 A W nt sh U ρ tm F a w) {dst : Option Tmp} {v : AVal} {x : Value}
    (hd : ∀ d : Nat, dst = some d → d < nt) (hv : VRel ρ' v x) (hx : ext ρ ρ') (H : HR w0 A W U' ρ' F' w') : Sim w0 A W nt sh U' ρ' (setTm tm dst v) F' (a.put dst x) w' where
  toHR := H
  tms := fun t => by
    cases dst with
    | none => exact (S.tms t).mono hx
    | some d =>
      have hdn : (d : Nat) < nt := hd d rfl
      simp only [setTm]
      by_cases h : d = t
      · subst h
        rw [if_pos rfl]
        have hs := S.siz
        have : valAt (a.put (some d) x) sh d = x := by
          unfold valAt
          rw [if_pos (Nat.lt_of_lt_of_le hdn S.nts)]
          simp [Act.put, Array.getD_eq_getD_getElem?, hs, hdn]
        rw [this]
        exact hv
      · rw [if_neg h]
        have : valAt (a.put (some d) x) sh t = valAt a sh t := by
          unfold valAt
          split
          · simp [Act.put, Array.getD_eq_getD_getElem?, Array.getElem?_setIfInBounds_ne h]
          · rfl
        rw [this]
        exact (S.tms t).mono hx
  siz := by
    cases dst with
    | none => exact S.siz
    | some d => simp [Act.put, S.siz]
  nts := S.nts
  dfr := by
    cases dst with
    | none => exact S.dfr
    | some d => exact S.dfr
theorem dstsOk_get {nt : Nat} : ∀ {l : List Oper}, dstsOk nt l = true → ∀ o ∈ l, ∀ d : Nat, o.dst = some d → d < nt
  | [], _, o, h, _, _ => by simp at h
  | x :: l, hk, o, h, d, hd => by
    simp only [dstsOk, Bool.and_eq_true] at hk
    rcases List.mem_cons.1 h with rfl | h
    · have := hk.1
      rw [hd] at this
      simpa [Nat.blt_eq] using this
    · exact dstsOk_get hk.2 o h d hd
theorem wants_run {w0 : World} {A : List Nat} {W : WL} {nt : Nat} {sh : Nat → Value} {U : Nat → Prop} {ρ : Rho} {tm : Nat → AVal} {F : Nat → AObj} {a : Act} {w : World} (S : Sim w0 A W nt sh U ρ tm F a w) {ops : Array Oper} (hd : dstsOk nt ops.toList = true) {o : Oper} {tmT : Nat → AVal}
    (hg : ∀ j want d, o.guard = some (j, want) → dstOf ops.toList j = some d → tm d = tmT d) {t : Bool} (h : Wants ops.toList o tmT t) : Region.wanted o (yielded ops a.tmps) = t := by
  unfold Region.wanted
  unfold Wants at h
  cases hgd : o.guard with
  | none => rw [hgd] at h; simp only at h; rw [h]
  | some g =>
    obtain ⟨j, want⟩ := g
    rw [hgd] at h
    obtain ⟨d, h1, h2⟩ := h
    have htm := hg j want d hgd h1
    have hrel := S.tms d
    rw [htm] at hrel
    have hj : ∃ oj, ops[j]? = some oj ∧ oj.dst = some d := by
      unfold dstOf at h1
      rw [Array.getElem?_toList] at h1
      cases ho : ops[j]? with
      | none => rw [ho] at h1; cases h1
      | some oj => rw [ho] at h1; exact ⟨oj, rfl, h1⟩
    obtain ⟨oj, hoj, hdj⟩ := hj
    have hdn : (d : Nat) < nt := dstsOk_get hd oj (by rw [← Array.getElem?_toList] at hoj; exact List.mem_of_getElem? hoj) d hdj
    have hn := S.nts
    have hs := S.siz
    have hval : valAt a sh d = a.tmps[d]'(by omega) := by
      unfold valAt
      rw [if_pos (by omega), Array.getD_eq_getD_getElem?]
      simp [Array.getElem?_eq_getElem (show d < a.tmps.size by omega)]
    rw [hval] at hrel
    simp only [yielded, hoj, Option.bind_some, hdj]
    simp only [Array.getElem?_eq_getElem (show d < a.tmps.size by omega)]
    rcases h2 with ⟨b, h2, h3⟩ | ⟨h2, h3⟩
    · rw [h2] at hrel
      have hv : a.tmps[d]'(by omega) = .bool b := hrel
      rw [hv, ← h3]
      cases b <;> cases want <;> rfl
    · rw [h2] at hrel
      obtain ⟨vs, hv, _⟩ := hrel
      rw [hv, h3]
      rfl
theorem restr_sub (l : List Nat) (F : Nat → AObj) : Sub (restr l F) F := fun i => by
  unfold restr
  split
  · exact .inr rfl
  · exact .inl rfl
/-- A region in the text's order. -/
theorem xops_seq (hE : ∀ e d r, call e d = some r → EntSpec P (E e) d r) (ops : Array Oper) {K : St → Option R} {q : R} {w0 : World} {A : List Nat} {W : WL} {nt : Nat} {sh : Nat → Value} (hd : dstsOk nt ops.toList = true) {Q : Exit → Act → World → Prop} (n : Nat)
    (hQ : ∀ st' ρ' a' w', K st' = some q → st'.n = n → Sim w0 A W nt sh (fun i => n ≤ i) ρ' (St.look st'.tm) (getF st'.F) a' w' → Q .normal a' w') :
    ∀ (l : List Oper) (pre : List Oper), ops.toList = pre ++ l → ∀ (bs : List Nat) (id : Nat) (lg : Log) (st : St) (ρ : Rho) (a : Act) (w : World), xops P E call cal false ops.toList l bs pre.length id lg st K = some q → st.n = n → id + cntOps P E cal l = n →
      Sim w0 A W nt sh (fun i => id ≤ i) ρ (St.look st.tm) (getF st.F) a w → wpOps P ops Q (List.range' pre.length l.length) a w
  | [], pre, _, bs, id, lg, st, ρ, a, w, h, hn, hc, S => by
    rw [xops] at h
    simp only [cntOps, Nat.add_zero] at hc
    subst hc
    simp only [List.length_nil, List.range'_zero, wpOps]
    exact hQ st ρ a w h hn S
  | o :: r, pre, hpre, bs, id, lg, st, ρ, a, w, h, hn, hc, S => by
    simp only [cntOps] at hc
    have hi : ops[pre.length]? = some o := by rw [← Array.getElem?_toList, hpre]; simp
    have hmem : o ∈ ops.toList := by rw [hpre]; simp
    have hdo : ∀ d : Nat, o.dst = some d → d < nt := dstsOk_get hd o hmem
    have hpre' : ops.toList = (pre ++ [o]) ++ r := by rw [hpre]; simp
    rw [List.length_cons, List.range'_succ]
    simp only [wpOps, hi]
    obtain ⟨tm', htm, h⟩ := xops_step hE h
    rcases h with ⟨hw, v, u, hop, _, h⟩ | ⟨hw, h⟩
    · rw [wants_run S hd (fun _ _ _ _ _ => rfl) hw]
      simp only [if_true]
      refine .inl (hop S (fun _ _ => rfl) (restr_sub _ _) (fun i h1 h2 => h1) _ Q fun x w' ρ' hv hx _ H => ?_)
      have S' := S.after (U' := fun i => id + cntOp P E cal o ≤ i) hdo hv hx (H.weak fun i hi => ⟨by omega, by omega⟩)
      have := xops_seq hE ops hd n hQ r (pre ++ [o]) hpre' bs.tail (id + cntOp P E cal o) lg ⟨putTm tm' o.dst v, setF st.F u, st.n⟩ ρ' (a.put o.dst x) w' (by simpa using h) hn (by omega)
        (by rw [look_put, htm, getF_setF]; exact S')
      simpa using this
    · rw [wants_run S hd (fun _ _ _ _ _ => rfl) hw]
      simp only [Bool.false_eq_true, if_false]
      have S' := S.after (x := undef) (v := .tup []) (U' := fun i => id + cntOp P E cal o ≤ i) hdo ⟨#[], rfl, trivial⟩ (ext.refl ρ) (S.toHR.weak fun i hi => by omega)
      have := xops_seq hE ops hd n hQ r (pre ++ [o]) hpre' bs.tail (id + cntOp P E cal o) lg ⟨putTm tm' o.dst (.tup []), st.F, st.n⟩ ρ (a.put o.dst undef) w (by simpa using h) hn (by omega)
        (by rw [look_put, htm]; exact S')
      simpa using this
end
end Go.Proofs.YtiaagflfiphioaaDoorS
