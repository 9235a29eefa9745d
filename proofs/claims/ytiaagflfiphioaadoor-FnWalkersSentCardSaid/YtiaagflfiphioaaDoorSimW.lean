/- Any order of a region gives the text's order. -/
import Derived.Test.YtiaagflfiphioaaDoorSimV
namespace Go.Proofs.YtiaagflfiphioaaDoorS
open Go
set_option linter.unusedVariables false
set_option linter.unusedSimpArgs false

def bstep (acc : List Nat) (o : Oper) : Nat := o.after.toList.foldl (fun s e => if Region.binds .any e then s ||| 2 ^ e.on ||| acc.getD e.on 0 else s) 0
theorem befs_spec : ∀ (l : List Oper) (acc : List Nat), (befs l acc).take acc.length = acc ∧ (befs l acc).length = acc.length + l.length ∧ ∀ (k : Nat) (o : Oper), l[k]? = some o → (befs l acc).getD (acc.length + k) 0 = bstep ((befs l acc).take (acc.length + k)) o
  | [], acc => by simp [befs]
  | o :: r, acc => by
    have ih := befs_spec r (acc ++ [bstep acc o])
    have e : befs (o :: r) acc = befs r (acc ++ [bstep acc o]) := rfl
    rw [e]
    obtain ⟨h1, h2, h3⟩ := ih
    simp only [List.length_append, List.length_singleton] at h1 h2 h3
    have ht : (befs r (acc ++ [bstep acc o])).take acc.length = acc := by
      have := congrArg (List.take acc.length) h1
      rw [List.take_take] at this
      simpa using this
    refine ⟨ht, by rw [h2]; simp; omega, fun k o' hk => ?_⟩
    cases k with
    | zero =>
      simp at hk
      subst hk
      rw [Nat.add_zero, ht]
      have h4 : (befs r (acc ++ [bstep acc o]))[acc.length]? = some (bstep acc o) := by
        have := congrArg (fun l => l[acc.length]?) h1
        simp only [List.getElem?_take] at this
        simpa using this
      rw [List.getD_eq_getElem?_getD, h4]
      rfl
    | succ k =>
      have := h3 k o' (by simpa using hk)
      rwa [show acc.length + 1 + k = acc.length + (k + 1) by omega] at this
theorem bstep_bit (acc : List Nat) (i : Nat) : ∀ (l : List Edge) (s : Nat), (l.foldl (fun s e => if Region.binds .any e then s ||| 2 ^ e.on ||| acc.getD e.on 0 else s) s).testBit i = true → s.testBit i = true ∨ ∃ e ∈ l, Region.binds .any e = true ∧ (e.on = i ∨ (acc.getD e.on 0).testBit i = true)
  | [], s, h => .inl h
  | e :: l, s, h => by
    simp only [List.foldl_cons] at h
    rcases bstep_bit acc i l _ h with h | ⟨e', h1, h2⟩
    · by_cases hb : Region.binds .any e = true
      · rw [if_pos hb] at h
        simp only [Nat.testBit_or, Bool.or_eq_true, Nat.testBit_two_pow, decide_eq_true_eq] at h
        rcases h with (h | h) | h
        · exact .inl h
        · exact .inr ⟨e, by simp, hb, .inl h⟩
        · exact .inr ⟨e, by simp, hb, .inr h⟩
      · rw [if_neg hb] at h
        exact .inl h
    · exact .inr ⟨e', List.mem_cons_of_mem _ h1, h2⟩
theorem edgesOk_get : ∀ {l : List Oper} {i : Nat}, edgesOk l i = true → ∀ (k : Nat) (o : Oper), l[k]? = some o → ∀ e ∈ o.after.toList, Region.binds .any e = true → e.on < i + k
  | [], _, _, k, o, h, _, _, _ => by simp at h
  | x :: l, i, hk, k, o, h, e, he, hb => by
    simp only [edgesOk, Bool.and_eq_true, List.all_eq_true] at hk
    cases k with
    | zero =>
      simp at h
      subst h
      have := hk.1 e he
      rw [hb] at this
      simpa [Nat.blt_eq] using this
    | succ k =>
      have := edgesOk_get hk.2 k o (by simpa using h) e he hb
      omega
theorem apartsOk_get {ops : Array Oper} {y : Oper} {bef : Nat} : ∀ {l : List Oper} {i : Nat}, apartsOk ops y bef l i = true → ∀ (k : Nat) (x : Oper), l[k]? = some x → bef.testBit (i + k) = true ∨ x.apart ops y = true
  | [], _, _, k, x, h => by simp at h
  | z :: l, i, hk, k, x, h => by
    simp only [apartsOk, Bool.and_eq_true, Bool.or_eq_true] at hk
    cases k with
    | zero => simp at h; subst h; exact hk.1
    | succ k =>
      have := apartsOk_get hk.2 k x (by simpa using h)
      rwa [show i + 1 + k = i + (k + 1) by omega] at this
theorem pairsOk_get {ops : Array Oper} : ∀ {l : List Oper} {bs : List Nat} {j : Nat}, pairsOk ops l bs j = true → ∀ (k : Nat) (o : Oper), l[k]? = some o → ∀ (i : Nat) (x : Oper), i < j + k → ops[i]? = some x → (bs.getD k 0).testBit i = true ∨ x.apart ops o = true
  | [], _, _, _, k, o, h, _, _, _, _ => by simp at h
  | y :: l, bs, j, hk, k, o, h, i, x, hi, hx => by
    simp only [pairsOk, Bool.and_eq_true] at hk
    cases k with
    | zero =>
      simp at h
      subst h
      have := apartsOk_get hk.1 i x (by rw [List.getElem?_take, if_pos (by omega), Array.getElem?_toList]; exact hx)
      rw [Nat.zero_add] at this
      have hb : bs.headD 0 = bs.getD 0 0 := by cases bs <;> rfl
      rwa [← hb]
    | succ k =>
      have := pairsOk_get hk.2 k o (by simpa using h) i x (by omega) hx
      have hb : bs.tail.getD k 0 = bs.getD (k + 1) 0 := by cases bs <;> simp
      rwa [← hb]
theorem filter_lt {p p' : Nat → Bool} : ∀ (l : List Nat), (∀ x ∈ l, p' x = true → p x = true) → (l.filter p').length ≤ (l.filter p).length ∧ ((∃ x ∈ l, p x = true ∧ p' x = false) → (l.filter p').length < (l.filter p).length)
  | [], _ => ⟨by simp, fun h => by obtain ⟨x, h, _⟩ := h; simp at h⟩
  | y :: l, hp => by
    obtain ⟨h1, h2⟩ := filter_lt l fun x hx => hp x (List.mem_cons_of_mem _ hx)
    have hy := hp y (by simp)
    simp only [List.filter_cons]
    refine ⟨?_, fun hh => ?_⟩
    · cases h3 : p' y with
      | true => rw [hy h3]; simpa using h1
      | false => cases p y <;> simp <;> omega
    · obtain ⟨x, hx, q1, q2⟩ := hh
      rcases List.mem_cons.1 hx with rfl | hx
      · rw [q1, q2]; simp; omega
      · have := h2 ⟨x, hx, q1, q2⟩
        cases h3 : p' y with
        | true => rw [hy h3]; simpa using this
        | false => cases p y <;> simp <;> omega
theorem ev_same {tm tm' : Nat → AVal} {x : Operand} (h : ∀ t, x = .tmp t → tm t = tm' t) : ev tm x = ev tm' x := by
  cases x with
  | tmp t => simp only [ev]; rw [h t rfl]
  | _ => rfl
theorem mem_ready {ops : Array Oper} {listed : Array Bool} {i : Nat} : i ∈ Region.ready .any ops listed ↔ ∃ o, ops[i]? = some o ∧ listed.getD i true = false ∧ ∀ e ∈ o.after.toList, Region.binds .any e = true → listed.getD e.on false = true := by
  unfold Region.ready
  simp only [List.mem_filter, List.mem_range, Bool.and_eq_true, Bool.not_eq_true']
  constructor
  · rintro ⟨h1, h2, h3⟩
    have ho : ops[i]? = some ops[i] := by simp [h1]
    rw [ho] at h3
    simp only [Option.map_some, Option.getD_some] at h3
    refine ⟨ops[i], ho, h2, fun e he hb => ?_⟩
    rw [Array.all_eq_true_iff_forall_mem] at h3
    have := h3 e (by simpa using he)
    simpa [hb] using this
  · rintro ⟨o, h1, h2, h3⟩
    refine ⟨(Array.getElem?_eq_some_iff.1 h1).1, h2, ?_⟩
    rw [h1]
    simp only [Option.map_some, Option.getD_some]
    rw [Array.all_eq_true_iff_forall_mem]
    intro e he
    cases hb : Region.binds .any e with
    | false => simp
    | true => simpa [hb] using h3 e (by simpa using he) hb

section
variable {P : Program} {E : Nat → Ent} {call : CallF E} {cal : List (Nat × Nat)} {R : Type}
theorem cntOps_take : ∀ (l : List Oper) (j : Nat) (o : Oper), l[j]? = some o → cntOps P E cal (l.take (j + 1)) = cntOps P E cal (l.take j) + cntOp P E cal o
  | [], j, o, h => by simp at h
  | x :: l, 0, o, h => by simp at h; subst h; simp [cntOps]
  | x :: l, j + 1, o, h => by
    simp only [List.take_succ_cons, cntOps]
    rw [cntOps_take l j o (by simpa using h)]
    omega
theorem cntOps_mono (l : List Oper) (i : Nat) : ∀ (d : Nat), cntOps P E cal (l.take i) ≤ cntOps P E cal (l.take (i + d))
  | 0 => Nat.le_refl _
  | d + 1 => by
    refine Nat.le_trans (cntOps_mono l i d) ?_
    cases h : l[i + d]? with
    | none =>
      have := List.getElem?_eq_none_iff.1 h
      rw [List.take_of_length_le this, List.take_of_length_le (by omega)]
      exact Nat.le_refl _
    | some o => rw [← Nat.add_assoc, cntOps_take l (i + d) o h]; omega
theorem xops_draw (hE : ∀ e d r, call e d = some r → EntSpec P (E e) d r) (ops : Array Oper) {K : St → Option R} {q : R} {w0 : World} {A : List Nat} {W : WL} {nt : Nat} {sh : Nat → Value} (hreg : okReg nt true ops = true) {Q : Exit → Act → World → Prop} (id : Nat) (st : St)
    (hn : id + cntOps P E cal ops.toList = st.n)
    (hQ : ∀ st' ρ' a' w', K st' = some q → st'.n = st.n → Sim w0 A W nt sh (fun i => st.n ≤ i) ρ' (St.look st'.tm) (getF st'.F) a' w' → Q .normal a' w')
    {ρ : Rho} {a : Act} {w : World} (h : xops P E call cal true ops.toList ops.toList (befs ops.toList []) 0 id [] st K = some q) (S : Sim w0 A W nt sh (fun i => id ≤ i) ρ (St.look st.tm) (getF st.F) a w) :
    wpAny P .any ops Q ops.size (Array.replicate ops.size false) a w := by
  simp only [okReg, Bool.not_true, Bool.false_or, Bool.and_eq_true] at hreg
  obtain ⟨hd, hedge, hpair⟩ := hreg
  obtain ⟨es, st', hK, hn', htm, hF, hmap, hes⟩ := xops_trace hE ops.toList ops.toList _ 0 id [] st h
  generalize hB : befs ops.toList [] = B at *
  have hbef := (befs_spec ops.toList []).2.2
  rw [hB] at hbef
  simp only [List.length_nil, Nat.zero_add] at hbef
  have hlen : es.length = ops.size := by have := congrArg List.length hmap; simpa using this
  have heo : ∀ (j : Nat) (e : TE), es[j]? = some e → ops[j]? = some e.o := fun j e he => by
    have := congrArg (fun l => l[j]?) hmap
    simp only [List.getElem?_map, he, Option.map_some, Array.getElem?_toList] at this
    exact this.symm
  have hoe : ∀ (j : Nat) (o : Oper), ops[j]? = some o → ∃ e, es[j]? = some e ∧ e.o = o := fun j o ho => by
    have hj : j < es.length := by rw [hlen]; exact (Array.getElem?_eq_some_iff.1 ho).1
    refine ⟨es[j], by simp [hj], ?_⟩
    have := heo j es[j] (by simp [hj])
    rw [ho] at this
    exact (Option.some.inj this).symm
  -- bits
  have hbit : ∀ (j : Nat) (o : Oper) (i : Nat), ops[j]? = some o → (B.getD j 0).testBit i = true → ∃ e ∈ o.after.toList, Region.binds .any e = true ∧ e.on < j ∧ (e.on = i ∨ (B.getD e.on 0).testBit i = true) := fun j o i ho hb => by
    rw [hbef j o (by rw [Array.getElem?_toList]; exact ho)] at hb
    rcases bstep_bit _ i _ _ hb with hb | ⟨e, h1, h2, h3⟩
    · simp at hb
    · have hlt := edgesOk_get hedge j o (by rw [Array.getElem?_toList]; exact ho) e h1 h2
      rw [Nat.zero_add] at hlt
      refine ⟨e, h1, h2, hlt, h3.imp (fun h => h) fun h => ?_⟩
      rwa [List.getD_eq_getElem?_getD, List.getElem?_take, if_pos hlt, ← List.getD_eq_getElem?_getD] at h
  have hap : ∀ (i j : Nat) (x y : Oper), ops[i]? = some x → ops[j]? = some y → i < j → ¬ (B.getD j 0).testBit i = true → x.apart ops y = true := fun i j x y hx hy hij hb =>
    (pairsOk_get hpair j y (by rw [Array.getElem?_toList]; exact hy) i x (by omega) hx).resolve_left hb
  have hap2 : ∀ (i j : Nat) (x y : TE), es[i]? = some x → es[j]? = some y → i < j → ¬ (B.getD j 0).testBit i = true → x.t = true → y.t = true → Apart y.R (idsUp x.u) x.R (idsUp y.u) := fun i j x y hx hy hij hb h1 h2 => by
    have := (hes j y hy).2.2.2.2.2.2 h2 i x hij hx h1
    rw [Nat.zero_add] at this
    exact this.resolve_left hb
  have hut : ∀ (j : Nat) (e : TE) (x : Nat), es[j]? = some e → x ∈ idsUp e.u → e.t = true := fun j e x he hx => by
    cases ht : e.t with
    | true => rfl
    | false =>
      rw [((hes j e he).2.2.2.2.1 ht).2] at hx
      simp [idsUp] at hx
  have hid : ∀ (j : Nat) (e : TE), es[j]? = some e → e.id = id + cntOps P E cal (ops.toList.take j) ∧ e.id + e.cnt = id + cntOps P E cal (ops.toList.take (j + 1)) := fun j e he => by
    obtain ⟨g1, g2, _⟩ := hes j e he
    refine ⟨g1, ?_⟩
    rw [g1, g2, cntOps_take ops.toList j e.o (by rw [Array.getElem?_toList]; exact heo j e he)]
    omega
  have hdis : ∀ (i j : Nat) (x y : TE), es[i]? = some x → es[j]? = some y → i ≠ j → ∀ k, x.id ≤ k → k < x.id + x.cnt → ¬ (y.id ≤ k ∧ k < y.id + y.cnt) := fun i j x y hx hy hij k h1 h2 h3 => by
    obtain ⟨a1, a2⟩ := hid i x hx
    obtain ⟨b1, b2⟩ := hid j y hy
    rcases Nat.lt_or_gt_of_ne hij with hlt | hlt
    · have := cntOps_mono (P := P) (E := E) (cal := cal) ops.toList (i + 1) (j - (i + 1))
      rw [show i + 1 + (j - (i + 1)) = j by omega] at this
      omega
    · have := cntOps_mono (P := P) (E := E) (cal := cal) ops.toList (j + 1) (i - (j + 1))
      rw [show j + 1 + (i - (j + 1)) = i by omega] at this
      omega
  -- any order
  have main : ∀ (fuel : Nat) (listed : Array Bool) (a : Act) (w : World), listed.size = ops.size → ((List.range ops.size).filter fun i => !listed.getD i true).length ≤ fuel →
      (∀ j, listed.getD j false = true → ∀ i, (B.getD j 0).testBit i = true → listed.getD i false = true) →
      (∃ ρ, Sim w0 A W nt sh (fun i => id ≤ i ∧ ∀ (k : Nat) (e : TE), es[k]? = some e → listed.getD k false = true → ¬ (e.id ≤ i ∧ i < e.id + e.cnt)) ρ (tmOf (fun k => listed.getD k false) es 0 (St.look st.tm)) (FOf (fun k => listed.getD k false) es 0 (getF st.F)) a w) →
      wpAny P .any ops Q fuel listed a w := by
    intro fuel
    have fin : ∀ (listed : Array Bool) (a : Act) (w : World), (∀ k, k < ops.size → listed.getD k false = true) →
        (∃ ρ, Sim w0 A W nt sh (fun i => id ≤ i ∧ ∀ (k : Nat) (e : TE), es[k]? = some e → listed.getD k false = true → ¬ (e.id ≤ i ∧ i < e.id + e.cnt)) ρ (tmOf (fun k => listed.getD k false) es 0 (St.look st.tm)) (FOf (fun k => listed.getD k false) es 0 (getF st.F)) a w) → Q .normal a w := by
      rintro listed a w hall ⟨ρ, S⟩
      have e1 : tmOf (fun k => listed.getD k false) es 0 (St.look st.tm) = tmA es (St.look st.tm) := by
        have := tmOf_take es 0 es.length (St.look st.tm)
        rw [List.take_length] at this
        rw [← this]
        funext t
        refine tmOf_congr t es 0 _ _ rfl fun k e he _ => ?_
        have hk : k < es.length := (List.getElem?_eq_some_iff.1 he).1
        simp only [Nat.zero_add]
        rw [hall k (by omega)]
        simp [hk]
      have e2 : FOf (fun k => listed.getD k false) es 0 (getF st.F) = FA es (getF st.F) := by
        have := FOf_take es 0 es.length (getF st.F)
        rw [List.take_length] at this
        rw [← this]
        funext t
        refine FOf_congr t es 0 _ _ rfl fun k e he _ => ?_
        have hk : k < es.length := (List.getElem?_eq_some_iff.1 he).1
        simp only [Nat.zero_add]
        rw [hall k (by omega)]
        simp [hk]
      rw [e1, e2, ← htm, ← hF] at S
      refine hQ st' ρ a w hK hn' { S with toHR := S.toHR.weak fun i hi => ?_ }
      refine ⟨by omega, fun k e he _ => ?_⟩
      have := (hid k e he).2
      have h2 := cntOps_mono (P := P) (E := E) (cal := cal) ops.toList (k + 1) (ops.toList.length - (k + 1))
      have hk : k < es.length := (List.getElem?_eq_some_iff.1 he).1
      rw [show k + 1 + (ops.toList.length - (k + 1)) = ops.toList.length by simp; omega, List.take_length] at h2
      omega
    have hgd : ∀ (listed : Array Bool) (k : Nat), listed.size = ops.size → k < ops.size → listed.getD k true = listed.getD k false := fun listed k hs hk => by
      simp [Array.getD_eq_getD_getElem?, Array.getElem?_eq_getElem (show k < listed.size by omega)]
    have nilall : ∀ (listed : Array Bool), listed.size = ops.size → Region.ready .any ops listed = [] → ∀ k, k < ops.size → listed.getD k false = true := by
      intro listed hs hnil k
      induction k using Nat.strongRecOn with
      | _ k ih =>
        intro hk
        cases hl : listed.getD k false with
        | true => rfl
        | false =>
          have : k ∈ Region.ready .any ops listed := mem_ready.2 ⟨ops[k], by simp [hk], by rw [hgd listed k hs hk]; exact hl, fun e he hb => by
            have := edgesOk_get hedge k ops[k] (by rw [Array.getElem?_toList]; simp [hk]) e he hb
            exact ih e.on (by omega) (by omega)⟩
          rw [hnil] at this
          simp at this
    induction fuel with
    | zero =>
      intro listed a w hs hu hc hinv
      have hall : ∀ k, k < ops.size → listed.getD k false = true := fun k hk => by
        cases hl : listed.getD k false with
        | true => rfl
        | false =>
          have hmem : k ∈ (List.range ops.size).filter fun i => !listed.getD i true := by
            rw [List.mem_filter]
            exact ⟨List.mem_range.2 hk, by rw [hgd listed k hs hk, hl]; rfl⟩
          have := List.length_pos_of_mem hmem
          omega
      refine ⟨?_, fin listed a w hall hinv⟩
      apply List.eq_nil_iff_forall_not_mem.2
      intro i hi
      obtain ⟨o, h1, h2, _⟩ := mem_ready.1 hi
      have hi := (Array.getElem?_eq_some_iff.1 h1).1
      rw [hgd listed i hs hi, hall i hi] at h2
      cases h2
    | succ fuel ih =>
      intro listed a w hs hu hc hinv
      refine ⟨fun hnil => fin listed a w (nilall listed hs hnil) hinv, fun i hi => ?_⟩
      obtain ⟨o, ho, hli, haft⟩ := mem_ready.1 hi
      have hin := (Array.getElem?_eq_some_iff.1 ho).1
      have hLi : listed.getD i false = false := by rw [← hgd listed i hs hin]; exact hli
      obtain ⟨e, he, heq⟩ := hoe i o ho
      subst heq
      obtain ⟨ρ, S⟩ := hinv
      have hready : ∀ k, (B.getD i 0).testBit k = true → listed.getD k false = true := fun k hk => by
        obtain ⟨ed, h1, h2, _, h4⟩ := hbit i e.o k ho hk
        have h5 := haft ed h1 h2
        rcases h4 with rfl | h4
        · exact h5
        · exact hc _ h5 k h4
      -- who is not ordered with it
      have before : ∀ k, k < i → listed.getD k false = false → ¬ (B.getD i 0).testBit k = true := fun k _ hl hb => by rw [hready k hb] at hl; cases hl
      have behind : ∀ k, listed.getD k false = true → ¬ (B.getD k 0).testBit i = true := fun k hl hb => by have := hc k hl i hb; rw [hLi] at this; cases this
      have claim1 : ∀ t, t ∈ e.o.looksAt ops → tmOf (fun k => listed.getD k false) es 0 (St.look st.tm) t = tmA (es.take i) (St.look st.tm) t := fun t ht => by
        have := tmOf_take es 0 i (St.look st.tm)
        rw [← this]
        refine tmOf_congr t es 0 _ _ rfl fun k e' he' hdst => ?_
        simp only [Nat.zero_add]
        have ho' := heo k e' he'
        rcases Nat.lt_trichotomy k i with hlt | rfl | hlt
        · cases hl : listed.getD k false with
          | true => simp [hlt]
          | false => exact absurd ht ((Oper.apart_spec (hap k i e'.o e.o ho' ho hlt (before k hlt hl))).1 t hdst)
        · rw [hLi]; simp
        · cases hl : listed.getD k false with
          | false => simp; omega
          | true => exact absurd ht ((Oper.apart_spec (hap i k e.o e'.o ho ho' hlt (behind k hl))).2.2 t hdst)
      have claim2 : e.t = true → ∀ x, x ∈ e.R → FOf (fun k => listed.getD k false) es 0 (getF st.F) x = FA (es.take i) (getF st.F) x := fun het x hx => by
        have := FOf_take es 0 i (getF st.F)
        rw [← this]
        refine FOf_congr x es 0 _ _ rfl fun k e' he' hxu => ?_
        simp only [Nat.zero_add]
        have ht' := hut k e' x he' hxu
        rcases Nat.lt_trichotomy k i with hlt | rfl | hlt
        · cases hl : listed.getD k false with
          | true => simp [hlt]
          | false => exact absurd hxu ((hap2 k i e' e he' he hlt (before k hlt hl) ht' het).1 x hx)
        · rw [hLi]; simp
        · cases hl : listed.getD k false with
          | false => simp; omega
          | true => exact absurd hxu ((hap2 i k e e' he he' hlt (behind k hl) het ht').2.1 x hx)
      have hL' : ∀ k, (listed.setIfInBounds i true).getD k false = if i = k then true else listed.getD k false := fun k => by
        by_cases hk : i = k
        · subst hk
          simp [Array.getD_eq_getD_getElem?, hs, hin]
        · simp [Array.getD_eq_getD_getElem?, Array.getElem?_setIfInBounds_ne hk, hk]
      have claim3 : setTm (tmOf (fun k => listed.getD k false) es 0 (St.look st.tm)) e.o.dst e.v = tmOf (fun k => (listed.setIfInBounds i true).getD k false) es 0 (St.look st.tm) := by
        funext t
        by_cases hdst : e.o.dst = some t
        · rw [hdst, setTm_eq]
          refine (tmOf_last es 0 _ i e he hdst (by simp only [Nat.zero_add]; rw [hL', if_pos rfl]) fun k' e' hk he' hl hd' => ?_).symm
          simp only [Nat.zero_add] at hl
          rw [hL', if_neg (by omega)] at hl
          exact (Oper.apart_spec (hap i k' e.o e'.o ho (heo k' e' he') hk (behind k' hl))).2.1 t hdst hd'
        · rw [setTm_ne hdst]
          refine tmOf_congr t es 0 _ _ rfl fun k e' he' hd' => ?_
          simp only [Nat.zero_add]
          rw [hL', if_neg]
          intro hik
          subst hik
          rw [he] at he'
          cases he'
          exact hdst hd'
      have claim4 : upd (FOf (fun k => listed.getD k false) es 0 (getF st.F)) e.u = FOf (fun k => (listed.setIfInBounds i true).getD k false) es 0 (getF st.F) := by
        funext x
        by_cases hx : x ∈ idsUp e.u
        · refine (FOf_last _ es 0 _ i e he hx (by simp only [Nat.zero_add]; rw [hL', if_pos rfl]) fun k' e' hk he' hl hx' => ?_).symm
          simp only [Nat.zero_add] at hl
          rw [hL', if_neg (by omega)] at hl
          exact (hap2 i k' e e' he he' hk (behind k' hl) (hut i e x he hx) (hut k' e' x he' hx')).2.2 x hx hx'
        · rw [upd_out _ _ _ (by rw [← idsUp_map]; exact hx)]
          refine FOf_congr x es 0 _ _ rfl fun k e' he' hx' => ?_
          simp only [Nat.zero_add]
          rw [hL', if_neg]
          intro hik
          subst hik
          rw [he] at he'
          cases he'
          exact hx hx'
      obtain ⟨_, _, hw, hop, hskip, _⟩ := hes i e he
      have hdo : ∀ d : Nat, e.o.dst = some d → d < nt := dstsOk_get hd e.o (by rw [← Array.getElem?_toList] at ho; exact List.mem_of_getElem? ho)
      have hwant := wants_run (tmT := tmA (es.take i) (St.look st.tm)) S hd (fun j want d hg hdj => claim1 d (by
        unfold Oper.looksAt
        rw [hg]
        refine List.mem_append_right _ ?_
        unfold dstOf at hdj
        rw [Array.getElem?_toList] at hdj
        cases hoj : ops[j]? with
        | none => rw [hoj] at hdj; cases hdj
        | some oj => rw [hoj] at hdj; have hdj : oj.dst = some d := hdj; simp [hoj, hdj])) hw
      have next : ∀ (a' : Act) (w' : World), (∃ ρ', Sim w0 A W nt sh (fun k => (id ≤ k ∧ ∀ (k' : Nat) (e : TE), es[k']? = some e → listed.getD k' false = true → ¬ (e.id ≤ k ∧ k < e.id + e.cnt)) ∧ ¬ (e.id ≤ k ∧ k < e.id + e.cnt)) ρ'
          (setTm (tmOf (fun k => listed.getD k false) es 0 (St.look st.tm)) e.o.dst e.v) (upd (FOf (fun k => listed.getD k false) es 0 (getF st.F)) e.u) a' w') → wpAny P .any ops Q fuel (listed.setIfInBounds i true) a' w' := by
        rintro a' w' ⟨ρ', S'⟩
        rw [claim3, claim4] at S'
        refine ih _ a' w' (by simp [hs]) ?_ ?_ ⟨ρ', { S' with toHR := S'.toHR.weak fun k hk => ?_ }⟩
        · have hlt := (filter_lt (p := fun k => !listed.getD k true) (p' := fun k => !(listed.setIfInBounds i true).getD k true) (List.range ops.size) (fun x hx hp => ?_)).2 ⟨i, List.mem_range.2 hin, ?_, ?_⟩
          · omega
          · rw [List.mem_range] at hx
            rw [hgd _ x (by simp [hs]) hx, hL'] at hp
            rw [hgd _ x hs hx]
            by_cases hix : i = x
            · rw [if_pos hix] at hp; cases hp
            · rwa [if_neg hix] at hp
          · rw [hgd _ i hs hin, hLi]; rfl
          · rw [hgd _ i (by simp [hs]) hin, hL', if_pos rfl]; rfl
        · intro j hj k hk
          rw [hL'] at hj ⊢
          by_cases hik : i = k
          · rw [if_pos hik]
          · rw [if_neg hik]
            by_cases hij : i = j
            · subst hij; exact hready k hk
            · rw [if_neg hij] at hj; exact hc j hj k hk
        · refine ⟨⟨hk.1, fun k' e' he' hl => hk.2 k' e' he' ?_⟩, hk.2 i e he (by rw [hL', if_pos rfl])⟩
          rw [hL']
          by_cases hik : i = k'
          · rw [if_pos hik]
          · rw [if_neg hik]; exact hl
      unfold Go.wpOp
      simp only [ho]
      rw [hwant]
      cases het : e.t with
      | true =>
        simp only [if_true]
        refine .inl (hop het S (fun x hx => ev_same fun t ht => claim1 t (by
          subst ht
          exact List.mem_append_left _ (List.mem_filterMap.2 ⟨.tmp t, by simpa using hx, rfl⟩))) (fun k => ?_) (fun k h1 h2 => ⟨?_, fun k' e' he' hl => ?_⟩) _ Q fun x w' ρ' hv hx _ H => ?_)
        · unfold restr
          by_cases hk : e.R.contains k = true
          · rw [if_pos hk]
            exact .inr (claim2 het k (by simpa using hk)).symm
          · rw [if_neg hk]; exact .inl rfl
        · have := (hid i e he).1; omega
        · exact hdis i k' e e' he he' (fun hik => by subst hik; rw [hLi] at hl; cases hl) k h1 h2
        · exact next _ _ ⟨ρ', S.after hdo hv hx H⟩
      | false =>
        simp only [Bool.false_eq_true, if_false]
        obtain ⟨hv, hu'⟩ := hskip het
        refine next _ _ ⟨ρ, ?_⟩
        rw [hv, hu']
        exact S.after (x := undef) hdo ⟨#[], rfl, trivial⟩ (ext.refl ρ) (S.toHR.weak fun k hk => hk.1)
  refine main ops.size _ a w (by simp) (by
    have := List.length_filter_le (fun i => !(Array.replicate ops.size false).getD i true) (List.range ops.size)
    simpa using this) (fun j hj => ?_) ⟨ρ, ?_⟩
  · simp [Array.getD_eq_getD_getElem?, Array.getElem?_replicate] at hj
    split at hj <;> simp at hj
  · have hfalse : ∀ k, (Array.replicate ops.size false).getD k false = false := fun k => by
      rw [Array.getD_eq_getD_getElem?, Array.getElem?_replicate]
      split <;> rfl
    have e1 : tmOf (fun k => (Array.replicate ops.size false).getD k false) es 0 (St.look st.tm) = St.look st.tm := by
      have := tmOf_take es 0 0 (St.look st.tm)
      simp only [List.take_zero, tmA] at this
      refine Eq.trans ?_ this
      congr 1
      funext k
      rw [hfalse]; simp
    have e2 : FOf (fun k => (Array.replicate ops.size false).getD k false) es 0 (getF st.F) = getF st.F := by
      have := FOf_take es 0 0 (getF st.F)
      simp only [List.take_zero, FA] at this
      refine Eq.trans ?_ this
      congr 1
      funext k
      rw [hfalse]; simp
    rw [e1, e2]
    exact { S with toHR := S.toHR.weak fun k hk => hk.1 }
end
end Go.Proofs.YtiaagflfiphioaaDoorS
