/- A call, seen from the caller. -/
import Derived.Test.YtiaagflfiphioaaDoorSimR
namespace Go.Proofs.YtiaagflfiphioaaDoorS
open Go
set_option linter.unusedVariables false
set_option linter.unusedSimpArgs false

theorem VRelL.get {ρ : Rho} : ∀ {a : List AVal} {vs : List Value}, VRelL ρ a vs → ∀ i : Nat, (a[i]? = none ∧ vs[i]? = none) ∨ ∃ x v, a[i]? = some x ∧ vs[i]? = some v ∧ VRel ρ x v
  | [], [], _, i => .inl (by simp)
  | x :: _, v :: _, ⟨h, _⟩, 0 => .inr ⟨x, v, rfl, rfl, h⟩
  | _ :: _, _ :: _, ⟨_, g⟩, i + 1 => by simpa using VRelL.get g i
theorem VRelL.append {ρ : Rho} : ∀ {a b : List AVal} {vs us : List Value}, VRelL ρ a vs → VRelL ρ b us → VRelL ρ (a ++ b) (vs ++ us)
  | [], _, [], _, _, h => h
  | _ :: _, _, _ :: _, _, ⟨g, h⟩, k => ⟨g, VRelL.append h k⟩
theorem VRelL.pick {ρ : Rho} {a : List AVal} {vs : List Value} (h : VRelL ρ a vs) : ∀ l, VRelL ρ (pick a l) (pick vs l)
  | [] => trivial
  | i :: l => by
    simp only [YtiaagflfiphioaaDoorS.pick]
    rcases h.get i with ⟨h1, h2⟩ | ⟨x, v, h1, h2, h3⟩
    · rw [h1, h2]; exact VRelL.append trivial (VRelL.pick h l)
    · rw [h1, h2]; exact VRelL.append ⟨h3, trivial⟩ (VRelL.pick h l)
theorem OMatch.sub {ρ ρ' : Rho} {F0 F : Nat → AObj} (hs : Sub F0 F) {q : Bool × Option Nat} {o : AObj} (h : OMatch ρ F0 ρ' q o) : OMatch ρ F ρ' q o := by
  cases o with
  | dead => exact h
  | row own s xs =>
    obtain ⟨h1, h2⟩ := h
    refine ⟨h1, ?_⟩
    obtain ⟨o, q⟩ := q
    cases q with
    | none => exact h2
    | some j => obtain ⟨o', e, h3⟩ := h2; exact ⟨o', hs.row e, h3⟩
  | blob own t d =>
    obtain ⟨h1, h2⟩ := h
    refine ⟨h1, ?_⟩
    obtain ⟨o, q⟩ := q
    cases q with
    | none => exact h2
    | some j => obtain ⟨hf, o', t', d', e, h3⟩ := h2; exact ⟨hf, o', t', d', hs.blob e, h3⟩
  | cell own k n c =>
    obtain ⟨h1, j, o, c', h2, h3, h4⟩ := h
    exact ⟨h1, j, o, c', h2, hs.cell h3, h4⟩
/-- What an object that was packed is. -/
theorem OMatch.at {ρ ρ' : Rho} {F : Nat → AObj} {o : Bool} {j : Nat} {x : AObj} (h : OMatch ρ F ρ' (o, some j) x) : (F j).live = true ∧ (o = true → (F j).raw = true) ∧ (∀ o' k n c, F j = .cell o' k n c → ∃ c', x = .cell o k n c') := by
  cases x with
  | dead => exact h.elim
  | row own s xs =>
    obtain ⟨h1, o', e, h2⟩ := h
    have h1 : own = o := h1
    subst h1
    exact ⟨by rw [e]; rfl, fun e2 => by rw [e]; exact h2 e2, fun o2 k n c e3 => by rw [e] at e3; cases e3⟩
  | blob own t d =>
    obtain ⟨h1, _, o', t', d', e, h2, _⟩ := h
    have h1 : own = o := h1
    subst h1
    exact ⟨by rw [e]; rfl, fun e2 => by rw [e]; exact h2 e2, fun o2 k n c e3 => by rw [e] at e3; cases e3⟩
  | cell own k n c =>
    obtain ⟨h1, j', o', c', h2, e, h3, _⟩ := h
    have h1 : own = o := h1
    subst h1
    cases h2
    exact ⟨by rw [e]; rfl, fun e2 => by rw [e]; exact h3 e2, fun o2 k2 n2 c2 e3 => by rw [e] at e3; cases e3; exact ⟨c, rfl⟩⟩
theorem HR.klt {w0 : World} {A : List Nat} {W : WL} {U : Nat → Prop} {ρ : Rho} {F : Nat → AObj} {w : World} (H : HR w0 A W U ρ F w) {i k n : Nat} {c : Cell} (h : F i = .cell true k n c) : k < n := by
  have := H.obj i
  rw [h] at this
  obtain ⟨hd, _, hr⟩ := this
  exact hr.lt
theorem fin_sound {w0 w w' : World} {A A' : List Nat} {W W' : WL} {U Ux : Nat → Prop} {ρ ρx : Rho} {F F0 : Nat → AObj} (H : HR w0 A W U ρ F w) (hs : Sub F0 F)
    {ins : List Slot} {ios : List Nat} {res : List Slot} {args : List AVal} {d : Dl ins} {T : Acc} (hp : packL ins args F0 [] = some (d, T)) (hsep : sepOk T = true)
    {f' f : FuncId} {id : Nat} {r : RF res (pick ins ios)} {v : AVal} {u : List (Nat × AObj)} (hfin : finF f' ins ios res f args T F0 id r = some (v, u))
    (hU : ∀ i, id ≤ i → i < id + (cntL res + nestL (pick ins ios)) → U i) {vals : List Value} (hargs : VRelL ρ args vals)
    (X : HR w A' W' Ux ρx (getF (ups 0 ((unpackL res (RF.res _ _ r) 0 0).2 ++ (unpackL (pick ins ios) (RF.io _ _ r) 0 (cntL res)).2))) w')
    (hA' : ∀ b, b ∈ A' → ∃ j, (∃ o, (o, some j) ∈ T) ∧ fp (F j) (ρ j) w b)
    (hW' : ∀ b, b ∈ W' → ∃ j, (true, some j) ∈ T ∧ fpw (F j) (ρ j) w b)
    {x : Value} (hv : VRel ρx (resAVal (unpackL res (RF.res _ _ r) 0 0).1) x)
    (hio : VRelL ρx (unpackL (pick ins ios) (RF.io _ _ r) 0 (cntL res)).1 (pick vals ios)) :
    f' = f ∧ ∃ ρ', VRel ρ' v x ∧ ext ρ ρ' ∧ (∀ i, ¬ (id ≤ i ∧ i < id + (cntL res + nestL (pick ins ios))) → ρ' i = ρ i) ∧
      HR w0 A W (fun i => U i ∧ ¬ (id ≤ i ∧ i < id + (cntL res + nestL (pick ins ios)))) ρ' (upd F u) w' := by
  unfold finF at hfin
  split at hfin
  rotate_left
  cases hfin
  rename_i hc
  obtain ⟨rfl, hnr, hrb⟩ := hc
  refine ⟨rfl, ?_⟩
  -- the callee's objects, one by one
  have L1 := unpackL_len res (RF.res _ _ r) 0 0
  have L2 := unpackL_len (pick ins ios) (RF.io _ _ r) 0 (cntL res)
  have L3 := unpackL_len res (RF.res _ _ r) id id
  have G1 := unpackL_grp res (RF.res _ _ r) 0 0
  have O1 := fun h => unpackL_own res (RF.res _ _ r) 0 0 h
  generalize hFx : getF (ups 0 ((unpackL res (RF.res _ _ r) 0 0).2 ++ (unpackL (pick ins ios) (RF.io _ _ r) 0 (cntL res)).2)) = Fx at X
  have hF1 : ∀ k, k < cntL res → Fx k = (unpackL res (RF.res _ _ r) 0 0).2.getD k .dead := fun k hk => by
    rw [← hFx, getF_ups0, List.getD_eq_getElem?_getD, List.getElem?_append_left (by omega), ← List.getD_eq_getElem?_getD]
  have hF2 : ∀ q, q < cntL (pick ins ios) → Fx (cntL res + q) = (unpackL (pick ins ios) (RF.io _ _ r) 0 (cntL res)).2.getD q .dead := fun q hq => by
    rw [← hFx, getF_ups0, List.getD_eq_getElem?_getD, List.getElem?_append_right (by omega), L1, Nat.add_sub_cancel_left, ← List.getD_eq_getElem?_getD]
  obtain ⟨TB, hTB, PL⟩ := packL_sound (ρ := ρ) ins hp
  rw [List.nil_append] at hTB
  subst hTB
  have hT0 : ∀ o i, (o, some i) ∈ T → ∃ t : Nat, T[t]? = some (o, some i) := fun o i h => List.mem_iff_getElem?.1 h
  have hTF : ∀ o i, (o, some i) ∈ T → F0 i = F i := fun o i h => by
    obtain ⟨t, ht⟩ := hT0 o i h
    rcases hs i with h2 | h2
    · have := (OMatch.at (PL.obj t _ ht)).1
      rw [h2] at this
      cases this
    · exact h2
  split at hfin
  rename_i vs2 os2 hun
  split at hfin <;> cases hfin
  rename_i ub hback
  rw [hun] at L3
  have L3 : os2.length = cntL res := L3
  rw [L3] at hback
  -- the pairs
  obtain ⟨P, B, hres, hal0, hown⟩ : ∃ P, BackP ρ ρx Fx id (id + (cntL res + nestL (pick ins ios))) 0 (cntL res + cntL (pick ins ios)) P ∧ (∀ k, k < cntL res → (id + k, k) ∈ P) ∧
      (∀ ρ' : Rho, (∀ i k, (i, k) ∈ P → ρ' i = ρx k) → Al ρx ρ' Fx (ups id os2 ++ ub) P) ∧ ((roL res || roInL (pick ins ios)) = false → ∀ i k, (i, k) ∈ P → (Fx k).whole = true) := by
    obtain ⟨P, p1, p2, p3⟩ := backL_sound (ρ := ρ) (ρx := ρx) (Fx := Fx) (pick ins ios) hback hnr (cntL res) hF2
    have p1 := p1 _ (hargs.pick ios) hio
    have q1 : BackP ρ ρx Fx id (id + cntL res) 0 (cntL res) (prs id 0 (cntL res)) := by
      refine ⟨fun i k h => ?_, fun i j k h g => ?_, fun i k h o ki nn c e => ?_, fun i k h => ?_, fun i k k' h g hn => ?_⟩
      · obtain ⟨r, h1, h2, h3⟩ := (mem_prs _ _ _ _ _).1 h; omega
      · obtain ⟨r, h1, h2, h3⟩ := (mem_prs _ _ _ _ _).1 h
        obtain ⟨r', g1, g2, g3⟩ := (mem_prs _ _ _ _ _).1 g
        omega
      · obtain ⟨q, h1, h2, h3⟩ := (mem_prs _ _ _ _ _).1 h
        rw [Nat.zero_add] at h3
        subst h2 h3
        have hlt : k < (unpackL res (RF.res _ _ r) 0 0).2.length := by omega
        rw [hF1 k h1, List.getD_eq_getElem?_getD, List.getElem?_eq_getElem hlt] at e
        have := G1 k o ki nn c (by rw [List.getElem?_eq_getElem hlt]; exact congrArg some e)
        exact ⟨by omega, by omega, fun q hq => (mem_prs _ _ _ _ _).2 ⟨k - ki + q, by omega, by omega, by omega⟩⟩
      · obtain ⟨r, h1, h2, h3⟩ := (mem_prs _ _ _ _ _).1 h; left; omega
      · obtain ⟨r, h1, h2, h3⟩ := (mem_prs _ _ _ _ _).1 h
        obtain ⟨r', g1, g2, g3⟩ := (mem_prs _ _ _ _ _).1 g
        omega
    have p1' : BackP ρ ρx Fx (id + cntL res) (id + (cntL res + nestL (pick ins ios))) (0 + cntL res) (cntL (pick ins ios)) P := by rw [Nat.zero_add, ← Nat.add_assoc]; exact p1
    refine ⟨prs id 0 (cntL res) ++ P, q1.append p1' (by omega) (by omega), fun k hk => List.mem_append_left _ ((mem_prs _ _ _ _ _).2 ⟨k, hk, rfl, by omega⟩), fun ρ' hρ => ?_, fun ho i k h => ?_⟩
    · have hsh := (unpackL_shift (ρx := ρx) (ρ' := ρ') (cntL res) res (RF.res _ _ r) 0 0 id id hrb (fun j v hj h => by
        rw [hρ (id + j) j (List.mem_append_left _ ((mem_prs _ _ _ _ _).2 ⟨j, hj, rfl, by omega⟩))]
        rwa [Nat.zero_add] at h) (fun j v hj h => by
        rw [hρ (id + j) j (List.mem_append_left _ ((mem_prs _ _ _ _ _).2 ⟨j, hj, rfl, by omega⟩))]
        rwa [Nat.zero_add] at h)).2
      rw [hun] at hsh
      have a1 := Al.ups (O := Fx) id 0 hsh (fun q hq => by rw [Nat.zero_add]; exact hF1 q (by omega))
      rw [L1] at a1
      exact a1.append (p2 ρ' fun i k h => hρ i k (List.mem_append_right _ h))
    · simp only [Bool.or_eq_false_iff] at ho
      rcases List.mem_append.1 h with h | h
      · obtain ⟨q, h1, h2, h3⟩ := (mem_prs _ _ _ _ _).1 h
        rw [Nat.zero_add] at h3
        subst h3
        rw [hF1 k h1]
        exact O1 ho.1 k (by omega)
      · exact p3 ho.2 i k h
  let ρ' : Rho := fun i => match lk none P i with | some k => ρx k | none => ρ i
  have r1 : ∀ i k, lk none P i = some k → ρ' i = ρx k := fun i k h => by simp only [ρ', h]
  have r0 : ∀ i, lk none P i = none → ρ' i = ρ i := fun i h => by simp only [ρ', h]
  have hmem : ∀ i k, lk none P i = some k → (i, k) ∈ P := fun i k h => (lk_some P none i k h).resolve_left (by simp)
  have hfree : ∀ i k, (i, k) ∈ P → ∀ v, ρ i = some v → ρx k = some v := fun i k h v hv => by
    rcases B.key i k h with h | ⟨v', h1, h2⟩
    · rw [H.fre i (hU i h.1 h.2)] at hv; cases hv
    · rw [hv] at h1; cases h1; exact h2
  have hρ : ∀ i k, (i, k) ∈ P → ρ' i = ρx k := fun i k h => by
    cases hl : lk none P i with
    | none => exact absurd h ((lk_none P none i hl).2 k)
    | some k' =>
      rw [r1 i k' hl]
      cases hv : ρ i with
      | none => rw [B.new i k k' h (hmem i k' hl) hv]
      | some v => rw [hfree i k h v hv, hfree i k' (hmem i k' hl) v hv]
  have hal := hal0 ρ' hρ
  have hx : ext ρ ρ' := fun i v h => by
    cases hl : lk none P i with
    | none => rw [r0 i hl]; exact h
    | some k => rw [r1 i k hl]; exact hfree i k (hmem i k hl) v h
  have hout : ∀ i, ¬ (id ≤ i ∧ i < id + (cntL res + nestL (pick ins ios))) → ρ' i = ρ i := fun i hi => by
    cases hl : lk none P i with
    | none => exact r0 i hl
    | some k =>
      rw [r1 i k hl]
      rcases B.key i k (hmem i k hl) with h | ⟨v, h1, h2⟩
      · exact absurd h hi
      · rw [h1, h2]
  refine ⟨ρ', ?_, hx, hout, ?_⟩
  · have hsh := (unpackL_shift (ρx := ρx) (ρ' := ρ') (cntL res) res (RF.res _ _ r) 0 0 id id hrb (fun j v hj h => by
      rw [hρ (id + j) j (hres j hj)]
      rwa [Nat.zero_add] at h) (fun j v hj h => by
      rw [hρ (id + j) j (hres j hj)]
      rwa [Nat.zero_add] at h)).1
    rw [hun] at hsh
    exact resAVal_map hsh x hv
  · rw [List.append_assoc, upd_append]
    generalize hG : upd F (handed (roL res || roInL (pick ins ios)) F0 T) = G at *
    have hspec := fun i => handed_spec hsep (roL res || roInL (pick ins ios)) F F0 hTF i
    rw [hG] at hspec
    have hlk : ∀ i, (match lk none P i with | some k => NewAt ρx ρ' (Fx k) (upd G (ups id os2 ++ ub) i) | none => upd G (ups id os2 ++ ub) i = G i) := fun i => al_lk i _ P none G hal rfl
    have hbox : ∀ (o : Bool) (i j ki kj n : Nat) (ci cj : Cell), F i = .cell true ki n ci → F j = .cell true kj n cj → i + kj = j + ki → (o, some j) ∈ T → (o, some i) ∈ T := fun o i j ki kj n ci cj e1 e2 e3 h => by
      obtain ⟨t, ht⟩ := hT0 o j h
      obtain ⟨c', hc'⟩ := (OMatch.at ((PL.obj t _ ht).sub hs)).2.2 _ _ _ _ e2
      have hget : (unpackL ins d 0 ([] : Acc).length).2[t]? = some (.cell o kj n c') := by
        rw [List.getD_eq_getElem?_getD] at hc'
        cases h2 : (unpackL ins d 0 ([] : Acc).length).2[t]? with
        | none => rw [h2] at hc'; cases hc'
        | some x => rw [h2] at hc'; exact congrArg some hc'
      obtain ⟨g1, g2, g3, j0, g4⟩ := PL.grp t o kj n c' hget
      have q1 := (g4 kj g2).1
      rw [show t - kj + kj = t by omega, ht] at q1
      have q1 : j = j0 + kj := by cases q1; rfl
      have q2 := (g4 ki (H.klt e1)).1
      rw [show j0 + ki = i by omega] at q2
      exact List.mem_of_getElem? q2
    refine H.merge X (fun j => ∃ o, (o, some j) ∈ T) (fun j => (true, some j) ∈ T) (roL res || roInL (pick ins ios)) (lk none P) (fun j h => ⟨true, h⟩) hA' hW'
      (fun i j ki kj n ci cj e1 e2 e3 h => by obtain ⟨o, h⟩ := h; exact ⟨o, hbox o i j ki kj n ci cj e1 e2 e3 h⟩) (fun i j ki kj n ci cj e1 e2 e3 h => hbox true i j ki kj n ci cj e1 e2 e3 h)
      (fun i j k h1 h2 => B.inj i j k (hmem i k h1) (hmem j k h2)) (fun i j k l ki kj n ci cj h1 h2 e1 e2 e3 => ?_) hx (fun i k h => ?_) (fun i h => ?_) (fun ho i k h _ => hown ho i k (hmem i k h)) (fun i h => ?_)
    · obtain ⟨a1, a2, a3⟩ := B.grp i k (hmem i k h1) _ _ _ _ e1
      have a4 := a3 kj (X.klt e2)
      rw [show k - ki + kj = l by omega] at a4
      have := B.inj _ _ l a4 (hmem j l h2)
      omega
    · have := hlk i
      rw [h] at this
      exact ⟨r1 i k h, this⟩
    · have := hlk i
      rw [h] at this
      rw [this]
      exact ⟨r0 i h, hspec i⟩
    · rw [hout i h.2]
      exact H.fre i h.1
end Go.Proofs.YtiaagflfiphioaaDoorS
