/- Operators, conversions of numbers, parts of strings, lengths. -/
import Derived.Test.YtiaagflfiphioaaDoorSimF
namespace Go.Proofs.YtiaagflfiphioaaDoorS
open Go
set_option linter.unusedVariables false
set_option linter.unusedSimpArgs false

section
variable {P : Program} {w0 : World} {A : List Nat} {W : WL} {nt : Nat} {sh : Nat → Value} {U : Nat → Prop} {ρ : Rho} {tm : Nat → AVal} {F F0 : Nat → AObj} {a : Act} {w : World} {id cnt : Nat}

/-- Fields compared one after the other. -/
theorem run_eqFields (d : Nat) (f : TypeId → List Cell → List Cell → Option Bool)
    (hf : ∀ t n ag, loadB P t = some (n, ag) → ∀ (l l' : List Cell) (x y : Value) (r : Bool), VRel ρ (AVal.of ag l) x → VRel ρ (AVal.of ag l') y → l.length = n → l'.length = n → f t l l' = some r → (Op.equalIn d t x y).run P w = .ok r w)
    {xs ys : Array Value} {l l' : List Cell} (hx : LRel ρ l xs.toList) (hy : LRel ρ l' ys.toList) :
    ∀ (fs : List Field) (off : Nat) (r : Bool), off ≤ l.length → off ≤ l'.length → eqVF P f fs off (l.drop off) (l'.drop off) = some r → (Op.eqFields d xs ys fs).run P w = .ok r w
  | [], off, r, _, _, h => by
    have : r = true := by
      cases h1 : l.drop off <;> cases h2 : l'.drop off <;> rw [h1, h2] at h <;> simp [eqVF] at h
      exact h
    subst this
    simp [Op.eqFields]
  | x :: fs, off, r, ho1, ho2, h => by
    simp only [eqVF] at h
    split at h <;> try cases h
    rename_i m ag hl
    split at h <;> try cases h
    rename_i hc
    simp only [Bool.and_eq_true, beq_iff_eq, bne_iff_ne, decide_eq_true_eq, List.length_drop] at hc
    obtain ⟨⟨⟨rfl, hname⟩, hm1⟩, hm2⟩ := hc
    split at h <;> try cases h
    rename_i r1 r2 q1 q2
    have l1 : ((l.drop x.offset).take m).length = m := by rw [List.length_take, List.length_drop]; omega
    have l2 : ((l'.drop x.offset).take m).length = m := by rw [List.length_take, List.length_drop]; omega
    obtain ⟨u, hu, hur⟩ := run_part hl w xs x.offset hx (by omega)
    obtain ⟨v, hv, hvr⟩ := run_part hl w ys x.offset hy (by omega)
    have hq := hf x.type m ag hl _ _ u v r1 hur hvr l1 l2 q1
    rw [List.drop_drop, List.drop_drop] at q2
    have ih := run_eqFields d f hf hx hy fs (x.offset + m) r2 (by omega) (by omega) q2
    simp only [Op.eqFields, if_pos hname, Sem.run_bind, hu, hv, hq, Result.andThen_ok]
    cases r1
    · simp
    · simpa using ih
theorem run_equal (d : Nat) : ∀ (D : Nat), d ≤ D → ∀ (t : TypeId) (n : Nat) (ag : Bool), loadB P t = some (n, ag) → ∀ (l l' : List Cell) (x y : Value) (r : Bool), VRel ρ (AVal.of ag l) x → VRel ρ (AVal.of ag l') y →
    l.length = n → l'.length = n → eqV P d t l l' = some r → (Op.equalIn D t x y).run P w = .ok r w := by
  induction d with
  | zero => intro D _ t n ag hag l l' x y r _ _ _ _ h; simp [eqV] at h
  | succ d ih =>
    intro D hD t n ag hag l l' x y r hx hy h1 h2 h
    obtain ⟨D, rfl⟩ : ∃ m, D = m + 1 := ⟨D - 1, by omega⟩
    obtain ⟨_, ha, _⟩ := loadB_parts hag
    simp only [eqV] at h
    split at h
    · rename_i hu
      have e1 : ag = false := by simp only [isAggB, hu] at ha; exact (Option.some.inj ha).symm
      subst e1
      split at h <;> cases h
      simp only [AVal.of, VRel, CRel] at hx hy
      simp at hx hy
      subst hx hy
      simp [Op.equalIn, run_underlying hu]
    · rename_i hu
      have e1 : ag = false := by simp only [isAggB, hu] at ha; exact (Option.some.inj ha).symm
      subst e1
      split at h <;> try cases h
      split at h <;> cases h
      rename_i hk
      subst hk
      simp only [AVal.of, VRel, CRel] at hx hy
      simp at hx hy
      subst hx hy
      simp [Op.equalIn, run_underlying hu]
    · rename_i hu
      have e1 : ag = false := by simp only [isAggB, hu] at ha; exact (Option.some.inj ha).symm
      subst e1
      split at h <;> cases h
      simp only [AVal.of, VRel, CRel] at hx hy
      simp at hx hy
      subst hx hy
      simp [Op.equalIn, run_underlying hu]
    · rename_i fs hu
      have e1 : ag = true := by simp only [isAggB, hu] at ha; exact (Option.some.inj ha).symm
      subst e1
      split at h <;> try cases h
      rename_i hst
      obtain ⟨xs, rfl, hxs⟩ := hx
      obtain ⟨ys, rfl, hys⟩ := hy
      have hfo : P.fieldsOf t = fs := by simp [Program.fieldsOf, hu]
      rw [run_equalIn_struct w D t xs ys (by rw [hfo]; exact hu) (by simpa using hst), hfo]
      exact run_eqFields D (eqV P d) (fun t n ag hag l l' x y r a1 a2 a3 a4 a5 => ih D (by omega) t n ag hag l l' x y r a1 a2 a3 a4 a5) hxs hys fs.toList 0 r (Nat.zero_le _) (Nat.zero_le _) h
    · cases h
theorem eqGuard_scalar (op : BinOp) (t : TypeId) (x y : Operand) (u v : Value) (hu : (∀ l, u ≠ .agg l) ∧ u ≠ .nilIface) : (eqGuard op t x y u v).run P w = .ok () w := by
  cases op <;> simp only [eqGuard] <;> try rfl
  all_goals cases u <;> first | rfl | exact absurd rfl hu.2 | exact absurd rfl (hu.1 _)
theorem out_binOp {o : Oper} {op : BinOp} {t yt : TypeId} {x y : Operand} (ho : o.op = .binOp op t x y yt) {v : AVal} {u : List (Nat × AObj)} (S : Sim w0 A W nt sh U ρ tm F a w) (h : Gives (eff P o.op o.type tm F0 id) v u) : Out w0 A W U ρ F id cnt v u ((execOp a.eval o).run P w) := by
  rw [ho] at h
  simp only [eff] at h
  split at h
  · rename_i k m k' n hx hy
    have ex := int_of S hx
    have ey := int_of S hy
    have run : ∀ r, (binOp op t (.int k m) (.int k' n)).run P w = .ok r w → (execOp a.eval o).run P w = .ok (.value r) w := by
      intro r hr
      simp [execOp, ho, ex, ey, eqGuard_scalar op t x y (.int k m) (.int k' n) ⟨nofun, nofun⟩, hr]
    split at h
    · rename_i hsh
      cases op <;> (try cases hsh) <;> simp only [shOps] at h
      all_goals
        obtain ⟨hb, rfl, rfl⟩ := h.ck
        have hb : ¬ n < 0 := by simpa using hb
        exact Out.pure S (run _ (by simp only [binOp, Op.shift, if_neg hb]; rfl)) rfl
    rename_i hnsh
    split at h
    rotate_left
    exact h.fail.elim
    rename_i hk
    subst hk
    cases op <;> simp only [intOps] at h <;> first | exact h.fail.elim | skip
    all_goals first
      | (obtain ⟨rfl, rfl⟩ := h.c; exact Out.pure S (run _ (by simp [binOp, Op.intArith, Op.intCmp]; rfl)) rfl)
      | (obtain ⟨rfl, rfl⟩ := h.c; exact Out.pure S (run _ (by simp [binOp, Op.intArith, Op.intCmp])) rfl)
      | (obtain ⟨rfl, rfl⟩ := h.c; exact Out.pure S (run _ (by simp [binOp, Op.intBits]; rfl)) rfl)
      | (obtain ⟨hb, rfl, rfl⟩ := h.ck
         have hb : n ≠ 0 := by simpa using hb
         exact Out.pure S (run _ (by simp [binOp, Op.intDiv, hb]; rfl)) rfl)
      | (obtain ⟨hb, rfl, rfl⟩ := h.ck
         have hb : n ≠ 0 := by simpa using hb
         exact Out.pure S (run _ (by simp [binOp, Op.intDiv, hb])) rfl)
  · rename_i m n hx hy
    have ex := str_of S hx
    have ey := str_of S hy
    have run : ∀ r, (binOp op t (.string m) (.string n)).run P w = .ok r w → (execOp a.eval o).run P w = .ok (.value r) w := by
      intro r hr
      simp [execOp, ho, ex, ey, eqGuard_scalar op t x y (.string m) (.string n) ⟨nofun, nofun⟩, hr]
    cases op <;> simp only [strOps] at h <;> first | exact h.fail.elim | skip
    · obtain ⟨hb, rfl, rfl⟩ := h.ck
      have hb : m.size + n.size < maxStr := of_decide_eq_true hb
      have hb2 : ¬ (((m.size + n.size : Nat) : Int) > IntKind.i64.max) := by
        have : IntKind.i64.max = 9223372036854775807 := by decide
        rw [this]
        unfold maxStr at hb
        omega
      exact Out.pure S (x := .string (m ++ n)) (run _ (by simp only [binOp, Op.stringOp, if_neg hb2]; rfl)) rfl
    all_goals
      obtain ⟨rfl, rfl⟩ := h.c
      exact Out.pure S (run _ (by simp [binOp, Op.stringOp]; rfl)) rfl
  · rename_i m n hx hy
    have ex := bool_of S hx
    have ey := bool_of S hy
    have run : ∀ r, (binOp op t (.bool m) (.bool n)).run P w = .ok r w → (execOp a.eval o).run P w = .ok (.value r) w := by
      intro r hr
      simp [execOp, ho, ex, ey, eqGuard_scalar op t x y (.bool m) (.bool n) ⟨nofun, nofun⟩, hr]
    split at h
    · rename_i hu
      obtain ⟨rfl, rfl⟩ := h.c
      exact Out.pure S (run _ (run_eql_bool w t m n hu)) rfl
    · rename_i hu
      obtain ⟨rfl, rfl⟩ := h.c
      exact Out.pure S (run _ (run_neq_bool w t m n hu)) rfl
    · exact h.fail.elim
  · rename_i m n hx hy
    split at h
    rotate_left
    exact h.fail.elim
    rename_i r hr
    unfold eqAgg at hr
    split at hr <;> try cases hr
    rename_i k hl
    split at hr <;> try cases hr
    rename_i hg
    simp only [Bool.and_eq_true, beq_iff_eq, Bool.not_eq_true'] at hg
    obtain ⟨⟨hm, hn⟩, hg⟩ := hg
    have ex := ev_rel S x
    have ey := ev_rel S y
    rw [hx] at ex
    rw [hy] at ey
    have hq := run_equal 20 10000 (by omega) t k true hl m n _ _ r ex ey hm hn hr (w := w)
    obtain ⟨xs, ex, hxs⟩ := ex
    obtain ⟨ys, ey, hys⟩ := ey
    rw [ex, ey] at hq
    have hgd := run_eqGuard_agg (P := P) w op t x y xs ys hg
    cases op <;> dsimp only at h <;> first | exact h.fail.elim | skip
    · obtain ⟨rfl, rfl⟩ := h.c
      exact Out.pure S (x := .bool r) (by simp [execOp, ho, ex, ey, hgd, run_eql_struct, hq]) rfl
    · obtain ⟨rfl, rfl⟩ := h.c
      exact Out.pure S (x := .bool (!r)) (by simp [execOp, ho, ex, ey, hgd, run_neq_struct, hq]) rfl
  · exact h.fail.elim
end
end Go.Proofs.YtiaagflfiphioaaDoorS
