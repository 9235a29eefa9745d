/- Appends, conversions, builtins; every operation. -/
import Derived.Test.YtiaagflfiphioaaDoorSimJ
import Derived.Lib.AppendStr
namespace Go.Proofs.YtiaagflfiphioaaDoorS
open Go
set_option linter.unusedVariables false
set_option linter.unusedSimpArgs false

section
variable {P : Program} {w0 : World} {A : List Nat} {W : WL} {nt : Nat} {sh : Nat → Value} {U : Nat → Prop} {ρ : Rho} {tm : Nat → AVal} {F F0 : Nat → AObj} {a : Act} {w : World} {id : Nat}

theorem castBlob_eq {t t' : BT} {d : t'.D} {y : t.D} (h : castBlob t t' d = some y) : ∃ e : t' = t, e ▸ d = y := by
  unfold castBlob at h
  split at h
  · rename_i e; exact ⟨e, Option.some.inj h⟩
  · cases h
theorem castRows_eq {s s' : Sh} {xs : List (List s'.T)} {ys : List (List s.T)} (h : castRows s s' xs = some ys) : ∃ e : s' = s, e ▸ xs = ys := by
  unfold castRows at h
  split at h <;> cases h
  exact ⟨by assumption, rfl⟩
theorem castRow_eq {s s' : Sh} {xs : List s'.T} {ys : List s.T} (h : castRow s s' xs = some ys) : ∃ e : s' = s, e ▸ xs = ys := by
  unfold castRow at h
  split at h <;> cases h
  exact ⟨by assumption, rfl⟩
/-- Appending, in the three ways. -/
theorem run_append_room0 (ats : Array TypeId) (ty t u e : TypeId) (d : TypeDesc) (h0 : ats[0]? = some t) (h1 : ats[1]? = some u) (ht : P.underlying t = some (.slice e)) (hu : P.underlying u = some d) (hd : (∃ e', d = .slice e') ∨ d = .string) (sz : Nat) (hsz : sizeB P e = some sz)
    (p : Option Addr) (n cap m : Nat) (y : Value) (news : List Value) (hl : (Builtin.lenOf y).run P w = .ok m w) (hn : (Builtin.firstCells sz m y).run P w = .ok news.toArray w) (hroom : n + m ≤ cap) (w' : World)
    (hst : match p with | some ad => (storeCells (ad.add (n * sz)) news).run P w = .ok () w' | none => w' = w) :
    (Builtin.append_ ats ty #[.slice p n cap, y]).run P w = .ok (.slice p (n + m) cap) w' := by
  cases p with
  | none =>
    subst hst
    rcases hd with ⟨e', rfl⟩ | rfl <;> simp [Builtin.append_, h0, h1, run_underlying ht, run_underlying hu, run_sizeOf hsz, hl, hn, hroom]
  | some ad =>
    rcases hd with ⟨e', rfl⟩ | rfl <;> simp [Builtin.append_, h0, h1, run_underlying ht, run_underlying hu, run_sizeOf hsz, hl, hn, hroom, hst]
theorem run_append_grow0 (ats : Array TypeId) (ty t u e : TypeId) (d : TypeDesc) (h0 : ats[0]? = some t) (h1 : ats[1]? = some u) (ht : P.underlying t = some (.slice e)) (hu : P.underlying u = some d) (hd : (∃ e', d = .slice e') ∨ d = .string) (i : TypeInfo) (z : Value) (hi : P.info? e = some i) (hz : i.zero = some z)
    (p : Option Addr) (n cap m : Nat) (y : Value) (olds news : List Value) (hl : (Builtin.lenOf y).run P w = .ok m w) (hn : (Builtin.firstCells i.size m y).run P w.drew = .ok news.toArray w.drew) (ho : (Builtin.firstCells i.size n (.slice p n cap)).run P w.drew = .ok olds.toArray w.drew)
    (hg : cap < n + m) (hb : 0 < i.bytes) (hfit : (n + m) * i.bytes < maxRow) :
    (Builtin.append_ ats ty #[.slice p n cap, y]).run P w = .ok (.slice (some ⟨w.heap.size, 0, none⟩) (n + m) (grownCap w (n + m) cap e))
      (w.drew.alloc (.cells ((olds ++ news).toArray ++ Builtin.zeroCells z.cells (grownCap w (n + m) cap e - (n + m))) e)) := by
  have hroom : ¬ (n + m ≤ cap) := by omega
  have hsz : sizeB P e = some i.size := by unfold sizeB; rw [hi]
  have hmb : n + m ≤ (n + m) * i.bytes := Nat.le_mul_of_pos_right _ hb
  have hb0 : ¬ i.bytes = 0 := by omega
  have h48 : ¬ (281474976710656 < Builtin.nextslicecap (n + m) cap * i.bytes) := by
    have := growslice_fits (need := n + m) (old := cap) (bytes := i.bytes) (by omega) (by unfold maxRow at hfit; omega)
    omega
  rcases hd with ⟨e', rfl⟩ | rfl <;> simp [Builtin.append_, h0, h1, run_underlying ht, run_underlying hu, run_sizeOf hsz, hl, hn, ho, hroom, typeInfo, hi, hb0, h48, zeroValue, hz, newRow, grownCap, Question.forced]
  all_goals (congr 2; apply Array.ext'; simp)

/-- The cells of a row, read at once. -/
theorem row_first {own : Bool} {s : Sh} {xs : List s.T} {p : Option Addr} {n cap : Nat} {w w' : World} (h : RowRel own s xs (.slice p n cap) w) (hw : w'.heap = w.heap) : (Builtin.firstCells s.sz xs.length (.slice p n cap)).run P w' = .ok (flat s xs).toArray w' := by
  obtain ⟨p', cap', e, hle, hp⟩ := h
  cases e
  cases p with
  | none =>
    obtain ⟨rfl, _⟩ := hp
    exact run_firstCells_none _ _ _ _ _
  | some ad =>
    obtain ⟨hs, cs, el, fz, hh, hc, _⟩ := hp
    refine run_firstCells_some _ _ _ _ _ _ _ (flat_len s xs) fun j v hv => ?_
    obtain ⟨b, o, sp⟩ := ad
    simp only at hs hh hc
    subst hs
    rw [add_lit, cell_of (by rw [hw]; exact hh)]
    rw [← hc, List.getElem?_take, List.getElem?_drop] at hv
    split at hv
    · simpa using hv
    · cases hv
theorem flat_bytes (x : ByteArray) : flat (.int .u8) (bytesOf x) = Lib.strCells x := by
  simp only [flat, bytesOf, Lib.strCells]
  induction x.data.toList with
  | nil => rfl
  | cons b r ih => rw [List.map_cons, List.map_cons, ← ih]; rfl
theorem bytesOf_len (b : ByteArray) : (bytesOf b).length = b.size := by simp [bytesOf]
theorem src_str {s : Sh} {b : ByteArray} {ys : List s.T} (h : castRow s (.int .u8) (bytesOf b) = some ys) (w' : World) : (Builtin.lenOf (.string b)).run P w' = .ok ys.length w' ∧ (Builtin.firstCells s.sz ys.length (.string b)).run P w' = .ok (flat s ys).toArray w' := by
  obtain ⟨e, h⟩ := castRow_eq h
  subst e
  have h : (bytesOf b : List (Sh.int .u8).T) = ys := h
  subst h
  have hf := flat_bytes b
  have hl := bytesOf_len b
  have hr := Lib.run_firstCells_string (P := P) w' (Sh.int .u8).sz b
  refine ⟨?_, ?_⟩
  · exact (by simp [Builtin.lenOf] : (Builtin.lenOf (.string b)).run P w' = .ok b.size w').trans (by rw [← hl]; rfl)
  · exact (show (Builtin.firstCells (Sh.int .u8).sz (bytesOf b).length (.string b)).run P w' = _ by rw [hl, hr, ← hf])
theorem src_of (S : Sim w0 A W nt sh U ρ tm F a w) (hs : Sub F0 F) {ats : Array TypeId} {s : Sh} {c : Cell} {x : Operand} {ys : List s.T} (hx : ev tm x = .c c) (h : srcRow P ats s c F0 = some ys) :
    ∃ u d, ats[1]? = some u ∧ P.underlying u = some d ∧ ((∃ e', d = .slice e') ∨ d = .string) ∧ ∀ w', w'.heap = w.heap → (Builtin.lenOf (a.eval x)).run P w' = .ok ys.length w' ∧ (Builtin.firstCells s.sz ys.length (a.eval x)).run P w' = .ok (flat s ys).toArray w' := by
  unfold srcRow at h
  split at h
  rotate_left
  cases h
  rename_i u hu
  split at h
  · rename_i e j hd
    split at h
    rotate_left
    cases h
    rename_i o s' ys' hF
    obtain ⟨rfl, h⟩ := castRow_eq h
    cases h
    obtain ⟨p, cap, e1, hr, _⟩ := row_of S hs hx hF
    refine ⟨u, _, hu, hd, .inl ⟨_, rfl⟩, fun w' hw => ?_⟩
    rw [e1]
    exact ⟨by simp [Builtin.lenOf], row_first hr hw⟩
  · rename_i e hd
    cases h
    have hv : a.eval x = .slice none 0 0 := by
      have := ev_rel S x
      rw [hx] at this
      exact this
    refine ⟨u, _, hu, hd, .inl ⟨_, rfl⟩, fun w' hw => ?_⟩
    rw [hv]
    exact ⟨by simp [Builtin.lenOf], run_firstCells_none _ _ _ _ _⟩
  · rename_i b hd
    refine ⟨u, _, hu, hd, .inr rfl, fun w' hw => ?_⟩
    rw [str_of S hx]
    exact src_str h w'
  · cases h
theorem HR.kill (H : HR w0 A W U ρ F w) (i : Nat) : HR w0 A W U ρ (upd F [(i, .dead)]) w := by
  refine H.less (fun j => ?_) (fun j hl hne => ?_) (fun j hne => by
    by_cases h : i = j
    · subst h
      simp [upd, AObj.plain]
    · exact absurd (by simp [upd, h]) hne)
  · by_cases h : i = j
    · subst h
      exact .inl (by simp [upd])
    · have : upd F [(i, .dead)] j = F j := by simp [upd, h]
      rw [this]
      exact MetaOk.refl _
  · by_cases h : i = j
    · subst h
      simp [upd, AObj.live] at hl
    · exact absurd (by simp [upd, h]) hne
theorem app_nil (H : HR w0 A W U ρ F w) (hid : U id) (s : Sh) (xs : List s.T) (hx : xs = []) (run : Result Next) (h : run = .ok (.value (.slice none 0 0)) w) : Out w0 A W U ρ F id 1 (.c (.slc id)) [(id, .row true s xs)] run := by
  subst hx
  obtain ⟨ρ', g1, g2, g3, g4⟩ := H.newRow id true s [] (.slice none 0 0) w.heap.size hid (grownBy_self w _) (.inl H.fr.size) (.inl H.fr.size) H.fresh (fun b' hb => by simp [blk] at hb) ⟨none, 0, rfl, Nat.le_refl _, rfl, rfl⟩
  exact ⟨w, ρ', ⟨_, .inl h, g4⟩, g1, fun i hi => g2 i (by omega), g3.weak fun i hi => ⟨hi.1, by omega⟩⟩
theorem app_grow (H : HR w0 A W U ρ F w) (hid : U id) (s : Sh) (xs ys : List s.T) (zv : Array Value) (hz : zv.size = s.sz) (cap : Nat) (hc : (xs ++ ys).length ≤ cap) (e : TypeId) (m : Nat) (hm : m = xs.length + ys.length) (run : Result Next)
    (h : run = .ok (.value (.slice (some ⟨w.heap.size, 0, none⟩) m cap)) (w.drew.alloc (.cells ((flat s xs ++ flat s ys).toArray ++ Builtin.zeroCells zv (cap - m)) e))) : Out w0 A W U ρ F id 1 (.c (.slc id)) [(id, .row true s (xs ++ ys))] run := by
  have hl := List.length_append («as» := xs) (bs := ys)
  obtain ⟨ρ', g1, g2, g3, g4⟩ := new_row (H.drew (w.drawn + 1)) hid s (xs ++ ys) cap ((flat s xs ++ flat s ys).toArray ++ Builtin.zeroCells zv (cap - m)) e (0, 0) hc (by
    rw [Array.size_append, List.size_toArray, List.length_append, flat_len, flat_len, size_zeroCells, hz, ← Nat.add_mul, ← Nat.add_mul]
    congr 1
    omega) (by
    rw [Array.toList_append, ← flat_append, List.take_append_of_le_length (by simp [flat_len]), List.take_of_length_le (by simp [flat_len])]) (fun o _ => by omega)
  rw [hl, ← hm] at g4
  exact ⟨_, ρ', ⟨_, .inl h, g4⟩, g1, g2, g3⟩
theorem put_size (cs : Array Value) (o : Nat) (vs : List Value) (h : o + vs.length ≤ cs.size) : (cs.toList.take o ++ vs ++ cs.toList.drop (o + vs.length)).toArray.size = cs.size := by
  simp
  omega
theorem args1 {α β : Type} {f : α → β} {ars : Array α} {p : β} (h : ars.toList.map f = [p]) : ∃ x, ars = #[x] ∧ f x = p := by
  obtain ⟨L⟩ := ars
  match L, h with
  | [x], h => simp at h; exact ⟨x, rfl, h⟩
theorem args2 {α β : Type} {f : α → β} {ars : Array α} {p q : β} (h : ars.toList.map f = [p, q]) : ∃ x y, ars = #[x, y] ∧ f x = p ∧ f y = q := by
  obtain ⟨L⟩ := ars
  match L, h with
  | [x, y], h => simp at h; exact ⟨x, y, rfl, h.1, h.2⟩
theorem out_append {o : Oper} {c : Call} (ho : o.op = .call c) (hb : c.callee = .builtin .append) {v : AVal} {u : List (Nat × AObj)} (S : Sim w0 A W nt sh U ρ tm F a w) (hs : Sub F0 F) (hid : U id) (h : Gives (eff P o.op o.type tm F0 id) v u) : Out w0 A W U ρ F id 1 v u ((execOp a.eval o).run P w) := by
  rw [ho] at h
  simp only [eff, hb] at h
  unfold effCall at h
  split at h <;> (try cases ‹Builtin.append = _›) <;> try exact h.fail.elim
  rename_i c1 c2 hargs
  obtain ⟨x, y, hxy, hx, hy⟩ := args2 hargs
  have hrun : (execOp a.eval o).run P w = ((Builtin.append_ c.argTypes o.type #[a.eval x, a.eval y]).run P w).andThen fun v w => .ok (.value v) w := by
    simp [execOp, ho, resolve, hb, invoke, builtin, hxy]
  rw [hrun]
  split at h
  rotate_left
  exact h.fail.elim
  rename_i t h0
  split at h
  rotate_left
  exact h.fail.elim
  rename_i e ht
  split at h
  rotate_left
  exact h.fail.elim
  rename_i s bs hsh hbs
  split at h
  exact h.fail.elim
  rename_i hq
  have hq := of_nn hq
  simp only [Bool.and_eq_true, beq_iff_eq, decide_eq_true_eq] at hq
  obtain ⟨⟨hsz, hbp⟩, hzl⟩ := hq
  obtain ⟨i, hi, hsize⟩ := sizeB_info hsz
  have hbs' : i.bytes = bs := by unfold bytesOfT at hbs; rw [hi] at hbs; exact Option.some.inj hbs
  obtain ⟨zc, hzc, hzcl⟩ : ∃ z, zeroB P e = some z ∧ z.length = s.sz := by
    unfold zlenB at hzl
    cases hz : zeroB P e with
    | none => rw [hz] at hzl; cases hzl
    | some z => rw [hz] at hzl; exact ⟨z, rfl, Option.some.inj hzl⟩
  obtain ⟨i', zv, hi', hzv, hvs⟩ := zeroB_parts hzc
  rw [hi] at hi'
  cases hi'
  have hzs : zv.cells.size = s.sz := by rw [← hzcl, (ofVals_rel (ρ := ρ) hvs).length]; simp
  split at h
  rotate_left
  exact h.fail.elim
  rename_i ys hys
  obtain ⟨u1, d, h1, hu1, hd, hsrc⟩ := src_of S hs hy hys
  obtain ⟨hlen, hnews⟩ := hsrc w rfl
  obtain ⟨_, hnews'⟩ := hsrc w.drew rfl
  split at h
  · obtain ⟨hfit, rfl, rfl⟩ := h.chk
    have hv : a.eval x = .slice none 0 0 := by
      have := ev_rel S x
      rw [hx] at this
      exact this
    rw [hv]
    by_cases hroom : 0 + ys.length ≤ 0
    · rw [run_append_room0 c.argTypes o.type t u1 e d h0 h1 ht hu1 hd s.sz hsz none 0 0 ys.length _ (flat s ys) hlen hnews hroom w rfl]
      exact app_nil S.toHR hid s ys (List.eq_nil_of_length_eq_zero (by omega)) _ (by simp [show ys.length = 0 by omega])
    · rw [run_append_grow0 c.argTypes o.type t u1 e d h0 h1 ht hu1 hd i zv hi hzv none 0 0 ys.length _ [] (flat s ys) hlen (by rw [hsize]; exact hnews') (run_firstCells_none _ _ _ _ _) (by omega) (by omega) (by simpa [fits, hbs'] using hfit)]
      exact app_grow S.toHR hid s [] ys zv.cells hzs _ (by simpa using grownCap_ge w (0 + ys.length) 0 e) e (0 + ys.length) (by simp) _ (by simp [flat])
  · rename_i j
    split at h
    rotate_left
    exact h.fail.elim
    rename_i s' xs' hF
    split at h
    rotate_left
    exact h.fail.elim
    rename_i xs hcast
    obtain ⟨rfl, hcast⟩ := castRow_eq hcast
    cases hcast
    obtain ⟨hfit, rfl, rfl⟩ := h.chk
    obtain ⟨p, cap, e1, hr, hρ⟩ := row_of S hs hx hF
    rw [e1]
    have hold := row_first (P := P) (w' := w.drew) hr rfl
    have K := S.toHR.kill j
    suffices hh : Out w0 A W U ρ (upd F [(j, .dead)]) id 1 (.c (.slc id)) [(id, .row true s' (xs' ++ ys))] (((Builtin.append_ c.argTypes o.type #[.slice p xs'.length cap, a.eval y]).run P w).andThen fun v w => .ok (.value v) w) from hh
    by_cases hroom : xs'.length + ys.length ≤ cap
    · obtain ⟨p', cap', e2, hle, hp⟩ := hr
      cases e2
      cases p with
      | none =>
        obtain ⟨rfl, hcap⟩ := hp
        rw [run_append_room0 c.argTypes o.type t u1 e d h0 h1 ht hu1 hd s'.sz hsz none _ cap ys.length _ (flat s' ys) hlen hnews hroom w rfl]
        have hy0 : ys = [] := List.eq_nil_of_length_eq_zero (by simp at hroom; omega)
        subst hy0 hcap
        exact app_nil K hid s' _ rfl _ (by simp)
      | some ad =>
        obtain ⟨b, of, sp⟩ := ad
        obtain ⟨hsp, cs, el, fz, hh, hc, hown⟩ := hp
        obtain ⟨hof, hcs, hfz⟩ := hown rfl
        simp only at hsp hh hc hof
        subst hsp hof
        have hmul : xs'.length * s'.sz + ys.length * s'.sz ≤ cap * s'.sz := by rw [← Nat.add_mul]; exact Nat.mul_le_mul_right _ hroom
        have hst := run_stores (P := P) (o := xs'.length * s'.sz) hh (flat s' ys) (by rw [flat_len, hcs]; exact hmul) (fun q hq => hfz _ (by rw [flat_len] at hq; omega)) (flat_one s' ys)
        rw [run_append_room0 c.argTypes o.type t u1 e d h0 h1 ht hu1 hd s'.sz hsz (some ⟨b, 0, none⟩) _ cap ys.length _ (flat s' ys) hlen hnews hroom (w.setCells b (xs'.length * s'.sz) (flat s' ys)) (by
          simp only [add_lit, Nat.zero_add]; exact hst)]
        have hFj := hs.row hF
        have hbj : blk (ρ j) = some b := by rw [hρ]; rfl
        obtain ⟨ρ', g1, g2, g3, g4⟩ := K.newRow (w' := w.setCells b (xs'.length * s'.sz) (flat s' ys)) id true s' (xs' ++ ys) (.slice (some ⟨b, 0, none⟩) (xs'.length + ys.length) cap) b hid (setCells_grown b _ _ _)
          (S.locw j b (by rw [hFj]; rfl) hbj) (S.loc j b (by rw [hFj]; rfl) hbj) (fun k e => by
            by_cases hjk : j = k
            · subst hjk
              simp [upd, fp] at e
            · have e : fp (F k) (ρ k) w b := by simpa [upd, hjk] using e
              obtain ⟨_, _, _, _, _, q, _⟩ := S.sepf j k hjk b (fpw_of (by rw [hFj]; rfl) hbj) e
              rw [hFj] at q
              cases q) (fun b' hb' => by simp [blk] at hb'; exact hb'.symm)
          ⟨some ⟨b, 0, none⟩, cap, by rw [List.length_append], by rw [List.length_append]; exact hroom, rfl, _, el, fz, setCells_heap b _ _ w cs el fz hh (by rw [flat_len, hcs]; exact hmul), by
            simp only [List.drop_zero, List.length_append] at hc ⊢
            rw [flat_append, ← hc, List.take_append_of_le_length (by simp [flat_len, Nat.add_mul]; omega), List.take_of_length_le (by simp [flat_len, Nat.add_mul]; omega)], fun _ => ⟨rfl, by
            rw [put_size _ _ _ (by rw [flat_len, hcs]; exact hmul), hcs], fun q hq => hfz q (by rwa [put_size _ _ _ (by rw [flat_len, hcs]; exact hmul)] at hq)⟩⟩
        exact ⟨_, ρ', ⟨_, .inl rfl, g4⟩, g1, fun k hk => g2 k (by omega), g3.weak fun k hk => ⟨hk.1, by omega⟩⟩
    · rw [run_append_grow0 c.argTypes o.type t u1 e d h0 h1 ht hu1 hd i zv hi hzv p xs'.length cap ys.length _ (flat s' xs') (flat s' ys) hlen (by rw [hsize]; exact hnews') (by rw [hsize]; exact hold) (by omega) (by omega) (by simpa [fits, hbs'] using hfit)]
      exact app_grow K hid s' xs' ys zv.cells hzs _ (by simpa using grownCap_ge w (xs'.length + ys.length) cap e) e _ rfl _ (by simp)
  · exact h.fail.elim
end
end Go.Proofs.YtiaagflfiphioaaDoorS
