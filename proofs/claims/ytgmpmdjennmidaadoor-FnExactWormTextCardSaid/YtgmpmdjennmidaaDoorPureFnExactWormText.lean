/- The plain law FnExactWormText. -/
import Derived.Test.YtgmpmdjennmidaaDoorOk
import Derived.Test.YtgmpmdjennmidaaDoorPuWorm
namespace Go.Proofs.YtgmpmdjennmidaaDoor.fnExactWormText
open Go Go.Proofs Go.Proofs.YtgmpmdjennmidaaDoorS
set_option linter.unusedVariables false
set_option linter.unusedSimpArgs false
def dig (n : Int) : UInt8 := UInt8.ofNat (48 + n).toNat
theorem dig_list (n : Int) : (ofBytes [48 + n]).data.toList = [dig n] := rfl
theorem itoa_ev (n : Int) (h : 0 ≤ n ∧ n ≤ 9) : Ev (fun k => strconv_Itoa k n) (ofBytes [48 + n]) := by
  have e : itoaSmall n = some (ofBytes [48 + n]) := by
    unfold itoaSmall
    rw [if_pos (by omega), Lib.decDigits_one (by omega)]
    congr 1
    apply ba_ext
    rw [dig_list]
    show [UInt8.ofNat (48 + n.toNat)] = [UInt8.ofNat (48 + n).toNat]
    rw [show (48 + n).toNat = 48 + n.toNat by omega]
  exact Ev.step (fun k => (strconv_Itoa.eq k n).trans e) (Ev.now _)
theorem listText_l_ev (b : ByteArray) (l : List Int) (hl : l.length ≤ 100) (hd : ∀ n ∈ l, 0 ≤ n ∧ n ≤ 9) : ∀ (m i : Nat) (parts : List ByteArray), i + m = l.length → parts.length = i → Ev (fun k => impl_listText_l k (b, parts, l, (l.length : Int), (i : Int))) (b, parts ++ (l.drop i).map fun n => ofBytes [48 + n])
  | 0, i, parts, h, hp => Ev.step (fun k => impl_listText_l.eq k b parts l (l.length : Int) (i : Int)) (Ev.no (not_lt_nat (by omega)) (Ev.now' (by rw [List.drop_of_length_le (by omega)]; simp)))
  | m + 1, i, parts, h, hp => by
    obtain ⟨n, hn⟩ := nat_list (l := l) (i := i) (by omega)
    obtain ⟨hlt, he⟩ := List.getElem?_eq_some_iff.1 hn
    refine Ev.step (fun k => impl_listText_l.eq k b parts l (l.length : Int) (i : Int)) (Ev.yes (lt_nat (by omega)) (Ev.yes (inB_nat (by omega)) ?_))
    rw [Int.toNat_natCast, getD_at hn, w64_succ (by omega)]
    have := listText_l_ev b l hl hd m (i + 1) (parts ++ [ofBytes [48 + n]]) (by omega) (by simp [hp])
    rw [List.append_assoc] at this
    refine Ev.bind (itoa_ev n (hd n (List.mem_of_getElem? hn))) (Ev.yes (fits_of (by omega)) ?_)
    rw [List.drop_eq_getElem_cons hlt, he, List.map_cons]
    exact this
theorem join_ev (l : List ByteArray) (sep r : ByteArray) (h1 : l.length ≤ 100) (h2 : Lib.join (l.map (·.data.toList)) sep.data.toList = r.data.toList) (h3 : r.size ≤ 100000) : Ev (fun k => strings_Join k (l, sep)) r := by
  have e : joinS l sep = some r := by
    unfold joinS
    rw [h2, if_pos ⟨by omega, by rw [← size_list]; omega⟩]
  exact Ev.step (fun k => (strings_Join.eq k (l, sep)).trans e) (Ev.now _)
theorem listText_ev (b : ByteArray) (l : List Int) (r : ByteArray) (hl : l.length ≤ 100) (hd : ∀ n ∈ l, 0 ≤ n ∧ n ≤ 9) (h2 : Lib.join ((l.map fun n => ofBytes [48 + n]).map (·.data.toList)) b.data.toList = r.data.toList) (h3 : r.size ≤ 100000) : Ev (fun k => impl_listText k (b, l)) r := by
  have := listText_l_ev b l hl hd l.length 0 [] (by omega) rfl
  rw [List.drop_zero, List.nil_append] at this
  exact Ev.step (fun k => impl_listText.eq k b l) (Ev.bind this (Ev.bind (join_ev _ b r (by simpa using hl) h2 h3) (Ev.now _)))
theorem both (w h : Int) (ri dn : ByteArray) (x y wy : Int) (h1 : ri.size ≤ 1048576) (h2 : dn.size ≤ 1048576) : ∃ (s : ByteArray) (ok : Bool), Ev (fun k => spec_WormText k (w, h, ri, dn, x, y, wy)) (s, ok) ∧ Ev (fun k => impl_WormText k (w, h, ri, dn, x, y, wy)) (s, ok) := by
  have a1 := isWorm_ev w h ri dn x y wy h1 h2
  have a2 := wmGood_ev w h ri dn x y wy h1 h2
  by_cases H : WormOk w h ri dn x y wy
  rotate_left
  · exact ⟨ByteArray.empty, false, Ev.step (fun k => spec_WormText.eq k w h ri dn x y wy) (Ev.bind (a2.isF H) (Ev.yes rfl (Ev.now _))), Ev.step (fun k => impl_WormText.eq k w h ri dn x y wy) (Ev.bind (a1.isF H) (Ev.yes rfl (Ev.now _)))⟩
  obtain ⟨hw, hh, ⟨hri, hdn⟩, _, hx, hy, hwy⟩ := id H
  have hm := mul_range (a := w) (b := h) (by omega) (by omega) (by omega) (by omega)
  have z : ∀ n : Int, (ofBytes [n]).size = 1 := fun n => rfl
  have zx : (bs [120]).size = 1 := rfl
  have zc : (bs [58]).size = 1 := rfl
  have zm : (bs [44]).size = 1 := rfl
  have t1 : Ev (fun k => impl_listText k (bs [120], [w, h])) (bs [dig w, 120, dig h]) := listText_ev _ _ _ (by simp) (by intro n hn; simp at hn; omega) (by simp [Lib.join_cons, Lib.joinTail, dig_list, bs]) (by rw [size_list]; simp [bs])
  have t2 : Ev (fun k => impl_listText k (bs [44], [x, y, wy])) (bs [dig x, 44, dig y, 44, dig wy]) := listText_ev _ _ _ (by simp) (by intro n hn; simp at hn; omega) (by simp [Lib.join_cons, Lib.joinTail, dig_list, bs]) (by rw [size_list]; simp [bs])
  refine ⟨bs ([dig w, 120, dig h, 58] ++ ri.data.toList ++ [58] ++ dn.data.toList ++ [58] ++ [dig x, 44, dig y, 44, dig wy]), true, ?_, ?_⟩
  · refine Ev.step (fun k => spec_WormText.eq k w h ri dn x y wy) (Ev.bind (a2.isT H) (Ev.no rfl (Ev.bind (Ev.step (fun k => spec_wmText.eq k w h ri dn x y wy) (Ev.bind (l1Num_ev w (by omega)) ?_)) (Ev.now _))))
    have f : ∀ {a b : ByteArray}, a.size ≤ 100000 → b.size ≤ 100000 → fitS a b = true := fun ha hb => fitS_of (by omega)
    refine Ev.yes (f (by rw [z]; omega) (by rw [zx]; omega)) (Ev.bind (l1Num_ev h (by omega)) ?_)
    refine Ev.yes (f (by simp only [ByteArray.size_append, z, zx, zc, zm]; omega) (by simp only [z, zx, zc, zm]; omega)) ?_
    refine Ev.yes (f (by simp only [ByteArray.size_append, z, zx, zc, zm]; omega) (by simp only [z, zx, zc, zm]; omega)) ?_
    refine Ev.yes (f (by simp only [ByteArray.size_append, z, zx, zc, zm]; omega) (by omega)) ?_
    refine Ev.yes (f (by simp only [ByteArray.size_append, z, zx, zc, zm]; omega) (by simp only [z, zx, zc, zm]; omega)) ?_
    refine Ev.yes (f (by simp only [ByteArray.size_append, z, zx, zc, zm]; omega) (by omega)) ?_
    refine Ev.yes (f (by simp only [ByteArray.size_append, z, zx, zc, zm]; omega) (by simp only [z, zx, zc, zm]; omega)) (Ev.bind (l1Num_ev x (by omega)) ?_)
    refine Ev.yes (f (by simp only [ByteArray.size_append, z, zx, zc, zm]; omega) (by simp only [z, zx, zc, zm]; omega)) ?_
    refine Ev.yes (f (by simp only [ByteArray.size_append, z, zx, zc, zm]; omega) (by simp only [z, zx, zc, zm]; omega)) (Ev.bind (l1Num_ev y (by omega)) ?_)
    refine Ev.yes (f (by simp only [ByteArray.size_append, z, zx, zc, zm]; omega) (by simp only [z, zx, zc, zm]; omega)) ?_
    refine Ev.yes (f (by simp only [ByteArray.size_append, z, zx, zc, zm]; omega) (by simp only [z, zx, zc, zm]; omega)) (Ev.bind (l1Num_ev wy (by omega)) ?_)
    refine Ev.yes (f (by simp only [ByteArray.size_append, z, zx, zc, zm]; omega) (by simp only [z, zx, zc, zm]; omega)) (Ev.now' ?_)
    apply ba_ext
    simp only [append_list, dig_list]
    simp [bs]
  · refine Ev.step (fun k => impl_WormText.eq k w h ri dn x y wy) (Ev.bind (a1.isT H) (Ev.no rfl (Ev.bind t1 (Ev.bind t2 (Ev.bind (join_ev _ (bs [58]) _ (by simp) ?_ ?_) (Ev.now _))))))
    · simp [Lib.join_cons, Lib.joinTail, bs]
    · rw [size_list]
      have s1 := size_list ri
      have s2 := size_list dn
      simp [bs]
      omega
theorem main (w h : Int) (ri dn : ByteArray) (x y wy : Int) (h1 : ri.size ≤ 9223372036854775807) (h2 : dn.size ≤ 9223372036854775807) : ∃ k, laws_FnExactWormText k (w, h, ri, dn, x, y, wy) = some true := by
  refine Ev.rounds (Ev.step (fun k => laws_FnExactWormText.eq k w h ri dn x y wy) ?_)
  obtain ⟨r, s1, s2⟩ := szWorm_ev w h ri dn x y wy h1 h2
  refine Ev.bind s1 (Ev.cond (fun _ => Ev.now _) fun hn => ?_)
  have s3 : ri.size ≤ 1048576 ∧ dn.size ≤ 1048576 := by
    rcases s2 with s2 | s2
    · exact absurd s2 (of_decide_eq_false hn)
    · exact s2
  obtain ⟨s, ok, hs, hi⟩ := both w h ri dn x y wy s3.1 s3.2
  have hto := toWorm_ev w h ri dn x y wy
  have ok1 : (!(ok == ok)) = false := by cases ok <;> rfl
  exact Ev.bind hto (Ev.bind hs (Ev.bind hto (Ev.bind hi (Ev.no (by rw [strEq_self]; rfl) (Ev.no ok1 (Ev.now _))))))
theorem pure : ∀ d : Dl laws_FnExactWormText.ins, goodL laws_FnExactWormText.ins d → ∃ k, laws_FnExactWormText k d = some true := by
  rintro ⟨w, h, ri, dn, x, y, wy⟩ hg
  exact main w h ri dn x y wy hg.2.2.1 hg.2.2.2.1
end Go.Proofs.YtgmpmdjennmidaaDoor.fnExactWormText
