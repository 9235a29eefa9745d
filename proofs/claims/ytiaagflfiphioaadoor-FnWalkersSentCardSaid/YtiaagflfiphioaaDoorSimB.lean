/- The evaluation of code: regions, calls, loops. -/
import Derived.Test.YtiaagflfiphioaaDoorSimA
import Derived.Orders
namespace Go.Proofs.YtiaagflfiphioaaDoorS
open Go
set_option linter.unusedVariables false
set_option linter.unusedSimpArgs false

inductive Ex where
  | normal | exit (id : Nat) | ret
  deriving DecidableEq
/-- Where a datum is taken from (a temporary), whether it is a struct, its kind. -/
structure Slot where
  src : Nat
  agg : Bool
  ty : Ty
def Dl : List Slot → Type
  | [] => Unit | [s] => s.ty.D | s :: t :: r => s.ty.D × Dl (t :: r)
def DS : List (Ex × List Slot) → Type
  | [] => Empty | [o] => Dl o.2 | o :: p :: r => Dl o.2 ⊕ DS (p :: r)
def pick {α : Type} (l : List α) : List Nat → List α
  | [] => [] | i :: r => (match l[i]? with | some x => [x] | none => []) ++ pick l r
def RF (res io : List Slot) : Type := match io with | [] => Dl res | s :: r => Dl res × Dl (s :: r)
def RF.res : (res io : List Slot) → RF res io → Dl res
  | _, [], d => d | _, _ :: _, d => d.1
def RF.io : (res io : List Slot) → RF res io → Dl io
  | _, [], _ => () | _, _ :: _, d => d.2
def RF.mk : (res io : List Slot) → Dl res → Dl io → RF res io
  | _, [], d, _ => d | _, _ :: _, d, e => (d, e)
/-- A function, or a part of one (a loop, a piece that stands apart), with the kinds of its data. -/
inductive Ent where
  | fn (f : FuncId) (fn : Func) (ins : List Slot) (ios : List Nat) (res : List Slot) (cal : List (Nat × Nat)) (subs : List (List Bool × Nat))
  | fr (f : FuncId) (ins : List Slot) (ios : List Nat) (res : List Slot) (sem : Dl ins → Option (RF res (pick ins ios)))
  | pt (f : FuncId) (fn : Func) (path : List Bool) (loop : Bool) (ins : List Slot) (exits : List (Ex × List Slot)) (cal : List (Nat × Nat)) (subs : List (List Bool × Nat))
def Ent.ins : Ent → List Slot
  | .fn _ _ i _ _ _ _ => i | .fr _ i _ _ _ => i | .pt _ _ _ _ i _ _ _ => i
def Ent.R : Ent → Type
  | .fn _ _ ins ios res _ _ => RF res (pick ins ios)
  | .fr _ ins ios res _ => RF res (pick ins ios)
  | .pt _ _ _ _ _ exits _ _ => DS exits
abbrev CallF (E : Nat → Ent) := (e : Nat) → Dl (E e).ins → Option (E e).R

def unpackL : (l : List Slot) → Dl l → Nat → Nat → List AVal × List AObj
  | [], _, _, _ => ([], [])
  | [s], d, b, n => match s.ty.unpack d b n with | (cs, os) => ([AVal.of s.agg cs], os)
  | s :: t :: r, d, b, n => match s.ty.unpack d.1 b n with
    | (cs, os) => match unpackL (t :: r) d.2 b (n + os.length) with
      | (vs, os') => (AVal.of s.agg cs :: vs, os ++ os')
def packL : (l : List Slot) → List AVal → (Nat → AObj) → Acc → Option (Dl l × Acc)
  | [], [], _, A => some ((), A)
  | [s], [v], F, A => if v.isAgg == s.agg then match s.ty.pack v.cells F A with
      | some (d, [], A) => some (d, A)
      | _ => none
    else none
  | s :: t :: r, v :: vs, F, A => if v.isAgg == s.agg then match s.ty.pack v.cells F A with
      | some (d, [], A) => match packL (t :: r) vs F A with
        | some (d', A) => some ((d, d'), A)
        | none => none
      | _ => none
    else none
  | _, _, _, _ => none
def cntL : List Slot → Nat
  | [] => 0 | s :: r => s.ty.cnt + cntL r
def Ty.nest : Ty → Nat
  | .box own t => if own then t.cnt else 0 | .clo _ t => t.nest | .cons a b => a.nest + b.nest | _ => 0
def nestL : List Slot → Nat
  | [] => 0 | s :: r => s.ty.nest + nestL r
def putL (off : Nat) : List Slot → List AVal → List (Nat × AVal)
  | s :: r, v :: vs => (s.src + off, v) :: putL off r vs
  | _, _ => []
def lookL (tm : List (Nat × AVal)) (off : Nat) : List Slot → List AVal
  | [] => [] | s :: r => St.look tm (s.src + off) :: lookL tm off r

/-! ### Calls -/
def Ty.hasRo : Ty → Bool
  | .slc own _ => !own | .blob own t => !own || !t.whole | .box own t => !own || t.hasRo | .clo _ t => t.hasRo | .cons a b => a.hasRo || b.hasRo | _ => false
def roL : List Slot → Bool
  | [] => false | s :: r => s.ty.hasRo || roL r
def Ty.roIn : Ty → Bool
  | .blob own t => own && !t.whole | .box own t => own && t.hasRo | .clo _ t => t.roIn | .cons a b => a.roIn || b.roIn | _ => false
def roInL : List Slot → Bool
  | [] => false | s :: r => s.ty.roIn || roInL r
def Ty.noref : Ty → Bool
  | .ref _ _ => false | .sref _ => false | .mref _ => false | .box _ t => t.noref | .clo _ t => t.noref | .cons a b => a.noref && b.noref | .blob _ t => t.free | _ => true
def refBL (N : Nat) : List Slot → Bool
  | [] => true | s :: r => s.ty.refB N && refBL N r
def norefL : List Slot → Bool
  | [] => true | s :: r => s.ty.noref && norefL r
/-- What becomes of the objects that were handed over: those that were given away are gone; those that were lent stay, but are not owned any more if the result may share them. -/
def handed (ro : Bool) (F : Nat → AObj) : Acc → List (Nat × AObj)
  | [] => []
  | (own, some i) :: r => (if own then [(i, AObj.dead)] else if ro then (match F i with
      | .row true s xs => [(i, AObj.row false s xs)]
      | .cell true k n c => [(i, AObj.cell false k n c)]
      | .blob o t d => if o then [(i, AObj.blob false t d)] else []
      | _ => []) else []) ++ handed ro F r
  | (_, none) :: r => handed ro F r
def setCells (n : Nat) : Nat → Nat → List Cell → List (Nat × AObj)
  | _, _, [] => [] | k, id, c :: cs => (id, .cell true k n c) :: setCells n (k + 1) (id + 1) cs
/-- Data that come back are written where they were; new numbers from n on. -/
def Ty.back : (t : Ty) → List Cell → t.D → Nat → Option (List Cell × List (Nat × AObj) × Nat)
  | .slc own s, c :: cs, xs, n => match c with
    | .slc id => some (cs, (if own then [(id, .row true s xs)] else []), n)
    | .nils => some (cs, [], n)
    | _ => none
  | .blob own t, c :: cs, x, n => match c with
    | .mp id => some (cs, (if own then [(id, .blob true t x)] else []), n)
    | .nils => match t.nil with
      | some _ => some (cs, [], n)
      | none => none
    | _ => none
  | .box own t, c :: cs, d, n => match c with
    | .ptr id m => if own then match t.unpack d n n with
        | (l, os) => if l.length == m then some (cs, ups n os ++ setCells m 0 id l, n + os.length) else none
      else some (cs, [], n)
    | _ => none
  | .clo _ t, c :: cs, d, n => match c with
    | .clo _ caps => match t.back (capCells caps) d n with
      | some ([], u, n) => some (cs, u, n)
      | _ => none
    | _ => none
  | .nil, cs, _, n => some (cs, [], n)
  | .cons a b, cs, d, n => match a.back cs d.1 n with
    | some (cs, u, n) => match b.back cs d.2 n with
      | some (cs, v, n) => some (cs, u ++ v, n)
      | none => none
    | none => none
  | _, _ :: cs, _, n => some (cs, [], n)
  | _, [], _, _ => none
def backL : (l : List Slot) → List AVal → Dl l → Nat → Option (List (Nat × AObj))
  | [], [], _, _ => some []
  | [s], [v], d, n => if v.isAgg == s.agg then match s.ty.back v.cells d n with | some ([], u, _) => some u | _ => none else none
  | s :: t :: r, v :: vs, d, n => if v.isAgg == s.agg then match s.ty.back v.cells d.1 n with
    | some ([], u, n) => match backL (t :: r) vs d.2 n with
      | some u' => some (u ++ u')
      | none => none
    | _ => none
    else none
  | _, _, _, _ => none
def tupOf : List AVal → List (Bool × List Cell)
  | [] => [] | v :: r => (v.isAgg, v.cells) :: tupOf r
def resAVal : List AVal → AVal
  | [v] => v | vs => .tup (tupOf vs)
def lookN (l : List (Nat × Nat)) (t : Nat) : Option Nat := match l with
  | [] => none | (d, v) :: r => if d == t then some v else lookN r t
def cOf : List Cell → List AVal
  | [] => [] | c :: r => .c c :: cOf r
/-- Which entry a call goes to, and with which arguments. -/
def target (cal : List (Nat × Nat)) (dst : Option Tmp) (fv : AVal) (args : List AVal) : Option (Nat × FuncId × List AVal) :=
  match fv with
  | .c (.clo f caps) => match (match dst with | some d => lookN cal d | none => none) with
    | some e => some (e, f, args ++ cOf (capCells caps))
    | none => (match lookN cal (1000000 + f) with | some e => some (e, f, args ++ cOf (capCells caps)) | none => none)
  | _ => none
/-- The value of a call, and what it turns, out of its data. -/
def finF (f' : FuncId) (ins : List Slot) (ios : List Nat) (res : List Slot) (f : FuncId) (args : List AVal) (A : Acc) (F : Nat → AObj) (id : Nat) (r : RF res (pick ins ios)) : Option (AVal × List (Nat × AObj)) :=
  if f' = f ∧ norefL (pick ins ios) = true ∧ refBL (cntL res) res = true then
    match unpackL res (RF.res _ _ r) id id with
    | (vs, os) => match backL (pick ins ios) (pick args ios) (RF.io _ _ r) (id + os.length) with
      | some u => some (resAVal vs, handed (roL res || roInL (pick ins ios)) F A ++ ups id os ++ u)
      | none => none
  else none
def finC (en : Ent) (f : FuncId) (args : List AVal) (A : Acc) (F : Nat → AObj) (id : Nat) (r : en.R) : Option (AVal × List (Nat × AObj)) :=
  match en, r with
  | .fn f' _ ins ios res _ _, r => finF f' ins ios res f args A F id r
  | .fr f' ins ios res _, r => finF f' ins ios res f args A F id r
  | .pt .., _ => none
def cntE (en : Ent) : Nat := match en with
  | .fn _ _ ins ios res _ _ => cntL res + nestL (pick ins ios)
  | .fr _ ins ios res _ => cntL res + nestL (pick ins ios)
  | .pt .. => 0

/-! ### Regions -/
/-- How many new numbers an operation takes at most. -/
def cntO (P : Program) (o : Op) : Nat :=
  match o with
  | .alloc t => (sizeB P t).getD 0
  | .box t _ => (sizeB P t).getD 0
  | .buildSlice .. | .convert .. | .makeSlice .. | .slice .. | .range .. | .makeMap .. => 1
  | .load t _ => if sliceT P t then 1 else 0
  | .call c => match c.callee with
    | .builtin b => (match b with | .append => 1 | _ => 0)
    | _ => 0
  | _ => 0
/-- Where the printer asks for it: the slice of slices to which a row is put back at a store. -/
def parent (cal : List (Nat × Nat)) (o : Op) : Option Nat := match o with
  | .store _ a _ => (match a with | .tmp t => lookN cal (3000000 + t) | _ => none)
  | _ => none
def rdsC (P : Program) (cal : List (Nat × Nat)) (o : Op) (tm : Nat → AVal) (F : Nat → AObj) : List Nat := (match parent cal o with | some p => [p] | none => []) ++ rds P o tm F
def cntOp (P : Program) (E : Nat → Ent) (cal : List (Nat × Nat)) (o : Oper) : Nat :=
  match o.op with
  | .call c => match c.callee with
    | .value _ => match (match o.dst with | some d => lookN cal d | none => none) with
      | some e => cntE (E e)
      | none => match c.callee with
        | .value (.func f) => (match lookN cal (1000000 + f) with | some e => cntE (E e) | none => 0)
        | _ => 0
    | _ => cntO P o.op
  | op => cntO P op
def apartL : List Nat → List Nat → Bool
  | [], _ => true | i :: r, l => !l.contains i && apartL r l
/-- Of each operation so far: its number, what it read, what it turned. -/
abbrev Log := List (Nat × List Nat × List Nat)
def befs (ops : List Oper) : List Nat → List Nat
  | acc => match ops with
    | [] => acc
    | o :: r => befs r (acc ++ [o.after.toList.foldl (fun s e => if Region.binds .any e then s ||| 2 ^ e.on ||| acc.getD e.on 0 else s) 0])
def logOk (bef : Nat) (rd wr : List Nat) : Log → Bool
  | [] => true
  | (j, r, w) :: l => (bef.testBit j || (apartL rd w && apartL r wr && apartL w wr)) && logOk bef rd wr l
def idsUp : List (Nat × AObj) → List Nat
  | [] => [] | (i, _) :: r => i :: idsUp r
def dstOf (ops : List Oper) (j : Nat) : Option Nat := match ops[j]? with | some o => o.dst | none => none

section
variable (P : Program) (E : Nat → Ent) (call : CallF E) (cal : List (Nat × Nat)) {R : Type}
/-- What an operation other than a call does. -/
def effX (o : Oper) (tm : Nat → AVal) (F : Nat → AObj) (id : Nat) : Eff := match (match o.dst with | some d => lookN cal (2000000 + d) | none => none) with
  | some m => if m == 4 || m == 5 then nestS P m o.op tm F id else effS P m o.op tm F id
  | none => match parent cal o.op with
    | some p => backEff F p (storeId o.op tm) (effT P o.op o.type tm F id)
    | none => effT P o.op o.type tm F id
/-- One operation (its guard is met): its value and what it turns go to K. -/
def xop (o : Oper) (tm : Nat → AVal) (F : Nat → AObj) (id : Nat) (K : AVal → List (Nat × AObj) → Option R) : Option R :=
  match o.op with
  | .call c => match c.callee with
    | .value f => match target cal o.dst (ev tm f) (c.args.toList.map (ev tm)) with
      | some (e, f, args) => match packL (E e).ins args F [] with
        | some (d, A) => if sepOk A && Nat.ble (cntE (E e)) (cntOp P E cal o) then (call e d).bind fun r => match finC (E e) f args A F id r with
            | some (v, u) => K v u
            | none => none
          else none
        | none => none
      | none => none
    | _ => match effT P o.op o.type tm F id with
      | .val v u => K v u
      | .chk b v u => cond b (K v u) none
      | .two b v u v' u' => cond b (K v u) (K v' u')
      | .fail => none
  | _ => match effX P cal o tm F id with
    | .val v u => K v u
    | .chk b v u => cond b (K v u) none
    | .two b v u v' u' => cond b (K v u) (K v' u')
    | .fail => none
def xops (draw : Bool) (ops : List Oper) : List Oper → List Nat → (i : Nat) → (id : Nat) → Log → St → (St → Option R) → Option R
  | [], _, _, _, _, st, K => K st
  | o :: r, bs, i, id, lg, st, K =>
    let go (st : St) : Option R := xop P E call cal o (St.look st.tm) (restr (rdsC P cal o.op (St.look st.tm) (getF st.F)) (getF st.F)) id fun v u =>
      cond (!draw || logOk (bs.headD 0) (rdsC P cal o.op (St.look st.tm) (getF st.F)) (idsUp u) lg)
        (xops draw ops r bs.tail (i + 1) (id + cntOp P E cal o) (if draw then (i, rdsC P cal o.op (St.look st.tm) (getF st.F), idsUp u) :: lg else lg) ⟨putTm st.tm o.dst v, setF st.F u, st.n⟩ K) none
    match o.guard with
    | none => go st
    | some (j, want) => match dstOf ops j with
      | some d => match St.look st.tm d with
        | .c (.bool b) =>
          let skip (st : St) : Option R := xops draw ops r bs.tail (i + 1) (id + cntOp P E cal o) lg ⟨putTm st.tm o.dst (.tup []), st.F, st.n⟩ K
          let stp (b : Bool) (st : St) : Option R := cond (b == want) (go st) (skip st)
          cond b (stp true ⟨(d, .c (.bool true)) :: st.tm, st.F, st.n⟩) (stp false ⟨(d, .c (.bool false)) :: st.tm, st.F, st.n⟩)
        | .tup [] => xops draw ops r bs.tail (i + 1) (id + cntOp P E cal o) lg ⟨putTm st.tm o.dst (.tup []), st.F, st.n⟩ K
        | _ => none
      | none => none
/-- What a region must keep: its temporaries are there; edges go back; operations that no edge orders touch no temporary in common. -/
def dstsOk (nt : Nat) : List Oper → Bool
  | [] => true | o :: r => (match o.dst with | some d => Nat.blt d nt | none => true) && dstsOk nt r
def edgesOk : List Oper → Nat → Bool
  | [], _ => true | o :: r, i => o.after.toList.all (fun e => !Region.binds .any e || Nat.blt e.on i) && edgesOk r (i + 1)
def apartsOk (ops : Array Oper) (y : Oper) (bef : Nat) : List Oper → Nat → Bool
  | [], _ => true | x :: r, i => (bef.testBit i || x.apart ops y) && apartsOk ops y bef r (i + 1)
def pairsOk (ops : Array Oper) : List Oper → List Nat → Nat → Bool
  | [], _, _ => true | o :: r, bs, j => apartsOk ops o (bs.headD 0) (ops.toList.take j) 0 && pairsOk ops r bs.tail (j + 1)
def okReg (nt : Nat) (draw : Bool) (ops : Array Oper) : Bool :=
  dstsOk nt ops.toList && (!draw || (edgesOk ops.toList 0 && pairsOk ops ops.toList (befs ops.toList []) 0))
def cntOps (cal : List (Nat × Nat)) : List Oper → Nat
  | [] => 0 | o :: r => cntOp P E cal o + cntOps cal r

def lookP (l : List (List Bool × Nat)) (p : List Bool) : Option Nat := match l with
  | [] => none | (q, e) :: r => if q == p then some e else lookP r p
def exitsK (K : Ex → List AVal × List AObj → List Slot → Option R) : (l : List (Ex × List Slot)) → DS l → Option R
  | [], _ => none
  | [o], d => K o.1 (unpackL o.2 d 0 0) o.2
  | o :: p :: r, d => Sum.elim (fun d => K o.1 (unpackL o.2 d 0 0) o.2) (fun d => exitsK K (p :: r) d) d
def isPt (en : Ent) (f : FuncId) (p : List Bool) (loop : Bool) : Bool := match en with
  | .pt f' _ q l _ _ _ _ => f' == f && q == p && l == loop | _ => false
def exitsR (K : Ex → List AVal × List AObj → List Slot → Option R) : (en : Ent) → en.R → Option R
  | .fn .., _ => none
  | .fr .., _ => none
  | .pt _ _ _ _ _ exits _ _, r => exitsK K exits r
/-- A part of the function that has an entry of its own. -/
def xsub (f : FuncId) (p : List Bool) (loop : Bool) (e : Nat) (st : St) (K : Ex → St → Option R) : Option R :=
  if isPt (E e) f p loop then match packL (E e).ins (lookL st.tm 0 (E e).ins) (getF st.F) [] with
    | some (d, A) => if sepOk A then (call e d).bind fun r => exitsR (fun ex vo l => K ex ⟨putL 0 l vo.1, ups 0 vo.2, vo.2.length⟩) (E e) r else none
    | none => none
  else none
def bool? : AVal → Option Bool
  | .c (.bool b) => some b | _ => none
def setB (st : St) (c : Operand) (b : Bool) : St := match c with | .tmp t => ⟨(t, .c (.bool b)) :: st.tm, st.F, st.n⟩ | _ => st

def xcode (nt : Nat) (f : FuncId) (subs : List (List Bool × Nat)) : Code → List Bool → St → (Ex → St → Option R) → Option R
  | .skip, _, st, K => K .normal st
  | .region _ ops draw, _, st, K =>
    cond (okReg nt draw ops) (xops P E call cal draw ops.toList ops.toList (if draw then befs ops.toList [] else []) 0 st.n [] ⟨st.tm, st.F, st.n + cntOps P E cal ops.toList⟩ fun st => K .normal st) none
  | .seq a b, p, st, K => match lookP subs p with
    | some e => xsub E call f p false e st K
    | none => xcode nt f subs a (false :: p) st fun e st => match e with
      | .normal => xcode nt f subs b (true :: p) st K
      | e => K e st
  | .cond c a b, p, st, K => match lookP subs p with
    | some e => xsub E call f p false e st K
    | none => match bool? (ev (St.look st.tm) c) with
      | some t => cond t (xcode nt f subs a (false :: p) (setB st c true) K) (xcode nt f subs b (true :: p) (setB st c false) K)
      | none => none
  | .block id a, p, st, K => match lookP subs p with
    | some e => xsub E call f p false e st K
    | none => xcode nt f subs a (false :: p) st fun e st => K (if e = .exit id then .normal else e) st
  | .loop _, p, st, K => match lookP subs p with
    | some e => xsub E call f p true e st K
    | none => none
  | .label _, _, st, K => K .normal st
  | .exit id, _, st, K => K (.exit id) st
  | .ret, _, st, K => K .ret st
  | _, _, _, _ => none

/-- The piece of code at a path (its last step first). -/
def at? : Code → List Bool → Option Code
  | c, [] => some c
  | c, s :: p => match at? c p with
    | some (.seq a b) => some (if s then b else a)
    | some (.cond _ a b) => some (if s then b else a)
    | some (.block _ a) => if s then none else some a
    | some (.loop a) => if s then none else some a
    | some (.scope a) => if s then none else some a
    | _ => none
def resA (P : Program) (st : St) : List ResultVar → Option (List AVal)
  | [] => some []
  | .tmp t :: r => match resA P st r with | some l => some (ev (St.look st.tm) (.tmp t) :: l) | none => none
  | .cell a t :: r => match loadB P t, ev (St.look st.tm) (.tmp a) with
    | some (n, ag), .c (.ptr i m) => if decide (n ≤ m) then (match ldCells (getF st.F) n i, resA P st r with
      | some cs, some l => some (AVal.of ag cs :: l)
      | _, _ => none) else none
    | _, _ => none
def inj (exs : List (Ex × List Slot)) (ex : Ex) (st : St) : Option (DS exs) := match exs with
  | [] => none
  | [o] => if o.1 = ex then match packL o.2 (lookL st.tm 0 o.2) (getF st.F) [] with
      | some (d, A) => if sepOk A then some d else none
      | none => none
    else none
  | o :: p :: r => if o.1 = ex then match packL o.2 (lookL st.tm 0 o.2) (getF st.F) [] with
      | some (d, A) => if sepOk A then some (Sum.inl d) else none
      | none => none
    else match inj (p :: r) ex st with
      | some d => some (Sum.inr d)
      | none => none
/-- The arguments lie in the first temporaries. -/
def srcsOk : Nat → List Slot → Nat → Bool
  | k, [], nt => Nat.ble k nt | k, s :: r, nt => Nat.beq s.src k && srcsOk (k + 1) r nt
/-- One entry, its calls by 'call'; 'again': the loop itself, once more. -/
def xent (again : (e : Nat) → Dl (E e).ins → Option (E e).R) (e : Nat) : (en : Ent) → (Dl en.ins → Option en.R) → Dl en.ins → Option en.R
  | .fn f fn ins ios res cal subs, _, d => match (if Nat.ble fn.ntmps shadow && srcsOk 0 ins fn.ntmps then fn.body else none) with
    | some c => match unpackL ins d 0 0 with
      | (vs, os) => xcode P E call cal fn.ntmps f subs c [] ⟨putL 0 ins vs ++ putL shadow (pick ins ios) (pick vs ios), ups 0 os, os.length⟩ fun ex st =>
        if ex = .normal ∨ ex = .ret then match resA P st fn.results.toList with
          | some rs => match packL res rs (getF st.F) [] with
            | some (d, A) => match packL (pick ins ios) (lookL st.tm shadow (pick ins ios)) (getF st.F) A with
              | some (d', A) => if sepOk A then some (RF.mk _ _ d d') else none
              | none => none
            | none => none
          | none => none
        else none
    | none => none
  | .fr _ _ _ _ sem, _, d => sem d
  | .pt f fn path loop ins exits cal subs, self, d => match fn.body.bind (at? · path) with
    | some c => match unpackL ins d 0 0 with
      | (vs, os) => if loop then (match c with
          | .loop b => xcode P E call cal fn.ntmps f subs b (false :: path) ⟨putL 0 ins vs, ups 0 os, os.length⟩ fun ex st => match ex with
            | .normal => (match packL ins (lookL st.tm 0 ins) (getF st.F) [] with
              | some (d, A) => if sepOk A then self d else none
              | none => none)
            | ex => inj exits ex st
          | _ => none)
        else xcode P E call cal fn.ntmps f (subs.filter fun x => !(x.1 == path)) c path ⟨putL 0 ins vs, ups 0 os, os.length⟩ fun ex st => inj exits ex st
    | none => none
end

def acall (P : Program) (E : Nat → Ent) : Nat → CallF E
  | 0, _, _ => none
  | k + 1, e, d => xent P E (acall P E k) (acall P E k) e (E e) (acall P E k e) d
end Go.Proofs.YtiaagflfiphioaaDoorS
