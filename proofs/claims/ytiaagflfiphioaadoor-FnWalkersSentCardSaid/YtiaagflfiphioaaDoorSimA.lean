/- What a Go function computes, told without addresses: values, objects, typed data; the evaluation of the model's code over them. -/
import Derived.Calls
import Derived.KernelRfl
namespace Go.Proofs.YtiaagflfiphioaaDoorS
open Go
set_option linter.unusedVariables false
set_option linter.unusedSimpArgs false

/-- The shape of a row's element (all its cells are plain). -/
inductive Sh where
  | int (k : IntKind) | bool | str | unit | pair (a b : Sh)
  deriving DecidableEq
def Sh.T : Sh → Type
  | .int _ => Int | .bool => Bool | .str => ByteArray | .unit => Unit | .pair a b => a.T × b.T
def Sh.sz : Sh → Nat
  | .unit => 0 | .pair a b => a.sz + b.sz | _ => 1
def Sh.dft : (s : Sh) → s.T
  | .int _ => (0 : Int) | .bool => false | .str => ByteArray.empty | .unit => () | .pair a b => (a.dft, b.dft)

inductive Cell where
  | unk | any | int (k : IntKind) (n : Int) | bool (b : Bool) | str (s : ByteArray)
  | ptr (id n : Nat) | pel (id i sz off : Nat) | slv (id lo n sz : Nat) | slc (id : Nat) | nils | nilp | nilf | nili | nilm
  | clo (f : FuncId) (caps : List (Nat × Nat)) | mp (id : Nat)
  deriving Inhabited

def Sh.cells : (s : Sh) → s.T → List Cell
  | .int k, n => [.int k n] | .bool, b => [.bool b] | .str, s => [.str s] | .unit, _ => [] | .pair a b, x => a.cells x.1 ++ b.cells x.2
def Sh.of : (s : Sh) → List Cell → Option (s.T × List Cell)
  | .int k, c :: cs => match c with | .int k' n => if k' = k then some (n, cs) else none | _ => none
  | .bool, c :: cs => match c with | .bool b => some (b, cs) | _ => none
  | .str, c :: cs => match c with | .str b => some (b, cs) | _ => none
  | .unit, cs => some ((), cs)
  | .pair a b, cs => match a.of cs with
    | some (x, cs) => match b.of cs with
      | some (y, cs) => some ((x, y), cs)
      | none => none
    | none => none
  | _, [] => none
def Sh.ofAll (s : Sh) : Nat → List Cell → Option (List s.T)
  | 0, [] => some []
  | 0, _ :: _ => none
  | n + 1, cs => match s.of cs with
    | some (x, cs) => match s.ofAll n cs with
      | some xs => some (x :: xs)
      | none => none
    | none => none

/-- Equality of elements; maps ars lists of entries. -/
def Sh.eqT : (s : Sh) → s.T → s.T → Bool
  | .int _, x, y => @BEq.beq Int _ x y
  | .bool, x, y => @BEq.beq Bool _ x y
  | .str, x, y => @BEq.beq ByteArray _ x y
  | .unit, _, _ => true
  | .pair a b, x, y => a.eqT x.1 y.1 && b.eqT x.2 y.2
def Sh.isP : Sh → Bool
  | .pair _ _ => true | _ => false
def mget {K α : Type} (eq : K → K → Bool) : List (K × α) → K → α → α
  | [], _, z => z
  | e :: r, x, z => cond (eq x e.1) e.2 (mget eq r x z)
def mhas {K α : Type} (eq : K → K → Bool) : List (K × α) → K → Bool
  | [], _ => false
  | e :: r, x => cond (eq x e.1) true (mhas eq r x)
def mput {K α : Type} (eq : K → K → Bool) : List (K × α) → K → α → List (K × α)
  | [], x, y => [(x, y)]
  | e :: r, x, y => cond (eq x e.1) ((x, y) :: r) (e :: mput eq r x y)
def mdel {K α : Type} (eq : K → K → Bool) : List (K × α) → K → List (K × α)
  | [], _ => []
  | e :: r, x => cond (eq x e.1) r (e :: mdel eq r x)
/-- A struct's plain parts: of each cell its shape, or none where it isn't told. -/
def RecT : List (Option Sh) → Type
  | [] => Unit | none :: r => RecT r | some s :: r => s.T × RecT r
/-- Kinds of objects that lie in a block ars a whole; slices of slices (is the outer one owned, are the inner ones), these with one inner one taken out, these behind an index; slices of structs of which some cells aren't told. -/
inductive BT where
  | iter | map (k v : Sh) | rows (oo io : Bool) (s : Sh) | hole (oo : Bool) (s : Sh) | tail (s : Sh) | recs (cs : List (Option Sh))
  deriving DecidableEq
def BT.D : BT → Type
  | .iter => ByteArray × Nat
  | .map k v => List (k.T × v.T)
  | .rows _ _ s => List (List s.T)
  | .hole _ s => (Nat × Nat) × List (List s.T)
  | .tail s => Nat × List (List s.T)
  | .recs cs => List (RecT cs)
/-- All of its blocks are owned, if the object is. -/
def BT.whole : BT → Bool
  | .rows oo io _ => oo && io | .hole oo _ => oo | .tail _ => false | _ => true
/-- Its data say nothing of other objects. -/
def BT.free : BT → Bool
  | .hole _ _ => false | _ => true
/-- What a nil slice is. -/
def BT.nil : (t : BT) → Option t.D
  | .rows _ _ s => some ([] : List (List s.T)) | .recs cs => some ([] : List (RecT cs)) | _ => none
inductive AObj where
  | dead
  | cell (own : Bool) (k n : Nat) (c : Cell)
  | row (own : Bool) (s : Sh) (xs : List s.T)
  | blob (own : Bool) (t : BT) (d : t.D)
  deriving Inhabited

inductive AVal where
  | c (x : Cell) | agg (l : List Cell) | tup (l : List (Bool × List Cell))
  deriving Inhabited
def AVal.cells : AVal → List Cell
  | .c x => [x] | .agg l => l | .tup _ => []
def AVal.isV : AVal → Bool
  | .tup _ => false | _ => true
def AVal.isAgg : AVal → Bool
  | .agg _ => true | _ => false
def AVal.of (agg : Bool) (l : List Cell) : AVal := if agg then .agg l else match l with | x :: _ => .c x | [] => .c .unk

/-- The kinds of what goes into a function, a loop, and out of it. -/
inductive Ty where
  | unk | any | int (k : IntKind) | bool | str | slc (own : Bool) (s : Sh) | box (own : Bool) (t : Ty) | ref (j n : Nat) | sref (j : Nat) | mref (j : Nat) | clo (f : FuncId) (t : Ty) | nil | cons (a b : Ty) | blob (own : Bool) (t : BT)
def Ty.D : Ty → Type
  | .unk => Unit | .any => Unit | .int _ => Int | .bool => Bool | .str => ByteArray | .slc _ s => List s.T | .box _ t => t.D | .ref _ _ => Unit | .sref _ => Unit | .mref _ => Unit | .clo _ t => t.D | .nil => Unit | .cons a b => a.D × b.D | .blob _ t => t.D

def ptrsOf : List Cell → List (Nat × Nat)
  | [] => [] | c :: cs => (match c with | .ptr id n => (id, n) | _ => (0, 0)) :: ptrsOf cs
def boxOf (own : Bool) (n : Nat) : Nat → List Cell → List AObj
  | _, [] => [] | k, c :: cs => .cell own k n c :: boxOf own n (k + 1) cs

/-- Cells and new objects (numbered from n on) of data; what is told of before is numbered from b on. -/
def Ty.unpack : (t : Ty) → t.D → Nat → Nat → List Cell × List AObj
  | .unk, _, _, _ => ([.unk], [])
  | .any, _, _, _ => ([.any], [])
  | .int k, x, _, _ => ([.int k x], [])
  | .bool, b, _, _ => ([.bool b], [])
  | .str, s, _, _ => ([.str s], [])
  | .slc own s, xs, _, n => ([.slc n], [.row own s xs])
  | .blob own t, d, _, n => ([.mp n], [.blob own t d])
  | .box own t, d, b, n => match t.unpack d b n with
    | (cs, os) => ([.ptr (n + os.length) cs.length], os ++ boxOf own cs.length 0 cs)
  | .ref j m, _, b, _ => ([.ptr (b + j) m], [])
  | .sref j, _, b, _ => ([.slc (b + j)], [])
  | .mref j, _, b, _ => ([.mp (b + j)], [])
  | .clo f t, d, b, n => match t.unpack d b n with
    | (cs, os) => ([.clo f (ptrsOf cs)], os)
  | .nil, _, _, _ => ([], [])
  | .cons u v, d, b, n => match u.unpack d.1 b n with
    | (ca, oa) => match v.unpack d.2 b (n + oa.length) with
      | (cb, ob) => (ca ++ cb, oa ++ ob)
def Ty.len : Ty → Nat
  | .nil => 0 | .cons a b => a.len + b.len | _ => 1
def Ty.cnt : Ty → Nat
  | .slc _ _ => 1 | .blob _ _ => 1 | .box _ t => t.cnt + t.len | .clo _ t => t.cnt | .cons a b => a.cnt + b.cnt | _ => 0

/-- No cell of the datum is left open. -/
def Ty.kn : Ty → Bool
  | .unk => false | .cons a b => a.kn && b.kn | _ => true
/-- The numbers that are told of before lie below N. -/
def Ty.refB (N : Nat) : Ty → Bool
  | .ref j n => decide (j + n ≤ N) | .sref j => decide (j < N) | .mref j => decide (j < N) | .box _ t => t.refB N | .clo _ t => t.refB N | .cons a b => a.refB N && b.refB N | .blob _ t => t.free | _ => true
/-- What has been packed: for each new number, whether it is owned, and which object it was (none: a nil slice). -/
abbrev Acc := List (Bool × Option Nat)
def castRow (s s' : Sh) (xs : List s'.T) : Option (List s.T) := if h : s' = s then some (h ▸ xs) else none
def castBlob (t t' : BT) (d : t'.D) : Option t.D := if h : t' = t then some (h ▸ d) else none
def castRows (s s' : Sh) (xs : List (List s'.T)) : Option (List (List s.T)) := if h : s' = s then some (h ▸ xs) else none
/-- Slices of slices may be told to own less. -/
def castLook (own : Bool) : (t t' : BT) → t'.D → Option t.D
  | .rows oo io s, .rows oo' io' s', d => if !own || ((!oo || oo') && (!io || io')) then castRows s s' d else none
  | _, _, _ => none
def castW (own : Bool) (t t' : BT) (d : t'.D) : Option t.D := match castBlob t t' d with
  | some d => some d
  | none => castLook own t t' d
def boxCells (F : Nat → AObj) (own : Bool) (n : Nat) : Nat → Nat → Nat → Option (List Cell)
  | 0, _, _ => some []
  | m + 1, k, id => match F id with
    | .cell o k' n' c => if (!own || o) && (k' == k) && (n' == n) then
        match boxCells F own n m (k + 1) (id + 1) with | some cs => some (c :: cs) | none => none
      else none
    | _ => none
def idsFrom (own : Bool) : Nat → Nat → Acc
  | 0, _ => [] | n + 1, id => (own, some id) :: idsFrom own n (id + 1)
def capCells : List (Nat × Nat) → List Cell
  | [] => [] | (a, n) :: r => .ptr a n :: capCells r
def accAt (acc : Acc) (id : Nat) : Nat → Nat → Bool
  | 0, _ => true
  | n + 1, j => (match acc[j]? with | some (_, some i) => i == id | _ => false) && accAt acc (id + 1) n (j + 1)

/-- All cells are known: their values lie in one cell of memory each. -/
def known : List Cell → Bool
  | [] => true | .unk :: _ => false | _ :: r => known r
def Ty.pack : (t : Ty) → List Cell → (Nat → AObj) → Acc → Option (t.D × List Cell × Acc)
  | .unk, _ :: cs, _, A => some ((), cs, A)
  | .any, c :: cs, _, A => if known [c] then some ((), cs, A) else none
  | .int k, c :: cs, _, A => match c with | .int k' n => if k' = k then some (n, cs, A) else none | _ => none
  | .bool, c :: cs, _, A => match c with | .bool b => some (b, cs, A) | _ => none
  | .str, c :: cs, _, A => match c with | .str b => some (b, cs, A) | _ => none
  | .slc own s, c :: cs, F, A => match c with
    | .slc id => match F id with
      | .row o s' xs => if !own || o then match castRow s s' xs with
          | some ys => some (ys, cs, A ++ [(own, some id)])
          | none => none
        else none
      | _ => none
    | .nils => some ([], cs, A ++ [(own, none)])
    | _ => none
  | .blob own t, c :: cs, F, A => match c with
    | .mp id => match F id with
      | .blob o t' d' => if (!own || o) && t.free then match castW own t t' d' with
          | some d => some (d, cs, A ++ [(own, some id)])
          | none => none
        else none
      | _ => none
    | .nils => match t.nil with
      | some d => some (d, cs, A ++ [(own, none)])
      | none => none
    | _ => none
  | .box own t, c :: cs, F, A => match c with
    | .ptr id n => match (if t.kn then boxCells F own n n 0 id else none) with
      | some l => match t.pack l F A with
        | some (d, [], A) => some (d, cs, A ++ idsFrom own n id)
        | _ => none
      | none => none
    | _ => none
  | .ref j n, c :: cs, _, A => match c with
    | .ptr id n' => if n' == n && accAt A id n j then some ((), cs, A) else none
    | _ => none
  | .sref j, c :: cs, _, A => match c with
    | .slc id => if accAt A id 1 j then some ((), cs, A) else none
    | _ => none
  | .mref j, c :: cs, _, A => match c with
    | .mp id => if accAt A id 1 j then some ((), cs, A) else none
    | _ => none
  | .clo f t, c :: cs, F, A => match c with
    | .clo f' caps => if f' = f then match t.pack (capCells caps) F A with
        | some (d, [], A) => some (d, cs, A)
        | _ => none
      else none
    | _ => none
  | .nil, cs, _, A => some ((), cs, A)
  | .cons a b, cs, F, A => match a.pack cs F A with
    | some (x, cs, A) => match b.pack cs F A with
      | some (y, cs, A) => some ((x, y), cs, A)
      | none => none
    | none => none
  | _, [], _, _ => none
/-- An owned object is packed once. -/
def sepOk : Acc → Bool
  | [] => true
  | (o, i) :: r => r.all (fun (o', j) => match i, j with | some i, some j => !(o || o') || i != j | _, _ => true) && sepOk r

/-! ### The state -/
def ups (id : Nat) : List AObj → List (Nat × AObj)
  | [] => [] | o :: r => (id, o) :: ups (id + 1) r
structure St where
  tm : List (Nat × AVal)
  F : List (Nat × AObj)
  n : Nat
def St.look (l : List (Nat × AVal)) (t : Nat) : AVal := match l with
  | [] => .c .unk
  | (d, v) :: r => if d == t then v else St.look r t
def putTm (tm : List (Nat × AVal)) (dst : Option Tmp) (v : AVal) : List (Nat × AVal) := match dst with | some d => (d, v) :: tm | none => tm
def getF (l : List (Nat × AObj)) (i : Nat) : AObj := match l with
  | [] => .dead
  | (d, o) :: r => if d == i then o else getF r i
def setF (F : List (Nat × AObj)) : List (Nat × AObj) → List (Nat × AObj)
  | [] => F | x :: r => setF (x :: F) r

def ofVal : Value → Option Cell
  | .int k n => some (.int k n) | .bool b => some (.bool b) | .string s => some (.str s) | .slice none 0 0 => some .nils | .pointer none => some .nilp
  | .nilFunc => some .nilf | .nilIface => some .nili | .map none => some .nilm | _ => none
def ofVals : List Value → Option (List Cell)
  | [] => some [] | v :: r => match ofVal v with | some c => (match ofVals r with | some cs => some (c :: cs) | none => none) | none => none
def shadow : Nat := 100000
def ev (tm : Nat → AVal) : Operand → AVal
  | .tmp t => cond (Nat.blt t shadow) (tm t) (.c .unk)
  | .const v => match v with
    | .agg cs => (match ofVals cs.toList with | some l => .agg l | none => .c .unk)
    | v => (match ofVal v with | some c => .c c | none => .c .unk)
  | .global _ => .c .unk
  | .func f => .c (.clo f [])

/-! ### Types -/
def sizeB (P : Program) (t : TypeId) : Option Nat := match P.info? t with | some i => some i.size | none => none
def isAggB (P : Program) (t : TypeId) : Option Bool := match P.underlying t with | some (.struct _) | some (.array _ _) => some true | some _ => some false | none => none
def nzB (P : Program) (t : TypeId) : Bool := match sizeB P t with | some m => !(m == 0) | none => false
/-- A type's size, and whether its values are aggregates. -/
def loadB (P : Program) (t : TypeId) : Option (Nat × Bool) := match sizeB P t, isAggB P t with
  | some n, some a => if a || n == 1 then some (n, a) else none
  | _, _ => none
def zeroB (P : Program) (t : TypeId) : Option (List Cell) := match P.info? t with | some i => (match i.zero with | some z => ofVals z.cells.toList | none => none) | none => none
/-- How many cells a type's zero value has. -/
def zlenB (P : Program) (t : TypeId) : Option Nat := match zeroB P t with | some z => some z.length | none => none
def shapeL (f : TypeId → Option Sh) : List TypeId → Option Sh
  | [] => some .unit
  | [t] => f t
  | t :: r => match f t with
    | some a => (match shapeL f r with | some b => some (.pair a b) | none => none)
    | none => none
def shapeB (P : Program) : Nat → TypeId → Option Sh
  | 0, _ => none
  | d + 1, t => match P.underlying t with
    | some .bool => some .bool | some (.int k) => some (.int k) | some .string => some .str
    | some (.struct fs) => shapeL (shapeB P d) (fs.toList.map (·.type))
    | _ => none

/-! ### What an operation does -/
inductive Eff where
  | fail
  | val (v : AVal) (ups : List (Nat × AObj))
  | chk (b : Bool) (v : AVal) (ups : List (Nat × AObj))
  | two (b : Bool) (v : AVal) (ups : List (Nat × AObj)) (v' : AVal) (ups' : List (Nat × AObj))
def Eff.c (x : Cell) : Eff := .val (.c x) []
def Eff.ck (b : Bool) (x : Cell) : Eff := .chk b (.c x) []

def ldCells (F : Nat → AObj) : Nat → Nat → Option (List Cell)
  | 0, _ => some []
  | n + 1, id => match F id with
    | .cell _ _ _ c => (match ldCells F n (id + 1) with | some cs => some (c :: cs) | none => none)
    | _ => none
def stCells (F : Nat → AObj) : List Cell → Nat → Option (List (Nat × AObj))
  | [], _ => some []
  | c :: cs, id => match F id with
    | .cell true k n _ => (match stCells F cs (id + 1) with | some r => some ((id, .cell true k n c) :: r) | none => none)
    | _ => none
def splice (l : List Cell) (off : Nat) (vs : List Cell) : List Cell := l.take off ++ vs ++ l.drop (off + vs.length)
/-- The rune of a string at an index, and the index behind it. -/
def runeAt (s : ByteArray) (i : Nat) : Int := ((Utf8.decode s i).1 : Int)
def runeEnd (s : ByteArray) (i : Nat) : Nat := i + (Utf8.decode s i).2
def bt (s : ByteArray) (i : Nat) : Int := ((s.data.getD i 0).toNat : Int)
def w64 (n : Int) : Int := IntKind.i64.wrap n
def w8 (n : Int) : Int := IntKind.u8.wrap n
def shlI (k : IntKind) (x y : Int) : Int := k.wrap (x * 2 ^ (min y.toNat k.bits))
def shrI (k : IntKind) (x y : Int) : Int := x.fdiv (2 ^ (min y.toNat k.bits))
def andI (k : IntKind) (x y : Int) : Int := k.wrap (BitVec.ofInt k.bits x &&& BitVec.ofInt k.bits y).toNat
def orI (k : IntKind) (x y : Int) : Int := k.wrap (BitVec.ofInt k.bits x ||| BitVec.ofInt k.bits y).toNat
def xorI (k : IntKind) (x y : Int) : Int := k.wrap (BitVec.ofInt k.bits x ^^^ BitVec.ofInt k.bits y).toNat
def andNotI (k : IntKind) (x y : Int) : Int := k.wrap (BitVec.ofInt k.bits x &&& ~~~ BitVec.ofInt k.bits y).toNat
def isSh : BinOp → Bool
  | .shl => true | .shr => true | _ => false
def shOps (op : BinOp) (k : IntKind) (x y : Int) : Eff := match op with
  | .shl => .ck (decide (0 ≤ y)) (.int k (shlI k x y))
  | .shr => .ck (decide (0 ≤ y)) (.int k (shrI k x y))
  | _ => .fail
def intOps (op : BinOp) (k : IntKind) (x y : Int) : Eff := match op with
  | .add => .c (.int k (k.wrap (x + y)))
  | .sub => .c (.int k (k.wrap (x - y)))
  | .mul => .c (.int k (k.wrap (x * y)))
  | .quo => .ck (y != 0) (.int k (k.wrap (x.tdiv y)))
  | .rem => .ck (y != 0) (.int k (x.tmod y))
  | .eql => .c (.bool (x == y))
  | .neq => .c (.bool (x != y))
  | .lss => .c (.bool (decide (x < y)))
  | .leq => .c (.bool (decide (x ≤ y)))
  | .gtr => .c (.bool (decide (x > y)))
  | .geq => .c (.bool (decide (x ≥ y)))
  | .and => .c (.int k (andI k x y))
  | .or => .c (.int k (orI k x y))
  | .xor => .c (.int k (xorI k x y))
  | .andNot => .c (.int k (andNotI k x y))
  | _ => .fail
def maxStr : Nat := 4611686018427387904
def strEq (x y : ByteArray) : Bool := x.toList == y.toList
def strLess (x y : ByteArray) : Bool := Op.bytesLess x.toList y.toList
def fitS (x y : ByteArray) : Bool := decide (x.size + y.size < maxStr)
def strOps (op : BinOp) (x y : ByteArray) : Eff := match op with
  | .add => .ck (fitS x y) (.str (x ++ y))
  | .eql => .c (.bool (strEq x y))
  | .neq => .c (.bool (!(strEq x y)))
  | .lss => .c (.bool (strLess x y))
  | .leq => .c (.bool (strLess x y || strEq x y))
  | .gtr => .c (.bool (!(strLess x y || strEq x y)))
  | .geq => .c (.bool (!(strLess x y)))
  | _ => .fail
/-- Equality of plain structs, field by field. -/
def eqVF (P : Program) (f : TypeId → List Cell → List Cell → Option Bool) : List Field → Nat → List Cell → List Cell → Option Bool
  | [], _, [], [] => some true
  | x :: r, off, l, l' => match loadB P x.type with
    | some (m, _) => if x.offset == off && x.name != "_" && decide (m ≤ l.length) && decide (m ≤ l'.length) then
        match f x.type (l.take m) (l'.take m), eqVF P f r (off + m) (l.drop m) (l'.drop m) with
        | some b, some c => some (b && c)
        | _, _ => none
      else none
    | none => none
  | _, _, _, _ => none
def eqV (P : Program) : Nat → TypeId → List Cell → List Cell → Option Bool
  | 0, _, _, _ => none
  | d + 1, t, l, l' => match P.underlying t with
    | some .bool => (match l, l' with | [.bool x], [.bool y] => some (x == y) | _, _ => none)
    | some (.int _) => (match l, l' with | [.int k x], [.int k' y] => if k = k' then some (x == y) else none | _, _ => none)
    | some .string => (match l, l' with | [.str x], [.str y] => some (x == y) | _, _ => none)
    | some (.struct fs) => if P.stoodInHeld t then none else eqVF P (eqV P d) fs.toList 0 l l'
    | _ => none
def eqAgg (P : Program) (t : TypeId) (a b : List Cell) : Option Bool := match loadB P t with
  | some (n, true) => if a.length == n && b.length == n && !(P.eqGuardType P.depth t) then eqV P 20 t a b else none
  | _ => none
/-- A type whose values are compared ars their shape's are. -/
def keyVF (P : Program) (f : TypeId → Sh → Bool) : List Field → Nat → Sh → Bool
  | [x], off, s => (match loadB P x.type with | some (m, _) => m == s.sz && x.offset == off && x.name != "_" && f x.type s | none => false)
  | x :: y :: r, off, .pair a b => (match loadB P x.type with | some (m, _) => m == a.sz && x.offset == off && x.name != "_" && f x.type a | none => false) && keyVF P f (y :: r) (off + a.sz) b
  | _, _, _ => false
def keyV (P : Program) : Nat → TypeId → Sh → Bool
  | 0, _, _ => false
  | d + 1, t, s => match P.underlying t with
    | some .bool => (match s with | .bool => true | _ => false)
    | some (.int _) => (match s with | .int _ => true | _ => false)
    | some .string => (match s with | .str => true | _ => false)
    | some (.struct fs) => !P.stoodInHeld t && keyVF P (keyV P d) fs.toList 0 s
    | _ => false
def zagB (P : Program) (t : TypeId) : Bool := match P.info? t with | some i => (match i.zero with | some (.agg _) => true | _ => false) | none => false
def sliceT (P : Program) (t : TypeId) : Bool := match P.underlying t with | some (.slice _) => true | _ => false
/-- The shapes of a map's keys and elements, and its elements' zero. -/
def mapB (P : Program) (t : TypeId) : Option (Sh × Sh × List Cell) := match P.underlying t with
  | some (.map kt et) => match shapeB P 8 kt, shapeB P 8 et, zeroB P et with
    | some k, some v, some z => if keyV P 20 kt k && loadB P kt == some (k.sz, k.isP) && loadB P et == some (v.sz, v.isP) && zagB P et == v.isP then some (k, v, z) else none
    | _, _, _ => none
  | _ => none
def valS (s : Sh) (a : AVal) : Option s.T := if a.isV && a.isAgg == s.isP then (match s.of a.cells with | some (y, []) => some y | _ => none) else none
def mapR (k v : Sh) : AObj → Option (List (k.T × v.T))
  | .blob _ t d => castBlob (.map k v) t d
  | _ => none
def mapW (k v : Sh) : AObj → Option (List (k.T × v.T))
  | .blob o t d => if o then castBlob (.map k v) t d else none
  | _ => none
def bytesOf (s : ByteArray) : List Int := s.data.toList.map fun b => (b.toNat : Int)
def ofBytes (l : List Int) : ByteArray := ⟨(l.map fun n => UInt8.ofNat n.toNat).toArray⟩
def maxRow : Nat := 35184372088832
def fits (n bs : Nat) : Bool := decide (n * bs < maxRow)
def inB (i : Int) (n : Nat) : Bool := decide (0 ≤ i) && decide (i < (n : Int))
def sliceB (len : Nat) (lo hi : Option AVal) : Option (Bool × Nat × Nat) :=
  match lo, hi with
  | none, none => some (true, 0, len)
  | some (.c (.int _ l)), none => some (decide (0 ≤ l) && decide (l ≤ len), l.toNat, len)
  | none, some (.c (.int _ h)) => some (decide (0 ≤ h) && decide (h ≤ len), 0, h.toNat)
  | some (.c (.int _ l)), some (.c (.int _ h)) => some (decide (0 ≤ h) && decide (h ≤ len) && (decide (0 ≤ l) && decide (l ≤ h)), l.toNat, h.toNat)
  | _, _ => none
def bytesOfT (P : Program) (t : TypeId) : Option Nat := match P.info? t with | some i => some i.bytes | none => none

def fieldsB (P : Program) (t : TypeId) : Option (List Field) := match P.underlying t with | some (.struct fs) => some fs.toList | _ => none
def buildB (P : Program) (fs : List Field) : List (Nat × AVal) → List Cell → Option (List Cell)
  | [], cs => some cs
  | (i, v) :: r, cs => match fs[i]? with
    | some f => (match sizeB P f.type with
      | some n => if v.isV && v.cells.length == n && known v.cells && decide (f.offset + n ≤ cs.length) then buildB P fs r (splice cs f.offset v.cells) else none
      | none => none)
    | none => none
def buildR (n : Nat) : List (Nat × AVal) → List Cell → Option (List Cell)
  | [], cs => some cs
  | (i, v) :: r, cs => if v.isV && v.cells.length == n && known v.cells && decide (i * n + n ≤ cs.length) then buildR n r (splice cs (i * n) v.cells) else none
def repeatCells (z : List Cell) : Nat → List Cell
  | 0 => [] | n + 1 => z ++ repeatCells z n

def srcRow (P : Program) (ats : Array TypeId) (s : Sh) (b : Cell) (F : Nat → AObj) : Option (List s.T) := match ats[1]? with
  | some u => match P.underlying u, b with
    | some (.slice _), .slc j => (match F j with | .row _ s' ys => castRow s s' ys | _ => none)
    | some (.slice _), .nils => some []
    | some .string, .str x => castRow s (.int .u8) (bytesOf x)
    | _, _ => none
  | none => none
/-- Captured variables: their pointers, and whether all are pointers. -/
def capL (tm : Nat → AVal) : List Operand → List (Nat × Nat) × Bool
  | [] => ([], true)
  | x :: r => match ev tm x with
    | .c (.ptr i n) => ((i, n) :: (capL tm r).1, (capL tm r).2)
    | _ => ([], false)
def effCall (P : Program) (b : Builtin) (ats : Array TypeId) (args : List AVal) (F : Nat → AObj) (id : Nat) : Eff :=
  match b, args with
  | .len, [.c x] => match ats[0]? with
    | some t => match P.underlying t, x with
      | some .string, .str s => .c (.int .i64 s.size)
      | some (.slice _), .nils => .c (.int .i64 0)
      | some (.slice _), .slc i => (match F i with | .row _ _ xs => .c (.int .i64 xs.length) | _ => .fail)
      | some (.map _ _), .mp i => (match mapB P t with
        | some (k, v, _) => (match mapR k v (F i) with | some d => .c (.int .i64 d.length) | none => .fail)
        | none => .fail)
      | _, _ => .fail
    | none => .fail
  | .append, [.c a, .c b] => match ats[0]? with
    | some t => match P.underlying t with
      | some (.slice e) => match shapeB P 8 e, bytesOfT P e with
        | some s, some bs => if !(sizeB P e == some s.sz && decide (0 < bs) && zlenB P e == some s.sz) then .fail else match srcRow P ats s b F with
          | some ys => match a with
            | .nils => .chk (fits ys.length bs) (.c (.slc id)) [(id, .row true s ys)]
            | .slc i => match F i with
              | .row true s' xs => (match castRow s s' xs with
                | some xs => .chk (fits (xs.length + ys.length) bs) (.c (.slc id)) [(i, .dead), (id, .row true s (xs ++ ys))]
                | none => .fail)
              | _ => .fail
            | _ => .fail
          | none => .fail
        | _, _ => .fail
      | _ => .fail
    | none => .fail
  | .clear, [.c (.slv i lo n sz)] => match ats[0]? with
    | some t => match P.underlying t with
      | some (.slice e) => match zeroB P e, F i with
        | some z, .row o s xs => if o && s.sz == 1 && sz == 1 then (match s.of z with
          | some (y, []) => .val (.c .unk) [(i, .row true s (xs.take lo ++ List.replicate n y ++ xs.drop (lo + n)))]
          | _ => .fail) else .fail
        | _, _ => .fail
      | _ => .fail
    | none => .fail
  | .delete, [.c (.mp i), x] => match ats[0]? with
    | some t => match mapB P t with
      | some (k, v, _) => (match mapW k v (F i), valS k x with
        | some d, some key => .val (.tup []) [(i, .blob true (.map k v) (mdel k.eqT d key))]
        | _, _ => .fail)
      | none => .fail
    | none => .fail
  | .min, [.c (.int k x), .c (.int k' y)] => if k = k' then .c (.int k (if y < x then y else x)) else .fail
  | .max, [.c (.int k x), .c (.int k' y)] => if k = k' then .c (.int k (if y > x then y else x)) else .fail
  | _, _ => .fail

def iterOf : AObj → Option (ByteArray × Nat)
  | .blob o t d => if o then castBlob .iter t d else none
  | _ => none
/-- Maps: made, read, written. -/
def mapEff (P : Program) (o : Op) (tm : Nat → AVal) (F : Nat → AObj) (id : Nat) : Eff := match o with
  | .makeMap t none => (match mapB P t with
    | some (k, v, _) => .val (.c (.mp id)) [(id, .blob true (.map k v) ([] : List (k.T × v.T)))]
    | none => .fail)
  | .lookup t x i ok => (match mapB P t with
    | some (k, v, z) => (match ev tm x with
      | .c (.mp j) => (match mapR k v (F j), valS k (ev tm i), v.of z with
        | some d, some key, some (zz, []) => .val (if ok then .tup [(v.isP, v.cells (mget k.eqT d key zz)), (false, [.bool (mhas k.eqT d key)])] else AVal.of v.isP (v.cells (mget k.eqT d key zz))) []
        | _, _, _ => .fail)
      | _ => .fail)
    | none => .fail)
  | .mapUpdate t x i y => (match mapB P t with
    | some (k, v, _) => (match ev tm x with
      | .c (.mp j) => (match mapW k v (F j), valS k (ev tm i), valS v (ev tm y) with
        | some d, some key, some val => .val (.c .unk) [(j, .blob true (.map k v) (mput k.eqT d key val))]
        | _, _, _ => .fail)
      | _ => .fail)
    | none => .fail)
  | _ => .fail
/-- The next rune of a string that is ranged over. -/
def nextEff (i : Nat) (d : ByteArray × Nat) : Eff := .two (decide (d.2 < d.1.size)) (.tup [(false, [.bool true]), (false, [.int .i64 d.2]), (false, [.int .i32 (runeAt d.1 d.2)])]) [(i, .blob true .iter (d.1, runeEnd d.1 d.2))] (.tup [(false, [.bool false])]) []
def eff (P : Program) (o : Op) (ty : TypeId) (tm : Nat → AVal) (F : Nat → AObj) (id : Nat) : Eff :=
  match o with
  | .move x | .assign x => .val (ev tm x) []
  | .pick c a b => match ev tm c with
    | .c (.bool true) => .val (ev tm a) []
    | .c (.bool false) => .val (ev tm b) []
    | _ => .fail
  | .alloc t => match zeroB P t, sizeB P t with
    | some z, some n => if z.length == n then .val (.c (.ptr id z.length)) (ups id (boxOf true z.length 0 z)) else .fail
    | _, _ => .fail
  | .box t x => match sizeB P t with
    | some n => if (ev tm x).isV && known (ev tm x).cells && (ev tm x).cells.length == n then .val (.c (.ptr id (ev tm x).cells.length)) (ups id (boxOf true (ev tm x).cells.length 0 (ev tm x).cells)) else .fail
    | none => .fail
  | .build t parts => match zeroB P t, fieldsB P t with
    | some z, some fs => if !fs.all (fun f => (sizeB P f.type).isSome) then .fail else (match buildB P fs (parts.toList.map fun (i, x) => (i, ev tm x)) z with
      | some cs => .val (.agg cs) []
      | none => .fail)
    | some z, none => match P.underlying t with
      | some (.array _ e) => (match sizeB P e with
        | some n => (match buildR n (parts.toList.map fun (i, x) => (i, ev tm x)) z with
          | some cs => .val (.agg cs) []
          | none => .fail)
        | none => .fail)
      | _ => .fail
    | _, _ => .fail
  | .buildSlice t len parts => match P.underlying t with
    | some (.slice e) => match shapeB P 8 e, zeroB P e with
      | some s, some z => if !(z.length == s.sz && decide (len * s.sz ≤ 16777216) && sizeB P e == some s.sz) then .fail else (match buildR s.sz (parts.toList.map fun (i, x) => (i, ev tm x)) (repeatCells z len) with
        | some cs => (match s.ofAll len cs with
          | some xs => .val (.c (.slc id)) [(id, .row true s xs)]
          | none => .fail)
        | none => .fail)
      | _, _ => .fail
    | _ => .fail
  | .load t a => match loadB P t with
    | some (n, ag) => match ev tm a with
      | .c (.ptr i m) => if decide (n ≤ m) then (match ldCells F n i with | some cs => .val (AVal.of ag cs) [] | none => .fail) else .fail
      | .c (.pel i j sz off) => (match F i with | .row _ s xs => if sz == s.sz && decide (off + n ≤ sz) then .val (AVal.of ag (((s.cells (xs.getD j s.dft)).drop off).take n)) [] else .fail | _ => .fail)
      | _ => .fail
    | none => .fail
  | .store t a x => match sizeB P t with
    | some n => if (ev tm x).isV && (ev tm x).cells.length == n && known (ev tm x).cells then match ev tm a with
      | .c (.ptr i m) => if decide (n ≤ m) then (match stCells F (ev tm x).cells i with | some r => .val (.c .unk) r | none => .fail) else .fail
      | .c (.pel i j sz off) => match F i with
        | .row true s xs => if sz == s.sz && decide (off + n ≤ sz) then (match s.of (splice (s.cells (xs.getD j s.dft)) off (ev tm x).cells) with
          | some (y, []) => .val (.c .unk) [(i, .row true s (xs.set j y))]
          | _ => .fail) else .fail
        | _ => .fail
      | _ => .fail
      else .fail
    | none => .fail
  | .nilCheck x => match ev tm x with
    | .c (.ptr i n) => .c (.ptr i n)
    | .c (.pel a b c d) => .c (.pel a b c d)
    | _ => .fail
  | .binOp op t x y _ => match ev tm x, ev tm y with
    | .c (.int k a), .c (.int k' b) => if isSh op then shOps op k a b else if k = k' then intOps op k a b else .fail
    | .c (.str a), .c (.str b) => strOps op a b
    | .c (.bool a), .c (.bool b) => (match op, P.underlying t with | .eql, some .bool => .c (.bool (a == b)) | .neq, some .bool => .c (.bool (!(a == b))) | _, _ => .fail)
    | .agg a, .agg b => (match eqAgg P t a b with | some r => (match op with | .eql => .c (.bool r) | .neq => .c (.bool (!r)) | _ => .fail) | none => .fail)
    | _, _ => .fail
  | .unOp op _ x => match op, ev tm x with
    | .not, .c (.bool b) => .c (.bool (!b))
    | .neg, .c (.int k n) => .c (.int k (k.wrap (0 - n)))
    | .xor, .c (.int k n) => .c (.int k (xorI k (if k.signed = true then -1 else k.max) n))
    | _, _ => .fail
  | .convert src dst x => match P.underlying src, P.underlying dst, ev tm x with
    | some (.int _), some (.int k), .c (.int _ n) => .c (.int k (k.wrap n))
    | some _, some .string, .c (.str s) => .c (.str s)
    | some .string, some (.slice e), .c (.str s) => (match P.underlying e with | some (.int .u8) => .val (.c (.slc id)) [(id, .row true (.int .u8) (bytesOf s))] | _ => .fail)
    | some (.slice e), some .string, .c (.slc i) => (match P.underlying e, F i with | some (.int .u8), .row _ (.int .u8) xs => .c (.str (ofBytes xs)) | _, _ => .fail)
    | _, _, _ => .fail
  | .makeFunc f fs cs => match f with
    | .func f => if fs.isEmpty && (capL tm cs.toList).2 then .c (.clo f (capL tm cs.toList).1) else .fail
    | _ => .fail
  | .makeSlice t l c => match P.underlying t with
    | some (.slice e) => match shapeB P 8 e, zeroB P e, bytesOfT P e, ev tm l, ev tm c with
      | some s, some z, some bs, .c (.int _ n), .c (.int _ m) => (match s.of z with
        | some (y, []) => if !(sizeB P e == some s.sz && decide (0 < bs)) then .fail else .chk (decide (0 ≤ n) && decide (n ≤ m) && fits m.toNat bs) (.c (.slc id)) [(id, .row true s (List.replicate n.toNat y))]
        | _ => .fail)
      | _, _, _, _, _ => .fail
    | _ => .fail
  | .slice t x lo hi mx => match mx with
    | some _ => .fail
    | none => match P.underlying t, ev tm x with
      | some .string, .c (.str s) => (match sliceB s.size (lo.map (ev tm)) (hi.map (ev tm)) with
        | some (b, l, h) => .ck b (.str (s.extract l h))
        | none => .fail)
      | some (.slice e), .c (.slc i) => match F i with
        | .row o s xs => if sizeB P e == some s.sz then (match sliceB xs.length (lo.map (ev tm)) (hi.map (ev tm)) with
          | some (b, l, h) => .chk b (.c (.slc id)) ((if o then [(i, .row false s xs)] else []) ++ [(id, .row false s ((xs.drop l).take (h - l)))])
          | none => .fail) else .fail
        | _ => .fail
      | _, _ => .fail
  | .fieldAddr s x f => match fieldsB P s with
    | some fs => (match fs[f]? with
      | some fd => match ev tm x with
        | .c (.ptr i n) => if decide (fd.offset < n) && nzB P fd.type then .c (.ptr (i + fd.offset) (n - fd.offset)) else .fail
        | .c (.pel i j sz off) => if nzB P fd.type then .c (.pel i j sz (off + fd.offset)) else .fail
        | _ => .fail
      | none => .fail)
    | none => .fail
  | .field s x f => match fieldsB P s, ev tm x with
    | some fs, .agg cs => (match fs[f]? with
      | some fd => (match loadB P fd.type with
        | some (n, ag) => if decide (fd.offset + n ≤ cs.length) then .val (AVal.of ag ((cs.drop fd.offset).take n)) [] else .fail
        | none => .fail)
      | none => .fail)
    | _, _ => .fail
  | .indexAddr t x i => match ev tm i with
    | .c (.int _ j) => match P.underlying t, ev tm x with
      | some (.slice e), .c (.slc r) => (match F r, sizeB P e with
        | .row _ _ xs, some n => .ck (inB j xs.length) (.pel r j.toNat n 0)
        | _, _ => .fail)
      | some (.array len e), .c (.ptr r m) => (match sizeB P e with
        | some n => if decide (0 ≤ j) && decide (j < (len : Int)) && decide (len * n ≤ m) then .c (.ptr (r + j.toNat * n) (m - j.toNat * n)) else .fail
        | none => .fail)
      | _, _ => .fail
    | _ => .fail
  | .index t x i => match ev tm x, ev tm i with
    | .c (.str s), .c (.int _ j) => (match P.underlying t with
      | some .string => .ck (inB j s.size) (.int .u8 (bt s j.toNat))
      | _ => .fail)
    | _, _ => .fail
  | .range t x => match P.underlying t, ev tm x with
    | some .string, .c (.str s) => .val (.c (.mp id)) [(id, .blob true .iter (s, 0))]
    | _, _ => .fail
  | .next x str => match str, ev tm x with
    | true, .c (.mp i) => (match iterOf (F i) with
      | some d => nextEff i d
      | none => .fail)
    | _, _ => .fail
  | .extract x i => match ev tm x with
    | .tup l => (match l[i]? with | some (a, cs) => .val (AVal.of a cs) [] | none => .fail)
    | _ => .fail
  | .call c => match c.callee with
    | .builtin b => effCall P b c.argTypes (c.args.toList.map (ev tm)) F id
    | _ => .fail
  | .makeMap .. | .lookup .. | .mapUpdate .. => mapEff P o tm F id
  | _ => .fail

/-! ### Slices of slices, slices of structs that aren't told whole -/
def recOf : (cs : List (Option Sh)) → List Cell → Option (RecT cs × List Cell)
  | [], l => some ((), l)
  | none :: r, _ :: l => recOf r l
  | some s :: r, l => match s.of l with
    | some (x, l) => match recOf r l with
      | some (y, l) => some ((x, y), l)
      | none => none
    | none => none
  | none :: _, [] => none
def recCells : (cs : List (Option Sh)) → RecT cs → List Cell
  | [], _ => [] | none :: r, d => .any :: recCells r d | some s :: r, d => s.cells d.1 ++ recCells r d.2
def recDft : (cs : List (Option Sh)) → RecT cs
  | [] => () | none :: r => recDft r | some s :: r => (s.dft, recDft r)
/-- A slice type's inner elements. -/
def rowsB (P : Program) (e : TypeId) : Option Sh := match P.underlying e with
  | some (.slice e2) => match shapeB P 8 e2 with
    | some s => if sizeB P e == some 1 && zlenB P e == some 1 && isAggB P e == some false then some s else none
    | none => none
  | _ => none
def recL (f : TypeId → Option (List (Option Sh))) : List TypeId → Option (List (Option Sh))
  | [] => some []
  | t :: r => match f t, recL f r with
    | some a, some b => some (a ++ b)
    | _, _ => none
def recB (P : Program) : Nat → TypeId → Option (List (Option Sh))
  | 0, _ => none
  | d + 1, t => match P.underlying t with
    | some .bool => some [some .bool] | some (.int k) => some [some (.int k)] | some .string => some [some .str] | some (.slice _) => some [none]
    | some (.struct fs) => recL (recB P d) (fs.toList.map (·.type))
    | _ => none
def recsB (P : Program) (e : TypeId) : Option (List (Option Sh)) := match recB P 8 e with
  | some cs => if sizeB P e == some cs.length && zlenB P e == some cs.length && isAggB P e == some true && cs.contains none && cs.all (fun x => match x with | some s => s.sz == 1 | none => true) && decide (cs.length ≤ 1000) then some cs else none
  | none => none
def castRecs (c c' : List (Option Sh)) (xs : List (RecT c')) : Option (List (RecT c)) := if h : c' = c then some (h ▸ xs) else none
/-- What a cell holds of an inner row: it, is it owned, its number. -/
def innerR (s : Sh) (F : Nat → AObj) : AVal → Option (List s.T × Bool × Option Nat)
  | .c .nils => some ([], true, none)
  | .c (.slc k) => match F k with
    | .row o s' ys => (match castRow s s' ys with | some ys => some (ys, o, some k) | none => none)
    | _ => none
  | _ => none
/-- The inner rows of a literal, in order and without a gap. -/
def innerL (s : Sh) (F : Nat → AObj) : Nat → List (Nat × AVal) → Option (List (List s.T) × Bool × List (Nat × Bool × List s.T))
  | _, [] => some ([], true, [])
  | k, (j, v) :: r => if j == k then match innerR s F v, innerL s F (k + 1) r with
      | some (ys, o, some i), some (yss, b, l) => if l.all fun x => !(x.1 == i) then some (ys :: yss, o && b, (i, o, ys) :: l) else none
      | some (ys, _, none), some (yss, b, l) => some (ys :: yss, b, l)
      | _, _ => none
    else none
/-- The inner rows are given away, or owned no more. -/
def innerUps (s : Sh) (own : Bool) : List (Nat × Bool × List s.T) → List (Nat × AObj)
  | [] => [] | (i, o, ys) :: r => (if o then [(i, if own then .dead else .row false s ys)] else []) ++ innerUps s own r
def recsL (cs : List (Option Sh)) : Nat → List (Nat × AVal) → Option (List (RecT cs))
  | _, [] => some []
  | k, (j, v) :: r => if j == k && v.isAgg && known v.cells then match recOf cs v.cells, recsL cs (k + 1) r with
      | some (x, []), some xs => some (x :: xs)
      | _, _ => none
    else none
/-- The rows of a slice that is appended: they, are the inner ones owned, its number. -/
def rowsS (s : Sh) (F : Nat → AObj) : Cell → Option (List (List s.T) × Bool × Option Nat)
  | .nils => some ([], true, none)
  | .mp j => match F j with
    | .blob o (.rows _ io s') ys => (match castRows s s' ys with | some ys => some (ys, o && io, some j) | none => none)
    | _ => none
  | _ => none
def recsS (cs : List (Option Sh)) (F : Nat → AObj) : Cell → Option (List (RecT cs))
  | .nils => some []
  | .mp j => match F j with
    | .blob _ (.recs c') ys => castRecs cs c' ys
    | _ => none
  | _ => none
def nestEff (P : Program) (o : Op) (tm : Nat → AVal) (F : Nat → AObj) (id : Nat) : Eff := match o with
  | .load t a => match loadB P t, ev tm a with
    | some (n, ag), .c (.pel i j sz off) => match F i with
      | .blob o (.rows oo io s) xss => if sz == 1 && off == 0 && n == 1 && !ag && sliceT P t then .val (.c (.slc id)) ((if o && io then [(i, .blob true (.rows oo false s) xss)] else []) ++ [(id, .row false s (xss.getD j []))]) else .fail
      | .blob _ (.recs cs) d => if sz == cs.length && decide (off + n ≤ sz) then .val (AVal.of ag (((recCells cs (d.getD j (recDft cs))).drop off).take n)) [] else .fail
      | _ => .fail
    | _, _ => .fail
  | .store t a x => match sizeB P t, ev tm a with
    | some n, .c (.pel i j sz off) => match F i with
      | .blob true (.rows true io s) xss => if sz == 1 && off == 0 && n == 1 then (match innerR s F (ev tm x) with
        | some (ys, o, some k) => if k == i then .fail else .val (.c .unk) [(k, if o && io then .dead else .row false s ys), (i, .blob true (.rows true (io && o) s) (xss.set j ys))]
        | some (ys, _, none) => .val (.c .unk) [(i, .blob true (.rows true io s) (xss.set j ys))]
        | none => .fail) else .fail
      | _ => .fail
    | _, _ => .fail
  | .indexAddr t x i => match ev tm i, P.underlying t, ev tm x with
    | .c (.int _ j), some (.slice e), .c (.mp r) => match F r, sizeB P e with
      | .blob _ (.rows _ _ _) xss, some n => .ck (inB j xss.length) (.pel r j.toNat n 0)
      | .blob _ (.recs _) d, some n => .ck (inB j d.length) (.pel r j.toNat n 0)
      | _, _ => .fail
    | _, _, _ => .fail
  | .buildSlice t len parts => match P.underlying t with
    | some (.slice e) => if !(parts.size == len && decide (len ≤ 1000)) then .fail else match rowsB P e with
      | some s => (match innerL s F 0 (parts.toList.map fun (i, x) => (i, ev tm x)) with
        | some (yss, b, l) => .val (.c (.mp id)) (innerUps s b l ++ [(id, .blob true (.rows true b s) yss)])
        | none => .fail)
      | none => match recsB P e with
        | some cs => (match recsL cs 0 (parts.toList.map fun (i, x) => (i, ev tm x)) with
          | some xs => .val (.c (.mp id)) [(id, .blob true (.recs cs) xs)]
          | none => .fail)
        | none => .fail
    | _ => .fail
  | .slice t x lo hi none => match P.underlying t, ev tm x with
    | some (.slice e), .c (.mp i) => match F i with
      | .blob true (.rows _ true s) xss => if sizeB P e == some 1 then (match lo, sliceB xss.length none (hi.map (ev tm)) with
        | none, some (b, _, h) => .chk b (.c (.mp id)) [(i, .blob true (.tail s) (h, xss.drop h)), (id, .blob true (.rows false true s) (xss.take h))]
        | _, _ => .fail) else .fail
      | .blob true (.tail s) d => if sizeB P e == some 1 then (match hi, sliceB (d.1 + d.2.length) (lo.map (ev tm)) none with
        | none, some (b, l, _) => .chk (b && l == d.1) (.c (.mp id)) [(i, .dead), (id, .blob true (.rows false true s) d.2)]
        | _, _ => .fail) else .fail
      | _ => .fail
    | _, _ => .fail
  | .call c => match c.callee with
    | .builtin .len => match c.args.toList.map (ev tm), c.argTypes[0]? with
      | [.c (.mp i)], some t => match P.underlying t, F i with
        | some (.slice _), .blob _ (.rows _ _ _) xss => .c (.int .i64 xss.length)
        | some (.slice _), .blob _ (.recs _) d => .c (.int .i64 d.length)
        | _, _ => .fail
      | _, _ => .fail
    | .builtin .append => match c.args.toList.map (ev tm), c.argTypes[0]?, c.argTypes[1]? with
      | [.c a, .c b], some t, some t' => match P.underlying t, P.underlying t' with
        | some (.slice e), some (.slice _) => match bytesOfT P e with
          | some bs => if !(decide (0 < bs)) then .fail else match rowsB P e with
            | some s => (match rowsS s F b with
              | some (ys, io2, j) => (match a with
                | .nils => .chk (fits ys.length bs) (.c (.mp id)) ((match j with | some j => if io2 then [(j, .dead)] else [] | none => []) ++ [(id, .blob true (.rows true io2 s) ys)])
                | .mp i => (match F i with
                  | .blob true (.rows true io1 s') xs => (match castRows s s' xs with
                    | some xs => if j == some i then .fail else .chk (fits (xs.length + ys.length) bs) (.c (.mp id)) ([(i, .dead)] ++ (match j with | some j => if io2 then [(j, .dead)] else [] | none => []) ++ [(id, .blob true (.rows true (io1 && io2) s) (xs ++ ys))])
                    | none => .fail)
                  | _ => .fail)
                | _ => .fail)
              | none => .fail)
            | none => match recsB P e with
              | some cs => (match recsS cs F b with
                | some ys => (match a with
                  | .nils => .chk (fits ys.length bs) (.c (.mp id)) [(id, .blob true (.recs cs) ys)]
                  | .mp i => (match F i with
                    | .blob true (.recs c') xs => (match castRecs cs c' xs with
                      | some xs => .chk (fits (xs.length + ys.length) bs) (.c (.mp id)) [(i, .dead), (id, .blob true (.recs cs) (xs ++ ys))]
                      | none => .fail)
                    | _ => .fail)
                  | _ => .fail)
                | none => .fail)
              | none => .fail
          | none => .fail
        | _, _ => .fail
      | _, _, _ => .fail
    | _ => .fail
  | _ => .fail
/-- An operation: by the plain rows first. -/
def effT (P : Program) (o : Op) (ty : TypeId) (tm : Nat → AVal) (F : Nat → AObj) (id : Nat) : Eff := match eff P o ty tm F id with
  | .fail => nestEff P o tm F id
  | e => e
/-- An inner row is taken out (4); a literal's rows are not given away (5). -/
def nestS (P : Program) (m : Nat) (o : Op) (tm : Nat → AVal) (F : Nat → AObj) (id : Nat) : Eff := match o with
  | .load t a => match loadB P t, ev tm a with
    | some (n, ag), .c (.pel i j sz off) => match F i with
      | .blob true (.rows oo true s) xss => if m == 4 && sz == 1 && off == 0 && n == 1 && !ag && sliceT P t then .chk (decide (j < xss.length)) (.c (.slc id)) [(i, .blob true (.hole oo s) ((j, id), xss)), (id, .row true s (xss.getD j []))] else .fail
      | _ => .fail
    | _, _ => .fail
  | .buildSlice t len parts => match P.underlying t with
    | some (.slice e) => if !(m == 5 && parts.size == len && decide (len ≤ 1000)) then .fail else match rowsB P e with
      | some s => (match innerL s F 0 (parts.toList.map fun (i, x) => (i, ev tm x)) with
        | some (yss, _, l) => .val (.c (.mp id)) (innerUps s false l ++ [(id, .blob true (.rows true false s) yss)])
        | none => .fail)
      | none => .fail
    | _ => .fail
  | _ => .fail
/-- The number of the row that a store goes to. -/
def storeId (o : Op) (tm : Nat → AVal) : Option Nat := match o with
  | .store _ a _ => (match ev tm a with | .c (.pel k _ _ _) => some k | _ => none)
  | _ => none
/-- Behind a store the inner row is put back where it was. -/
def backU (F : Nat → AObj) (p k : Nat) (u : List (Nat × AObj)) : Option (List (Nat × AObj)) := match u with
  | [(k', .row true s' ys)] => match F p with
    | .blob true (.hole oo s) d => if k' == k && d.1.2 == k && !(k == p) then (match castRow s s' ys with
      | some ys => some [(k, .dead), (p, .blob true (.rows oo true s) (d.2.set d.1.1 ys))]
      | none => none) else none
    | _ => none
  | _ => none
def backEff (F : Nat → AObj) (p : Nat) (k : Option Nat) (e : Eff) : Eff := match e, k with
  | .val v u, some k => (match backU F p k u with | some u' => .val v (u ++ u') | none => .fail)
  | _, _ => .fail

/-- Slices of an owned row, ars the printer asks: a look at it (1), or its head, which takes its place (2). -/
def effS (P : Program) (m : Nat) (o : Op) (tm : Nat → AVal) (F : Nat → AObj) (id : Nat) : Eff := match o with
  | .slice t x lo hi none => match P.underlying t, ev tm x with
    | some (.slice e), .c (.slc i) => match F i with
      | .row o s xs => if o && sizeB P e == some s.sz then (match sliceB xs.length (lo.map (ev tm)) (hi.map (ev tm)) with
        | some (b, l, h) => if m == 1 then .chk b (.c (.slv i l (h - l) s.sz)) [] else if l == 0 then .chk b (.c (.slc id)) [(i, .dead), (id, .row true s (xs.take h))] else .fail
        | none => .fail) else .fail
      | _ => .fail
    | _, _ => .fail
  | _ => .fail

/-! ### What an operation looks at in the objects, and how many numbers it takes -/
def idsOf : AVal → List Nat
  | .c (.slc i) => [i] | .c (.pel i _ _ _) => [i] | .c (.mp i) => [i] | .c (.slv i _ _ _) => [i] | _ => []
def rangeIds : Nat → Nat → List Nat
  | 0, _ => [] | n + 1, i => i :: rangeIds n (i + 1)
def ptrIds (n : Nat) : AVal → List Nat
  | .c (.ptr i _) => rangeIds n i | .c (.pel i _ _ _) => [i] | _ => []
def cellIds : List Cell → List Nat
  | [] => []
  | c :: cs => (match c with | .ptr i n => rangeIds n i | .slc i => [i] | .pel i _ _ _ => [i] | .clo _ l => l.flatMap (fun (i, n) => rangeIds n i) | .mp i => [i] | _ => []) ++ cellIds cs
def objIds (F : Nat → AObj) : List Nat → List Nat
  | [] => [] | i :: r => (match F i with | .cell _ _ _ c => cellIds [c] | _ => []) ++ objIds F r
/-- All objects that are reached from some, in so many steps. -/
def reach (F : Nat → AObj) : Nat → List Nat → List Nat
  | 0, l => l
  | n + 1, l => match objIds F l with
    | [] => l
    | l' => l ++ reach F n l'
def rds (P : Program) (o : Op) (tm : Nat → AVal) (F : Nat → AObj) : List Nat :=
  match o with
  | .load t a => ptrIds ((sizeB P t).getD 0) (ev tm a)
  | .store t a x => ptrIds ((sizeB P t).getD 0) (ev tm a) ++ (match ev tm a with | .c (.pel i _ _ _) => (match F i with | .blob .. => idsOf (ev tm x) | _ => []) | _ => [])
  | .buildSlice _ _ parts => parts.toList.flatMap fun x => idsOf (ev tm x.2)
  | .slice _ x _ _ _ | .indexAddr _ x _ | .convert _ _ x | .next x _ | .lookup _ x _ _ | .mapUpdate _ x _ _ => idsOf (ev tm x)
  | .call c => match c.callee with
    | .builtin _ => c.args.toList.flatMap fun x => idsOf (ev tm x)
    | .value f => reach F 3 (cellIds ((ev tm f).cells ++ c.args.toList.flatMap fun x => (ev tm x).cells))
    | _ => []
  | _ => []
def restr (l : List Nat) (F : Nat → AObj) (i : Nat) : AObj := if l.contains i then F i else .dead
end Go.Proofs.YtiaagflfiphioaaDoorS
