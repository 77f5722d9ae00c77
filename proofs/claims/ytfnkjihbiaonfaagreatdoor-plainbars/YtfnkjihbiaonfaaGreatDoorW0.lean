/-
  IDEAL SEMANTICS, 1: VALUES, MEMORY, THE CODE, ITS EVALUATOR. A deterministic reading of the model's code: values that are frozen are plain data (lists), what is written lies in a small heap with names of its own, frame-local variables lie in boxes named by their slots. Sound against the model by the texts behind this one.
-/
import Derived.Orders
import Derived.Laws.CopyRow
import Derived.Laws.AppendOwn
import Derived.Laws.Strings
import Derived.Laws.StructEq
import Derived.Lib.Strings
import Derived.ChangeKeysEq
import Derived.Laws.MakeOwn
namespace Go.Ideal

/-- plain data: what nobody writes any more -/
inductive PVal where
  | bool (b : Bool)
  | int (k : IntKind) (n : Int)
  | str (s : List UInt8)
  | slice (esz n : Nat) (cs : List PVal)
  | ptr (cs : List PVal)
  | func (f : FuncId)
  | nilptr | nilslice | nilmap | nilfunc | niliface

/-- where a writable block is: a frame's own variable, by its slot; a block of the heap -/
inductive Key where
  | box (s : Nat)
  | heap (i : Nat)
  deriving DecidableEq

inductive IVal where
  | p (v : PVal)
  | ptr (k : Key) (ver off : Nat)
  | slice (i : Nat) (ver off len : Nat)
  | map (i : Nat)
  | func (f : FuncId) (cap : List IVal)
  | agg (cs : List IVal)
  | tup (vs : List IVal)
  | undef
  /-- the pointer to the model's block n: an iterator -/
  | opq (n : Nat)
  /-- a slice without room behind it -/
  | clip (i ver off len : Nat)

inductive IBlk where
  | cells (cs : List IVal) (esz ver : Nat) (op : Bool)
  | map (es : List (IVal × IVal × Nat)) (clock : Nat)

/- equality, by program -/
mutual
def PVal.beq : PVal → PVal → Bool
  | .bool a, .bool b => a == b
  | .int k a, .int l b => decide (k = l) && decide (a = b)
  | .str a, .str b => decide (a = b)
  | .slice e n a, .slice f m b => Nat.beq e f && (Nat.beq n m && PVal.beqs a b)
  | .ptr a, .ptr b => PVal.beqs a b
  | .func a, .func b => Nat.beq a b
  | .nilptr, .nilptr | .nilslice, .nilslice | .nilmap, .nilmap | .nilfunc, .nilfunc | .niliface, .niliface => true
  | _, _ => false
def PVal.beqs : List PVal → List PVal → Bool
  | [], [] => true
  | a :: x, b :: y => PVal.beq a b && PVal.beqs x y
  | _, _ => false
end
mutual
def IVal.beq : IVal → IVal → Bool
  | .p a, .p b => PVal.beq a b
  | .ptr k v o, .ptr l w q => decide (k = l) && (Nat.beq v w && Nat.beq o q)
  | .slice k v o n, .slice l w q m => (Nat.beq k l && Nat.beq v w) && (Nat.beq o q && Nat.beq n m)
  | .map a, .map b => Nat.beq a b
  | .func f a, .func g b => Nat.beq f g && IVal.beqs a b
  | .agg a, .agg b => IVal.beqs a b
  | .tup a, .tup b => IVal.beqs a b
  | .undef, .undef => true
  | .opq a, .opq b => Nat.beq a b
  | .clip k v o n, .clip l w q m => (Nat.beq k l && Nat.beq v w) && (Nat.beq o q && Nat.beq n m)
  | _, _ => false
def IVal.beqs : List IVal → List IVal → Bool
  | [], [] => true
  | a :: x, b :: y => IVal.beq a b && IVal.beqs x y
  | _, _ => false
end
def entsBeq : List (IVal × IVal × Nat) → List (IVal × IVal × Nat) → Bool
  | [], [] => true
  | (k, v, n) :: x, (l, w, m) :: y => (IVal.beq k l && IVal.beq v w) && (Nat.beq n m && entsBeq x y)
  | _, _ => false
def IBlk.beq : IBlk → IBlk → Bool
  | .cells a e v o, .cells b f w q => (IVal.beqs a b && Nat.beq e f) && (Nat.beq v w && decide (o = q))
  | .map a c, .map b d => entsBeq a b && Nat.beq c d
  | _, _ => false
def heapBeq : List IBlk → List IBlk → Bool
  | [], [] => true
  | a :: x, b :: y => IBlk.beq a b && heapBeq x y
  | _, _ => false

/-- the memory of a frame: its boxes, the heap -/
structure Mem where
  boxes : List (Nat × IBlk)
  heap : List IBlk

def findBox : List (Nat × IBlk) → Nat → Option IBlk
  | [], _ => none
  | (s, b) :: r, t => match Nat.beq s t with | true => some b | false => findBox r t
def setBox : List (Nat × IBlk) → Nat → IBlk → List (Nat × IBlk)
  | [], _, _ => []
  | (s, b) :: r, t, c => match Nat.beq s t with | true => (s, c) :: r | false => (s, b) :: setBox r t c
def dropBox : List (Nat × IBlk) → Nat → List (Nat × IBlk)
  | [], _ => []
  | (s, b) :: r, t => match Nat.beq s t with | true => dropBox r t | false => (s, b) :: dropBox r t

def Mem.get (M : Mem) : Key → Option IBlk
  | .box s => findBox M.boxes s
  | .heap i => M.heap[i]?
def Mem.put (M : Mem) (k : Key) (b : IBlk) : Mem :=
  match k with
  | .box s => { M with boxes := setBox M.boxes s b }
  | .heap i => { M with heap := M.heap.set i b }

/-- a value that may lie in a cell -/
def IVal.cellOK : IVal → Bool
  | .p _ => true
  | .ptr (.heap _) _ _ => true
  | .slice .. => true
  | .map _ => true
  | .func .. => true
  | _ => false
def cellsOK : List IVal → Bool
  | [] => true
  | v :: r => match v.cellOK with | true => cellsOK r | false => false
/-- a value that may be handed to a function, and by it -/
def IVal.passOK : IVal → Bool
  | .agg _ => true
  | .tup _ => true
  | v => v.cellOK
def passesOK : List IVal → Bool
  | [] => true
  | v :: r => match v.passOK with | true => passesOK r | false => false
/-- the cells of a value that is stored -/
def IVal.cellsOf : IVal → Option (List IVal)
  | .agg cs => some cs
  | v => match v.cellOK with | true => some [v] | false => none
def pcells (l : List PVal) : List IVal := l.map .p

inductive Opd where
  | tmp (t : Nat)
  | const (v : IVal)
  | func (f : FuncId)

/-- scalars of a class, told apart by their bits -/
inductive Cls where
  | bool | int | str
structure KTy where
  ag : Bool
  cls : List Cls
inductive IOp where
  | mov (x : Opd)
  | pick (c a b : Opd)
  | alloc (s : Option Nat) (zero : List PVal)
  | box (s : Option Nat) (n : Nat) (x : Opd)
  | build (zero : List PVal) (parts : List (Nat × Nat × Opd))
  | buildSlice (esz n : Nat) (zero : List PVal) (parts : List (Nat × Nat × Opd))
  | load (n : Option Nat) (a : Opd)
  | store (n : Nat) (a x : Opd)
  | nilCheck (x : Opd)
  | fieldAddr (off : Nat) (x : Opd)
  | idxSlice (esz : Nat) (x i : Opd)
  | idxArr (len esz : Nat) (x i : Opd)
  | field (n : Option Nat) (off : Nat) (x : Opd)
  | idxVal (len esz : Nat) (n : Option Nat) (x i : Opd)
  | idxStr (x i : Opd)
  | sliceStr (x : Opd) (lo hi : Option Opd)
  | sliceSl (esz : Nat) (x : Opd) (lo hi : Option Opd)
  | bin (op : BinOp) (x y : Opd)
  | eqv (neg : Bool) (cls : KTy) (x y : Opd)
  | eqPtr (neg : Bool) (x y : Opd)
  | eqSl (neg : Bool) (x y : Opd)
  | not (x : Opd)
  | neg (x : Opd)
  | conv (dst : IntKind) (x : Opd)
  | extract (x : Opd) (i : Nat)
  | mkFunc (f : FuncId) (cap : List Opd)
  | len (x : Opd)
  | lenStr (x : Opd)
  | append (esz : Nat) (x y : Opd)
  | maxi (xs : List Opd)
  | mini (xs : List Opd)
  | mkMap
  | lookup (ok : Bool) (zero : IVal) (cls : KTy) (x k : Opd)
  | mapUpd (cls : KTy) (x k v : Opd)
  | mkSlice (esz : Nat) (zero : List PVal) (n c : Opd)
  | call (f : Opd) (args : List Opd)
  | allocA (zero : List PVal) (esz : Nat)
  | mapEnt (zero : IVal) (cls : KTy) (x k : Opd)
  | entSt (x s v : Opd)
  | sliceArr (len esz : Nat) (x : Opd) (lo hi : Option Opd)
  | copy (esz : Nat) (x y : Opd)
  | clip (esz : Nat) (x hi mx : Opd)
  | clear (zero : List PVal) (x : Opd)
  | del (cls : KTy) (x k : Opd)
  | first (x : Opd)
  | second (n : Opd)
  | still (x : Opd)

/-- an operation: where its value goes; by whose bool it is carried out; in a region that draws: which slots it reads stand in which operation's result -/
structure IOper where
  dst : Option Nat
  op : IOp
  guard : Option (Nat × Bool)
  sub : List (Nat × Nat)

structure Stage where
  qs : List Nat
  rc : List Nat
  e : Option Nat

inductive ICode where
  | skip
  | seq (a b : ICode)
  | cond (c : Opd) (a b : ICode)
  | block (id : Nat) (mask : List Bool) (c : ICode)
  | loop (mask : List Bool) (c : ICode)
  | exit (id : Nat)
  | ret
  | reg (fresh : List Nat) (ops : List IOper)
  | draw (fresh : List Nat) (ops : List IOper) (plans : List (List Stage))

inductive IRes where
  | tmp (t : Nat)
  | cell (t : Nat) (n : Option Nat)

structure IFun where
  np : Nat
  nt : Nat
  res : List IRes
  code : ICode
  pure : Bool

abbrev Oracle := FuncId → List IVal → List IBlk → Option (IVal × List IBlk)

/- OPERATIONS -/

def findSub : List (Nat × Nat) → Nat → Option Nat
  | [], _ => none
  | (s, j) :: r, t => match Nat.beq s t with | true => some j | false => findSub r t
/-- a slot's value: out of the frame, or of the region's results -/
def look (T R : List IVal) (sub : List (Nat × Nat)) (t : Nat) : IVal :=
  match findSub sub t with
  | some j => R.getD j .undef
  | none => T.getD t .undef
def evalOpd (T R : List IVal) (sub : List (Nat × Nat)) : Opd → IVal
  | .tmp t => look T R sub t
  | .const v => v
  | .func f => .p (.func f)

/-- so many cells from an address on -/
def readCells (M : Mem) (n : Nat) : IVal → Option (List IVal)
  | .p (.ptr cs) => match Nat.ble n cs.length with | true => some (pcells (cs.take n)) | false => none
  | .ptr k ver off => match M.get k with
    | some (.cells cs _ v _) => match Nat.beq ver v && Nat.ble (off + n) cs.length with | true => some ((cs.drop off).take n) | false => none
    | _ => none
  | _ => none

/-- the value at an address: of one cell, of so many -/
def loadVal (M : Mem) (n : Option Nat) (v : IVal) : Option IVal :=
  match n with
  | none => match readCells M 1 v with
    | some [x] => some x
    | _ => none
  | some n => match readCells M n v with
    | some cs => some (.agg cs)
    | none => none

def splice (cs : List IVal) (off : Nat) (new : List IVal) : List IVal := cs.take off ++ (new ++ cs.drop (off + new.length))

def writeCells (M : Mem) (a : IVal) (new : List IVal) : Option Mem :=
  match a with
  | .ptr k ver off => match M.get k with
    | some (.cells cs e v o) => match Nat.beq ver v && Nat.ble (off + new.length) cs.length with
      | true => some (M.put k (.cells (splice cs off new) e v o))
      | false => none
    | _ => none
  | _ => none

/-- the parts of a composite value laid over its zero cells -/
def fillParts (ρ : Opd → IVal) (cells : List IVal) : List (Nat × Nat × Opd) → Option (List IVal)
  | [] => some cells
  | (off, n, x) :: rest => match (ρ x).cellsOf with
    | some new => match Nat.beq new.length n && Nat.ble (off + n) cells.length with
      | true => fillParts ρ (splice cells off new) rest
      | false => none
    | none => none

def newBlk (M : Mem) (s : Option Nat) (b : IBlk) : Option (IVal × Mem) :=
  match s with
  | some s => match findBox M.boxes s with
    | none => some (.ptr (.box s) 0 0, { M with boxes := (s, b) :: M.boxes })
    | some _ => none
  | none => some (.ptr (.heap M.heap.length) 0 0, { M with heap := M.heap ++ [b] })

def repl (n : Nat) (zero : List PVal) : List IVal :=
  match n with
  | 0 => []
  | n + 1 => pcells zero ++ repl n zero

/-- an index: from 0 to just below n -/
def asIndex (n : Nat) : IVal → Option Nat
  | .p (.int _ i) => if 0 ≤ i ∧ i < (n : Int) then some i.toNat else none
  | _ => none

/-- a slice's bound: from 0 to n -/
def asBound (n : Nat) : IVal → Option Nat
  | .p (.int _ i) => if 0 ≤ i ∧ i ≤ (n : Int) then some i.toNat else none
  | _ => none
def boundLo (ρ : Opd → IVal) (h : Nat) : Option Opd → Option Nat
  | none => some 0
  | some x => asBound h (ρ x)
def boundHi (ρ : Opd → IVal) (n : Nat) : Option Opd → Option Nat
  | none => some n
  | some x => asBound n (ρ x)

def bytesLess : List UInt8 → List UInt8 → Bool
  | _, [] => false
  | [], _ :: _ => true
  | a :: x, b :: y => a < b || (a == b && bytesLess x y)

def intBin (op : BinOp) (k : IntKind) (x y : Int) : Option PVal :=
  match op with
  | .add => some (.int k (k.wrap (x + y)))
  | .sub => some (.int k (k.wrap (x - y)))
  | .mul => some (.int k (k.wrap (x * y)))
  | .quo => if y = 0 then none else some (.int k (k.wrap (x.tdiv y)))
  | .rem => if y = 0 then none else some (.int k (x.tmod y))
  | .eql => some (.bool (x == y))
  | .neq => some (.bool (x != y))
  | .lss => some (.bool (decide (x < y)))
  | .leq => some (.bool (decide (x ≤ y)))
  | .gtr => some (.bool (decide (x > y)))
  | .geq => some (.bool (decide (x ≥ y)))
  | .and => some (.int k (k.wrap (BitVec.ofInt k.bits x &&& BitVec.ofInt k.bits y).toNat))
  | .or => some (.int k (k.wrap (BitVec.ofInt k.bits x ||| BitVec.ofInt k.bits y).toNat))
  | .xor => some (.int k (k.wrap (BitVec.ofInt k.bits x ^^^ BitVec.ofInt k.bits y).toNat))
  | _ => none
def shiftBin (op : BinOp) (k : IntKind) (x y : Int) : Option PVal :=
  if y < 0 then none else
  match op with
  | .shl => some (.int k (k.wrap (x * 2 ^ (min y.toNat k.bits))))
  | .shr => some (.int k (x.fdiv (2 ^ (min y.toNat k.bits))))
  | _ => none
def strBin (op : BinOp) (x y : List UInt8) : Option PVal :=
  match op with
  | .add => if x.length + y.length ≤ 9223372036854775807 then some (.str (x ++ y)) else none
  | .eql => some (.bool (x == y))
  | .neq => some (.bool !(x == y))
  | .lss => some (.bool (bytesLess x y))
  | .leq => some (.bool (bytesLess x y || x == y))
  | .gtr => some (.bool !(bytesLess x y || x == y))
  | .geq => some (.bool !(bytesLess x y))
  | _ => none
def evalBin (op : BinOp) (a b : IVal) : Option PVal :=
  match a, b with
  | .p (.int k x), .p (.int l y) =>
    match op with
    | .shl | .shr => shiftBin op k x y
    | _ => if k = l then intBin op k x y else none
  | .p (.str x), .p (.str y) => strBin op x y
  | _, _ => none

def clsEq : Cls → PVal → PVal → Option Bool
  | .bool, .bool a, .bool b => some (a == b)
  | .int, .int k a, .int l b => if k = l then some (a == b) else none
  | .str, .str a, .str b => some (a == b)
  | _, _, _ => none
/-- cell by cell -/
def eqCls : List Cls → List IVal → List IVal → Option Bool
  | [], [], [] => some true
  | c :: cs, .p a :: x, .p b :: y => match clsEq c a b, eqCls cs x y with
    | some s, some t => some (s && t)
    | _, _ => none
  | _, _, _ => none
/-- values of such a type: of one cell, or of several -/
def eqVals (cls : KTy) : IVal → IVal → Option Bool
  | .agg x, .agg y => match cls.ag with
    | true => eqCls cls.cls x y
    | false => none
  | .p a, .p b => match cls.ag with
    | true => none
    | false => match cls.cls with
      | [c] => clsEq c a b
      | _ => none
  | _, _ => none
/-- pointers, slices: against nil -/
def evalNilPtr (a b : IVal) : Option Bool :=
  match a, b with
  | .p .nilptr, .p .nilptr => some true
  | .p .nilptr, .p (.ptr _) => some false
  | .p .nilptr, .ptr _ _ _ => some false
  | .p (.ptr _), .p .nilptr => some false
  | .ptr _ _ _, .p .nilptr => some false
  | _, _ => none
def evalNilSl (a b : IVal) : Option Bool :=
  match a, b with
  | .p .nilslice, .p .nilslice => some true
  | .p .nilslice, .p (.slice _ _ _) => some false
  | .p .nilslice, .slice _ _ _ _ => some false
  | .p (.slice _ _ _), .p .nilslice => some false
  | .slice _ _ _ _, .p .nilslice => some false
  | _, _ => none
def negIf (neg b : Bool) : Bool := if neg then !b else b
def sayBool (M : Mem) (neg : Bool) : Option Bool → Option (IVal × Mem)
  | some b => some (.p (.bool (negIf neg b)), M)
  | none => none

def sliceLen : IVal → Option Nat
  | .p .nilslice => some 0
  | .p (.slice _ n _) => some n
  | .slice _ _ _ n => some n
  | _ => none
def srcLen : IVal → Option Nat
  | .p (.str s) => some s.length
  | v => sliceLen v

/-- the cells of what is appended: of slices whose elements have that size; a string's bytes -/
def srcCells (M : Mem) (esz : Nat) : IVal → Option (List IVal)
  | .p .nilslice => some []
  | .p (.slice e _ cs) => match Nat.beq e esz with | true => some (pcells cs) | false => none
  | .p (.str s) => match Nat.beq 1 esz with | true => some (s.map fun b => .p (.int .u8 b.toNat)) | false => none
  | .slice k ver off n => match M.get (.heap k) with
    | some (.cells cs e v _) => match (Nat.beq ver v && Nat.beq e esz) && Nat.ble (off + n * esz) cs.length with
      | true => some ((cs.drop off).take (n * esz))
      | false => none
    | _ => none
  | _ => none

def maxAppend : Nat := 4294967296

def evalAppend0 (M : Mem) (esz : Nat) (x y : IVal) : Option (IVal × Mem) :=
  match srcCells M esz y, sliceLen x, srcLen y with
  | some ys, some nx, some ny =>
    match Nat.ble (nx + ny) maxAppend with
    | false => none
    | true =>
      match x with
      | .p .nilslice => match Nat.beq ny 0 with
        | true => some (x, M)
        | false => some (.slice M.heap.length 0 0 ny, { M with heap := M.heap ++ [.cells ys esz 0 true] })
      | .slice k ver off n => match M.get (.heap k) with
        | some (.cells cs e v o) => match (Nat.beq ver v && Nat.beq e esz) && Nat.ble (off + n * esz) cs.length with
          | false => none
          | true => match Nat.beq ny 0 with
            | true => some (x, M)
            | false => match Nat.ble (off + (n + ny) * esz) cs.length with
              | true => some (.slice k ver off (n + ny), M.put (.heap k) (.cells (splice cs (off + n * esz) ys) e v o))
              | false => some (.slice k (v + 1) 0 (n + ny), M.put (.heap k) (.cells ((cs.drop off).take (n * esz) ++ ys) e (v + 1) true))
        | _ => none
      | _ => none
  | _, _, _ => none

def evalAppend (M : Mem) (esz : Nat) (x y : IVal) : Option (IVal × Mem) :=
  match x with
  | .clip k ver off n => match srcCells M esz y, srcLen y with
    | some ys, some ny => match Nat.ble (n + ny) maxAppend && !(Nat.beq ny 0) with
      | true => match M.get (.heap k) with
        | some (.cells cs e v _) => match (Nat.beq ver v && Nat.beq e esz) && Nat.ble (off + n * esz) cs.length with
          | true => some (.slice M.heap.length 0 0 (n + ny), { M with heap := M.heap ++ [.cells ((cs.drop off).take (n * esz) ++ ys) esz 0 true] })
          | false => none
        | _ => none
      | false => none
    | _, _ => none
  | x => evalAppend0 M esz x y

def findEnt (cls : KTy) (k : IVal) : List (IVal × IVal × Nat) → Nat → Option (Option (Nat × IVal))
  | [], _ => some none
  | (l, v, _) :: r, i => match eqVals cls k l with
    | some true => some (some (i, v))
    | some false => findEnt cls k r (i + 1)
    | none => none
/-- is it a key of such a type? -/
def isKey (cls : KTy) (k : IVal) : Bool :=
  match eqVals cls k k with
  | some _ => true
  | none => false

/-- what a look-up says -/
def lookRes (M : Mem) (ok : Bool) (v : IVal) (b : Bool) : Option (IVal × Mem) :=
  if ok then some (.tup [v, .p (.bool b)], M) else some (v, M)

/-- when an entry was laid -/
def bornAt (es : List (IVal × IVal × Nat)) (j : Nat) : Nat := ((es[j]?).map fun e => e.2.2).getD 0
/-- the first entry that was laid then -/
def findBorn (b : Int) : List (IVal × IVal × Nat) → Nat → Option Nat
  | [], _ => none
  | (_, _, n) :: r, i => match decide ((n : Int) = b) with | true => some i | false => findBorn b r (i + 1)
/-- so many elements of it, of its bytes -/
def takeVal (esz m : Nat) : IVal → IVal
  | .p (.slice e _ cs) => .p (.slice e m (cs.take (m * esz)))
  | .p (.str s) => .p (.str (s.take m))
  | .slice k v o _ => .slice k v o m
  | v => v
def evalCopy (M : Mem) (esz : Nat) (x y : IVal) : Option (IVal × Mem) :=
  match x, srcLen y with
  | .slice k ver off n, some ny => match srcCells M esz (takeVal esz (min ny n) y) with
    | some ys => match Nat.beq (min ny n) 0 with
      | true => some (.p (.int .i64 0), M)
      | false => match writeCells M (.ptr (.heap k) ver off) ys with
        | some M' => some (.p (.int .i64 (min ny n : Nat)), M')
        | none => none
    | none => none
  | _, _ => none
def evalExt (a : Int) (y : Bool) (l : List IVal) : Option Int :=
  match l with
  | [] => some a
  | .p (.int .i64 n) :: r => evalExt (if y then (if n > a then n else a) else (if n < a then n else a)) y r
  | _ => none

def evalOp (C : Oracle) (ρ : Opd → IVal) (M : Mem) : IOp → Option (IVal × Mem)
  | .mov x => some (ρ x, M)
  | .pick c a b => match ρ c with
    | .p (.bool true) => some (ρ a, M)
    | .p (.bool false) => some (ρ b, M)
    | _ => none
  | .alloc s zero => newBlk M s (.cells (pcells zero) zero.length 0 false)
  | .box s n x => match (ρ x).cellsOf with
    | some cs => match Nat.beq cs.length n with
      | true => newBlk M s (.cells cs n 0 false)
      | false => none
    | none => none
  | .build zero parts => match fillParts ρ (pcells zero) parts with
    | some cs => some (.agg cs, M)
    | none => none
  | .buildSlice esz n zero parts => match fillParts ρ (repl n zero) parts with
    | some cs => some (.slice M.heap.length 0 0 n, { M with heap := M.heap ++ [.cells cs esz 0 false] })
    | none => none
  | .load n a => match loadVal M n (ρ a) with
    | some v => some (v, M)
    | none => none
  | .store n a x => match (ρ x).cellsOf with
    | some cs => match Nat.beq cs.length n with
      | true => match writeCells M (ρ a) cs with
        | some M' => some (.tup [], M')
        | none => none
      | false => none
    | none => none
  | .nilCheck x => match ρ x with
    | .p (.ptr cs) => some (.p (.ptr cs), M)
    | .ptr k v o => some (.ptr k v o, M)
    | .func f cap => some (.func f cap, M)
    | .p (.func f) => some (.p (.func f), M)
    | _ => none
  | .fieldAddr off x => match ρ x with
    | .p (.ptr cs) => match Nat.ble off cs.length with
      | true => some (.p (.ptr (cs.drop off)), M)
      | false => none
    | .ptr k v o => some (.ptr k v (o + off), M)
    | _ => none
  | .idxSlice esz x i => match ρ x with
    | .p (.slice e n cs) => match Nat.beq e esz, asIndex n (ρ i) with
      | true, some j => some (.p (.ptr (cs.drop (j * esz))), M)
      | _, _ => none
    | .slice k v o n => match asIndex n (ρ i) with
      | some j => some (.ptr (.heap k) v (o + j * esz), M)
      | none => none
    | _ => none
  | .idxArr len esz x i => match asIndex len (ρ i) with
    | some j => match ρ x with
      | .p (.ptr cs) => match Nat.ble (j * esz) cs.length with
        | true => some (.p (.ptr (cs.drop (j * esz))), M)
        | false => none
      | .ptr k v o => some (.ptr k v (o + j * esz), M)
      | _ => none
    | none => none
  | .field n off x => match ρ x with
    | .agg cs => match n with
      | none => match cs[off]? with
        | some v => some (v, M)
        | none => none
      | some n => match Nat.ble (off + n) cs.length with
        | true => some (.agg ((cs.drop off).take n), M)
        | false => none
    | _ => none
  | .idxVal len esz n x i => match ρ x, asIndex len (ρ i) with
    | .agg cs, some j => match n with
      | none => match cs[j * esz]? with
        | some v => some (v, M)
        | none => none
      | some n => match Nat.ble (j * esz + n) cs.length with
        | true => some (.agg ((cs.drop (j * esz)).take n), M)
        | false => none
    | _, _ => none
  | .idxStr x i => match ρ x with
    | .p (.str s) => match asIndex s.length (ρ i) with
      | some j => match s[j]? with
        | some b => some (.p (.int .u8 b.toNat), M)
        | none => none
      | none => none
    | _ => none
  | .sliceStr x lo hi => match ρ x with
    | .p (.str s) => match boundHi ρ s.length hi with
      | some h => match boundLo ρ h lo with
        | some l => some (.p (.str ((s.drop l).take (h - l))), M)
        | none => none
      | none => none
    | _ => none
  | .sliceSl esz x lo hi => match ρ x with
    | .p .nilslice => match boundHi ρ 0 hi with
      | some h => match boundLo ρ h lo with
        | some _ => some (.p .nilslice, M)
        | none => none
      | none => none
    | .p (.slice e n cs) => match Nat.beq e esz, boundHi ρ n hi with
      | true, some h => match boundLo ρ h lo with
        | some l => some (.p (.slice esz (h - l) ((cs.drop (l * esz)).take ((h - l) * esz))), M)
        | none => none
      | _, _ => none
    | .slice k v o n => match boundHi ρ n hi with
      | some h => match boundLo ρ h lo with
        | some l => match M.get (.heap k) with
          | some (.cells _ e w _) => match Nat.beq e esz && Nat.beq v w with
            | true => some (.slice k v (o + l * esz) (h - l), M)
            | false => none
          | _ => none
        | none => none
      | none => none
    | _ => none
  | .bin op x y => match evalBin op (ρ x) (ρ y) with
    | some v => some (.p v, M)
    | none => none
  | .eqv neg cls x y => sayBool M neg (eqVals cls (ρ x) (ρ y))
  | .eqPtr neg x y => sayBool M neg (evalNilPtr (ρ x) (ρ y))
  | .eqSl neg x y => sayBool M neg (evalNilSl (ρ x) (ρ y))
  | .not x => match ρ x with
    | .p (.bool b) => some (.p (.bool !b), M)
    | _ => none
  | .neg x => match ρ x with
    | .p (.int k n) => some (.p (.int k (k.wrap (0 - n))), M)
    | _ => none
  | .conv dst x => match ρ x with
    | .p (.int _ n) => some (.p (.int dst (dst.wrap n)), M)
    | _ => none
  | .extract x i => match ρ x with
    | .tup vs => match vs[i]? with
      | some v => some (v, M)
      | none => none
    | _ => none
  | .mkFunc f cap => match cellsOK (cap.map ρ) with
    | true => some (.func f (cap.map ρ), M)
    | false => none
  | .len x => match sliceLen (ρ x) with
    | some n => some (.p (.int .i64 n), M)
    | none => none
  | .lenStr x => match ρ x with
    | .p (.str s) => some (.p (.int .i64 s.length), M)
    | _ => none
  | .append esz x y => evalAppend M esz (ρ x) (ρ y)
  | .maxi xs => match xs.map ρ with
    | .p (.int .i64 n) :: r => match evalExt n true r with
      | some m => some (.p (.int .i64 m), M)
      | none => none
    | _ => none
  | .mini xs => match xs.map ρ with
    | .p (.int .i64 n) :: r => match evalExt n false r with
      | some m => some (.p (.int .i64 m), M)
      | none => none
    | _ => none
  | .mkMap => some (.map M.heap.length, { M with heap := M.heap ++ [.map [] 0] })
  | .lookup ok zero cls x k => match isKey cls (ρ k) with
    | true => match ρ x with
      | .p .nilmap => lookRes M ok zero false
      | .map i => match M.get (.heap i) with
        | some (.map es _) => match findEnt cls (ρ k) es 0 with
          | some (some (_, v)) => lookRes M ok v true
          | some none => lookRes M ok zero false
          | none => none
        | _ => none
      | _ => none
    | false => none
  | .mapUpd cls x k v => match isKey cls (ρ k), (ρ v).passOK with
    | true, true => match ρ x with
      | .map i => match M.get (.heap i) with
        | some (.map es clock) => match findEnt cls (ρ k) es 0 with
          | some (some (j, _)) => some (.tup [], M.put (.heap i) (.map (es.modify j fun e => (ρ k, ρ v, e.2.2)) clock))
          | some none => some (.tup [], M.put (.heap i) (.map (es ++ [(ρ k, ρ v, clock)]) (clock + 1)))
          | none => none
        | _ => none
      | _ => none
    | _, _ => none
  | .mkSlice esz zero n c => match ρ n, ρ c with
    | .p (.int .i64 a), .p (.int .i64 b) =>
      if 0 ≤ a ∧ a ≤ b ∧ b ≤ 4294967296 then
        some (.slice M.heap.length 0 0 a.toNat, { M with heap := M.heap ++ [.cells (repl b.toNat zero) esz 0 false] })
      else none
    | _, _ => none
  | .call f args => match passesOK (args.map ρ) with
    | false => none
    | true => match ρ f with
      | .p (.func g) => match C g (args.map ρ) M.heap with
        | some (v, H) => some (v, { M with heap := H })
        | none => none
      | .func g cap => match C g (args.map ρ ++ cap) M.heap with
        | some (v, H) => some (v, { M with heap := H })
        | none => none
      | _ => none
  | .allocA zero e => newBlk M none (.cells (pcells zero) e 0 false)
  | .mapEnt zero cls x k => match isKey cls (ρ k) with
    | true => match ρ x with
      | .map i => match M.get (.heap i) with
        | some (.map es clock) => match findEnt cls (ρ k) es 0 with
          | some (some (j, v)) => some (.tup [v, .p (.int .i64 (bornAt es j))], M.put (.heap i) (.map (es.modify j fun e => (ρ k, e.2.1, e.2.2)) clock))
          | some none => some (.tup [zero, .p (.int .i64 clock)], M.put (.heap i) (.map (es ++ [(ρ k, zero, clock)]) (clock + 1)))
          | none => none
        | _ => none
      | _ => none
    | false => none
  | .entSt x s v => match (ρ v).passOK, ρ x, ρ s with
    | true, .map i, .p (.int .i64 b) => match M.get (.heap i) with
      | some (.map es clock) => match findBorn b es 0 with
        | some j => some (.tup [], M.put (.heap i) (.map (es.modify j fun e => (e.1, ρ v, e.2.2)) clock))
        | none => none
      | _ => none
    | _, _, _ => none
  | .sliceArr len esz x lo hi => match ρ x with
    | .ptr (.heap k) v o => match boundHi ρ len hi with
      | some h => match boundLo ρ h lo with
        | some l => match M.get (.heap k) with
          | some (.cells cs e w op) => match (Nat.beq e esz && Nat.beq v w) && (Nat.beq (o + len * esz) cs.length && !op) with
            | true => some (.slice k v (o + l * esz) (h - l), M)
            | false => none
          | _ => none
        | none => none
      | none => none
    | _ => none
  | .copy esz x y => evalCopy M esz (ρ x) (ρ y)
  | .clip esz x hi mx => match ρ x with
    | .p .nilslice => match asBound 0 (ρ mx), asBound 0 (ρ hi) with
      | some _, some _ => some (.p .nilslice, M)
      | _, _ => none
    | .slice k v o n => match asBound n (ρ mx) with
      | some m => match asBound m (ρ hi) with
        | some h => match M.get (.heap k) with
          | some (.cells _ e w _) => match Nat.beq h m && (Nat.beq e esz && Nat.beq v w) with
            | true => some (.clip k v o h, M)
            | false => none
          | _ => none
        | none => none
      | none => none
    | _ => none
  | .clear zero x => match ρ x with
    | .p .nilslice => some (.tup [], M)
    | .slice k ver off n => match Nat.beq n 0 with
      | true => some (.tup [], M)
      | false => match writeCells M (.ptr (.heap k) ver off) (repl n zero) with
        | some M' => some (.tup [], M')
        | none => none
    | _ => none
  | .del cls x k => match isKey cls (ρ k) with
    | true => match ρ x with
      | .p .nilmap => some (.tup [], M)
      | .map i => match M.get (.heap i) with
        | some (.map es clock) => match findEnt cls (ρ k) es 0 with
          | some (some (j, _)) => some (.tup [], M.put (.heap i) (.map (es.eraseIdx j) clock))
          | some none => some (.tup [], M.put (.heap i) (.map es clock))
          | none => none
        | _ => none
      | _ => none
    | false => none
  | .first x => match ρ x with
    | .map i => match M.get (.heap i) with
      | some (.map es ck) => match es with
        | [] => some (.tup [.p (.bool false), .undef, .undef], M)
        | (k, v, s) :: r => match r with
          | [] => match Nat.beq s 0 && Nat.beq ck 1 with
            | true => some (.tup [.p (.bool true), k, v], M)
            | false => none
          | _ => none
      | _ => none
    | _ => none
  | .second n => match ρ n with
    | .tup [_, k, v] => some (.tup [k, v], M)
    | _ => none
  | .still x => match ρ x with
    | .map i => match M.get (.heap i) with
      | some (.map es ck) => match es with
        | [] => none
        | (_, _, s) :: r => match r with
          | [] => match Nat.beq s 0 && Nat.beq ck 1 with
            | true => some (.tup [], M)
            | false => none
          | _ => none
      | _ => none
    | _ => none

/- REGIONS -/

def killV (s : Nat) (v : IVal) : IVal :=
  match v with
  | .ptr (.box t) ver off => match Nat.beq s t with | true => .undef | false => .ptr (.box t) ver off
  | v => v
def kill (s : Nat) (T : List IVal) : List IVal := T.map (killV s)

structure St where
  T : List IVal
  M : Mem

/-- the boxes that a region lays are gone before it begins -/
def freshen (S : St) : List Nat → St
  | [] => S
  | s :: r => match findBox S.M.boxes s with
    | none => freshen S r
    | some _ => freshen ⟨kill s S.T, { S.M with boxes := dropBox S.M.boxes s }⟩ r

/-- is an operation carried out? none: it can't be told -/
def wantedI (T R : List IVal) (sub : List (Nat × Nat)) : Option (Nat × Bool) → Option Bool
  | none => some true
  | some (x, want) => match look T R sub x with
    | .p (.bool b) => some (b == want)
    | .tup [] => some false
    | _ => none

def putDst (T : List IVal) (d : Option Nat) (v : IVal) : List IVal :=
  match d with
  | some d => T.set d v
  | none => T

def skipped : IVal := .tup []

/-- one behind the other -/
def evalReg (C : Oracle) (S : St) : List IOper → Option St
  | [] => some S
  | o :: r => match wantedI S.T [] [] o.guard with
    | none => none
    | some false => evalReg C ⟨putDst S.T o.dst skipped, S.M⟩ r
    | some true => match evalOp C (evalOpd S.T [] []) S.M o.op with
      | some (v, M) => evalReg C ⟨putDst S.T o.dst v, M⟩ r
      | none => none

/-- one operation of a region that draws -/
def evalAt (C : Oracle) (ops : List IOper) (T R : List IVal) (M : Mem) (i : Nat) : Option (List IVal × Mem) :=
  match ops[i]? with
  | none => none
  | some o => match wantedI T R o.sub o.guard with
    | none => none
    | some false => some (R.set i skipped, M)
    | some true => match evalOp C (evalOpd T R o.sub) M o.op with
      | some (v, M') => some (R.set i v, M')
      | none => none
def evalQs (C : Oracle) (ops : List IOper) (T : List IVal) : List IVal → Mem → List Nat → Option (List IVal × Mem)
  | R, M, [] => some (R, M)
  | R, M, i :: r => match evalAt C ops T R M i with
    | some (R', M') => evalQs C ops T R' M' r
    | none => none

/-- what a new block of an operation holds -/
def contentOf (ρ : Opd → IVal) : IOp → Option IBlk
  | .alloc _ zero => some (.cells (pcells zero) zero.length 0 false)
  | .allocA zero e => some (.cells (pcells zero) e 0 false)
  | .box _ n x => match (ρ x).cellsOf with
    | some cs => some (.cells cs n 0 false)
    | none => none
  | .buildSlice esz n zero parts => match fillParts ρ (repl n zero) parts with
    | some cs => some (.cells cs esz 0 false)
    | none => none
  | .mkMap => some (.map [] 0)
  | .mkSlice esz zero _ c => match ρ c with
    | .p (.int .i64 b) => some (.cells (repl b.toNat zero) esz 0 false)
    | _ => none
  | _ => none
def isAlloc : IOp → Bool
  | .alloc .. | .allocA .. | .box .. | .buildSlice .. | .mkMap | .mkSlice .. => true
  | _ => false
def isEff : IOp → Bool
  | .store .. | .append .. | .mapUpd .. | .mapEnt .. | .entSt .. | .copy .. | .clear .. | .del .. | .first .. | .still .. | .call .. => true
  | _ => false
def isRead : IOp → Bool
  | .load .. | .lookup .. | .sliceSl .. | .sliceArr .. | .clip .. => true
  | _ => false
def keyOf : IVal → Option Key
  | .ptr k _ _ => some k
  | .slice i _ _ _ => some (.heap i)
  | .map i => some (.heap i)
  | _ => none

/-- does an operation that was carried out earlier still say the same? -/
def recheck (C : Oracle) (ops : List IOper) (T R : List IVal) (M : Mem) (i : Nat) : Bool :=
  match ops[i]? with
  | none => false
  | some o => match wantedI T R o.sub o.guard with
    | none => false
    | some false => true
    | some true => match isAlloc o.op with
      | true => match contentOf (evalOpd T R o.sub) o.op, keyOf (R.getD i .undef) with
        | some b, some k => match M.get k with
          | some c => IBlk.beq b c
          | none => false
        | _, _ => false
      | false => match evalOp C (evalOpd T R o.sub) M o.op with
        | some (v, _) => IVal.beq v (R.getD i .undef)
        | none => false
def rechecks (C : Oracle) (ops : List IOper) (T R : List IVal) (M : Mem) : List Nat → Bool
  | [] => true
  | i :: r => match recheck C ops T R M i with | true => rechecks C ops T R M r | false => false

def evalPlan (C : Oracle) (ops : List IOper) (T : List IVal) : List IVal → Mem → List Stage → Option (List IVal × Mem)
  | R, M, [] => some (R, M)
  | R, M, g :: r => match evalQs C ops T R M g.qs with
    | none => none
    | some (R, M) => match rechecks C ops T R M g.rc with
      | false => none
      | true => match g.e with
        | none => evalPlan C ops T R M r
        | some i => match evalAt C ops T R M i with
          | some (R, M) => evalPlan C ops T R M r
          | none => none

def noRes : List IOper → List IVal
  | [] => []
  | _ :: r => .undef :: noRes r
def putAll (T : List IVal) : List IOper → List IVal → List IVal
  | o :: r, v :: vs => putAll (putDst T o.dst v) r vs
  | _, _ => T

def boxesBeq : List (Nat × IBlk) → List (Nat × IBlk) → Bool
  | [], [] => true
  | (s, a) :: x, (t, b) :: y => (Nat.beq s t && IBlk.beq a b) && boxesBeq x y
  | _, _ => false

/-- every plan comes to the same -/
def evalPlans (C : Oracle) (ops : List IOper) (S : St) : List (List Stage) → Option (List IVal × Mem)
  | [] => none
  | [g] => evalPlan C ops S.T (noRes ops) S.M g
  | g :: r => match evalPlan C ops S.T (noRes ops) S.M g, evalPlans C ops S r with
    | some (R, M), some (R', M') => match IVal.beqs R R' && (boxesBeq M.boxes M'.boxes && heapBeq M.heap M'.heap) with
      | true => some (R, M)
      | false => none
    | _, _ => none

def dstsFit (n : Nat) : List IOper → Bool
  | [] => true
  | o :: r => match o.dst with
    | some d => match Nat.blt d n with | true => dstsFit n r | false => false
    | none => dstsFit n r

def evalDraw (C : Oracle) (ops : List IOper) (plans : List (List Stage)) (S : St) : Option St :=
  match dstsFit S.T.length ops with
  | false => none
  | true => match evalPlans C ops S plans with
    | some (R, M) => some ⟨putAll S.T ops R, M⟩
    | none => none

/- CODE -/

inductive IExit where
  | normal
  | exit (id : Nat)
  | ret

abbrev Looper := (St → Option (IExit × St)) → St → Option (IExit × St)

/-- what a round begins with: of the slots those that are still looked at -/
def maskT : List Bool → List IVal → List IVal
  | true :: m, v :: T => v :: maskT m T
  | false :: m, _ :: T => .undef :: maskT m T
  | [], T => T
  | _ :: _, [] => []

def evalCode (C : Oracle) (L : Looper) : ICode → St → Option (IExit × St)
  | .skip, S => some (.normal, S)
  | .seq a b, S => match evalCode C L a S with
    | some (.normal, S') => evalCode C L b S'
    | r => r
  | .cond c a b, S => match evalOpd S.T [] [] c with
    | .p (.bool true) => evalCode C L a S
    | .p (.bool false) => evalCode C L b S
    | _ => none
  | .block id m c, S => match evalCode C L c S with
    | some (.exit i, S') => match Nat.beq i id with
      | true => some (.normal, ⟨maskT m S'.T, S'.M⟩)
      | false => some (.exit i, S')
    | r => r
  | .loop m c, S => L (fun S => evalCode C L c ⟨maskT m S.T, S.M⟩) S
  | .exit id, S => some (.exit id, S)
  | .ret, S => some (.ret, S)
  | .reg fresh ops, S => match evalReg C (freshen S fresh) ops with
    | some S' => some (.normal, S')
    | none => none
  | .draw fresh ops plans, S => match evalDraw C ops plans (freshen S fresh) with
    | some S' => some (.normal, S')
    | none => none

/-- at most n rounds -/
def loopN : Nat → Looper
  | 0, _, _ => none
  | n + 1, f, S => match f S with
    | some (.normal, S') => loopN n f S'
    | r => r

/- CALLS -/

def oneRes (S : St) : IRes → Option IVal
  | .tmp t => some (S.T.getD t .undef)
  | .cell t n => loadVal S.M n (S.T.getD t .undef)
def allRes (S : St) : List IRes → Option (List IVal)
  | [] => some []
  | r :: rs => match oneRes S r, allRes S rs with
    | some v, some vs => some (v :: vs)
    | _, _ => none
def results (S : St) (l : List IRes) : Option IVal :=
  match allRes S l with
  | some [v] => match v.passOK with | true => some v | false => none
  | some vs => match passesOK vs with | true => some (.tup vs) | false => none
  | none => none

def runBody (C : Oracle) (L : Looper) (F : IFun) (args : List IVal) (H : List IBlk) : Option (IVal × List IBlk) :=
  match Nat.beq args.length F.np with
  | false => none
  | true => match evalCode C L F.code ⟨args ++ List.replicate (F.nt - args.length) skipped, ⟨[], H⟩⟩ with
    | some (.normal, S) => match results S F.res with
      | some v => some (v, S.M.heap)
      | none => none
    | some (.ret, S) => match results S F.res with
      | some v => some (v, S.M.heap)
      | none => none
    | _ => none

/- what is handed to a pure function, and by it, is plain data -/
def freezeList (g : IVal → Option PVal) : List IVal → Option (List PVal)
  | [] => some []
  | v :: r => match g v, freezeList g r with
    | some x, some l => some (x :: l)
    | _, _ => none
def freezeCell (H : List IBlk) : Nat → IVal → Option PVal
  | 0, _ => none
  | n + 1, v => match v with
    | .p v => some v
    | .slice k ver off len => match H[k]? with
      | some (.cells cs e w _) => match Nat.beq ver w && Nat.ble (off + len * e) cs.length with
        | true => match freezeList (freezeCell H n) ((cs.drop off).take (len * e)) with
          | some l => some (.slice e len l)
          | none => none
        | false => none
      | _ => none
    | _ => none
def freezeOne (H : List IBlk) (v : IVal) : Option IVal :=
  match v with
  | .agg cs => match freezeList (freezeCell H 100) cs with
    | some l => some (.agg (pcells l))
    | none => none
  | v => match freezeCell H 100 v with
    | some x => some (.p x)
    | none => none
def freezeAll (H : List IBlk) : List IVal → Option (List IVal)
  | [] => some []
  | v :: r => match freezeOne H v, freezeAll H r with
    | some x, some l => some (x :: l)
    | _, _ => none
def freezeRes (H : List IBlk) (v : IVal) : Option IVal :=
  match v with
  | .tup vs => match freezeAll H vs with
    | some l => some (.tup l)
    | none => none
  | v => freezeOne H v
def cellsPlain : List IVal → Bool
  | [] => true
  | .p _ :: r => cellsPlain r
  | _ :: _ => false
def plainArg : IVal → Bool
  | .p _ => true
  | .agg cs => cellsPlain cs
  | _ => false
def plainArgs : List IVal → Bool
  | [] => true
  | v :: r => match plainArg v with | true => plainArgs r | false => false
def scalCell : IVal → Bool
  | .p (.bool _) | .p (.int _ _) | .p (.str _) => true
  | _ => false
def scalCells : List IVal → Bool
  | [] => true
  | v :: r => match scalCell v with | true => scalCells r | false => false
def scalOne : IVal → Bool
  | .agg cs => scalCells cs
  | v => scalCell v
def scalRes : IVal → Bool
  | .tup vs => vs.all scalOne
  | v => scalOne v

/-- what comes out of a call is all new: no data that was handed in is in it -/
def freshCells (g : IVal → Bool) : List IVal → Bool
  | [] => true
  | v :: r => match g v with | true => freshCells g r | false => false
def freshCell (H : List IBlk) : Nat → IVal → Bool
  | 0, _ => false
  | n + 1, v => match v with
    | .p (.bool _) | .p (.int _ _) | .p (.str _) | .p .nilslice | .p .nilptr => true
    | .slice k _ off len => match H[k]? with
      | some (.cells cs e _ _) => freshCells (freshCell H n) ((cs.drop off).take (len * e))
      | _ => false
    | _ => false
def freshOne (H : List IBlk) : IVal → Bool
  | .agg cs => freshCells (freshCell H 100) cs
  | v => freshCell H 100 v
def freshRes (H : List IBlk) : IVal → Bool
  | .tup vs => freshCells (freshOne H) vs
  | v => freshOne H v

abbrev Prog := FuncId → Option IFun

def callBody (Γ : Prog) (C : Oracle) (L : Looper) (f : FuncId) (args : List IVal) (H : List IBlk) : Option (IVal × List IBlk) :=
  match Γ f with
  | none => none
  | some F => match F.pure with
    | false => runBody C L F args H
    | true => match freezeAll H args with
      | none => runBody C L F args H
      | some as => match runBody C L F as [] with
        | none => none
        | some (v, H') => match freezeRes H' v with
          | none => none
          | some r => match plainArgs args || (scalRes r || freshRes H' v) with
            | true => some (r, H)
            | false => runBody C L F args H

/-- a call, its depth and its loops' rounds bounded -/
def icall (Γ : Prog) : Nat → Oracle
  | 0 => fun _ _ _ => none
  | n + 1 => callBody Γ (icall Γ n) (loopN n)

end Go.Ideal

/-
  IDEAL SEMANTICS, 2: HOW THE IDEAL VALUES AND MEMORY STAND FOR THE MODEL's.
-/
namespace Go.Ideal
open Go

abbrev Cells := Nat → Nat → Option Value

mutual
/-- plain data stand for a value; 'z': the cells that nobody writes any more -/
def PRel (z : Cells) : PVal → Value → Prop
  | .bool b, r => r = .bool b
  | .int k n, r => r = .int k n
  | .str s, r => r = .string ⟨s.toArray⟩
  | .slice esz n cs, r => ∃ a cap, r = .slice (some a) n cap ∧ n ≤ cap ∧ cs.length = n * esz ∧ (n = 0 ∨ ∃ b o, a = ⟨b, o, none⟩ ∧ PCells z b o cs)
  | .ptr cs, r => ∃ b o, r = .pointer (some ⟨b, o, none⟩) ∧ PCells z b o cs
  | .func f, r => r = .func (.func f) #[] #[]
  | .nilptr, r => r = .pointer none
  | .nilslice, r => r = .slice none 0 0
  | .nilmap, r => r = .map none
  | .nilfunc, r => r = .nilFunc
  | .niliface, r => r = .nilIface
def PCells (z : Cells) (b : Nat) : Nat → List PVal → Prop
  | _, [] => True
  | o, v :: vs => (∃ r, z b o = some r ∧ PRel z v r) ∧ PCells z b (o + 1) vs
end

/-- the package variables that are tables nobody writes: their cells -/
class Tabs where
  t : Nat → Option (List PVal)
set_option linter.unusedSectionVars false
variable [Tabs]
structure Ctx where
  M : Mem
  m : Key → Option (Nat × Nat × Nat)
  z : Cells
  tab : ∀ g cs, Tabs.t g = some cs → PCells z g 0 cs

mutual
def VRel (c : Ctx) : IVal → Value → Prop
  | .p v, r => PRel c.z v r
  | .ptr k ver off, r => ∃ a, r = .pointer (some a) ∧ ∃ cs e v o, c.M.get k = some (.cells cs e v o) ∧ ver ≤ v ∧ (ver = v → ∃ b q K, c.m k = some (b, q, K) ∧ a = ⟨b, q + off, none⟩)
  | .slice i ver off len, r => ∃ a cap, r = .slice (some a) len cap ∧ ∃ cs e v o, c.M.get (.heap i) = some (.cells cs e v o) ∧ ver ≤ v ∧ (ver = v → ∃ b q K, c.m (.heap i) = some (b, q, K) ∧ len ≤ cap ∧ a.block = b ∧ a.spot = none ∧ (cap = 0 ∨ a.off = q + off) ∧ off + cap * e = K)
  | .map i, r => ∃ es ck, c.M.get (.heap i) = some (.map es ck) ∧ ∃ b q K, c.m (.heap i) = some (b, q, K) ∧ r = .map (some b)
  | .func f cap, r => ∃ l : List Value, r = .func (.func f) #[] l.toArray ∧ VsRel c cap l
  | .agg cs, r => ∃ l : List Value, r = .agg l.toArray ∧ VsRel c cs l
  | .tup vs, r => ∃ l : List Value, r = .tuple l.toArray ∧ TsRel c vs l
  | .undef, _ => True
  | .opq n, r => r = .pointer (some ⟨n, 0, none⟩)
  | .clip i ver off len, r => ∃ a cap, r = .slice (some a) len len ∧ ∃ cs e v o, c.M.get (.heap i) = some (.cells cs e v o) ∧ ver ≤ v ∧ (ver = v → ∃ b q K, c.m (.heap i) = some (b, q, K) ∧ len ≤ cap ∧ a.block = b ∧ a.spot = none ∧ (cap = 0 ∨ a.off = q + off) ∧ off + cap * e = K)
def VsRel (c : Ctx) : List IVal → List Value → Prop
  | [], l => l = []
  | v :: vs, l => ∃ r rs, l = r :: rs ∧ v.cellOK = true ∧ VRel c v r ∧ VsRel c vs rs
def TsRel (c : Ctx) : List IVal → List Value → Prop
  | [], l => l = []
  | v :: vs, l => ∃ r rs, l = r :: rs ∧ v.passOK = true ∧ VRel c v r ∧ TsRel c vs rs
end

/-- a key of two texts -/
def keyI (a b : List UInt8) : IVal := .agg [.p (.str a), .p (.str b)]
def keyR (a b : List UInt8) : Value := .agg #[.string ⟨a.toArray⟩, .string ⟨b.toArray⟩]
/-- the entries of a map, in any order: keys of two texts, truth values -/
def EntsRel (_ : Ctx) (es : List (IVal × IVal × Nat)) (l : List MapEntry) : Prop :=
  ∃ kv kv' : List ((List UInt8 × List UInt8) × Bool), es.map (fun e => (e.1, e.2.1)) = kv.map (fun x => (keyI x.1.1 x.1.2, .p (.bool x.2))) ∧
    l.map (fun e => (e.key, e.val)) = kv'.map (fun x => (keyR x.1.1 x.1.2, Value.bool x.2)) ∧ kv'.Perm kv ∧ (kv.map (·.1)).Nodup

/-- the ideal memory stands for the world -/
structure WRel (c : Ctx) (w : World) : Prop where
  z : ∀ b o v, c.z b o = some v → w.cell? ⟨b, o, none⟩ = some v
  blk : ∀ k cs e v op b q K, c.M.get k = some (.cells cs e v op) → c.m k = some (b, q, K) →
    ∃ C T, w.heap[b]? = some (.cells C T (0, 0)) ∧ q + K ≤ C.size ∧ cs.length ≤ K ∧ (op = false → K = cs.length) ∧
      ∀ j x, cs[j]? = some x → ∃ r, C[q + j]? = some r ∧ x.cellOK = true ∧ VRel c x r
  mp : ∀ k es ck b q K, c.M.get k = some (.map es ck) → c.m k = some (b, q, K) → ∃ ents, w.heap[b]? = some (.map ents ck) ∧ EntsRel c es ents.toList
  inj : ∀ k l b q K q' K', (c.M.get k).isSome = true → (c.M.get l).isSome = true → c.m k = some (b, q, K) → c.m l = some (b, q', K') → k = l
  zdis : ∀ k b q K, (c.M.get k).isSome = true → c.m k = some (b, q, K) → ∀ o, c.z b o = none
  dom : ∀ k x, c.m k = some x → (c.M.get k).isSome = true

/-- a later context: what stood for something still does -/
structure Ctx.Ext (c d : Ctx) : Prop where
  blk : ∀ k cs e v o, c.M.get k = some (.cells cs e v o) → ∃ cs' v' o', d.M.get k = some (.cells cs' e v' o') ∧ v ≤ v' ∧ (v' = v → ∀ x, c.m k = some x → d.m k = some x)
  mp : ∀ k es ck, c.M.get k = some (.map es ck) → ∃ es' ck', d.M.get k = some (.map es' ck') ∧ ∀ x, c.m k = some x → d.m k = some x
  z : ∀ b o v, c.z b o = some v → d.z b o = some v

theorem Ctx.Ext.refl (c : Ctx) : c.Ext c :=
  ⟨fun _ cs _ v o h => ⟨cs, v, o, h, Nat.le_refl _, fun _ _ h => h⟩, fun _ es ck h => ⟨es, ck, h, fun _ h => h⟩, fun _ _ _ h => h⟩

theorem Ctx.Ext.trans {c d e : Ctx} (h : c.Ext d) (g : d.Ext e) : c.Ext e := by
  refine ⟨fun k cs s v o hk => ?_, fun k es ck hk => ?_, fun b o v hv => g.z _ _ _ (h.z _ _ _ hv)⟩
  · obtain ⟨cs1, v1, o1, h1, hv, hm⟩ := h.blk k cs s v o hk
    obtain ⟨cs2, v2, o2, h2, hv2, hm2⟩ := g.blk k cs1 s v1 o1 h1
    refine ⟨cs2, v2, o2, h2, Nat.le_trans hv hv2, fun he x hx => ?_⟩
    have : v1 = v := by omega
    exact hm2 (by omega) x (hm this x hx)
  · obtain ⟨es1, c1, h1, hm⟩ := h.mp k es ck hk
    obtain ⟨es2, c2, h2, hm2⟩ := g.mp k es1 c1 h1
    exact ⟨es2, c2, h2, fun x hx => hm2 x (hm x hx)⟩

mutual
theorem PRel.mono {z z' : Cells} (h : ∀ b o v, z b o = some v → z' b o = some v) : ∀ (v : PVal) (r : Value), PRel z v r → PRel z' v r
  | .bool _, _, h1 => by simp only [PRel] at h1 ⊢; exact h1
  | .int _ _, _, h1 => by simp only [PRel] at h1 ⊢; exact h1
  | .str _, _, h1 => by simp only [PRel] at h1 ⊢; exact h1
  | .slice _ _ cs, _, h1 => by
    simp only [PRel] at h1 ⊢
    obtain ⟨a, cap, e1, hle, e2, h2⟩ := h1
    refine ⟨a, cap, e1, hle, e2, h2.imp id ?_⟩
    rintro ⟨b, o, e3, hc⟩
    exact ⟨b, o, e3, PCells.mono h b o cs hc⟩
  | .ptr cs, _, h1 => by
    simp only [PRel] at h1 ⊢
    obtain ⟨b, o, e1, hc⟩ := h1
    exact ⟨b, o, e1, PCells.mono h b o cs hc⟩
  | .func _, _, h1 => by simp only [PRel] at h1 ⊢; exact h1
  | .nilptr, _, h1 => by simp only [PRel] at h1 ⊢; exact h1
  | .nilslice, _, h1 => by simp only [PRel] at h1 ⊢; exact h1
  | .nilmap, _, h1 => by simp only [PRel] at h1 ⊢; exact h1
  | .nilfunc, _, h1 => by simp only [PRel] at h1 ⊢; exact h1
  | .niliface, _, h1 => by simp only [PRel] at h1 ⊢; exact h1
theorem PCells.mono {z z' : Cells} (h : ∀ b o v, z b o = some v → z' b o = some v) (b : Nat) : ∀ (o : Nat) (l : List PVal), PCells z b o l → PCells z' b o l
  | _, [], _ => by simp only [PCells]
  | o, v :: vs, h1 => by
    simp only [PCells] at h1 ⊢
    obtain ⟨⟨r, e, hr⟩, h2⟩ := h1
    exact ⟨⟨r, h _ _ _ e, PRel.mono h v r hr⟩, PCells.mono h b (o + 1) vs h2⟩
end
def TabZ (z : Cells) : Prop := ∀ g cs, Tabs.t g = some cs → PCells z g 0 cs
theorem TabZ.mono {z z' : Cells} (t : TabZ z) (h : ∀ b o v, z b o = some v → z' b o = some v) : TabZ z' := fun g cs hg => PCells.mono h g 0 cs (t g cs hg)


mutual
theorem VRel.ext {c d : Ctx} (h : c.Ext d) : ∀ (v : IVal) (r : Value), VRel c v r → VRel d v r
  | .p v, r, h1 => by simp only [VRel] at h1 ⊢; exact PRel.mono h.z v r h1
  | .ptr k ver off, r, h1 => by
    simp only [VRel] at h1 ⊢
    obtain ⟨a, e0, cs, e, v, o, hk, hle, h2⟩ := h1
    obtain ⟨cs', v', o', hk', hv, hm⟩ := h.blk k cs e v o hk
    refine ⟨a, e0, cs', e, v', o', hk', by omega, fun he => ?_⟩
    have : v' = v := by omega
    obtain ⟨b, q, K, e1, e2⟩ := h2 (by omega)
    exact ⟨b, q, K, hm this _ e1, e2⟩
  | .slice i ver off len, r, h1 => by
    simp only [VRel] at h1 ⊢
    obtain ⟨a, cap, e0, cs, e, v, o, hk, hle, h2⟩ := h1
    obtain ⟨cs', v', o', hk', hv, hm⟩ := h.blk _ cs e v o hk
    refine ⟨a, cap, e0, cs', e, v', o', hk', by omega, fun he => ?_⟩
    have : v' = v := by omega
    obtain ⟨b, q, K, e1, e2⟩ := h2 (by omega)
    exact ⟨b, q, K, hm this _ e1, e2⟩
  | .map i, r, h1 => by
    simp only [VRel] at h1 ⊢
    obtain ⟨es, ck, hk, b, q, K, e1, e2⟩ := h1
    obtain ⟨es', ck', hk', hm⟩ := h.mp _ es ck hk
    exact ⟨es', ck', hk', b, q, K, hm _ e1, e2⟩
  | .func f cap, r, h1 => by
    simp only [VRel] at h1 ⊢
    obtain ⟨l, e, hl⟩ := h1
    exact ⟨l, e, VsRel.ext h cap l hl⟩
  | .agg cs, r, h1 => by
    simp only [VRel] at h1 ⊢
    obtain ⟨l, e, hl⟩ := h1
    exact ⟨l, e, VsRel.ext h cs l hl⟩
  | .tup vs, r, h1 => by
    simp only [VRel] at h1 ⊢
    obtain ⟨l, e, hl⟩ := h1
    exact ⟨l, e, TsRel.ext h vs l hl⟩
  | .undef, _, _ => by simp only [VRel]
  | .opq _, _, h1 => by simp only [VRel] at h1 ⊢; exact h1
  | .clip i ver off len, r, h1 => by
    simp only [VRel] at h1 ⊢
    obtain ⟨a, cap, e0, cs, e, v, o, hk, hle, h2⟩ := h1
    obtain ⟨cs', v', o', hk', hv, hm⟩ := h.blk _ cs e v o hk
    refine ⟨a, cap, e0, cs', e, v', o', hk', by omega, fun he => ?_⟩
    have : v' = v := by omega
    obtain ⟨b, q, K, e1, e2⟩ := h2 (by omega)
    exact ⟨b, q, K, hm this _ e1, e2⟩
theorem VsRel.ext {c d : Ctx} (h : c.Ext d) : ∀ (vs : List IVal) (l : List Value), VsRel c vs l → VsRel d vs l
  | [], _, h1 => by simp only [VsRel] at h1 ⊢; exact h1
  | v :: vs, l, h1 => by
    simp only [VsRel] at h1 ⊢
    obtain ⟨r, rs, e, ho, hv, hvs⟩ := h1
    exact ⟨r, rs, e, ho, VRel.ext h v r hv, VsRel.ext h vs rs hvs⟩
theorem TsRel.ext {c d : Ctx} (h : c.Ext d) : ∀ (vs : List IVal) (l : List Value), TsRel c vs l → TsRel d vs l
  | [], _, h1 => by simp only [TsRel] at h1 ⊢; exact h1
  | v :: vs, l, h1 => by
    simp only [TsRel] at h1 ⊢
    obtain ⟨r, rs, e, ho, hv, hvs⟩ := h1
    exact ⟨r, rs, e, ho, VRel.ext h v r hv, TsRel.ext h vs rs hvs⟩
end

theorem EntsRel.ext {c d : Ctx} (_ : c.Ext d) (es : List (IVal × IVal × Nat)) (l : List MapEntry) (h : EntsRel c es l) : EntsRel d es l := h

/- WHAT LIES WHERE -/

theorem PCells.at {z : Cells} {b : Nat} : ∀ {o : Nat} {l : List PVal}, PCells z b o l → ∀ j v, l[j]? = some v → ∃ r, z b (o + j) = some r ∧ PRel z v r
  | _, [], _, j, v, h => by simp at h
  | o, x :: l, hc, j, v, h => by
    simp only [PCells] at hc
    cases j with
    | zero =>
      simp at h
      subst h
      exact hc.1
    | succ j =>
      simp at h
      obtain ⟨r, e, hr⟩ := hc.2.at j v h
      exact ⟨r, by rw [← e]; congr 1; omega, hr⟩

theorem PCells.of {z : Cells} {b : Nat} : ∀ {o : Nat} {l : List PVal}, (∀ j v, l[j]? = some v → ∃ r, z b (o + j) = some r ∧ PRel z v r) → PCells z b o l
  | _, [], _ => by simp only [PCells]
  | o, x :: l, h => by
    simp only [PCells]
    refine ⟨?_, PCells.of fun j v hj => ?_⟩
    · have := h 0 x (by simp)
      simpa using this
    · obtain ⟨r, e, hr⟩ := h (j + 1) v (by simpa using hj)
      exact ⟨r, by rw [← e]; congr 1; omega, hr⟩

theorem PCells.drop {z : Cells} {b o : Nat} {l : List PVal} (h : PCells z b o l) (n : Nat) : PCells z b (o + n) (l.drop n) :=
  PCells.of fun j v hj => by
    rw [List.getElem?_drop] at hj
    obtain ⟨r, e, hr⟩ := h.at _ v hj
    exact ⟨r, by rw [← e]; congr 1; omega, hr⟩

theorem PCells.take {z : Cells} {b o : Nat} {l : List PVal} (h : PCells z b o l) (n : Nat) : PCells z b o (l.take n) :=
  PCells.of fun j v hj => by
    rw [List.getElem?_take] at hj
    split at hj
    · exact h.at _ v hj
    · cases hj

/-- plain data stand for one cell -/
theorem PRel.one {z : Cells} {v : PVal} {r : Value} (h : PRel z v r) : r.oneCell' = true := by
  cases v <;> simp only [PRel] at h
  case slice => obtain ⟨a, cap, rfl, _⟩ := h; rfl
  case ptr => obtain ⟨b, o, rfl, _⟩ := h; rfl
  all_goals subst h; rfl

theorem WRel.bound {c : Ctx} {w : World} (h : WRel c w) {k : Key} {b q K : Nat} (hk : (c.M.get k).isSome = true) (hm : c.m k = some (b, q, K)) : b < w.heap.size := by
  cases hg : c.M.get k with
  | none => simp [hg] at hk
  | some blk =>
    cases blk with
    | cells cs e v op =>
      obtain ⟨C, T, hb, _⟩ := h.blk k cs e v op b q K hg hm
      exact (Array.getElem?_eq_some_iff.1 hb).1
    | map es ck =>
      obtain ⟨ents, hb, _⟩ := h.mp k es ck b q K hg hm
      exact (Array.getElem?_eq_some_iff.1 hb).1

theorem VsRel.length {c : Ctx} : ∀ {vs : List IVal} {l : List Value}, VsRel c vs l → l.length = vs.length
  | [], _, h => by simp only [VsRel] at h; subst h; rfl
  | v :: vs, l, h => by
    simp only [VsRel] at h
    obtain ⟨r, rs, rfl, _, _, h2⟩ := h
    simp [h2.length]

theorem VsRel.at {c : Ctx} : ∀ {vs : List IVal} {l : List Value}, VsRel c vs l → ∀ (j : Nat) (v : IVal), vs[j]? = some v → ∃ r : Value, l[j]? = some r ∧ v.cellOK = true ∧ VRel c v r
  | [], _, _, j, v, h => by simp at h
  | x :: vs, l, hc, j, v, h => by
    simp only [VsRel] at hc
    obtain ⟨r, rs, rfl, ho, hv, h2⟩ := hc
    cases j with
    | zero => simp at h; subst h; exact ⟨r, by simp, ho, hv⟩
    | succ j => simp at h; obtain ⟨r', e, h3⟩ := h2.at j v h; exact ⟨r', by simpa using e, h3⟩

theorem VsRel.of {c : Ctx} : ∀ {vs : List IVal} {l : List Value}, l.length = vs.length → (∀ (j : Nat) (v : IVal) (r : Value), vs[j]? = some v → l[j]? = some r → v.cellOK = true ∧ VRel c v r) → VsRel c vs l
  | [], l, h, _ => by simp only [VsRel]; exact List.length_eq_zero_iff.1 h
  | v :: vs, [], h, _ => by simp at h
  | v :: vs, r :: rs, h, ha => by
    simp only [VsRel]
    have := ha 0 v r (by simp) (by simp)
    exact ⟨r, rs, rfl, this.1, this.2, VsRel.of (by simpa using h) fun j v' r' h1 h2 => ha (j + 1) v' r' (by simpa using h1) (by simpa using h2)⟩

theorem VsRel.append {c : Ctx} : ∀ {a : List IVal} {l : List Value} {b : List IVal} {m : List Value}, VsRel c a l → VsRel c b m → VsRel c (a ++ b) (l ++ m)
  | [], l, b, m, h, h2 => by simp only [VsRel] at h; subst h; simpa using h2
  | x :: a, l, b, m, h, h2 => by
    simp only [VsRel] at h
    obtain ⟨r, rs, rfl, ho, hv, hr⟩ := h
    simp only [List.cons_append, VsRel]
    exact ⟨r, rs ++ m, rfl, ho, hv, hr.append h2⟩

theorem VsRel.drop {c : Ctx} {a : List IVal} {l : List Value} (h : VsRel c a l) (n : Nat) : VsRel c (a.drop n) (l.drop n) :=
  VsRel.of (by simp [h.length]) fun j v r h1 h2 => by
    rw [List.getElem?_drop] at h1 h2
    obtain ⟨r', e, h3⟩ := h.at _ v h1
    rw [h2] at e
    cases e
    exact h3

theorem VsRel.take {c : Ctx} {a : List IVal} {l : List Value} (h : VsRel c a l) (n : Nat) : VsRel c (a.take n) (l.take n) :=
  VsRel.of (by simp [h.length]) fun j v r h1 h2 => by
    rw [List.getElem?_take] at h1 h2
    split at h1
    · rename_i hlt
      rw [if_pos hlt] at h2
      obtain ⟨r', e, h3⟩ := h.at _ v h1
      rw [h2] at e
      cases e
      exact h3
    · cases h1

theorem VRel.one {c : Ctx} {v : IVal} {r : Value} (ho : v.cellOK = true) (h : VRel c v r) : r.oneCell' = true := by
  cases v <;> simp only [VRel, IVal.cellOK] at h ho <;> try (cases ho; done)
  case p v => exact h.one
  case ptr k ver off => obtain ⟨a, rfl, _⟩ := h; rfl
  case slice k ver off n => obtain ⟨a, cap, rfl, _⟩ := h; rfl
  case map => obtain ⟨_, _, _, b, _, _, _, rfl⟩ := h; rfl
  case func => obtain ⟨l, rfl, _⟩ := h; rfl

end Go.Ideal

/-
  IDEAL SEMANTICS, 3: WHAT AN OPERATION DOES TO THE MEMORY, AND WHAT STAYS.
-/
namespace Go.Ideal
open Go
set_option linter.unusedSectionVars false
variable [Tabs]

theorem findBox_setBox_same {t : Nat} {b : IBlk} : ∀ {l : List (Nat × IBlk)}, (findBox l t).isSome = true → findBox (setBox l t b) t = some b
  | [], h => by simp [findBox] at h
  | (s, c) :: r, h => by
    cases e : Nat.beq s t with
    | true => simp [setBox, findBox, e]
    | false =>
      simp only [findBox, e] at h
      simp only [setBox, e, findBox]
      exact findBox_setBox_same h

theorem findBox_setBox_other {t u : Nat} {b : IBlk} (hne : t ≠ u) : ∀ {l : List (Nat × IBlk)}, findBox (setBox l t b) u = findBox l u
  | [] => rfl
  | (s, c) :: r => by
    cases e : Nat.beq s t with
    | true =>
      have := Nat.eq_of_beq_eq_true e
      subst this
      have hf : Nat.beq s u = false := by
        cases h : Nat.beq s u with
        | false => rfl
        | true => exact absurd (Nat.eq_of_beq_eq_true h) hne
      simp [setBox, findBox, hf]
    | false =>
      simp only [setBox, e, findBox]
      rw [findBox_setBox_other hne]

theorem Mem.get_put_same {M : Mem} {k : Key} {b : IBlk} (h : (M.get k).isSome = true) : (M.put k b).get k = some b := by
  cases k with
  | box s => exact findBox_setBox_same h
  | heap i =>
    simp only [Mem.get] at h
    have hi : i < M.heap.length := by
      rcases Nat.lt_or_ge i M.heap.length with h' | h'
      · exact h'
      · simp [List.getElem?_eq_none h'] at h
    simp [Mem.put, Mem.get, hi]

theorem Mem.get_put_other {M : Mem} {k l : Key} {b : IBlk} (h : k ≠ l) : (M.put k b).get l = M.get l := by
  cases k with
  | box s =>
    cases l with
    | box t => exact findBox_setBox_other (fun e => h (by rw [e]))
    | heap i => rfl
  | heap i =>
    cases l with
    | box t => rfl
    | heap j =>
      have : i ≠ j := fun e => h (by rw [e])
      simp [Mem.put, Mem.get, List.getElem?_set_ne this]

/-- the real blocks that writable ideal ones stand for -/
def Ctx.Own (c : Ctx) (b : Nat) : Prop := ∃ k q K, c.m k = some (b, q, K)

/-- what lies beside the memory, and what is frozen, is as it was -/
structure Same (w w' : World) : Prop where
  os : w'.os = w.os
  out : w'.output = w.output
  fr : ∀ a : Addr, a.block < w.heap.size → w'.frozen? a = w.frozen? a
  sz : w.heap.size ≤ w'.heap.size
  tp : w'.tape = w.tape
  dr : (0 : Nat) ≤ 0
def Beside (w w' : World) : Prop := w'.os = w.os ∧ w'.output = w.output ∧ w'.tape = w.tape ∧ (0 : Nat) ≤ 0

theorem Same.refl (w : World) : Same w w := ⟨rfl, rfl, fun _ _ => rfl, Nat.le_refl _, rfl, Nat.le_refl _⟩
theorem Same.trans {w w' w'' : World} (h : Same w w') (g : Same w' w'') : Same w w'' := ⟨g.os.trans h.os, g.out.trans h.out, fun a ha => (g.fr a (Nat.lt_of_lt_of_le ha h.sz)).trans (h.fr a ha), Nat.le_trans h.sz g.sz, g.tp.trans h.tp, Nat.le_trans h.dr g.dr⟩
theorem Same.heap {w w' : World} (e : w'.heap = w.heap) (h : Beside w w') : Same w w' := ⟨h.1, h.2.1, fun a _ => by simp [World.frozen?, e], by rw [e]; exact Nat.le_refl _, h.2.2.1, h.2.2.2⟩
theorem Same.at {w w' : World} {b : Nat} (h : Beside w w') (hb : ∀ C T fr, w'.heap[b]? = some (.cells C T fr) → fr = (0, 0)) (hb0 : ∀ C T fr, w.heap[b]? = some (.cells C T fr) → fr = (0, 0))
    (hs : ∀ i, i ≠ b → w'.heap[i]? = w.heap[i]?) (hz : w.heap.size ≤ w'.heap.size) : Same w w' := by
  refine ⟨h.1, h.2.1, fun a _ => ?_, hz, h.2.2.1, h.2.2.2⟩
  by_cases e : a.block = b
  · have h1 : w'.frozen? a = false := by
      unfold World.frozen?
      rw [e]
      split
      · rename_i C T lo hi hh
        have := hb C T _ hh
        cases this
        simp
      · rfl
    have h2 : w.frozen? a = false := by
      unfold World.frozen?
      rw [e]
      split
      · rename_i C T lo hi hh
        have := hb0 C T _ hh
        cases this
        simp
      · rfl
    rw [h1, h2]
  · unfold World.frozen?
    rw [hs _ e]
theorem Same.push {w w' : World} {o : Obj} (h : Beside w w') (e : w'.heap = w.heap.push o) (ho : ∀ C T fr, o = .cells C T fr → fr = (0, 0)) : Same w w' := by
  refine Same.at (b := w.heap.size) h (fun C T fr hh => ?_) (fun C T fr hh => ?_) (fun i hi => ?_) (by rw [e]; simp)
  · rw [e] at hh
    simp at hh
    exact ho C T fr hh
  · simp at hh
  · rw [e, Array.getElem?_push]
    rw [if_neg hi]

/-- from one state to the next: nothing of what was there has changed, but for what is ours -/
structure Step (c : Ctx) (w : World) (d : Ctx) (w' : World) : Prop where
  ext : c.Ext d
  rel : WRel d w'
  size : w.heap.size ≤ w'.heap.size
  same : ∀ b, b < w.heap.size → ¬ c.Own b → w'.heap[b]? = w.heap[b]?
  own : ∀ b, d.Own b → b < w.heap.size → c.Own b
  zz : ∀ b o v, d.z b o = some v → b < w.heap.size → c.z b o = some v
  also : Same w w'

/-- what nothing stood for, nothing stands for -/
def Un (c d : Ctx) : Prop := ∀ k, (c.M.get k).isSome = true → c.m k = none → d.m k = none

theorem Un.refl (c : Ctx) : Un c c := fun _ _ h => h
theorem Ctx.Ext.isSome {c d : Ctx} (h : c.Ext d) {k : Key} (hk : (c.M.get k).isSome = true) : (d.M.get k).isSome = true := by
  cases e : c.M.get k with
  | none => rw [e] at hk; cases hk
  | some b =>
    cases b with
    | cells cs e' v o => obtain ⟨_, _, _, h1, _⟩ := h.blk k cs e' v o e; rw [h1]; rfl
    | map es ck => obtain ⟨_, _, h1, _⟩ := h.mp k es ck e; rw [h1]; rfl
theorem Un.trans {c d e : Ctx} (hx : c.Ext d) (h : Un c d) (g : Un d e) : Un c e := fun k h1 h2 => g k (hx.isSome h1) (h k h1 h2)

theorem Step.refl {c : Ctx} {w : World} (h : WRel c w) : Step c w c w :=
  ⟨.refl c, h, Nat.le_refl _, fun _ _ _ => rfl, fun _ h _ => h, fun _ _ _ h _ => h, Same.refl w⟩

theorem Step.trans {c d e : Ctx} {w w' w'' : World} (h : Step c w d w') (g : Step d w' e w'') : Step c w e w'' := by
  refine ⟨h.ext.trans g.ext, g.rel, Nat.le_trans h.size g.size, fun b hb ho => ?_, fun b ho hb => ?_, fun b o v hz hb => ?_, h.also.trans g.also⟩
  · rw [g.same b (Nat.lt_of_lt_of_le hb h.size) (fun ho' => ho (h.own b ho' hb)), h.same b hb ho]
  · exact h.own b (g.own b ho (Nat.lt_of_lt_of_le hb h.size)) hb
  · exact h.zz b o v (g.zz b o v hz (Nat.lt_of_lt_of_le hb h.size)) hb

/-- the same world to the memory: only the tape has moved on -/
theorem WRel.heap {c : Ctx} {w w' : World} (h : WRel c w) (e : w'.heap = w.heap) : WRel c w' := by
  refine ⟨fun b o v hz => ?_, fun k cs e' v op b q K h1 h2 => ?_, fun k es ck b q K h1 h2 => ?_, h.inj, h.zdis, h.dom⟩
  · have := h.z b o v hz
    simpa [World.cell?, e] using this
  · rw [e]; exact h.blk k cs e' v op b q K h1 h2
  · rw [e]; exact h.mp k es ck b q K h1 h2

theorem cell_of_block {w w' : World} {b o : Nat} {v : Value} (h : w'.heap[b]? = w.heap[b]?) (hc : w.cell? ⟨b, o, none⟩ = some v) : w'.cell? ⟨b, o, none⟩ = some v := by
  simpa [World.cell?, h] using hc

theorem block_of_cell {w : World} {b o : Nat} {v : Value} (h : w.cell? ⟨b, o, none⟩ = some v) : b < w.heap.size := by
  rcases Nat.lt_or_ge b w.heap.size with h' | h'
  · exact h'
  · simp [World.cell?, Array.getElem?_eq_none h'] at h

/-- one ideal block is another one now, and lies where 'bn' says; the others are as they were -/
theorem Step.update {c d : Ctx} {w w' : World} (hW : WRel c w) (hext : c.Ext d) (hz : d.z = c.z) (k : Key) (bn qn Kn : Nat)
    (hget : ∀ l, l ≠ k → d.M.get l = c.M.get l) (hm : ∀ l, l ≠ k → d.m l = c.m l) (hk : (d.M.get k).isSome = true) (hkm : d.m k = some (bn, qn, Kn))
    (hnew : bn = w.heap.size ∨ ∃ q K, c.m k = some (bn, q, K))
    (hsize : w.heap.size ≤ w'.heap.size) (hsame : ∀ b, b < w.heap.size → b ≠ bn → w'.heap[b]? = w.heap[b]?)
    (hblk : ∀ cs e v op, d.M.get k = some (.cells cs e v op) → ∃ C T, w'.heap[bn]? = some (.cells C T (0, 0)) ∧ qn + Kn ≤ C.size ∧ cs.length ≤ Kn ∧ (op = false → Kn = cs.length) ∧
      ∀ j x, cs[j]? = some x → ∃ r : Value, C[qn + j]? = some r ∧ x.cellOK = true ∧ VRel d x r)
    (hmp : ∀ es ck, d.M.get k = some (.map es ck) → ∃ ents, w'.heap[bn]? = some (.map ents ck) ∧ EntsRel d es ents.toList) (ha : Same w w') :
    Step c w d w' := by
  have hzn : ∀ o, c.z bn o = none := by
    intro o
    rcases hnew with rfl | ⟨q, K, hq⟩
    · cases h : c.z w.heap.size o with
      | none => rfl
      | some v => exact absurd (block_of_cell (hW.z _ _ _ h)) (Nat.lt_irrefl _)
    · exact hW.zdis k bn q K (hW.dom _ _ hq) hq o
  have hoth : ∀ l b q K, l ≠ k → c.m l = some (b, q, K) → b ≠ bn ∧ b < w.heap.size := by
    intro l b q K hl hml
    have hb := hW.bound (hW.dom _ _ hml) hml
    refine ⟨fun e => ?_, hb⟩
    rcases hnew with h | ⟨q', K', hq⟩
    · omega
    · subst e
      exact hl (hW.inj l k b q K q' K' (hW.dom _ _ hml) (hW.dom _ _ hq) hml hq)
  refine ⟨hext, ⟨fun b o v hzv => ?_, fun l cs e v op b q K h1 h2 => ?_, fun l es ck b q K h1 h2 => ?_, fun l l' b q K q' K' h1 h2 h3 h4 => ?_, fun l b q K h1 h2 o => ?_, fun l x h1 => ?_⟩, hsize, fun b hb ho => hsame b hb (fun e => ?_), fun b ho hb => ?_, fun b o v h _ => (by rw [hz] at h; exact h), ha⟩
  · rw [hz] at hzv
    have hc := hW.z b o v hzv
    refine cell_of_block (hsame b (block_of_cell hc) fun e => ?_) hc
    subst e
    rw [hzn] at hzv
    cases hzv
  · by_cases hl : l = k
    · subst hl
      rw [hkm] at h2
      cases h2
      exact hblk cs e v op h1
    · rw [hget l hl] at h1
      rw [hm l hl] at h2
      obtain ⟨hne, hlt⟩ := hoth l b q K hl h2
      obtain ⟨C, T, hb, h3, h4, h5, h6⟩ := hW.blk l cs e v op b q K h1 h2
      refine ⟨C, T, by rw [hsame b hlt hne]; exact hb, h3, h4, h5, fun j x hx => ?_⟩
      obtain ⟨r, e1, e2, e3⟩ := h6 j x hx
      exact ⟨r, e1, e2, e3.ext hext⟩
  · by_cases hl : l = k
    · subst hl
      rw [hkm] at h2
      cases h2
      exact hmp es ck h1
    · rw [hget l hl] at h1
      rw [hm l hl] at h2
      obtain ⟨hne, hlt⟩ := hoth l b q K hl h2
      obtain ⟨ents, hb, h3⟩ := hW.mp l es ck b q K h1 h2
      exact ⟨ents, by rw [hsame b hlt hne]; exact hb, h3.ext hext⟩
  · by_cases hl : l = k
    · by_cases hl' : l' = k
      · rw [hl, hl']
      · subst hl
        rw [hkm] at h3
        cases h3
        rw [hm l' hl'] at h4
        exact absurd rfl (hoth l' _ _ _ hl' h4).1
    · by_cases hl' : l' = k
      · subst hl'
        rw [hkm] at h4
        cases h4
        rw [hm l hl] at h3
        exact absurd rfl (hoth l _ _ _ hl h3).1
      · rw [hm l hl] at h3
        rw [hm l' hl'] at h4
        exact hW.inj l l' b q K q' K' (hW.dom _ _ h3) (hW.dom _ _ h4) h3 h4
  · rw [hz]
    by_cases hl : l = k
    · subst hl
      rw [hkm] at h2
      cases h2
      exact hzn o
    · rw [hm l hl] at h2
      exact hW.zdis l b q K (hW.dom _ _ h2) h2 o
  · by_cases hl : l = k
    · subst hl; exact hk
    · rw [hm l hl] at h1
      rw [hget l hl]
      exact hW.dom _ _ h1
  · subst e
    rcases hnew with h | ⟨q, K, hq⟩
    · omega
    · exact ho ⟨k, q, K, hq⟩
  · obtain ⟨l, q, K, hl⟩ := ho
    by_cases hlk : l = k
    · subst hlk
      rw [hkm] at hl
      cases hl
      rcases hnew with h | ⟨q', K', hq⟩
      · omega
      · exact ⟨l, q', K', hq⟩
    · rw [hm l hlk] at hl
      exact ⟨l, q, K, hl⟩

/-- the context in which a block is another one, and lies elsewhere -/
def Ctx.upd (c : Ctx) (k : Key) (b : IBlk) (x : Nat × Nat × Nat) : Ctx := { c with M := c.M.put k b, m := fun l => if l = k then some x else c.m l }

theorem Ctx.upd_ext {c : Ctx} {k : Key} {cs : List IVal} {e v : Nat} {o : Bool} {cs' : List IVal} {v' : Nat} {o' : Bool} {x : Nat × Nat × Nat}
    (hk : c.M.get k = some (.cells cs e v o)) (hv : v < v' ∨ (v = v' ∧ ∀ y, c.m k = some y → x = y)) : c.Ext (c.upd k (.cells cs' e v' o') x) := by
  have hs : (c.M.get k).isSome = true := by simp [hk]
  refine ⟨fun l cs1 e1 v1 o1 h1 => ?_, fun l es ck h1 => ?_, fun _ _ _ h => h⟩
  · by_cases hl : l = k
    · subst hl
      rw [hk] at h1
      cases h1
      refine ⟨cs', v', o', Mem.get_put_same hs, by omega, fun he y hy => ?_⟩
      simp only [Ctx.upd, if_true]
      rcases hv with h | ⟨_, h⟩
      · omega
      · rw [h y hy]
    · refine ⟨cs1, v1, o1, by simp only [Ctx.upd]; rw [Mem.get_put_other (Ne.symm hl)]; exact h1, Nat.le_refl _, fun _ y hy => by simp only [Ctx.upd, if_neg hl]; exact hy⟩
  · by_cases hl : l = k
    · subst hl; rw [hk] at h1; cases h1
    · exact ⟨es, ck, by simp only [Ctx.upd]; rw [Mem.get_put_other (Ne.symm hl)]; exact h1, fun y hy => by simp only [Ctx.upd, if_neg hl]; exact hy⟩

theorem Ctx.upd_ext_map {c : Ctx} {k : Key} {es es' : List (IVal × IVal × Nat)} {ck ck' : Nat} {x : Nat × Nat × Nat}
    (hk : c.M.get k = some (.map es ck)) (hx : ∀ y, c.m k = some y → x = y) : c.Ext (c.upd k (.map es' ck') x) := by
  have hs : (c.M.get k).isSome = true := by simp [hk]
  refine ⟨fun l cs1 e1 v1 o1 h1 => ?_, fun l es1 ck1 h1 => ?_, fun _ _ _ h => h⟩
  · by_cases hl : l = k
    · subst hl; rw [hk] at h1; cases h1
    · exact ⟨cs1, v1, o1, by simp only [Ctx.upd]; rw [Mem.get_put_other (Ne.symm hl)]; exact h1, Nat.le_refl _, fun _ y hy => by simp only [Ctx.upd, if_neg hl]; exact hy⟩
  · by_cases hl : l = k
    · subst hl
      rw [hk] at h1
      cases h1
      exact ⟨es', ck', Mem.get_put_same hs, fun y hy => by simp only [Ctx.upd, if_true]; rw [hx y hy]⟩
    · exact ⟨es1, ck1, by simp only [Ctx.upd]; rw [Mem.get_put_other (Ne.symm hl)]; exact h1, fun y hy => by simp only [Ctx.upd, if_neg hl]; exact hy⟩

/-- a block that lies where it lay, with other cells -/
theorem Un.upd {c : Ctx} {k : Key} {b : IBlk} {x y : Nat × Nat × Nat} (h : c.m k = some x) : Un c (c.upd k b y) := by
  intro l _ hl
  have : l ≠ k := fun e => by rw [e, h] at hl; cases hl
  simp only [Ctx.upd, if_neg this]
  exact hl
theorem Step.write {c : Ctx} {w w' : World} (hW : WRel c w) (hos : Beside w w') {k : Key} {cs : List IVal} {e v : Nat} {o : Bool} {b q K : Nat} (hk : c.M.get k = some (.cells cs e v o)) (hm : c.m k = some (b, q, K))
    {cs' : List IVal} {v' : Nat} {o' : Bool} {q' K' : Nat} (hv : v < v' ∨ (v = v' ∧ q' = q ∧ K' = K)) {C' : Array Value} {T : TypeId}
    (hw' : w'.heap[b]? = some (.cells C' T (0, 0))) (hsz : w'.heap.size = w.heap.size) (hsame : ∀ i, i ≠ b → w'.heap[i]? = w.heap[i]?)
    (hq : q' + K' ≤ C'.size) (hlen : cs'.length ≤ K') (hop : o' = false → K' = cs'.length)
    (hcells : ∀ d : Ctx, c.Ext d → ∀ (j : Nat) (x : IVal), cs'[j]? = some x → ∃ r : Value, C'[q' + j]? = some r ∧ x.cellOK = true ∧ VRel d x r) :
    Step c w (c.upd k (.cells cs' e v' o') (b, q', K')) w' := by
  have hs : (c.M.get k).isSome = true := by simp [hk]
  have hext : c.Ext (c.upd k (.cells cs' e v' o') (b, q', K')) := Ctx.upd_ext hk (hv.imp id fun ⟨h1, h2, h3⟩ => ⟨h1, fun y hy => by rw [hm] at hy; cases hy; rw [h2, h3]⟩)
  refine Step.update hW hext rfl k b q' K' (fun l hl => Mem.get_put_other (Ne.symm hl)) (fun l hl => by simp only [Ctx.upd, if_neg hl]) (by simp only [Ctx.upd]; rw [Mem.get_put_same hs]; rfl) (by simp only [Ctx.upd, if_true]) (.inr ⟨q, K, hm⟩) (by omega) (fun i _ hi => hsame i hi) ?_ ?_ ?_
  · intro cs1 e1 v1 o1 h1
    simp only [Ctx.upd] at h1
    rw [Mem.get_put_same hs] at h1
    cases h1
    exact ⟨C', T, hw', hq, hlen, hop, fun j x hx => hcells _ hext j x hx⟩
  · intro es ck h1
    simp only [Ctx.upd] at h1
    rw [Mem.get_put_same hs] at h1
    cases h1
  · obtain ⟨C0, T0, h0, _⟩ := hW.blk k cs e v o b q K hk hm
    exact Same.at hos (fun C1 T1 fr hh => by rw [hw'] at hh; cases hh; rfl) (fun C1 T1 fr hh => by rw [h0] at hh; cases hh; rfl) hsame (by omega)

/-- a block that lies in a new real one now -/
theorem Step.fresh {c : Ctx} {w w' : World} (hW : WRel c w) (hos : Beside w w') {k : Key} {cs : List IVal} {e v : Nat} {o : Bool} (hk : c.M.get k = some (.cells cs e v o))
    {cs' : List IVal} {v' : Nat} {o' : Bool} {K' : Nat} (hv : v < v' ∨ (v = v' ∧ c.m k = none)) {C' : Array Value} {T : TypeId}
    (hw' : w'.heap = w.heap.push (.cells C' T (0, 0))) (hq : K' ≤ C'.size) (hlen : cs'.length ≤ K') (hop : o' = false → K' = cs'.length)
    (hcells : ∀ d : Ctx, c.Ext d → ∀ (j : Nat) (x : IVal), cs'[j]? = some x → ∃ r : Value, C'[j]? = some r ∧ x.cellOK = true ∧ VRel d x r) :
    Step c w (c.upd k (.cells cs' e v' o') (w.heap.size, 0, K')) w' := by
  have hs : (c.M.get k).isSome = true := by simp [hk]
  have hext : c.Ext (c.upd k (.cells cs' e v' o') (w.heap.size, 0, K')) := Ctx.upd_ext hk (hv.imp id fun ⟨h1, h2⟩ => ⟨h1, fun y hy => by rw [h2] at hy; cases hy⟩)
  refine Step.update hW hext rfl k w.heap.size 0 K' (fun l hl => Mem.get_put_other (Ne.symm hl)) (fun l hl => by simp only [Ctx.upd, if_neg hl]) (by simp only [Ctx.upd]; rw [Mem.get_put_same hs]; rfl) (by simp only [Ctx.upd, if_true]) (.inl rfl) (by rw [hw']; simp) (fun i hi _ => by rw [hw']; exact Array.getElem?_push_lt hi ▸ (by simp [hi])) ?_ ?_ ?_
  · intro cs1 e1 v1 o1 h1
    simp only [Ctx.upd] at h1
    rw [Mem.get_put_same hs] at h1
    cases h1
    exact ⟨C', T, by rw [hw']; simp, by omega, hlen, hop, fun j x hx => by simpa using hcells _ hext j x hx⟩
  · intro es ck h1
    simp only [Ctx.upd] at h1
    rw [Mem.get_put_same hs] at h1
    cases h1
  · exact Same.push hos hw' fun C1 T1 fr hh => by cases hh; rfl

end Go.Ideal

/-
  IDEAL SEMANTICS, 4: FROM THE MODEL's CODE TO THE IDEAL ONE. 'comp..' says none wherever the ideal semantics has no word for it.
-/
namespace Go.Ideal
open Go
set_option linter.unusedSectionVars false
variable [Tabs]

def constCell : Value → Option PVal
  | .bool b => some (.bool b)
  | .int k n => some (.int k n)
  | .string s => some (.str s.data.toList)
  | .pointer none => some .nilptr
  | .slice none 0 0 => some .nilslice
  | .map none => some .nilmap
  | .nilFunc => some .nilfunc
  | .nilIface => some .niliface
  | _ => none
def constCells : List Value → Option (List PVal)
  | [] => some []
  | v :: r => match constCell v, constCells r with
    | some x, some l => some (x :: l)
    | _, _ => none
def constVal : Value → Option IVal
  | .agg cs => match constCells cs.toList with
    | some l => some (.agg (pcells l))
    | none => none
  | v => match constCell v with
    | some x => some (.p x)
    | none => none

def compOpd : Operand → Option Opd
  | .tmp t => some (.tmp t)
  | .const v => match constVal v with
    | some x => some (.const x)
    | none => none
  | .func f => some (.func f)
  | .global g => match Tabs.t g with
    | some cs => some (.const (.p (.ptr cs)))
    | none => none
def compOpds : List Operand → Option (List Opd)
  | [] => some []
  | x :: r => match compOpd x, compOpds r with
    | some y, some l => some (y :: l)
    | _, _ => none
def compOpt : Option Operand → Option (Option Opd)
  | none => some none
  | some x => match compOpd x with
    | some y => some (some y)
    | none => none

def zeroCellsOf (P : Program) (t : TypeId) : Option (List PVal) :=
  match P.info? t with
  | some i => match i.zero with
    | some z => constCells z.cells.toList
    | none => none
  | none => none
def zeroValOf (P : Program) (t : TypeId) : Option IVal :=
  match P.info? t with
  | some i => match i.zero with
    | some z => constVal z
    | none => none
  | none => none
def sizeIn (P : Program) (t : TypeId) : Option Nat := (P.info? t).map (·.size)
def bytesIn (P : Program) (t : TypeId) : Option Nat := (P.info? t).map (·.bytes)

/-- is a type's value of several cells? how many; none: it can't be told -/
def aggSize (P : Program) (t : TypeId) : Option (Option Nat) :=
  match P.underlying t with
  | some (.struct _) | some (.array _ _) => (sizeIn P t).map some
  | some _ => some none
  | none => none

def fieldPlaces (P : Program) (fs : Array Field) : List (Nat × Operand) → Option (List (Nat × Nat × Opd))
  | [] => some []
  | (i, x) :: r => match fs[i]? with
    | some f => match sizeIn P f.type, compOpd x, fieldPlaces P fs r with
      | some n, some y, some l => some ((f.offset, n, y) :: l)
      | _, _, _ => none
    | none => none
def rowPlaces (n : Nat) : List (Nat × Operand) → Option (List (Nat × Nat × Opd))
  | [] => some []
  | (i, x) :: r => match compOpd x, rowPlaces n r with
    | some y, some l => some ((i * n, n, y) :: l)
    | _, _ => none

def fieldsCls (g : TypeId → Option (List Cls)) : Nat → List Field → Option (List Cls)
  | _, [] => some []
  | off, f :: r => if f.name = "_" ∨ f.offset ≠ off then none else
    match g f.type with
    | some l => match fieldsCls g (off + l.length) r with
      | some m => some (l ++ m)
      | none => none
    | none => none
def rowCls (l : List Cls) : Nat → List Cls
  | 0 => []
  | n + 1 => l ++ rowCls l n
/-- a type whose values '==' compares cell by cell, and that are keys of maps: scalars, structs and arrays of these -/
def plainCls (P : Program) : Nat → TypeId → Option (List Cls)
  | 0, _ => none
  | n + 1, t => match P.underlying t with
    | some .bool => if sizeIn P t = some 1 then some [.bool] else none
    | some (.int _) => if sizeIn P t = some 1 then some [.int] else none
    | some .string => if sizeIn P t = some 1 then some [.str] else none
    | some (.struct fs) => if P.stoodInHeld t then none else
      match fieldsCls (plainCls P n) 0 fs.toList with
      | some l => if sizeIn P t = some l.length then some l else none
      | none => none
    | some (.array m e) => match plainCls P n e with
      | some l => if sizeIn P t = some (m * l.length) then some (rowCls l m) else none
      | none => none
    | _ => none
def keyCls (P : Program) (t : TypeId) : Option KTy :=
  match plainCls P 8 t, aggSize P t with
  | some l, some (some _) => some ⟨true, l⟩
  | some l, some none => some ⟨false, l⟩
  | _, _ => none

def compCall (P : Program) (c : Call) : Option IOp :=
  match c.callee with
  | .builtin .len => match c.args.toList, c.argTypes[0]? with
    | [x], some t => match P.underlying t, compOpd x with
      | some .string, some y => some (.lenStr y)
      | some (.slice _), some y => some (.len y)
      | _, _ => none
    | _, _ => none
  | .builtin .append => match c.args.toList, c.argTypes.toList with
    | [x, y], [t, u] => match P.underlying t, compOpd x, compOpd y with
      | some (.slice e), some x', some y' => match P.info? e, P.underlying u with
        | some i, some (.slice _) | some i, some .string => match i.zero with
          | some z => if 0 < i.size ∧ z.cells.size = i.size ∧ i.bytes ≤ 4096 then some (.append i.size x' y') else none
          | none => none
        | _, _ => none
      | _, _, _ => none
    | _, _ => none
  | .builtin .copy => match c.args.toList, c.argTypes.toList with
    | [x, y], t :: _ => match P.underlying t, compOpd x, compOpd y with
      | some (.slice e), some x', some y' => match sizeIn P e with
        | some n => if 0 < n then some (.copy n x' y') else none
        | none => none
      | _, _, _ => none
    | _, _ => none
  | .builtin .max => (compOpds c.args.toList).map .maxi
  | .builtin .min => (compOpds c.args.toList).map .mini
  | .builtin .clear => match c.args.toList, c.argTypes.toList with
    | [x], t :: _ => match P.underlying t, compOpd x with
      | some (.slice e), some x' => match sizeIn P e, zeroCellsOf P e with
        | some n, some z => if z.length = n ∧ 0 < n then some (.clear z x') else none
        | _, _ => none
      | _, _ => none
    | _, _ => none
  | .builtin .delete => match c.args.toList, c.argTypes.toList with
    | [x, k], t :: _ => match P.underlying t, compOpd x, compOpd k with
      | _, _, _ => none
    | _, _ => none
  | .builtin _ => none
  | .value f => match compOpd f, compOpds c.args.toList with
    | some f', some l => some (.call f' l)
    | _, _ => none
  | .invoke _ _ => none

/-- 'loc': the slots whose variables are the frame's own -/
def slotFor (loc : List Nat) (dst : Option Nat) : Option Nat :=
  match dst with
  | some d => if loc.contains d then some d else none
  | none => none

/-- an array's element's size -/
def arrElem (P : Program) (t : TypeId) : Option Nat :=
  match P.underlying t with
  | some (.array _ e) => sizeIn P e
  | _ => none

def compOp (P : Program) (loc : List Nat) (dst : Option Nat) : Op → Option IOp
  | .move x | .assign x => (compOpd x).map .mov
  | .pick a b c => match compOpd a, compOpd b, compOpd c with
    | some x, some y, some z => some (.pick x y z)
    | _, _, _ => none
  | .alloc t => match zeroCellsOf P t, slotFor loc dst with
    | some z, some s => some (.alloc (some s) z)
    | some z, none => match arrElem P t with
      | some e => some (.allocA z e)
      | none => some (.alloc none z)
    | none, _ => none
  | .box t x => match sizeIn P t, compOpd x with
    | some n, some y => some (.box (slotFor loc dst) n y)
    | _, _ => none
  | .build t ps => match zeroCellsOf P t, P.underlying t with
    | some z, some (.struct fs) => if fs.toList.all (fun f => (P.info? f.type).isSome) then (fieldPlaces P fs ps.toList).map (.build z) else none
    | some z, some (.array _ e) => match sizeIn P e with
      | some n => (rowPlaces n ps.toList).map (.build z)
      | none => none
    | _, _ => none
  | .buildSlice t n ps => match P.underlying t with
    | some (.slice e) => match sizeIn P e, zeroCellsOf P e with
      | some s, some z => if n * s ≤ 16777216 ∧ z.length = s ∧ 0 < s then (rowPlaces s ps.toList).map (.buildSlice s n z) else none
      | _, _ => none
    | _ => none
  | .load t x => match aggSize P t, compOpd x with
    | some n, some y => some (.load n y)
    | _, _ => none
  | .store t x y => match sizeIn P t, compOpd x, compOpd y with
    | some n, some x', some y' => some (.store n x' y')
    | _, _, _ => none
  | .nilCheck x => (compOpd x).map .nilCheck
  | .fieldAddr s x f => match P.underlying s, compOpd x with
    | some (.struct fs), some y => match fs[f]? with
      | some fd => match sizeIn P fd.type with
        | some n => if n = 0 then none else some (.fieldAddr fd.offset y)
        | none => none
      | none => none
    | _, _ => none
  | .indexAddr t x i => match P.underlying t, compOpd x, compOpd i with
    | some (.slice e), some x', some i' => (sizeIn P e).map fun n => .idxSlice n x' i'
    | some (.array len e), some x', some i' => (sizeIn P e).map fun n => .idxArr len n x' i'
    | _, _, _ => none
  | .field t x f => match P.underlying t, compOpd x with
    | some (.struct fs), some y => match fs[f]? with
      | some fd => (aggSize P fd.type).map fun n => .field n fd.offset y
      | none => none
    | _, _ => none
  | .index t x i => match P.underlying t, compOpd x, compOpd i with
    | some .string, some x', some i' => some (.idxStr x' i')
    | some (.array len e), some x', some i' => match sizeIn P e, aggSize P e with
      | some s, some n => some (.idxVal len s n x' i')
      | _, _ => none
    | _, _, _ => none
  | .slice t x lo hi none => match P.underlying t, compOpd x, compOpt lo, compOpt hi with
    | some .string, some x', some lo', some hi' => some (.sliceStr x' lo' hi')
    | some (.slice e), some x', some lo', some hi' => (sizeIn P e).map fun n => .sliceSl n x' lo' hi'
    | some (.array len e), some x', some lo', some hi' => (sizeIn P e).map fun n => .sliceArr len n x' lo' hi'
    | _, _, _, _ => none
  | .slice t x none (some hi) (some mx) => match P.underlying t, compOpd x, compOpd hi, compOpd mx with
    | some (.slice e), some x', some hi', some mx' => (sizeIn P e).map fun n => .clip n x' hi' mx'
    | _, _, _, _ => none
  | .binOp op t x y _ => match P.underlying t, compOpd x, compOpd y with
    | some (.int _), some x', some y' | some .string, some x', some y' => some (.bin op x' y')
    | some (.pointer _), some x', some y' => match op with
      | .eql => some (.eqPtr false x' y')
      | .neq => some (.eqPtr true x' y')
      | _ => none
    | some (.slice _), some x', some y' => match op with
      | .eql => some (.eqSl false x' y')
      | .neq => some (.eqSl true x' y')
      | _ => none
    | some _, some x', some y' => match keyCls P t with
      | some cls => if P.eqGuardType P.depth t then none else match op with
        | .eql => some (.eqv false cls x' y')
        | .neq => some (.eqv true cls x' y')
        | _ => none
      | none => none
    | _, _, _ => none
  | .unOp .not _ x => (compOpd x).map .not
  | .unOp .neg _ x => (compOpd x).map .neg
  | .convert s d x => match P.underlying s, P.underlying d, compOpd x with
    | some (.int _), some (.int k), some x' => some (.conv k x')
    | _, _, _ => none
  | .extract x i => (compOpd x).map (.extract · i)
  | .makeFunc (.func f) first cap => if first.size = 0 then (compOpds cap.toList).map (.mkFunc f) else none
  | .makeMap _ none => some .mkMap
  | .makeSlice t n k => match P.underlying t, compOpd n, compOpd k with
    | some (.slice e), some n', some k' => match P.info? e, zeroCellsOf P e with
      | some i, some z => if z.length = i.size ∧ 0 < i.size ∧ i.bytes ≤ 4096 then some (.mkSlice i.size z n' k') else none
      | _, _ => none
    | _, _, _ => none
  | .lookup t x k ok => match P.underlying t, compOpd x, compOpd k with
    | some (.map kt e), some x', some k' => match zeroValOf P e with
      | some z => (keyCls P kt).map fun cls => .lookup ok z cls x' k'
      | none => none
    | _, _, _ => none
  | .call c => compCall P c
  | _ => none

end Go.Ideal

/-
  IDEAL SEMANTICS, 5: THE OPERATIONS THAT ONLY READ: what the ideal semantics says of each the model does.
-/
namespace Go.Ideal
open Go
set_option linter.unusedSectionVars false
variable [Tabs]

/-- each operand's ideal value stands for the model's -/
def OpdOK (ρ : Opd → IVal) (a : Act) (c : Ctx) : Prop := ∀ x y, compOpd x = some y → VRel c (ρ y) (a.eval x)

/-- an operation that changes nothing but its slot -/
def Says (P : Program) (a : Act) (o : Oper) (c : Ctx) (w : World) (v : IVal) : Prop := ∃ rv, (execOp a.eval o).run P w = .ok (.value rv) w ∧ VRel c v rv

section
variable {P : Program} {ρ : Opd → IVal} {a : Act} {c : Ctx} {w : World}

theorem constCell_rel {v : Value} {x : PVal} (h : constCell v = some x) (z : Cells) : PRel z x v := by
  unfold constCell at h
  split at h <;> first | (cases h; done) | (injection h with h; subst h; simp [PRel])

theorem constCell_one {v : Value} {x : PVal} (h : constCell v = some x) : v.oneCell' = true := (constCell_rel h (fun _ _ => none)).one

theorem constCells_rel (c : Ctx) : ∀ {l : List Value} {xs : List PVal}, constCells l = some xs → VsRel c (pcells xs) l
  | [], xs, h => by
    simp only [constCells, Option.some.injEq] at h
    subst h
    simp [pcells, VsRel]
  | v :: r, xs, h => by
    simp only [constCells] at h
    split at h
    · rename_i x l h1 h2
      injection h with h
      subst h
      simp only [pcells, List.map_cons, VsRel]
      exact ⟨v, r, rfl, rfl, by simpa [VRel] using constCell_rel h1 c.z, constCells_rel c h2⟩
    · cases h

theorem constVal_rel {v : Value} {x : IVal} (h : constVal v = some x) (c : Ctx) : VRel c x v := by
  unfold constVal at h
  split at h
  · rename_i cs
    split at h
    · rename_i l hl
      injection h with h
      subst h
      simp only [VRel]
      exact ⟨cs.toList, by simp, constCells_rel c hl⟩
    · cases h
  · split at h
    · rename_i y hy
      injection h with h
      subst h
      simpa [VRel] using constCell_rel hy c.z
    · cases h

theorem compOpds_rel (hρ : OpdOK ρ a c) : ∀ {l : List Operand} {l' : List Opd}, compOpds l = some l' → l'.length = l.length ∧ ∀ (j : Nat) (y : Opd), l'[j]? = some y → ∃ x, l[j]? = some x ∧ VRel c (ρ y) (a.eval x)
  | [], l', h => by simp only [compOpds, Option.some.injEq] at h; subst h; simp
  | x :: r, l', h => by
    simp only [compOpds] at h
    split at h
    · rename_i y l h1 h2
      injection h with h
      subst h
      obtain ⟨hl, hr⟩ := compOpds_rel hρ h2
      refine ⟨by simp [hl], fun j z hz => ?_⟩
      cases j with
      | zero => simp at hz; subst hz; exact ⟨x, by simp, hρ _ _ h1⟩
      | succ j => simp at hz; obtain ⟨x', e, h3⟩ := hr j z hz; exact ⟨x', by simpa using e, h3⟩
    · cases h

/- READING CELLS -/

theorem PCells.list {c : Ctx} {b : Nat} : ∀ {o : Nat} {l : List PVal}, PCells c.z b o l → ∃ rs : List Value, VsRel c (pcells l) rs ∧ ∀ (j : Nat) (u : Value), rs[j]? = some u → c.z b (o + j) = some u
  | _, [], _ => ⟨[], by simp [pcells, VsRel], by simp⟩
  | o, x :: l, h => by
    simp only [PCells] at h
    obtain ⟨⟨r, e, hr⟩, h2⟩ := h
    obtain ⟨rs, h3, h4⟩ := h2.list
    refine ⟨r :: rs, ?_, fun j u hu => ?_⟩
    · simp only [pcells, List.map_cons, VsRel]
      exact ⟨r, rs, rfl, rfl, by simpa [VRel] using hr, h3⟩
    · cases j with
      | zero => simp at hu; subst hu; exact e
      | succ j => simp at hu; rw [← h4 j u hu]; congr 1; omega

theorem read_sound (hW : WRel c w) {n : Nat} {v : IVal} {cs : List IVal} {r : Value} (h : readCells c.M n v = some cs) (hv : VRel c v r) :
    ∃ b o l, r = .pointer (some ⟨b, o, none⟩) ∧ VsRel c cs l ∧ cs.length = n ∧ ∀ (j : Nat) (u : Value), l[j]? = some u → w.cell? ⟨b, o + j, none⟩ = some u := by
  unfold readCells at h
  split at h
  · rename_i pcs
    split at h
    · rename_i hn
      injection h with h
      subst h
      have hn := Nat.le_of_ble_eq_true hn
      simp only [VRel, PRel] at hv
      obtain ⟨b, o, rfl, hc⟩ := hv
      obtain ⟨rs, h3, h4⟩ := (hc.take n).list
      exact ⟨b, o, rs, rfl, h3, by simp [pcells]; omega, fun j u hu => hW.z _ _ _ (h4 j u hu)⟩
    · cases h
  · rename_i k ver off
    split at h
    · rename_i bcs e v op hk
      split at h
      · rename_i hb
        injection h with h
        subst h
        rw [Bool.and_eq_true] at hb
        have h1 := Nat.eq_of_beq_eq_true hb.1
        have h2 := Nat.le_of_ble_eq_true hb.2
        subst h1
        simp only [VRel] at hv
        obtain ⟨ra, rfl, cs', e', v', o', hk', _, h3⟩ := hv
        rw [hk] at hk'
        cases hk'
        obtain ⟨b, q, K, hm, rfl⟩ := h3 rfl
        obtain ⟨C, T, hheap, hq, hlen, _, hcells⟩ := hW.blk k bcs e ver op b q K hk hm
        refine ⟨b, q + off, (C.toList.drop (q + off)).take n, rfl, ?_, by simp; omega, fun j u hu => ?_⟩
        · refine VsRel.of (by simp; omega) fun j x r hx hr => ?_
          rw [List.getElem?_take] at hx hr
          split at hx
          · rename_i hj
            rw [if_pos hj] at hr
            rw [List.getElem?_drop] at hx hr
            obtain ⟨r', e1, e2, e3⟩ := hcells (off + j) x hx
            rw [show q + (off + j) = q + off + j by omega] at e1
            rw [Array.getElem?_toList] at hr
            rw [hr] at e1
            cases e1
            exact ⟨e2, e3⟩
          · cases hx
        · rw [List.getElem?_take] at hu
          split at hu
          · rw [List.getElem?_drop, Array.getElem?_toList] at hu
            simp [World.cell?, hheap, hu]
          · cases hu
      · cases h
    · cases h
  · cases h

theorem addr_add (b o n : Nat) : (⟨b, o, none⟩ : Addr).add n = ⟨b, o + n, none⟩ := by
  unfold Addr.add
  split
  · subst_vars; rfl
  · rfl

theorem run_loads {b o : Nat} {l : List Value} (h : ∀ (j : Nat) (u : Value), l[j]? = some u → w.cell? ⟨b, o + j, none⟩ = some u) :
    (loadCells ⟨b, o, none⟩ l.length).run P w = .ok l.toArray w :=
  run_loadCells_list w ⟨b, o, none⟩ l fun j v hj => by rw [addr_add]; exact h j v hj

theorem aggSize_some {t : TypeId} {n : Nat} (h : aggSize P t = some (some n)) : (isAgg t).run P w = .ok true w ∧ (sizeOf t).run P w = .ok n w := by
  unfold aggSize at h
  split at h
  · rename_i fs hu
    cases hi : P.info? t with
    | none => simp [sizeIn, hi] at h
    | some i =>
      simp [sizeIn, hi] at h
      subst h
      exact ⟨by simp [isAgg, run_underlying hu], by simp [sizeOf, typeInfo, hi]⟩
  · rename_i k e hu
    cases hi : P.info? t with
    | none => simp [sizeIn, hi] at h
    | some i =>
      simp [sizeIn, hi] at h
      subst h
      exact ⟨by simp [isAgg, run_underlying hu], by simp [sizeOf, typeInfo, hi]⟩
  · simp at h
  · cases h

theorem aggSize_none {t : TypeId} (h : aggSize P t = some none) : (isAgg t).run P w = .ok false w := by
  unfold aggSize at h
  split at h
  · cases hi : P.info? t <;> simp [sizeIn, hi] at h
  · cases hi : P.info? t <;> simp [sizeIn, hi] at h
  · rename_i d hd1 hd2 hu
    simp only [isAgg, Sem.run_bind, run_underlying hu, Result.andThen_ok]
    rfl
  · cases h

theorem sizeIn_some {t : TypeId} {n : Nat} (h : sizeIn P t = some n) : (sizeOf t).run P w = .ok n w := by
  cases hi : P.info? t with
  | none => simp [sizeIn, hi] at h
  | some i => simp [sizeIn, hi] at h; subst h; simp [sizeOf, typeInfo, hi]

/-- loading out of an address -/
theorem load_sound (hW : WRel c w) {t : TypeId} {n : Option Nat} (hn : aggSize P t = some n) {v x : IVal} {r : Value} (hv : VRel c v r)
    (h : loadVal c.M n v = some x) :
    ∃ rv ra, r = .pointer (some ra) ∧ (loadVar t ra).run P w = .ok rv w ∧ VRel c x rv := by
  cases n with
  | none =>
    simp only [loadVal] at h
    split at h
    · rename_i y hr
      injection h with h
      subst h
      obtain ⟨b, o, l, rfl, hl, _, hcell⟩ := read_sound hW hr hv
      simp only [VsRel] at hl
      obtain ⟨r, rs, rfl, ho, hy, rfl⟩ := hl
      refine ⟨r, _, rfl, ?_, hy⟩
      have hc := hcell 0 r (by simp)
      simp [loadVar, aggSize_none hn, run_load] at hc ⊢
      simp [hc]
    · cases h
  | some n =>
    simp only [loadVal] at h
    split at h
    · rename_i cs hr
      injection h with h
      subst h
      obtain ⟨b, o, l, rfl, hl, hlen, hcell⟩ := read_sound hW hr hv
      obtain ⟨h1, h2⟩ := aggSize_some (w := w) hn
      refine ⟨.agg l.toArray, _, rfl, ?_, by simp only [VRel]; exact ⟨l, rfl, hl⟩⟩
      have hll : l.length = n := by rw [hl.length, hlen]
      subst hll
      have := run_loads (P := P) hcell
      simp [loadVar, h1, h2, this]
    · cases h

theorem says_load (hρ : OpdOK ρ a c) (hW : WRel c w) {o : Oper} {t : TypeId} {x : Operand} {n : Option Nat} {y : Opd} (ho : o.op = .load t x) (hn : aggSize P t = some n) (hy : compOpd x = some y)
    {v : IVal} {M : Mem} {C : Oracle} (h : evalOp C ρ c.M (.load n y) = some (v, M)) : M = c.M ∧ Says P a o c w v := by
  have hv := hρ _ _ hy
  simp only [evalOp] at h
  split at h
  · rename_i x' hl
    injection h with h
    injection h with h1 h2
    subst h1
    obtain ⟨rv, ra, hra, hrun, hrel⟩ := load_sound (P := P) hW hn hv hl
    refine ⟨h2.symm, rv, ?_, hrel⟩
    simp [execOp, ho, hra, Instr.loadAt, Instr.sureAddr, hrun]
  · cases h

theorem says_mov (hρ : OpdOK ρ a c) {o : Oper} {x : Operand} {y : Opd} (ho : o.op = .move x ∨ o.op = .assign x) (hy : compOpd x = some y) : Says P a o c w (ρ y) := by
  refine ⟨a.eval x, ?_, hρ _ _ hy⟩
  rcases ho with ho | ho <;> simp [execOp, ho]

theorem says_pick (hρ : OpdOK ρ a c) {o : Oper} {x y z : Operand} {x' y' z' : Opd} (ho : o.op = .pick x y z) (hx : compOpd x = some x') (hy : compOpd y = some y') (hz : compOpd z = some z')
    {b : Bool} (hb : ρ x' = .p (.bool b)) : Says P a o c w (if b then ρ y' else ρ z') := by
  have h := hρ _ _ hx
  rw [hb] at h
  simp only [VRel, PRel] at h
  refine ⟨if b then a.eval y else a.eval z, ?_, ?_⟩
  · cases b <;> simp [execOp, ho, h, asBool]
  · cases b
    · exact hρ _ _ hz
    · exact hρ _ _ hy

theorem says_nilCheck (hρ : OpdOK ρ a c) {o : Oper} {x : Operand} {y : Opd} (ho : o.op = .nilCheck x) (hy : compOpd x = some y)
    {v : IVal} {M : Mem} {C : Oracle} (h : evalOp C ρ c.M (.nilCheck y) = some (v, M)) : M = c.M ∧ Says P a o c w v := by
  have hv := hρ _ _ hy
  simp only [evalOp] at h
  split at h <;> first | (cases h; done) | skip
  · rename_i e
    injection h with h
    injection h with h1 h2
    subst h1
    rw [e] at hv
    refine ⟨h2.symm, a.eval x, ?_, hv⟩
    simp only [VRel, PRel] at hv
    obtain ⟨b, q, hr, _⟩ := hv
    simp [execOp, ho, hr]
  · rename_i e
    injection h with h
    injection h with h1 h2
    subst h1
    rw [e] at hv
    refine ⟨h2.symm, a.eval x, ?_, hv⟩
    simp only [VRel] at hv
    obtain ⟨b, hr, _⟩ := hv
    simp [execOp, ho, hr]
  · rename_i e
    injection h with h
    injection h with h1 h2
    subst h1
    rw [e] at hv
    refine ⟨h2.symm, a.eval x, ?_, hv⟩
    simp only [VRel] at hv
    obtain ⟨l, hr, _⟩ := hv
    simp [execOp, ho, hr]
  · rename_i e
    injection h with h
    injection h with h1 h2
    subst h1
    rw [e] at hv
    refine ⟨h2.symm, a.eval x, ?_, hv⟩
    simp only [VRel, PRel] at hv
    simp [execOp, ho, hv]

theorem fieldPlace_run {b o : Nat} {fd : Field} {n : Nat} (hs : sizeIn P fd.type = some n) (hn : n ≠ 0) : (fieldPlace ⟨b, o, none⟩ fd).run P w = .ok ⟨b, o + fd.offset, none⟩ w := by
  simp [fieldPlace, sizeIn_some (w := w) hs, hn, addr_add]

theorem says_fieldAddr (hρ : OpdOK ρ a c) {o : Oper} {s : TypeId} {x : Operand} {f : Nat} {y : Opd} {fs : Array Field} {fd : Field} {n : Nat} (ho : o.op = .fieldAddr s x f) (hu : P.underlying s = some (.struct fs)) (hf : fs[f]? = some fd) (hs : sizeIn P fd.type = some n) (hn : n ≠ 0) (hy : compOpd x = some y)
    {v : IVal} {M : Mem} {C : Oracle} (h : evalOp C ρ c.M (.fieldAddr fd.offset y) = some (v, M)) : M = c.M ∧ Says P a o c w v := by
  have hv := hρ _ _ hy
  simp only [evalOp] at h
  split at h
  · rename_i cs e
    split at h
    · rename_i hle
      injection h with h
      injection h with h1 h2
      subst h1
      rw [e] at hv
      simp only [VRel, PRel] at hv
      obtain ⟨b, q, hr, hc⟩ := hv
      refine ⟨h2.symm, .pointer (some ⟨b, q + fd.offset, none⟩), ?_, ?_⟩
      · simp [execOp, ho, hr, Instr.fieldAt, run_underlying hu, hf, Instr.sureAddr, fieldPlace_run hs hn]
      · simp only [VRel, PRel]; exact ⟨b, _, rfl, hc.drop _⟩
    · cases h
  · rename_i k ver off e
    injection h with h
    injection h with h1 h2
    subst h1
    rw [e] at hv
    simp only [VRel] at hv
    obtain ⟨ra, hr, cs, e', v', o', hk, hle, hm⟩ := hv
    by_cases hver : ver = v'
    · obtain ⟨b, q, K, hm', rfl⟩ := hm hver
      refine ⟨h2.symm, .pointer (some ⟨b, q + off + fd.offset, none⟩), ?_, ?_⟩
      · simp [execOp, ho, hr, Instr.fieldAt, run_underlying hu, hf, Instr.sureAddr, fieldPlace_run hs hn]
      · simp only [VRel]
        exact ⟨_, rfl, cs, e', v', o', hk, hle, fun _ => ⟨b, q, K, hm', by rw [Nat.add_assoc]⟩⟩
    · refine ⟨h2.symm, .pointer (some (ra.add fd.offset)), ?_, ?_⟩
      · simp [execOp, ho, hr, Instr.fieldAt, run_underlying hu, hf, Instr.sureAddr, fieldPlace, sizeIn_some (w := w) hs, hn]
      · simp only [VRel]
        exact ⟨_, rfl, cs, e', v', o', hk, hle, fun hh => absurd hh hver⟩
  · cases h

end
end Go.Ideal

/-
  IDEAL SEMANTICS, 6: INDEXES, SLICES, ARITHMETIC.
-/
namespace Go.Ideal
open Go
set_option linter.unusedSectionVars false
variable [Tabs]
section
variable {P : Program} {ρ : Opd → IVal} {a : Act} {c : Ctx} {w : World}

theorem asIndex_rel {n : Nat} {v : IVal} {j : Nat} {r : Value} (h : asIndex n v = some j) (hv : VRel c v r) : ∃ k, r = .int k (j : Int) ∧ j < n := by
  unfold asIndex at h
  split at h
  · rename_i k i
    split at h
    · rename_i hi
      injection h with h
      simp only [VRel, PRel] at hv
      refine ⟨k, ?_, by omega⟩
      rw [hv, ← h]
      congr 1
      omega
    · cases h
  · cases h

theorem asBound_rel {n : Nat} {v : IVal} {j : Nat} {r : Value} (h : asBound n v = some j) (hv : VRel c v r) : ∃ k, r = .int k (j : Int) ∧ j ≤ n := by
  unfold asBound at h
  split at h
  · rename_i k i
    split at h
    · rename_i hi
      injection h with h
      simp only [VRel, PRel] at hv
      refine ⟨k, ?_, by omega⟩
      rw [hv, ← h]
      congr 1
      omega
    · cases h
  · cases h

theorem says_idxSlice (hρ : OpdOK ρ a c) {o : Oper} {t e : TypeId} {x i : Operand} {y z : Opd} {n : Nat} (ho : o.op = .indexAddr t x i) (hu : P.underlying t = some (.slice e)) (hs : sizeIn P e = some n) (hy : compOpd x = some y) (hz : compOpd i = some z)
    {v : IVal} {M : Mem} {C : Oracle} (h : evalOp C ρ c.M (.idxSlice n y z) = some (v, M)) : M = c.M ∧ Says P a o c w v := by
  have hv := hρ _ _ hy
  have hi := hρ _ _ hz
  simp only [evalOp] at h
  split at h
  · rename_i e' m cs ex
    split at h
    · rename_i j hb hj
      injection h with h
      injection h with h1 h2
      subst h1
      have := Nat.eq_of_beq_eq_true hb
      subst this
      obtain ⟨k, hr, hlt⟩ := asIndex_rel hj hi
      rw [ex] at hv
      simp only [VRel, PRel] at hv
      obtain ⟨ra, cap, hx, hcap, hlen, hc⟩ := hv
      rcases hc with h0 | ⟨b, q, rfl, hc⟩
      · omega
      · refine ⟨h2.symm, .pointer (some ⟨b, q + j * e', none⟩), ?_, ?_⟩
        · have hlt' : (j : Int) < (m : Int) := by omega
          simp [execOp, ho, hr, hx, Instr.indexAt, asIntOf, run_underlying hu, sizeIn_some (w := w) hs, hlt, addr_add]
        · simp only [VRel, PRel]
          exact ⟨b, _, rfl, hc.drop _⟩
    · cases h
  · rename_i k ver off m ex
    split at h
    · rename_i j hj
      injection h with h
      injection h with h1 h2
      subst h1
      obtain ⟨kk, hr, hlt⟩ := asIndex_rel hj hi
      rw [ex] at hv
      simp only [VRel] at hv
      obtain ⟨ra, cap, hx, cs, e', v', o', hk, hle, hm⟩ := hv
      refine ⟨h2.symm, .pointer (some (ra.add (j * n))), ?_, ?_⟩
      · simp [execOp, ho, hr, hx, Instr.indexAt, asIntOf, run_underlying hu, sizeIn_some (w := w) hs, hlt]
      · simp only [VRel]
        refine ⟨_, rfl, cs, e', v', o', hk, hle, fun hver => ?_⟩
        obtain ⟨b, q, K, hm', hcap, hblk, hspot, hoff, hK⟩ := hm hver
        refine ⟨b, q, K, hm', ?_⟩
        rcases hoff with h0 | hoff
        · omega
        · obtain ⟨rb, ro, rs⟩ := ra
          simp only at hblk hspot hoff
          subst hblk hspot hoff
          rw [addr_add, Nat.add_assoc]
    · cases h
  · cases h

theorem says_idxArr (hρ : OpdOK ρ a c) {o : Oper} {t e : TypeId} {x i : Operand} {y z : Opd} {len n : Nat} (ho : o.op = .indexAddr t x i) (hu : P.underlying t = some (.array len e)) (hs : sizeIn P e = some n) (hy : compOpd x = some y) (hz : compOpd i = some z)
    {v : IVal} {M : Mem} {C : Oracle} (h : evalOp C ρ c.M (.idxArr len n y z) = some (v, M)) : M = c.M ∧ Says P a o c w v := by
  have hv := hρ _ _ hy
  have hi := hρ _ _ hz
  simp only [evalOp] at h
  split at h
  · rename_i j hj
    obtain ⟨kk, hr, hlt⟩ := asIndex_rel hj hi
    split at h
    · rename_i cs ex
      split at h
      · injection h with h
        injection h with h1 h2
        subst h1
        rw [ex] at hv
        simp only [VRel, PRel] at hv
        obtain ⟨b, q, hx, hc⟩ := hv
        refine ⟨h2.symm, .pointer (some ⟨b, q + j * n, none⟩), ?_, ?_⟩
        · simp [execOp, ho, hr, hx, Instr.indexAt, asIntOf, run_underlying hu, sizeIn_some (w := w) hs, hlt, addr_add, Instr.sureAddr]
        · simp only [VRel, PRel]
          exact ⟨b, _, rfl, hc.drop _⟩
      · cases h
    · rename_i k ver off ex
      injection h with h
      injection h with h1 h2
      subst h1
      rw [ex] at hv
      simp only [VRel] at hv
      obtain ⟨ra, hx, cs, e', v', o', hk, hle, hm⟩ := hv
      refine ⟨h2.symm, .pointer (some (ra.add (j * n))), ?_, ?_⟩
      · simp [execOp, ho, hr, hx, Instr.indexAt, asIntOf, run_underlying hu, sizeIn_some (w := w) hs, hlt, Instr.sureAddr]
      · simp only [VRel]
        refine ⟨_, rfl, cs, e', v', o', hk, hle, fun hver => ?_⟩
        obtain ⟨b, q, K, hm', rfl⟩ := hm hver
        exact ⟨b, q, K, hm', by rw [addr_add, Nat.add_assoc]⟩
    · cases h
  · cases h

theorem part_sound {t : TypeId} {n : Option Nat} (hn : aggSize P t = some n) {cs : List IVal} {l : List Value} (hl : VsRel c cs l) {off : Nat} {v : IVal}
    (h : (match n with
      | none => cs[off]?
      | some n => match Nat.ble (off + n) cs.length with
        | true => some (IVal.agg ((cs.drop off).take n))
        | false => none) = some v) : ∃ rv, (part t l.toArray off).run P w = .ok rv w ∧ VRel c v rv := by
  cases n with
  | none =>
    simp only at h
    obtain ⟨r, e, _, hr⟩ := hl.at off v h
    refine ⟨r, ?_, hr⟩
    simp [part, aggSize_none hn, e]
  | some n =>
    simp only at h
    split at h
    · injection h with h
      subst h
      obtain ⟨h1, h2⟩ := aggSize_some (w := w) hn
      refine ⟨.agg ((l.drop off).take n).toArray, ?_, by simp only [VRel]; exact ⟨_, rfl, (hl.drop off).take n⟩⟩
      simp only [part, Sem.run_bind, h1, Result.andThen_ok, if_true, h2]
      simp [List.extract_eq_take_drop]
    · cases h

theorem says_field (hρ : OpdOK ρ a c) {o : Oper} {t : TypeId} {x : Operand} {f : Nat} {y : Opd} {fs : Array Field} {fd : Field} {n : Option Nat} (ho : o.op = .field t x f) (hu : P.underlying t = some (.struct fs)) (hf : fs[f]? = some fd) (hs : aggSize P fd.type = some n) (hy : compOpd x = some y)
    {v : IVal} {M : Mem} {C : Oracle} (h : evalOp C ρ c.M (.field n fd.offset y) = some (v, M)) : M = c.M ∧ Says P a o c w v := by
  have hv := hρ _ _ hy
  simp only [evalOp] at h
  split at h
  · rename_i cs ex
    rw [ex] at hv
    simp only [VRel] at hv
    obtain ⟨l, hr, hl⟩ := hv
    have key : ∀ rv, (part fd.type l.toArray fd.offset).run P w = .ok rv w → (execOp a.eval o).run P w = .ok (.value rv) w := by
      intro rv hrv
      simp [execOp, ho, hr, Instr.field, run_underlying hu, hf, asAgg, hrv]
    cases n with
    | none =>
      simp only at h
      split at h
      · rename_i u hg
        injection h with h
        injection h with h1 h2
        subst h1
        obtain ⟨rv, h3, h4⟩ := part_sound (P := P) (w := w) hs hl (off := fd.offset) (v := u) (by simpa using hg)
        exact ⟨h2.symm, rv, key rv h3, h4⟩
      · cases h
    | some n =>
      simp only at h
      split at h
      · rename_i hg
        injection h with h
        injection h with h1 h2
        subst h1
        obtain ⟨rv, h3, h4⟩ := part_sound (P := P) (w := w) hs hl (off := fd.offset) (v := .agg ((cs.drop fd.offset).take n)) (by simp [hg])
        exact ⟨h2.symm, rv, key rv h3, h4⟩
      · cases h
  · cases h

theorem says_idxVal (hρ : OpdOK ρ a c) {o : Oper} {t e : TypeId} {x i : Operand} {y z : Opd} {len s : Nat} {n : Option Nat} (ho : o.op = .index t x i) (hu : P.underlying t = some (.array len e)) (hss : sizeIn P e = some s) (hs : aggSize P e = some n) (hy : compOpd x = some y) (hz : compOpd i = some z)
    {v : IVal} {M : Mem} {C : Oracle} (h : evalOp C ρ c.M (.idxVal len s n y z) = some (v, M)) : M = c.M ∧ Says P a o c w v := by
  have hv := hρ _ _ hy
  have hi := hρ _ _ hz
  simp only [evalOp] at h
  split at h
  · rename_i cs j ex hj
    obtain ⟨kk, hri, hlt⟩ := asIndex_rel hj hi
    rw [ex] at hv
    simp only [VRel] at hv
    obtain ⟨l, hr, hl⟩ := hv
    have key : ∀ rv, (part e l.toArray (j * s)).run P w = .ok rv w → (execOp a.eval o).run P w = .ok (.value rv) w := by
      intro rv hrv
      simp [execOp, ho, hr, hri, Instr.index, asIntOf, run_underlying hu, hlt, sizeIn_some (w := w) hss, hrv]
    cases n with
    | none =>
      simp only at h
      split at h
      · rename_i u hg
        injection h with h
        injection h with h1 h2
        subst h1
        obtain ⟨rv, h3, h4⟩ := part_sound (P := P) (w := w) hs hl (off := j * s) (v := u) (by simpa using hg)
        exact ⟨h2.symm, rv, key rv h3, h4⟩
      · cases h
    | some n =>
      simp only at h
      split at h
      · rename_i hg
        injection h with h
        injection h with h1 h2
        subst h1
        obtain ⟨rv, h3, h4⟩ := part_sound (P := P) (w := w) hs hl (off := j * s) (v := .agg ((cs.drop (j * s)).take n)) (by simp [hg])
        exact ⟨h2.symm, rv, key rv h3, h4⟩
      · cases h
  · cases h

theorem bytes_get (s : List UInt8) (j : Nat) : (⟨s.toArray⟩ : ByteArray)[j]? = s[j]? := by
  by_cases h : j < s.length
  · have h' : j < (⟨s.toArray⟩ : ByteArray).size := by simpa [ByteArray.size] using h
    rw [List.getElem?_eq_getElem h]
    exact (getElem?_pos (⟨s.toArray⟩ : ByteArray) j h').trans rfl
  · have h' : ¬ j < (⟨s.toArray⟩ : ByteArray).size := by simpa [ByteArray.size] using h
    rw [List.getElem?_eq_none (by omega)]
    exact getElem?_neg (⟨s.toArray⟩ : ByteArray) j h'

theorem says_idxStr (hρ : OpdOK ρ a c) {o : Oper} {t : TypeId} {x i : Operand} {y z : Opd} (ho : o.op = .index t x i) (hu : P.underlying t = some .string) (hy : compOpd x = some y) (hz : compOpd i = some z)
    {v : IVal} {M : Mem} {C : Oracle} (h : evalOp C ρ c.M (.idxStr y z) = some (v, M)) : M = c.M ∧ Says P a o c w v := by
  have hv := hρ _ _ hy
  have hi := hρ _ _ hz
  simp only [evalOp] at h
  split at h
  · rename_i s ex
    split at h
    · rename_i j hj
      split at h
      · rename_i b hb
        injection h with h
        injection h with h1 h2
        subst h1
        obtain ⟨kk, hri, hlt⟩ := asIndex_rel hj hi
        rw [ex] at hv
        simp only [VRel, PRel] at hv
        refine ⟨h2.symm, .int .u8 b.toNat, ?_, by simp only [VRel, PRel]⟩
        have hg : (⟨s.toArray⟩ : ByteArray)[j]? = some b := by rw [bytes_get]; exact hb
        simp [execOp, ho, hv, hri, Instr.index, asIntOf, run_underlying hu, hg]
      · cases h
    · cases h
  · cases h

theorem says_not (hρ : OpdOK ρ a c) {o : Oper} {t : TypeId} {x : Operand} {y : Opd} (ho : o.op = .unOp .not t x) (hy : compOpd x = some y)
    {v : IVal} {M : Mem} {C : Oracle} (h : evalOp C ρ c.M (.not y) = some (v, M)) : M = c.M ∧ Says P a o c w v := by
  have hv := hρ _ _ hy
  simp only [evalOp] at h
  split at h
  · rename_i b ex
    injection h with h
    injection h with h1 h2
    subst h1
    rw [ex] at hv
    simp only [VRel, PRel] at hv
    exact ⟨h2.symm, .bool !b, by simp [execOp, ho, hv, Op.unary], by simp only [VRel, PRel]⟩
  · cases h

theorem says_neg (hρ : OpdOK ρ a c) {o : Oper} {t : TypeId} {x : Operand} {y : Opd} (ho : o.op = .unOp .neg t x) (hy : compOpd x = some y)
    {v : IVal} {M : Mem} {C : Oracle} (h : evalOp C ρ c.M (.neg y) = some (v, M)) : M = c.M ∧ Says P a o c w v := by
  have hv := hρ _ _ hy
  simp only [evalOp] at h
  split at h
  · rename_i k n ex
    injection h with h
    injection h with h1 h2
    subst h1
    rw [ex] at hv
    simp only [VRel, PRel] at hv
    exact ⟨h2.symm, .int k (k.wrap (0 - n)), by simp [execOp, ho, hv, Op.unary, Op.intArith], by simp only [VRel, PRel]⟩
  · cases h

theorem says_conv (hρ : OpdOK ρ a c) {o : Oper} {s d : TypeId} {x : Operand} {y : Opd} {k k' : IntKind} (ho : o.op = .convert s d x) (hs : P.underlying s = some (.int k')) (hd : P.underlying d = some (.int k)) (hy : compOpd x = some y)
    {v : IVal} {M : Mem} {C : Oracle} (h : evalOp C ρ c.M (.conv k y) = some (v, M)) : M = c.M ∧ Says P a o c w v := by
  have hv := hρ _ _ hy
  simp only [evalOp] at h
  split at h
  · rename_i l n ex
    injection h with h
    injection h with h1 h2
    subst h1
    rw [ex] at hv
    simp only [VRel, PRel] at hv
    exact ⟨h2.symm, .int k (k.wrap n), by simp [execOp, ho, hv, convert, run_underlying hs, run_underlying hd, Conv.intToInt], by simp only [VRel, PRel]⟩
  · cases h

theorem TsRel.at {c : Ctx} : ∀ {vs : List IVal} {l : List Value}, TsRel c vs l → ∀ (j : Nat) (v : IVal), vs[j]? = some v → ∃ r : Value, l[j]? = some r ∧ v.passOK = true ∧ VRel c v r
  | [], _, _, j, v, h => by simp at h
  | x :: vs, l, hc, j, v, h => by
    simp only [TsRel] at hc
    obtain ⟨r, rs, rfl, ho, hv, h2⟩ := hc
    cases j with
    | zero => simp at h; subst h; exact ⟨r, by simp, ho, hv⟩
    | succ j => simp at h; obtain ⟨r', e, h3⟩ := h2.at j v h; exact ⟨r', by simpa using e, h3⟩

theorem says_extract (hρ : OpdOK ρ a c) {o : Oper} {x : Operand} {i : Nat} {y : Opd} (ho : o.op = .extract x i) (hy : compOpd x = some y)
    {v : IVal} {M : Mem} {C : Oracle} (h : evalOp C ρ c.M (.extract y i) = some (v, M)) : M = c.M ∧ Says P a o c w v := by
  have hv := hρ _ _ hy
  simp only [evalOp] at h
  split at h
  · rename_i vs ex
    split at h
    · rename_i u hg
      injection h with h
      injection h with h1 h2
      subst h1
      rw [ex] at hv
      simp only [VRel] at hv
      obtain ⟨l, hr, hl⟩ := hv
      obtain ⟨r, e, _, h3⟩ := hl.at i u hg
      exact ⟨h2.symm, r, by simp [execOp, ho, hr, Instr.extract, e], h3⟩
    · cases h
  · cases h

theorem opds_list (hρ : OpdOK ρ a c) : ∀ {l : List Operand} {l' : List Opd}, compOpds l = some l' → cellsOK (l'.map ρ) = true → VsRel c (l'.map ρ) (l.map a.eval)
  | [], l', h, _ => by simp only [compOpds, Option.some.injEq] at h; subst h; simp [VsRel]
  | x :: r, l', h, hok => by
    simp only [compOpds] at h
    split at h
    · rename_i y l h1 h2
      injection h with h
      subst h
      simp only [List.map_cons, cellsOK] at hok
      split at hok
      · rename_i ho
        simp only [List.map_cons, VsRel]
        exact ⟨_, _, rfl, ho, hρ _ _ h1, opds_list hρ h2 hok⟩
      · cases hok
    · cases h

theorem opds_pass (hρ : OpdOK ρ a c) : ∀ {l : List Operand} {l' : List Opd}, compOpds l = some l' → passesOK (l'.map ρ) = true → TsRel c (l'.map ρ) (l.map a.eval)
  | [], l', h, _ => by simp only [compOpds, Option.some.injEq] at h; subst h; simp [TsRel]
  | x :: r, l', h, hok => by
    simp only [compOpds] at h
    split at h
    · rename_i y l h1 h2
      injection h with h
      subst h
      simp only [List.map_cons, passesOK] at hok
      split at hok
      · rename_i ho
        simp only [List.map_cons, TsRel]
        exact ⟨_, _, rfl, ho, hρ _ _ h1, opds_pass hρ h2 hok⟩
      · cases hok
    · cases h

theorem says_mkFunc (hρ : OpdOK ρ a c) {o : Oper} {f : FuncId} {first cap : Array Operand} {l : List Opd} (ho : o.op = .makeFunc (.func f) first cap) (hf : first.size = 0) (hy : compOpds cap.toList = some l)
    {v : IVal} {M : Mem} {C : Oracle} (h : evalOp C ρ c.M (.mkFunc f l) = some (v, M)) : M = c.M ∧ Says P a o c w v := by
  simp only [evalOp] at h
  split at h
  · rename_i hok
    injection h with h
    injection h with h1 h2
    subst h1
    have hf' : first = #[] := Array.eq_empty_of_size_eq_zero hf
    refine ⟨h2.symm, .func (.func f) #[] (cap.map a.eval), by simp [execOp, ho, Instr.makeFunc, hf'], ?_⟩
    simp only [VRel]
    exact ⟨cap.toList.map a.eval, by rw [← Array.toList_map], opds_list hρ hy hok⟩
  · cases h

theorem sliceLen_rel {v : IVal} {n : Nat} {r : Value} (h : sliceLen v = some n) (hv : VRel c v r) : ∃ a cap, r = .slice a n cap := by
  unfold sliceLen at h
  split at h <;> first | (cases h; done) | skip
  · injection h with h; subst h; simp only [VRel, PRel] at hv; exact ⟨_, _, hv⟩
  · injection h with h; subst h; simp only [VRel, PRel] at hv; obtain ⟨a, cap, rfl, _⟩ := hv; exact ⟨_, _, rfl⟩
  · injection h with h; subst h; simp only [VRel] at hv; obtain ⟨a, cap, rfl, _⟩ := hv; exact ⟨_, _, rfl⟩

theorem says_len (hρ : OpdOK ρ a c) {o : Oper} {cl : Call} {t e : TypeId} {x : Operand} {y : Opd} (ho : o.op = .call cl) (hb : cl.callee = .builtin .len) (hx : cl.args.toList = [x]) (ht : cl.argTypes[0]? = some t)
    (hu : P.underlying t = some (.slice e)) (hy : compOpd x = some y)
    {v : IVal} {M : Mem} {C : Oracle} (h : evalOp C ρ c.M (.len y) = some (v, M)) : M = c.M ∧ Says P a o c w v := by
  have hv := hρ _ _ hy
  simp only [evalOp] at h
  split at h
  · rename_i n hn
    injection h with h
    injection h with h1 h2
    subst h1
    have hargs : cl.args = #[x] := by rw [← Array.toArray_toList (xs := cl.args), hx]
    obtain ⟨ra, cap, hr⟩ := sliceLen_rel hn hv
    refine ⟨h2.symm, .int .i64 n, ?_, by simp only [VRel, PRel]⟩
    simp [execOp, ho, resolve, hb, hargs, invoke, builtin, Builtin.len_, ht, run_underlying hu, hr, goInt]
  · cases h

theorem says_lenStr (hρ : OpdOK ρ a c) {o : Oper} {cl : Call} {t : TypeId} {x : Operand} {y : Opd} (ho : o.op = .call cl) (hb : cl.callee = .builtin .len) (hx : cl.args.toList = [x]) (ht : cl.argTypes[0]? = some t)
    (hu : P.underlying t = some .string) (hy : compOpd x = some y)
    {v : IVal} {M : Mem} {C : Oracle} (h : evalOp C ρ c.M (.lenStr y) = some (v, M)) : M = c.M ∧ Says P a o c w v := by
  have hv := hρ _ _ hy
  simp only [evalOp] at h
  split at h
  · rename_i s ex
    injection h with h
    injection h with h1 h2
    subst h1
    have hargs : cl.args = #[x] := by rw [← Array.toArray_toList (xs := cl.args), hx]
    rw [ex] at hv
    simp only [VRel, PRel] at hv
    refine ⟨h2.symm, .int .i64 s.length, ?_, by simp only [VRel, PRel]⟩
    have hsz : (⟨s.toArray⟩ : ByteArray).size = s.length := by simp [ByteArray.size]
    simp only [execOp, ho, resolve, hb, hargs, Sem.run_bind, Sem.run_pure, Result.andThen_ok, invoke, builtin, Builtin.len_, ht]
    simp [run_underlying hu, hv, goInt, hsz]
  · cases h

end
end Go.Ideal

/-
  IDEAL SEMANTICS, 7: SLICE EXPRESSIONS, OPERATORS, COMPOSITE VALUES.
-/
namespace Go.Ideal
open Go
set_option linter.unusedSectionVars false
variable [Tabs]
section
variable {P : Program} {ρ : Opd → IVal} {a : Act} {c : Ctx} {w : World}

theorem run_bound {v : Value} {k : IntKind} {j y : Nat} (code : BoundsCode) (h : v = .int k (j : Int)) (hj : j ≤ y) : (Instr.sliceBound v y code).run P w = .ok j w := by
  subst h
  have : (j : Int) ≤ (y : Int) := by omega
  simp [Instr.sliceBound, asIntOf, this]

theorem run_bounds (hρ : OpdOK ρ a c) {lo hi : Option Operand} {lo' hi' : Option Opd} (hlo : compOpt lo = some lo') (hhi : compOpt hi = some hi') {b : Bool} {n cap h l : Nat} (hn : n ≤ cap) (hh : boundHi ρ n hi' = some h) (hl : boundLo ρ h lo' = some l) :
    (Instr.sliceBounds b n cap (lo.map a.eval) (hi.map a.eval) none).run P w = .ok (l, h, cap) w ∧ l ≤ h ∧ h ≤ n := by
  have h1 : (match hi.map a.eval with | some v => Instr.sliceBound v cap (if b then .sliceAcap else .sliceAlen) | none => pure n : Sem Nat).run P w = .ok h w ∧ h ≤ n := by
    cases hi with
    | none =>
      simp only [compOpt, Option.some.injEq] at hhi
      subst hhi
      simp only [boundHi, Option.some.injEq] at hh
      subst hh
      exact ⟨rfl, Nat.le_refl _⟩
    | some x =>
      simp only [compOpt] at hhi
      split at hhi
      · rename_i y hy
        injection hhi with hhi
        subst hhi
        simp only [boundHi] at hh
        obtain ⟨k, hk, hle⟩ := asBound_rel hh (hρ _ _ hy)
        exact ⟨run_bound _ hk (by omega), hle⟩
      · cases hhi
  have h2 : (match lo.map a.eval with | some v => Instr.sliceBound v h .sliceB | none => pure 0 : Sem Nat).run P w = .ok l w ∧ l ≤ h := by
    cases lo with
    | none =>
      simp only [compOpt, Option.some.injEq] at hlo
      subst hlo
      simp only [boundLo, Option.some.injEq] at hl
      subst hl
      exact ⟨rfl, Nat.zero_le _⟩
    | some x =>
      simp only [compOpt] at hlo
      split at hlo
      · rename_i y hy
        injection hlo with hlo
        subst hlo
        simp only [boundLo] at hl
        obtain ⟨k, hk, hle⟩ := asBound_rel hl (hρ _ _ hy)
        exact ⟨run_bound _ hk hle, hle⟩
      · cases hlo
  refine ⟨?_, h2.2, h1.2⟩
  have e1 := h1.1
  have e2 := h2.1
  cases hi with
  | none =>
    cases lo with
    | none => simp only [Option.map_none] at e1 e2 ⊢; simp [Instr.sliceBounds] at e1 e2 ⊢; exact ⟨e2, e1⟩
    | some y => simp only [Option.map_none, Option.map_some] at e1 e2 ⊢; simp [Instr.sliceBounds] at e1 ⊢; subst e1; simp [e2]
  | some x =>
    cases lo with
    | none => simp only [Option.map_none, Option.map_some] at e1 e2 ⊢; simp [Instr.sliceBounds, e1] at e2 ⊢; exact e2
    | some y => simp only [Option.map_some] at e1 e2 ⊢; simp [Instr.sliceBounds, e1, e2]

theorem bytes_extract (s : List UInt8) (l h : Nat) : (⟨s.toArray⟩ : ByteArray).extract l h = ⟨((s.drop l).take (h - l)).toArray⟩ := by
  apply ByteArray.ext
  simp [ByteArray.data_extract, List.extract_eq_take_drop]

theorem says_sliceStr (hρ : OpdOK ρ a c) {o : Oper} {t : TypeId} {x : Operand} {lo hi : Option Operand} {y : Opd} {lo' hi' : Option Opd} (ho : o.op = .slice t x lo hi none) (hu : P.underlying t = some .string) (hy : compOpd x = some y) (hlo : compOpt lo = some lo') (hhi : compOpt hi = some hi')
    {v : IVal} {M : Mem} {C : Oracle} (h : evalOp C ρ c.M (.sliceStr y lo' hi') = some (v, M)) : M = c.M ∧ Says P a o c w v := by
  have hv := hρ _ _ hy
  simp only [evalOp] at h
  split at h
  · rename_i s ex
    split at h
    · rename_i hb hh
      split at h
      · rename_i lb hl
        injection h with h
        injection h with h1 h2
        subst h1
        rw [ex] at hv
        simp only [VRel, PRel] at hv
        have hsz : (⟨s.toArray⟩ : ByteArray).size = s.length := by simp [ByteArray.size]
        obtain ⟨hrun, _, _⟩ := run_bounds (P := P) (w := w) (b := false) hρ hlo hhi (Nat.le_refl s.length) hh hl
        refine ⟨h2.symm, .string ⟨((s.drop lb).take (hb - lb)).toArray⟩, ?_, by simp only [VRel, PRel]⟩
        simp only [execOp, ho, Instr.sliceAt, hv, Option.map_none]
        simp [run_underlying hu, Instr.slice, hsz, hrun, bytes_extract]
      · cases h
    · cases h
  · cases h

theorem says_sliceSl (hρ : OpdOK ρ a c) {o : Oper} {t e : TypeId} {x : Operand} {lo hi : Option Operand} {y : Opd} {lo' hi' : Option Opd} {n : Nat} (ho : o.op = .slice t x lo hi none) (hu : P.underlying t = some (.slice e)) (hs : sizeIn P e = some n) (hy : compOpd x = some y) (hlo : compOpt lo = some lo') (hhi : compOpt hi = some hi')
    {v : IVal} {M : Mem} {C : Oracle} (h : evalOp C ρ c.M (.sliceSl n y lo' hi') = some (v, M)) : M = c.M ∧ Says P a o c w v := by
  have hv := hρ _ _ hy
  have key : ∀ (ra : Option Addr) (len cap l h : Nat), a.eval x = .slice ra len cap → (Instr.sliceBounds true len cap (lo.map a.eval) (hi.map a.eval) none).run P w = .ok (l, h, cap) w →
      (execOp a.eval o).run P w = .ok (.value (.slice (if cap = l then ra else ra.map (·.add (l * n))) (h - l) (cap - l))) w := by
    intro ra len cap l h hx hb
    simp only [execOp, ho, Instr.sliceAt, hx, Option.map_none]
    simp [run_underlying hu, Instr.slice, hb, sizeIn_some (w := w) hs]
  simp only [evalOp] at h
  split at h
  · rename_i ex
    split at h
    · rename_i hb hh
      split at h
      · rename_i lb hl
        injection h with h
        injection h with h1 h2
        subst h1
        rw [ex] at hv
        simp only [VRel, PRel] at hv
        obtain ⟨hrun, h3, h4⟩ := run_bounds (P := P) (w := w) (b := true) hρ hlo hhi (Nat.le_refl 0) hh hl
        refine ⟨h2.symm, _, key _ _ _ _ _ hv hrun, ?_⟩
        simp only [VRel, PRel]
        have : lb = 0 := by omega
        have : hb = 0 := by omega
        subst_vars
        simp
      · cases h
    · cases h
  · rename_i e' m cs ex
    split at h
    · rename_i hb he hh
      split at h
      · rename_i lb hl
        injection h with h
        injection h with h1 h2
        subst h1
        have := Nat.eq_of_beq_eq_true he
        subst this
        rw [ex] at hv
        simp only [VRel, PRel] at hv
        obtain ⟨ra, cap, hx, hcap, hlen, hc⟩ := hv
        obtain ⟨hrun, h3, h4⟩ := run_bounds (P := P) (w := w) (b := true) hρ hlo hhi hcap hh hl
        refine ⟨h2.symm, _, key _ _ _ _ _ hx hrun, ?_⟩
        simp only [VRel, PRel]
        have hlen' : ((cs.drop (lb * e')).take ((hb - lb) * e')).length = (hb - lb) * e' := by
          have h5 : (hb - lb) * e' + lb * e' = hb * e' := by rw [← Nat.add_mul]; congr 1; omega
          have h6 : hb * e' ≤ m * e' := Nat.mul_le_mul_right _ h4
          simp only [List.length_take, List.length_drop, hlen]
          omega
        refine ⟨if cap = lb then ra else ra.add (lb * e'), cap - lb, by split <;> rfl, by omega, hlen', ?_⟩
        by_cases h0 : hb - lb = 0
        · exact .inl h0
        · rcases hc with hc | ⟨b, q, rfl, hc⟩
          · omega
          · refine .inr ⟨b, q + lb * e', ?_, (hc.drop _).take _⟩
            rw [if_neg (by omega), addr_add]
      · cases h
    · cases h
  · rename_i k ver off m ex
    split at h
    · rename_i hb hh
      split at h
      · rename_i lb hl
        split at h
        · rename_i cs e' v' op' hk
          split at h
          · rename_i he
            injection h with h
            injection h with h1 h2
            subst h1
            rw [Bool.and_eq_true] at he
            have := Nat.eq_of_beq_eq_true he.1
            subst this
            have hver := Nat.eq_of_beq_eq_true he.2
            rw [ex] at hv
            simp only [VRel] at hv
            obtain ⟨ra, cap, hx, cs2, e2, v2, o2, hk2, hle, hm⟩ := hv
            rw [hk] at hk2
            cases hk2
            · obtain ⟨b, q, K, hm', hcap, hblk, hspot, hoff, hK⟩ := hm hver
              obtain ⟨hrun, h3, h4⟩ := run_bounds (P := P) (w := w) (b := true) hρ hlo hhi hcap hh hl
              refine ⟨h2.symm, _, key _ _ _ _ _ hx hrun, ?_⟩
              simp only [VRel]
              refine ⟨if cap = lb then ra else ra.add (lb * e'), cap - lb, by split <;> rfl, cs, e', v', op', hk, hle, fun _ => ⟨b, q, K, hm', by omega, ?_, ?_, ?_, ?_⟩⟩
              · split
                · exact hblk
                · obtain ⟨rb, ro, rs⟩ := ra; simp only at hblk hspot; subst hspot; rw [addr_add]; exact hblk
              · split
                · exact hspot
                · obtain ⟨rb, ro, rs⟩ := ra; simp only at hblk hspot; subst hspot; rw [addr_add]
              · by_cases hc : cap = lb
                · exact .inl (by omega)
                · rw [if_neg hc]
                  rcases hoff with h0 | hoff
                  · omega
                  · obtain ⟨rb, ro, rs⟩ := ra
                    simp only at hblk hspot hoff
                    subst hspot hoff
                    rw [addr_add]
                    exact .inr (by simp only; omega)
              · have : (cap - lb) * e' + lb * e' = cap * e' := by rw [← Nat.add_mul]; congr 1; omega
                omega
          · cases h
        · cases h
      · cases h
    · cases h
  · cases h

/- OPERATORS -/

theorem evalBin_shape {op : BinOp} {u v : IVal} {x : PVal} (h : evalBin op u v = some x) :
    (∃ k l m n, u = .p (.int k m) ∧ v = .p (.int l n)) ∨ (∃ s t, u = .p (.str s) ∧ v = .p (.str t)) := by
  unfold evalBin at h
  split at h
  · exact .inl ⟨_, _, _, _, rfl, rfl⟩
  · exact .inr ⟨_, _, rfl, rfl⟩
  · cases h

theorem bytesLess_eq : ∀ (x y : List UInt8), Op.bytesLess x y = bytesLess x y
  | x, [] => by cases x <;> rfl
  | [], _ :: _ => rfl
  | a :: x, b :: y => by simp [Op.bytesLess, bytesLess, bytesLess_eq x y]

theorem mk_toList (s : List UInt8) : (⟨s.toArray⟩ : ByteArray).toList = s := by
  rw [ByteArray.toList_eq]

theorem binOp_int {op : BinOp} {t : TypeId} {k l : IntKind} {m n : Int} {x : PVal} (h : evalBin op (.p (.int k m)) (.p (.int l n)) = some x) :
    ∃ rv, (binOp op t (.int k m) (.int l n)).run P w = .ok rv w ∧ PRel c.z x rv := by
  cases op <;> simp only [evalBin, shiftBin, intBin] at h <;> (repeat' split at h) <;> first
    | (cases h; done)
    | (injection h with h; subst h; subst_vars; refine ⟨_, ?_, by simp only [PRel]; rfl⟩; simp_all [binOp, Op.shift, Op.intArith, Op.intDiv, Op.intBits, Op.intCmp]; try (intro hh; omega))

theorem binOp_str {op : BinOp} {t : TypeId} {u v : List UInt8} {x : PVal} (h : evalBin op (.p (.str u)) (.p (.str v)) = some x) :
    ∃ rv, (binOp op t (.string ⟨u.toArray⟩) (.string ⟨v.toArray⟩)).run P w = .ok rv w ∧ PRel c.z x rv := by
  have hs : ∀ s : List UInt8, (⟨s.toArray⟩ : ByteArray).size = s.length := fun s => by simp [ByteArray.size]
  have happ : (⟨u.toArray⟩ : ByteArray) ++ ⟨v.toArray⟩ = ⟨(u ++ v).toArray⟩ := by apply ByteArray.ext; simp
  cases op <;> simp only [evalBin, strBin] at h <;> (repeat' split at h) <;> first
    | (cases h; done)
    | (injection h with h; subst h; refine ⟨_, ?_, by simp only [PRel]; rfl⟩; simp [binOp, Op.stringOp, bytesLess_eq, hs, happ]; try omega)

end
end Go.Ideal

/-
  IDEAL SEMANTICS, 8: '==' ON SCALARS, AND ON STRUCTS AND ARRAYS OF THESE, CELL BY CELL; KEYS OF MAPS.
-/
namespace Go.Ideal
open Go
set_option linter.unusedSectionVars false
variable [Tabs]
section
variable {P : Program} {c : Ctx} {w : World}

/-- a type's value, by its cells -/
def ValIs (P : Program) (t : TypeId) (l : List Value) (v : Value) : Prop :=
  match aggSize P t with
  | some (some _) => v = .agg l.toArray
  | _ => l = [v]

theorem plainCls_shape : ∀ {n : Nat} {t : TypeId} {l : List Cls}, plainCls P n t = some l → sizeIn P t = some l.length ∧ (aggSize P t = some (some l.length) ∨ (aggSize P t = some none ∧ l.length = 1))
  | 0, _, _, h => by simp [plainCls] at h
  | n + 1, t, l, h => by
    simp only [plainCls] at h
    have hrow : ∀ (l : List Cls) (m : Nat), (rowCls l m).length = m * l.length := by
      intro l m
      induction m with
      | zero => simp [rowCls]
      | succ m ih => simp [rowCls, ih, Nat.add_mul, Nat.add_comm]
    split at h
    · rename_i hu
      split at h
      · rename_i hs
        injection h with h; subst h
        exact ⟨hs, .inr ⟨by simp [aggSize, hu], rfl⟩⟩
      · cases h
    · rename_i k hu
      split at h
      · rename_i hs
        injection h with h; subst h
        exact ⟨hs, .inr ⟨by simp [aggSize, hu], rfl⟩⟩
      · cases h
    · rename_i hu
      split at h
      · rename_i hs
        injection h with h; subst h
        exact ⟨hs, .inr ⟨by simp [aggSize, hu], rfl⟩⟩
      · cases h
    · rename_i fs hu
      split at h
      · cases h
      · split at h
        · split at h
          · rename_i hs
            injection h with h; subst h
            exact ⟨hs, .inl (by simp [aggSize, hu, hs])⟩
          · cases h
        · cases h
    · rename_i m e hu
      split at h
      · split at h
        · rename_i l' _ hs
          injection h with h; subst h
          rw [hrow]
          exact ⟨hs, .inl (by simp [aggSize, hu, hs])⟩
        · cases h
      · cases h
    · cases h

theorem eqCls_length : ∀ {cl : List Cls} {xs ys : List IVal} {b : Bool}, eqCls cl xs ys = some b → xs.length = cl.length ∧ ys.length = cl.length
  | [], xs, ys, b, h => by
    cases xs <;> cases ys <;> simp [eqCls] at h ⊢
  | k :: cl, xs, ys, b, h => by
    cases xs with
    | nil => simp [eqCls] at h
    | cons x xs =>
      cases ys with
      | nil => cases x <;> simp [eqCls] at h
      | cons y ys =>
        cases x <;> cases y <;> simp only [eqCls] at h <;> try (cases h; done)
        split at h
        · rename_i s t h1 h2
          have := eqCls_length h2
          simp [this.1, this.2]
        · cases h

theorem eqCls_append : ∀ {l m : List Cls} {xs ys : List IVal} {b : Bool}, eqCls (l ++ m) xs ys = some b →
    ∃ b1 b2, eqCls l (xs.take l.length) (ys.take l.length) = some b1 ∧ eqCls m (xs.drop l.length) (ys.drop l.length) = some b2 ∧ b = (b1 && b2)
  | [], m, xs, ys, b, h => ⟨true, b, by simp [eqCls], by simpa using h, by simp⟩
  | k :: l, m, xs, ys, b, h => by
    cases xs with
    | nil => simp [eqCls] at h
    | cons x xs =>
      cases ys with
      | nil => cases x <;> simp [eqCls] at h
      | cons y ys =>
        cases x <;> cases y <;> simp only [List.cons_append, eqCls] at h <;> try (cases h; done)
        split at h
        · rename_i s t h1 h2
          injection h with h
          obtain ⟨b1, b2, h3, h4, h5⟩ := eqCls_append h2
          exact ⟨s && b1, b2, by simp [eqCls, h1, h3], by simpa using h4, by rw [← h, h5, Bool.and_assoc]⟩
        · cases h

/-- is a type of that class? -/
def ClsTy (P : Program) (t : TypeId) : Cls → Prop
  | .bool => P.underlying t = some .bool
  | .int => ∃ q, P.underlying t = some (.int q)
  | .str => P.underlying t = some .string

theorem clsEq_run {k : Cls} {x y : PVal} {b : Bool} (h : clsEq k x y = some b) {t : TypeId} {d : Nat} {r s : Value} (hr : PRel c.z x r) (hs : PRel c.z y s)
    (ht : ClsTy P t k) : (Op.equalIn (d + 1) t r s).run P w = .ok b w := by
  cases k <;> cases x <;> cases y <;> simp only [clsEq] at h <;> try (cases h; done)
  · injection h with h; subst h; simp only [PRel] at hr hs; subst hr hs; simp only [ClsTy] at ht; simp [Op.equalIn, run_underlying ht]
  · split at h
    · injection h with h; subst h; simp only [PRel] at hr hs; subst hr hs; subst_vars; simp only [ClsTy] at ht; obtain ⟨q, ht⟩ := ht; simp [Op.equalIn, run_underlying ht]
    · cases h
  · injection h with h; subst h; simp only [PRel] at hr hs; subst hr hs; simp only [ClsTy] at ht
    simp only [Op.equalIn, Sem.run_bind, run_underlying ht, Result.andThen_ok]
    simp [beq_toListBytes, ByteArray.toList_eq]

theorem run_part_val {t : TypeId} {n : Nat} {l : List Cls} (hp : plainCls P n t = some l) {X : List Value} {off : Nat} (hlen : off + l.length ≤ X.length) :
    ∃ v, (part t X.toArray off).run P w = .ok v w ∧ ValIs P t ((X.drop off).take l.length) v := by
  obtain ⟨hs, ha⟩ := plainCls_shape hp
  rcases ha with ha | ⟨ha, h1⟩
  · obtain ⟨h2, h3⟩ := aggSize_some (w := w) ha
    refine ⟨.agg ((X.drop off).take l.length).toArray, ?_, by simp [ValIs, ha]⟩
    simp only [part, Sem.run_bind, h2, Result.andThen_ok, if_true, h3]
    simp [List.extract_eq_take_drop]
  · have hlt : off < X.length := by omega
    refine ⟨X[off], ?_, ?_⟩
    · simp [part, aggSize_none ha, hlt]
    · simp only [ValIs, ha, h1]
      rw [List.drop_eq_getElem_cons hlt, List.take_succ_cons, List.take_zero]

theorem equalIn_cls : ∀ (n : Nat) (t : TypeId) (cl : List Cls), plainCls P n t = some cl → ∀ (d : Nat), n ≤ d → ∀ (xs ys : List IVal) (b : Bool), eqCls cl xs ys = some b →
    ∀ (lx ly : List Value), VsRel c xs lx → VsRel c ys ly → ∀ (vx vy : Value), ValIs P t lx vx → ValIs P t ly vy → (Op.equalIn d t vx vy).run P w = .ok b w
  | 0, t, cl, h => by simp [plainCls] at h
  | n + 1, t, cl, h => by
    intro d hd xs ys b hb lx ly hx hy vx vy hvx hvy
    obtain ⟨d, rfl⟩ : ∃ d', d = d' + 1 := ⟨d - 1, by omega⟩
    have scal : ∀ (k : Cls), cl = [k] → ClsTy P t k → (Op.equalIn (d + 1) t vx vy).run P w = .ok b w := by
      intro k hk ht
      subst hk
      obtain ⟨hs, ha⟩ := plainCls_shape h
      have hag : aggSize P t = some none := by
        cases k with
        | bool => simp only [ClsTy] at ht; simp [aggSize, ht]
        | int => simp only [ClsTy] at ht; obtain ⟨q, ht⟩ := ht; simp [aggSize, ht]
        | str => simp only [ClsTy] at ht; simp [aggSize, ht]
      simp only [ValIs, hag] at hvx hvy
      subst hvx hvy
      cases xs with
      | nil => simp [eqCls] at hb
      | cons x xs =>
        cases ys with
        | nil => cases x <;> simp [eqCls] at hb
        | cons y ys =>
          cases x <;> cases y <;> simp only [eqCls] at hb <;> try (cases hb; done)
          simp only [VsRel] at hx hy
          obtain ⟨r, rs, e1, _, hr, _⟩ := hx
          obtain ⟨s, ss, e2, _, hs', _⟩ := hy
          injection e1 with e1 _
          injection e2 with e2 _
          subst e1 e2
          split at hb
          · rename_i s' t' h1 h2
            injection hb with hb
            have : t' = true := by
              have hl := eqCls_length h2
              have hx0 := List.length_eq_zero_iff.1 hl.1
              have hy0 := List.length_eq_zero_iff.1 hl.2
              subst hx0 hy0
              simpa [eqCls] using h2.symm
            subst this
            simp only [VRel] at hr hs'
            rw [← hb, Bool.and_true]
            exact clsEq_run h1 hr hs' ht
          · cases hb
    have h0 := h
    simp only [plainCls] at h
    split at h
    · rename_i hu
      split at h
      · injection h with h; exact scal .bool h.symm hu
      · cases h
    · rename_i k hu
      split at h
      · injection h with h; exact scal .int h.symm ⟨k, hu⟩
      · cases h
    · rename_i hu
      split at h
      · injection h with h; exact scal .str h.symm hu
      · cases h
    · rename_i fs hu
      split at h
      · cases h
      · rename_i hst
        split at h
        · rename_i l hl
          split at h
          · rename_i hs
            injection h with h; subst h
            have hag : aggSize P t = some (some l.length) := by simp [aggSize, hu, hs]
            simp only [ValIs, hag] at hvx hvy
            subst hvx hvy
            have hff : P.fieldsOf t = fs := by simp [Program.fieldsOf, hu]
            rw [run_equalIn_struct w d t _ _ (by rw [hff]; exact hu) (by simpa using hst), hff]
            have key : ∀ (fl : List Field) (off : Nat) (cl : List Cls) (xs ys : List IVal) (b : Bool), fieldsCls (plainCls P n) off fl = some cl → eqCls cl xs ys = some b →
                off ≤ lx.length → off ≤ ly.length → VsRel c xs (lx.drop off) → VsRel c ys (ly.drop off) → (Op.eqFields d lx.toArray ly.toArray fl).run P w = .ok b w := by
              intro fl
              induction fl with
              | nil =>
                intro off cl xs ys b hf hb _ _ _ _
                simp only [fieldsCls, Option.some.injEq] at hf
                subst hf
                have hl := eqCls_length hb
                have hx0 := List.length_eq_zero_iff.1 hl.1
                have hy0 := List.length_eq_zero_iff.1 hl.2
                subst hx0 hy0
                simp [eqCls] at hb
                simp [Op.eqFields, hb]
              | cons f fl ih =>
                intro off cl xs ys b hf hb hox hoy hx hy
                simp only [fieldsCls] at hf
                split at hf
                · cases hf
                · rename_i hne
                  split at hf
                  · rename_i l1 hl1
                    split at hf
                    · rename_i m1 hm1
                      injection hf with hf
                      subst hf
                      have hname : f.name ≠ "_" := fun e => hne (.inl e)
                      have hoff : f.offset = off := Classical.byContradiction fun e => hne (.inr e)
                      have hlen := eqCls_length hb
                      rw [List.length_append] at hlen
                      have hlx := hx.length
                      have hly := hy.length
                      rw [List.length_drop] at hlx hly
                      obtain ⟨b1, b2, h1, h2, h3⟩ := eqCls_append hb
                      obtain ⟨v1, hp1, hv1⟩ := run_part_val (w := w) hl1 (X := lx) (off := off) (by omega)
                      obtain ⟨v2, hp2, hv2⟩ := run_part_val (w := w) hl1 (X := ly) (off := off) (by omega)
                      have he := equalIn_cls n f.type l1 hl1 d (by omega) _ _ b1 h1 _ _ (hx.take _) (hy.take _) v1 v2 hv1 hv2
                      have hr := ih (off + l1.length) m1 _ _ b2 hm1 h2 (by omega) (by omega) (by rw [← List.drop_drop]; exact hx.drop _) (by rw [← List.drop_drop]; exact hy.drop _)
                      simp only [Op.eqFields, hname, ne_eq, not_false_eq_true, if_true, Sem.run_bind, hoff, hp1, hp2, Result.andThen_ok, he]
                      cases b1 with
                      | false => simp [h3]
                      | true => simp only [Bool.not_true, Bool.false_eq_true, if_false]; rw [hr, h3, Bool.true_and]
                    · cases hf
                  · cases hf
            exact key fs.toList 0 l xs ys b hl hb (Nat.zero_le _) (Nat.zero_le _) (by simpa using hx) (by simpa using hy)
          · cases h
        · cases h
    · rename_i m e hu
      split at h
      · rename_i l hl
        split at h
        · rename_i hs
          injection h with h; subst h
          have hag : aggSize P t = some (some (m * l.length)) := by simp [aggSize, hu, hs]
          simp only [ValIs, hag] at hvx hvy
          subst hvx hvy
          have hse := (plainCls_shape hl).1
          cases hi : P.info? e with
          | none => simp [sizeIn, hi] at hse
          | some i =>
            have hce : P.cellsOf e = l.length := by
              simp [sizeIn, hi] at hse
              simp [Program.cellsOf, hi, hse]
            rw [run_equalIn_array w d _ _ hu hi, hce]
            have key : ∀ (m k : Nat) (xs ys : List IVal) (b : Bool), eqCls (rowCls l m) xs ys = some b → k * l.length ≤ lx.length → k * l.length ≤ ly.length → VsRel c xs (lx.drop (k * l.length)) → VsRel c ys (ly.drop (k * l.length)) →
                (Op.eqItems d e l.length lx.toArray ly.toArray (List.range' k m)).run P w = .ok b w := by
              intro m
              induction m with
              | zero =>
                intro k xs ys b hb _ _ _ _
                have hl := eqCls_length hb
                have hx0 := List.length_eq_zero_iff.1 hl.1
                have hy0 := List.length_eq_zero_iff.1 hl.2
                subst hx0 hy0
                simp [eqCls, rowCls] at hb
                simp [Op.eqItems, hb]
              | succ m ih =>
                intro k xs ys b hb hox hoy hx hy
                simp only [rowCls] at hb
                have hlen := eqCls_length hb
                rw [List.length_append] at hlen
                have hlx := hx.length
                have hly := hy.length
                rw [List.length_drop] at hlx hly
                obtain ⟨b1, b2, h1, h2, h3⟩ := eqCls_append hb
                obtain ⟨v1, hp1, hv1⟩ := run_part_val (w := w) hl (X := lx) (off := k * l.length) (by omega)
                obtain ⟨v2, hp2, hv2⟩ := run_part_val (w := w) hl (X := ly) (off := k * l.length) (by omega)
                have he := equalIn_cls n e l hl d (by omega) _ _ b1 h1 _ _ (hx.take _) (hy.take _) v1 v2 hv1 hv2
                have hr := ih (k + 1) _ _ b2 h2 (by rw [Nat.add_mul]; omega) (by rw [Nat.add_mul]; omega) (by rw [Nat.add_mul, Nat.one_mul, ← List.drop_drop]; exact hx.drop _) (by rw [Nat.add_mul, Nat.one_mul, ← List.drop_drop]; exact hy.drop _)
                simp only [List.range'_succ, Op.eqItems, Sem.run_bind, hp1, hp2, Result.andThen_ok, he]
                cases b1 with
                | false => simp [h3]
                | true => simp only [Bool.not_true, Bool.false_eq_true, if_false]; rw [hr, h3, Bool.true_and]
            rw [List.range_eq_range']
            exact key m 0 xs ys b hb (by simp) (by simp) (by simpa using hx) (by simpa using hy)
        · cases h
      · cases h
    · cases h

/-- two values of such a type -/
theorem equal_vals {t : TypeId} {k : KTy} (hp : keyCls P t = some k) {x y : IVal} {b : Bool} (h : eqVals k x y = some b) {r s : Value} (hr : VRel c x r) (hs : VRel c y s) :
    (Op.equal t r s).run P w = .ok b w := by
  unfold keyCls at hp
  split at hp
  · rename_i l n hl ha
    injection hp with hp
    subst hp
    unfold eqVals at h
    split at h
    · rename_i xs ys
      simp only [VRel] at hr hs
      obtain ⟨lx, rfl, hx⟩ := hr
      obtain ⟨ly, rfl, hy⟩ := hs
      exact equalIn_cls 8 t l hl Op.maxDepth (by simp [Op.maxDepth]) xs ys b h lx ly hx hy _ _ (by simp [ValIs, ha]) (by simp [ValIs, ha])
    · cases h
    · cases h
  · rename_i l hl ha
    injection hp with hp
    subst hp
    unfold eqVals at h
    split at h
    · cases h
    · rename_i u v
      simp only at h
      split at h
      · rename_i k'
        simp only [VRel] at hr hs
        exact equalIn_cls 8 t [k'] hl Op.maxDepth (by simp [Op.maxDepth]) [.p u] [.p v] b (by simp [eqCls, h]) [r] [s] (by simp only [VsRel, VRel]; exact ⟨r, [], rfl, rfl, hr, rfl⟩) (by simp only [VsRel, VRel]; exact ⟨s, [], rfl, rfl, hs, rfl⟩) _ _ (by simp [ValIs, ha]) (by simp [ValIs, ha])
      · cases h
    · cases h
  · cases hp

end
end Go.Ideal

/-
  IDEAL SEMANTICS, 9: OPERATORS, COMPOSITE VALUES, THE GREATEST AND THE LEAST, LOOKING UP.
-/
namespace Go.Ideal
open Go
set_option linter.unusedSectionVars false
variable [Tabs]
section
variable {P : Program} {ρ : Opd → IVal} {a : Act} {c : Ctx} {w : World}

theorem says_bin (hρ : OpdOK ρ a c) {o : Oper} {op : BinOp} {t ty : TypeId} {x y : Operand} {x' y' : Opd} (ho : o.op = .binOp op t x y ty) (hx : compOpd x = some x') (hy : compOpd y = some y')
    {v : IVal} {M : Mem} {C : Oracle} (h : evalOp C ρ c.M (.bin op x' y') = some (v, M)) : M = c.M ∧ Says P a o c w v := by
  have h1 := hρ _ _ hx
  have h2 := hρ _ _ hy
  simp only [evalOp] at h
  split at h
  · rename_i u hu
    injection h with h
    injection h with h3 h4
    subst h3
    rcases evalBin_shape hu with ⟨k, l, m, n, e1, e2⟩ | ⟨s, u', e1, e2⟩
    · rw [e1, e2] at hu
      rw [e1] at h1
      rw [e2] at h2
      simp only [VRel, PRel] at h1 h2
      obtain ⟨rv, hr, hp⟩ := binOp_int (P := P) (w := w) (c := c) (t := t) hu
      refine ⟨h4.symm, rv, ?_, by simpa [VRel] using hp⟩
      simp [execOp, ho, h1, h2, eqGuard_at_int, hr]
    · rw [e1, e2] at hu
      rw [e1] at h1
      rw [e2] at h2
      simp only [VRel, PRel] at h1 h2
      obtain ⟨rv, hr, hp⟩ := binOp_str (P := P) (w := w) (c := c) (t := t) hu
      refine ⟨h4.symm, rv, ?_, by simpa [VRel] using hp⟩
      simp [execOp, ho, h1, h2, eqGuard_at_string, hr]
  · cases h

theorem sayBool_some {M M' : Mem} {neg : Bool} {r : Option Bool} {v : IVal} (h : sayBool M neg r = some (v, M')) : ∃ b, r = some b ∧ v = .p (.bool (negIf neg b)) ∧ M' = M := by
  cases r with
  | none => simp [sayBool] at h
  | some b => simp [sayBool] at h; exact ⟨b, rfl, h.1.symm, h.2.symm⟩

def eqOp (neg : Bool) : BinOp := if neg then .neq else .eql

/-- a value that '==' hands to 'Op.equal' -/
def general : Value → Bool
  | .int _ _ | .float _ _ | .complex _ _ _ | .string _ => false
  | _ => true

theorem run_eqOp {t : TypeId} {u v : Value} {neg b : Bool} (hg : general u = true) (h : (Op.equal t u v).run P w = .ok b w) : (binOp (eqOp neg) t u v).run P w = .ok (.bool (negIf neg b)) w := by
  cases neg <;> cases u <;> simp only [general] at hg <;> try (cases hg; done)
  all_goals simp [binOp, eqOp, negIf, h]

theorem says_eq {o : Oper} {t ty : TypeId} {x y : Operand} {neg b : Bool} (ho : o.op = .binOp (eqOp neg) t x y ty) (hg : general (a.eval x) = true)
    (hgd : (eqGuard (eqOp neg) t x y (a.eval x) (a.eval y)).run P w = .ok () w) (h : (Op.equal t (a.eval x) (a.eval y)).run P w = .ok b w) : Says P a o c w (.p (.bool (negIf neg b))) := by
  refine ⟨.bool (negIf neg b), ?_, by simp only [VRel, PRel]⟩
  simp [execOp, ho, hgd, run_eqOp hg h]

theorem equal_ptr {t e : TypeId} (hu : P.underlying t = some (.pointer e)) {p q : Option Addr} (h : p = none ∨ q = none) : (Op.equal t (.pointer p) (.pointer q)).run P w = .ok (p.isNone && q.isNone) w := by
  show (Op.equalIn (9999 + 1) t (.pointer p) (.pointer q)).run P w = _
  generalize 9999 = d
  rcases h with rfl | rfl
  · simp [Op.equalIn, run_underlying hu]
  · cases p <;> simp [Op.equalIn, run_underlying hu]

theorem equal_sl {t e : TypeId} (hu : P.underlying t = some (.slice e)) {p q : Option Addr} {n m k l : Nat} (h : p = none ∨ q = none) : (Op.equal t (.slice p n m) (.slice q k l)).run P w = .ok (p.isNone && q.isNone) w := by
  show (Op.equalIn (9999 + 1) t (.slice p n m) (.slice q k l)).run P w = _
  generalize 9999 = d
  rcases h with rfl | rfl
  · simp [Op.equalIn, run_underlying hu]
  · cases p <;> simp [Op.equalIn, run_underlying hu]

theorem agg_none {t : TypeId} (h : aggSize P t = some none) : (∀ fs, P.underlying t ≠ some (.struct fs)) ∧ ∀ m e, P.underlying t ≠ some (.array m e) := by
  constructor
  · intro fs hu
    cases hs : sizeIn P t <;> simp [aggSize, hu, hs] at h
  · intro m e hu
    cases hs : sizeIn P t <;> simp [aggSize, hu, hs] at h

theorem says_eqPtr (hρ : OpdOK ρ a c) {o : Oper} {t ty e : TypeId} {x y : Operand} {x' y' : Opd} {neg : Bool} (ho : o.op = .binOp (eqOp neg) t x y ty) (hx : compOpd x = some x') (hy : compOpd y = some y') (hu : P.underlying t = some (.pointer e))
    {v : IVal} {M : Mem} {C : Oracle} (h : evalOp C ρ c.M (.eqPtr neg x' y') = some (v, M)) : M = c.M ∧ Says P a o c w v := by
  have h1 := hρ _ _ hx
  have h2 := hρ _ _ hy
  simp only [evalOp] at h
  obtain ⟨b, hb, rfl, rfl⟩ := sayBool_some h
  refine ⟨rfl, ?_⟩
  have fin : ∀ p q : Option Addr, a.eval x = .pointer p → a.eval y = .pointer q → (p = none ∨ q = none) → b = (p.isNone && q.isNone) → Says P a o c w (.p (.bool (negIf neg b))) := by
    intro p q hp hq hpq hb
    refine says_eq ho (by rw [hp]; rfl) (by rw [hp]; simp [eqGuard_at_pointer]) ?_
    rw [hp, hq, hb]
    exact equal_ptr hu hpq
  unfold evalNilPtr at hb
  split at hb <;> first | (cases hb; done) | skip
  all_goals (injection hb with hb; rename_i e1 e2; rw [e1] at h1; rw [e2] at h2; simp only [VRel, PRel] at h1 h2)
  · exact fin _ _ h1 h2 (.inl rfl) (by rw [← hb]; rfl)
  · obtain ⟨_, _, h2, _⟩ := h2; exact fin _ _ h1 h2 (.inl rfl) (by rw [← hb]; rfl)
  · obtain ⟨_, h2, _⟩ := h2; exact fin _ _ h1 h2 (.inl rfl) (by rw [← hb]; rfl)
  · obtain ⟨_, _, h1, _⟩ := h1; exact fin _ _ h1 h2 (.inr rfl) (by rw [← hb]; rfl)
  · obtain ⟨_, h1, _⟩ := h1; exact fin _ _ h1 h2 (.inr rfl) (by rw [← hb]; rfl)

theorem says_eqSl (hρ : OpdOK ρ a c) {o : Oper} {t ty e : TypeId} {x y : Operand} {x' y' : Opd} {neg : Bool} (ho : o.op = .binOp (eqOp neg) t x y ty) (hx : compOpd x = some x') (hy : compOpd y = some y') (hu : P.underlying t = some (.slice e))
    {v : IVal} {M : Mem} {C : Oracle} (h : evalOp C ρ c.M (.eqSl neg x' y') = some (v, M)) : M = c.M ∧ Says P a o c w v := by
  have h1 := hρ _ _ hx
  have h2 := hρ _ _ hy
  simp only [evalOp] at h
  obtain ⟨b, hb, rfl, rfl⟩ := sayBool_some h
  refine ⟨rfl, ?_⟩
  have fin : ∀ (p q : Option Addr) (n m k l : Nat), a.eval x = .slice p n m → a.eval y = .slice q k l → (p = none ∨ q = none) → b = (p.isNone && q.isNone) → Says P a o c w (.p (.bool (negIf neg b))) := by
    intro p q n m k l hp hq hpq hb
    refine says_eq ho (by rw [hp]; rfl) (by rw [hp]; simp [eqGuard_at_slice]) ?_
    rw [hp, hq, hb]
    exact equal_sl hu hpq
  unfold evalNilSl at hb
  split at hb <;> first | (cases hb; done) | skip
  all_goals (injection hb with hb; rename_i e1 e2; rw [e1] at h1; rw [e2] at h2; simp only [VRel, PRel] at h1 h2)
  · exact fin _ _ _ _ _ _ h1 h2 (.inl rfl) (by rw [← hb]; rfl)
  · obtain ⟨_, _, h2, _⟩ := h2; exact fin _ _ _ _ _ _ h1 h2 (.inl rfl) (by rw [← hb]; rfl)
  · obtain ⟨_, _, h2, _⟩ := h2; exact fin _ _ _ _ _ _ h1 h2 (.inl rfl) (by rw [← hb]; rfl)
  · obtain ⟨_, _, h1, _⟩ := h1; exact fin _ _ _ _ _ _ h1 h2 (.inr rfl) (by rw [← hb]; rfl)
  · obtain ⟨_, _, h1, _⟩ := h1; exact fin _ _ _ _ _ _ h1 h2 (.inr rfl) (by rw [← hb]; rfl)

theorem says_eqv (hρ : OpdOK ρ a c) {o : Oper} {t ty : TypeId} {x y : Operand} {x' y' : Opd} {neg : Bool} {k : KTy} (ho : o.op = .binOp (eqOp neg) t x y ty) (hx : compOpd x = some x') (hy : compOpd y = some y')
    (hk : keyCls P t = some k) (hgd : P.eqGuardType P.depth t = false) (hni : ∀ q, P.underlying t ≠ some (.int q)) (hns : P.underlying t ≠ some .string)
    {v : IVal} {M : Mem} {C : Oracle} (h : evalOp C ρ c.M (.eqv neg k x' y') = some (v, M)) : M = c.M ∧ Says P a o c w v := by
  have h1 := hρ _ _ hx
  have h2 := hρ _ _ hy
  simp only [evalOp] at h
  obtain ⟨b, hb, rfl, rfl⟩ := sayBool_some h
  refine ⟨rfl, ?_⟩
  have he := equal_vals (w := w) hk hb h1 h2
  have hb' := hb
  unfold eqVals at hb
  split at hb
  · rename_i e1 e2
    rw [e1] at h1
    rw [e2] at h2
    simp only [VRel] at h1 h2
    obtain ⟨l, h1, _⟩ := h1
    obtain ⟨m, h2, _⟩ := h2
    refine says_eq ho (by rw [h1]; rfl) ?_ he
    rw [h1, h2]
    exact run_eqGuard_agg w _ t x y _ _ hgd
  · rename_i u u' e1 e2
    rw [e1] at h1
    simp only [VRel] at h1
    have hbool : ∃ b', u = .bool b' := by
      split at hb
      · cases hb
      · rename_i hag
        split at hb
        · rename_i k' hcl
          unfold keyCls at hk
          split at hk
          · injection hk with hk; subst hk; simp at hag
          · rename_i hl hagg
            injection hk with hk
            subst hk
            simp only at hcl
            subst hcl
            obtain ⟨n1, n2⟩ := agg_none hagg
            simp only [plainCls] at hl
            split at hl
            · split at hl
              · injection hl with hl; injection hl with hl _; subst hl
                cases u <;> cases u' <;> simp only [clsEq] at hb <;> first | (cases hb; done) | exact ⟨_, rfl⟩
              · cases hl
            · rename_i q hq; exact absurd hq (hni q)
            · rename_i hq; exact absurd hq hns
            · rename_i fs hq; exact absurd hq (n1 fs)
            · rename_i m e hq; exact absurd hq (n2 m e)
            · cases hl
          · cases hk
        · cases hb
    obtain ⟨b', rfl⟩ := hbool
    simp only [PRel] at h1
    refine says_eq ho (by rw [h1]; rfl) ?_ he
    rw [h1]
    simp [eqGuard_at_bool]
  · cases hb

end
end Go.Ideal

/-
  IDEAL SEMANTICS, 10: COMPOSITE VALUES, THE GREATEST AND THE LEAST, LOOKING UP IN A MAP.
-/
namespace Go.Ideal
open Go
set_option linter.unusedSectionVars false
variable [Tabs]
section
variable {P : Program} {ρ : Opd → IVal} {a : Act} {c : Ctx} {w : World}

theorem cells_one {r : Value} (h : r.oneCell' = true) : r.cells = #[r] := by
  cases r <;> first | rfl | (simp [Value.oneCell'] at h)

theorem cellsOf_rel {v : IVal} {new : List IVal} {r : Value} (h : v.cellsOf = some new) (hv : VRel c v r) : VsRel c new r.cells.toList := by
  unfold IVal.cellsOf at h
  split at h
  · injection h with h
    subst h
    simp only [VRel] at hv
    obtain ⟨l, rfl, hl⟩ := hv
    simpa [Value.cells] using hl
  · split at h
    · rename_i ho
      injection h with h
      subst h
      rw [cells_one (hv.one ho)]
      simp only [VsRel]
      exact ⟨r, [], rfl, ho, hv, rfl⟩
    · cases h

theorem fold_splice (off : Nat) : ∀ (new : List Value) (k : Nat) (C : List Value), off + k + new.length ≤ C.length →
    (new.zipIdx k).foldl (fun cs (x : Value × Nat) => cs.setIfInBounds (off + x.2) x.1) C.toArray = (C.take (off + k) ++ (new ++ C.drop (off + k + new.length))).toArray
  | [], k, C, _ => by simp
  | v :: new, k, C, h => by
    simp only [List.length_cons] at h
    simp only [List.zipIdx_cons, List.foldl_cons, List.setIfInBounds_toArray]
    rw [fold_splice off new (k + 1) (C.set (off + k) v) (by simp; omega)]
    congr 1
    have hlt : off + k < C.length := by omega
    have e1 : (C.set (off + k) v).take (off + (k + 1)) = C.take (off + k) ++ [v] := by
      rw [List.set_eq_take_append_cons_drop, if_pos hlt, List.take_append]
      have : (C.take (off + k)).length = off + k := by simp; omega
      rw [this, show off + (k + 1) - (off + k) = 1 by omega, List.take_take, Nat.min_eq_right (by omega)]
      simp
    have e2 : (C.set (off + k) v).drop (off + (k + 1) + new.length) = C.drop (off + k + (v :: new).length) := by
      rw [List.drop_set_of_lt (by omega)]
      congr 1
      simp; omega
    rw [e1, e2]
    simp

theorem VsRel.splice {cs new : List IVal} {l m : List Value} (h : VsRel c cs l) (hn : VsRel c new m) (off : Nat) : VsRel c (splice cs off new) (l.take off ++ (m ++ l.drop (off + m.length))) := by
  unfold Ideal.splice
  have := hn.length
  exact (h.take off).append (hn.append (by rw [this]; exact h.drop _))

/-- the parts laid over the zero cells -/
theorem fill_sound (hρ : OpdOK ρ a c) {place : Nat → Option (Nat × Nat)} : ∀ {ps : List (Nat × Operand)} {qs : List (Nat × Nat × Opd)},
    (∀ (j : Nat) (q : Nat × Nat × Opd), qs[j]? = some q → ∃ i x, ps[j]? = some (i, x) ∧ place i = some (q.1, q.2.1) ∧ compOpd x = some q.2.2) → ps.length = qs.length →
    ∀ {cs cs' : List IVal} {l : List Value}, VsRel c cs l → fillParts ρ cs qs = some cs' →
      ∃ l', Instr.fill place l.toArray (ps.map fun p => (p.1, a.eval p.2)) = some l'.toArray ∧ VsRel c cs' l'
  | [], [], _, _, cs, cs', l, hl, hf => by
    simp only [fillParts, Option.some.injEq] at hf
    subst hf
    exact ⟨l, rfl, hl⟩
  | [], _ :: _, _, hn, _, _, _, _, _ => by simp at hn
  | _ :: _, [], _, hn, _, _, _, _, _ => by simp at hn
  | p :: ps, (off, n, y) :: qs, hq, hn, cs, cs', l, hl, hf => by
    simp only [fillParts] at hf
    split at hf
    · rename_i new hnew
      split at hf
      · rename_i hb
        rw [Bool.and_eq_true] at hb
        have hb1 := Nat.eq_of_beq_eq_true hb.1
        have hb2 := Nat.le_of_ble_eq_true hb.2
        obtain ⟨i, x, e1, e2, e3⟩ := hq 0 _ (by simp; rfl)
        simp at e1
        subst e1
        have hc := cellsOf_rel hnew (hρ _ _ e3)
        have hcl := hc.length
        obtain ⟨l', h1, h2⟩ := fill_sound hρ (fun j q hj => by simpa using hq (j + 1) q (by simpa using hj)) (by simpa using hn) (hl.splice hc off) hf
        refine ⟨l', ?_, h2⟩
        simp only [List.map_cons, Instr.fill, e2]
        have hsz : (a.eval x).cells.size = n := by rw [← Array.length_toList, hcl, hb1]
        have hlen := hl.length
        rw [if_neg (by simp only [hsz, List.size_toArray, ne_eq, not_true_eq_false, decide_false, Bool.false_or]; simp; omega)]
        have : (a.eval x).cells.zipIdx.foldl (fun cs (x : Value × Nat) => cs.setIfInBounds (off + x.2) x.1) l.toArray = (l.take off ++ ((a.eval x).cells.toList ++ l.drop (off + (a.eval x).cells.toList.length))).toArray := by
          have h5 := fold_splice off (a.eval x).cells.toList 0 l (by rw [hcl]; omega)
          simp only [Nat.add_zero] at h5
          rw [← h5, ← Array.foldl_toList]
          congr 1
          simp
        rw [this]
        exact h1
      · cases hf
    · cases hf

theorem fieldPlaces_spec {fs : Array Field} : ∀ {ps : List (Nat × Operand)} {qs : List (Nat × Nat × Opd)}, fieldPlaces P fs ps = some qs →
    ps.length = qs.length ∧ ∀ (j : Nat) (q : Nat × Nat × Opd), qs[j]? = some q → ∃ i x f, ps[j]? = some (i, x) ∧ fs[i]? = some f ∧ q.1 = f.offset ∧ sizeIn P f.type = some q.2.1 ∧ compOpd x = some q.2.2
  | [], qs, h => by simp only [fieldPlaces, Option.some.injEq] at h; subst h; simp
  | (i, x) :: ps, qs, h => by
    simp only [fieldPlaces] at h
    split at h
    · rename_i f hf
      split at h
      · rename_i n y l h1 h2 h3
        injection h with h
        subst h
        obtain ⟨e1, e2⟩ := fieldPlaces_spec h3
        refine ⟨by simp [e1], fun j q hj => ?_⟩
        cases j with
        | zero => simp at hj; subst hj; exact ⟨i, x, f, by simp, hf, rfl, h1, h2⟩
        | succ j => simp at hj; obtain ⟨i', x', f', h4⟩ := e2 j q hj; exact ⟨i', x', f', by simpa using h4⟩
      · cases h
    · cases h

theorem rowPlaces_spec {n : Nat} : ∀ {ps : List (Nat × Operand)} {qs : List (Nat × Nat × Opd)}, rowPlaces n ps = some qs →
    ps.length = qs.length ∧ ∀ (j : Nat) (q : Nat × Nat × Opd), qs[j]? = some q → ∃ i x, ps[j]? = some (i, x) ∧ q.1 = i * n ∧ q.2.1 = n ∧ compOpd x = some q.2.2
  | [], qs, h => by simp only [rowPlaces, Option.some.injEq] at h; subst h; simp
  | (i, x) :: ps, qs, h => by
    simp only [rowPlaces] at h
    split at h
    · rename_i y l h1 h2
      injection h with h
      subst h
      obtain ⟨e1, e2⟩ := rowPlaces_spec h2
      refine ⟨by simp [e1], fun j q hj => ?_⟩
      cases j with
      | zero => simp at hj; subst hj; exact ⟨i, x, by simp, rfl, rfl, h1⟩
      | succ j => simp at hj; obtain ⟨i', x', h4⟩ := e2 j q hj; exact ⟨i', x', by simpa using h4⟩
    · cases h

/-- a type's zero value -/
theorem zeroCellsOf_run {t : TypeId} {z : List PVal} (h : zeroCellsOf P t = some z) : ∃ v, (∀ w, (zeroValue t).run P w = .ok v w) ∧ VsRel c (pcells z) v.cells.toList := by
  unfold zeroCellsOf at h
  split at h
  · rename_i i hi
    split at h
    · rename_i v hv
      exact ⟨v, fun w => by simp [zeroValue, typeInfo, hi, hv], constCells_rel c h⟩
    · cases h
  · cases h

theorem mapM_fields {fs : List Field} (h : ∀ f ∈ fs, (P.info? f.type).isSome = true) : (fs.mapM fun f => (do pure (f.offset, ← sizeOf f.type) : Sem (Nat × Nat))).run P w = .ok (fs.map fun f => (f.offset, (sizeIn P f.type).getD 0)) w := by
  induction fs with
  | nil => simp
  | cons f fs ih =>
    have hf := h f (by simp)
    cases hi : P.info? f.type with
    | none => simp [hi] at hf
    | some i =>
      have ih' := ih fun g hg => h g (by simp [hg])
      have hr : (do pure (f.offset, ← sizeOf f.type) : Sem (Nat × Nat)).run P w = .ok (f.offset, (sizeIn P f.type).getD 0) w := by simp [sizeOf, typeInfo, hi, sizeIn]
      rw [List.mapM_cons, Sem.run_bind, hr, Result.andThen_ok, Sem.run_bind, ih', Result.andThen_ok]
      rfl

theorem says_build_struct (hρ : OpdOK ρ a c) {o : Oper} {t : TypeId} {ps : Array (Nat × Operand)} {fs : Array Field} {z : List PVal} {qs : List (Nat × Nat × Opd)} (ho : o.op = .build t ps) (hz : zeroCellsOf P t = some z) (hu : P.underlying t = some (.struct fs))
    (hall : ∀ f ∈ fs.toList, (P.info? f.type).isSome = true) (hq : fieldPlaces P fs ps.toList = some qs)
    {v : IVal} {M : Mem} {C : Oracle} (h : evalOp C ρ c.M (.build z qs) = some (v, M)) : M = c.M ∧ Says P a o c w v := by
  simp only [evalOp] at h
  split at h
  · rename_i cs hf
    injection h with h
    injection h with h1 h2
    subst h1
    obtain ⟨zv, hzr, hzc⟩ := zeroCellsOf_run (c := c) hz
    obtain ⟨e1, e2⟩ := fieldPlaces_spec hq
    obtain ⟨l', h3, h4⟩ := fill_sound hρ (place := ((fs.toList.map fun f => (f.offset, (sizeIn P f.type).getD 0)).toArray[·]?)) (fun j q hj => by
      obtain ⟨i, x, f, h5, h6, h7, h8, h9⟩ := e2 j q hj
      refine ⟨i, x, h5, ?_, h9⟩
      have : fs.toList[i]? = some f := by rw [Array.getElem?_toList]; exact h6
      simp [this, h7, h8]) e1 hzc hf
    refine ⟨h2.symm, .agg l'.toArray, ?_, by simp only [VRel]; exact ⟨l', rfl, h4⟩⟩
    have hm : (fs.mapM fun f => (do pure (f.offset, ← sizeOf f.type) : Sem (Nat × Nat))).run P w = .ok (fs.toList.map fun f => (f.offset, (sizeIn P f.type).getD 0)).toArray w := by
      rw [← Array.toArray_toList (xs := fs), List.mapM_toArray, Sem.run_map, mapM_fields hall]
      simp
    have hps : (ps.map fun (i, x) => (i, a.eval x)).toList = ps.toList.map fun p => (p.1, a.eval p.2) := by simp
    simp only [execOp, ho]
    simp only [Instr.build, Sem.run_bind, hzr, Result.andThen_ok, run_underlying hu, hm, hps]
    simp only [Array.toArray_toList] at h3
    rw [h3]
    simp
  · cases h

theorem says_build_array (hρ : OpdOK ρ a c) {o : Oper} {t e : TypeId} {ps : Array (Nat × Operand)} {m n : Nat} {z : List PVal} {qs : List (Nat × Nat × Opd)} (ho : o.op = .build t ps) (hz : zeroCellsOf P t = some z) (hu : P.underlying t = some (.array m e))
    (hs : sizeIn P e = some n) (hq : rowPlaces n ps.toList = some qs)
    {v : IVal} {M : Mem} {C : Oracle} (h : evalOp C ρ c.M (.build z qs) = some (v, M)) : M = c.M ∧ Says P a o c w v := by
  simp only [evalOp] at h
  split at h
  · rename_i cs hf
    injection h with h
    injection h with h1 h2
    subst h1
    obtain ⟨zv, hzr, hzc⟩ := zeroCellsOf_run (c := c) hz
    obtain ⟨e1, e2⟩ := rowPlaces_spec hq
    obtain ⟨l', h3, h4⟩ := fill_sound hρ (place := fun i => some (i * n, n)) (fun j q hj => by
      obtain ⟨i, x, h5, h6, h7, h9⟩ := e2 j q hj
      exact ⟨i, x, h5, by rw [h6, h7], h9⟩) e1 hzc hf
    refine ⟨h2.symm, .agg l'.toArray, ?_, by simp only [VRel]; exact ⟨l', rfl, h4⟩⟩
    have hps : (ps.map fun (i, x) => (i, a.eval x)).toList = ps.toList.map fun p => (p.1, a.eval p.2) := by simp
    simp only [execOp, ho]
    simp only [Instr.build, Sem.run_bind, hzr, Result.andThen_ok, run_underlying hu, sizeIn_some (w := w) hs, hps]
    simp only [Array.toArray_toList] at h3
    rw [h3]
    simp
  · cases h

end
end Go.Ideal

/-
  IDEAL SEMANTICS, 11: THE GREATEST AND THE LEAST; A MAP's ENTRIES.
-/
namespace Go.Ideal
open Go
set_option linter.unusedSectionVars false
variable [Tabs]
section
variable {P : Program} {ρ : Opd → IVal} {a : Act} {c : Ctx} {w : World}

theorem ext_run (hρ : OpdOK ρ a c) (y : Bool) : ∀ {l : List Operand} {l' : List Opd} {m n : Int}, compOpds l = some l' → evalExt m y (l'.map ρ) = some n →
    ((l.map a.eval).foldlM (if y then Builtin.max2 else Builtin.min2) (.int .i64 m)).run P w = .ok (.int .i64 n) w
  | [], l', m, n, h, he => by
    simp only [compOpds, Option.some.injEq] at h
    subst h
    simp only [List.map_nil, evalExt, Option.some.injEq] at he
    subst he
    rfl
  | x :: l, l', m, n, h, he => by
    simp only [compOpds] at h
    split at h
    · rename_i z r h1 h2
      injection h with h
      subst h
      simp only [List.map_cons] at he ⊢
      unfold evalExt at he
      split at he
      · rename_i heq; cases heq
      · rename_i k r' heq
        injection heq with e1 e2
        have hv := hρ _ _ h1
        rw [e1] at hv
        simp only [VRel, PRel] at hv
        rw [← e2] at he
        have ih := ext_run hρ y h2 he
        rw [List.foldlM_cons, Sem.run_bind, hv]
        cases y
        · simp only [Bool.false_eq_true, if_false] at ih ⊢
          simp only [Builtin.min2, Sem.run_pure, Result.andThen_ok]
          exact ih
        · simp only [if_true] at ih ⊢
          simp only [Builtin.max2, Sem.run_pure, Result.andThen_ok]
          exact ih
      · cases he
    · cases h

theorem says_ext (hρ : OpdOK ρ a c) {o : Oper} {cl : Call} {l : List Opd} (y : Bool) (ho : o.op = .call cl) (hb : cl.callee = .builtin (if y then .max else .min)) (hl : compOpds cl.args.toList = some l)
    {v : IVal} {M : Mem} {C : Oracle} (h : evalOp C ρ c.M (if y then .maxi l else .mini l) = some (v, M)) : M = c.M ∧ Says P a o c w v := by
  have key : ∀ (n m : Int) (r : List IVal), l.map ρ = .p (.int .i64 n) :: r → evalExt n y r = some m → Says P a o c w (.p (.int .i64 m)) := by
    intro n m r h1 h2
    refine ⟨.int .i64 m, ?_, by simp only [VRel, PRel]⟩
    cases l with
    | nil => simp at h1
    | cons z l =>
      simp only [List.map_cons, List.cons.injEq] at h1
      obtain ⟨h3, h4⟩ := h1
      cases hargs : cl.args.toList with
      | nil => rw [hargs] at hl; simp [compOpds] at hl
      | cons x xs =>
        rw [hargs] at hl
        simp only [compOpds] at hl
        split at hl
        · rename_i z' l' h5 h6
          injection hl with hl
          injection hl with e1 e2
          subst e1 e2
          have hv := hρ _ _ h5
          rw [h3] at hv
          simp only [VRel, PRel] at hv
          rw [← h4] at h2
          have hr := ext_run (P := P) (w := w) hρ y h6 h2
          have hmap : (cl.args.map a.eval).toList = .int .i64 n :: xs.map a.eval := by rw [Array.toList_map, hargs, List.map_cons, hv]
          cases y
          · simp only [Bool.false_eq_true, if_false] at hr hb
            simp only [execOp, ho, resolve, hb, Sem.run_bind, Sem.run_pure, Result.andThen_ok, invoke, builtin, Builtin.min_, hmap, hr]
          · simp only [if_true] at hr hb
            simp only [execOp, ho, resolve, hb, Sem.run_bind, Sem.run_pure, Result.andThen_ok, invoke, builtin, Builtin.max_, hmap, hr]
        · cases hl
  cases y
  · simp only [Bool.false_eq_true, if_false, evalOp] at h
    split at h
    · rename_i n r h1
      split at h
      · rename_i m h2
        injection h with h
        injection h with h3 h4
        subst h3
        exact ⟨h4.symm, key n m r h1 h2⟩
      · cases h
    · cases h
  · simp only [if_true, evalOp] at h
    split at h
    · rename_i n r h1
      split at h
      · rename_i m h2
        injection h with h
        injection h with h3 h4
        subst h3
        exact ⟨h4.symm, key n m r h1 h2⟩
      · cases h
    · cases h

/- MAPS -/

/-- a key of a plain type may be asked for -/
theorem checkKey_cls (em : Bool) : ∀ (n : Nat) (t : TypeId) (cl : List Cls), plainCls P n t = some cl → ∀ (d : Nat), n ≤ d → ∀ (l : List Value) (v : Value), l.length = cl.length → ValIs P t l v → (Instr.checkKey em d t v).run P w = .ok () w
  | 0, t, cl, h => by simp [plainCls] at h
  | n + 1, t, cl, h => by
    intro d hd l v hlen hv
    obtain ⟨d, rfl⟩ : ∃ d', d = d' + 1 := ⟨d - 1, by omega⟩
    have hsh := plainCls_shape h
    simp only [plainCls] at h
    split at h
    · rename_i hu; simp [Instr.checkKey, run_underlying hu]
    · rename_i k hu; simp [Instr.checkKey, run_underlying hu]
    · rename_i hu; simp [Instr.checkKey, run_underlying hu]
    · rename_i fs hu
      split at h
      · cases h
      · split at h
        · rename_i cl' hl
          split at h
          · rename_i hs
            injection h with h; subst h
            have hag : aggSize P t = some (some cl'.length) := by simp [aggSize, hu, hs]
            simp only [ValIs, hag] at hv
            subst hv
            simp only [Instr.checkKey, Sem.run_bind, run_underlying hu, Result.andThen_ok]
            rw [← Array.forIn_toList]
            have hle : 0 + cl'.length ≤ l.length := by omega
            clear hs hsh hlen hag hu
            generalize fs.toList = L at hl ⊢
            generalize 0 = off at hl hle
            induction L generalizing off cl' with
            | nil => simp
            | cons f L ih =>
              simp only [fieldsCls] at hl
              split at hl
              · cases hl
              · rename_i hne
                split at hl
                · rename_i l1 hl1
                  split at hl
                  · rename_i m1 hm1
                    injection hl with hl
                    subst hl
                    rw [List.length_append] at hle
                    have hname : f.name ≠ "_" := fun e => hne (.inl e)
                    have hoff : f.offset = off := Classical.byContradiction fun e => hne (.inr e)
                    obtain ⟨v1, hp1, hv1⟩ := run_part_val (w := w) hl1 (X := l) (off := off) (by omega)
                    have hc := checkKey_cls em n f.type l1 hl1 d (by omega) _ v1 (by simp; omega) hv1
                    simp only [List.forIn_cons, Sem.run_bind, hname, ne_eq, not_false_eq_true, if_true, Result.andThen_ok, hoff, hp1, hc, Sem.run_pure]
                    exact ih m1 _ hm1 (by omega)
                  · cases hl
                · cases hl
          · cases h
        · cases h
    · rename_i m e hu
      split at h
      · rename_i l1 hl1
        split at h
        · rename_i hs
          injection h with h; subst h
          have hrl : (rowCls l1 m).length = m * l1.length := by
            clear hs hsh hlen hv hu
            induction m with
            | zero => simp [rowCls]
            | succ m ih => simp [rowCls, ih, Nat.add_mul, Nat.add_comm]
          have hag : aggSize P t = some (some (m * l1.length)) := by simp [aggSize, hu, hs]
          simp only [ValIs, hag] at hv
          subst hv
          have hse := (plainCls_shape hl1).1
          have hsz := sizeIn_some (w := w) hse
          simp only [Instr.checkKey, Sem.run_bind, run_underlying hu, Result.andThen_ok]
          simp only [Std.Legacy.Range.forIn_eq_forIn_range', Std.Legacy.Range.size, Nat.sub_zero, Nat.add_one_sub_one, Nat.div_one]
          have hle : (0 + m) * l1.length ≤ l.length := by rw [Nat.zero_add]; omega
          clear hs hsh hlen hag hu hrl
          generalize 0 = k at hle ⊢
          induction m generalizing k with
          | zero => simp
          | succ m ih =>
            have h1 : (k + (m + 1)) * l1.length = k * l1.length + (m * l1.length + l1.length) := by rw [Nat.add_mul, Nat.add_mul]; omega
            obtain ⟨v1, hp1, hv1⟩ := run_part_val (w := w) hl1 (X := l) (off := k * l1.length) (by omega)
            have hc := checkKey_cls em n e l1 hl1 d (by omega) _ v1 (by simp; omega) hv1
            simp only [List.range'_succ, List.forIn_cons, Sem.run_bind, hsz, Result.andThen_ok, hp1, hc, Sem.run_pure]
            exact ih (k + 1) (by rw [show k + 1 + m = k + (m + 1) by omega]; exact hle)
        · cases h
      · cases h
    · cases h

theorem isKey_val {t : TypeId} {K : KTy} (hk : keyCls P t = some K) {k : IVal} {r : Value} (h : isKey K k = true) (hr : VRel c k r) : ∃ (cl : List Cls) (l : List Value), plainCls P 8 t = some cl ∧ l.length = cl.length ∧ ValIs P t l r := by
  unfold isKey at h
  split at h
  · rename_i b hb
    unfold keyCls at hk
    split at hk
    · rename_i l n hl ha
      injection hk with hk
      subst hk
      unfold eqVals at hb
      split at hb
      · simp only [VRel] at hr
        obtain ⟨lx, rfl, hx⟩ := hr
        refine ⟨l, lx, hl, ?_, by simp [ValIs, ha]⟩
        rw [hx.length]
        simp only at hb
        exact (eqCls_length hb).1
      · cases hb
      · cases hb
    · rename_i l hl ha
      injection hk with hk
      subst hk
      unfold eqVals at hb
      split at hb
      · cases hb
      · simp only at hb
        split at hb
        · exact ⟨_, [r], hl, rfl, by simp [ValIs, ha]⟩
        · cases hb
      · cases hb
    · cases hk
  · cases h

theorem run_checkKey_cls {t : TypeId} {K : KTy} (hk : keyCls P t = some K) {k : IVal} {r : Value} (h : isKey K k = true) (hr : VRel c k r) (em : Bool) : (Instr.checkKey em 10000 t r).run P w = .ok () w := by
  obtain ⟨cl, l, h1, h2, h3⟩ := isKey_val hk h hr
  exact checkKey_cls em 8 t cl h1 10000 (by omega) l r h2 h3

/-- the entries of a map, in order -/
def EntsOld (c : Ctx) : List (IVal × IVal × Nat) → List MapEntry → Prop
  | [], l => l = []
  | (k, v, n) :: r, l => ∃ e es, l = e :: es ∧ k.passOK = true ∧ VRel c k e.key ∧ v.passOK = true ∧ VRel c v e.val ∧ e.born = n ∧ EntsOld c r es
/-- what was found among the entries -/
def Found (c : Ctx) (K : KTy) (k : IVal) (es : List (IVal × IVal × Nat)) (l : List MapEntry) (i : Nat) (res : Option (Nat × IVal)) (res' : Option (Nat × Value)) : Prop :=
  (res = none ∧ res' = none) ∨ ∃ j key v n e, res = some (i + j, v) ∧ res' = some (i + j, e.val) ∧ l[j]? = some e ∧ es[j]? = some (key, v, n) ∧ eqVals K k key = some true ∧ VRel c key e.key ∧ v.passOK = true ∧ VRel c v e.val

theorem Found.cons {c : Ctx} {K : KTy} {k : IVal} {es : List (IVal × IVal × Nat)} {l : List MapEntry} {i : Nat} {res : Option (Nat × IVal)} {res' : Option (Nat × Value)} (x : IVal × IVal × Nat) (y : MapEntry)
    (h : Found c K k es l (i + 1) res res') : Found c K k (x :: es) (y :: l) i res res' := by
  rcases h with h | ⟨j, key, v, n, e, h1, h2, h3, h4, h5⟩
  · exact .inl h
  · exact .inr ⟨j + 1, key, v, n, e, by rw [h1]; congr 2; omega, by rw [h2]; congr 2; omega, by simpa using h3, by simpa using h4, h5⟩

theorem findAsking_run {t : TypeId} {K : KTy} (hk : keyCls P t = some K) {k : IVal} {r : Value} (hr : VRel c k r) : ∀ (es : List (IVal × IVal × Nat)) (l : List MapEntry) (i : Nat) (res : Option (Nat × IVal)), EntsOld c es l → findEnt K k es i = some res →
    ∃ res', (Instr.findAsking t r l i).run P w = .ok res' w ∧ Found c K k es l i res res'
  | [], l, i, res, he, h => by
    simp only [EntsOld] at he
    subst he
    simp only [findEnt, Option.some.injEq] at h
    subst h
    exact ⟨none, rfl, .inl ⟨rfl, rfl⟩⟩
  | (key, v, n) :: es, l, i, res, he, h => by
    simp only [EntsOld] at he
    obtain ⟨e, l', rfl, h0, h1, h2, h3, h4, h5⟩ := he
    simp only [findEnt] at h
    split at h
    · rename_i hb
      injection h with h
      subst h
      have heq := equal_vals (w := w) hk hb hr h1
      refine ⟨some (i, e.val), by simp [Instr.findAsking, heq], .inr ⟨0, key, v, n, e, rfl, rfl, by simp, by simp, hb, h1, h2, h3⟩⟩
    · rename_i hb
      have heq := equal_vals (w := w) hk hb hr h1
      obtain ⟨res', h6, h7⟩ := findAsking_run hk hr es l' (i + 1) res h5 h
      exact ⟨res', by simp [Instr.findAsking, heq, h6], h7.cons _ _⟩
    · cases h

theorem sameNow_eq {d : TypeDesc} {K : KTy} {k key : IVal} {r s : Value} {b b' : Bool} (h : Instr.sameNow d r s = some b') (hb : eqVals K k key = some b) (hr : VRel c k r) (hs : VRel c key s) : b' = b := by
  unfold eqVals at hb
  split at hb
  · simp only [VRel] at hr
    obtain ⟨l, rfl, _⟩ := hr
    cases d <;> simp [Instr.sameNow] at h
  · rename_i u v
    split at hb
    · cases hb
    · split at hb
      · rename_i k' _
        simp only [VRel] at hr hs
        cases k' <;> cases u <;> cases v <;> simp only [clsEq] at hb <;> try (cases hb; done)
        · injection hb with hb
          simp only [PRel] at hr hs
          subst hr hs
          cases d <;> simp [Instr.sameNow] at h
          rw [← h, ← hb]
        · split at hb
          · rename_i hkk
            injection hb with hb
            simp only [PRel] at hr hs
            subst hr hs
            cases d <;> simp [Instr.sameNow, hkk] at h
            rw [← h, ← hb]
          · cases hb
        · injection hb with hb
          simp only [PRel] at hr hs
          subst hr hs
          cases d <;> simp [Instr.sameNow] at h
          rw [← h, ← hb, beq_toListBytes, mk_toList, mk_toList]
      · cases hb
  · cases hb

theorem findNow_run {d : TypeDesc} {t : TypeId} {K : KTy} (hk : keyCls P t = some K) {k : IVal} {r : Value} (hr : VRel c k r) : ∀ (es : List (IVal × IVal × Nat)) (l : List MapEntry) (i : Nat) (res : Option (Nat × IVal)) (q : Option (Nat × Value)), EntsOld c es l → findEnt K k es i = some res →
    Instr.findNow d r l i = some q → (Instr.findAsking t r l i).run P w = .ok q w
  | [], l, i, res, q, he, h, hq => by
    simp only [EntsOld] at he
    subst he
    simp only [Instr.findNow, Option.some.injEq] at hq
    subst hq
    rfl
  | (key, v, n) :: es, l, i, res, q, he, h, hq => by
    simp only [EntsOld] at he
    obtain ⟨e, l', rfl, h0, h1, h2, h3, h4, h5⟩ := he
    simp only [findEnt] at h
    simp only [Instr.findNow] at hq
    split at h
    · rename_i hb
      have heq := equal_vals (w := w) hk hb hr h1
      split at hq
      · injection hq with hq
        subst hq
        simp [Instr.findAsking, heq]
      · rename_i hs
        have := sameNow_eq hs hb hr h1
        cases this
      · cases hq
    · rename_i hb
      have heq := equal_vals (w := w) hk hb hr h1
      split at hq
      · rename_i hs
        have := sameNow_eq hs hb hr h1
        cases this
      · have ih := findNow_run hk hr es l' (i + 1) res q h5 h hq
        simp [Instr.findAsking, heq, ih]
      · cases hq
    · cases h

theorem findKey_run {t : TypeId} {K : KTy} (hk : keyCls P t = some K) {k : IVal} {r : Value} (hr : VRel c k r) {es : List (IVal × IVal × Nat)} {l : List MapEntry} {res : Option (Nat × IVal)} (he : EntsOld c es l) (h : findEnt K k es 0 = some res) :
    ∃ res', (Instr.findKey t r l).run P w = .ok res' w ∧ Found c K k es l 0 res res' := by
  obtain ⟨res', h1, h2⟩ := findAsking_run (w := w) hk hr es l 0 res he h
  have hd : ∃ d, P.underlying t = some d := by
    cases hu : P.underlying t with
    | none => simp [keyCls, plainCls, hu] at hk
    | some d => exact ⟨d, rfl⟩
  obtain ⟨d, hd⟩ := hd
  refine ⟨res', ?_, h2⟩
  cases hn : Instr.findNow d r l 0 with
  | none => simp [Instr.findKey, run_underlying hd, hn, h1]
  | some q =>
    have := findNow_run (w := w) hk hr es l 0 res q he h hn
    rw [h1] at this
    injection this with this
    subst this
    simp [Instr.findKey, run_underlying hd, hn]

theorem fe_mem {k1 k2 : List UInt8} {b : Bool} : ∀ (es : List (IVal × IVal × Nat)) (kv : List ((List UInt8 × List UInt8) × Bool)) (i : Nat), es.map (fun e => (e.1, e.2.1)) = kv.map (fun x => (keyI x.1.1 x.1.2, .p (.bool x.2))) →
    (kv.map (·.1)).Nodup → ((k1, k2), b) ∈ kv → ∃ j, findEnt ⟨true, [.str, .str]⟩ (keyI k1 k2) es i = some (some (j, .p (.bool b)))
  | [], kv, i, he, _, hm => by
    cases kv with
    | nil => cases hm
    | cons x r => simp at he
  | (k, v, n) :: es, kv, i, he, hn, hm => by
    cases kv with
    | nil => cases hm
    | cons x r =>
      obtain ⟨⟨a1, a2⟩, ab⟩ := x
      simp only [List.map_cons, List.cons.injEq, Prod.mk.injEq] at he
      obtain ⟨⟨rfl, rfl⟩, he⟩ := he
      simp only [List.map_cons, List.nodup_cons] at hn
      have hq : eqVals ⟨true, [.str, .str]⟩ (keyI k1 k2) (keyI a1 a2) = some ((k1 == a1) && ((k2 == a2) && true)) := rfl
      simp only [findEnt, hq]
      rcases List.mem_cons.1 hm with h | h
      · simp only [Prod.mk.injEq] at h
        obtain ⟨⟨rfl, rfl⟩, rfl⟩ := h
        exact ⟨i, by simp⟩
      · have hne : ((k1 == a1) && ((k2 == a2) && true)) = false := by
          cases hc : ((k1 == a1) && ((k2 == a2) && true)) with
          | false => rfl
          | true =>
            simp at hc
            obtain ⟨rfl, rfl⟩ := hc
            exact absurd (List.mem_map.2 ⟨_, h, rfl⟩) hn.1
        rw [hne]
        exact fe_mem es r (i + 1) he hn.2 h
theorem fe_not {k1 k2 : List UInt8} : ∀ (es : List (IVal × IVal × Nat)) (kv : List ((List UInt8 × List UInt8) × Bool)) (i : Nat), es.map (fun e => (e.1, e.2.1)) = kv.map (fun x => (keyI x.1.1 x.1.2, .p (.bool x.2))) →
    (∀ b, ((k1, k2), b) ∉ kv) → findEnt ⟨true, [.str, .str]⟩ (keyI k1 k2) es i = some none
  | [], kv, i, he, _ => rfl
  | (k, v, n) :: es, kv, i, he, hm => by
    cases kv with
    | nil => simp at he
    | cons x r =>
      obtain ⟨⟨a1, a2⟩, ab⟩ := x
      simp only [List.map_cons, List.cons.injEq, Prod.mk.injEq] at he
      obtain ⟨⟨rfl, rfl⟩, he⟩ := he
      have hq : eqVals ⟨true, [.str, .str]⟩ (keyI k1 k2) (keyI a1 a2) = some ((k1 == a1) && ((k2 == a2) && true)) := rfl
      have hne : ((k1 == a1) && ((k2 == a2) && true)) = false := by
        cases hc : ((k1 == a1) && ((k2 == a2) && true)) with
        | false => rfl
        | true =>
          simp at hc
          obtain ⟨rfl, rfl⟩ := hc
          exact absurd (by simp) (hm ab)
      simp only [findEnt, hq, hne]
      exact fe_not es r (i + 1) he fun b hb => hm b (by simp [hb])
theorem eqv_keys {K : KTy} {k : IVal} {a b : List UInt8} {t : Bool} (h : eqVals K k (keyI a b) = some t) : ∃ k1 k2, k = keyI k1 k2 ∧ K = ⟨true, [.str, .str]⟩ := by
  obtain ⟨ag, cl⟩ := K
  cases k <;> simp only [eqVals, keyI] at h <;> try (cases h; done)
  rename_i x
  cases ag with
  | false => simp at h
  | true =>
    simp only at h
    match cl, x, h with
    | [], [], h => simp [eqCls] at h
    | [], _ :: _, h => simp [eqCls] at h
    | [c1], x, h => (match x, h with | [], h => simp [eqCls] at h | v :: r, h => cases v <;> simp [eqCls] at h)
    | c1 :: c2 :: c3 :: cs, x, h =>
      match x, h with
      | [], h => simp [eqCls] at h
      | [v], h => cases v <;> simp [eqCls] at h
      | v :: u :: r, h => cases v <;> cases u <;> simp [eqCls] at h
    | [c1, c2], x, h =>
      match x, h with
      | [], h => simp [eqCls] at h
      | [v], h => cases v <;> simp [eqCls] at h
      | v :: u :: w :: r, h => cases v <;> cases u <;> cases w <;> simp [eqCls] at h
      | [v, u], h =>
        cases v <;> try (simp [eqCls] at h; done)
        cases u <;> try (simp [eqCls] at h; done)
        rename_i p q
        cases c1 <;> cases p <;> try (simp [eqCls, clsEq] at h; done)
        cases c2 <;> cases q <;> try (simp [eqCls, clsEq] at h; done)
        exact ⟨_, _, rfl, rfl⟩
theorem old_of : ∀ {l : List MapEntry} {kv : List ((List UInt8 × List UInt8) × Bool)}, l.map (fun e => (e.key, e.val)) = kv.map (fun x => (keyR x.1.1 x.1.2, Value.bool x.2)) →
    ∃ es, EntsOld c es l ∧ es.map (fun e => (e.1, e.2.1)) = kv.map (fun x => (keyI x.1.1 x.1.2, .p (.bool x.2)))
  | [], [], _ => ⟨[], rfl, rfl⟩
  | [], _ :: _, h => by simp at h
  | _ :: _, [], h => by simp at h
  | e :: l, x :: kv, h => by
    simp only [List.map_cons, List.cons.injEq, Prod.mk.injEq] at h
    obtain ⟨es, h1, h2⟩ := old_of h.2
    refine ⟨(keyI x.1.1 x.1.2, .p (.bool x.2), e.born) :: es, ⟨e, l, rfl, rfl, ?_, rfl, ?_, rfl, h1⟩, by simp [h2]⟩
    · rw [h.1.1]; simp only [keyI, keyR, VRel]; exact ⟨_, rfl, by simp [VsRel, VRel, PRel, IVal.cellOK]⟩
    · rw [h.1.2]; simp only [VRel, PRel]
theorem findKey_any {t : TypeId} {K : KTy} (hk : keyCls P t = some K) {k : IVal} {r : Value} (hr : VRel c k r) {es : List (IVal × IVal × Nat)} {l : List MapEntry} {res : Option (Nat × IVal)} (he : EntsRel c es l) (h : findEnt K k es 0 = some res) :
    ∃ res', (Instr.findKey t r l).run P w = .ok res' w ∧ ((res = none ∧ res' = none) ∨ ∃ j j' b, res = some (j, .p (.bool b)) ∧ res' = some (j', .bool b)) := by
  obtain ⟨kv, kv', e1, e2, hp, hn⟩ := he
  obtain ⟨es', ho, e3⟩ := old_of (c := c) e2
  cases kv with
  | nil =>
    cases es with
    | cons x y => simp at e1
    | nil =>
      cases hp.eq_nil
      cases es' with
      | cons x y => simp at e3
      | nil =>
        obtain ⟨res', h1, h2⟩ := findKey_run (w := w) hk hr ho (res := none) rfl
        simp only [findEnt, Option.some.injEq] at h
        subst h
        rcases h2 with ⟨_, h2⟩ | ⟨_, _, _, _, _, h2, _⟩
        · exact ⟨res', h1, .inl ⟨rfl, h2⟩⟩
        · cases h2
  | cons x0 kv0 =>
    have hkk : ∃ k1 k2, k = keyI k1 k2 ∧ K = ⟨true, [.str, .str]⟩ := by
      cases es with
      | nil => simp at e1
      | cons y es0 =>
        obtain ⟨y1, y2, y3⟩ := y
        simp only [List.map_cons, List.cons.injEq, Prod.mk.injEq] at e1
        obtain ⟨⟨rfl, _⟩, _⟩ := e1
        rw [findEnt] at h
        cases hq : eqVals K k (keyI x0.1.1 x0.1.2) with
        | none => simp [hq] at h
        | some t => exact eqv_keys hq
    obtain ⟨k1, k2, rfl, rfl⟩ := hkk
    have hn' : (kv'.map (·.1)).Nodup := (hp.map _).nodup_iff.2 hn
    cases Classical.em (∃ b, ((k1, k2), b) ∈ x0 :: kv0) with
    | inl hb =>
      obtain ⟨b, hb⟩ := hb
      obtain ⟨j, g1⟩ := fe_mem es _ 0 e1 hn hb
      obtain ⟨j', g2⟩ := fe_mem es' _ 0 e3 hn' (hp.mem_iff.2 hb)
      rw [g1] at h
      injection h with h
      subst h
      obtain ⟨res', h1, h2⟩ := findKey_run (w := w) hk hr ho g2
      refine ⟨res', h1, .inr ?_⟩
      rcases h2 with ⟨h2, _⟩ | ⟨_, _, v, _, e, h2, h3, _, _, _, _, _, h4⟩
      · cases h2
      · injection h2 with h2
        injection h2 with h2 h5
        subst h5
        simp only [VRel, PRel] at h4
        exact ⟨j, _, b, rfl, by rw [h3, h4]⟩
    | inr hb =>
      have hb' : ∀ b, ((k1, k2), b) ∉ x0 :: kv0 := fun b h => hb ⟨b, h⟩
      rw [fe_not es _ 0 e1 hb'] at h
      injection h with h
      subst h
      obtain ⟨res', h1, h2⟩ := findKey_run (w := w) hk hr ho (fe_not es' _ 0 e3 fun b h => hb' b (hp.mem_iff.1 h))
      rcases h2 with ⟨_, h2⟩ | ⟨_, _, _, _, _, h2, _⟩
      · exact ⟨res', h1, .inl ⟨rfl, h2⟩⟩
      · cases h2

end
end Go.Ideal

/-
  IDEAL SEMANTICS, 12: NEW MEMORY.
-/
namespace Go.Ideal
open Go
set_option linter.unusedSectionVars false
variable [Tabs]
section
variable {P : Program} {ρ : Opd → IVal} {a : Act} {c : Ctx} {w : World}

/-- what an operation comes to, whatever stands behind it -/
def OpDone (P : Program) (a : Act) (o : Oper) (c : Ctx) (w : World) (v : IVal) (M' : Mem) : Prop :=
  ∀ (K : Act → World → Prop) (Q : Exit → Act → World → Prop), (∀ rv w' d, d.M = M' → Step c w d w' → Un c d → VRel d v rv → K (a.put o.dst rv) w') → o.wp P a w K Q

theorem OpDone.of_value {o : Oper} {v : IVal} {M' : Mem} {rv : Value} {w' : World} {d : Ctx} (hr : (execOp a.eval o).run P w = .ok (.value rv) w') (hM : d.M = M') (hs : Step c w d w') (hu : Un c d) (hv : VRel d v rv) : OpDone P a o c w v M' := by
  intro K Q h
  unfold Oper.wp
  rw [hr]
  exact h rv w' d hM hs hu hv

theorem OpDone.of_skip {o : Oper} {M' : Mem} {w' : World} {d : Ctx} (hr : (execOp a.eval o).run P w = .ok .skip w') (hM : d.M = M') (hs : Step c w d w') (hu : Un c d) : OpDone P a o c w skipped M' := by
  intro K Q h
  unfold Oper.wp
  rw [hr]
  exact h undef w' d hM hs hu (by simp [skipped, VRel, TsRel, undef])

theorem Says.done {o : Oper} {v : IVal} {M' : Mem} (hW : WRel c w) (h : M' = c.M ∧ Says P a o c w v) : OpDone P a o c w v M' := by
  obtain ⟨e, rv, hr, hv⟩ := h
  exact OpDone.of_value hr e.symm (Step.refl hW) (Un.refl c) hv

theorem Mem.put_self {M : Mem} {k : Key} {b : IBlk} (h : M.get k = some b) : M.put k b = M := by
  cases k with
  | box s =>
    simp only [Mem.get] at h
    have : ∀ l : List (Nat × IBlk), findBox l s = some b → setBox l s b = l := by
      intro l
      induction l with
      | nil => intro h; simp [findBox] at h
      | cons x r ih =>
        obtain ⟨t, d⟩ := x
        intro h
        simp only [findBox] at h
        simp only [setBox]
        split at h
        · injection h with h; subst h; rfl
        · rw [ih h]
    simp [Mem.put, this _ h]
  | heap i =>
    simp only [Mem.get] at h
    simp only [Mem.put]
    rw [List.set_eq_of_length_le_or_getElem? M.heap i b h]
where
  List.set_eq_of_length_le_or_getElem? (l : List IBlk) (i : Nat) (b : IBlk) (h : l[i]? = some b) : l.set i b = l := by
    apply List.ext_getElem?
    intro j
    by_cases hij : i = j
    · subst hij
      rw [h]
      have : i < l.length := by
        rcases Nat.lt_or_ge i l.length with h' | h'
        · exact h'
        · simp [List.getElem?_eq_none h'] at h
      simp [this]
    · rw [List.getElem?_set_ne hij]

theorem Ctx.upd_self_M {k : Key} {b : IBlk} {x : Nat × Nat × Nat} (h : c.M.get k = some b) : (c.upd k b x).M = c.M := by
  simp [Ctx.upd, Mem.put_self h]

/-- a block that nothing stands for yet -/
theorem Step.push (hW : WRel c w) {M' : Mem} (hx : ∀ k b, c.M.get k = some b → M'.get k = some b) (_ : ∀ k, c.M.get k = none → c.m k = none) : Step c w { c with M := M' } w := by
  have hext : c.Ext { c with M := M' } :=
    ⟨fun k cs e v o h => ⟨cs, v, o, hx _ _ h, Nat.le_refl _, fun _ _ h => h⟩, fun k es ck h => ⟨es, ck, hx _ _ h, fun _ h => h⟩, fun _ _ _ h => h⟩
  have hold : ∀ k x, c.m k = some x → ∃ b, c.M.get k = some b := by
    intro k x h
    have := hW.dom k x h
    cases hg : c.M.get k with
    | none => simp [hg] at this
    | some b => exact ⟨b, rfl⟩
  refine ⟨hext, ⟨hW.z, fun k cs e v op b q K h1 h2 => ?_, fun k es ck b q K h1 h2 => ?_, fun k l b q K q' K' _ _ h3 h4 => hW.inj k l b q K q' K' (hW.dom _ _ h3) (hW.dom _ _ h4) h3 h4, fun k b q K _ h2 => hW.zdis k b q K (hW.dom _ _ h2) h2, fun k x h => ?_⟩, Nat.le_refl _, fun _ _ _ => rfl, fun _ h _ => h, fun _ _ _ h _ => h, Same.refl w⟩
  · obtain ⟨blk, hb⟩ := hold k _ h2
    have := hx _ _ hb
    simp only at h1
    rw [this] at h1
    cases h1
    obtain ⟨C, T, h3, h4, h5, h6, h7⟩ := hW.blk k cs e v op b q K hb h2
    exact ⟨C, T, h3, h4, h5, h6, fun j x hj => by obtain ⟨r, e1, e2, e3⟩ := h7 j x hj; exact ⟨r, e1, e2, e3.ext hext⟩⟩
  · obtain ⟨blk, hb⟩ := hold k _ h2
    have := hx _ _ hb
    simp only at h1
    rw [this] at h1
    cases h1
    obtain ⟨ents, h3, h4⟩ := hW.mp k es ck b q K hb h2
    exact ⟨ents, h3, h4.ext hext⟩
  · obtain ⟨blk, hb⟩ := hold k _ h
    simp [hx _ _ hb]

/-- an ideal block comes to lie in a new real one -/
theorem Step.mapCells (hW : WRel c w) {w' : World} (hos : Beside w w') {k : Key} {cs : List IVal} {e : Nat} {o : Bool} (hk : c.M.get k = some (.cells cs e 0 o)) (hm : c.m k = none) {l : List Value} {T : TypeId}
    (hw' : w'.heap = w.heap.push (.cells l.toArray T (0, 0))) (hl : VsRel c cs l) : Step c w (c.upd k (.cells cs e 0 o) (w.heap.size, 0, l.length)) w' := by
  refine Step.fresh hW hos hk (.inr ⟨rfl, hm⟩) hw' (by simp) (by rw [hl.length]; exact Nat.le_refl _) (fun _ => hl.length) fun d hd j x hx => ?_
  obtain ⟨r, h1, h2, h3⟩ := hl.at j x hx
  exact ⟨r, by simpa using h1, h2, h3.ext hd⟩

theorem Step.mapMap (hW : WRel c w) {w' : World} (hos : Beside w w') {k : Key} (hk : c.M.get k = some (.map [] 0)) (hm : c.m k = none) (hw' : w'.heap = w.heap.push (.map #[] 0)) : Step c w (c.upd k (.map [] 0) (w.heap.size, 0, 0)) w' := by
  have hs : (c.M.get k).isSome = true := by simp [hk]
  have hext : c.Ext (c.upd k (.map [] 0) (w.heap.size, 0, 0)) := Ctx.upd_ext_map hk (fun y hy => by rw [hm] at hy; cases hy)
  refine Step.update hW hext rfl k w.heap.size 0 0 (fun l hl => Mem.get_put_other (Ne.symm hl)) (fun l hl => by simp only [Ctx.upd, if_neg hl]) (by simp only [Ctx.upd]; rw [Mem.get_put_same hs]; rfl) (by simp only [Ctx.upd, if_true]) (.inl rfl) (by rw [hw']; simp) (fun i hi _ => by rw [hw']; exact Array.getElem?_push_lt hi ▸ (by simp [hi])) ?_ ?_ (Same.push hos hw' fun C1 T1 fr hh => by cases hh)
  · intro cs1 e1 v1 o1 h1
    simp only [Ctx.upd] at h1
    rw [Mem.get_put_same hs] at h1
    cases h1
  · intro es ck h1
    simp only [Ctx.upd] at h1
    rw [Mem.get_put_same hs] at h1
    cases h1
    exact ⟨#[], by rw [hw']; simp, ⟨[], [], rfl, rfl, .refl _, List.nodup_nil⟩⟩

/- WHAT THE OPERATIONS LAY -/

theorem repl_get {z : List PVal} {s : Nat} (hz : z.length = s) : ∀ (n j : Nat), j < n * s → (repl n z)[j]? = (pcells z)[j % s]?
  | 0, j, h => by omega
  | n + 1, j, h => by
    have hlz : (pcells z).length = s := by simp [pcells, hz]
    simp only [repl]
    rw [Nat.add_mul, Nat.one_mul] at h
    by_cases hj : j < s
    · rw [List.getElem?_append_left (by omega), Nat.mod_eq_of_lt hj]
    · rw [List.getElem?_append_right (by omega), hlz, repl_get hz n (j - s) (by omega)]
      congr 1
      conv => rhs; rw [show j = j - s + s by omega]
      simp

theorem repl_length {z : List PVal} {s : Nat} (hz : z.length = s) : ∀ n, (repl n z).length = n * s
  | 0 => by simp [repl]
  | n + 1 => by simp [repl, repl_length hz n, pcells, hz, Nat.add_mul, Nat.add_comm]

theorem repl_rel {z : List PVal} {s : Nat} (hz : z.length = s) (hs : 0 < s) {zs : Array Value} (h : VsRel c (pcells z) zs.toList) (n : Nat) :
    VsRel c (repl n z) ((Array.range (n * s)).map (zs[· % zs.size]!)).toList := by
  have hzs : zs.size = s := by rw [← Array.length_toList, h.length]; simp [pcells, hz]
  refine VsRel.of (by simp [repl_length hz]) fun j v r hv hr => ?_
  have hj : j < n * s := by
    rcases Nat.lt_or_ge j (n * s) with h' | h'
    · exact h'
    · rw [List.getElem?_eq_none (by rw [repl_length hz]; exact h')] at hv; cases hv
  rw [repl_get hz n j hj] at hv
  have hm : j % s < s := Nat.mod_lt _ hs
  obtain ⟨r', e, h2⟩ := h.at _ v hv
  have : r = r' := by
    simp only [Array.getElem?_toList] at hr e
    rw [Array.getElem?_map, Array.getElem?_range, if_pos hj, Option.map_some, hzs] at hr
    rw [getElem!_def, e] at hr
    simpa using hr.symm
  rw [this]
  exact h2

end
end Go.Ideal

/-
  IDEAL SEMANTICS, 13: THE OPERATIONS THAT LAY NEW MEMORY.
-/
namespace Go.Ideal
open Go
set_option linter.unusedSectionVars false
variable [Tabs]
section
variable {P : Program} {ρ : Opd → IVal} {a : Act} {c : Ctx} {w : World}

/-- the value of an operation that lays a block, the block's name given -/
def allocVal (ρ : Opd → IVal) : IOp → Key → Option IVal
  | .alloc _ _, k => some (.ptr k 0 0)
  | .allocA _ _, .heap i => some (.ptr (.heap i) 0 0)
  | .box _ _ _, k => some (.ptr k 0 0)
  | .buildSlice _ n _ _, .heap i => some (.slice i 0 0 n)
  | .mkMap, .heap i => some (.map i)
  | .mkSlice _ _ n k', .heap i => match ρ n, ρ k' with
    | .p (.int .i64 x), .p (.int .i64 y) => if 0 ≤ x ∧ x ≤ y ∧ y ≤ 4294967296 then some (.slice i 0 0 x.toNat) else none
    | _, _ => none
  | _, _ => none

theorem findBox_cons_same (l : List (Nat × IBlk)) (s : Nat) (b : IBlk) : findBox ((s, b) :: l) s = some b := by
  have : Nat.beq s s = true := Nat.beq_refl s
  simp [findBox]
theorem findBox_cons_other (l : List (Nat × IBlk)) {s t : Nat} (b : IBlk) (h : s ≠ t) : findBox ((s, b) :: l) t = findBox l t := by
  have : Nat.beq s t = false := by
    cases e : Nat.beq s t with
    | false => rfl
    | true => exact absurd (Nat.eq_of_beq_eq_true e) h
  simp [findBox, this]

theorem newBlk_spec {M M' : Mem} {s : Option Nat} {b : IBlk} {v : IVal} (h : newBlk M s b = some (v, M')) :
    ∃ k, v = .ptr k 0 0 ∧ M.get k = none ∧ M'.get k = some b ∧ ∀ l, l ≠ k → M'.get l = M.get l := by
  unfold newBlk at h
  split at h
  · rename_i s
    split at h
    · rename_i hf
      injection h with h
      injection h with h1 h2
      subst h1 h2
      refine ⟨.box s, rfl, hf, findBox_cons_same _ _ _, fun l hl => ?_⟩
      cases l with
      | box t => exact findBox_cons_other _ _ (fun e => hl (by rw [e]))
      | heap i => rfl
    · cases h
  · injection h with h
    injection h with h1 h2
    subst h1 h2
    refine ⟨.heap M.heap.length, rfl, by simp [Mem.get], by simp [Mem.get], fun l hl => ?_⟩
    cases l with
    | box t => rfl
    | heap i =>
      have : i ≠ M.heap.length := fun e => hl (by rw [e])
      simp only [Mem.get]
      rcases Nat.lt_or_ge i M.heap.length with h' | h'
      · rw [List.getElem?_append_left h']
      · rw [List.getElem?_eq_none h', List.getElem?_eq_none (by simp; omega)]

theorem newHeap_spec {M : Mem} {b : IBlk} : M.get (.heap M.heap.length) = none ∧ ({ M with heap := M.heap ++ [b] } : Mem).get (.heap M.heap.length) = some b ∧ ∀ l, l ≠ .heap M.heap.length → ({ M with heap := M.heap ++ [b] } : Mem).get l = M.get l := by
  obtain ⟨k, h1, h2, h3, h4⟩ := newBlk_spec (M := M) (s := none) (b := b) rfl
  injection h1 with h1
  subst h1
  exact ⟨h2, h3, h4⟩

/-- what the evaluator says of such an operation -/
theorem evalOp_alloc {C : Oracle} {M M' : Mem} {io : IOp} {v : IVal} (ha : isAlloc io = true) (h : evalOp C ρ M io = some (v, M')) :
    ∃ k b, contentOf ρ io = some b ∧ allocVal ρ io k = some v ∧ keyOf v = some k ∧ M.get k = none ∧ M'.get k = some b ∧ ∀ l, l ≠ k → M'.get l = M.get l := by
  cases io <;> simp only [isAlloc] at ha <;> try (cases ha; done)
  case alloc s z =>
    simp only [evalOp] at h
    obtain ⟨k, rfl, h1, h2, h3⟩ := newBlk_spec h
    exact ⟨k, _, rfl, rfl, rfl, h1, h2, h3⟩
  case allocA z e =>
    simp only [evalOp, newBlk] at h
    injection h with h
    injection h with h1 h2
    subst h1 h2
    obtain ⟨h1, h2, h3⟩ := newHeap_spec (M := M) (b := .cells (pcells z) e 0 false)
    exact ⟨.heap M.heap.length, _, rfl, rfl, rfl, h1, h2, h3⟩
  case box s n x =>
    simp only [evalOp] at h
    split at h
    · rename_i cs hc
      split at h
      · obtain ⟨k, rfl, h1, h2, h3⟩ := newBlk_spec h
        exact ⟨k, _, by simp [contentOf, hc], rfl, rfl, h1, h2, h3⟩
      · cases h
    · cases h
  case buildSlice e n z ps =>
    simp only [evalOp] at h
    split at h
    · rename_i cs hc
      injection h with h
      injection h with h1 h2
      subst h1 h2
      obtain ⟨h1, h2, h3⟩ := newHeap_spec (M := M) (b := .cells cs e 0 false)
      exact ⟨.heap M.heap.length, _, by simp [contentOf, hc], rfl, rfl, h1, h2, h3⟩
    · cases h
  case mkMap =>
    simp only [evalOp] at h
    injection h with h
    injection h with h1 h2
    subst h1 h2
    obtain ⟨h1, h2, h3⟩ := newHeap_spec (M := M) (b := .map [] 0)
    exact ⟨.heap M.heap.length, _, rfl, rfl, rfl, h1, h2, h3⟩
  case mkSlice e z n k =>
    simp only [evalOp] at h
    split at h
    · rename_i x y e1 e2
      split at h
      · rename_i hxy
        injection h with h
        injection h with h1 h2
        subst h1 h2
        obtain ⟨h1, h2, h3⟩ := newHeap_spec (M := M) (b := .cells (repl y.toNat z) e 0 false)
        exact ⟨.heap M.heap.length, _, by simp [contentOf, e2], by simp [allocVal, e1, e2, hxy], rfl, h1, h2, h3⟩
      · cases h
    · cases h

/-- an allocation carried out: its block, which nothing stood for, lies in a new real one -/
def AllocDone (P : Program) (a : Act) (o : Oper) (c : Ctx) (w : World) (k : Key) (v : IVal) : Prop :=
  ∃ rv w' d, (execOp a.eval o).run P w = .ok (.value rv) w' ∧ d.M = c.M ∧ Step c w d w' ∧ VRel d v rv ∧ (∀ l, l ≠ k → d.m l = c.m l) ∧ d.z = c.z

theorem alloc_ptr (hW : WRel c w) {o : Oper} {k : Key} {cs : List IVal} {n : Nat} (hk : c.M.get k = some (.cells cs n 0 false)) (hm : c.m k = none) {l : List Value} {T : TypeId} (hl : VsRel c cs l)
    (hr : (execOp a.eval o).run P w = .ok (.value (.pointer (some ⟨w.heap.size, 0, none⟩))) (w.alloc (.cells l.toArray T (0, 0)))) : AllocDone P a o c w k (.ptr k 0 0) := by
  have hs := Step.mapCells hW ⟨rfl, rfl, rfl, by first | exact Nat.le_refl _ | exact Nat.le_succ _⟩ hk hm (w' := w.alloc (.cells l.toArray T (0, 0))) rfl hl
  refine ⟨_, _, _, hr, Ctx.upd_self_M hk, hs, ?_, fun l hl => by simp [Ctx.upd, hl], rfl⟩
  simp only [VRel]
  exact ⟨_, rfl, cs, n, 0, false, by rw [Ctx.upd_self_M hk]; exact hk, Nat.le_refl _, fun _ => ⟨w.heap.size, 0, l.length, by simp [Ctx.upd], rfl⟩⟩

theorem alloc_slice (hW : WRel c w) {o : Oper} {i : Nat} {cs : List IVal} {e n cap : Nat} (hk : c.M.get (.heap i) = some (.cells cs e 0 false)) (hm : c.m (.heap i) = none) {l : List Value} {T : TypeId} (hl : VsRel c cs l)
    (hn : n ≤ cap) (hc : cap * e = l.length)
    (hr : (execOp a.eval o).run P w = .ok (.value (.slice (some ⟨w.heap.size, 0, none⟩) n cap)) (w.alloc (.cells l.toArray T (0, 0)))) : AllocDone P a o c w (.heap i) (.slice i 0 0 n) := by
  have hs := Step.mapCells hW ⟨rfl, rfl, rfl, by first | exact Nat.le_refl _ | exact Nat.le_succ _⟩ hk hm (w' := w.alloc (.cells l.toArray T (0, 0))) rfl hl
  refine ⟨_, _, _, hr, Ctx.upd_self_M hk, hs, ?_, fun l hl => by simp [Ctx.upd, hl], rfl⟩
  simp only [VRel]
  exact ⟨_, _, rfl, cs, e, 0, false, by rw [Ctx.upd_self_M hk]; exact hk, Nat.le_refl _, fun _ => ⟨w.heap.size, 0, l.length, by simp [Ctx.upd], hn, rfl, rfl, .inr rfl, by omega⟩⟩

theorem compOp_alloc_done (hρ : OpdOK ρ a c) (hW : WRel c w) {o : Oper} {loc : List Nat} {io : IOp} (hc : compOp P loc o.dst o.op = some io) (ha : isAlloc io = true) {k : Key} {b : IBlk} {v : IVal}
    (hcont : contentOf ρ io = some b) (hv : allocVal ρ io k = some v) (hk : c.M.get k = some b) (hm : c.m k = none) : AllocDone P a o c w k v := by
  obtain ⟨dst, op, ty, pos, after, guard⟩ := o
  simp only at hc
  cases op <;> simp only [compOp] at hc
  case alloc t =>
    split at hc
    · rename_i z s hz hsl
      injection hc with hc
      subst hc
      simp only [contentOf, Option.some.injEq] at hcont
      simp only [allocVal, Option.some.injEq] at hv
      subst hcont hv
      obtain ⟨zv, hzr, hzc⟩ := zeroCellsOf_run (c := c) hz
      refine alloc_ptr hW hk hm hzc (T := t) ?_
      simp [execOp, Instr.alloc, hzr, newVar, newRow]
    · rename_i z hz hsl
      split at hc
      · rename_i e he
        injection hc with hc
        subst hc
        cases k with
        | box _ => simp [allocVal] at hv
        | heap i =>
          simp only [contentOf, Option.some.injEq] at hcont
          simp only [allocVal, Option.some.injEq] at hv
          subst hcont hv
          obtain ⟨zv, hzr, hzc⟩ := zeroCellsOf_run (c := c) hz
          refine alloc_ptr hW hk hm hzc (T := t) ?_
          simp [execOp, Instr.alloc, hzr, newVar, newRow]
      · injection hc with hc
        subst hc
        simp only [contentOf, Option.some.injEq] at hcont
        simp only [allocVal, Option.some.injEq] at hv
        subst hcont hv
        obtain ⟨zv, hzr, hzc⟩ := zeroCellsOf_run (c := c) hz
        refine alloc_ptr hW hk hm hzc (T := t) ?_
        simp [execOp, Instr.alloc, hzr, newVar, newRow]
    · cases hc
  case box t x =>
    split at hc
    · rename_i n y hn hy
      injection hc with hc
      subst hc
      simp only [allocVal, Option.some.injEq] at hv
      subst hv
      simp only [contentOf] at hcont
      split at hcont
      · rename_i cs hcs
        injection hcont with hcont
        subst hcont
        have hcr := cellsOf_rel hcs (hρ _ _ hy)
        refine alloc_ptr hW hk hm hcr (T := t) ?_
        simp [execOp, Instr.box, newVar, newRow]
      · cases hcont
    · cases hc
  case buildSlice t n ps =>
    split at hc
    · rename_i e hu
      split at hc
      · rename_i s z hs hz
        split at hc
        · rename_i hcond
          obtain ⟨hle, hzl, hs0⟩ := hcond
          simp only [Option.map_eq_some_iff] at hc
          obtain ⟨qs, hq, rfl⟩ := hc
          simp only [contentOf] at hcont
          split at hcont
          · rename_i cs hf
            injection hcont with hcont
            subst hcont
            cases k with
            | box _ => simp [allocVal] at hv
            | heap i =>
              simp only [allocVal, Option.some.injEq] at hv
              subst hv
              obtain ⟨zv, hzr, hzc⟩ := zeroCellsOf_run (c := c) hz
              obtain ⟨e1, e2⟩ := rowPlaces_spec hq
              have hrep := repl_rel (c := c) hzl hs0 hzc n
              obtain ⟨l', h3, h4⟩ := fill_sound hρ (place := fun i => some (i * s, s)) (fun j q hj => by
                obtain ⟨i, x, h5, h6, h7, h9⟩ := e2 j q hj
                exact ⟨i, x, h5, by rw [h6, h7], h9⟩) e1 hrep hf
              have hlen : l'.length = n * s := by
                rw [h4.length]
                have : ∀ (qs : List (Nat × Nat × Opd)) (cs cs' : List IVal), fillParts ρ cs qs = some cs' → cs'.length = cs.length := by
                  intro qs
                  induction qs with
                  | nil => intro cs cs' h; simp only [fillParts, Option.some.injEq] at h; rw [h]
                  | cons q qs ih =>
                    intro cs cs' h
                    obtain ⟨off, m, y⟩ := q
                    simp only [fillParts] at h
                    split at h
                    · split at h
                      · rename_i new _ _ hb
                        rw [Bool.and_eq_true] at hb
                        have hb1 := Nat.eq_of_beq_eq_true hb.1
                        have hb2 := Nat.le_of_ble_eq_true hb.2
                        rw [ih _ _ h]
                        simp only [splice, List.length_append, List.length_take, List.length_drop]
                        omega
                      · cases h
                    · cases h
                rw [this qs _ _ hf, repl_length hzl]
              refine alloc_slice hW hk hm h4 (Nat.le_refl n) hlen.symm (T := e) ?_
              have hps : (ps.map fun (i, x) => (i, a.eval x)).toList = ps.toList.map fun p => (p.1, a.eval p.2) := by simp
              simp only [Array.toArray_toList] at h3
              have hfill := h3
              have hnle : ¬ (n * s > 2 ^ 24) := by omega
              by_cases hn0 : n = 0
              · subst hn0
                simp only [execOp, Instr.buildSlice, Sem.run_bind, run_underlying hu, Result.andThen_ok, sizeIn_some (w := w) hs, hps]
                simp only [Nat.zero_mul] at hfill ⊢
                simp only [Array.range_zero', List.map_toArray, List.map_nil] at hfill ⊢
                simp [hfill, newRow]
              · have hns : n * s ≠ 0 := Nat.mul_ne_zero hn0 (by omega)
                simp only [execOp, Instr.buildSlice, Sem.run_bind, run_underlying hu, Result.andThen_ok, sizeIn_some (w := w) hs, hps, if_neg hnle, if_neg hns, hzr, Sem.run_pure]
                rw [hfill]
                simp [newRow]
          · cases hcont
        · cases hc
      · cases hc
    · cases hc
  case makeMap t r =>
    cases r with
    | some _ => simp at hc
    | none =>
      simp only [Option.some.injEq] at hc
      subst hc
      simp only [contentOf, Option.some.injEq] at hcont
      subst hcont
      cases k with
      | box _ => simp [allocVal] at hv
      | heap i =>
        simp only [allocVal, Option.some.injEq] at hv
        subst hv
        have hs := Step.mapMap hW ⟨rfl, rfl, rfl, by first | exact Nat.le_refl _ | exact Nat.le_succ _⟩ hk hm (w' := w.alloc (.map #[] 0)) rfl
        refine ⟨.map (some w.heap.size), w.alloc (.map #[] 0), _, by simp [execOp, Instr.makeMap], Ctx.upd_self_M hk, hs, ?_, fun l hl => by simp [Ctx.upd, hl], rfl⟩
        simp only [VRel]
        exact ⟨[], 0, by rw [Ctx.upd_self_M hk]; exact hk, w.heap.size, 0, 0, by simp [Ctx.upd], rfl⟩
  case makeSlice t n k' =>
    split at hc
    · rename_i e n' k2 hu hn hk2
      split at hc
      · rename_i i z hi hz
        split at hc
        · rename_i hcond
          obtain ⟨hzl, hs0, hby⟩ := hcond
          injection hc with hc
          subst hc
          cases k with
          | box _ => simp [allocVal] at hv
          | heap ii =>
            simp only [allocVal] at hv
            split at hv
            · rename_i x y e1 e2
              split at hv
              · rename_i hxy
                injection hv with hv
                subst hv
                simp only [contentOf, e2, Option.some.injEq] at hcont
                subst hcont
                obtain ⟨zv, hzr, hzc⟩ := zeroCellsOf_run (c := c) hz
                have hv1 := hρ _ _ hn
                have hv2 := hρ _ _ hk2
                rw [e1] at hv1
                rw [e2] at hv2
                simp only [VRel, PRel] at hv1 hv2
                have hrep := repl_rel (c := c) hzl hs0 hzc y.toNat
                refine alloc_slice hW hk hm hrep (n := x.toNat) (cap := y.toNat) (by omega) (by simp) (T := e) ?_
                have hb : (i.bytes : Int) * y ≤ 281474976710656 := by
                  have h1 : (i.bytes : Int) * y ≤ 4096 * y := Int.mul_le_mul_of_nonneg_right (by omega) (by omega)
                  omega
                have hzz : ∃ zv', i.zero = some zv' ∧ (∀ w, (zeroValue e).run P w = .ok zv' w) := by
                  unfold zeroCellsOf at hz
                  rw [hi] at hz
                  simp only at hz
                  split at hz
                  · rename_i z' hz'; exact ⟨z', hz', fun w => by simp [zeroValue, typeInfo, hi, hz']⟩
                  · cases hz
                obtain ⟨zv', hz1, hz2⟩ := hzz
                have : zv' = zv := by
                  have h1 := hz2 w
                  rw [hzr w] at h1
                  injection h1 with h1
                  exact h1.symm
                subst this
                have hr := run_make (P := P) w t e i zv' hu hi hz1 .i64 .i64 x y hxy.1 hxy.2.1 hb (by omega)
                simp only [execOp, hv1, hv2, Sem.run_bind, hr, Result.andThen_ok, Sem.run_pure]
                simp [madeCells]
                congr 2
                apply Array.ext'
                simp
              · cases hv
            · cases hv
        · cases hc
      · cases hc
    · cases hc
  all_goals
    exfalso
    first
      | (cases hc; done)
      | (simp only [Option.map_eq_some_iff] at hc; obtain ⟨_, _, rfl⟩ := hc; simp [isAlloc] at ha; done)
      | ((try unfold compCall at hc); (repeat' split at hc) <;> first | contradiction | (cases hc; done) | (injection hc with hc; subst hc; simp [isAlloc] at ha; done) | (simp only [Option.map_eq_some_iff] at hc; obtain ⟨_, _, rfl⟩ := hc; simp [isAlloc] at ha; done))

end
end Go.Ideal

/-
  IDEAL SEMANTICS, 14: STORES, APPENDS, MAPS.
-/
namespace Go.Ideal
open Go
set_option linter.unusedSectionVars false
variable [Tabs]
section
variable {P : Program} {ρ : Opd → IVal} {a : Act} {c : Ctx} {w : World}

theorem Ctx.upd_M {k : Key} {b : IBlk} {x : Nat × Nat × Nat} : (c.upd k b x).M = c.M.put k b := rfl

/-- cells written over others of a block that is ours -/
theorem write_sound (hW : WRel c w) {x : IVal} {r : Value} {new : List IVal} {l : List Value} {M' : Mem} (h : writeCells c.M x new = some M') (hx : VRel c x r) (hl : VsRel c new l) :
    ∃ b o w' d, r = .pointer (some ⟨b, o, none⟩) ∧ (storeCells ⟨b, o, none⟩ l).run P w = .ok () w' ∧ d.M = M' ∧ Step c w d w' ∧ Un c d := by
  unfold writeCells at h
  split at h
  · rename_i k ver off
    split at h
    · rename_i cs e v op hk
      split at h
      · rename_i hb
        injection h with h
        subst h
        rw [Bool.and_eq_true] at hb
        have h1 := Nat.eq_of_beq_eq_true hb.1
        have h2 := Nat.le_of_ble_eq_true hb.2
        subst h1
        simp only [VRel] at hx
        obtain ⟨ra, rfl, cs', e', v', o', hk', _, h3⟩ := hx
        rw [hk] at hk'
        cases hk'
        obtain ⟨b, q, K, hm, rfl⟩ := h3 rfl
        obtain ⟨C, T, hheap, hq, hlen, hop, hcells⟩ := hW.blk k cs e ver op b q K hk hm
        have hll := hl.length
        have hrun := run_storeCells_at P b (q + off) T l 0 C w hheap (by rw [Nat.add_zero]; omega) (fun u hu => by
          obtain ⟨j, hj⟩ := List.mem_iff_getElem?.1 hu
          have hlt : j < new.length := by
            rw [← hll]
            rcases Nat.lt_or_ge j l.length with h' | h'
            · exact h'
            · simp [List.getElem?_eq_none h'] at hj
          obtain ⟨r', e1, e2, e3⟩ := hl.at j new[j] (List.getElem?_eq_getElem hlt)
          rw [hj] at e1
          cases e1
          exact e3.one e2)
        simp only [Nat.add_zero] at hrun
        have hspl : (splice cs off new).length = cs.length := by simp only [splice, List.length_append, List.length_take, List.length_drop]; omega
        have hsize : (C.toList.take (q + off) ++ l ++ C.toList.drop (q + off + l.length)).length = C.size := by simp; omega
        have hstep := Step.write hW ⟨rfl, rfl, rfl, by first | exact Nat.le_refl _ | exact Nat.le_succ _⟩ hk hm (cs' := splice cs off new) (v' := ver) (o' := op) (q' := q) (K' := K) (.inr ⟨rfl, rfl, rfl⟩) (C' := (C.toList.take (q + off) ++ l ++ C.toList.drop (q + off + l.length)).toArray) (T := T)
          (w' := w.setRow b (C.toList.take (q + off) ++ l ++ C.toList.drop (q + off + l.length)).toArray) (setRow_heap w b C _ T _ hheap) (by simp) (fun i hi => setRow_other w b i _ (by omega)) (by simp only [List.size_toArray]; omega) (by omega) (fun ho => by rw [hspl]; exact hop ho) (fun d hd j x hj => by
            simp only [List.getElem?_toArray]
            simp only [splice] at hj
            by_cases hj1 : j < off
            · rw [List.getElem?_append_left (by simp; omega), List.getElem?_take_of_lt hj1] at hj
              obtain ⟨r', e1, e2, e3⟩ := hcells j x hj
              refine ⟨r', ?_, e2, e3.ext hd⟩
              rw [List.append_assoc, List.getElem?_append_left (by simp; omega), List.getElem?_take_of_lt (by omega), Array.getElem?_toList]
              exact e1
            · rw [List.getElem?_append_right (by simp; omega)] at hj
              have e0 : (cs.take off).length = off := by simp; omega
              rw [e0] at hj
              by_cases hj2 : j - off < new.length
              · rw [List.getElem?_append_left hj2] at hj
                obtain ⟨r', e1, e2, e3⟩ := hl.at (j - off) x hj
                refine ⟨r', ?_, e2, e3.ext hd⟩
                rw [List.append_assoc, List.getElem?_append_right (by simp; omega)]
                have : q + j - (C.toList.take (q + off)).length = j - off := by simp; omega
                rw [this, List.getElem?_append_left (by omega)]
                exact e1
              · rw [List.getElem?_append_right (by omega), List.getElem?_drop] at hj
                have e4 : off + new.length + (j - off - new.length) = j := by omega
                rw [e4] at hj
                obtain ⟨r', e1, e2, e3⟩ := hcells j x hj
                refine ⟨r', ?_, e2, e3.ext hd⟩
                rw [List.getElem?_append_right (by simp; omega), List.getElem?_drop]
                have : q + off + l.length + (q + j - (C.toList.take (q + off) ++ l).length) = q + j := by simp; omega
                rw [this, Array.getElem?_toList]
                exact e1)
        exact ⟨b, q + off, _, _, rfl, hrun, rfl, hstep, Un.upd hm⟩
      · cases h
    · cases h
  · cases h

theorem done_store (hρ : OpdOK ρ a c) (hW : WRel c w) {o : Oper} {t : TypeId} {x y : Operand} {n : Nat} {x' y' : Opd} (ho : o.op = .store t x y) (hn : sizeIn P t = some n) (hx : compOpd x = some x') (hy : compOpd y = some y')
    {v : IVal} {M' : Mem} {C : Oracle} (h : evalOp C ρ c.M (.store n x' y') = some (v, M')) : OpDone P a o c w v M' := by
  simp only [evalOp] at h
  split at h
  · rename_i cs hcs
    split at h
    · rename_i hlen
      split at h
      · rename_i M2 hw
        injection h with h
        injection h with h1 h2
        subst h1 h2
        have hl := cellsOf_rel hcs (hρ _ _ hy)
        obtain ⟨b, off, w', d, hr, hrun, hM, hs, hu⟩ := write_sound (P := P) hW hw (hρ _ _ hx) hl
        have hsz : (a.eval y).cells.size = n := by rw [← Array.length_toList, hl.length, Nat.eq_of_beq_eq_true hlen]
        refine OpDone.of_skip ?_ hM hs hu
        simp [execOp, ho, Instr.storeAt, hr, Instr.sureAddr, storeVar, sizeIn_some (w := w) hn, hsz, hrun]
      · cases h
    · cases h
  · cases h

theorem zeroValOf_run {t : TypeId} {z : IVal} (h : zeroValOf P t = some z) : ∃ v, (∀ w, (zeroValue t).run P w = .ok v w) ∧ (∀ c, VRel c z v) ∧ z.passOK = true := by
  unfold zeroValOf at h
  split at h
  · rename_i i hi
    split at h
    · rename_i v hv
      refine ⟨v, fun w => by simp [zeroValue, typeInfo, hi, hv], fun c => constVal_rel h c, ?_⟩
      unfold constVal at h
      split at h
      · split at h
        · injection h with h; subst h; rfl
        · cases h
      · split at h
        · injection h with h; subst h; rfl
        · cases h
    · cases h
  · cases h

theorem says_lookup (hρ : OpdOK ρ a c) (hW : WRel c w) {o : Oper} {t kt e : TypeId} {x k : Operand} {ok : Bool} {x' k' : Opd} {z : IVal} {K : KTy} (ho : o.op = .lookup t x k ok) (hu : P.underlying t = some (.map kt e)) (hx : compOpd x = some x') (hk : compOpd k = some k')
    (hz : zeroValOf P e = some z) (hK : keyCls P kt = some K)
    {v : IVal} {M' : Mem} {C : Oracle} (h : evalOp C ρ c.M (.lookup ok z K x' k') = some (v, M')) : M' = c.M ∧ Says P a o c w v := by
  have hvx := hρ _ _ hx
  have hvk := hρ _ _ hk
  obtain ⟨zv, hzr, hzrel, hzp⟩ := zeroValOf_run hz
  have hck : ∀ em, (Instr.checkKey em 10000 kt (a.eval k)).run P w = .ok () w ∨ isKey K (ρ k') = false := by
    intro em
    cases hkey : isKey K (ρ k') with
    | false => exact .inr rfl
    | true => exact .inl (run_checkKey_cls hK hkey hvk em)
  have fin : ∀ (vv : IVal) (rv : Value) (b : Bool), vv.passOK = true → VRel c vv rv → (Instr.lookup t (a.eval x) (a.eval k) ok).run P w = .ok (if ok then .tuple #[rv, .bool b] else rv) w →
      lookRes c.M ok vv b = some (v, M') → M' = c.M ∧ Says P a o c w v := by
    intro vv rv b hp hr hrun he
    unfold lookRes at he
    have hex : (execOp a.eval o).run P w = .ok (.value (if ok then .tuple #[rv, .bool b] else rv)) w := by simp [execOp, ho, hrun]
    cases ok
    · simp only [Bool.false_eq_true, if_false] at he hex
      injection he with he
      injection he with h1 h2
      subst h1
      exact ⟨h2.symm, rv, hex, hr⟩
    · simp only [if_true] at he hex
      injection he with he
      injection he with h1 h2
      subst h1
      refine ⟨h2.symm, .tuple #[rv, .bool b], hex, ?_⟩
      simp only [VRel]
      refine ⟨[rv, .bool b], rfl, ?_⟩
      simp only [TsRel]
      exact ⟨rv, _, rfl, hp, hr, .bool b, [], rfl, rfl, by simp only [VRel, PRel], rfl⟩
  simp only [evalOp] at h
  split at h
  · rename_i hkey
    have hck := fun em => (hck em).resolve_right (by rw [hkey]; simp)
    split at h
    · rename_i ex
      rw [ex] at hvx
      simp only [VRel, PRel] at hvx
      refine fin z zv false hzp (hzrel c) ?_ h
      have hfk : (Instr.findKey kt (a.eval k) []).run P w = .ok none w := by
        obtain ⟨res', h1, h2⟩ := findKey_run (w := w) (c := c) hK hvk (es := []) (l := []) (res := none) rfl rfl
        rcases h2 with ⟨_, rfl⟩ | ⟨j, key, vv, n, e', _, _, h3, _⟩
        · exact h1
        · simp at h3
      simp only [Instr.lookup, Sem.run_bind, run_underlying hu, Result.andThen_ok, hvx, Sem.run_pure, hck]
      simp [hfk, hzr]
    · rename_i i ex
      split at h
      · rename_i es ck hb
        rw [ex] at hvx
        simp only [VRel] at hvx
        obtain ⟨es', ck', hb', b, q, KK, hm, hr⟩ := hvx
        obtain ⟨ents, hheap, hents⟩ := hW.mp _ es ck b q KK hb hm
        have hget : (getObj b).run P w = .ok (.map ents ck) w := by simp [getObj, Sem.run, hheap]
        split at h
        · rename_i j vv hf
          obtain ⟨res', h1, h2⟩ := findKey_any (w := w) hK hvk hents hf
          rcases h2 with ⟨h3, _⟩ | ⟨j0, j', bb, h3, h4⟩
          · cases h3
          · injection h3 with h3
            injection h3 with h3a h3b
            subst h3b h4
            refine fin _ (.bool bb) true rfl (by simp only [VRel, PRel]) ?_ h
            simp only [Instr.lookup, Sem.run_bind, run_underlying hu, Result.andThen_ok, hr, hget, Sem.run_pure, hck, h1]
        · rename_i hf
          obtain ⟨res', h1, h2⟩ := findKey_any (w := w) hK hvk hents hf
          rcases h2 with ⟨_, rfl⟩ | ⟨j0, j', bb, h3, _⟩
          · refine fin z zv false hzp (hzrel c) ?_ h
            simp only [Instr.lookup, Sem.run_bind, run_underlying hu, Result.andThen_ok, hr, hget, Sem.run_pure, hck, h1, hzr]
          · cases h3
        · cases h
      · cases h
    · cases h
  · cases h

theorem sameBits_eq {K : KTy} {k key : IVal} {r s : Value} (h : eqVals K k key = some true) (hr : VRel c k r) (hs : VRel c key s) : Instr.sameBits 10000 s r = true := by
  have scal : ∀ (cl : Cls) (x y : PVal) (u v : Value) (n : Nat), clsEq cl x y = some true → PRel c.z x u → PRel c.z y v → Instr.sameBits n v u = true := by
    intro cl x y u v n h hu hv
    cases cl <;> cases x <;> cases y <;> simp only [clsEq] at h <;> try (cases h; done)
    · simp only [PRel] at hu hv; subst hu hv; simp at h; simp [Instr.sameBits, h]
    · split at h
      · simp only [PRel] at hu hv; subst hu hv; simp at h; subst_vars; simp [Instr.sameBits]
      · cases h
    · simp only [PRel] at hu hv; subst hu hv; simp at h; subst h; simp only [Instr.sameBits]; rw [beq_toListBytes]; simp
  unfold eqVals at h
  split at h
  · rename_i xs ys
    split at h
    · rename_i hag
      simp only [VRel] at hr hs
      obtain ⟨l, rfl, hl⟩ := hr
      obtain ⟨m, rfl, hm⟩ := hs
      have hlen := eqCls_length h
      show Instr.sameBits (9999 + 1) (.agg m.toArray) (.agg l.toArray) = true
      generalize 9999 = d
      have hsz : m.length = l.length := by rw [hl.length, hm.length, hlen.1, hlen.2]
      simp only [Instr.sameBits, List.size_toArray, hsz, beq_self_eq_true, Bool.true_and]
      clear hlen hsz hag
      generalize K.cls = cl at h
      induction cl generalizing xs ys l m with
      | nil =>
        cases xs <;> cases ys <;> simp only [eqCls] at h <;> try (cases h; done)
        simp only [VsRel] at hl hm
        subst hl hm
        rfl
      | cons q cl ih =>
        cases xs with
        | nil => simp [eqCls] at h
        | cons x xs =>
          cases ys with
          | nil => cases x <;> simp [eqCls] at h
          | cons y ys =>
            cases x <;> cases y <;> simp only [eqCls] at h <;> try (cases h; done)
            split at h
            · rename_i s t h1 h2
              injection h with h
              rw [Bool.and_eq_true] at h
              obtain ⟨e1, e2⟩ := h
              subst e1 e2
              simp only [VsRel] at hl hm
              obtain ⟨r1, rs1, rfl, _, hr1, hrs1⟩ := hl
              obtain ⟨r2, rs2, rfl, _, hr2, hrs2⟩ := hm
              simp only [VRel] at hr1 hr2
              have := ih xs ys rs1 hrs1 rs2 hrs2 h2
              simp only [List.zip_cons_cons, List.all_cons, scal _ _ _ _ _ d h1 hr1 hr2, Bool.true_and]
              exact this
            · cases h
    · cases h
  · split at h
    · cases h
    · split at h
      · rename_i hc
        simp only [VRel] at hr hs
        exact scal _ _ _ _ _ _ h hr hs
      · cases h
  · cases h

end
end Go.Ideal

/-
  IDEAL SEMANTICS, 15: A MAP's ENTRY SET; APPEND.
-/
namespace Go.Ideal
open Go
set_option linter.unusedSectionVars false
variable [Tabs]
section
variable {P : Program} {ρ : Opd → IVal} {a : Act} {c : Ctx} {w : World}

theorem keyOK_pass {K : KTy} {k l : IVal} {b : Bool} (h : eqVals K k l = some b) : k.passOK = true := by
  unfold eqVals at h
  split at h <;> first | rfl | cases h

/- APPEND -/

/-- what is appended: its cells, in whatever world is as this one is -/
theorem src_sound (hW : WRel c w) {esz : Nat} (hes : 0 < esz) {v : IVal} {cs : List IVal} {n : Nat} {r : Value} (h : srcCells c.M esz v = some cs) (hn : srcLen v = some n) (hv : VRel c v r) :
    ∃ l, VsRel c cs l ∧ l.length = n * esz ∧ (∀ w, (Builtin.lenOf r).run P w = .ok n w) ∧ ∀ w' : World, w'.heap = w.heap → (Builtin.firstCells esz n r).run P w' = .ok l.toArray w' := by
  have hread : ∀ (b o cap : Nat) (l : List Value), l.length = n * esz → (∀ (j : Nat) (u : Value), l[j]? = some u → w.cell? ⟨b, o + j, none⟩ = some u) → ∀ w' : World, w'.heap = w.heap → (Builtin.firstCells esz n (.slice (some ⟨b, o, none⟩) n cap)).run P w' = .ok l.toArray w' := by
    intro b o cap l hl hc w' hw'
    refine run_firstCells_some w' esz n ⟨b, o, none⟩ n cap l hl fun j u hj => ?_
    rw [addr_add]
    have := hc j u hj
    simpa [World.cell?, hw'] using this
  unfold srcCells at h
  split at h <;> simp only [srcLen, sliceLen, Option.some.injEq] at hn
  · injection h with h
    subst h hn
    simp only [VRel, PRel] at hv
    subst hv
    exact ⟨[], by simp [VsRel], by simp, fun w => rfl, fun w' _ => by simp [Builtin.firstCells]⟩
  · rename_i e m pcs
    split at h
    · rename_i he
      injection h with h
      subst h hn
      have := Nat.eq_of_beq_eq_true he
      subst this
      simp only [VRel, PRel] at hv
      obtain ⟨ra, cap, rfl, hcap, hlen, hc⟩ := hv
      rcases hc with h0 | ⟨b, o, rfl, hc⟩
      · subst h0
        have : pcs = [] := List.length_eq_zero_iff.1 (by omega)
        subst this
        refine ⟨[], by simp [VsRel, pcells], by simp, fun w => rfl, fun w' _ => ?_⟩
        simp [Builtin.firstCells, loadCells, loadCellsFrom]
      · obtain ⟨rs, h1, h2⟩ := hc.list (c := c)
        have hl : rs.length = m * e := by rw [h1.length]; simp [pcells, hlen]
        exact ⟨rs, h1, hl, fun w => rfl, hread b o cap rs hl fun j u hj => hW.z _ _ _ (h2 j u hj)⟩
    · cases h
  · rename_i s
    split at h
    · rename_i he
      injection h with h
      subst h hn
      have := Nat.eq_of_beq_eq_true he
      subst this
      simp only [VRel, PRel] at hv
      subst hv
      refine ⟨s.map fun b => .int .u8 b.toNat, ?_, by simp, fun w => by simp [Builtin.lenOf, ByteArray.size], fun w' _ => ?_⟩
      · refine VsRel.of (by simp) fun j v r hv hr => ?_
        rw [List.getElem?_map] at hv hr
        cases hs : s[j]? with
        | none => simp [hs] at hv
        | some b =>
          simp [hs] at hv hr
          subst hv hr
          exact ⟨rfl, by simp only [VRel, PRel]⟩
      · simp [Builtin.firstCells, bytes_extract]
    · cases h
  · rename_i k ver off m
    split at h
    · rename_i bcs e v op hk
      split at h
      · rename_i hb
        injection h with h
        subst h hn
        rw [Bool.and_eq_true, Bool.and_eq_true] at hb
        have e1 := Nat.eq_of_beq_eq_true hb.1.1
        have e2 := Nat.eq_of_beq_eq_true hb.1.2
        have e3 := Nat.le_of_ble_eq_true hb.2
        subst e1 e2
        simp only [VRel] at hv
        obtain ⟨ra, cap, rfl, cs', e', v', o', hk', _, hm⟩ := hv
        rw [hk] at hk'
        cases hk'
        obtain ⟨b, q, K, hm', hcap, hblk, hspot, hoff, hK⟩ := hm rfl
        obtain ⟨C, T, hheap, hq, hlen, _, hcells⟩ := hW.blk _ bcs e ver op b q K hk hm'
        rcases hoff with h0 | hoff
        · have : m = 0 := by omega
          subst this
          refine ⟨[], by simp [VsRel], by simp, fun w => rfl, fun w' _ => ?_⟩
          simp [Builtin.firstCells, loadCells, loadCellsFrom]
        · obtain ⟨rb, ro, rs⟩ := ra
          simp only at hblk hspot hoff
          subst hblk hspot hoff
          refine ⟨(C.toList.drop (q + off)).take (m * e), ?_, by simp; omega, fun w => rfl, hread rb (q + off) cap _ (by simp; omega) fun j u hu => ?_⟩
          · refine VsRel.of (by simp; omega) fun j x r hx hr => ?_
            rw [List.getElem?_take] at hx hr
            split at hx
            · rename_i hj
              rw [if_pos hj] at hr
              rw [List.getElem?_drop] at hx hr
              obtain ⟨r', e1, e2, e3⟩ := hcells (off + j) x hx
              rw [show q + (off + j) = q + off + j by omega] at e1
              rw [Array.getElem?_toList] at hr
              rw [hr] at e1
              cases e1
              exact ⟨e2, e3⟩
            · cases hx
          · rw [List.getElem?_take] at hu
            split at hu
            · rw [List.getElem?_drop, Array.getElem?_toList] at hu
              simp [World.cell?, hheap, hu]
            · cases hu
      · cases h
    · cases h
  · cases h

end
end Go.Ideal

/-
  IDEAL SEMANTICS, 16: APPEND.
-/
namespace Go.Ideal
open Go
set_option linter.unusedSectionVars false
variable [Tabs]
section
variable {P : Program} {ρ : Opd → IVal} {a : Act} {c : Ctx} {w : World}

/-- a type of what is appended: no number (of zeros to be appended) -/
def SrcTy (P : Program) (u : TypeId) : Prop := (∃ e, P.underlying u = some (.slice e)) ∨ P.underlying u = some .string

theorem append_room {t u ty e : TypeId} {i : TypeInfo} (ht : P.underlying t = some (.slice e)) (hu : SrcTy P u) (hi : P.info? e = some i) {base : Option Addr} {sLen sCap n : Nat} {x : Value} {news : List Value}
    (hl : ∀ w, (Builtin.lenOf x).run P w = .ok n w) (hf : (Builtin.firstCells i.size n x).run P w = .ok news.toArray w) (hroom : sLen + n ≤ sCap) :
    (Builtin.append_ #[t, u] ty #[.slice base sLen sCap, x]).run P w = ((match base with | some a => storeCells (a.add (sLen * i.size)) news | none => pure ()).run P w).andThen fun _ w' => .ok (.slice base (sLen + n) sCap) w' := by
  rcases hu with ⟨e', hu⟩ | hu <;> cases base <;>
    simp [Builtin.append_, run_underlying ht, run_underlying hu, sizeOf, typeInfo, hi, hl, hroom, hf]

theorem append_grow {t u ty e : TypeId} {i : TypeInfo} {z : Value} (ht : P.underlying t = some (.slice e)) (hu : SrcTy P u) (hi : P.info? e = some i) (hz : i.zero = some z) {base : Option Addr} {sLen sCap n : Nat} {x : Value} {news olds : List Value}
    (hl : ∀ w, (Builtin.lenOf x).run P w = .ok n w) (hf : (Builtin.firstCells i.size n x).run P w.drew = .ok news.toArray w.drew) (ho : (Builtin.firstCells i.size sLen (.slice base sLen sCap)).run P w.drew = .ok olds.toArray w.drew)
    (hg : sCap < sLen + n) (h63 : sLen + n ≤ 9223372036854775807) (hfit : Builtin.nextslicecap (sLen + n) sCap * i.bytes ≤ 281474976710656) :
    (Builtin.append_ #[t, u] ty #[.slice base sLen sCap, x]).run P w =
      .ok (.slice (some ⟨w.heap.size, 0, none⟩) (sLen + n) (grownCap w (sLen + n) sCap e))
        (w.drew.alloc (.cells (olds ++ news ++ (Builtin.zeroCells z.cells (grownCap w (sLen + n) sCap e - (sLen + n))).toList).toArray e)) := by
  have hn : ¬ (sLen + n ≤ sCap) := by omega
  have h63' : ¬ (9223372036854775807 < ((sLen : Int) + (n : Int))) := by omega
  have h48' : ¬ (281474976710656 < Builtin.nextslicecap (sLen + n) sCap * i.bytes) := by omega
  rcases hu with ⟨e', hu⟩ | hu <;>
    simp [Builtin.append_, run_underlying ht, run_underlying hu, sizeOf, typeInfo, zeroValue, hi, hz, hl, hn, h63', h48', Question.forced, hf, ho, newRow, grownCap]
  all_goals
    congr 2
    apply Array.ext'
    simp

theorem done_append0 (hρ : OpdOK ρ a c) (hW : WRel c w) {o : Oper} {cl : Call} {t u e : TypeId} {i : TypeInfo} {z : Value} {x y : Operand} {x' y' : Opd} (ho : o.op = .call cl) (hb : cl.callee = .builtin .append) (hargs : cl.args.toList = [x, y]) (htys : cl.argTypes.toList = [t, u])
    (ht : P.underlying t = some (.slice e)) (hu : SrcTy P u) (hi : P.info? e = some i) (hz : i.zero = some z) (hs0 : 0 < i.size) (hzs : z.cells.size = i.size) (hby : i.bytes ≤ 4096) (hx : compOpd x = some x') (hy : compOpd y = some y')
    {v : IVal} {M' : Mem} (h : evalAppend0 c.M i.size (ρ x') (ρ y') = some (v, M')) : OpDone P a o c w v M' := by
  have hvx := hρ _ _ hx
  have hvy := hρ _ _ hy
  have ea : cl.args = #[x, y] := by rw [← Array.toArray_toList (xs := cl.args), hargs]
  have et : cl.argTypes = #[t, u] := by rw [← Array.toArray_toList (xs := cl.argTypes), htys]
  have hexec : ∀ {rv : Value} {w' : World}, (Builtin.append_ #[t, u] o.type #[a.eval x, a.eval y]).run P w = .ok rv w' → (execOp a.eval o).run P w = .ok (.value rv) w' := by
    intro rv w' hr
    simp only [execOp, ho, resolve, hb, Sem.run_bind, Sem.run_pure, Result.andThen_ok, invoke, builtin, ea, et]
    simp [hr]
  simp only [evalAppend0] at h
  split at h
  · rename_i ys nx ny hys hnx hny
    obtain ⟨news, hnews, hnl, hlenY, hfc⟩ := src_sound (P := P) hW hs0 hys hny hvy
    split at h
    · cases h
    · rename_i hmax
      have hmax := Nat.le_of_ble_eq_true hmax
      unfold maxAppend at hmax
      have hfit : ∀ old, old < nx + ny → Builtin.nextslicecap (nx + ny) old * i.bytes ≤ 281474976710656 := by
        intro old hold
        refine growslice_fits hold ?_
        have : (nx + ny) * i.bytes ≤ 4294967296 * 4096 := Nat.mul_le_mul hmax hby
        omega
      split at h
      · rename_i ex
        rw [ex] at hnx hvx
        simp only [sliceLen, Option.some.injEq] at hnx
        subst hnx
        simp only [VRel, PRel] at hvx
        cases ny with
        | zero =>
          simp only [] at h
          injection h with h
          injection h with h1 h2
          subst h1 h2
          have hnil : news = [] := List.length_eq_zero_iff.1 (by omega)
          subst hnil
          have hr := append_room (P := P) (w := w) (ty := o.type) (base := none) (sLen := 0) (sCap := 0) ht hu hi hlenY (hfc w rfl) (by omega)
          rw [hvx] at hexec
          refine OpDone.of_value (hexec hr) rfl (Step.refl hW) (Un.refl c) ?_
          rw [ex]
          simp only [VRel, PRel]
        | succ m =>
          simp only [show Nat.beq (m + 1) 0 = false from rfl] at h
          injection h with h
          injection h with h1 h2
          subst h1 h2
          have ho0 : (Builtin.firstCells i.size 0 (.slice none 0 0)).run P w.drew = .ok ([] : List Value).toArray w.drew := by simp [Builtin.firstCells]
          have hr := append_grow (P := P) (w := w) (ty := o.type) (base := none) (sLen := 0) (sCap := 0) ht hu hi hz hlenY (hfc w.drew rfl) ho0 (by omega) (by omega) (hfit 0 (by omega))
          rw [hvx] at hexec
          have hex := hexec hr
          obtain ⟨g1, g2, g3⟩ := newHeap_spec (M := c.M) (b := .cells ys i.size 0 true)
          have hpush := Step.push hW (M' := { c.M with heap := c.M.heap ++ [.cells ys i.size 0 true] }) (fun k b hk => by
            have : k ≠ .heap c.M.heap.length := fun e => by rw [e, g1] at hk; cases hk
            rw [g3 k this]; exact hk) (fun k hk => by
            cases hm : c.m k with
            | none => rfl
            | some x => have := hW.dom k x hm; rw [hk] at this; cases this)
          have hmn : c.m (.heap c.M.heap.length) = none := by
            cases hm : c.m (.heap c.M.heap.length) with
            | none => rfl
            | some x => have := hW.dom _ x hm; rw [g1] at this; cases this
          have hnyl : ys.length = (m + 1) * i.size := by rw [← hnews.length, hnl]
          generalize hgc : grownCap w (0 + (m + 1)) 0 e = gc at hex
          have hge : 0 + (m + 1) ≤ gc := by rw [← hgc]; exact grownCap_ge w _ 0 e
          have hzl : (Builtin.zeroCells z.cells (gc - (0 + (m + 1)))).size = (gc - (0 + (m + 1))) * i.size := by rw [size_zeroCells, hzs]
          have hcl : (([] : List Value) ++ news ++ (Builtin.zeroCells z.cells (gc - (0 + (m + 1)))).toList).length = gc * i.size := by
            simp only [List.nil_append, List.length_append, Array.length_toList, hzl, hnl, ← Nat.add_mul]
            congr 1; omega
          have hfr := Step.fresh (w' := w.drew.alloc (.cells (([] : List Value) ++ news ++ (Builtin.zeroCells z.cells (gc - (0 + (m + 1)))).toList).toArray e)) hpush.rel ⟨rfl, rfl, rfl, by first | exact Nat.le_refl _ | exact Nat.le_succ _⟩ (k := .heap c.M.heap.length) (cs := ys) (e := i.size) (v := 0) (o := true) g2 (cs' := ys) (v' := 0) (o' := true) (K' := gc * i.size) (.inr ⟨rfl, hmn⟩) (C' := (([] : List Value) ++ news ++ (Builtin.zeroCells z.cells (gc - (0 + (m + 1)))).toList).toArray) (T := e)
            rfl (by simp only [List.size_toArray, hcl]; exact Nat.le_refl _) (by rw [hnyl]; exact Nat.mul_le_mul_right i.size (show m + 1 ≤ gc by omega)) (fun h => by cases h) (fun d hd j xx hj => by
              obtain ⟨r', e1, e2, e3⟩ := hnews.at j xx hj
              refine ⟨r', ?_, e2, (e3.ext hpush.ext).ext hd⟩
              have hlt : j < news.length := by
                rcases Nat.lt_or_ge j news.length with h' | h'
                · exact h'
                · simp [List.getElem?_eq_none h'] at e1
              simp only [List.getElem?_toArray, List.nil_append]
              rw [List.getElem?_append_left hlt]
              exact e1)
          refine OpDone.of_value hex ?_ (hpush.trans hfr) (fun l hl1 hl2 => ?_) ?_
          · simp only [Ctx.upd]
            exact Mem.put_self g2
          · have : l ≠ .heap c.M.heap.length := fun e => by rw [e, g1] at hl1; cases hl1
            simp only [Ctx.upd, if_neg this]
            exact hl2
          · simp only [VRel]
            refine ⟨⟨w.heap.size, 0, none⟩, gc, by rw [Nat.zero_add], ys, i.size, 0, true, by simp only [Ctx.upd]; rw [Mem.put_self g2]; exact g2, Nat.le_refl _, fun _ => ⟨w.heap.size, 0, gc * i.size, by simp [Ctx.upd], by omega, rfl, rfl, .inr rfl, by omega⟩⟩
      · rename_i k ver off n ex
        rw [ex] at hnx hvx
        simp only [sliceLen, Option.some.injEq] at hnx
        subst hnx
        simp only [VRel] at hvx
        obtain ⟨ra, cap, hrx, cs0, e0, v0, o0, hk0, hle, hm⟩ := hvx
        split at h
        · rename_i cs be bv bo hk
          rw [hk] at hk0
          injection hk0 with hk0
          injection hk0 with g1 g2 g3 g4
          subst g1 g2 g3 g4
          split at h
          · cases h
          · rename_i hchk
            rw [Bool.and_eq_true, Bool.and_eq_true] at hchk
            have c1 := Nat.eq_of_beq_eq_true hchk.1.1
            have c2 := Nat.eq_of_beq_eq_true hchk.1.2
            have c3 := Nat.le_of_ble_eq_true hchk.2
            subst c1
            obtain ⟨b, q, K, hmk, hcap, hblk, hspot, hoff, hK⟩ := hm rfl
            obtain ⟨CC, T, hheap, hq, hlen, hop, hcells⟩ := hW.blk _ cs be ver bo b q K hk hmk
            subst c2
            rw [hrx] at hexec
            cases ny with
            | zero =>
              simp only [] at h
              injection h with h
              injection h with h1 h2
              subst h1 h2
              have hnil : news = [] := List.length_eq_zero_iff.1 (by omega)
              subst hnil
              have hr := append_room (P := P) (w := w) (ty := o.type) (base := some ra) (sLen := n) (sCap := cap) ht hu hi hlenY (hfc w rfl) (by omega)
              simp only [storeCells, Sem.run_pure, Result.andThen_ok, Nat.add_zero] at hr
              refine OpDone.of_value (hexec hr) rfl (Step.refl hW) (Un.refl c) ?_
              rw [ex]
              simp only [VRel]
              exact ⟨ra, cap, rfl, cs, i.size, ver, bo, hk, Nat.le_refl _, fun _ => ⟨b, q, K, hmk, hcap, hblk, hspot, hoff, hK⟩⟩
            | succ m =>
              simp only [show Nat.beq (m + 1) 0 = false from rfl] at h
              have hys' := hnews.length
              have hmul : (n + (m + 1)) * i.size = n * i.size + (m + 1) * i.size := Nat.add_mul _ _ _
              have hnK : n * i.size ≤ cap * i.size := Nat.mul_le_mul_right _ hcap
              by_cases hroom : n + (m + 1) ≤ cap
              · -- the real array has room
                have hroomC : (n + (m + 1)) * i.size ≤ cap * i.size := Nat.mul_le_mul_right _ hroom
                have hoff' : ra.off = q + off := hoff.resolve_left (by omega)
                obtain ⟨rb, ro, rs⟩ := ra
                simp only at hblk hspot hoff'
                subst hblk hspot hoff'
                have hr := append_room (P := P) (w := w) (ty := o.type) (base := some ⟨rb, q + off, none⟩) (sLen := n) (sCap := cap) ht hu hi hlenY (hfc w rfl) hroom
                simp only [addr_add] at hr
                have hst := run_storeCells_at P rb (q + off + n * i.size) T news 0 CC w hheap (by rw [Nat.add_zero]; omega) (fun u hu => by
                  obtain ⟨j, hj⟩ := List.mem_iff_getElem?.1 hu
                  have hlt : j < ys.length := by
                    rw [← hys']
                    rcases Nat.lt_or_ge j news.length with h' | h'
                    · exact h'
                    · simp [List.getElem?_eq_none h'] at hj
                  obtain ⟨r', e1, e2, e3⟩ := hnews.at j ys[j] (List.getElem?_eq_getElem hlt)
                  rw [hj] at e1
                  cases e1
                  exact e3.one e2)
                simp only [Nat.add_zero] at hst
                rw [hst, Result.andThen_ok] at hr
                have hex := hexec hr
                split at h
                · rename_i hin
                  have hin := Nat.le_of_ble_eq_true hin
                  injection h with h
                  injection h with h1 h2
                  subst h1 h2
                  -- in the ideal block, too
                  have hwr : writeCells c.M (.ptr (.heap k) ver (off + n * i.size)) ys = some (c.M.put (.heap k) (.cells (splice cs (off + n * i.size) ys) i.size ver bo)) := by
                    have : Nat.ble (off + n * i.size + ys.length) cs.length = true := Nat.ble_eq_true_of_le (by omega)
                    simp [writeCells, hk, this]
                  obtain ⟨b2, o2, w2, d2, hr2, hrun2, hM2, hs2, hu2⟩ := write_sound (P := P) (r := .pointer (some ⟨rb, q + (off + n * i.size), none⟩)) hW hwr (by
                    simp only [VRel]
                    exact ⟨_, rfl, cs, i.size, ver, bo, hk, Nat.le_refl _, fun _ => ⟨rb, q, K, hmk, rfl⟩⟩) hnews
                  injection hr2 with hr2
                  injection hr2 with hr2
                  injection hr2 with hb2 ho2
                  subst hb2 ho2
                  rw [show q + (off + n * i.size) = q + off + n * i.size by omega, hst] at hrun2
                  injection hrun2 with _ hw2
                  subst hw2
                  refine OpDone.of_value hex hM2 hs2 hu2 ?_
                  simp only [VRel]
                  refine ⟨_, _, rfl, splice cs (off + n * i.size) ys, i.size, ver, bo, ?_, Nat.le_refl _, fun _ => ?_⟩
                  · rw [hM2, Mem.get_put_same (by simp [hk])]
                  · obtain ⟨cs5, v5, o5, h5, h6, h7⟩ := hs2.ext.blk _ cs i.size ver bo hk
                    rw [hM2, Mem.get_put_same (by simp [hk])] at h5
                    injection h5 with h5
                    injection h5 with _ _ h5 _
                    exact ⟨rb, q, K, h7 h5.symm _ hmk, hroom, rfl, rfl, .inr rfl, hK⟩
                · rename_i hin
                  have hin : ¬ (off + (n + (m + 1)) * i.size ≤ cs.length) := fun hh => by rw [Nat.ble_eq_true_of_le hh] at hin; cases hin
                  injection h with h
                  injection h with h1 h2
                  subst h1 h2
                  have hsize : (CC.toList.take (q + off + n * i.size) ++ news ++ CC.toList.drop (q + off + n * i.size + news.length)).length = CC.size := by simp; omega
                  have hcl : ((cs.drop off).take (n * i.size) ++ ys).length = (n + (m + 1)) * i.size := by simp; omega
                  have hstep := Step.write hW ⟨rfl, rfl, rfl, by first | exact Nat.le_refl _ | exact Nat.le_succ _⟩ hk hmk (cs' := (cs.drop off).take (n * i.size) ++ ys) (v' := ver + 1) (o' := true) (q' := q + off) (K' := cap * i.size) (.inl (Nat.lt_succ_self _)) (C' := (CC.toList.take (q + off + n * i.size) ++ news ++ CC.toList.drop (q + off + n * i.size + news.length)).toArray) (T := T)
                    (w' := w.setRow rb (CC.toList.take (q + off + n * i.size) ++ news ++ CC.toList.drop (q + off + n * i.size + news.length)).toArray) (setRow_heap w rb CC _ T _ hheap) (by simp) (fun ii hii => setRow_other w rb ii _ (by omega)) (by simp only [List.size_toArray]; omega) (by omega) (fun hh => by cases hh) (fun d hd j xx hj => by
                      simp only [List.getElem?_toArray]
                      by_cases hj1 : j < n * i.size
                      · rw [List.getElem?_append_left (by simp; omega), List.getElem?_take_of_lt hj1, List.getElem?_drop] at hj
                        obtain ⟨r', e1, e2, e3⟩ := hcells (off + j) xx hj
                        refine ⟨r', ?_, e2, e3.ext hd⟩
                        rw [List.append_assoc, List.getElem?_append_left (by simp; omega), List.getElem?_take_of_lt (by omega), Array.getElem?_toList, ← e1]
                        congr 1; omega
                      · rw [List.getElem?_append_right (by simp; omega)] at hj
                        have e0 : ((cs.drop off).take (n * i.size)).length = n * i.size := by simp; omega
                        rw [e0] at hj
                        obtain ⟨r', e1, e2, e3⟩ := hnews.at (j - n * i.size) xx hj
                        have hlt : j - n * i.size < news.length := by
                          rcases Nat.lt_or_ge (j - n * i.size) news.length with h' | h'
                          · exact h'
                          · simp [List.getElem?_eq_none h'] at e1
                        refine ⟨r', ?_, e2, e3.ext hd⟩
                        rw [List.append_assoc, List.getElem?_append_right (by simp; omega)]
                        have : q + off + j - (CC.toList.take (q + off + n * i.size)).length = j - n * i.size := by simp; omega
                        rw [this, List.getElem?_append_left hlt]
                        exact e1)
                  refine OpDone.of_value hex rfl hstep (Un.upd hmk) ?_
                  simp only [VRel]
                  refine ⟨_, _, rfl, (cs.drop off).take (n * i.size) ++ ys, i.size, ver + 1, true, by simp only [Ctx.upd]; exact Mem.get_put_same (by simp [hk]), Nat.le_refl _, fun _ => ⟨rb, q + off, cap * i.size, by simp [Ctx.upd], hroom, rfl, rfl, .inr rfl, by omega⟩⟩
              · -- a new array
                have hcapK : cap * i.size + i.size ≤ (n + (m + 1)) * i.size := by
                  have : (cap + 1) * i.size ≤ (n + (m + 1)) * i.size := Nat.mul_le_mul_right _ (by omega)
                  rw [Nat.add_mul, Nat.one_mul] at this
                  exact this
                have hin : ¬ (off + (n + (m + 1)) * i.size ≤ cs.length) := by omega
                have hinb : Nat.ble (off + (n + (m + 1)) * i.size) cs.length = false := by
                  cases hb' : Nat.ble (off + (n + (m + 1)) * i.size) cs.length with
                  | false => rfl
                  | true => exact absurd (Nat.le_of_ble_eq_true hb') hin
                simp only [hinb] at h
                injection h with h
                injection h with h1 h2
                subst h1 h2
                -- the cells of the old one
                have hsrcx : srcCells c.M i.size (ρ x') = some ((cs.drop off).take (n * i.size)) := by
                  have h5 : Nat.ble (off + n * i.size) cs.length = true := Nat.ble_eq_true_of_le c3
                  simp [ex, srcCells, hk, h5]
                obtain ⟨olds, holds, hol, _, hfo⟩ := src_sound (P := P) (n := n) (r := .slice (some ra) n cap) hW hs0 hsrcx (by simp [ex, srcLen, sliceLen]) (by rw [ex]; simp only [VRel]; exact ⟨ra, cap, rfl, cs, i.size, ver, bo, hk, Nat.le_refl _, fun _ => ⟨b, q, K, hmk, hcap, hblk, hspot, hoff, hK⟩⟩)
                have hr := append_grow (P := P) (w := w) (ty := o.type) (base := some ra) (sLen := n) (sCap := cap) ht hu hi hz hlenY (hfc w.drew rfl) (hfo w.drew rfl) (by omega) (by omega) (hfit cap (by omega))
                have hex := hexec hr
                generalize hgc : grownCap w (n + (m + 1)) cap e = gc at hex
                have hge : n + (m + 1) ≤ gc := by rw [← hgc]; exact grownCap_ge w _ cap e
                have hzl : (Builtin.zeroCells z.cells (gc - (n + (m + 1)))).size = (gc - (n + (m + 1))) * i.size := by rw [size_zeroCells, hzs]
                have hcl : (olds ++ news ++ (Builtin.zeroCells z.cells (gc - (n + (m + 1)))).toList).length = gc * i.size := by
                  simp only [List.length_append, Array.length_toList, hzl, hnl, hol, ← Nat.add_mul]
                  congr 1; omega
                have hnlen : ((cs.drop off).take (n * i.size) ++ ys).length = (n + (m + 1)) * i.size := by simp; omega
                have hboth := holds.append hnews
                have hstep := Step.fresh (w' := w.drew.alloc (.cells (olds ++ news ++ (Builtin.zeroCells z.cells (gc - (n + (m + 1)))).toList).toArray e)) hW ⟨rfl, rfl, rfl, by first | exact Nat.le_refl _ | exact Nat.le_succ _⟩ hk (cs' := (cs.drop off).take (n * i.size) ++ ys) (v' := ver + 1) (o' := true) (K' := gc * i.size) (.inl (Nat.lt_succ_self _)) (C' := (olds ++ news ++ (Builtin.zeroCells z.cells (gc - (n + (m + 1)))).toList).toArray) (T := e)
                  rfl (by simp only [List.size_toArray, hcl]; exact Nat.le_refl _) (by rw [hnlen]; exact Nat.mul_le_mul_right _ hge) (fun hh => by cases hh) (fun d hd j xx hj => by
                    obtain ⟨r', e1, e2, e3⟩ := hboth.at j xx hj
                    have hlt : j < (olds ++ news).length := by
                      rcases Nat.lt_or_ge j (olds ++ news).length with h' | h'
                      · exact h'
                      · simp [List.getElem?_eq_none h'] at e1
                    refine ⟨r', ?_, e2, e3.ext hd⟩
                    simp only [List.getElem?_toArray]
                    rw [List.getElem?_append_left hlt]
                    exact e1)
                refine OpDone.of_value hex rfl hstep (Un.upd hmk) ?_
                simp only [VRel]
                refine ⟨_, _, rfl, (cs.drop off).take (n * i.size) ++ ys, i.size, ver + 1, true, by simp only [Ctx.upd]; exact Mem.get_put_same (by simp [hk]), Nat.le_refl _, fun _ => ⟨w.heap.size, 0, gc * i.size, by simp [Ctx.upd], hge, rfl, rfl, .inr rfl, by omega⟩⟩
        · cases h
      · cases h
  · cases h

theorem done_append (hρ : OpdOK ρ a c) (hW : WRel c w) {o : Oper} {cl : Call} {t u e : TypeId} {i : TypeInfo} {z : Value} {x y : Operand} {x' y' : Opd} (ho : o.op = .call cl) (hb : cl.callee = .builtin .append) (hargs : cl.args.toList = [x, y]) (htys : cl.argTypes.toList = [t, u])
    (ht : P.underlying t = some (.slice e)) (hu : SrcTy P u) (hi : P.info? e = some i) (hz : i.zero = some z) (hs0 : 0 < i.size) (hzs : z.cells.size = i.size) (hby : i.bytes ≤ 4096) (hx : compOpd x = some x') (hy : compOpd y = some y')
    {v : IVal} {M' : Mem} {C : Oracle} (h : evalOp C ρ c.M (.append i.size x' y') = some (v, M')) : OpDone P a o c w v M' := by
  have hvx := hρ _ _ hx
  have hvy := hρ _ _ hy
  have h : evalAppend c.M i.size (ρ x') (ρ y') = some (v, M') := h
  by_cases hcl0 : ∃ k ver off n, ρ x' = .clip k ver off n
  · obtain ⟨k, ver, off, n, ex⟩ := hcl0
    have ea : cl.args = #[x, y] := by rw [← Array.toArray_toList (xs := cl.args), hargs]
    have et : cl.argTypes = #[t, u] := by rw [← Array.toArray_toList (xs := cl.argTypes), htys]
    have hexec : ∀ {rv : Value} {w' : World}, (Builtin.append_ #[t, u] o.type #[a.eval x, a.eval y]).run P w = .ok rv w' → (execOp a.eval o).run P w = .ok (.value rv) w' := by
      intro rv w' hr
      simp only [execOp, ho, resolve, hb, Sem.run_bind, Sem.run_pure, Result.andThen_ok, invoke, builtin, ea, et]
      simp [hr]
    rw [ex] at h hvx
    simp only [evalAppend] at h
    split at h
    · rename_i ys ny hys hny
      obtain ⟨news, hnews, hnl, hlenY, hfc⟩ := src_sound (P := P) hW hs0 hys hny hvy
      split at h
      · rename_i hchk0
        rw [Bool.and_eq_true] at hchk0
        have hmax := Nat.le_of_ble_eq_true hchk0.1
        unfold maxAppend at hmax
        have hny0 : 0 < ny := by
          rcases Nat.eq_zero_or_pos ny with h0 | h0
          · rw [h0] at hchk0; simp at hchk0
          · exact h0
        have hfit : ∀ old, old < n + ny → Builtin.nextslicecap (n + ny) old * i.bytes ≤ 281474976710656 := by
          intro old hold
          refine growslice_fits hold ?_
          have : (n + ny) * i.bytes ≤ 4294967296 * 4096 := Nat.mul_le_mul hmax hby
          omega
        simp only [VRel] at hvx
        obtain ⟨ra, cap, hrx, cs0, e0, v0, o0, hk0, hle, hm⟩ := hvx
        split at h
        · rename_i cs be bv bo hk
          rw [hk] at hk0
          injection hk0 with hk0
          injection hk0 with g1 g2 g3 g4
          subst g1 g2 g3 g4
          split at h
          · rename_i hchk
            rw [Bool.and_eq_true, Bool.and_eq_true] at hchk
            have c1 := Nat.eq_of_beq_eq_true hchk.1.1
            have c2 := Nat.eq_of_beq_eq_true hchk.1.2
            have c3 := Nat.le_of_ble_eq_true hchk.2
            subst c1
            obtain ⟨b, q, K, hmk, hcap, hblk, hspot, hoff, hK⟩ := hm rfl
            subst c2
            rw [hrx] at hexec
            injection h with h
            injection h with h1 h2
            subst h1 h2
            have hsrcx : srcCells c.M i.size (.slice k ver off n) = some ((cs.drop off).take (n * i.size)) := by
              have h5 : Nat.ble (off + n * i.size) cs.length = true := Nat.ble_eq_true_of_le c3
              simp [srcCells, hk, h5]
            obtain ⟨olds, holds, hol, _, hfo⟩ := src_sound (P := P) (n := n) (r := .slice (some ra) n cap) hW hs0 hsrcx (by simp [srcLen, sliceLen]) (by simp only [VRel]; exact ⟨ra, cap, rfl, cs, i.size, ver, bo, hk, Nat.le_refl _, fun _ => ⟨b, q, K, hmk, hcap, hblk, hspot, hoff, hK⟩⟩)
            have hfo' : (Builtin.firstCells i.size n (.slice (some ra) n n)).run P w.drew = .ok olds.toArray w.drew := by
              have := hfo w.drew rfl
              simpa [Builtin.firstCells] using this
            have hr := append_grow (P := P) (w := w) (ty := o.type) (base := some ra) (sLen := n) (sCap := n) ht hu hi hz hlenY (hfc w.drew rfl) hfo' (by omega) (by omega) (hfit n (by omega))
            have hex := hexec hr
            obtain ⟨g1, g2, g3⟩ := newHeap_spec (M := c.M) (b := .cells ((cs.drop off).take (n * i.size) ++ ys) i.size 0 true)
            have hpush := Step.push hW (M' := { c.M with heap := c.M.heap ++ [.cells ((cs.drop off).take (n * i.size) ++ ys) i.size 0 true] }) (fun k b hk => by
              have : k ≠ .heap c.M.heap.length := fun e => by rw [e, g1] at hk; cases hk
              rw [g3 k this]; exact hk) (fun k hk => by
              cases hm : c.m k with
              | none => rfl
              | some x => have := hW.dom k x hm; rw [hk] at this; cases this)
            have hmn : c.m (.heap c.M.heap.length) = none := by
              cases hm : c.m (.heap c.M.heap.length) with
              | none => rfl
              | some x => have := hW.dom _ x hm; rw [g1] at this; cases this
            generalize hgc : grownCap w (n + ny) n e = gc at hex
            have hge : n + ny ≤ gc := by rw [← hgc]; exact grownCap_ge w _ n e
            have hzl : (Builtin.zeroCells z.cells (gc - (n + ny))).size = (gc - (n + ny)) * i.size := by rw [size_zeroCells, hzs]
            have hcl : (olds ++ news ++ (Builtin.zeroCells z.cells (gc - (n + ny))).toList).length = gc * i.size := by
              simp only [List.length_append, Array.length_toList, hzl, hnl, hol, ← Nat.add_mul]
              congr 1; omega
            have hys' := hnews.length
            have hmul : (n + ny) * i.size = n * i.size + ny * i.size := Nat.add_mul _ _ _
            have hnlen : ((cs.drop off).take (n * i.size) ++ ys).length = (n + ny) * i.size := by simp; omega
            have hboth := holds.append hnews
            have hfr := Step.fresh (w' := w.drew.alloc (.cells (olds ++ news ++ (Builtin.zeroCells z.cells (gc - (n + ny))).toList).toArray e)) hpush.rel ⟨rfl, rfl, rfl, by first | exact Nat.le_refl _ | exact Nat.le_succ _⟩ (k := .heap c.M.heap.length) (cs := (cs.drop off).take (n * i.size) ++ ys) (e := i.size) (v := 0) (o := true) g2 (cs' := (cs.drop off).take (n * i.size) ++ ys) (v' := 0) (o' := true) (K' := gc * i.size) (.inr ⟨rfl, hmn⟩) (C' := (olds ++ news ++ (Builtin.zeroCells z.cells (gc - (n + ny))).toList).toArray) (T := e)
              rfl (by simp only [List.size_toArray, hcl]; exact Nat.le_refl _) (by rw [hnlen]; exact Nat.mul_le_mul_right _ hge) (fun h => by cases h) (fun d hd j xx hj => by
                obtain ⟨r', e1, e2, e3⟩ := hboth.at j xx hj
                refine ⟨r', ?_, e2, (e3.ext hpush.ext).ext hd⟩
                have hlt : j < (olds ++ news).length := by
                  rcases Nat.lt_or_ge j (olds ++ news).length with h' | h'
                  · exact h'
                  · simp [List.getElem?_eq_none h'] at e1
                simp only [List.getElem?_toArray]
                rw [List.getElem?_append_left hlt]
                exact e1)
            refine OpDone.of_value hex ?_ (hpush.trans hfr) (fun l hl1 hl2 => ?_) ?_
            · simp only [Ctx.upd]
              exact Mem.put_self g2
            · have : l ≠ .heap c.M.heap.length := fun e => by rw [e, g1] at hl1; cases hl1
              simp only [Ctx.upd, if_neg this]
              exact hl2
            · simp only [VRel]
              refine ⟨⟨w.heap.size, 0, none⟩, gc, rfl, (cs.drop off).take (n * i.size) ++ ys, i.size, 0, true, by simp only [Ctx.upd]; rw [Mem.put_self g2]; exact g2, Nat.le_refl _, fun _ => ⟨w.heap.size, 0, gc * i.size, by simp [Ctx.upd], hge, rfl, rfl, .inr rfl, by omega⟩⟩
          · cases h
        · cases h
      · cases h
    · cases h
  · refine done_append0 hρ hW ho hb hargs htys ht hu hi hz hs0 hzs hby hx hy ?_
    rw [← h]
    unfold evalAppend
    split
    · rename_i k ver off n ex
      exact absurd ⟨k, ver, off, n, ex⟩ hcl0
    · rfl

end
end Go.Ideal
