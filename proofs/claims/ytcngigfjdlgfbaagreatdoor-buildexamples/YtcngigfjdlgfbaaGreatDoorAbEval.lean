/- An evaluator of the model's code over small memories of its own: one order, one choice. It computes what a call returns; nothing is proved in this text. -/
import GoSem.Dispatch
import GoSem.Machine.Frame
import GoSem.Machine.Return
import Derived.CallsIn
import Derived.Laws.Tables
import Derived.KernelRfl
namespace Go.Ab
noncomputable section

/-! ### A region's text, looked over -/
def befAt (bs : List Nat) (j i : Nat) : Bool := (bs.getD j 0).testBit i
def befs (ops : Array Oper) : List Nat := (Region.before ops).toList

def backOk : List Oper → Nat → Bool
  | [], _ => true
  | o :: r, j => (o.after.toList.all fun e => decide (e.on < j) || (!Region.binds .any e && !Region.binds .text e)) && backOk r (j + 1)

def writerOk (bs : List Nat) (j : Nat) (t : Tmp) : List Oper → Nat → Bool
  | [], _ => true
  | o :: r, i => (match o.dst with | some d => decide (d ≠ t) || decide (i = j) || befAt bs j i || befAt bs i j | none => true) && writerOk bs j t r (i + 1)

def operOk (bs : List Nat) (all : List Oper) : List Oper → Nat → Bool
  | [], _ => true
  | o :: r, j => (o.op.operands.toList.all fun | .tmp t => writerOk bs j t all 0 | _ => true) && (match o.guard with | some (i, _) => befAt bs j i | none => true) && operOk bs all r (j + 1)

def uniqOk : List Oper → Nat → Bool
  | [], _ => true
  | o :: r, m => match o.dst with
    | some d => !m.testBit d && uniqOk r (m ||| 2 ^ d)
    | none => uniqOk r m

/-- A region's text is in order. -/
def drawOk (ops : Array Oper) : Bool :=
  backOk ops.toList 0 && uniqOk ops.toList 0 && (!Region.departs ops || (Region.linearise .gc ops 0).length == ops.size) && operOk (befs ops) ops.toList ops.toList 0

/-- The regions of a code that draw. -/
def codeDraws : Code → Bool
  | .region _ ops true => drawOk ops
  | .seq a b => codeDraws a && codeDraws b
  | .cond _ a b => codeDraws a && codeDraws b
  | .block _ a => codeDraws a
  | .loop a => codeDraws a
  | _ => true

/-- No loop over a function. -/
def noRange : Code → Bool
  | .seq a b => noRange a && noRange b
  | .cond _ a b => noRange a && noRange b
  | .block _ a => noRange a
  | .loop a => noRange a
  | .rangeFunc .. => false
  | _ => true

def loopOk (asg body : Code) : Bool := codeDraws asg && codeDraws body && noRange asg && noRange body

/-- How a loop over a function stands. -/
inductive LSt where
  | ready
  | busy
  | ret
  | exit (id : Nat)

/-- Calls of yield have numbers of their own. -/
def YB : Nat := 4611686018427387904

/-- A block of the small memory: a row of cells (sz: the cells of one element, 0 where the block is one variable; wr: it may be written), a map, or the record of a loop over a function. -/
inductive Blk where
  | cells (cs : List Value) (t : TypeId) (sz : Nat) (wr : Bool)
  | map (es : List (Value × Value))
  | loop (st : LSt) (tm : List Value) (ps : List Tmp) (asg body : Code) (ok : loopOk asg body = true)
  deriving Inhabited

/-- Blocks by number. -/
inductive HT where
  | nil
  | node (v : Option Blk) (l r : HT)
  deriving Inhabited

/-- The way to a number. -/
inductive Pth where
  | e
  | l (p : Pth)
  | r (p : Pth)

noncomputable def pathF (f : Nat) : Nat → Pth :=
  Nat.rec (motive := fun _ => Nat → Pth) (fun _ => .e) (fun _ ih n => Nat.rec (motive := fun _ => Pth) .e (fun k _ => Nat.rec (motive := fun _ => Pth) (.l (ih (k / 2))) (fun _ _ => .r (ih (k / 2))) (k % 2)) n) f
noncomputable def pathOf (n : Nat) : Pth := pathF (n + 1) n

noncomputable def HT.getE (t : HT) : Option Blk := HT.rec (motive := fun _ => Option Blk) none (fun v _ _ _ _ => v) t
noncomputable def HT.getL (ih : HT → Option Blk) (t : HT) : Option Blk := HT.rec (motive := fun _ => Option Blk) none (fun _ l _ _ _ => ih l) t
noncomputable def HT.getR (ih : HT → Option Blk) (t : HT) : Option Blk := HT.rec (motive := fun _ => Option Blk) none (fun _ _ r _ _ => ih r) t
noncomputable def HT.get (p : Pth) : HT → Option Blk := Pth.rec (motive := fun _ => HT → Option Blk) HT.getE (fun _ => HT.getL) (fun _ => HT.getR) p
noncomputable def HT.setE (b : Option Blk) (t : HT) : HT := HT.rec (motive := fun _ => HT) (.node b .nil .nil) (fun _ l r _ _ => .node b l r) t
noncomputable def HT.setL (ih : HT → HT) (t : HT) : HT := HT.rec (motive := fun _ => HT) (.node none (ih .nil) .nil) (fun v l r _ _ => .node v (ih l) r) t
noncomputable def HT.setR (ih : HT → HT) (t : HT) : HT := HT.rec (motive := fun _ => HT) (.node none .nil (ih .nil)) (fun v l r _ _ => .node v l (ih r)) t
noncomputable def HT.set (b : Option Blk) (p : Pth) : HT → HT := Pth.rec (motive := fun _ => HT → HT) (HT.setE b) (fun _ => HT.setL) (fun _ => HT.setR) p

structure Heap where
  next : Nat
  t : HT
  deriving Inhabited

noncomputable def Heap.get (h : Heap) (k : Nat) : Option Blk := h.t.get (pathOf k)
noncomputable def Heap.set (h : Heap) (k : Nat) (b : Blk) : Heap := { h with t := h.t.set (some b) (pathOf k) }
noncomputable def Heap.del (h : Heap) (k : Nat) : Heap := { h with t := h.t.set none (pathOf k) }
noncomputable def Heap.push (h : Heap) (b : Blk) : Heap := { next := h.next + 1, t := h.t.set (some b) (pathOf h.next) }

/-- A capacity at or above this is a lower bound (what stands above it), below it is exact. -/
def OPEN : Nat := 36893488147419103232
def capOf (c : Nat) : Nat := if OPEN ≤ c then c - OPEN else c

/-- A value that nothing may be done with. -/
abbrev junk : Value := .chan (some 0)

def scalar : Value → Bool
  | .agg _ | .tuple _ | .chan _ => false
  | _ => true
/-- A constant without an address. -/
def bare : Value → Bool
  | .bool _ | .int _ _ | .float _ _ | .complex _ _ _ | .string _ | .pointer none | .slice none 0 0 | .map none | .nilFunc | .nilIface => true
  | _ => false
def plain : Value → Bool
  | .agg cs => cs.toList.all bare
  | .tuple cs => cs.toList.all fun | .agg ds => ds.toList.all bare | v => bare v
  | v => bare v

/-- What an operand holds; a variable of the package level only where gl lists it. -/
def ev (gl : Nat → Bool) (tm : List Value) : Operand → Value
  | .tmp t => tm.getD t undef
  | .const v => if plain v then v else junk
  | .global g => if gl g then .pointer (some ⟨g, 0, none⟩) else junk
  | .func f => .func (.func f) #[] #[]

def isAgg (P : Program) (t : TypeId) : Bool := match P.underlying t with | some (.struct _) | some (.array ..) => true | _ => false
def zeroOf (P : Program) (t : TypeId) : Option Value := match P.info? t with | some i => (match i.zero with | some z => if plain z then some z else none | none => none) | none => none
def sizeOf? (P : Program) (t : TypeId) : Option Nat := (P.info? t).map (·.size)

def partOf (P : Program) (t : TypeId) (cs : Array Value) (off : Nat) : Option Value :=
  match P.underlying t with
  | none => none
  | some _ => if isAgg P t then (sizeOf? P t).map fun n => .agg (cs.extract off (off + n)) else cs[off]?

def strOf (l : List UInt8) : Value := .string ⟨l.toArray⟩

def intCmp (op : BinOp) (x y : Int) : Option Bool :=
  match op with
  | .eql => some (x == y) | .neq => some (x != y) | .lss => some (decide (x < y)) | .leq => some (decide (x ≤ y)) | .gtr => some (decide (x > y)) | .geq => some (decide (x ≥ y))
  | _ => none

def bytesLt : List UInt8 → List UInt8 → Bool
  | _, [] => false
  | [], _ :: _ => true
  | a :: x, b :: y => a < b || (a == b && bytesLt x y)

def strOp (op : BinOp) (x y : List UInt8) : Option Value :=
  match op with
  | .add => if x.length + y.length ≤ 4611686018427387904 then some (strOf (x ++ y)) else none
  | .eql => some (.bool (x == y)) | .neq => some (.bool !(x == y))
  | .lss => some (.bool (bytesLt x y)) | .leq => some (.bool (bytesLt x y || x == y))
  | .gtr => some (.bool !(bytesLt x y || x == y)) | .geq => some (.bool !(bytesLt x y))
  | _ => none

/-- Equality of numbers, bools and strings. -/
def eqScalar : Value → Value → Option Bool
  | .bool a, .bool b => some (a == b)
  | .int k a, .int k' b => if k = k' then some (a == b) else none
  | .string a, .string b => some (a.data.toList == b.data.toList)
  | _, _ => none
def eqAt (P : Program) (t : TypeId) (x y : Value) : Option Bool :=
  match P.underlying t, x, y with
  | some .bool, .bool a, .bool b => some (a == b)
  | some (.int _), .int k a, .int k' b => if k = k' then some (a == b) else none
  | some .string, .string a, .string b => some (a.data.toList == b.data.toList)
  | _, _, _ => none
/-- Structs all of whose fields are such scalars, in the order of the cells, none of them blank. -/
def eqFlat (P : Program) : List Field → Nat → List Value → List Value → Option Bool
  | [], _, _, _ => some true
  | f :: fs, i, x :: xs, y :: ys =>
    if f.offset = i ∧ f.name ≠ "_" then
      match eqAt P f.type x y with
      | some true => eqFlat P fs (i + 1) xs ys
      | some false => some false
      | none => none
    else none
  | _ :: _, _, _, _ => none

def equalV (P : Program) (t : TypeId) (x y : Value) : Option Bool :=
  match x, y with
  | .bool a, .bool b => match P.underlying t with | some .bool => some (a == b) | _ => none
  | .pointer none, .pointer b => match P.underlying t with | some (.pointer _) => some b.isNone | _ => none
  | .pointer a, .pointer none => match P.underlying t with | some (.pointer _) => some a.isNone | _ => none
  | .pointer (some a), .pointer (some b) => match P.underlying t with | some (.pointer e) => if a = b ∧ (sizeOf? P e).any (· ≠ 0) then some true else none | _ => none
  | .slice none _ _, .slice b _ _ => match P.underlying t with | some (.slice _) => some b.isNone | _ => none
  | .slice a _ _, .slice none _ _ => match P.underlying t with | some (.slice _) => some a.isNone | _ => none
  | .map none, .map b => match P.underlying t with | some (.map ..) => some b.isNone | _ => none
  | .map a, .map none => match P.underlying t with | some (.map ..) => some a.isNone | _ => none
  | .nilFunc, .nilFunc => match P.underlying t with | some (.func ..) => some true | _ => none
  | .nilFunc, .func .. => match P.underlying t with | some (.func ..) => some false | _ => none
  | .func .., .nilFunc => match P.underlying t with | some (.func ..) => some false | _ => none
  | .nilIface, .iface .. => match P.underlying t with | some (.interface _) => some false | _ => none
  | .iface .., .nilIface => match P.underlying t with | some (.interface _) => some false | _ => none
  | .agg a, .agg b => match P.underlying t with
    | some (.struct fs) => if P.stoodInHeld t = false ∧ P.eqGuardType P.depth t = false then eqFlat P fs.toList 0 a.toList b.toList else none
    | _ => none
  | _, _ => none

def binOpV (P : Program) (op : BinOp) (t : TypeId) (x y : Value) : Option Value :=
  match x, y with
  | .int k a, .int k' b =>
    match op with
    | .shl => if 0 ≤ b then some (.int k (k.wrap (a * 2 ^ (min b.toNat k.bits)))) else none
    | .shr => if 0 ≤ b then some (.int k (a.fdiv (2 ^ (min b.toNat k.bits)))) else none
    | _ =>
      if k = k' then
        match op with
        | .add => some (.int k (k.wrap (a + b)))
        | .sub => some (.int k (k.wrap (a - b)))
        | .mul => some (.int k (k.wrap (a * b)))
        | .quo => if b = 0 then none else some (.int k (k.wrap (a.tdiv b)))
        | .rem => if b = 0 then none else some (.int k (a.tmod b))
        | .and => some (.int k (k.wrap (BitVec.ofInt k.bits a &&& BitVec.ofInt k.bits b).toNat))
        | .or => some (.int k (k.wrap (BitVec.ofInt k.bits a ||| BitVec.ofInt k.bits b).toNat))
        | .xor => some (.int k (k.wrap (BitVec.ofInt k.bits a ^^^ BitVec.ofInt k.bits b).toNat))
        | .andNot => some (.int k (k.wrap (BitVec.ofInt k.bits a &&& ~~~BitVec.ofInt k.bits b).toNat))
        | op => (intCmp op a b).map .bool
      else none
  | .string a, .string b => strOp op a.data.toList b.data.toList
  | x, y => match op with
    | .eql => (equalV P t x y).map .bool
    | .neq => (equalV P t x y).map fun b => .bool !b
    | _ => none

def unOpV (op : UnOp) (x : Value) : Option Value :=
  match op, x with
  | .neg, .int k n => some (.int k (k.wrap (0 - n)))
  | .xor, .int k n => some (.int k (k.wrap (BitVec.ofInt k.bits (if k.signed then -1 else k.max) ^^^ BitVec.ofInt k.bits n).toNat))
  | .not, .bool b => some (.bool !b)
  | _, _ => none

def optInt : Option Value → Nat → Option Int
  | none, d => some d
  | some (.int _ n), _ => some n
  | some _, _ => none

def sliceV (P : Program) (t : TypeId) (x : Value) (lo hi mx : Option Value) (h : Heap) : Option Value :=
  match x with
  | .string s =>
    match P.underlying t with
    | some .string => match mx, optInt lo 0, optInt hi s.data.toList.length with
      | none, some l, some r => if 0 ≤ l ∧ l ≤ r ∧ r ≤ (s.data.toList.length : Int) then some (strOf ((s.data.toList.drop l.toNat).take (r - l).toNat)) else none
      | _, _, _ => none
    | _ => none
  | .slice none 0 0 =>
    match P.underlying t with
    | some (.slice e) => match mx, optInt lo 0, optInt hi 0, sizeOf? P e with
      | none, some 0, some 0, some _ => some (.slice none 0 0)
      | _, _, _, _ => none
    | _ => none
  | .slice (some ⟨k, i, none⟩) len cap =>
    match P.underlying t with
    | some (.slice e) => match optInt lo 0, optInt hi len, sizeOf? P e, h.get k with
      | some l, some r, some sz, some (.cells _ _ sz' _) =>
        if sz' = sz ∨ sz' = 0 then
          match mx with
          | none => if 0 ≤ l ∧ l ≤ r ∧ r ≤ (capOf cap : Int) then some (.slice (some ⟨k, i + l.toNat * sz, none⟩) (r - l).toNat (cap - l.toNat)) else none
          | some (.int _ m) => if 0 ≤ l ∧ l ≤ r ∧ r ≤ m ∧ m ≤ (capOf cap : Int) ∧ m < OPEN ∧ hi.isSome = true then some (.slice (some ⟨k, i + l.toNat * sz, none⟩) (r - l).toNat (m - l).toNat) else none
          | some _ => none
        else none
      | _, _, _, _ => none
    | _ => none
  | .pointer (some ⟨k, i, none⟩) =>
    match P.underlying t with
    | some (.array n e) => match mx, optInt lo 0, optInt hi n, sizeOf? P e, h.get k with
      | none, some l, some r, some sz, some (.cells _ _ 0 _) =>
        if 0 ≤ l ∧ l ≤ r ∧ r ≤ (n : Int) ∧ n < OPEN then some (.slice (some ⟨k, i + l.toNat * sz, none⟩) (r - l).toNat (n - l.toNat)) else none
      | _, _, _, _, _ => none
    | _ => none
  | _ => none

def noJunk : Value → Bool
  | .chan _ => false
  | _ => true
def buildV (P : Program) (t : TypeId) (parts : List (Nat × Value)) : Option Value :=
  match zeroOf P t with
  | some _ => if parts.all fun p => noJunk p.2 then (P.built t parts).map .agg else none
  | none => none

def convertV (P : Program) (src dst : TypeId) (x : Value) : Option Value :=
  match P.underlying src, P.underlying dst, x with
  | some _, some (.int k), .int _ n => some (.int k (k.wrap n))
  | some _, some .string, .string s => some (.string s)
  | some (.pointer _), some .unsafePointer, .pointer none => some x
  | some .unsafePointer, some (.pointer _), .pointer none => some x
  | _, _, _ => none

def maxV (mx : Bool) : List Value → Option Value
  | [] => none
  | x :: rest => rest.foldlM (fun x y => match x, y with
    | .int k x, .int k' y => if k = k' then some (.int k (if mx then (if y > x then y else x) else (if y < x then y else x))) else none
    | _, _ => none) x

/-- What hangs on the operands alone. -/
def opPure (P : Program) (ρ : Operand → Value) (o : Oper) : Option Value :=
  match o.op with
  | .move x | .assign x => some (ρ x)
  | .pick c a b => match ρ c with | .bool t => some (if t then ρ a else ρ b) | _ => none
  | .build t parts => buildV P t (parts.toList.map fun p => (p.1, ρ p.2))
  | .nilCheck x => match ρ x with
    | .pointer none | .nilIface | .nilFunc => none
    | .func (.method _) _ _ => none
    | .chan _ => none
    | v => some v
  | .binOp op t x y _ => binOpV P op t (ρ x) (ρ y)
  | .unOp op _ x => unOpV op (ρ x)
  | .convert s d x => convertV P s d (ρ x)
  | .makeInterface t x => match P.underlying t with | some (.interface _) | none => none | some _ => some (.iface t (ρ x))
  | .makeFunc fn first captured => match fn with
    | .yield _ => none
    | fn => some (.func fn (first.map ρ) (captured.map ρ))
  | .fieldAddr s x f => match P.underlying s, ρ x with
    | some (.struct fields), .pointer (some a) => match fields[f]? with
      | some fd => if (sizeOf? P fd.type).any (· ≠ 0) then some (.pointer (some (a.add fd.offset))) else none
      | none => none
    | _, _ => none
  | .field t x f => match P.underlying t, ρ x with
    | some (.struct fields), .agg cs => match fields[f]? with
      | some fd => partOf P fd.type cs fd.offset
      | none => none
    | _, _ => none
  | .indexAddr t x i => match P.underlying t, ρ x, ρ i with
    | some (.array len e), .pointer (some a), .int _ j => match sizeOf? P e with
      | some n => if 0 ≤ j ∧ j < (len : Int) then some (.pointer (some (a.add (j.toNat * n)))) else none
      | none => none
    | some (.slice e), .slice (some a) len _, .int _ j => match sizeOf? P e with
      | some n => if 0 ≤ j ∧ j < (len : Int) then some (.pointer (some (a.add (j.toNat * n)))) else none
      | none => none
    | _, _, _ => none
  | .index t x i => match P.underlying t, ρ x, ρ i with
    | some (.array len e), .agg cs, .int _ j => match sizeOf? P e with
      | some n => if 0 ≤ j ∧ j < (len : Int) then partOf P e cs (j.toNat * n) else none
      | none => none
    | some .string, .string s, .int _ j => if 0 ≤ j then match s.data.toList[j.toNat]? with | some b => some (.int .u8 b.toNat) | none => none else none
    | _, _, _ => none
  | .typeAssert x _ u ok => match P.underlying u, ρ x with
    | some (.interface _), _ | none, _ => none
    | some _, .nilIface => if ok then (zeroOf P u).map fun z => .tuple #[z, .bool false] else none
    | some _, .iface t v => if t = u then some (if ok then .tuple #[v, .bool true] else v) else if ok then (zeroOf P u).map fun z => .tuple #[z, .bool false] else none
    | _, _ => none
  | .extract x i => match ρ x with | .tuple vs => vs[i]? | _ => none
  | .call { callee := .builtin .max, args, .. } => maxV true (args.toList.map ρ)
  | .call { callee := .builtin .min, args, .. } => maxV false (args.toList.map ρ)
  | .call { callee := .builtin .cap, args, argTypes } => match args[0]?, argTypes[0]? with
    | some x, some t => match P.underlying t, ρ x with
      | some (.slice _), .slice _ _ c => if c < OPEN then some (.int .i64 c) else none
      | _, _ => none
    | _, _ => none
  | _ => none

def bytesOf : List Value → Option (List UInt8)
  | [] => some []
  | .int .u8 n :: r => if 0 ≤ n ∧ n < 256 then (bytesOf r).map (UInt8.ofNat n.toNat :: ·) else none
  | _ => none

def loadV (P : Program) (t : TypeId) (h : Heap) (a : Value) : Option Value :=
  match P.underlying t, a with
  | some _, .pointer (some ⟨k, i, none⟩) => match h.get k with
    | some (.cells cs ..) =>
      if isAgg P t then
        match sizeOf? P t with
        | some n => if ((cs.drop i).take n).length = n then some (.agg ((cs.drop i).take n).toArray) else none
        | none => none
      else cs[i]?
    | _ => none
  | _, _ => none

/-- A number, a bool, a string. -/
def scal3 : Value → Bool
  | .bool _ | .int _ _ | .string _ => true
  | _ => false
/-- What may be a key: such a scalar, or a row of them. -/
def keyP : Value → Bool
  | .agg cs => cs.toList.all scal3
  | v => scal3 v
def same3 : Value → Value → Bool
  | .bool a, .bool b => a == b
  | .int k a, .int k' b => decide (k = k') && decide (a = b)
  | .string a, .string b => decide (a.data.toList = b.data.toList)
  | _, _ => false
def sameL : List Value → List Value → Bool
  | [], [] => true
  | a :: x, b :: y => same3 a b && sameL x y
  | _, _ => false
def sameK : Value → Value → Bool
  | .agg a, .agg b => sameL a.toList b.toList
  | a, b => same3 a b
def eqFs (P : Program) (e : TypeId → Value → Value → Option Bool) (a b : Array Value) : List Field → Option Bool
  | [] => some true
  | f :: fs => if f.name ≠ "_" then (match partOf P f.type a f.offset, partOf P f.type b f.offset with
    | some p, some q => (match e f.type p q with
      | some true => eqFs P e a b fs
      | some false => some false
      | none => none)
    | _, _ => none) else none
/-- Equality at a type, to a depth: scalars, and structs of what is so compared. -/
def eqDeep (P : Program) : Nat → TypeId → Value → Value → Option Bool
  | 0, _, _, _ => none
  | d + 1, t, x, y => match P.underlying t, x, y with
    | some (.struct fs), .agg a, .agg b => if P.stoodInHeld t = false then eqFs P (eqDeep P d) a b fs.toList else none
    | _, x, y => eqAt P t x y
def chkFs (P : Program) (c : TypeId → Value → Bool) (a : Array Value) : List Field → Bool
  | [] => true
  | f :: fs => decide (f.name ≠ "_") && (match partOf P f.type a f.offset with | some p => c f.type p | none => false) && chkFs P c a fs
def keyChk (P : Program) : Nat → TypeId → Value → Bool
  | 0, _, _ => false
  | d + 1, t, v => match P.underlying t, v with
    | some (.struct fs), .agg a => chkFs P (keyChk P d) a fs.toList
    | some .bool, .bool _ => true
    | some (.int _), .int _ _ => true
    | some .string, .string _ => true
    | _, _ => false
def keyOk (P : Program) (kt : TypeId) (k : Value) : Bool := keyP k && keyChk P 3 kt k
/-- Equality of keys: equal, and the same; or not equal. -/
def keyEq (P : Program) (kt : TypeId) (a b : Value) : Option Bool :=
  if keyP b then match eqDeep P 3 kt a b with
    | some true => if sameK a b then some true else none
    | r => r
  else none
/-- What a map holds at a key; none where a key cannot be compared. -/
def findK (P : Program) (kt : TypeId) (k : Value) : List (Value × Value) → Option (Option Value)
  | [] => some none
  | (k', v) :: es => match keyEq P kt k k' with
    | some true => some (some v)
    | some false => findK P kt k es
    | none => none

/-- What looks at the memory, and leaves it. -/
def opRead (P : Program) (ρ : Operand → Value) (o : Oper) (h : Heap) : Option Value :=
  match o.op with
  | .load t a => loadV P t h (ρ a)
  | .slice t x lo hi mx => sliceV P t (ρ x) (lo.map ρ) (hi.map ρ) (mx.map ρ) h
  | .convert s d x => match P.underlying s, P.underlying d, ρ x with
    | some (.slice e), some .string, .slice a len _ => match P.underlying e, a with
      | some (.int .u8), none => some (strOf [])
      | some (.int .u8), some ⟨k, i, none⟩ => match h.get k with
        | some (.cells cs ..) =>
          if ((cs.drop i).take len).length = len then
            (bytesOf ((cs.drop i).take len)).map strOf
          else none
        | _ => none
      | _, _ => none
    | _, _, _ => none
  | .lookup t m k ok => match P.underlying t with
    | some (.map kt e) => match (match ρ m with | .map none => some [] | .map (some r) => (match h.get r with | some (.map es) => some es | _ => none) | _ => none), zeroOf P e with
      | some es, some z =>
        if keyOk P kt (ρ k) then match findK P kt (ρ k) es with
          | some (some v) => some (if ok then .tuple #[v, .bool true] else v)
          | some none => some (if ok then .tuple #[z, .bool false] else z)
          | none => none
        else none
      | _, _ => none
    | _ => none
  | .call { callee := .builtin .len, args, argTypes } => match args[0]?, argTypes[0]? with
    | some x, some t => match P.underlying t, ρ x with
      | some .string, .string s => some (.int .i64 s.data.toList.length)
      | some (.array n _), _ => some (.int .i64 n)
      | some (.slice _), .slice _ n _ => some (.int .i64 n)
      | some (.map ..), .map none => some (.int .i64 0)
      | some (.map ..), .map (some r) => match h.get r with
        | some (.map es) => some (.int .i64 es.length)
        | _ => none
      | _, _ => none
    | _, _ => none
  | _ => none

def zeroRow (z : List Value) : Nat → List Value
  | 0 => []
  | n + 1 => z ++ zeroRow z n

/-- What lays a new block, whatever the memory: the block, and the value by the block's number. -/
def opAlloc (P : Program) (ρ : Operand → Value) (o : Oper) : Option (Blk × (Nat → Value)) :=
  match o.op with
  | .alloc t => match zeroOf P t with
    | some z => if z.cells.toList.all scalar then some (.cells z.cells.toList t 0 true, fun k => .pointer (some ⟨k, 0, none⟩)) else none
    | none => none
  | .box t x => if (ρ x).cells.toList.all scalar then some (.cells (ρ x).cells.toList t 0 true, fun k => .pointer (some ⟨k, 0, none⟩)) else none
  | .buildSlice t len parts => match P.underlying t with
    | some (.slice e) => match sizeOf? P e, zeroOf P e with
      | some sz, some z =>
        if z.cells.size = sz ∧ 0 < sz ∧ len * sz ≤ 65536 then
          match (if parts.toList.all fun p => noJunk (ρ p.2) then Instr.fill (fun i => some (i * sz, sz)) (zeroRow z.cells.toList len).toArray (parts.toList.map fun p => (p.1, ρ p.2)) else none) with
          | some cs => if cs.toList.all scalar then some (.cells cs.toList e sz true, fun k => .slice (some ⟨k, 0, none⟩) len len) else none
          | none => none
        else none
      | _, _ => none
    | _ => none
  | .makeSlice t l c => match P.underlying t, ρ l, ρ c with
    | some (.slice e), .int .i64 l, .int .i64 c => match P.info? e, zeroOf P e with
      | some i, some z =>
        if z.cells.size = i.size ∧ 0 < i.size ∧ 0 ≤ l ∧ l ≤ c ∧ c * i.bytes ≤ 140737488355328 ∧ c ≤ 1099511627776 then
          some (.cells (zeroRow z.cells.toList c.toNat) e i.size true, fun k => .slice (some ⟨k, 0, none⟩) l.toNat c.toNat)
        else none
      | _, _ => none
    | _, _, _ => none
  | .makeMap t r => match P.underlying t with
    | some (.map ..) => match r with
      | none => some (.map [], fun k => .map (some k))
      | some x => match ρ x with | .int _ _ => some (.map [], fun k => .map (some k)) | _ => none
    | _ => none
  | .convert s d x => match P.underlying s, P.underlying d, ρ x with
    | some _, some (.slice e), .string s => match P.underlying e with
      | some (.int .u8) => match sizeOf? P e with
        | some 1 => some (.cells (s.data.toList.map fun b => .int .u8 b.toNat) e 1 true, fun k => .slice (some ⟨k, 0, none⟩) s.data.toList.length (OPEN + s.data.toList.length))
        | _ => none
      | _ => none
    | _, _, _ => none
  | _ => none

/-- What an operation does to the memory. -/
inductive Upd where
  | no
  | set (k : Nat) (b : Blk)
  | push (b : Blk)
  | move (k : Nat) (b : Blk)
  | all (h : Heap)
  deriving Inhabited

def Upd.app (u : Upd) (h : Heap) : Heap :=
  match u with
  | .no => h
  | .set k b => h.set k b
  | .push b => h.push b
  | .move k b => (h.del k).push b
  | .all h' => h'

def storeAt (h : Heap) (k i : Nat) (vs : List Value) : Option Upd :=
  match h.get k with
  | some (.cells cs t sz true) => if i + vs.length ≤ cs.length ∧ vs.all scalar then some (.set k (.cells (cs.take i ++ vs ++ cs.drop (i + vs.length)) t sz true)) else none
  | _ => none

/-- The cells that an append or a copy takes. -/
def srcCells (h : Heap) (sz : Nat) (x : Value) : Option (List Value × Nat) :=
  match x with
  | .slice none 0 _ => some ([], 0)
  | .slice (some ⟨k, i, none⟩) n _ => match h.get k with
    | some (.cells cs ..) => if ((cs.drop i).take (n * sz)).length = n * sz then some ((cs.drop i).take (n * sz), n) else none
    | _ => none
  | .string s => if sz = 1 then some (s.data.toList.map fun b => .int .u8 b.toNat, s.data.toList.length) else none
  | _ => none

/-- An element's type of a row: its zero value fills its cells. -/
def rowElem (P : Program) (e : TypeId) : Option TypeInfo :=
  match P.info? e, zeroOf P e with
  | some i, some z => if z.cells.size = i.size ∧ 0 < i.size then some i else none
  | _, _ => none

def takesList (P : Program) (t : TypeId) : Bool := match P.underlying t with | some (.slice _) | some .string => true | _ => false

/-- Where the row has no room for what comes: a new row; where its room is not known, the old row is given up. -/
def appendGrow (h : Heap) (e : TypeId) (sz bytes : Nat) (k j n c m : Nat) (news : List Value) : Option (Value × Upd) :=
  if (n + m) * bytes ≤ 70368744177664 ∧ n + m ≤ 1099511627776 then
    match h.get k with
    | some (.cells cs e' sz' wr) =>
      if e' = e ∧ sz' = sz ∧ ((cs.drop j).take (n * sz)).length = n * sz then
        if c < OPEN then some (.slice (some ⟨h.next, 0, none⟩) (n + m) (OPEN + (n + m)), .push (.cells ((cs.drop j).take (n * sz) ++ news) e sz true))
        else if wr = true ∧ cs.length = j + n * sz then some (.slice (some ⟨h.next, 0, none⟩) (n + m) (OPEN + (n + m)), .move k (.cells ((cs.drop j).take (n * sz) ++ news) e sz true))
        else none
      else none
    | _ => none
  else none

def appendV (P : Program) (t t' : TypeId) (s x : Value) (h : Heap) : Option (Value × Upd) :=
  match P.underlying t with
  | some (.slice e) => match rowElem P e with
    | some i =>
      if takesList P t' = true then
        match srcCells h i.size x with
        | some (news, m) =>
          if news.all scalar ∧ news.length = m * i.size then
            match s with
            | .slice none 0 0 => if m = 0 then some (s, .no) else
                if m * i.bytes ≤ 70368744177664 ∧ m ≤ 1099511627776 then some (.slice (some ⟨h.next, 0, none⟩) m (OPEN + m), .push (.cells news e i.size true)) else none
            | .slice (some ⟨k, j, none⟩) n c =>
              if m = 0 then some (s, .no) else
              if n + m ≤ capOf c then
                (storeAt h k (j + n * i.size) news).map fun u => (.slice (some ⟨k, j, none⟩) (n + m) c, u)
              else appendGrow h e i.size i.bytes k j n c m news
            | _ => none
          else none
        | none => none
      else none
    | none => none
  | _ => none

def copyV (P : Program) (t : TypeId) (d s : Value) (h : Heap) : Option (Value × Upd) :=
  match P.underlying t with
  | some (.slice e) => match sizeOf? P e, d with
    | some sz, .slice a n _ =>
      match srcCells h sz s with
      | some (cs, m) =>
        if n = 0 ∨ m = 0 then some (.int .i64 0, .no) else
        match a with
        | some ⟨k, j, none⟩ => (storeAt h k j (cs.take (min m n * sz))).map fun u => (.int .i64 (min m n : Nat), u)
        | _ => none
      | none => none
    | _, _ => none
  | _ => none

/-- A row's cells made zero. -/
def clearV (P : Program) (t : TypeId) (x : Value) (h : Heap) : Option (Value × Upd) :=
  match P.underlying t, x with
  | some (.slice e), .slice (some ⟨k, j, none⟩) n _ => match zeroOf P e with
    | some z => if n = 0 then some (undef, .no) else (storeAt h k j (zeroRow z.cells.toList n)).map fun u => (undef, u)
    | none => none
  | _, _ => none

abbrev CallF := FuncId → List Value → Heap → Option (Value × Heap)

def applyV (cf : CallF) (f : Value) (args : List Value) (h : Heap) : Option (Value × Upd) :=
  match f with
  | .func (.func g) first captured => if g < YB then (cf g (first.toList ++ args ++ captured.toList) h).map fun r => (r.1, .all r.2) else none
  | .func (.yield k) first captured => if first.size = 0 ∧ captured.size = 0 then (cf (YB + k) args h).map fun r => (r.1, .all r.2) else none
  | _ => none

def insertK (P : Program) (kt : TypeId) (k v : Value) : List (Value × Value) → Option (List (Value × Value))
  | [] => some [(k, v)]
  | (k', v') :: r => match keyEq P kt k k' with
    | some true => some ((k, v) :: r)
    | some false => (insertK P kt k v r).map ((k', v') :: ·)
    | none => none

/-- What turns the memory, or calls. -/
def opEff (P : Program) (cf : CallF) (ρ : Operand → Value) (o : Oper) (h : Heap) : Option (Value × Upd) :=
  match o.op with
  | .store t a x => match ρ a with
    | .pointer (some ⟨k, i, none⟩) => if sizeOf? P t = some (ρ x).cells.size then (storeAt h k i (ρ x).cells.toList).map fun u => (undef, u) else none
    | _ => none
  | .mapUpdate t m k x | .insert t m k x => match P.underlying t, ρ m with
    | some (.map kt _), .map (some r) => match h.get r with
      | some (.map es) => if keyOk P kt (ρ k) then (insertK P kt (ρ k) (ρ x) es).map fun es' => (undef, .set r (.map es')) else none
      | _ => none
    | _, _ => none
  | .call { callee := .value f, args, .. } => applyV cf (ρ f) (args.toList.map ρ) h
  | .call { callee := .builtin .append, args, argTypes } => match args.toList, argTypes.toList with
    | [s, x], [t, t'] => appendV P t t' (ρ s) (ρ x) h
    | _, _ => none
  | .call { callee := .builtin .copy, args, argTypes } => match args.toList, argTypes.toList with
    | [d, s], t :: _ => copyV P t (ρ d) (ρ s) h
    | _, _ => none
  | .call { callee := .builtin .clear, args, argTypes } => match args.toList.map ρ, argTypes.toList with
    | [x], [t] => clearV P t x h
    | _, _ => none
  | .call { callee := .builtin .unsafeSliceData, args, .. } => match args.toList.map ρ with
    | [.slice none _ _] => some (.pointer none, .no)
    | [.slice (some a) _ c] => if 0 < capOf c then some (.pointer (some a), .no) else none
    | _ => none
  | .call { callee := .builtin .unsafeString, args, argTypes, .. } => match args.toList.map ρ, argTypes[0]? with
    | [.pointer none, .int _ 0], some _ => some (strOf [], .no)
    | [.pointer (some ⟨k, i, none⟩), .int _ n], some pt => match h.get k, P.underlying pt with
      | some (.cells cs e 1 true), some (.pointer e') =>
        if e = e' ∧ sizeOf? P e = some 1 ∧ 0 < n ∧ n < 9223372036854775807 ∧ ((cs.drop i).take n.toNat).length = n.toNat then
          match bytesOf ((cs.drop i).take n.toNat) with
          | some l => some (strOf l, .set k (.cells cs e 1 false))
          | none => none
        else none
      | _, _ => none
    | _, _ => none
  | .convert s d x => match P.underlying s, P.underlying d, ρ x with
    | some (.pointer t), some .unsafePointer, .pointer (some ⟨k, 0, none⟩) => match h.get k with
      | some (.cells cs t' 0 _) => if t = t' ∧ sizeOf? P t = some cs.length ∧ 0 < cs.length then some (ρ x, .no) else none
      | _ => none
    | some .unsafePointer, some (.pointer t), .pointer (some ⟨k, 0, none⟩) => match h.get k with
      | some (.cells cs t' 0 _) => if t = t' ∧ sizeOf? P t = some cs.length ∧ 0 < cs.length then some (ρ x, .no) else none
      | _ => none
    | _, _, _ => none
  | _ => none

/-- One operation, whichever of the four kinds it is. -/
def opRun (P : Program) (cf : CallF) (ρ : Operand → Value) (o : Oper) (h : Heap) : Option (Value × Upd) :=
  match opPure P ρ o with
  | some v => some (v, .no)
  | none => match opRead P ρ o h with
    | some v => some (v, .no)
    | none => match opAlloc P ρ o with
      | some (b, f) => some (f h.next, .push b)
      | none => opEff P cf ρ o h

def putL (tm : List Value) (dst : Option Tmp) (v : Value) : List Value :=
  match dst with
  | some d => tm.set d v
  | none => tm

/-- Whether an operation's guard lets it run; none where the guard holds neither a bool nor nothing. -/
def wantedL (ops : Array Oper) (tm : List Value) (o : Oper) : Option Bool :=
  match o.guard with
  | none => some true
  | some (j, want) => match (ops[j]?).bind (·.dst) with
    | some d => match tm.getD d undef with
      | .bool b => some (b == want)
      | .tuple _ => some false
      | _ => none
    | none => none

/-- The operations of a region in the order of the text. -/
def opsRun (P : Program) (gl : Nat → Bool) (cf : CallF) (ops : Array Oper) : List Oper → List Value → Heap → Option (List Value × Heap)
  | [], tm, h => some (tm, h)
  | o :: rest, tm, h =>
    match wantedL ops tm o with
    | some true => match opRun P cf (ev gl tm) o h with
      | some (v, u) => opsRun P gl cf ops rest (putL tm o.dst v) (u.app h)
      | none => none
    | some false => opsRun P gl cf ops rest (putL tm o.dst undef) h
    | none => none

def eqL (e : Value → Value → Bool) : List Value → List Value → Bool
  | [], [] => true
  | a :: x, b :: y => e a b && eqL e x y
  | _, _ => false

/-- Surely the same value; to a depth. -/
def vEq : Nat → Value → Value → Bool
  | 0, _, _ => false
  | d + 1, v, v' => match v, v' with
    | .bool a, .bool b => a == b
    | .int k a, .int k' b => decide (k = k') && decide (a = b)
    | .string a, .string b => decide (a.data.toList = b.data.toList)
    | .pointer none, .pointer none => true
    | .pointer (some ⟨a, i, none⟩), .pointer (some ⟨b, j, none⟩) => decide (a = b) && decide (i = j)
    | .slice none n c, .slice none n' c' => decide (n = n') && decide (c = c')
    | .slice (some ⟨a, i, none⟩) n c, .slice (some ⟨b, j, none⟩) n' c' => decide (a = b) && decide (i = j) && decide (n = n') && decide (c = c')
    | .map none, .map none => true
    | .map (some a), .map (some b) => decide (a = b)
    | .nilFunc, .nilFunc => true
    | .nilIface, .nilIface => true
    | .func (.func f) a c, .func (.func f') a' c' => decide (f = f') && eqL (vEq d) a.toList a'.toList && eqL (vEq d) c.toList c'.toList
    | .iface t v, .iface t' v' => decide (t = t') && vEq d v v'
    | .agg a, .agg b => eqL (vEq d) a.toList b.toList
    | .tuple a, .tuple b => eqL (vEq d) a.toList b.toList
    | _, _ => false

/-- What an operation of a region that draws its order came to. -/
inductive Ent where
  | skip
  | pure (v : Value)
  | read (v : Value)
  | alloc (B : Blk) (v : Value)
  | eff (v : Value) (h : Heap)
  deriving Inhabited

def Ent.val : Ent → Value
  | .skip => undef
  | .pure v | .read v | .alloc _ v | .eff v _ => v

/-- New blocks, laid at the numbers that are kept for them. -/
def setAll (h : Heap) (base : Nat) : List (Nat × Blk) → Heap
  | [] => h
  | (i, B) :: r => (setAll h base r).set (base + i) B

/-- The operations in the order of the text; a new block is laid only before the first effect that must stand behind it. -/
def drawOps (P : Program) (gl : Nat → Bool) (cf : CallF) (ops : Array Oper) (bf : Nat → Nat → Bool) (base : Nat) : List Oper → Nat → List Value → Heap → List (Nat × Blk) → Option (List (List Value × Ent) × List Value × Heap × List (Nat × Blk))
  | [], _, tm, h, pd => some ([], tm, h, pd)
  | o :: rest, j, tm, h, pd =>
    match wantedL ops tm o with
    | none => none
    | some false => (drawOps P gl cf ops bf base rest (j + 1) (putL tm o.dst undef) h pd).map fun r => ((tm, .skip) :: r.1, r.2)
    | some true =>
      match opPure P (ev gl tm) o with
      | some v => (drawOps P gl cf ops bf base rest (j + 1) (putL tm o.dst v) h pd).map fun r => ((tm, .pure v) :: r.1, r.2)
      | none =>
        match opRead P (ev gl tm) o h with
        | some v => (drawOps P gl cf ops bf base rest (j + 1) (putL tm o.dst v) h pd).map fun r => ((tm, .read v) :: r.1, r.2)
        | none =>
          match opAlloc P (ev gl tm) o with
          | some (B, f) => (drawOps P gl cf ops bf base rest (j + 1) (putL tm o.dst (f (base + j))) h ((j, B) :: pd)).map fun r => ((tm, .alloc B (f (base + j))) :: r.1, r.2)
          | none =>
            match opEff P cf (ev gl tm) o (setAll h base (pd.filter fun p => bf j p.1)) with
            | some (v, u) =>
              (drawOps P gl cf ops bf base rest (j + 1) (putL tm o.dst v) (u.app (setAll h base (pd.filter fun p => bf j p.1))) (pd.filter fun p => !bf j p.1)).map fun r =>
                ((tm, .eff v (u.app (setAll h base (pd.filter fun p => bf j p.1)))) :: r.1, r.2)
            | none => none

/-- The effects of a record, by their numbers, each with the memory behind it. -/
def effsOf {τ : Type} : List (τ × Ent) → Nat → List (Nat × Heap)
  | [], _ => []
  | (_, .eff _ h) :: r, j => (j, h) :: effsOf r (j + 1)
  | _ :: r, j => effsOf r (j + 1)

/-- Each effect stands behind the one before. -/
def chained (bf : Nat → Nat → Bool) : List (Nat × Heap) → Bool
  | (i, _) :: (j, h) :: r => bf j i && chained bf ((j, h) :: r)
  | _ => true

def sameRead (P : Program) (gl : Nat → Bool) (o : Oper) (tm : List Value) (v : Value) (h : Heap) : Bool :=
  match opRead P (ev gl tm) o h with
  | some v' => vEq 4 v v'
  | none => false

/-- A reader reads the same wherever it may stand; own: the moment of the order of the text is not past. -/
def readAt (P : Program) (gl : Nat → Bool) (bf : Nat → Nat → Bool) (j : Nat) (o : Oper) (tm : List Value) (v : Value) : Heap → List (Nat × Heap) → Bool → Bool
  | h, [], own => own || sameRead P gl o tm v h
  | h, (e, h') :: r, own => ((own && Nat.blt j e) || bf j e || sameRead P gl o tm v h) && (bf e j || readAt P gl bf j o tm v h' r (Nat.blt e j))

def readsAt (P : Program) (gl : Nat → Bool) (bf : Nat → Nat → Bool) (h : Heap) (es : List (Nat × Heap)) : List Oper → List (List Value × Ent) → Nat → Bool
  | o :: os, (tm, .read v) :: r, j => readAt P gl bf j o tm v h es true && readsAt P gl bf h es os r (j + 1)
  | _ :: os, _ :: r, j => readsAt P gl bf h es os r (j + 1)
  | _, _, _ => true


/-- A region that draws its order: one order, and what shows that each other comes to the same. -/
def drawRun (P : Program) (gl : Nat → Bool) (cf : CallF) (ops : Array Oper) (bf : Nat → Nat → Bool) (tm : List Value) (h : Heap) : Option (List Value × Heap) :=
  match drawOps P gl cf ops bf h.next ops.toList 0 tm { h with next := h.next + ops.size } [] with
  | some (recs, tm', h', pd) =>
    if chained bf (effsOf recs 0) && readsAt P gl bf { h with next := h.next + ops.size } (effsOf recs 0) ops.toList recs 0 then some (tm', setAll h' h.next pd) else none
  | none => none


/-! ### A region that draws, order by order -/
def isIns (o : Oper) : Bool := match o.op with | .insert .. => true | _ => false
def isSto (o : Oper) : Bool := match o.op with | .store .. => true | _ => false
/-- An entry of a fresh map that may be laid before or behind a store. -/
def anyOrd (ops : Array Oper) : Bool :=
  ops.toList.any isIns && (List.range ops.size).any fun j => (match ops[j]? with | some o => isSto o | none => false) && (List.range j).any fun i => (match ops[i]? with | some o => isIns o | none => false) && !befAt (befs ops) j i
def noCf : FuncId → List Value → Heap → Option (Value × Heap) := fun _ _ _ => none
/-- One operation: its value, and the block that it lays or turns. -/
def opAt (P : Program) (ρ : Operand → Value) (o : Oper) (k : Nat) (h : Heap) : Option (Value × Option (Nat × Blk)) :=
  match opPure P ρ o with
  | some v => some (v, none)
  | none => match opRead P ρ o h with
    | some v => some (v, none)
    | none => match opAlloc P ρ o with
      | some (b, f) => some (f k, some (k, b))
      | none => match opEff P noCf ρ o h with
        | some (v, .no) => some (v, none)
        | some (v, .set i b) => some (v, some (i, b))
        | _ => none
abbrev ASt := List Value × Heap × List Nat
def layA (s : ASt) (dst : Option Tmp) (v : Value) : Option (Nat × Blk) → ASt
  | none => (putL s.1 dst v, s.2.1, s.2.2)
  | some (k, b) => (putL s.1 dst v, s.2.1.set k b, k :: s.2.2)
def stepA (P : Program) (gl : Nat → Bool) (ops : Array Oper) (base j : Nat) (s : ASt) : Option ASt :=
  match ops[j]? with
  | some o => match wantedL ops s.1 o with
    | some true => match opAt P (ev gl s.1) o (base + j) s.2.1 with
      | some (v, u) => some (layA s o.dst v u)
      | none => none
    | some false => some (layA s o.dst undef none)
    | none => none
  | none => none
def textA (P : Program) (gl : Nat → Bool) (ops : Array Oper) (base : Nat) : Nat → Nat → ASt → Option ASt
  | 0, _, s => some s
  | n + 1, j, s => match stepA P gl ops base j s with
    | some s' => textA P gl ops base n (j + 1) s'
    | none => none
def entsEq : List (Value × Value) → List (Value × Value) → Bool
  | [], [] => true
  | (a, b) :: x, (c, d) :: y => vEq 4 a c && vEq 4 b d && entsEq x y
  | _, _ => false
def blkEq : Blk → Blk → Bool
  | .cells cs t sz wr, .cells cs' t' sz' wr' => eqL (vEq 4) cs cs' && Nat.beq t t' && Nat.beq sz sz' && (wr == wr')
  | .map es, .map es' => entsEq es es'
  | _, _ => false
def atEq (h h' : Heap) (k : Nat) : Bool := match h.get k, h'.get k with
  | some B, some C => blkEq B C
  | none, none => true
  | _, _ => false
def endEq (s s' : ASt) : Bool := eqL (vEq 4) s.1 s'.1 && s.2.2.all (atEq s.2.1 s'.2.1) && s'.2.2.all (atEq s.2.1 s'.2.1)
/-- Each order comes to the same end. -/
def allA (P : Program) (gl : Nat → Bool) (ops : Array Oper) (bf : Nat → Nat → Bool) (base : Nat) (fin : ASt) : Nat → List Nat → ASt → Bool
  | 0, _, s => endEq fin s
  | n + 1, done, s => (List.range ops.size).all fun j => done.contains j || ((List.range j).any fun i => bf j i && !done.contains i) || (match stepA P gl ops base j s with | some s' => allA P gl ops bf base fin n (j :: done) s' | none => false)
def drawA (P : Program) (gl : Nat → Bool) (ops : Array Oper) (bf : Nat → Nat → Bool) (tm : List Value) (h : Heap) : Option (List Value × Heap) :=
  match textA P gl ops h.next ops.size 0 (tm, { h with next := h.next + ops.size }, []) with
  | some fin => if allA P gl ops bf h.next fin ops.size [] (tm, { h with next := h.next + ops.size }, []) then some (fin.1, fin.2.1) else none
  | none => none
def drawX (P : Program) (gl : Nat → Bool) (cf : CallF) (ops : Array Oper) (tm : List Value) (h : Heap) : Option (List Value × Heap) :=
  if anyOrd ops then drawA P gl ops (befAt (befs ops)) tm h else drawRun P gl cf ops (befAt (befs ops)) tm h

def iter (body : List Value → Heap → Option (Exit × List Value × Heap)) : Nat → List Value → Heap → Option (Exit × List Value × Heap)
  | 0, _, _ => none
  | n + 1, tm, h => match body tm h with
    | some (.normal, tm', h') => iter body n tm' h'
    | r => r

/-- Whether a function has a text. -/
def bodied (P : Program) (g : FuncId) : Bool := match P.funcs[g]? with | some fn => fn.body.isSome | none => false

/-- How a loop over a function is left. -/
def loopEnd : Option Blk → Option Exit
  | some (.loop .ready ..) => some .normal
  | some (.loop .ret ..) => some .ret
  | some (.loop (.exit id) ..) => some (.exit id)
  | _ => none

def codeRun (P : Program) (gl : Nat → Bool) (cf : CallF) (N : Nat) : Code → List Value → Heap → Option (Exit × List Value × Heap)
  | .skip, tm, h => some (.normal, tm, h)
  | .region _ ops false, tm, h => (opsRun P gl cf ops ops.toList tm h).map fun r => (.normal, r.1, r.2)
  | .region _ ops true, tm, h => (drawX P gl cf ops tm h).map fun r => (.normal, r.1, r.2)
  | .seq a b, tm, h => match codeRun P gl cf N a tm h with
    | some (.normal, tm', h') => codeRun P gl cf N b tm' h'
    | r => r
  | .cond c a b, tm, h => match ev gl tm c with
    | .bool t => if t then codeRun P gl cf N a tm h else codeRun P gl cf N b tm h
    | _ => none
  | .block id c, tm, h => match codeRun P gl cf N c tm h with
    | some (.exit id', tm', h') => if id' = id then some (.normal, tm', h') else some (.exit id', tm', h')
    | r => r
  | .loop c, tm, h => iter (codeRun P gl cf N c) N tm h
  | .exit id, tm, h => some (.exit id, tm, h)
  | .ret, tm, h => some (.ret, tm, h)
  | .label _, tm, h => some (.normal, tm, h)
  | .rangeFunc f ps asg body, tm, h => match ev gl tm f with
    | .func (.func g) first captured =>
      if hc : loopOk asg body = true then
        if g < YB ∧ bodied P g = true then
          match cf g (first.toList ++ [.func (.yield h.next) #[] #[]] ++ captured.toList) (h.push (.loop .ready tm ps.toList asg body hc)) with
          | some (_, h2) => (loopEnd (h2.get h.next)).map fun e => (e, tm, h2.del h.next)
          | none => none
        else none
      else none
    | _ => none
  | _, _, _ => none

def setTs (tm : List Value) (pa : List (Tmp × Value)) : List Value := pa.foldl (fun tm p => tm.set p.1 p.2) tm

/-- How a round's body was left. -/
def lstOf : Exit → Option (Bool × LSt)
  | .normal => some (true, .ready)
  | .ret => some (false, .ret)
  | .exit id => some (false, .exit id)
  | _ => none

/-- One round of a loop over a function. -/
def yieldRun (run : Code → List Value → Heap → Option (Exit × List Value × Heap)) (k : Nat) (args : List Value) (h : Heap) : Option (Value × Heap) :=
  match h.get k with
  | some (.loop .ready tm ps asg body _) =>
    if args.length = ps.length then
      match run asg (setTs tm (ps.zip args)) h with
      | some (.normal, tm1, h1) => match h1.get k with
        | some (.loop .ready tm' ps' asg' body' ok') => match run body tm1 (h1.set k (.loop .busy tm' ps' asg' body' ok')) with
          | some (e, _, h2) => match h2.get k, lstOf e with
            | some (.loop _ tm2 ps2 asg2 body2 ok2), some (b, st) => some (.bool b, h2.set k (.loop st tm2 ps2 asg2 body2 ok2))
            | _, _ => none
          | none => none
        | _ => none
      | _ => none
    else none
  | _ => none

def resultsRun (P : Program) (tm : List Value) (h : Heap) : List ResultVar → Option (List Value)
  | [] => some []
  | .tmp t :: r => (resultsRun P tm h r).map (tm.getD t undef :: ·)
  | .cell a t :: r => match loadV P t h (tm.getD a undef) with
    | some v => (resultsRun P tm h r).map (v :: ·)
    | none => none

def packResults : List Value → Value
  | [v] => v
  | vs => .tuple vs.toArray

/-- A function whose call is told by a law of its own; it may call back. -/
abbrev Prim := CallF → List Value → Heap → Option (Value × Heap)

def callRun (P : Program) (gl : Nat → Bool) (pr : FuncId → Option Prim) : Nat → CallF
  | 0, _, _, _ => none
  | n + 1, f, args, h => if YB ≤ f then yieldRun (codeRun P gl (callRun P gl pr n) n) (f - YB) args h else match pr f with
    | some p => p (callRun P gl pr n) args h
    | none => match P.funcs[f]? with
      | some fn => match fn.body with
        | some c => match codeRun P gl (callRun P gl pr n) n c (args ++ List.replicate (fn.ntmps - args.length) undef) h with
          | some (.normal, tm, h') => (resultsRun P tm h' fn.results.toList).map fun vs => (packResults vs, h')
          | some (.ret, tm, h') => (resultsRun P tm h' fn.results.toList).map fun vs => (packResults vs, h')
          | _ => none
        | none => none
      | none => none

end
end Go.Ab
