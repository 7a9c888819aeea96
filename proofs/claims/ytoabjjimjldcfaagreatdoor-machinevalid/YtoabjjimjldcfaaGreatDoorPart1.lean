/- Laws and walks that the proof leans on (part 1): AbEval; AbEnv; AbFast; AbRel; AbPure; AbPure2 and others. No condition. -/
import GoSem.Dispatch
import GoSem.Machine.Frame
import GoSem.Machine.Return
import Derived.CallsIn
import Derived.Laws.Tables
import Derived.KernelRfl
import Derived.Laws.Sem
import Derived.Laws.World
import Derived.Laws.Cells
import Derived.Laws.Entries
import Derived.Laws.Strings
import Derived.Laws.StructEq
import Derived.Laws.Small
import Derived.Laws.BytesString
import Derived.Laws.BitsLemmas
import Derived.Laws.Append
import Derived.Lib.UnsafeStr
import Derived.Lib.Builder
section
namespace Go
theorem dT {p:Prop} [Decidable p] (h:decide p=true):p:=of_decide_eq_true h
theorem dF {p:Prop} [Decidable p] (h:decide p=false):¬p:=of_decide_eq_false h
theorem oI {α:Type} {a b:α} (h:some a=some b):a=b:=Option.some.inj h
theorem gE {α:Type} {l:List α} {i:Nat} (h:i<l.length):l[i]? =some l[i]:=List.getElem?_eq_getElem h
theorem gD {α:Type} {l:List α} {i:Nat} {a:α}:l.getD i a=l[i]?.getD a:=List.getD_eq_getElem?_getD
theorem lM {α β:Type} {as:List α} (f:α→β):(as.map f).length=as.length:=List.length_map f
end Go
namespace Go.Ab
noncomputable section
def ba (bs:List Nat)(j i:Nat):Bool:=(bs.getD j 0).testBit i
def ck (ops:Array Oper):List Nat:=(Region.before ops).toList
def EL:List Oper->Nat->Bool
 | [],_=>true
 | o::r,j=>(o.after.toList.all fun e=>decide (e.on < j) || (!Region.binds .any e && !Region.binds .text e)) && EL r (j+1)
def oh (bs:List Nat)(j:Nat)(t:Tmp):List Oper->Nat->Bool
 | [],_=>true
 | o::r,i=>(match o.dst with | some d=>decide (d≠t) || decide (i=j) || ba bs j i || ba bs i j | none=>true) && oh bs j t r (i+1)
def EX (bs:List Nat)(all:List Oper):List Oper->Nat->Bool
 | [],_=>true
 | o::r,j=>(o.op.operands.toList.all fun | .tmp t=>oh bs j t all 0 | _=>true) && (match o.guard with | some (i,_)=>ba bs j i | none=>true) && EX bs all r (j+1)
def vI:List Oper->Nat->Bool
 | [],_=>true
 | o::r,m=>match o.dst with
  | some d=> !m.testBit d && vI r (m ||| 2 ^ d)
  | none=>vI r m
def JM (ops:Array Oper):Bool:=
 EL ops.toList 0 && vI ops.toList 0 && (!Region.departs ops || (Region.linearise .gc ops 0).length == ops.size) && EX (ck ops) ops.toList ops.toList 0
def aV:Code->Bool
 | .region _ ops true=>JM ops
 | .seq a b=>aV a && aV b
 | .cond _ a b=>aV a && aV b
 | .block _ a=>aV a
 | .loop a=>aV a
 | _=>true
def iM:Code->Bool
 | .seq a b=>iM a && iM b
 | .cond _ a b=>iM a && iM b
 | .block _ a=>iM a
 | .loop a=>iM a
 | .rangeFunc .. =>false
 | _=>true
def gJ (asg body:Code):Bool:=aV asg && aV body && iM asg && iM body
inductive LSt where
 | ready
 | busy
 | ret
 | exit (id:Nat)
def YB:Nat:=4611686018427387904
inductive Blk where
 | cells (cs:List Value) (t:TypeId) (sz:Nat) (wr:Bool)
 | map (es:List (Value×Value))
 | loop (st:LSt) (tm:List Value) (ps:List Tmp) (asg body:Code) (ok:gJ asg body=true)
 deriving Inhabited
inductive HT where
 | nil
 | node (v:Option Blk) (l r:HT)
 deriving Inhabited
inductive Pth where
 | e
 | l (p:Pth)
 | r (p:Pth)
noncomputable def AL (f:Nat):Nat->Pth:=
 Nat.rec (motive:=fun _=>Nat->Pth) (fun _=> .e) (fun _ ih n=>Nat.rec (motive:=fun _=>Pth) .e (fun k _=>Nat.rec (motive:=fun _=>Pth) (.l (ih (k / 2))) (fun _ _=> .r (ih (k / 2))) (k % 2)) n) f
noncomputable def bD (n:Nat):Pth:=AL (n+1) n
noncomputable def HT.getE (t:HT):Option Blk:=HT.rec (motive:=fun _=>Option Blk) none (fun v _ _ _ _=>v) t
noncomputable def HT.getL (ih:HT->Option Blk)(t:HT):Option Blk:=HT.rec (motive:=fun _=>Option Blk) none (fun _ l _ _ _=>ih l) t
noncomputable def HT.getR (ih:HT->Option Blk)(t:HT):Option Blk:=HT.rec (motive:=fun _=>Option Blk) none (fun _ _ r _ _=>ih r) t
noncomputable def HT.get (p:Pth):HT->Option Blk:=Pth.rec (motive:=fun _=>HT->Option Blk) HT.getE (fun _=>HT.getL) (fun _=>HT.getR) p
noncomputable def HT.setE (b:Option Blk)(t:HT):HT:=HT.rec (motive:=fun _=>HT) (.node b .nil .nil) (fun _ l r _ _=> .node b l r) t
noncomputable def HT.setL (ih:HT->HT)(t:HT):HT:=HT.rec (motive:=fun _=>HT) (.node none (ih .nil) .nil) (fun v l r _ _=> .node v (ih l) r) t
noncomputable def HT.setR (ih:HT->HT)(t:HT):HT:=HT.rec (motive:=fun _=>HT) (.node none .nil (ih .nil)) (fun v l r _ _=> .node v l (ih r)) t
noncomputable def HT.set (b:Option Blk)(p:Pth):HT->HT:=Pth.rec (motive:=fun _=>HT->HT) (HT.setE b) (fun _=>HT.setL) (fun _=>HT.setR) p
structure Heap where
 next:Nat
 t:HT
 deriving Inhabited
noncomputable def Heap.get (h:Heap)(k:Nat):Option Blk:=h.t.get (bD k)
noncomputable def Heap.set (h:Heap)(k:Nat)(b:Blk):Heap:={ h with t:=h.t.set (some b) (bD k) }
noncomputable def Heap.del (h:Heap)(k:Nat):Heap:={ h with t:=h.t.set none (bD k) }
noncomputable def Heap.push (h:Heap)(b:Blk):Heap:={ next:=h.next+1,t:=h.t.set (some b) (bD h.next) }
def bm:Nat:=36893488147419103232
def aN (c:Nat):Nat:=if bm<=c then c - bm else c
abbrev junk:Value:= .chan (some 0)
def bL:Value->Bool
 | .agg _ | .tuple _ | .chan _=>false
 | _=>true
def nV:Value->Bool
 | .bool _ | .int _ _ | .float _ _ | .complex _ _ _ | .string _ | .pointer none | .slice none 0 0 | .map none | .nilFunc | .nilIface=>true
 | _=>false
def plain:Value->Bool
 | .agg cs=>cs.toList.all nV
 | .tuple cs=>cs.toList.all fun | .agg ds=>ds.toList.all nV | v=>nV v
 | v=>nV v
def ev (gl:Nat->Bool)(tm:List Value):Operand->Value
 | .tmp t=>tm.getD t undef
 | .const v=>if plain v then v else junk
 | .global g=>if gl g then .pointer (some ⟨g,0,none⟩) else junk
 | .func f=> .func (.func f) #[] #[]
def isAgg (P:Program)(t:TypeId):Bool:=match P.underlying t with | some (.struct _) | some (.array ..)=>true | _=>false
def cp (P:Program)(t:TypeId):Option Value:=match P.info? t with | some i=>(match i.zero with | some z=>if plain z then some z else none | none=>none) | none=>none
def aq (P:Program)(t:TypeId):Option Nat:=(P.info? t).map (·.size)
def gM (P:Program)(t:TypeId)(cs:Array Value)(off:Nat):Option Value:=
 match P.underlying t with
 | none=>none
 | some _=>if isAgg P t then (aq P t).map fun n=> .agg (cs.extract off (off+n)) else cs[off]?
def aa (l:List UInt8):Value:= .string ⟨l.toArray⟩
def si (op:BinOp)(x y:Int):Option Bool:=
 match op with
 | .eql=>some (x == y) | .neq=>some (x != y) | .lss=>some (decide (x < y)) | .leq=>some (decide (x<=y)) | .gtr=>some (decide (x > y)) | .geq=>some (decide (x>=y))
 | _=>none
def mJ:List UInt8->List UInt8->Bool
 | _,[]=>false
 | [],_::_=>true
 | a::x,b::y=>a < b || (a == b && mJ x y)
def DZ (op:BinOp)(x y:List UInt8):Option Value:=
 match op with
 | .add=>if x.length+y.length<=4611686018427387904 then some (aa (x++y)) else none
 | .eql=>some (.bool (x == y)) | .neq=>some (.bool !(x == y))
 | .lss=>some (.bool (mJ x y)) | .leq=>some (.bool (mJ x y || x == y))
 | .gtr=>some (.bool !(mJ x y || x == y)) | .geq=>some (.bool !(mJ x y))
 | _=>none
def WW:Value->Value->Option Bool
 | .bool a,.bool b=>some (a == b)
 | .int k a,.int k' b=>if k=k' then some (a == b) else none
 | .string a,.string b=>some (a.data.toList == b.data.toList)
 | _,_=>none
def An (P:Program)(t:TypeId)(x y:Value):Option Bool:=
 match P.underlying t,x,y with
 | some .bool,.bool a,.bool b=>some (a == b)
 | some (.int _),.int k a,.int k' b=>if k=k' then some (a == b) else none
 | some .string,.string a,.string b=>some (a.data.toList == b.data.toList)
 | _,_,_=>none
def gA (P:Program):List Field->Nat->List Value->List Value->Option Bool
 | [],_,_,_=>some true
 | f::fs,i,x::xs,y::ys=>
  if f.offset=i/\f.name≠ "_" then
   match An P f.type x y with
   | some true=>gA P fs (i+1) xs ys
   | some false=>some false
   | none=>none
  else none
 | _::_,_,_,_=>none
def nD (P:Program)(t:TypeId)(x y:Value):Option Bool:=
 match x,y with
 | .bool a,.bool b=>match P.underlying t with | some .bool=>some (a == b) | _=>none
 | .pointer none,.pointer b=>match P.underlying t with | some (.pointer _)=>some b.isNone | _=>none
 | .pointer a,.pointer none=>match P.underlying t with | some (.pointer _)=>some a.isNone | _=>none
 | .pointer (some a),.pointer (some b)=>match P.underlying t with | some (.pointer e)=>if a=b/\(aq P e).any (· ≠0) then some true else none | _=>none
 | .slice none _ _,.slice b _ _=>match P.underlying t with | some (.slice _)=>some b.isNone | _=>none
 | .slice a _ _,.slice none _ _=>match P.underlying t with | some (.slice _)=>some a.isNone | _=>none
 | .map none,.map b=>match P.underlying t with | some (.map ..)=>some b.isNone | _=>none
 | .map a,.map none=>match P.underlying t with | some (.map ..)=>some a.isNone | _=>none
 | .nilFunc,.nilFunc=>match P.underlying t with | some (.func ..)=>some true | _=>none
 | .nilFunc,.func .. =>match P.underlying t with | some (.func ..)=>some false | _=>none
 | .func ..,.nilFunc=>match P.underlying t with | some (.func ..)=>some false | _=>none
 | .nilIface,.iface .. =>match P.underlying t with | some (.interface _)=>some false | _=>none
 | .iface ..,.nilIface=>match P.underlying t with | some (.interface _)=>some false | _=>none
 | .agg a,.agg b=>match P.underlying t with
  | some (.struct fs)=>if P.stoodInHeld t=false/\P.eqGuardType P.depth t=false then gA P fs.toList 0 a.toList b.toList else none
  | _=>none
 | _,_=>none
def am (P:Program)(op:BinOp)(t:TypeId)(x y:Value):Option Value:=
 match x,y with
 | .int k a,.int k' b=>
  match op with
  | .shl=>if 0<=b then some (.int k (k.wrap (a*2 ^ (min b.toNat k.bits)))) else none
  | .shr=>if 0<=b then some (.int k (a.fdiv (2 ^ (min b.toNat k.bits)))) else none
  | _=>
   if k=k' then
    match op with
    | .add=>some (.int k (k.wrap (a+b)))
    | .sub=>some (.int k (k.wrap (a - b)))
    | .mul=>some (.int k (k.wrap (a*b)))
    | .quo=>if b=0 then none else some (.int k (k.wrap (a.tdiv b)))
    | .rem=>if b=0 then none else some (.int k (a.tmod b))
    | .and=>some (.int k (k.wrap (BitVec.ofInt k.bits a &&& BitVec.ofInt k.bits b).toNat))
    | .or=>some (.int k (k.wrap (BitVec.ofInt k.bits a ||| BitVec.ofInt k.bits b).toNat))
    | .xor=>some (.int k (k.wrap (BitVec.ofInt k.bits a ^^^ BitVec.ofInt k.bits b).toNat))
    | .andNot=>some (.int k (k.wrap (BitVec.ofInt k.bits a &&& ~~~BitVec.ofInt k.bits b).toNat))
    | op=>(si op a b).map .bool
   else none
 | .string a,.string b=>DZ op a.data.toList b.data.toList
 | x,y=>match op with
  | .eql=>(nD P t x y).map .bool
  | .neq=>(nD P t x y).map fun b=> .bool !b
  | _=>none
def AP (op:UnOp)(x:Value):Option Value:=
 match op,x with
 | .neg,.int k n=>some (.int k (k.wrap (0 - n)))
 | .xor,.int k n=>some (.int k (k.wrap (BitVec.ofInt k.bits (if k.signed then -1 else k.max) ^^^ BitVec.ofInt k.bits n).toNat))
 | .not,.bool b=>some (.bool !b)
 | _,_=>none
def bK:Option Value->Nat->Option Int
 | none,d=>some d
 | some (.int _ n),_=>some n
 | some _,_=>none
def aL (P:Program)(t:TypeId)(x:Value)(lo hi mx:Option Value)(h:Heap):Option Value:=
 match x with
 | .string s=>
  match P.underlying t with
  | some .string=>match mx,bK lo 0,bK hi s.data.toList.length with
   | none,some l,some r=>if 0<=l/\l<=r/\r<=(s.data.toList.length:Int) then some (aa ((s.data.toList.drop l.toNat).take (r - l).toNat)) else none
   | _,_,_=>none
  | _=>none
 | .slice none 0 0=>
  match P.underlying t with
  | some (.slice e)=>match mx,bK lo 0,bK hi 0,aq P e with
   | none,some 0,some 0,some _=>some (.slice none 0 0)
   | _,_,_,_=>none
  | _=>none
 | .slice (some ⟨k,i,none⟩) len cap=>
  match P.underlying t with
  | some (.slice e)=>match bK lo 0,bK hi len,aq P e,h.get k with
   | some l,some r,some sz,some (.cells _ _ sz' _)=>
    if sz'=sz\/sz'=0 then
     match mx with
     | none=>if 0<=l/\l<=r/\r<=(aN cap:Int) then some (.slice (some ⟨k,i+l.toNat*sz,none⟩) (r - l).toNat (cap - l.toNat)) else none
     | some (.int _ m)=>if 0<=l/\l<=r/\r<=m/\m<=(aN cap:Int)/\m < bm/\hi.isSome=true then some (.slice (some ⟨k,i+l.toNat*sz,none⟩) (r - l).toNat (m - l).toNat) else none
     | some _=>none
    else none
   | _,_,_,_=>none
  | _=>none
 | .pointer (some ⟨k,i,none⟩)=>
  match P.underlying t with
  | some (.array n e)=>match mx,bK lo 0,bK hi n,aq P e,h.get k with
   | none,some l,some r,some sz,some (.cells _ _ 0 _)=>
    if 0<=l/\l<=r/\r<=(n:Int)/\n < bm then some (.slice (some ⟨k,i+l.toNat*sz,none⟩) (r - l).toNat (n - l.toNat)) else none
   | _,_,_,_,_=>none
  | _=>none
 | _=>none
def A7:Value->Bool
 | .chan _=>false
 | _=>true
def bE (P:Program)(t:TypeId)(parts:List (Nat×Value)):Option Value:=
 match cp P t with
 | some _=>if parts.all fun p=>A7 p.2 then (P.built t parts).map .agg else none
 | none=>none
def cw (P:Program)(src dst:TypeId)(x:Value):Option Value:=
 match P.underlying src,P.underlying dst,x with
 | some _,some (.int k),.int _ n=>some (.int k (k.wrap n))
 | some _,some .string,.string s=>some (.string s)
 | some (.pointer _),some .unsafePointer,.pointer none=>some x
 | some .unsafePointer,some (.pointer _),.pointer none=>some x
 | _,_,_=>none
def ks (mx:Bool):List Value->Option Value
 | []=>none
 | x::rest=>rest.foldlM (fun x y=>match x,y with
  | .int k x,.int k' y=>if k=k' then some (.int k (if mx then (if y > x then y else x) else (if y < x then y else x))) else none
  | _,_=>none) x
def aD (P:Program)(ρ:Operand->Value)(o:Oper):Option Value:=
 match o.op with
 | .move x | .assign x=>some (ρ x)
 | .pick c a b=>match ρ c with | .bool t=>some (if t then ρ a else ρ b) | _=>none
 | .build t parts=>bE P t (parts.toList.map fun p=>(p.1,ρ p.2))
 | .nilCheck x=>match ρ x with
  | .pointer none | .nilIface | .nilFunc=>none
  | .func (.method _) _ _=>none
  | .chan _=>none
  | v=>some v
 | .binOp op t x y _=>am P op t (ρ x) (ρ y)
 | .unOp op _ x=>AP op (ρ x)
 | .convert s d x=>cw P s d (ρ x)
 | .makeInterface t x=>match P.underlying t with | some (.interface _) | none=>none | some _=>some (.iface t (ρ x))
 | .makeFunc fn first captured=>match fn with
  | .yield _=>none
  | fn=>some (.func fn (first.map ρ) (captured.map ρ))
 | .fieldAddr s x f=>match P.underlying s,ρ x with
  | some (.struct fields),.pointer (some a)=>match fields[f]? with
   | some fd=>if (aq P fd.type).any (· ≠0) then some (.pointer (some (a.add fd.offset))) else none
   | none=>none
  | _,_=>none
 | .field t x f=>match P.underlying t,ρ x with
  | some (.struct fields),.agg cs=>match fields[f]? with
   | some fd=>gM P fd.type cs fd.offset
   | none=>none
  | _,_=>none
 | .indexAddr t x i=>match P.underlying t,ρ x,ρ i with
  | some (.array len e),.pointer (some a),.int _ j=>match aq P e with
   | some n=>if 0<=j/\j < (len:Int) then some (.pointer (some (a.add (j.toNat*n)))) else none
   | none=>none
  | some (.slice e),.slice (some a) len _,.int _ j=>match aq P e with
   | some n=>if 0<=j/\j < (len:Int) then some (.pointer (some (a.add (j.toNat*n)))) else none
   | none=>none
  | _,_,_=>none
 | .index t x i=>match P.underlying t,ρ x,ρ i with
  | some (.array len e),.agg cs,.int _ j=>match aq P e with
   | some n=>if 0<=j/\j < (len:Int) then gM P e cs (j.toNat*n) else none
   | none=>none
  | some .string,.string s,.int _ j=>if 0<=j then match s.data.toList[j.toNat]? with | some b=>some (.int .u8 b.toNat) | none=>none else none
  | _,_,_=>none
 | .typeAssert x _ u ok=>match P.underlying u,ρ x with
  | some (.interface _),_ | none,_=>none
  | some _,.nilIface=>if ok then (cp P u).map fun z=> .tuple #[z,.bool false] else none
  | some _,.iface t v=>if t=u then some (if ok then .tuple #[v,.bool true] else v) else if ok then (cp P u).map fun z=> .tuple #[z,.bool false] else none
  | _,_=>none
 | .extract x i=>match ρ x with | .tuple vs=>vs[i]? | _=>none
 | .call { callee:= .builtin .max,args,.. }=>ks true (args.toList.map ρ)
 | .call { callee:= .builtin .min,args,.. }=>ks false (args.toList.map ρ)
 | .call { callee:= .builtin .cap,args,argTypes }=>match args[0]?,argTypes[0]? with
  | some x,some t=>match P.underlying t,ρ x with
   | some (.slice _),.slice _ _ c=>if c < bm then some (.int .i64 c) else none
   | _,_=>none
  | _,_=>none
 | _=>none
def bytesOf:List Value->Option (List UInt8)
 | []=>some []
 | .int .u8 n::r=>if 0<=n/\n < 256 then (bytesOf r).map (UInt8.ofNat n.toNat :: ·) else none
 | _=>none
def ah (P:Program)(t:TypeId)(h:Heap)(a:Value):Option Value:=
 match P.underlying t,a with
 | some _,.pointer (some ⟨k,i,none⟩)=>match h.get k with
  | some (.cells cs ..)=>
   if isAgg P t then
    match aq P t with
    | some n=>if ((cs.drop i).take n).length=n then some (.agg ((cs.drop i).take n).toArray) else none
    | none=>none
   else cs[i]?
  | _=>none
 | _,_=>none
def wx:Value->Bool
 | .bool _ | .int _ _ | .string _=>true
 | _=>false
def wj:Value->Bool
 | .agg cs=>cs.toList.all wx
 | v=>wx v
def G8:Value->Value->Bool
 | .bool a,.bool b=>a == b
 | .int k a,.int k' b=>decide (k=k') && decide (a=b)
 | .string a,.string b=>decide (a.data.toList=b.data.toList)
 | _,_=>false
def DH:List Value->List Value->Bool
 | [],[]=>true
 | a::x,b::y=>G8 a b && DH x y
 | _,_=>false
def Le:Value->Value->Bool
 | .agg a,.agg b=>DH a.toList b.toList
 | a,b=>G8 a b
def Rt (P:Program)(e:TypeId->Value->Value->Option Bool)(a b:Array Value):List Field->Option Bool
 | []=>some true
 | f::fs=>if f.name≠ "_" then (match gM P f.type a f.offset,gM P f.type b f.offset with
  | some p,some q=>(match e f.type p q with
   | some true=>Rt P e a b fs
   | some false=>some false
   | none=>none)
  | _,_=>none) else none
def eR (P:Program):Nat->TypeId->Value->Value->Option Bool
 | 0,_,_,_=>none
 | d+1,t,x,y=>match P.underlying t,x,y with
  | some (.struct fs),.agg a,.agg b=>if P.stoodInHeld t=false then Rt P (eR P d) a b fs.toList else none
  | _,x,y=>An P t x y
def KZ (P:Program)(c:TypeId->Value->Bool)(a:Array Value):List Field->Bool
 | []=>true
 | f::fs=>decide (f.name≠ "_") && (match gM P f.type a f.offset with | some p=>c f.type p | none=>false) && KZ P c a fs
def vL (P:Program):Nat->TypeId->Value->Bool
 | 0,_,_=>false
 | d+1,t,v=>match P.underlying t,v with
  | some (.struct fs),.agg a=>KZ P (vL P d) a fs.toList
  | some .bool,.bool _=>true
  | some (.int _),.int _ _=>true
  | some .string,.string _=>true
  | _,_=>false
def nM (P:Program)(kt:TypeId)(k:Value):Bool:=wj k && vL P 3 kt k
def wI (P:Program)(kt:TypeId)(a b:Value):Option Bool:=
 if wj b then match eR P 3 kt a b with
  | some true=>if Le a b then some true else none
  | r=>r
 else none
def Ag (P:Program)(kt:TypeId)(k:Value):List (Value×Value)->Option (Option Value)
 | []=>some none
 | (k',v)::es=>match wI P kt k k' with
  | some true=>some (some v)
  | some false=>Ag P kt k es
  | none=>none
def aH (P:Program)(ρ:Operand->Value)(o:Oper)(h:Heap):Option Value:=
 match o.op with
 | .load t a=>ah P t h (ρ a)
 | .slice t x lo hi mx=>aL P t (ρ x) (lo.map ρ) (hi.map ρ) (mx.map ρ) h
 | .convert s d x=>match P.underlying s,P.underlying d,ρ x with
  | some (.slice e),some .string,.slice a len _=>match P.underlying e,a with
   | some (.int .u8),none=>some (aa [])
   | some (.int .u8),some ⟨k,i,none⟩=>match h.get k with
    | some (.cells cs ..)=>
     if ((cs.drop i).take len).length=len then
      (bytesOf ((cs.drop i).take len)).map aa
     else none
    | _=>none
   | _,_=>none
  | _,_,_=>none
 | .lookup t m k ok=>match P.underlying t with
  | some (.map kt e)=>match (match ρ m with | .map none=>some [] | .map (some r)=>(match h.get r with | some (.map es)=>some es | _=>none) | _=>none),cp P e with
   | some es,some z=>
    if nM P kt (ρ k) then match Ag P kt (ρ k) es with
     | some (some v)=>some (if ok then .tuple #[v,.bool true] else v)
     | some none=>some (if ok then .tuple #[z,.bool false] else z)
     | none=>none
    else none
   | _,_=>none
  | _=>none
 | .call { callee:= .builtin .len,args,argTypes }=>match args[0]?,argTypes[0]? with
  | some x,some t=>match P.underlying t,ρ x with
   | some .string,.string s=>some (.int .i64 s.data.toList.length)
   | some (.array n _),_=>some (.int .i64 n)
   | some (.slice _),.slice _ n _=>some (.int .i64 n)
   | some (.map ..),.map none=>some (.int .i64 0)
   | some (.map ..),.map (some r)=>match h.get r with
    | some (.map es)=>some (.int .i64 es.length)
    | _=>none
   | _,_=>none
  | _,_=>none
 | _=>none
def bh (z:List Value):Nat->List Value
 | 0=>[]
 | n+1=>z++bh z n
def aG (P:Program)(ρ:Operand->Value)(o:Oper):Option (Blk×(Nat->Value)):=
 match o.op with
 | .alloc t=>match cp P t with
  | some z=>if z.cells.toList.all bL then some (.cells z.cells.toList t 0 true,fun k=> .pointer (some ⟨k,0,none⟩)) else none
  | none=>none
 | .box t x=>if (ρ x).cells.toList.all bL then some (.cells (ρ x).cells.toList t 0 true,fun k=> .pointer (some ⟨k,0,none⟩)) else none
 | .buildSlice t len parts=>match P.underlying t with
  | some (.slice e)=>match aq P e,cp P e with
   | some sz,some z=>
    if z.cells.size=sz/\0 < sz/\len*sz<=65536 then
     match (if parts.toList.all fun p=>A7 (ρ p.2) then Instr.fill (fun i=>some (i*sz,sz)) (bh z.cells.toList len).toArray (parts.toList.map fun p=>(p.1,ρ p.2)) else none) with
     | some cs=>if cs.toList.all bL then some (.cells cs.toList e sz true,fun k=> .slice (some ⟨k,0,none⟩) len len) else none
     | none=>none
    else none
   | _,_=>none
  | _=>none
 | .makeSlice t l c=>match P.underlying t,ρ l,ρ c with
  | some (.slice e),.int .i64 l,.int .i64 c=>match P.info? e,cp P e with
   | some i,some z=>
    if z.cells.size=i.size/\0 < i.size/\0<=l/\l<=c/\c*i.bytes<=140737488355328/\c<=1099511627776 then
     some (.cells (bh z.cells.toList c.toNat) e i.size true,fun k=> .slice (some ⟨k,0,none⟩) l.toNat c.toNat)
    else none
   | _,_=>none
  | _,_,_=>none
 | .makeMap t r=>match P.underlying t with
  | some (.map ..)=>match r with
   | none=>some (.map [],fun k=> .map (some k))
   | some x=>match ρ x with | .int _ _=>some (.map [],fun k=> .map (some k)) | _=>none
  | _=>none
 | .convert s d x=>match P.underlying s,P.underlying d,ρ x with
  | some _,some (.slice e),.string s=>match P.underlying e with
   | some (.int .u8)=>match aq P e with
    | some 1=>some (.cells (s.data.toList.map fun b=> .int .u8 b.toNat) e 1 true,fun k=> .slice (some ⟨k,0,none⟩) s.data.toList.length (bm+s.data.toList.length))
    | _=>none
   | _=>none
  | _,_,_=>none
 | _=>none
inductive Upd where
 | no
 | set (k:Nat) (b:Blk)
 | push (b:Blk)
 | move (k:Nat) (b:Blk)
 | all (h:Heap)
 deriving Inhabited
def Upd.app (u:Upd)(h:Heap):Heap:=
 match u with
 | .no=>h
 | .set k b=>h.set k b
 | .push b=>h.push b
 | .move k b=>(h.del k).push b
 | .all h'=>h'
def storeAt (h:Heap)(k i:Nat)(vs:List Value):Option Upd:=
 match h.get k with
 | some (.cells cs t sz true)=>if i+vs.length<=cs.length/\vs.all bL then some (.set k (.cells (cs.take i++vs++cs.drop (i+vs.length)) t sz true)) else none
 | _=>none
def dJ (h:Heap)(sz:Nat)(x:Value):Option (List Value×Nat):=
 match x with
 | .slice none 0 _=>some ([],0)
 | .slice (some ⟨k,i,none⟩) n _=>match h.get k with
  | some (.cells cs ..)=>if ((cs.drop i).take (n*sz)).length=n*sz then some ((cs.drop i).take (n*sz),n) else none
  | _=>none
 | .string s=>if sz=1 then some (s.data.toList.map fun b=> .int .u8 b.toNat,s.data.toList.length) else none
 | _=>none
def dz (P:Program)(e:TypeId):Option TypeInfo:=
 match P.info? e,cp P e with
 | some i,some z=>if z.cells.size=i.size/\0 < i.size then some i else none
 | _,_=>none
def ca (P:Program)(t:TypeId):Bool:=match P.underlying t with | some (.slice _) | some .string=>true | _=>false
def gz (h:Heap)(e:TypeId)(sz bytes:Nat)(k j n c m:Nat)(news:List Value):Option (Value×Upd):=
 if (n+m)*bytes<=70368744177664/\n+m<=1099511627776 then
  match h.get k with
  | some (.cells cs e' sz' wr)=>
   if e'=e/\sz'=sz/\((cs.drop j).take (n*sz)).length=n*sz then
    if c < bm then some (.slice (some ⟨h.next,0,none⟩) (n+m) (bm+(n+m)),.push (.cells ((cs.drop j).take (n*sz)++news) e sz true))
    else if wr=true/\cs.length=j+n*sz then some (.slice (some ⟨h.next,0,none⟩) (n+m) (bm+(n+m)),.move k (.cells ((cs.drop j).take (n*sz)++news) e sz true))
    else none
   else none
  | _=>none
 else none
def aB (P:Program)(t t':TypeId)(s x:Value)(h:Heap):Option (Value×Upd):=
 match P.underlying t with
 | some (.slice e)=>match dz P e with
  | some i=>
   if ca P t'=true then
    match dJ h i.size x with
    | some (news,m)=>
     if news.all bL/\news.length=m*i.size then
      match s with
      | .slice none 0 0=>if m=0 then some (s,.no) else
        if m*i.bytes<=70368744177664/\m<=1099511627776 then some (.slice (some ⟨h.next,0,none⟩) m (bm+m),.push (.cells news e i.size true)) else none
      | .slice (some ⟨k,j,none⟩) n c=>
       if m=0 then some (s,.no) else
       if n+m<=aN c then
        (storeAt h k (j+n*i.size) news).map fun u=>(.slice (some ⟨k,j,none⟩) (n+m) c,u)
       else gz h e i.size i.bytes k j n c m news
      | _=>none
     else none
    | none=>none
   else none
  | none=>none
 | _=>none
def PK (P:Program)(t:TypeId)(d s:Value)(h:Heap):Option (Value×Upd):=
 match P.underlying t with
 | some (.slice e)=>match aq P e,d with
  | some sz,.slice a n _=>
   match dJ h sz s with
   | some (cs,m)=>
    if n=0\/m=0 then some (.int .i64 0,.no) else
    match a with
    | some ⟨k,j,none⟩=>(storeAt h k j (cs.take (min m n*sz))).map fun u=>(.int .i64 (min m n:Nat),u)
    | _=>none
   | none=>none
  | _,_=>none
 | _=>none
def J9 (P:Program)(t:TypeId)(x:Value)(h:Heap):Option (Value×Upd):=
 match P.underlying t,x with
 | some (.slice e),.slice (some ⟨k,j,none⟩) n _=>match cp P e with
  | some z=>if n=0 then some (undef,.no) else (storeAt h k j (bh z.cells.toList n)).map fun u=>(undef,u)
  | none=>none
 | _,_=>none
abbrev aX:=FuncId->List Value->Heap->Option (Value×Heap)
def rV (cf:aX)(f:Value)(args:List Value)(h:Heap):Option (Value×Upd):=
 match f with
 | .func (.func g) first captured=>if g < YB then (cf g (first.toList++args++captured.toList) h).map fun r=>(r.1,.all r.2) else none
 | .func (.yield k) first captured=>if first.size=0/\captured.size=0 then (cf (YB+k) args h).map fun r=>(r.1,.all r.2) else none
 | _=>none
def iR (P:Program)(kt:TypeId)(k v:Value):List (Value×Value)->Option (List (Value×Value))
 | []=>some [(k,v)]
 | (k',v')::r=>match wI P kt k k' with
  | some true=>some ((k,v)::r)
  | some false=>(iR P kt k v r).map ((k',v') :: ·)
  | none=>none
def bA (P:Program)(cf:aX)(ρ:Operand->Value)(o:Oper)(h:Heap):Option (Value×Upd):=
 match o.op with
 | .store t a x=>match ρ a with
  | .pointer (some ⟨k,i,none⟩)=>if aq P t=some (ρ x).cells.size then (storeAt h k i (ρ x).cells.toList).map fun u=>(undef,u) else none
  | _=>none
 | .mapUpdate t m k x | .insert t m k x=>match P.underlying t,ρ m with
  | some (.map kt _),.map (some r)=>match h.get r with
   | some (.map es)=>if nM P kt (ρ k) then (iR P kt (ρ k) (ρ x) es).map fun es'=>(undef,.set r (.map es')) else none
   | _=>none
  | _,_=>none
 | .call { callee:= .value f,args,.. }=>rV cf (ρ f) (args.toList.map ρ) h
 | .call { callee:= .builtin .append,args,argTypes }=>match args.toList,argTypes.toList with
  | [s,x],[t,t']=>aB P t t' (ρ s) (ρ x) h
  | _,_=>none
 | .call { callee:= .builtin .copy,args,argTypes }=>match args.toList,argTypes.toList with
  | [d,s],t::_=>PK P t (ρ d) (ρ s) h
  | _,_=>none
 | .call { callee:= .builtin .clear,args,argTypes }=>match args.toList.map ρ,argTypes.toList with
  | [x],[t]=>J9 P t x h
  | _,_=>none
 | .call { callee:= .builtin .unsafeSliceData,args,.. }=>match args.toList.map ρ with
  | [.slice none _ _]=>some (.pointer none,.no)
  | [.slice (some a) _ c]=>if 0 < aN c then some (.pointer (some a),.no) else none
  | _=>none
 | .call { callee:= .builtin .unsafeString,args,argTypes,.. }=>match args.toList.map ρ,argTypes[0]? with
  | [.pointer none,.int _ 0],some _=>some (aa [],.no)
  | [.pointer (some ⟨k,i,none⟩),.int _ n],some pt=>match h.get k,P.underlying pt with
   | some (.cells cs e 1 true),some (.pointer e')=>
    if e=e'/\aq P e=some 1/\0 < n/\n < 9223372036854775807/\((cs.drop i).take n.toNat).length=n.toNat then
     match bytesOf ((cs.drop i).take n.toNat) with
     | some l=>some (aa l,.set k (.cells cs e 1 false))
     | none=>none
    else none
   | _,_=>none
  | _,_=>none
 | .convert s d x=>match P.underlying s,P.underlying d,ρ x with
  | some (.pointer t),some .unsafePointer,.pointer (some ⟨k,0,none⟩)=>match h.get k with
   | some (.cells cs t' 0 _)=>if t=t'/\aq P t=some cs.length/\0 < cs.length then some (ρ x,.no) else none
   | _=>none
  | some .unsafePointer,some (.pointer t),.pointer (some ⟨k,0,none⟩)=>match h.get k with
   | some (.cells cs t' 0 _)=>if t=t'/\aq P t=some cs.length/\0 < cs.length then some (ρ x,.no) else none
   | _=>none
  | _,_,_=>none
 | _=>none
def aK (P:Program)(cf:aX)(ρ:Operand->Value)(o:Oper)(h:Heap):Option (Value×Upd):=
 match aD P ρ o with
 | some v=>some (v,.no)
 | none=>match aH P ρ o h with
  | some v=>some (v,.no)
  | none=>match aG P ρ o with
   | some (b,f)=>some (f h.next,.push b)
   | none=>bA P cf ρ o h
def dh (tm:List Value)(dst:Option Tmp)(v:Value):List Value:=
 match dst with
 | some d=>tm.set d v
 | none=>tm
def cm (ops:Array Oper)(tm:List Value)(o:Oper):Option Bool:=
 match o.guard with
 | none=>some true
 | some (j,want)=>match (ops[j]?).bind (·.dst) with
  | some d=>match tm.getD d undef with
   | .bool b=>some (b == want)
   | .tuple _=>some false
   | _=>none
  | none=>none
def dc (P:Program)(gl:Nat->Bool)(cf:aX)(ops:Array Oper):List Oper->List Value->Heap->Option (List Value×Heap)
 | [],tm,h=>some (tm,h)
 | o::rest,tm,h=>
  match cm ops tm o with
  | some true=>match aK P cf (ev gl tm) o h with
   | some (v,u)=>dc P gl cf ops rest (dh tm o.dst v) (u.app h)
   | none=>none
  | some false=>dc P gl cf ops rest (dh tm o.dst undef) h
  | none=>none
def ID (e:Value->Value->Bool):List Value->List Value->Bool
 | [],[]=>true
 | a::x,b::y=>e a b && ID e x y
 | _,_=>false
def cM:Nat->Value->Value->Bool
 | 0,_,_=>false
 | d+1,v,v'=>match v,v' with
  | .bool a,.bool b=>a == b
  | .int k a,.int k' b=>decide (k=k') && decide (a=b)
  | .string a,.string b=>decide (a.data.toList=b.data.toList)
  | .pointer none,.pointer none=>true
  | .pointer (some ⟨a,i,none⟩),.pointer (some ⟨b,j,none⟩)=>decide (a=b) && decide (i=j)
  | .slice none n c,.slice none n' c'=>decide (n=n') && decide (c=c')
  | .slice (some ⟨a,i,none⟩) n c,.slice (some ⟨b,j,none⟩) n' c'=>decide (a=b) && decide (i=j) && decide (n=n') && decide (c=c')
  | .map none,.map none=>true
  | .map (some a),.map (some b)=>decide (a=b)
  | .nilFunc,.nilFunc=>true
  | .nilIface,.nilIface=>true
  | .func (.func f) a c,.func (.func f') a' c'=>decide (f=f') && ID (cM d) a.toList a'.toList && ID (cM d) c.toList c'.toList
  | .iface t v,.iface t' v'=>decide (t=t') && cM d v v'
  | .agg a,.agg b=>ID (cM d) a.toList b.toList
  | .tuple a,.tuple b=>ID (cM d) a.toList b.toList
  | _,_=>false
inductive Ent where
 | skip
 | pure (v:Value)
 | read (v:Value)
 | alloc (B:Blk) (v:Value)
 | eff (v:Value) (h:Heap)
 deriving Inhabited
def Ent.val:Ent->Value
 | .skip=>undef
 | .pure v | .read v | .alloc _ v | .eff v _=>v
def aC (h:Heap)(base:Nat):List (Nat×Blk)->Heap
 | []=>h
 | (i,B)::r=>(aC h base r).set (base+i) B
def bC (P:Program)(gl:Nat->Bool)(cf:aX)(ops:Array Oper)(bf:Nat->Nat->Bool)(base:Nat):List Oper->Nat->List Value->Heap->List (Nat×Blk)->Option (List (List Value×Ent)×List Value×Heap×List (Nat×Blk))
 | [],_,tm,h,pd=>some ([],tm,h,pd)
 | o::rest,j,tm,h,pd=>
  match cm ops tm o with
  | none=>none
  | some false=>(bC P gl cf ops bf base rest (j+1) (dh tm o.dst undef) h pd).map fun r=>((tm,.skip)::r.1,r.2)
  | some true=>
   match aD P (ev gl tm) o with
   | some v=>(bC P gl cf ops bf base rest (j+1) (dh tm o.dst v) h pd).map fun r=>((tm,.pure v)::r.1,r.2)
   | none=>
    match aH P (ev gl tm) o h with
    | some v=>(bC P gl cf ops bf base rest (j+1) (dh tm o.dst v) h pd).map fun r=>((tm,.read v)::r.1,r.2)
    | none=>
     match aG P (ev gl tm) o with
     | some (B,f)=>(bC P gl cf ops bf base rest (j+1) (dh tm o.dst (f (base+j))) h ((j,B)::pd)).map fun r=>((tm,.alloc B (f (base+j)))::r.1,r.2)
     | none=>
      match bA P cf (ev gl tm) o (aC h base (pd.filter fun p=>bf j p.1)) with
      | some (v,u)=>
       (bC P gl cf ops bf base rest (j+1) (dh tm o.dst v) (u.app (aC h base (pd.filter fun p=>bf j p.1))) (pd.filter fun p=> !bf j p.1)).map fun r=>
        ((tm,.eff v (u.app (aC h base (pd.filter fun p=>bf j p.1))))::r.1,r.2)
      | none=>none
def bN {τ:Type}:List (τ×Ent)->Nat->List (Nat×Heap)
 | [],_=>[]
 | (_,.eff _ h)::r,j=>(j,h)::bN r (j+1)
 | _::r,j=>bN r (j+1)
def bS (bf:Nat->Nat->Bool):List (Nat×Heap)->Bool
 | (i,_)::(j,h)::r=>bf j i && bS bf ((j,h)::r)
 | _=>true
def dO (P:Program)(gl:Nat->Bool)(o:Oper)(tm:List Value)(v:Value)(h:Heap):Bool:=
 match aH P (ev gl tm) o h with
 | some v'=>cM 4 v v'
 | none=>false
def fu (P:Program)(gl:Nat->Bool)(bf:Nat->Nat->Bool)(j:Nat)(o:Oper)(tm:List Value)(v:Value):Heap->List (Nat×Heap)->Bool->Bool
 | h,[],own=>own || dO P gl o tm v h
 | h,(e,h')::r,own=>((own && Nat.blt j e) || bf j e || dO P gl o tm v h) && (bf e j || fu P gl bf j o tm v h' r (Nat.blt e j))
def di (P:Program)(gl:Nat->Bool)(bf:Nat->Nat->Bool)(h:Heap)(es:List (Nat×Heap)):List Oper->List (List Value×Ent)->Nat->Bool
 | o::os,(tm,.read v)::r,j=>fu P gl bf j o tm v h es true && di P gl bf h es os r (j+1)
 | _::os,_::r,j=>di P gl bf h es os r (j+1)
 | _,_,_=>true
def pX (P:Program)(gl:Nat->Bool)(cf:aX)(ops:Array Oper)(bf:Nat->Nat->Bool)(tm:List Value)(h:Heap):Option (List Value×Heap):=
 match bC P gl cf ops bf h.next ops.toList 0 tm { h with next:=h.next+ops.size } [] with
 | some (recs,tm',h',pd)=>
  if bS bf (bN recs 0) && di P gl bf { h with next:=h.next+ops.size } (bN recs 0) ops.toList recs 0 then some (tm',aC h' h.next pd) else none
 | none=>none
def K0 (o:Oper):Bool:=match o.op with | .insert .. =>true | _=>false
def WB (o:Oper):Bool:=match o.op with | .store .. =>true | _=>false
def pO (ops:Array Oper):Bool:=
 ops.toList.any K0 && (List.range ops.size).any fun j=>(match ops[j]? with | some o=>WB o | none=>false) && (List.range j).any fun i=>(match ops[i]? with | some o=>K0 o | none=>false) && !ba (ck ops) j i
def dj:FuncId->List Value->Heap->Option (Value×Heap):=fun _ _ _=>none
def Xq (P:Program)(ρ:Operand->Value)(o:Oper)(k:Nat)(h:Heap):Option (Value×Option (Nat×Blk)):=
 match aD P ρ o with
 | some v=>some (v,none)
 | none=>match aH P ρ o h with
  | some v=>some (v,none)
  | none=>match aG P ρ o with
   | some (b,f)=>some (f k,some (k,b))
   | none=>match bA P dj ρ o h with
    | some (v,.no)=>some (v,none)
    | some (v,.set i b)=>some (v,some (i,b))
    | _=>none
abbrev IC:=List Value×Heap×List Nat
def Ij (s:IC)(dst:Option Tmp)(v:Value):Option (Nat×Blk)->IC
 | none=>(dh s.1 dst v,s.2.1,s.2.2)
 | some (k,b)=>(dh s.1 dst v,s.2.1.set k b,k::s.2.2)
def HZ (P:Program)(gl:Nat->Bool)(ops:Array Oper)(base j:Nat)(s:IC):Option IC:=
 match ops[j]? with
 | some o=>match cm ops s.1 o with
  | some true=>match Xq P (ev gl s.1) o (base+j) s.2.1 with
   | some (v,u)=>some (Ij s o.dst v u)
   | none=>none
  | some false=>some (Ij s o.dst undef none)
  | none=>none
 | none=>none
def Gq (P:Program)(gl:Nat->Bool)(ops:Array Oper)(base:Nat):Nat->Nat->IC->Option IC
 | 0,_,s=>some s
 | n+1,j,s=>match HZ P gl ops base j s with
  | some s'=>Gq P gl ops base n (j+1) s'
  | none=>none
def vK:List (Value×Value)->List (Value×Value)->Bool
 | [],[]=>true
 | (a,b)::x,(c,d)::y=>cM 4 a c && cM 4 b d && vK x y
 | _,_=>false
def Qo:Blk->Blk->Bool
 | .cells cs t sz wr,.cells cs' t' sz' wr'=>ID (cM 4) cs cs' && Nat.beq t t' && Nat.beq sz sz' && (wr == wr')
 | .map es,.map es'=>vK es es'
 | _,_=>false
def R4 (h h':Heap)(k:Nat):Bool:=match h.get k,h'.get k with
 | some B,some C=>Qo B C
 | none,none=>true
 | _,_=>false
def QB (s s':IC):Bool:=ID (cM 4) s.1 s'.1 && s.2.2.all (R4 s.2.1 s'.2.1) && s'.2.2.all (R4 s.2.1 s'.2.1)
def OP (P:Program)(gl:Nat->Bool)(ops:Array Oper)(bf:Nat->Nat->Bool)(base:Nat)(fin:IC):Nat->List Nat->IC->Bool
 | 0,_,s=>QB fin s
 | n+1,done,s=>(List.range ops.size).all fun j=>done.contains j || ((List.range j).any fun i=>bf j i && !done.contains i) || (match HZ P gl ops base j s with | some s'=>OP P gl ops bf base fin n (j::done) s' | none=>false)
def Gf (P:Program)(gl:Nat->Bool)(ops:Array Oper)(bf:Nat->Nat->Bool)(tm:List Value)(h:Heap):Option (List Value×Heap):=
 match Gq P gl ops h.next ops.size 0 (tm,{ h with next:=h.next+ops.size },[]) with
 | some fin=>if OP P gl ops bf h.next fin ops.size [] (tm,{ h with next:=h.next+ops.size },[]) then some (fin.1,fin.2.1) else none
 | none=>none
def AS (P:Program)(gl:Nat->Bool)(cf:aX)(ops:Array Oper)(tm:List Value)(h:Heap):Option (List Value×Heap):=
 if pO ops then Gf P gl ops (ba (ck ops)) tm h else pX P gl cf ops (ba (ck ops)) tm h
def yj (body:List Value->Heap->Option (Exit×List Value×Heap)):Nat->List Value->Heap->Option (Exit×List Value×Heap)
 | 0,_,_=>none
 | n+1,tm,h=>match body tm h with
  | some (.normal,tm',h')=>yj body n tm' h'
  | r=>r
def pc (P:Program)(g:FuncId):Bool:=match P.funcs[g]? with | some fn=>fn.body.isSome | none=>false
def Lg:Option Blk->Option Exit
 | some (.loop .ready ..)=>some .normal
 | some (.loop .ret ..)=>some .ret
 | some (.loop (.exit id) ..)=>some (.exit id)
 | _=>none
def az (P:Program)(gl:Nat->Bool)(cf:aX)(N:Nat):Code->List Value->Heap->Option (Exit×List Value×Heap)
 | .skip,tm,h=>some (.normal,tm,h)
 | .region _ ops false,tm,h=>(dc P gl cf ops ops.toList tm h).map fun r=>(.normal,r.1,r.2)
 | .region _ ops true,tm,h=>(AS P gl cf ops tm h).map fun r=>(.normal,r.1,r.2)
 | .seq a b,tm,h=>match az P gl cf N a tm h with
  | some (.normal,tm',h')=>az P gl cf N b tm' h'
  | r=>r
 | .cond c a b,tm,h=>match ev gl tm c with
  | .bool t=>if t then az P gl cf N a tm h else az P gl cf N b tm h
  | _=>none
 | .block id c,tm,h=>match az P gl cf N c tm h with
  | some (.exit id',tm',h')=>if id'=id then some (.normal,tm',h') else some (.exit id',tm',h')
  | r=>r
 | .loop c,tm,h=>yj (az P gl cf N c) N tm h
 | .exit id,tm,h=>some (.exit id,tm,h)
 | .ret,tm,h=>some (.ret,tm,h)
 | .label _,tm,h=>some (.normal,tm,h)
 | .rangeFunc f ps asg body,tm,h=>match ev gl tm f with
  | .func (.func g) first captured=>
   if hc:gJ asg body=true then
    if g < YB/\pc P g=true then
     match cf g (first.toList++[.func (.yield h.next) #[] #[]]++captured.toList) (h.push (.loop .ready tm ps.toList asg body hc)) with
     | some (_,h2)=>(Lg (h2.get h.next)).map fun e=>(e,tm,h2.del h.next)
     | none=>none
    else none
   else none
  | _=>none
 | _,_,_=>none
def oM (tm:List Value)(pa:List (Tmp×Value)):List Value:=pa.foldl (fun tm p=>tm.set p.1 p.2) tm
def HE:Exit->Option (Bool×LSt)
 | .normal=>some (true,.ready)
 | .ret=>some (false,.ret)
 | .exit id=>some (false,.exit id)
 | _=>none
def mA (run:Code->List Value->Heap->Option (Exit×List Value×Heap))(k:Nat)(args:List Value)(h:Heap):Option (Value×Heap):=
 match h.get k with
 | some (.loop .ready tm ps asg body _)=>
  if args.length=ps.length then
   match run asg (oM tm (ps.zip args)) h with
   | some (.normal,tm1,h1)=>match h1.get k with
    | some (.loop .ready tm' ps' asg' body' ok')=>match run body tm1 (h1.set k (.loop .busy tm' ps' asg' body' ok')) with
     | some (e,_,h2)=>match h2.get k,HE e with
      | some (.loop _ tm2 ps2 asg2 body2 ok2),some (b,st)=>some (.bool b,h2.set k (.loop st tm2 ps2 asg2 body2 ok2))
      | _,_=>none
     | none=>none
    | _=>none
   | _=>none
  else none
 | _=>none
def be (P:Program)(tm:List Value)(h:Heap):List ResultVar->Option (List Value)
 | []=>some []
 | .tmp t::r=>(be P tm h r).map (tm.getD t undef :: ·)
 | .cell a t::r=>match ah P t h (tm.getD a undef) with
  | some v=>(be P tm h r).map (v :: ·)
  | none=>none
def aI:List Value->Value
 | [v]=>v
 | vs=> .tuple vs.toArray
abbrev my:=aX->List Value->Heap->Option (Value×Heap)
def aM (P:Program)(gl:Nat->Bool)(pr:FuncId->Option my):Nat->aX
 | 0,_,_,_=>none
 | n+1,f,args,h=>if YB<=f then mA (az P gl (aM P gl pr n) n) (f - YB) args h else match pr f with
  | some p=>p (aM P gl pr n) args h
  | none=>match P.funcs[f]? with
   | some fn=>match fn.body with
    | some c=>match az P gl (aM P gl pr n) n c (args++List.replicate (fn.ntmps - args.length) undef) h with
     | some (.normal,tm,h')=>(be P tm h' fn.results.toList).map fun vs=>(aI vs,h')
     | some (.ret,tm,h')=>(be P tm h' fn.results.toList).map fun vs=>(aI vs,h')
     | _=>none
    | none=>none
   | none=>none
end
end Go.Ab
end
section
namespace Go.Ab
noncomputable section
structure Row where
 c0:Value
 c1:Value
 c2:Value
 c3:Value
 c4:Value
 c5:Value
 c6:Value
 c7:Value
 c8:Value
 c9:Value
 c10:Value
 c11:Value
 c12:Value
 c13:Value
 c14:Value
 c15:Value
structure Env where
 c0:Row
 c1:Row
 c2:Row
 c3:Row
 c4:Row
 c5:Row
 c6:Row
 c7:Row
 c8:Row
 c9:Row
 c10:Row
 c11:Row
 c12:Row
 c13:Row
 c14:Row
 c15:Row
inductive D16 where
 | d0 | d1 | d2 | d3 | d4 | d5 | d6 | d7 | d8 | d9 | d10 | d11 | d12 | d13 | d14 | d15 | x
 deriving DecidableEq
def row0:Row:=Row.mk undef undef undef undef undef undef undef undef undef undef undef undef undef undef undef undef
def wk:Env:=Env.mk row0 row0 row0 row0 row0 row0 row0 row0 row0 row0 row0 row0 row0 row0 row0 row0
def Row.g0 (t:Row):Value:=Row.rec (motive:=fun _=>Value) (fun c0 _ _ _ _ _ _ _ _ _ _ _ _ _ _ _=>c0) t
def Row.g1 (t:Row):Value:=Row.rec (motive:=fun _=>Value) (fun _ c1 _ _ _ _ _ _ _ _ _ _ _ _ _ _=>c1) t
def Row.g2 (t:Row):Value:=Row.rec (motive:=fun _=>Value) (fun _ _ c2 _ _ _ _ _ _ _ _ _ _ _ _ _=>c2) t
def Row.g3 (t:Row):Value:=Row.rec (motive:=fun _=>Value) (fun _ _ _ c3 _ _ _ _ _ _ _ _ _ _ _ _=>c3) t
def Row.g4 (t:Row):Value:=Row.rec (motive:=fun _=>Value) (fun _ _ _ _ c4 _ _ _ _ _ _ _ _ _ _ _=>c4) t
def Row.g5 (t:Row):Value:=Row.rec (motive:=fun _=>Value) (fun _ _ _ _ _ c5 _ _ _ _ _ _ _ _ _ _=>c5) t
def Row.g6 (t:Row):Value:=Row.rec (motive:=fun _=>Value) (fun _ _ _ _ _ _ c6 _ _ _ _ _ _ _ _ _=>c6) t
def Row.g7 (t:Row):Value:=Row.rec (motive:=fun _=>Value) (fun _ _ _ _ _ _ _ c7 _ _ _ _ _ _ _ _=>c7) t
def Row.g8 (t:Row):Value:=Row.rec (motive:=fun _=>Value) (fun _ _ _ _ _ _ _ _ c8 _ _ _ _ _ _ _=>c8) t
def Row.g9 (t:Row):Value:=Row.rec (motive:=fun _=>Value) (fun _ _ _ _ _ _ _ _ _ c9 _ _ _ _ _ _=>c9) t
def Row.g10 (t:Row):Value:=Row.rec (motive:=fun _=>Value) (fun _ _ _ _ _ _ _ _ _ _ c10 _ _ _ _ _=>c10) t
def Row.g11 (t:Row):Value:=Row.rec (motive:=fun _=>Value) (fun _ _ _ _ _ _ _ _ _ _ _ c11 _ _ _ _=>c11) t
def Row.g12 (t:Row):Value:=Row.rec (motive:=fun _=>Value) (fun _ _ _ _ _ _ _ _ _ _ _ _ c12 _ _ _=>c12) t
def Row.g13 (t:Row):Value:=Row.rec (motive:=fun _=>Value) (fun _ _ _ _ _ _ _ _ _ _ _ _ _ c13 _ _=>c13) t
def Row.g14 (t:Row):Value:=Row.rec (motive:=fun _=>Value) (fun _ _ _ _ _ _ _ _ _ _ _ _ _ _ c14 _=>c14) t
def Row.g15 (t:Row):Value:=Row.rec (motive:=fun _=>Value) (fun _ _ _ _ _ _ _ _ _ _ _ _ _ _ _ c15=>c15) t
def Row.s0 (t:Row)(x:Value)(K:Row->Bool):Bool:=Row.rec (motive:=fun _=>Bool) (fun _ c1 c2 c3 c4 c5 c6 c7 c8 c9 c10 c11 c12 c13 c14 c15=>K (Row.mk x c1 c2 c3 c4 c5 c6 c7 c8 c9 c10 c11 c12 c13 c14 c15)) t
def Row.s1 (t:Row)(x:Value)(K:Row->Bool):Bool:=Row.rec (motive:=fun _=>Bool) (fun c0 _ c2 c3 c4 c5 c6 c7 c8 c9 c10 c11 c12 c13 c14 c15=>K (Row.mk c0 x c2 c3 c4 c5 c6 c7 c8 c9 c10 c11 c12 c13 c14 c15)) t
def Row.s2 (t:Row)(x:Value)(K:Row->Bool):Bool:=Row.rec (motive:=fun _=>Bool) (fun c0 c1 _ c3 c4 c5 c6 c7 c8 c9 c10 c11 c12 c13 c14 c15=>K (Row.mk c0 c1 x c3 c4 c5 c6 c7 c8 c9 c10 c11 c12 c13 c14 c15)) t
def Row.s3 (t:Row)(x:Value)(K:Row->Bool):Bool:=Row.rec (motive:=fun _=>Bool) (fun c0 c1 c2 _ c4 c5 c6 c7 c8 c9 c10 c11 c12 c13 c14 c15=>K (Row.mk c0 c1 c2 x c4 c5 c6 c7 c8 c9 c10 c11 c12 c13 c14 c15)) t
def Row.s4 (t:Row)(x:Value)(K:Row->Bool):Bool:=Row.rec (motive:=fun _=>Bool) (fun c0 c1 c2 c3 _ c5 c6 c7 c8 c9 c10 c11 c12 c13 c14 c15=>K (Row.mk c0 c1 c2 c3 x c5 c6 c7 c8 c9 c10 c11 c12 c13 c14 c15)) t
def Row.s5 (t:Row)(x:Value)(K:Row->Bool):Bool:=Row.rec (motive:=fun _=>Bool) (fun c0 c1 c2 c3 c4 _ c6 c7 c8 c9 c10 c11 c12 c13 c14 c15=>K (Row.mk c0 c1 c2 c3 c4 x c6 c7 c8 c9 c10 c11 c12 c13 c14 c15)) t
def Row.s6 (t:Row)(x:Value)(K:Row->Bool):Bool:=Row.rec (motive:=fun _=>Bool) (fun c0 c1 c2 c3 c4 c5 _ c7 c8 c9 c10 c11 c12 c13 c14 c15=>K (Row.mk c0 c1 c2 c3 c4 c5 x c7 c8 c9 c10 c11 c12 c13 c14 c15)) t
def Row.s7 (t:Row)(x:Value)(K:Row->Bool):Bool:=Row.rec (motive:=fun _=>Bool) (fun c0 c1 c2 c3 c4 c5 c6 _ c8 c9 c10 c11 c12 c13 c14 c15=>K (Row.mk c0 c1 c2 c3 c4 c5 c6 x c8 c9 c10 c11 c12 c13 c14 c15)) t
def Row.s8 (t:Row)(x:Value)(K:Row->Bool):Bool:=Row.rec (motive:=fun _=>Bool) (fun c0 c1 c2 c3 c4 c5 c6 c7 _ c9 c10 c11 c12 c13 c14 c15=>K (Row.mk c0 c1 c2 c3 c4 c5 c6 c7 x c9 c10 c11 c12 c13 c14 c15)) t
def Row.s9 (t:Row)(x:Value)(K:Row->Bool):Bool:=Row.rec (motive:=fun _=>Bool) (fun c0 c1 c2 c3 c4 c5 c6 c7 c8 _ c10 c11 c12 c13 c14 c15=>K (Row.mk c0 c1 c2 c3 c4 c5 c6 c7 c8 x c10 c11 c12 c13 c14 c15)) t
def Row.s10 (t:Row)(x:Value)(K:Row->Bool):Bool:=Row.rec (motive:=fun _=>Bool) (fun c0 c1 c2 c3 c4 c5 c6 c7 c8 c9 _ c11 c12 c13 c14 c15=>K (Row.mk c0 c1 c2 c3 c4 c5 c6 c7 c8 c9 x c11 c12 c13 c14 c15)) t
def Row.s11 (t:Row)(x:Value)(K:Row->Bool):Bool:=Row.rec (motive:=fun _=>Bool) (fun c0 c1 c2 c3 c4 c5 c6 c7 c8 c9 c10 _ c12 c13 c14 c15=>K (Row.mk c0 c1 c2 c3 c4 c5 c6 c7 c8 c9 c10 x c12 c13 c14 c15)) t
def Row.s12 (t:Row)(x:Value)(K:Row->Bool):Bool:=Row.rec (motive:=fun _=>Bool) (fun c0 c1 c2 c3 c4 c5 c6 c7 c8 c9 c10 c11 _ c13 c14 c15=>K (Row.mk c0 c1 c2 c3 c4 c5 c6 c7 c8 c9 c10 c11 x c13 c14 c15)) t
def Row.s13 (t:Row)(x:Value)(K:Row->Bool):Bool:=Row.rec (motive:=fun _=>Bool) (fun c0 c1 c2 c3 c4 c5 c6 c7 c8 c9 c10 c11 c12 _ c14 c15=>K (Row.mk c0 c1 c2 c3 c4 c5 c6 c7 c8 c9 c10 c11 c12 x c14 c15)) t
def Row.s14 (t:Row)(x:Value)(K:Row->Bool):Bool:=Row.rec (motive:=fun _=>Bool) (fun c0 c1 c2 c3 c4 c5 c6 c7 c8 c9 c10 c11 c12 c13 _ c15=>K (Row.mk c0 c1 c2 c3 c4 c5 c6 c7 c8 c9 c10 c11 c12 c13 x c15)) t
def Row.s15 (t:Row)(x:Value)(K:Row->Bool):Bool:=Row.rec (motive:=fun _=>Bool) (fun c0 c1 c2 c3 c4 c5 c6 c7 c8 c9 c10 c11 c12 c13 c14 _=>K (Row.mk c0 c1 c2 c3 c4 c5 c6 c7 c8 c9 c10 c11 c12 c13 c14 x)) t
def Row.u0 (t:Row)(x:Value):Row:=Row.rec (motive:=fun _=>Row) (fun _ c1 c2 c3 c4 c5 c6 c7 c8 c9 c10 c11 c12 c13 c14 c15=>Row.mk x c1 c2 c3 c4 c5 c6 c7 c8 c9 c10 c11 c12 c13 c14 c15) t
def Row.u1 (t:Row)(x:Value):Row:=Row.rec (motive:=fun _=>Row) (fun c0 _ c2 c3 c4 c5 c6 c7 c8 c9 c10 c11 c12 c13 c14 c15=>Row.mk c0 x c2 c3 c4 c5 c6 c7 c8 c9 c10 c11 c12 c13 c14 c15) t
def Row.u2 (t:Row)(x:Value):Row:=Row.rec (motive:=fun _=>Row) (fun c0 c1 _ c3 c4 c5 c6 c7 c8 c9 c10 c11 c12 c13 c14 c15=>Row.mk c0 c1 x c3 c4 c5 c6 c7 c8 c9 c10 c11 c12 c13 c14 c15) t
def Row.u3 (t:Row)(x:Value):Row:=Row.rec (motive:=fun _=>Row) (fun c0 c1 c2 _ c4 c5 c6 c7 c8 c9 c10 c11 c12 c13 c14 c15=>Row.mk c0 c1 c2 x c4 c5 c6 c7 c8 c9 c10 c11 c12 c13 c14 c15) t
def Row.u4 (t:Row)(x:Value):Row:=Row.rec (motive:=fun _=>Row) (fun c0 c1 c2 c3 _ c5 c6 c7 c8 c9 c10 c11 c12 c13 c14 c15=>Row.mk c0 c1 c2 c3 x c5 c6 c7 c8 c9 c10 c11 c12 c13 c14 c15) t
def Row.u5 (t:Row)(x:Value):Row:=Row.rec (motive:=fun _=>Row) (fun c0 c1 c2 c3 c4 _ c6 c7 c8 c9 c10 c11 c12 c13 c14 c15=>Row.mk c0 c1 c2 c3 c4 x c6 c7 c8 c9 c10 c11 c12 c13 c14 c15) t
def Row.u6 (t:Row)(x:Value):Row:=Row.rec (motive:=fun _=>Row) (fun c0 c1 c2 c3 c4 c5 _ c7 c8 c9 c10 c11 c12 c13 c14 c15=>Row.mk c0 c1 c2 c3 c4 c5 x c7 c8 c9 c10 c11 c12 c13 c14 c15) t
def Row.u7 (t:Row)(x:Value):Row:=Row.rec (motive:=fun _=>Row) (fun c0 c1 c2 c3 c4 c5 c6 _ c8 c9 c10 c11 c12 c13 c14 c15=>Row.mk c0 c1 c2 c3 c4 c5 c6 x c8 c9 c10 c11 c12 c13 c14 c15) t
def Row.u8 (t:Row)(x:Value):Row:=Row.rec (motive:=fun _=>Row) (fun c0 c1 c2 c3 c4 c5 c6 c7 _ c9 c10 c11 c12 c13 c14 c15=>Row.mk c0 c1 c2 c3 c4 c5 c6 c7 x c9 c10 c11 c12 c13 c14 c15) t
def Row.u9 (t:Row)(x:Value):Row:=Row.rec (motive:=fun _=>Row) (fun c0 c1 c2 c3 c4 c5 c6 c7 c8 _ c10 c11 c12 c13 c14 c15=>Row.mk c0 c1 c2 c3 c4 c5 c6 c7 c8 x c10 c11 c12 c13 c14 c15) t
def Row.u10 (t:Row)(x:Value):Row:=Row.rec (motive:=fun _=>Row) (fun c0 c1 c2 c3 c4 c5 c6 c7 c8 c9 _ c11 c12 c13 c14 c15=>Row.mk c0 c1 c2 c3 c4 c5 c6 c7 c8 c9 x c11 c12 c13 c14 c15) t
def Row.u11 (t:Row)(x:Value):Row:=Row.rec (motive:=fun _=>Row) (fun c0 c1 c2 c3 c4 c5 c6 c7 c8 c9 c10 _ c12 c13 c14 c15=>Row.mk c0 c1 c2 c3 c4 c5 c6 c7 c8 c9 c10 x c12 c13 c14 c15) t
def Row.u12 (t:Row)(x:Value):Row:=Row.rec (motive:=fun _=>Row) (fun c0 c1 c2 c3 c4 c5 c6 c7 c8 c9 c10 c11 _ c13 c14 c15=>Row.mk c0 c1 c2 c3 c4 c5 c6 c7 c8 c9 c10 c11 x c13 c14 c15) t
def Row.u13 (t:Row)(x:Value):Row:=Row.rec (motive:=fun _=>Row) (fun c0 c1 c2 c3 c4 c5 c6 c7 c8 c9 c10 c11 c12 _ c14 c15=>Row.mk c0 c1 c2 c3 c4 c5 c6 c7 c8 c9 c10 c11 c12 x c14 c15) t
def Row.u14 (t:Row)(x:Value):Row:=Row.rec (motive:=fun _=>Row) (fun c0 c1 c2 c3 c4 c5 c6 c7 c8 c9 c10 c11 c12 c13 _ c15=>Row.mk c0 c1 c2 c3 c4 c5 c6 c7 c8 c9 c10 c11 c12 c13 x c15) t
def Row.u15 (t:Row)(x:Value):Row:=Row.rec (motive:=fun _=>Row) (fun c0 c1 c2 c3 c4 c5 c6 c7 c8 c9 c10 c11 c12 c13 c14 _=>Row.mk c0 c1 c2 c3 c4 c5 c6 c7 c8 c9 c10 c11 c12 c13 c14 x) t
def Row.sx (t:Row)(_:Value)(K:Row->Bool):Bool:=K t
def Row.ux (t:Row)(_:Value):Row:=t
def Row.gx (_:Row):Value:=undef
def Row.at (d:D16):Row->Value:=D16.rec (motive:=fun _=>Row->Value) Row.g0 Row.g1 Row.g2 Row.g3 Row.g4 Row.g5 Row.g6 Row.g7 Row.g8 Row.g9 Row.g10 Row.g11 Row.g12 Row.g13 Row.g14 Row.g15 Row.gx d
def Row.set (d:D16):Row->Value->(Row->Bool)->Bool:=D16.rec (motive:=fun _=>Row->Value->(Row->Bool)->Bool) Row.s0 Row.s1 Row.s2 Row.s3 Row.s4 Row.s5 Row.s6 Row.s7 Row.s8 Row.s9 Row.s10 Row.s11 Row.s12 Row.s13 Row.s14 Row.s15 Row.sx d
def Row.upd (d:D16):Row->Value->Row:=D16.rec (motive:=fun _=>Row->Value->Row) Row.u0 Row.u1 Row.u2 Row.u3 Row.u4 Row.u5 Row.u6 Row.u7 Row.u8 Row.u9 Row.u10 Row.u11 Row.u12 Row.u13 Row.u14 Row.u15 Row.ux d
theorem Row.set_eq (d:D16)(t:Row)(x:Value)(K:Row->Bool):Row.set d t x K=K (Row.upd d t x):=by cases d <;> rfl
theorem Row.at_upd (d e:D16)(t:Row)(x:Value)(hd:d≠ .x):Row.at e (Row.upd d t x)=if e=d then x else Row.at e t:=by
 cases d <;> first | exact absurd rfl hd | (cases e <;> rfl)
def Env.g0 (t:Env):Row:=Env.rec (motive:=fun _=>Row) (fun c0 _ _ _ _ _ _ _ _ _ _ _ _ _ _ _=>c0) t
def Env.g1 (t:Env):Row:=Env.rec (motive:=fun _=>Row) (fun _ c1 _ _ _ _ _ _ _ _ _ _ _ _ _ _=>c1) t
def Env.g2 (t:Env):Row:=Env.rec (motive:=fun _=>Row) (fun _ _ c2 _ _ _ _ _ _ _ _ _ _ _ _ _=>c2) t
def Env.g3 (t:Env):Row:=Env.rec (motive:=fun _=>Row) (fun _ _ _ c3 _ _ _ _ _ _ _ _ _ _ _ _=>c3) t
def Env.g4 (t:Env):Row:=Env.rec (motive:=fun _=>Row) (fun _ _ _ _ c4 _ _ _ _ _ _ _ _ _ _ _=>c4) t
def Env.g5 (t:Env):Row:=Env.rec (motive:=fun _=>Row) (fun _ _ _ _ _ c5 _ _ _ _ _ _ _ _ _ _=>c5) t
def Env.g6 (t:Env):Row:=Env.rec (motive:=fun _=>Row) (fun _ _ _ _ _ _ c6 _ _ _ _ _ _ _ _ _=>c6) t
def Env.g7 (t:Env):Row:=Env.rec (motive:=fun _=>Row) (fun _ _ _ _ _ _ _ c7 _ _ _ _ _ _ _ _=>c7) t
def Env.g8 (t:Env):Row:=Env.rec (motive:=fun _=>Row) (fun _ _ _ _ _ _ _ _ c8 _ _ _ _ _ _ _=>c8) t
def Env.g9 (t:Env):Row:=Env.rec (motive:=fun _=>Row) (fun _ _ _ _ _ _ _ _ _ c9 _ _ _ _ _ _=>c9) t
def Env.g10 (t:Env):Row:=Env.rec (motive:=fun _=>Row) (fun _ _ _ _ _ _ _ _ _ _ c10 _ _ _ _ _=>c10) t
def Env.g11 (t:Env):Row:=Env.rec (motive:=fun _=>Row) (fun _ _ _ _ _ _ _ _ _ _ _ c11 _ _ _ _=>c11) t
def Env.g12 (t:Env):Row:=Env.rec (motive:=fun _=>Row) (fun _ _ _ _ _ _ _ _ _ _ _ _ c12 _ _ _=>c12) t
def Env.g13 (t:Env):Row:=Env.rec (motive:=fun _=>Row) (fun _ _ _ _ _ _ _ _ _ _ _ _ _ c13 _ _=>c13) t
def Env.g14 (t:Env):Row:=Env.rec (motive:=fun _=>Row) (fun _ _ _ _ _ _ _ _ _ _ _ _ _ _ c14 _=>c14) t
def Env.g15 (t:Env):Row:=Env.rec (motive:=fun _=>Row) (fun _ _ _ _ _ _ _ _ _ _ _ _ _ _ _ c15=>c15) t
def Env.s0 (t:Env)(x:Row)(K:Env->Bool):Bool:=Env.rec (motive:=fun _=>Bool) (fun _ c1 c2 c3 c4 c5 c6 c7 c8 c9 c10 c11 c12 c13 c14 c15=>K (Env.mk x c1 c2 c3 c4 c5 c6 c7 c8 c9 c10 c11 c12 c13 c14 c15)) t
def Env.s1 (t:Env)(x:Row)(K:Env->Bool):Bool:=Env.rec (motive:=fun _=>Bool) (fun c0 _ c2 c3 c4 c5 c6 c7 c8 c9 c10 c11 c12 c13 c14 c15=>K (Env.mk c0 x c2 c3 c4 c5 c6 c7 c8 c9 c10 c11 c12 c13 c14 c15)) t
def Env.s2 (t:Env)(x:Row)(K:Env->Bool):Bool:=Env.rec (motive:=fun _=>Bool) (fun c0 c1 _ c3 c4 c5 c6 c7 c8 c9 c10 c11 c12 c13 c14 c15=>K (Env.mk c0 c1 x c3 c4 c5 c6 c7 c8 c9 c10 c11 c12 c13 c14 c15)) t
def Env.s3 (t:Env)(x:Row)(K:Env->Bool):Bool:=Env.rec (motive:=fun _=>Bool) (fun c0 c1 c2 _ c4 c5 c6 c7 c8 c9 c10 c11 c12 c13 c14 c15=>K (Env.mk c0 c1 c2 x c4 c5 c6 c7 c8 c9 c10 c11 c12 c13 c14 c15)) t
def Env.s4 (t:Env)(x:Row)(K:Env->Bool):Bool:=Env.rec (motive:=fun _=>Bool) (fun c0 c1 c2 c3 _ c5 c6 c7 c8 c9 c10 c11 c12 c13 c14 c15=>K (Env.mk c0 c1 c2 c3 x c5 c6 c7 c8 c9 c10 c11 c12 c13 c14 c15)) t
def Env.s5 (t:Env)(x:Row)(K:Env->Bool):Bool:=Env.rec (motive:=fun _=>Bool) (fun c0 c1 c2 c3 c4 _ c6 c7 c8 c9 c10 c11 c12 c13 c14 c15=>K (Env.mk c0 c1 c2 c3 c4 x c6 c7 c8 c9 c10 c11 c12 c13 c14 c15)) t
def Env.s6 (t:Env)(x:Row)(K:Env->Bool):Bool:=Env.rec (motive:=fun _=>Bool) (fun c0 c1 c2 c3 c4 c5 _ c7 c8 c9 c10 c11 c12 c13 c14 c15=>K (Env.mk c0 c1 c2 c3 c4 c5 x c7 c8 c9 c10 c11 c12 c13 c14 c15)) t
def Env.s7 (t:Env)(x:Row)(K:Env->Bool):Bool:=Env.rec (motive:=fun _=>Bool) (fun c0 c1 c2 c3 c4 c5 c6 _ c8 c9 c10 c11 c12 c13 c14 c15=>K (Env.mk c0 c1 c2 c3 c4 c5 c6 x c8 c9 c10 c11 c12 c13 c14 c15)) t
def Env.s8 (t:Env)(x:Row)(K:Env->Bool):Bool:=Env.rec (motive:=fun _=>Bool) (fun c0 c1 c2 c3 c4 c5 c6 c7 _ c9 c10 c11 c12 c13 c14 c15=>K (Env.mk c0 c1 c2 c3 c4 c5 c6 c7 x c9 c10 c11 c12 c13 c14 c15)) t
def Env.s9 (t:Env)(x:Row)(K:Env->Bool):Bool:=Env.rec (motive:=fun _=>Bool) (fun c0 c1 c2 c3 c4 c5 c6 c7 c8 _ c10 c11 c12 c13 c14 c15=>K (Env.mk c0 c1 c2 c3 c4 c5 c6 c7 c8 x c10 c11 c12 c13 c14 c15)) t
def Env.s10 (t:Env)(x:Row)(K:Env->Bool):Bool:=Env.rec (motive:=fun _=>Bool) (fun c0 c1 c2 c3 c4 c5 c6 c7 c8 c9 _ c11 c12 c13 c14 c15=>K (Env.mk c0 c1 c2 c3 c4 c5 c6 c7 c8 c9 x c11 c12 c13 c14 c15)) t
def Env.s11 (t:Env)(x:Row)(K:Env->Bool):Bool:=Env.rec (motive:=fun _=>Bool) (fun c0 c1 c2 c3 c4 c5 c6 c7 c8 c9 c10 _ c12 c13 c14 c15=>K (Env.mk c0 c1 c2 c3 c4 c5 c6 c7 c8 c9 c10 x c12 c13 c14 c15)) t
def Env.s12 (t:Env)(x:Row)(K:Env->Bool):Bool:=Env.rec (motive:=fun _=>Bool) (fun c0 c1 c2 c3 c4 c5 c6 c7 c8 c9 c10 c11 _ c13 c14 c15=>K (Env.mk c0 c1 c2 c3 c4 c5 c6 c7 c8 c9 c10 c11 x c13 c14 c15)) t
def Env.s13 (t:Env)(x:Row)(K:Env->Bool):Bool:=Env.rec (motive:=fun _=>Bool) (fun c0 c1 c2 c3 c4 c5 c6 c7 c8 c9 c10 c11 c12 _ c14 c15=>K (Env.mk c0 c1 c2 c3 c4 c5 c6 c7 c8 c9 c10 c11 c12 x c14 c15)) t
def Env.s14 (t:Env)(x:Row)(K:Env->Bool):Bool:=Env.rec (motive:=fun _=>Bool) (fun c0 c1 c2 c3 c4 c5 c6 c7 c8 c9 c10 c11 c12 c13 _ c15=>K (Env.mk c0 c1 c2 c3 c4 c5 c6 c7 c8 c9 c10 c11 c12 c13 x c15)) t
def Env.s15 (t:Env)(x:Row)(K:Env->Bool):Bool:=Env.rec (motive:=fun _=>Bool) (fun c0 c1 c2 c3 c4 c5 c6 c7 c8 c9 c10 c11 c12 c13 c14 _=>K (Env.mk c0 c1 c2 c3 c4 c5 c6 c7 c8 c9 c10 c11 c12 c13 c14 x)) t
def Env.u0 (t:Env)(x:Row):Env:=Env.rec (motive:=fun _=>Env) (fun _ c1 c2 c3 c4 c5 c6 c7 c8 c9 c10 c11 c12 c13 c14 c15=>Env.mk x c1 c2 c3 c4 c5 c6 c7 c8 c9 c10 c11 c12 c13 c14 c15) t
def Env.u1 (t:Env)(x:Row):Env:=Env.rec (motive:=fun _=>Env) (fun c0 _ c2 c3 c4 c5 c6 c7 c8 c9 c10 c11 c12 c13 c14 c15=>Env.mk c0 x c2 c3 c4 c5 c6 c7 c8 c9 c10 c11 c12 c13 c14 c15) t
def Env.u2 (t:Env)(x:Row):Env:=Env.rec (motive:=fun _=>Env) (fun c0 c1 _ c3 c4 c5 c6 c7 c8 c9 c10 c11 c12 c13 c14 c15=>Env.mk c0 c1 x c3 c4 c5 c6 c7 c8 c9 c10 c11 c12 c13 c14 c15) t
def Env.u3 (t:Env)(x:Row):Env:=Env.rec (motive:=fun _=>Env) (fun c0 c1 c2 _ c4 c5 c6 c7 c8 c9 c10 c11 c12 c13 c14 c15=>Env.mk c0 c1 c2 x c4 c5 c6 c7 c8 c9 c10 c11 c12 c13 c14 c15) t
def Env.u4 (t:Env)(x:Row):Env:=Env.rec (motive:=fun _=>Env) (fun c0 c1 c2 c3 _ c5 c6 c7 c8 c9 c10 c11 c12 c13 c14 c15=>Env.mk c0 c1 c2 c3 x c5 c6 c7 c8 c9 c10 c11 c12 c13 c14 c15) t
def Env.u5 (t:Env)(x:Row):Env:=Env.rec (motive:=fun _=>Env) (fun c0 c1 c2 c3 c4 _ c6 c7 c8 c9 c10 c11 c12 c13 c14 c15=>Env.mk c0 c1 c2 c3 c4 x c6 c7 c8 c9 c10 c11 c12 c13 c14 c15) t
def Env.u6 (t:Env)(x:Row):Env:=Env.rec (motive:=fun _=>Env) (fun c0 c1 c2 c3 c4 c5 _ c7 c8 c9 c10 c11 c12 c13 c14 c15=>Env.mk c0 c1 c2 c3 c4 c5 x c7 c8 c9 c10 c11 c12 c13 c14 c15) t
def Env.u7 (t:Env)(x:Row):Env:=Env.rec (motive:=fun _=>Env) (fun c0 c1 c2 c3 c4 c5 c6 _ c8 c9 c10 c11 c12 c13 c14 c15=>Env.mk c0 c1 c2 c3 c4 c5 c6 x c8 c9 c10 c11 c12 c13 c14 c15) t
def Env.u8 (t:Env)(x:Row):Env:=Env.rec (motive:=fun _=>Env) (fun c0 c1 c2 c3 c4 c5 c6 c7 _ c9 c10 c11 c12 c13 c14 c15=>Env.mk c0 c1 c2 c3 c4 c5 c6 c7 x c9 c10 c11 c12 c13 c14 c15) t
def Env.u9 (t:Env)(x:Row):Env:=Env.rec (motive:=fun _=>Env) (fun c0 c1 c2 c3 c4 c5 c6 c7 c8 _ c10 c11 c12 c13 c14 c15=>Env.mk c0 c1 c2 c3 c4 c5 c6 c7 c8 x c10 c11 c12 c13 c14 c15) t
def Env.u10 (t:Env)(x:Row):Env:=Env.rec (motive:=fun _=>Env) (fun c0 c1 c2 c3 c4 c5 c6 c7 c8 c9 _ c11 c12 c13 c14 c15=>Env.mk c0 c1 c2 c3 c4 c5 c6 c7 c8 c9 x c11 c12 c13 c14 c15) t
def Env.u11 (t:Env)(x:Row):Env:=Env.rec (motive:=fun _=>Env) (fun c0 c1 c2 c3 c4 c5 c6 c7 c8 c9 c10 _ c12 c13 c14 c15=>Env.mk c0 c1 c2 c3 c4 c5 c6 c7 c8 c9 c10 x c12 c13 c14 c15) t
def Env.u12 (t:Env)(x:Row):Env:=Env.rec (motive:=fun _=>Env) (fun c0 c1 c2 c3 c4 c5 c6 c7 c8 c9 c10 c11 _ c13 c14 c15=>Env.mk c0 c1 c2 c3 c4 c5 c6 c7 c8 c9 c10 c11 x c13 c14 c15) t
def Env.u13 (t:Env)(x:Row):Env:=Env.rec (motive:=fun _=>Env) (fun c0 c1 c2 c3 c4 c5 c6 c7 c8 c9 c10 c11 c12 _ c14 c15=>Env.mk c0 c1 c2 c3 c4 c5 c6 c7 c8 c9 c10 c11 c12 x c14 c15) t
def Env.u14 (t:Env)(x:Row):Env:=Env.rec (motive:=fun _=>Env) (fun c0 c1 c2 c3 c4 c5 c6 c7 c8 c9 c10 c11 c12 c13 _ c15=>Env.mk c0 c1 c2 c3 c4 c5 c6 c7 c8 c9 c10 c11 c12 c13 x c15) t
def Env.u15 (t:Env)(x:Row):Env:=Env.rec (motive:=fun _=>Env) (fun c0 c1 c2 c3 c4 c5 c6 c7 c8 c9 c10 c11 c12 c13 c14 _=>Env.mk c0 c1 c2 c3 c4 c5 c6 c7 c8 c9 c10 c11 c12 c13 c14 x) t
def Env.sx (t:Env)(_:Row)(K:Env->Bool):Bool:=K t
def Env.ux (t:Env)(_:Row):Env:=t
def Env.gx (_:Env):Row:=row0
def Env.at (d:D16):Env->Row:=D16.rec (motive:=fun _=>Env->Row) Env.g0 Env.g1 Env.g2 Env.g3 Env.g4 Env.g5 Env.g6 Env.g7 Env.g8 Env.g9 Env.g10 Env.g11 Env.g12 Env.g13 Env.g14 Env.g15 Env.gx d
def Env.set (d:D16):Env->Row->(Env->Bool)->Bool:=D16.rec (motive:=fun _=>Env->Row->(Env->Bool)->Bool) Env.s0 Env.s1 Env.s2 Env.s3 Env.s4 Env.s5 Env.s6 Env.s7 Env.s8 Env.s9 Env.s10 Env.s11 Env.s12 Env.s13 Env.s14 Env.s15 Env.sx d
def Env.upd (d:D16):Env->Row->Env:=D16.rec (motive:=fun _=>Env->Row->Env) Env.u0 Env.u1 Env.u2 Env.u3 Env.u4 Env.u5 Env.u6 Env.u7 Env.u8 Env.u9 Env.u10 Env.u11 Env.u12 Env.u13 Env.u14 Env.u15 Env.ux d
theorem Env.set_eq (d:D16)(t:Env)(x:Row)(K:Env->Bool):Env.set d t x K=K (Env.upd d t x):=by cases d <;> rfl
theorem Env.at_upd (d e:D16)(t:Env)(x:Row)(hd:d≠ .x):Env.at e (Env.upd d t x)=if e=d then x else Env.at e t:=by
 cases d <;> first | exact absurd rfl hd | (cases e <;> rfl)
def dig (n:Nat):D16:=Nat.rec (motive:=fun _=>D16) .d0 (fun n0 _=>Nat.rec (motive:=fun _=>D16) .d1 (fun n1 _=>Nat.rec (motive:=fun _=>D16) .d2 (fun n2 _=>Nat.rec (motive:=fun _=>D16) .d3 (fun n3 _=>Nat.rec (motive:=fun _=>D16) .d4 (fun n4 _=>Nat.rec (motive:=fun _=>D16) .d5 (fun n5 _=>Nat.rec (motive:=fun _=>D16) .d6 (fun n6 _=>Nat.rec (motive:=fun _=>D16) .d7 (fun n7 _=>Nat.rec (motive:=fun _=>D16) .d8 (fun n8 _=>Nat.rec (motive:=fun _=>D16) .d9 (fun n9 _=>Nat.rec (motive:=fun _=>D16) .d10 (fun n10 _=>Nat.rec (motive:=fun _=>D16) .d11 (fun n11 _=>Nat.rec (motive:=fun _=>D16) .d12 (fun n12 _=>Nat.rec (motive:=fun _=>D16) .d13 (fun n13 _=>Nat.rec (motive:=fun _=>D16) .d14 (fun n14 _=>Nat.rec (motive:=fun _=>D16) .d15 (fun _ _=> .x) n14) n13) n12) n11) n10) n9) n8) n7) n6) n5) n4) n3) n2) n1) n0) n
def D16.num:D16->Nat
 | .d0=>0
 | .d1=>1
 | .d2=>2
 | .d3=>3
 | .d4=>4
 | .d5=>5
 | .d6=>6
 | .d7=>7
 | .d8=>8
 | .d9=>9
 | .d10=>10
 | .d11=>11
 | .d12=>12
 | .d13=>13
 | .d14=>14
 | .d15=>15
 | .x=>16
theorem E6: ∀ n,(dig n).num=min n 16
 | 0=>rfl
 | 1=>rfl
 | 2=>rfl
 | 3=>rfl
 | 4=>rfl
 | 5=>rfl
 | 6=>rfl
 | 7=>rfl
 | 8=>rfl
 | 9=>rfl
 | 10=>rfl
 | 11=>rfl
 | 12=>rfl
 | 13=>rfl
 | 14=>rfl
 | 15=>rfl
 | n+16=>by show 16=min (n+16) 16; omega
theorem PC {a b:Nat}(ha:a < 16)(h:dig b=dig a):b=a:=by
 have h1:=E6 a
 have h2:=E6 b
 rw [h] at h2
 omega
theorem T8 {a:Nat}(ha:a < 16):dig a≠ .x:=fun h=>by
 have:=E6 a
 rw [h] at this
 simp only [D16.num] at this
 omega
def Env.get (t:Nat)(e:Env):Value:=Row.at (dig (t % 16)) (Env.at (dig (t / 16)) e)
def Env.put (t:Nat)(e:Env)(v:Value)(K:Env->Bool):Bool:=Row.set (dig (t % 16)) (Env.at (dig (t / 16)) e) v fun r=>Env.set (dig (t / 16)) e r K
def Env.new (t:Nat)(e:Env)(v:Value):Env:=Env.upd (dig (t / 16)) e (Row.upd (dig (t % 16)) (Env.at (dig (t / 16)) e) v)
theorem Env.put_eq (t:Nat)(e:Env)(v:Value)(K:Env->Bool):Env.put t e v K=K (Env.new t e v):=by
 unfold Env.put Env.new
 rw [Row.set_eq,Env.set_eq]
theorem PF (d:D16):Row.at d row0=undef:=by cases d <;> rfl
theorem uF (t:Nat):Env.get t wk=undef:=by
 unfold Env.get
 have:Env.at (dig (t / 16)) wk=row0:=by cases dig (t / 16) <;> rfl
 rw [this,PF]
theorem Env.get_put {t u:Nat}{e:Env}{v:Value}(ht:t < 256):Env.get u (Env.new t e v)=if u=t then v else Env.get u e:=by
 have h1:t / 16 < 16:=by omega
 have h2:t % 16 < 16:=Nat.mod_lt _ (by omega)
 unfold Env.get Env.new
 rw [Env.at_upd _ _ _ _ (T8 h1)]
 by_cases hq:dig (u / 16)=dig (t / 16)
 ·have hq':=PC h1 hq
  rw [if_pos hq,Row.at_upd _ _ _ _ (T8 h2)]
  by_cases hr:dig (u % 16)=dig (t % 16)
  ·have hr':=PC h2 hr
   rw [if_pos hr,if_pos (by omega)]
  ·rw [if_neg hr,if_neg (fun h=>hr (by rw [h])),hq]
 ·rw [if_neg hq,if_neg (fun h=>hq (by rw [h]))]
end
end Go.Ab
end
section
namespace Go.Ab
open Go
section
noncomputable section
variable {α:Type}
def eZ (n:Nat)(c:Nat->Bool):Bool:=Nat.rec (motive:=fun _=>Bool) (c 0) (fun m _=>c (m+1)) n
def Qz (n:Int)(c:Int->Bool):Bool:=Int.rec (motive:=fun _=>Bool) (fun n=>eZ n fun n=>c (.ofNat n)) (fun n=>eZ n fun n=>c (.negSucc n)) n
def BT (bad:Bool)(x:Option α)(K:α->Bool):Bool:=Option.rec (motive:=fun _=>Bool) bad K x
def cX (b:Bool)(x y:Bool):Bool:=Bool.rec (motive:=fun _=>Bool) y x b
def Li (a:Option Addr)(K:Option Addr->Bool):Bool:=Option.rec (motive:=fun _=>Bool) (K none) (fun ad=>Addr.rec (motive:=fun _=>Bool) (fun b o s=>eZ b fun b=>eZ o fun o=>K (some ⟨b,o,s⟩)) ad) a
def Wu (k:IntKind)(n:Int)(K:Value->Bool):Bool:=Qz n fun n=>K (.int k n)
def Xa (a:Option Addr)(K:Value->Bool):Bool:=Li a fun a=>K (.pointer a)
def Sk (a:Option Addr)(n c:Nat)(K:Value->Bool):Bool:=Li a fun a=>eZ n fun n=>eZ c fun c=>K (.slice a n c)
def gm (v:Value):(Value->Bool)->Bool:=Value.rec (motive_1:=fun _=>(Value->Bool)->Bool) (motive_2:=fun _=>Unit) (motive_3:=fun _=>Unit) (fun b K=>K (.bool b)) Wu (fun k n K=>K (.float k n)) (fun k m n K=>K (.complex k m n)) (fun s K=>K (.string s)) Xa Sk (fun r K=>K (.map r)) (fun r K=>K (.chan r)) (fun f a c _ _=>(fun f a c K=>K (.func f a c)) f a c) (fun K=>K .nilFunc) (fun t v _=>(fun t v K=>K (.iface t v)) t v) (fun K=>K .nilIface) (fun a _=>(fun a K=>K (.agg a)) a) (fun a _=>(fun a K=>K (.tuple a)) a) (fun _ _=>()) () (fun _ _ _ _=>()) v
def wF (v:Value):Bool->(Bool->Bool)->Bool:=Value.rec (motive_1:=fun _=>Bool->(Bool->Bool)->Bool) (motive_2:=fun _=>Unit) (motive_3:=fun _=>Unit) (fun b _ K=>K b) (fun _ _ bad _=>bad) (fun _ _ bad _=>bad) (fun _ _ _ bad _=>bad) (fun _ bad _=>bad) (fun _ bad _=>bad) (fun _ _ _ bad _=>bad) (fun _ bad _=>bad) (fun _ bad _=>bad) (fun f a c _ _=>(fun _ _ _ bad _=>bad) f a c) (fun bad _=>bad) (fun t v _=>(fun _ _ bad _=>bad) t v) (fun bad _=>bad) (fun a _=>(fun _ bad _=>bad) a) (fun a _=>(fun _ bad _=>bad) a) (fun _ _=>()) () (fun _ _ _ _=>()) v
theorem H0 (v:Value)(bad:Bool)(K:Bool->Bool):(wF v bad K=bad/\ ∀ b,v≠ .bool b)\/ ∃ b,v = .bool b/\wF v bad K=K b:=by
 cases v <;> first | exact .inr ⟨_,rfl,rfl⟩ | exact .inl ⟨rfl,by intros; simp⟩
def CC (v:Value):Bool->(IntKind->Int->Bool)->Bool:=Value.rec (motive_1:=fun _=>Bool->(IntKind->Int->Bool)->Bool) (motive_2:=fun _=>Unit) (motive_3:=fun _=>Unit) (fun _ bad _=>bad) (fun k n _ K=>K k n) (fun _ _ bad _=>bad) (fun _ _ _ bad _=>bad) (fun _ bad _=>bad) (fun _ bad _=>bad) (fun _ _ _ bad _=>bad) (fun _ bad _=>bad) (fun _ bad _=>bad) (fun f a c _ _=>(fun _ _ _ bad _=>bad) f a c) (fun bad _=>bad) (fun t v _=>(fun _ _ bad _=>bad) t v) (fun bad _=>bad) (fun a _=>(fun _ bad _=>bad) a) (fun a _=>(fun _ bad _=>bad) a) (fun _ _=>()) () (fun _ _ _ _=>()) v
theorem S5 (v:Value)(bad:Bool)(K:IntKind->Int->Bool):(CC v bad K=bad/\ ∀ k n,v≠ .int k n)\/ ∃ k n,v = .int k n/\CC v bad K=K k n:=by
 cases v <;> first | exact .inr ⟨_,_,rfl,rfl⟩ | exact .inl ⟨rfl,by intros; simp⟩
def yO (v:Value):Bool->(ByteArray->Bool)->Bool:=Value.rec (motive_1:=fun _=>Bool->(ByteArray->Bool)->Bool) (motive_2:=fun _=>Unit) (motive_3:=fun _=>Unit) (fun _ bad _=>bad) (fun _ _ bad _=>bad) (fun _ _ bad _=>bad) (fun _ _ _ bad _=>bad) (fun s _ K=>K s) (fun _ bad _=>bad) (fun _ _ _ bad _=>bad) (fun _ bad _=>bad) (fun _ bad _=>bad) (fun f a c _ _=>(fun _ _ _ bad _=>bad) f a c) (fun bad _=>bad) (fun t v _=>(fun _ _ bad _=>bad) t v) (fun bad _=>bad) (fun a _=>(fun _ bad _=>bad) a) (fun a _=>(fun _ bad _=>bad) a) (fun _ _=>()) () (fun _ _ _ _=>()) v
theorem Ka (v:Value)(bad:Bool)(K:ByteArray->Bool):(yO v bad K=bad/\ ∀ s,v≠ .string s)\/ ∃ s,v = .string s/\yO v bad K=K s:=by
 cases v <;> first | exact .inr ⟨_,rfl,rfl⟩ | exact .inl ⟨rfl,by intros; simp⟩
def Gg (v:Value):Bool->(Option Addr->Bool)->Bool:=Value.rec (motive_1:=fun _=>Bool->(Option Addr->Bool)->Bool) (motive_2:=fun _=>Unit) (motive_3:=fun _=>Unit) (fun _ bad _=>bad) (fun _ _ bad _=>bad) (fun _ _ bad _=>bad) (fun _ _ _ bad _=>bad) (fun _ bad _=>bad) (fun a _ K=>K a) (fun _ _ _ bad _=>bad) (fun _ bad _=>bad) (fun _ bad _=>bad) (fun f a c _ _=>(fun _ _ _ bad _=>bad) f a c) (fun bad _=>bad) (fun t v _=>(fun _ _ bad _=>bad) t v) (fun bad _=>bad) (fun a _=>(fun _ bad _=>bad) a) (fun a _=>(fun _ bad _=>bad) a) (fun _ _=>()) () (fun _ _ _ _=>()) v
theorem RJ (v:Value)(bad:Bool)(K:Option Addr->Bool):(Gg v bad K=bad/\ ∀ a,v≠ .pointer a)\/ ∃ a,v = .pointer a/\Gg v bad K=K a:=by
 cases v <;> first | exact .inr ⟨_,rfl,rfl⟩ | exact .inl ⟨rfl,by intros; simp⟩
def BC (v:Value):Bool->(Option Addr->Nat->Nat->Bool)->Bool:=Value.rec (motive_1:=fun _=>Bool->(Option Addr->Nat->Nat->Bool)->Bool) (motive_2:=fun _=>Unit) (motive_3:=fun _=>Unit) (fun _ bad _=>bad) (fun _ _ bad _=>bad) (fun _ _ bad _=>bad) (fun _ _ _ bad _=>bad) (fun _ bad _=>bad) (fun _ bad _=>bad) (fun a n c _ K=>K a n c) (fun _ bad _=>bad) (fun _ bad _=>bad) (fun f a c _ _=>(fun _ _ _ bad _=>bad) f a c) (fun bad _=>bad) (fun t v _=>(fun _ _ bad _=>bad) t v) (fun bad _=>bad) (fun a _=>(fun _ bad _=>bad) a) (fun a _=>(fun _ bad _=>bad) a) (fun _ _=>()) () (fun _ _ _ _=>()) v
theorem Mf (v:Value)(bad:Bool)(K:Option Addr->Nat->Nat->Bool):(BC v bad K=bad/\ ∀ a n c,v≠ .slice a n c)\/ ∃ a n c,v = .slice a n c/\BC v bad K=K a n c:=by
 cases v <;> first | exact .inr ⟨_,_,_,rfl,rfl⟩ | exact .inl ⟨rfl,by intros; simp⟩
def GL (v:Value):Bool->(Fn->Array Value->Array Value->Bool)->Bool:=Value.rec (motive_1:=fun _=>Bool->(Fn->Array Value->Array Value->Bool)->Bool) (motive_2:=fun _=>Unit) (motive_3:=fun _=>Unit) (fun _ bad _=>bad) (fun _ _ bad _=>bad) (fun _ _ bad _=>bad) (fun _ _ _ bad _=>bad) (fun _ bad _=>bad) (fun _ bad _=>bad) (fun _ _ _ bad _=>bad) (fun _ bad _=>bad) (fun _ bad _=>bad) (fun f a c _ _=>(fun f a c _ K=>K f a c) f a c) (fun bad _=>bad) (fun t v _=>(fun _ _ bad _=>bad) t v) (fun bad _=>bad) (fun a _=>(fun _ bad _=>bad) a) (fun a _=>(fun _ bad _=>bad) a) (fun _ _=>()) () (fun _ _ _ _=>()) v
theorem GE (v:Value)(bad:Bool)(K:Fn->Array Value->Array Value->Bool):(GL v bad K=bad/\ ∀ f a c,v≠ .func f a c)\/ ∃ f a c,v = .func f a c/\GL v bad K=K f a c:=by
 cases v <;> first | exact .inr ⟨_,_,_,rfl,rfl⟩ | exact .inl ⟨rfl,by intros; simp⟩
def SQ (v:Value):Bool->(Array Value->Bool)->Bool:=Value.rec (motive_1:=fun _=>Bool->(Array Value->Bool)->Bool) (motive_2:=fun _=>Unit) (motive_3:=fun _=>Unit) (fun _ bad _=>bad) (fun _ _ bad _=>bad) (fun _ _ bad _=>bad) (fun _ _ _ bad _=>bad) (fun _ bad _=>bad) (fun _ bad _=>bad) (fun _ _ _ bad _=>bad) (fun _ bad _=>bad) (fun _ bad _=>bad) (fun f a c _ _=>(fun _ _ _ bad _=>bad) f a c) (fun bad _=>bad) (fun t v _=>(fun _ _ bad _=>bad) t v) (fun bad _=>bad) (fun a _=>(fun a _ K=>K a) a) (fun a _=>(fun _ bad _=>bad) a) (fun _ _=>()) () (fun _ _ _ _=>()) v
theorem RY (v:Value)(bad:Bool)(K:Array Value->Bool):(SQ v bad K=bad/\ ∀ a,v≠ .agg a)\/ ∃ a,v = .agg a/\SQ v bad K=K a:=by
 cases v <;> first | exact .inr ⟨_,rfl,rfl⟩ | exact .inl ⟨rfl,by intros; simp⟩
def EB (v:Value):Bool->(Array Value->Bool)->Bool:=Value.rec (motive_1:=fun _=>Bool->(Array Value->Bool)->Bool) (motive_2:=fun _=>Unit) (motive_3:=fun _=>Unit) (fun _ bad _=>bad) (fun _ _ bad _=>bad) (fun _ _ bad _=>bad) (fun _ _ _ bad _=>bad) (fun _ bad _=>bad) (fun _ bad _=>bad) (fun _ _ _ bad _=>bad) (fun _ bad _=>bad) (fun _ bad _=>bad) (fun f a c _ _=>(fun _ _ _ bad _=>bad) f a c) (fun bad _=>bad) (fun t v _=>(fun _ _ bad _=>bad) t v) (fun bad _=>bad) (fun a _=>(fun _ bad _=>bad) a) (fun a _=>(fun a _ K=>K a) a) (fun _ _=>()) () (fun _ _ _ _=>()) v
theorem Na (v:Value)(bad:Bool)(K:Array Value->Bool):(EB v bad K=bad/\ ∀ a,v≠ .tuple a)\/ ∃ a,v = .tuple a/\EB v bad K=K a:=by
 cases v <;> first | exact .inr ⟨_,rfl,rfl⟩ | exact .inl ⟨rfl,by intros; simp⟩
def OG (v:Value):Bool:=Value.rec (motive_1:=fun _=>Bool) (motive_2:=fun _=>Unit) (motive_3:=fun _=>Unit) (fun _=>true) (fun _ _=>true) (fun _ _=>true) (fun _ _ _=>true) (fun _=>true) (fun _=>true) (fun _ _ _=>true) (fun _=>true) (fun _=>false) (fun f a c _ _=>(fun _ _ _=>true) f a c) true (fun t v _=>(fun _ _=>true) t v) true (fun a _=>(fun _=>false) a) (fun a _=>(fun _=>false) a) (fun _ _=>()) () (fun _ _ _ _=>()) v
theorem HX (v:Value):OG v=bL v:=by cases v <;> rfl
def R2 (k:IntKind):IntKind->Bool:=IntKind.rec (motive:=fun _=>IntKind->Bool) (IntKind.rec (motive:=fun _=>Bool) true false false false false false false false) (IntKind.rec (motive:=fun _=>Bool) false true false false false false false false) (IntKind.rec (motive:=fun _=>Bool) false false true false false false false false) (IntKind.rec (motive:=fun _=>Bool) false false false true false false false false) (IntKind.rec (motive:=fun _=>Bool) false false false false true false false false) (IntKind.rec (motive:=fun _=>Bool) false false false false false true false false) (IntKind.rec (motive:=fun _=>Bool) false false false false false false true false) (IntKind.rec (motive:=fun _=>Bool) false false false false false false false true) k
theorem FD {k k':IntKind}(h:R2 k k'=true):k=k':=by cases k <;> cases k' <;> first | rfl | cases h
def aR (k:IntKind):Nat:=IntKind.rec (motive:=fun _=>Nat) 128 32768 2147483648 9223372036854775808 256 65536 4294967296 18446744073709551616 k
def Un (j:Int)(bad:Bool)(K:Nat->Bool):Bool:=Int.rec (motive:=fun _=>Bool) K (fun _=>bad) j
def GT (a b:Int):Bool:=Int.rec (motive:=fun _=>Bool) (fun m=>Int.rec (motive:=fun _=>Bool) (fun n=>Nat.blt m n) (fun _=>false) b) (fun m=>Int.rec (motive:=fun _=>Bool) (fun _=>true) (fun n=>Nat.blt n m) b) a
def Lh (a b:Int):Bool:=Int.rec (motive:=fun _=>Bool) (fun m=>Int.rec (motive:=fun _=>Bool) (fun n=>Nat.beq m n) (fun _=>false) b) (fun m=>Int.rec (motive:=fun _=>Bool) (fun _=>false) (fun n=>Nat.beq n m) b) a
def Pm (k:IntKind)(n:Int)(K:Int->Bool):Bool:=
 Int.rec (motive:=fun _=>Bool) (fun m=>cX (Nat.blt m (aR k)) (eZ m fun m=>K (.ofNat m)) (Qz (k.wrap (.ofNat m)) K)) (fun m=>Qz (k.wrap (.negSucc m)) K) n
def wh (l:List Value):(List Value->Bool)->Bool:=List.rec (motive:=fun _=>(List Value->Bool)->Bool) (fun K=>K []) (fun a _ ih K=>ih fun r=>K (a::r)) l
def XE (l:List α):Nat->Option α:=List.rec (motive:=fun _=>Nat->Option α) (fun _=>none) (fun a _ ih i=>Nat.rec (motive:=fun _=>Option α) (some a) (fun j _=>ih j) i) l
def Eh (v:Value)(bad:Bool)(l:List Value):Nat->(List Value->Bool)->Bool:=
 List.rec (motive:=fun _=>Nat->(List Value->Bool)->Bool) (fun _ _=>bad) (fun a r ih i K=>Nat.rec (motive:=fun _=>Bool) (K (v::r)) (fun j _=>ih j fun r=>K (a::r)) i) l
def HT.kE (b:Option Blk)(t:HT)(K:HT->Bool):Bool:=HT.rec (motive:=fun _=>Bool) (K (.node b .nil .nil)) (fun _ l r _ _=>K (.node b l r)) t
def HT.kL (ih:HT->(HT->Bool)->Bool)(t:HT)(K:HT->Bool):Bool:=HT.rec (motive:=fun _=>Bool) (ih .nil fun l=>K (.node none l .nil)) (fun v l r _ _=>ih l fun l=>K (.node v l r)) t
def HT.kR (ih:HT->(HT->Bool)->Bool)(t:HT)(K:HT->Bool):Bool:=HT.rec (motive:=fun _=>Bool) (ih .nil fun r=>K (.node none .nil r)) (fun v l r _ _=>ih r fun r=>K (.node v l r)) t
def HT.setK (b:Option Blk)(p:Pth):HT->(HT->Bool)->Bool:=Pth.rec (motive:=fun _=>HT->(HT->Bool)->Bool) (HT.kE b) (fun _=>HT.kL) (fun _=>HT.kR) p
def Ie (b:Blk)(K:Blk->Bool):Bool:=Blk.rec (motive:=fun _=>Bool) (fun cs t sz wr=>wh cs fun cs=>K (.cells cs t sz wr)) (fun es=>K (.map es)) (fun st tm ps asg body ok=>K (.loop st tm ps asg body ok)) b
def Po (k:Nat)(b:Blk)(h:Heap)(K:Heap->Bool):Bool:=Ie b fun b=>HT.setK (some b) (bD k) h.t fun t=>K ⟨h.next,t⟩
def rA (b:Blk)(h:Heap)(K:Heap->Bool):Bool:=Ie b fun b=>HT.setK (some b) (bD h.next) h.t fun t=>eZ h.next fun n=>K ⟨n+1,t⟩
def IG (k:Nat)(b:Blk)(h:Heap)(K:Heap->Bool):Bool:=Ie b fun b=>HT.setK none (bD k) h.t fun t=>HT.setK (some b) (bD h.next) t fun t=>eZ h.next fun n=>K ⟨n+1,t⟩
def RU (u:Upd):Heap->(Heap->Bool)->Bool:=Upd.rec (motive:=fun _=>Heap->(Heap->Bool)->Bool) (fun h K=>K h) Po rA IG (fun h _ K=>K h) u
structure Cx where
 P:Program
 gl:Nat->Bool
 cf:FuncId->List Value->Heap->(Value->Heap->Bool)->Bool
 N:Nat
 n:Nat
 bad:Bool
abbrev nS:=Cx->Oper->(Operand->Value)->Heap->(Value->Heap->Bool)->Bool
def Jy (bad:Bool)(r:Option (Value×Upd))(h:Heap)(K:Value->Heap->Bool):Bool:=BT bad r fun r=>Prod.rec (motive:=fun _=>Bool) (fun v u=>RU u h fun h=>gm v fun v=>K v h) r
def oa:nS:=fun cx o ρ h K=>Jy cx.bad (aK cx.P dj ρ o h) h K
def IT:nS:=fun cx _ _ _ _=>cx.bad
def KQ (x:Operand):nS:=fun _ _ ρ h K=>gm (ρ x) fun v=>K v h
def QA (c a b:Operand):nS:=fun cx _ ρ h K=>wF (ρ c) cx.bad fun t=>cX t (gm (ρ a) fun v=>K v h) (gm (ρ b) fun v=>K v h)
def QU (P:Program)(t:TypeId):Option Blk:=match cp P t with
 | some z=>if z.cells.toList.all bL then some (.cells z.cells.toList t 0 true) else none
 | none=>none
def SE (b:Blk)(h:Heap)(K:Value->Heap->Bool):Bool:=eZ h.next fun k=>rA b h fun h=>K (.pointer (some ⟨k,0,none⟩)) h
def J2 (t:TypeId):nS:=fun cx _ _ h K=>BT cx.bad (QU cx.P t) fun b=>SE b h K
def Vj (t:TypeId)(x:Operand):nS:=fun cx o ρ h K=>cX (OG (ρ x)) (gm (ρ x) fun v=>SE (.cells [v] t 0 true) h K) (oa cx o ρ h K)
def H9 (a:Option Addr)(bad:Bool)(K:Nat->Nat->Bool):Bool:=Option.rec (motive:=fun _=>Bool) bad (fun ad=>Addr.rec (motive:=fun _=>Bool) (fun b i s=>Option.rec (motive:=fun _=>Bool) (K b i) (fun _=>bad) s) ad) a
def TG (h:Heap)(k:Nat)(bad:Bool)(K:List Value->TypeId->Nat->Bool->Bool):Bool:=BT bad (h.get k) fun B=>Blk.rec (motive:=fun _=>Bool) K (fun _=>bad) (fun _ _ _ _ _ _=>bad) B
def EO (P:Program)(t:TypeId):Bool:=(P.underlying t).isSome && !isAgg P t
def T2 (P:Program)(t:TypeId):Bool:=decide (aq P t=some 1)
def PO (t:TypeId)(a:Operand):nS:=fun cx _ ρ h K=>
 cX (EO cx.P t) (Gg (ρ a) cx.bad fun ad=>H9 ad cx.bad fun b i=>TG h b cx.bad fun cs _ _ _=>BT cx.bad (XE cs i) fun v=>K v h) (BT cx.bad (ah cx.P t h (ρ a)) fun v=>K v h)
def al (P:Program)(t:TypeId)(a x:Value)(h:Heap):Option (Value×Upd):=match a with
 | .pointer (some ⟨k,i,none⟩)=>if aq P t=some x.cells.size then (storeAt h k i x.cells.toList).map fun u=>(undef,u) else none
 | _=>none
def J3 (t:TypeId)(a x:Operand):nS:=fun cx _ ρ h K=>
 cX (T2 cx.P t && OG (ρ x)) (Gg (ρ a) cx.bad fun ad=>H9 ad cx.bad fun b i=>TG h b cx.bad fun cs te sz wr=>cX wr (gm (ρ x) fun v=>Eh v cx.bad cs i fun cs=>
   HT.setK (some (.cells cs te sz true)) (bD b) h.t fun t=>K undef ⟨h.next,t⟩) cx.bad) (Jy cx.bad (al cx.P t (ρ a) (ρ x) h) h K)
def wm (x:Operand):nS:=fun cx o ρ h K=>Gg (ρ x) (oa cx o ρ h K) fun ad=>BT cx.bad ad fun ad=>K (.pointer (some ad)) h
def AU (f:Int->Int->Int)(x y:Operand):nS:=fun cx o ρ h K=>CC (ρ x) (oa cx o ρ h K) fun k a=>CC (ρ y) cx.bad fun k' b=>cX (R2 k k') (Pm k (f a b) fun n=>K (.int k n) h) cx.bad
def GP (f:Int->Int->Bool)(x y:Operand):nS:=fun cx o ρ h K=>CC (ρ x) (oa cx o ρ h K) fun k a=>CC (ρ y) cx.bad fun k' b=>cX (R2 k k') (cX (f a b) (K (.bool true) h) (K (.bool false) h)) cx.bad
def Hx (_ _:Operand):nS:=oa
def WZ (a b:Int):Int:=a+b
def We (a b:Int):Int:=a - b
def Xe (a b:Int):Int:=a*b
def Zc (a b:Int):Bool:= !Lh a b
def Y8 (a b:Int):Bool:= !GT b a
def Y0 (a b:Int):Bool:=GT b a
def Zb (a b:Int):Bool:= !GT a b
def Xs (op:BinOp)(_:TypeId)(x y:Operand)(_:TypeId):nS:=
 BinOp.rec (motive:=fun _=>Operand->Operand->nS) (AU WZ) (AU We) (AU Xe) Hx Hx Hx Hx Hx Hx Hx Hx (GP Lh) (GP Zc) (GP GT) (GP Y8) (GP Y0) (GP Zb) op x y
def UL (_:Operand):nS:=oa
def Uo (x:Operand):nS:=fun cx _ ρ h K=>wF (ρ x) cx.bad fun b=>cX b (K (.bool false) h) (K (.bool true) h)
def Wc (op:UnOp)(_:TypeId)(x:Operand):nS:=UnOp.rec (motive:=fun _=>Operand->nS) UL UL Uo UL op x
def YH (P:Program)(s d:TypeId):Option IntKind:=match P.underlying s,P.underlying d with
 | some _,some (.int k)=>some k
 | _,_=>none
def AN (s d:TypeId)(x:Operand):nS:=fun cx o ρ h K=>Option.rec (motive:=fun _=>Bool) (oa cx o ρ h K) (fun k=>CC (ρ x) cx.bad fun _ n=>Pm k n fun n=>K (.int k n) h) (YH cx.P s d)
def XN (P:Program)(s:TypeId)(f:Nat):Option Nat:=match P.underlying s with
 | some (.struct fields)=>match fields[f]? with
  | some fd=>if (aq P fd.type).any (· ≠0) then some fd.offset else none
  | none=>none
 | _=>none
def rR (s:TypeId)(x:Operand)(f:Nat):nS:=fun cx _ ρ h K=>BT cx.bad (XN cx.P s f) fun off=>Gg (ρ x) cx.bad fun ad=>H9 ad cx.bad fun b i=>eZ (i+off) fun i=>K (.pointer (some ⟨b,i,none⟩)) h
def Kq (P:Program)(s:TypeId)(f:Nat):Option Nat:=match P.underlying s with
 | some (.struct fields)=>match fields[f]? with
  | some fd=>if EO P fd.type then some fd.offset else none
  | none=>none
 | _=>none
def IW (s:TypeId)(x:Operand)(f:Nat):nS:=fun cx o ρ h K=>Option.rec (motive:=fun _=>Bool) (oa cx o ρ h K) (fun off=>SQ (ρ x) cx.bad fun cs=>BT cx.bad (XE cs.toList off) fun v=>gm v fun v=>K v h) (Kq cx.P s f)
def T5 (P:Program)(t:TypeId):Option (Option Nat×Nat):=match P.underlying t with
 | some (.array len e)=>(aq P e).map fun n=>(some len,n)
 | some (.slice e)=>(aq P e).map fun n=>(none,n)
 | _=>none
def FY (bad:Bool)(a:Option Addr)(j n len:Nat)(h:Heap)(K:Value->Heap->Bool):Bool:=cX (Nat.blt j len) (H9 a bad fun b o=>eZ (o+j*n) fun o=>K (.pointer (some ⟨b,o,none⟩)) h) bad
def ri (t:TypeId)(x i:Operand):nS:=fun cx _ ρ h K=>BT cx.bad (T5 cx.P t) fun inf=>Prod.rec (motive:=fun _=>Bool) (fun len n=>CC (ρ i) cx.bad fun _ j=>Un j cx.bad fun j=>
 Option.rec (motive:=fun _=>Bool) (BC (ρ x) cx.bad fun a l _=>FY cx.bad a j n l h K) (fun len=>Gg (ρ x) cx.bad fun a=>FY cx.bad a j n len h K) len) inf
def TO (P:Program)(t:TypeId):Bool:=match P.underlying t with | some .string=>true | _=>false
def J8 (t:TypeId)(x i:Operand):nS:=fun cx o ρ h K=>cX (TO cx.P t) (yO (ρ x) cx.bad fun s=>CC (ρ i) cx.bad fun _ j=>Un j cx.bad fun j=>BT cx.bad (XE s.data.toList j) fun b=>eZ b.toNat fun b=>K (.int .u8 (.ofNat b)) h) (oa cx o ρ h K)
def za (x:Operand)(i:Nat):nS:=fun cx _ ρ h K=>EB (ρ x) cx.bad fun vs=>BT cx.bad (XE vs.toList i) fun v=>gm v fun v=>K v h
def CN (ρ:Operand->Value)(l:List Operand):(List Value->Bool)->Bool:=List.rec (motive:=fun _=>(List Value->Bool)->Bool) (fun K=>K []) (fun x _ ih K=>gm (ρ x) fun v=>ih fun r=>K (v::r)) l
def Yu (fn:Fn)(bad:Bool)(K:FuncId->Bool)(Y:Nat->Bool):Bool:=Fn.rec (motive:=fun _=>Bool) K (fun _=>bad) (fun _ _=>bad) (fun _ _ _ _=>bad) Y fn
def wv (a:Array Value):Bool:=List.rec (motive:=fun _=>Bool) true (fun _ _ _=>false) a.toList
def Em (f:Operand)(args:Array Operand)(_:Array TypeId):nS:=fun cx _ ρ h K=>GL (ρ f) cx.bad fun fn first captured=>Yu fn cx.bad
 (fun g=>cX (Nat.blt g YB) (CN ρ args.toList fun vs=>wh (first.toList++vs++captured.toList) fun vs=>cx.cf g vs h K) cx.bad)
 (fun k=>cX (wv first) (cX (wv captured) (CN ρ args.toList fun vs=>eZ (YB+k) fun id=>cx.cf id vs h K) cx.bad) cx.bad)
def T0 (P:Program)(t:TypeId):Bool:=match P.underlying t with | some (.slice _)=>true | _=>false
def Ft (P:Program)(args:Array Operand)(ats:Array TypeId):Option Operand:=match args[0]?,ats[0]? with
 | some x,some t=>if T0 P t then some x else none
 | _,_=>none
def Qv (args:Array Operand)(ats:Array TypeId):nS:=fun cx o ρ h K=>Option.rec (motive:=fun _=>Bool) (oa cx o ρ h K) (fun x=>BC (ρ x) cx.bad fun _ n _=>K (.int .i64 (.ofNat n)) h) (Ft cx.P args ats)
def zb (args:Array Operand)(ats:Array TypeId):nS:=fun cx _ ρ h K=>Jy cx.bad (match args.toList,ats.toList with
  | [s,x],[t,t']=>aB cx.P t t' (ρ s) (ρ x) h
  | _,_=>none) h K
def dB (_:Array Operand)(_:Array TypeId):nS:=oa
def L4 (b:Builtin):Array Operand->Array TypeId->nS:=
 Builtin.rec (motive:=fun _=>Array Operand->Array TypeId->nS) zb dB dB dB dB dB dB dB Qv dB dB dB dB dB dB dB dB dB dB dB dB dB dB dB dB dB b
def PT (_:Operand)(_:String)(_:Array Operand)(_:Array TypeId):nS:=IT
def VN (callee:Callee)(args:Array Operand)(ats:Array TypeId):nS:=Callee.rec (motive:=fun _=>Array Operand->Array TypeId->nS) Em PT L4 callee args ats
def Q5 (c:Call):nS:=Call.rec (motive:=fun _=>nS) VN c
def UC (op:Op):nS:=Op.rec (motive:=fun _=>nS) KQ KQ QA J2 Vj (fun _ _=>oa) (fun _ _ _=>oa) (fun _ _ _ _=>oa) PO J3 (fun _=>oa) (fun _=>oa) wm Xs Wc AN (fun _ _=>oa) (fun _ _=>oa) (fun _ _ _=>oa) (fun _ _=>oa) (fun _ _=>oa) (fun _ _ _=>oa) (fun _ _ _ _ _=>oa) rR IW ri J8 (fun _ _ _ _=>oa) (fun _ _ _ _=>oa) (fun _ _ _=>oa) (fun _ _ _ _=>oa) (fun _ _=>oa) (fun _ _=>oa) (fun _=>oa) (fun _ _ _ _=>oa) za Q5 (fun _=>IT) (fun _=>IT) (fun _=>IT) (fun _ _=>IT) (fun _ _ _=>IT) (fun _ _=>IT) op
def Tt (b:Bool)(x y:Value):Value:=Bool.rec (motive:=fun _=>Value) y x b
def XO (t:Tmp)(_:Nat->Bool)(e:Env):Value:=Env.get t e
def SN (v:Value)(_:Nat->Bool)(_:Env):Value:=Tt (plain v) v junk
def QT (g:Nat)(gl:Nat->Bool)(_:Env):Value:=Tt (gl g) (.pointer (some ⟨g,0,none⟩)) junk
def Vf (f:FuncId)(_:Nat->Bool)(_:Env):Value:= .func (.func f) #[] #[]
def K6 (gl:Nat->Bool)(e:Env)(x:Operand):Value:=Operand.rec (motive:=fun _=>(Nat->Bool)->Env->Value) XO SN QT Vf x gl e
def Qu (ops:Array Oper)(j:Nat):Option Tmp:=(ops[j]?).bind (·.dst)
def A8 (v:Value):Bool->(Bool->Bool)->Bool->Bool:=Value.rec (motive_1:=fun _=>Bool->(Bool->Bool)->Bool->Bool) (motive_2:=fun _=>Unit) (motive_3:=fun _=>Unit) (fun b _ K _=>K b) (fun _ _ bad _ _=>bad) (fun _ _ bad _ _=>bad) (fun _ _ _ bad _ _=>bad) (fun _ bad _ _=>bad) (fun _ bad _ _=>bad) (fun _ _ _ bad _ _=>bad) (fun _ bad _ _=>bad) (fun _ bad _ _=>bad) (fun f a c _ _=>(fun _ _ _ bad _ _=>bad) f a c) (fun  bad _ _=>bad) (fun t v _=>(fun _ _ bad _ _=>bad) t v) (fun  bad _ _=>bad) (fun a _=>(fun _ bad _ _=>bad) a) (fun a _=>(fun _ _ _ sk=>sk) a) (fun _ _=>()) () (fun _ _ _ _=>()) v
def mW (n:Nat)(dst:Option Tmp)(e:Env)(v:Value)(K:Env->Bool):Bool:=Option.rec (motive:=fun _=>Bool) (K e) (fun d=>cX (Nat.blt d n) (Env.put d e v K) (K e)) dst
def zg (ops:Array Oper)(e:Env)(bad:Bool)(guard:Option (Nat×Bool))(run:Bool)(skip:Bool):Bool:=
 Option.rec (motive:=fun _=>Bool) run (fun g=>Prod.rec (motive:=fun _=>Bool) (fun j want=>BT bad (Qu ops j) fun d=>A8 (Env.get d e) bad (fun b=>Bool.rec (motive:=fun _=>Bool) (cX want skip run) (cX want run skip) b) skip) g) guard
def UB (cx:Cx)(ops:Array Oper)(o:Oper)(e:Env)(h:Heap)(K:Env->Heap->Bool):Bool:=
 zg ops e cx.bad o.guard (UC o.op cx o (K6 cx.gl e) h fun v h=>mW cx.n o.dst e v fun e=>K e h) (mW cx.n o.dst e undef fun e=>K e h)
def Iw (cx:Cx)(ops:Array Oper)(l:List Oper):Env->Heap->(Env->Heap->Bool)->Bool:=
 List.rec (motive:=fun _=>Env->Heap->(Env->Heap->Bool)->Bool) (fun e h K=>K e h) (fun o _ ih e h K=>UB cx ops o e h fun e h=>ih e h K) l
inductive Cls where
 | p | r | e | d
def WX (callee:Callee)(_:Array Operand)(_:Array TypeId):Cls:=Callee.rec (motive:=fun _=>Cls) (fun _=> .e) (fun _ _=> .d)
 (fun b=>Builtin.rec (motive:=fun _=>Cls) .e .d .d .d .d .d .d .d .r .d .d .d .d .d .d .d .d .d .d .d .d .d .d .d .d .d b) callee
def YO (c:Call):Cls:=Call.rec (motive:=fun _=>Cls) WX c
def LR (op:Op):Cls:=Op.rec (motive:=fun _=>Cls) (fun _=> .p) (fun _=> .p) (fun _ _ _=> .p) (fun _=> .d) (fun _ _=> .d) (fun _ _=> .d) (fun _ _ _=> .d) (fun _ _ _ _=> .d) (fun _ _=> .r) (fun _ _ _=> .e) (fun _=> .d) (fun _=> .d) (fun _=> .p) (fun _ _ _ _ _=> .p) (fun _ _ _=> .p) (fun _ _ _=> .d) (fun _ _=> .d) (fun _ _=> .d) (fun _ _ _=> .d) (fun _ _=> .d) (fun _ _=> .d) (fun _ _ _=> .d) (fun _ _ _ _ _=> .d) (fun _ _ _=> .p) (fun _ _ _=> .p) (fun _ _ _=> .p) (fun _ _ _=> .p) (fun _ _ _ _=> .d) (fun _ _ _ _=> .d) (fun _ _ _=> .d) (fun _ _ _ _=> .d) (fun _ _=> .d) (fun _ _=> .d) (fun _=> .d) (fun _ _ _ _=> .d) (fun _ _=> .p) YO (fun _=> .d) (fun _=> .d) (fun _=> .d) (fun _ _=> .d) (fun _ _ _=> .d) (fun _ _=> .d) op
def kz (base:Nat)(l:List (Nat×Blk))(h:Heap)(K:Heap->Bool):Bool:=
 List.rec (motive:=fun _=>(Heap->Bool)->Bool) (fun K=>K h) (fun x _ ih K=>Prod.rec (motive:=fun _=>Bool) (fun i b=>ih fun h=>HT.setK (some b) (bD (base+i)) h.t fun t=>K ⟨h.next,t⟩) x) l K
abbrev UN:=Ent->Value->Heap->List (Nat×Blk)->Bool
def Vx (cx:Cx)(bf:Nat->Nat->Bool)(base j:Nat)(o:Oper)(ρ:Operand->Value)(h:Heap)(pd:List (Nat×Blk))(K:UN):Bool:=
 Option.rec (motive:=fun _=>Bool) (Option.rec (motive:=fun _=>Bool) (Option.rec (motive:=fun _=>Bool)
   (kz base (pd.filter fun p=>bf j p.1) h fun h=>Jy cx.bad (bA cx.P dj ρ o h) h fun v h'=>K (.eff v h') v h' (pd.filter fun p=> !bf j p.1))
   (fun bf=>Prod.rec (motive:=fun _=>Bool) (fun B f=>Ie B fun B=>gm (f (base+j)) fun v=>K (.alloc B v) v h ((j,B)::pd)) bf) (aG cx.P ρ o))
  (fun v=>gm v fun v=>K (.read v) v h pd) (aH cx.P ρ o h)) (fun v=>gm v fun v=>K (.pure v) v h pd) (aD cx.P ρ o)
def Qj (cx:Cx)(bf:Nat->Nat->Bool)(base j:Nat)(o:Oper)(ρ:Operand->Value)(h:Heap)(pd:List (Nat×Blk))(K:UN):Bool:=
 Cls.rec (motive:=fun _=>Bool) (UC o.op cx o ρ h fun v _=>K (.pure v) v h pd) (UC o.op cx o ρ h fun v _=>K (.read v) v h pd)
  (kz base (pd.filter fun p=>bf j p.1) h fun h=>UC o.op cx o ρ h fun v h'=>K (.eff v h') v h' (pd.filter fun p=> !bf j p.1))
  (Vx cx bf base j o ρ h pd K) (LR o.op)
abbrev Fi:=Oper×Env×Ent
def fJ (cx:Cx)(ops:Array Oper)(bf:Nat->Nat->Bool)(base:Nat)(l:List Oper):Nat->Env->Heap->List (Nat×Blk)->(List Fi->Env->Heap->List (Nat×Blk)->Bool)->Bool:=
 List.rec (motive:=fun _=>Nat->Env->Heap->List (Nat×Blk)->(List Fi->Env->Heap->List (Nat×Blk)->Bool)->Bool) (fun _ e h pd K=>K [] e h pd)
  (fun o _ ih j e h pd K=>zg ops e cx.bad o.guard
   (Qj cx bf base j o (K6 cx.gl e) h pd fun ent v h pd=>mW cx.n o.dst e v fun e'=>ih (j+1) e' h pd fun recs e2 h2 pd2=>K ((o,e,ent)::recs) e2 h2 pd2)
   (mW cx.n o.dst e undef fun e'=>ih (j+1) e' h pd fun recs e2 h2 pd2=>K ((o,e,.skip)::recs) e2 h2 pd2)) l
def Xh (ent:Ent)(j:Nat)(r:List (Nat×Heap)):List (Nat×Heap):=Ent.rec (motive:=fun _=>List (Nat×Heap)) r (fun _=>r) (fun _=>r) (fun _ _=>r) (fun _ h=>(j,h)::r) ent
def CM (l:List Fi):Nat->List (Nat×Heap):=List.rec (motive:=fun _=>Nat->List (Nat×Heap)) (fun _=>[]) (fun x _ ih j=>Xh x.2.2 j (ih (j+1))) l
def vT (bf:Nat->Nat->Bool)(l:List (Nat×Heap)):Option Nat->Bool:=
 List.rec (motive:=fun _=>Option Nat->Bool) (fun _=>true) (fun x _ ih p=>Option.rec (motive:=fun _=>Bool) (ih (some x.1)) (fun p=>cX (bf x.1 p) (ih (some x.1)) false) p) l
def D6 (P:Program)(o:Oper)(ρ:Operand->Value)(v:Value)(h:Heap):Bool:=Option.rec (motive:=fun _=>Bool) false (fun v'=>cM 4 v v') (aH P ρ o h)
def yH (P:Program)(bf:Nat->Nat->Bool)(j:Nat)(o:Oper)(ρ:Operand->Value)(v:Value)(es:List (Nat×Heap)):Heap->Bool->Bool:=
 List.rec (motive:=fun _=>Heap->Bool->Bool) (fun h own=>cX own true (D6 P o ρ v h))
  (fun x _ ih h own=>cX (cX (cX own (Nat.blt j x.1) false) true (cX (bf j x.1) true (D6 P o ρ v h))) (cX (bf x.1 j) true (ih x.2 (Nat.blt x.1 j))) false) es
def TZ (cx:Cx)(bf:Nat->Nat->Bool)(h:Heap)(es:List (Nat×Heap))(j:Nat)(o:Oper)(e:Env)(ent:Ent)(r:Bool):Bool:=
 Ent.rec (motive:=fun _=>Bool) r (fun _=>r) (fun v=>cX (yH cx.P bf j o (K6 cx.gl e) v es h true) r false) (fun _ _=>r) (fun _ _=>r) ent
def Fe (cx:Cx)(bf:Nat->Nat->Bool)(h:Heap)(es:List (Nat×Heap))(l:List Fi):Nat->Bool:=
 List.rec (motive:=fun _=>Nat->Bool) (fun _=>true) (fun x _ ih j=>TZ cx bf h es j x.1 x.2.1 x.2.2 (ih (j+1))) l
def Ia (cx:Cx)(ops:Array Oper)(bf:Nat->Nat->Bool)(e:Env)(h:Heap)(K:Env->Heap->Bool):Bool:=
 eZ (h.next+ops.size) fun nx=>fJ cx ops bf h.next ops.toList 0 e ⟨nx,h.t⟩ [] fun recs e' h' pd=>
  cX (cX (vT bf (CM recs 0) none) (Fe cx bf ⟨nx,h.t⟩ (CM recs 0) recs 0) false) (kz h.next pd h' fun h'=>K e' h') cx.bad
abbrev io:=Cx->Env->Heap->(Exit->Env->Heap->Bool)->Bool
def ep (e:Exit)(norm:Bool)(ex:Nat->Bool)(els:Bool):Bool:=Exit.rec (motive:=fun _=>Bool) norm ex (fun _=>els) els (fun _=>els) els e
def Uc:io:=fun _ e h K=>K .normal e h
def Ym (a b:io):io:=fun cx e h K=>a cx e h fun x e h=>ep x (b cx e h K) (fun id=>K (.exit id) e h) (K x e h)
def WQ (c:Operand)(a b:io):io:=fun cx e h K=>wF (K6 cx.gl e c) cx.bad fun t=>cX t (a cx e h K) (b cx e h K)
def UF (id:Nat)(a:io):io:=fun cx e h K=>a cx e h fun x e h=>ep x (K .normal e h) (fun id'=>cX (Nat.beq id' id) (K .normal e h) (K (.exit id') e h)) (K x e h)
def WF (a:io):io:=fun cx e h K=>
 Nat.rec (motive:=fun _=>Env->Heap->Bool) (fun _ _=>cx.bad) (fun _ ih e h=>a cx e h fun x e h=>ep x (ih e h) (fun id=>K (.exit id) e h) (K x e h)) cx.N e h
def WH (id:Nat):io:=fun _ e h K=>K (.exit id) e h
def YW:io:=fun _ e h K=>K .ret e h
def Vw:io:=fun cx _ _ _=>cx.bad
def V5 (e:Env)(n:Nat):Nat->(List Value->Bool)->Bool:=Nat.rec (motive:=fun _=>Nat->(List Value->Bool)->Bool) (fun _ K=>K []) (fun _ ih i K=>gm (Env.get i e) fun v=>ih (i+1) fun l=>K (v::l)) n
def tM (l:List Value):Nat->Env->(Env->Bool)->Bool:=List.rec (motive:=fun _=>Nat->Env->(Env->Bool)->Bool) (fun _ e K=>K e) (fun v _ ih i e K=>gm v fun v=>Env.put i e v fun e=>ih (i+1) e K) l
def V0 (t:HT):(HT->Bool)->Bool:=HT.rec (motive:=fun _=>(HT->Bool)->Bool) (fun K=>K .nil) (fun v _ _ ihl ihr K=>ihl fun l=>ihr fun r=>Option.rec (motive:=fun _=>Bool) (K (.node none l r)) (fun B=>Ie B fun B=>K (.node (some B) l r)) v) t
def R7 (cx:Cx)(ops:Array Oper)(e:Env)(h:Heap)(K:Env->Heap->Bool):Bool:=
 V5 e cx.n 0 fun l=>Option.rec (motive:=fun _=>Bool) cx.bad (fun r=>cX (Nat.beq r.1.length cx.n) (tM r.1 0 wk fun e=>eZ r.2.next fun nx=>V0 r.2.t fun t=>K e ⟨nx,t⟩) cx.bad) (Gf cx.P cx.gl ops (ba (ck ops)) l h)
def RV (_:Nat)(ops:Array Oper)(draw:Bool):io:=fun cx e h K=>cX draw (cX (pO ops) (R7 cx ops e h fun e h=>K .normal e h) (Ia cx ops (ba (ck ops)) e h fun e h=>K .normal e h)) (Iw cx ops ops.toList e h fun e h=>K .normal e h)
def XQ (asg body:Code)(bad:Bool)(K:gJ asg body=true->Bool):Bool:=Bool.rec (motive:=fun b=>gJ asg body=b->Bool) (fun _=>bad) K (gJ asg body) rfl
def nG (b:Option Blk)(bad:Bool)(K:LSt->List Value->List Tmp->(asg body:Code)->gJ asg body=true->Bool):Bool:=
 Option.rec (motive:=fun _=>Bool) bad (fun b=>Blk.rec (motive:=fun _=>Bool) (fun _ _ _ _=>bad) (fun _=>bad) K b) b
def KY (st:LSt)(bad:Bool)(K:Exit->Bool):Bool:=LSt.rec (motive:=fun _=>Bool) (K .normal) bad (K .ret) (fun id=>K (.exit id)) st
def Az (st:LSt)(bad x:Bool):Bool:=LSt.rec (motive:=fun _=>Bool) x bad bad (fun _=>bad) st
def PZ (x:Exit)(bad:Bool)(K:Bool->LSt->Bool):Bool:=Exit.rec (motive:=fun _=>Bool) (K true .ready) (fun id=>K false (.exit id)) (fun _=>bad) (K false .ret) (fun _=>bad) bad x
def O7 (n:Nat)(l:List (Tmp×Value)):Env->(Env->Bool)->Bool:=List.rec (motive:=fun _=>Env->(Env->Bool)->Bool) (fun e K=>K e) (fun p _ ih e K=>mW n (some p.1) e p.2 fun e=>ih e K) l
def Jx (f:Operand)(ps:Array Tmp)(asg body:Code):io:=fun cx e h K=>GL (K6 cx.gl e f) cx.bad fun fn first captured=>Yu fn cx.bad (fun g=>XQ asg body cx.bad fun ok=>cX (Nat.blt g YB) (cX (pc cx.P g)
 (V5 e cx.n 0 fun tm=>wh (first.toList++[.func (.yield h.next) #[] #[]]++captured.toList) fun vs=>rA (.loop .ready tm ps.toList asg body ok) h fun h1=>cx.cf g vs h1 fun _ h2=>
  nG (h2.get h.next) cx.bad fun st _ _ _ _ _=>KY st cx.bad fun x=>HT.setK none (bD h.next) h2.t fun t=>K x e ⟨h2.next,t⟩) cx.bad) cx.bad) (fun _=>cx.bad)
def eH (c:Code):io:=
 Code.rec (motive:=fun _=>io) Uc RV (fun _ _=>Ym) (fun c _ _=>WQ c) (fun id _=>UF id) (fun _=>WF) (fun f ps asg body _ _=>Jx f ps asg body) WH (fun _ _=>Vw) (fun _=>Uc) (fun _=>Vw) YW (fun _=>Vw) c
def yp (P:Program)(e:Env)(h:Heap)(bad:Bool)(l:List ResultVar):(List Value->Bool)->Bool:=
 List.rec (motive:=fun _=>(List Value->Bool)->Bool) (fun K=>K []) (fun r _ ih K=>ResultVar.rec (motive:=fun _=>Bool) (fun t=>gm (Env.get t e) fun v=>ih fun vs=>K (v::vs)) (fun a t=>BT bad (ah P t h (Env.get a e)) fun v=>ih fun vs=>K (v::vs)) r) l
def SU (x:Exit)(bad r:Bool):Bool:=Exit.rec (motive:=fun _=>Bool) r (fun _=>bad) (fun _=>bad) r (fun _=>bad) bad x
def ET (mk:Nat->Cx)(bad:Bool)(k:Nat)(args:List Value)(h:Heap)(K:Value->Heap->Bool):Bool:=
 nG (h.get k) bad fun st tm ps asg body _=>Az st bad (cX (Nat.beq args.length ps.length) (eZ tm.length fun n=>cX (Nat.ble n 256)
  (tM tm 0 wk fun e=>O7 n (ps.zip args) e fun e=>eH asg (mk n) e h fun x e h1=>ep x
   (nG (h1.get k) bad fun st' tm' ps' asg' body' ok'=>Az st' bad (HT.setK (some (.loop .busy tm' ps' asg' body' ok')) (bD k) h1.t fun t=>eH body (mk n) e ⟨h1.next,t⟩ fun x _ h2=>
    nG (h2.get k) bad fun _ tm2 ps2 asg2 body2 ok2=>PZ x bad fun b st2=>HT.setK (some (.loop st2 tm2 ps2 asg2 body2 ok2)) (bD k) h2.t fun t=>K (.bool b) ⟨h2.next,t⟩))
   (fun _=>bad) bad) bad) bad)
abbrev kJ:=(FuncId->List Value->Heap->(Value->Heap->Bool)->Bool)->List Value->Heap->(Value->Heap->Bool)->Bool
def qX (P:Program)(gl:Nat->Bool)(pr:FuncId->Option (kJ))(bad:Bool)(fuel:Nat):FuncId->List Value->Heap->(Value->Heap->Bool)->Bool:=
 Nat.rec (motive:=fun _=>FuncId->List Value->Heap->(Value->Heap->Bool)->Bool) (fun _ _ _ _=>bad)
  (fun n ih f args h K=>cX (Nat.ble YB f) (eZ (f - YB) fun k=>ET (fun nt=>⟨P,gl,ih,n,nt,bad⟩) bad k args h K) (Option.rec (motive:=fun _=>Bool)
   (BT bad (P.funcs[f]?) fun fn=>BT bad fn.body fun c=>cX (Nat.ble fn.ntmps 256 && Nat.ble args.length fn.ntmps)
    (tM args 0 wk fun e=>eH c ⟨P,gl,ih,n,fn.ntmps,bad⟩ e h fun x e h=>SU x bad (yp P e h bad fn.results.toList fun vs=>K (aI vs) h)) bad)
   (fun p=>p ih args h K) (pr f))) fuel
end
end
end Go.Ab
end
section
namespace Go.Ab
section
theorem HT.get_nil: ∀ p,HT.get p .nil=none
 | .e=>rfl
 | .l _=>rfl
 | .r _=>rfl
theorem HT.get_set_same (b:Option Blk): ∀ (p:Pth)(t:HT),HT.get p (HT.set b p t)=b
 | .e,.nil=>rfl
 | .e,.node .. =>rfl
 | .l p,.nil=>HT.get_set_same b p .nil
 | .l p,.node _ l _=>HT.get_set_same b p l
 | .r p,.nil=>HT.get_set_same b p .nil
 | .r p,.node _ _ r=>HT.get_set_same b p r
theorem HT.get_set_ne (b:Option Blk): ∀ (p q:Pth)(t:HT),q≠p->HT.get q (HT.set b p t)=HT.get q t
 | .e,.e,_,h=>absurd rfl h
 | .e,.l q,.nil,_=>HT.get_nil q
 | .e,.r q,.nil,_=>HT.get_nil q
 | .e,.l _,.node ..,_=>rfl
 | .e,.r _,.node ..,_=>rfl
 | .l p,.e,.nil,_=>rfl
 | .l p,.e,.node ..,_=>rfl
 | .l p,.l q,.nil,h=>(HT.get_set_ne b p q .nil (fun e=>h (by rw [e]))).trans (HT.get_nil q)
 | .l p,.l q,.node _ l _,h=>HT.get_set_ne b p q l (fun e=>h (by rw [e]))
 | .l p,.r q,.nil,_=>HT.get_nil q
 | .l p,.r q,.node ..,_=>rfl
 | .r p,.e,.nil,_=>rfl
 | .r p,.e,.node ..,_=>rfl
 | .r p,.r q,.nil,h=>(HT.get_set_ne b p q .nil (fun e=>h (by rw [e]))).trans (HT.get_nil q)
 | .r p,.r q,.node _ _ r,h=>HT.get_set_ne b p q r (fun e=>h (by rw [e]))
 | .r p,.l q,.nil,_=>HT.get_nil q
 | .r p,.l q,.node ..,_=>rfl
def Pth.num:Pth->Nat
 | .e=>0
 | .l p=>2*p.num+1
 | .r p=>2*p.num+2
theorem C4: ∀ (f n:Nat),n < f->(AL f n).num=n
 | 0,_,h=>absurd h (by omega)
 | f+1,0,_=>rfl
 | f+1,k+1,h=>by
  have ih:=C4 f (k / 2) (by omega)
  have hu:AL (f+1) (k+1)=Nat.rec (motive:=fun _=>Pth) (.l (AL f (k / 2))) (fun _ _=> .r (AL f (k / 2))) (k % 2):=rfl
  rw [hu]
  rcases Nat.mod_two_eq_zero_or_one k with hk | hk
  ·rw [hk]; show 2*(AL f (k / 2)).num+1=k+1; rw [ih]; omega
  ·rw [hk]; show 2*(AL f (k / 2)).num+2=k+1; rw [ih]; omega
theorem z8 (n:Nat):(bD n).num=n:=C4 (n+1) n (by omega)
theorem vo {k j:Nat}(h:j≠k):bD j≠bD k:=fun e=>h (by rw [<-z8 j,e,z8])
section
variable (h:Heap) (k j:Nat) (b:Blk)
theorem Heap.get_set_same:(h.set k b).get k=some b:=HT.get_set_same _ _ _
theorem Heap.get_set_ne (hne:j≠k):(h.set k b).get j=h.get j:=HT.get_set_ne _ _ _ _ (vo hne)
theorem Heap.get_del_same:(h.del k).get k=none:=HT.get_set_same _ _ _
theorem Heap.get_del_ne (hne:j≠k):(h.del k).get j=h.get j:=HT.get_set_ne _ _ _ _ (vo hne)
theorem Heap.get_push_same:(h.push b).get h.next=some b:=HT.get_set_same _ _ _
theorem Heap.get_push_ne (hne:j≠h.next):(h.push b).get j=h.get j:=HT.get_set_ne _ _ _ _ (vo hne)
@[simp] theorem Heap.next_set:(h.set k b).next=h.next:=rfl
@[simp] theorem Heap.next_del:(h.del k).next=h.next:=rfl
@[simp] theorem Heap.next_push:(h.push b).next=h.next+1:=rfl
theorem Heap.get_set:(h.set k b).get j=if j=k then some b else h.get j:=by
 split
 ·next e=>subst e; exact h.get_set_same j b
 ·next e=>exact h.get_set_ne k j b e
theorem Heap.get_del:(h.del k).get j=if j=k then none else h.get j:=by
 split
 ·next e=>subst e; exact h.get_del_same j
 ·next e=>exact h.get_del_ne k j e
theorem Heap.get_push:(h.push b).get j=if j=h.next then some b else h.get j:=by
 split
 ·next e=>subst e; exact h.get_push_same b
 ·next e=>exact h.get_push_ne j b e
end
structure Slot where
 b:Nat
 s:Nat
 n:Nat
 t:TypeId
 sz:Nat
 isMap:Bool
abbrev Inj:=Nat->Option Slot
def Inj.le (β β':Inj):Prop:= ∀ k sl,β k=some sl->β' k=some sl
theorem Inj.le_refl (β:Inj):β.le β:=fun _ _ h=>h
theorem Inj.le_trans {a b c:Inj}(h:a.le b)(h':b.le c):a.le c:=fun k sl hk=>h' k sl (h k sl hk)
def S7:Fn->Bool
 | .yield _=>true
 | _=>false
inductive VRel (β:Inj):Value->Value->Prop where
 | junk (v:Value):VRel β (.chan (some 0)) v
 | bool (b:Bool):VRel β (.bool b) (.bool b)
 | int (k:IntKind) (n:Int):VRel β (.int k n) (.int k n)
 | float (k:FloatKind) (n:Nat):VRel β (.float k n) (.float k n)
 | complex (k:FloatKind) (m n:Nat):VRel β (.complex k m n) (.complex k m n)
 | string (s:ByteArray):VRel β (.string s) (.string s)
 | nilPtr:VRel β (.pointer none) (.pointer none)
 | ptr {k i:Nat} {sl:Slot} (h:β k=some sl) (hm:sl.isMap=false):VRel β (.pointer (some ⟨k,i,none⟩)) (.pointer (some ⟨sl.b,sl.s+i,none⟩))
 | nilSlice:VRel β (.slice none 0 0) (.slice none 0 0)
 | slice {k i n c i' c':Nat} {sl:Slot} (h:β k=some sl) (hm:sl.isMap=false) (hx:c < bm->c'=c) (ho:bm<=c->c - bm<=c') (hn:n<=aN c)
   (hi:i'=sl.s+i\/(n=0/\c'=0)) (hz:sl.sz=0\/i'+c'*sl.sz<=sl.n):VRel β (.slice (some ⟨k,i,none⟩) n c) (.slice (some ⟨sl.b,i',none⟩) n c')
 | dead (a:Addr):VRel β (.slice (some ⟨0,0,some 0⟩) 0 0) (.slice (some a) 0 0)
 | nilMap:VRel β (.map none) (.map none)
 | map {k:Nat} {sl:Slot} (h:β k=some sl) (hm:sl.isMap=true):VRel β (.map (some k)) (.map (some sl.b))
 | func {fn:Fn} {a a' c c':Array Value} (hy:S7 fn=false) (ha:a.size=a'.size) (hc:c.size=c'.size) (ra: ∀ (i:Nat) v v',a[i]?=some v->a'[i]?=some v'->VRel β v v')
   (rc: ∀ (i:Nat) v v',c[i]?=some v->c'[i]?=some v'->VRel β v v'):VRel β (.func fn a c) (.func fn a' c')
 | yield {k:Nat} {sl:Slot} (h:β k=some sl) {a c:Array Value} (ha:a.size=0) (hc:c.size=0):VRel β (.func (.yield k) a c) (.func (.yield sl.b) a c)
 | nilFunc:VRel β .nilFunc .nilFunc
 | iface (t:TypeId) {v v':Value} (h:VRel β v v'):VRel β (.iface t v) (.iface t v')
 | nilIface:VRel β .nilIface .nilIface
 | agg {a a':Array Value} (hs:a.size=a'.size) (h: ∀ (i:Nat) v v',a[i]?=some v->a'[i]?=some v'->VRel β v v'):VRel β (.agg a) (.agg a')
 | tuple {a a':Array Value} (hs:a.size=a'.size) (h: ∀ (i:Nat) v v',a[i]?=some v->a'[i]?=some v'->VRel β v v'):VRel β (.tuple a) (.tuple a')
theorem VRel.mono {β β':Inj}(hβ:β.le β'){v v':Value}(h:VRel β v v'):VRel β' v v':=by
 induction h with
 | junk v=>exact .junk v
 | bool b=>exact .bool b
 | int k n=>exact .int k n
 | float k n=>exact .float k n
 | complex k m n=>exact .complex k m n
 | string s=>exact .string s
 | nilPtr=>exact .nilPtr
 | ptr h hm=>exact .ptr (hβ _ _ h) hm
 | nilSlice=>exact .nilSlice
 | slice h hm hx ho hn hi hz=>exact .slice (hβ _ _ h) hm hx ho hn hi hz
 | dead a=>exact .dead a
 | nilMap=>exact .nilMap
 | map h hm=>exact .map (hβ _ _ h) hm
 | yield h ha hc=>exact .yield (hβ _ _ h) ha hc
 | func hy ha hc _ _ ra rc=>exact .func hy ha hc (fun i v v' h h'=>ra i v v' h h') (fun i v v' h h'=>rc i v v' h h')
 | nilFunc=>exact .nilFunc
 | iface t _ ih=>exact .iface t ih
 | nilIface=>exact .nilIface
 | agg hs _ ih=>exact .agg hs fun i v v' h h'=>ih i v v' h h'
 | tuple hs _ ih=>exact .tuple hs fun i v v' h h'=>ih i v v' h h'
theorem VRel.undef (β:Inj):VRel β undef undef:= .tuple rfl (fun i v v' h=>by simp at h)
theorem VRel.of_bare {β:Inj}{v:Value}(h:nV v=true):VRel β v v:=by
 unfold nV at h
 split at h <;> first
  | exact .bool _ | exact .int _ _ | exact .float _ _ | exact .complex _ _ _ | exact .string _ | exact .nilPtr | exact .nilSlice | exact .nilMap | exact .nilFunc | exact .nilIface
  | cases h
theorem VRel.of_bares {β:Inj}{cs:Array Value}(h:cs.toList.all nV=true)(i:Nat)(v v':Value)(h1:cs[i]?=some v)(h2:cs[i]?=some v'):VRel β v v':=by
 rw [h1] at h2
 obtain rfl:=oI h2
 refine .of_bare (List.all_eq_true.1 h v ?_)
 rw [<-Array.getElem?_toList] at h1
 exact List.mem_of_getElem? h1
theorem VRel.of_plain {β:Inj}{v:Value}(h:plain v=true):VRel β v v:=by
 unfold plain at h
 split at h
 ·exact .agg rfl (VRel.of_bares h)
 ·refine .tuple rfl fun i v v' h1 h2=> ?_
  rw [h1] at h2
  obtain rfl:=oI h2
  rw [<-Array.getElem?_toList] at h1
  have:=List.all_eq_true.1 h v (List.mem_of_getElem? h1)
  split at this
  ·exact .agg rfl (VRel.of_bares this)
  ·exact .of_bare this
 ·exact .of_bare h
def ARel (β:Inj)(a a':Array Value):Prop:=a.size=a'.size/\ ∀ (i:Nat) v v',a[i]?=some v->a'[i]?=some v'->VRel β v v'
def LRel (β:Inj)(l l':List Value):Prop:=l.length=l'.length/\ ∀ (i:Nat) v v',l[i]?=some v->l'[i]?=some v'->VRel β v v'
theorem ARel.toList {β:Inj}{a a':Array Value}:ARel β a a'↔LRel β a.toList a'.toList:=by simp [ARel,LRel]
theorem LRel.nil (β:Inj):LRel β [] []:=⟨rfl,fun i v v' h=>by simp at h⟩
theorem LRel.cons {β:Inj}{v v':Value}{l l':List Value}(h:VRel β v v')(hl:LRel β l l'):LRel β (v::l) (v'::l'):=
 ⟨by simp [hl.1],fun i a a' h1 h2=>by
  cases i with
  | zero=>simp at h1 h2; subst h1; subst h2; exact h
  | succ i=>exact hl.2 i a a' (by simpa using h1) (by simpa using h2)⟩
theorem LRel.head {β:Inj}{v v':Value}{l l':List Value}(h:LRel β (v::l) (v'::l')):VRel β v v':=h.2 0 v v' rfl rfl
theorem LRel.tail {β:Inj}{v v':Value}{l l':List Value}(h:LRel β (v::l) (v'::l')):LRel β l l':=
 ⟨by have:=h.1; simp at this; exact this,fun i a a' h1 h2=>h.2 (i+1) a a' (by simpa using h1) (by simpa using h2)⟩
theorem LRel.inv_nil {β:Inj}{l:List Value}(h:LRel β [] l):l=[]:=List.eq_nil_of_length_eq_zero h.1.symm
theorem LRel.inv_cons {β:Inj}{v:Value}{l l':List Value}(h:LRel β (v::l) l'): ∃ v' r,l'=v'::r/\VRel β v v'/\LRel β l r:=by
 cases l' with
 | nil=>have:=h.1; simp at this
 | cons v' r=>exact ⟨v',r,rfl,h.head,h.tail⟩
theorem LRel.mono {β β':Inj}(hβ:β.le β'){l l':List Value}(h:LRel β l l'):LRel β' l l':=⟨h.1,fun i v v' h1 h2=>(h.2 i v v' h1 h2).mono hβ⟩
theorem LRel.append {β:Inj}: ∀ {a a' b b':List Value},LRel β a a'->LRel β b b'->LRel β (a++b) (a'++b')
 | [],a',b,b',h,h'=>by rw [h.inv_nil]; exact h'
 | v::a,a',b,b',h,h'=>by
  obtain ⟨v',r,rfl,hv,hr⟩:=h.inv_cons
  exact .cons hv (hr.append h')
theorem LRel.map {β:Inj}{α:Type}(l:List α){f f':α->Value}(h: ∀ x∈l,VRel β (f x) (f' x)):LRel β (l.map f) (l.map f'):=
 ⟨by simp,fun i v v' h1 h2=>by
  simp only [List.getElem?_map,Option.map_eq_some_iff] at h1 h2
  obtain ⟨x,hx,rfl⟩:=h1
  obtain ⟨y,hy,rfl⟩:=h2
  rw [hx] at hy
  obtain rfl:=oI hy
  exact h x (List.mem_of_getElem? hx)⟩
theorem VRel.scalar_one {β:Inj}{v v':Value}(h:VRel β v v')(hs:bL v=true):v'.oneCell'=true/\v.cells = #[v]/\v'.cells = #[v']:=by
 cases h <;> first | (simp [bL] at hs; done) | exact ⟨rfl,rfl,rfl⟩
theorem VRel.cells {β:Inj}{v v':Value}(h:VRel β v v')(hj:v≠Ab.junk):ARel β v.cells v'.cells:=by
 cases h with
 | junk=>exact absurd rfl hj
 | agg hs h=>exact ⟨hs,h⟩
 | _=>
  refine ⟨rfl,fun i a a' h1 h2=> ?_⟩
  cases i with
  | zero=>simp [Value.cells] at h1 h2; subst h1; subst h2; constructor <;> assumption
  | succ i=>simp [Value.cells] at h1
end
end Go.Ab
end
section
namespace Go.Ab
open Go
section
variable {β:Inj} {P:Program}
theorem VRel.inv_int {k:IntKind}{n:Int}{v':Value}(h:VRel β (.int k n) v'):v' = .int k n:=by cases h; rfl
theorem VRel.inv_bool {b:Bool}{v':Value}(h:VRel β (.bool b) v'):v' = .bool b:=by cases h; rfl
theorem VRel.inv_string {s:ByteArray}{v':Value}(h:VRel β (.string s) v'):v' = .string s:=by cases h; rfl
theorem VRel.inv_ptr {k i:Nat}{v':Value}(h:VRel β (.pointer (some ⟨k,i,none⟩)) v'): ∃ sl,β k=some sl/\sl.isMap=false/\v' = .pointer (some ⟨sl.b,sl.s+i,none⟩):=by
  cases h with
  | ptr h hm=>exact ⟨_,h,hm,rfl⟩
theorem VRel.inv_pointer {a:Addr}{v':Value}(h:VRel β (.pointer (some a)) v'): ∃ sl,β a.block=some sl/\sl.isMap=false/\a.spot=none/\v' = .pointer (some ⟨sl.b,sl.s+a.off,none⟩):=by
  cases h with
  | ptr h hm=>exact ⟨_,h,hm,rfl,rfl⟩
theorem VRel.inv_agg {a:Array Value}{v':Value}(h:VRel β (.agg a) v'): ∃ a',v' = .agg a'/\ARel β a a':=by
  cases h with
  | agg hs h=>exact ⟨_,rfl,hs,h⟩
theorem VRel.inv_tuple {a:Array Value}{v':Value}(h:VRel β (.tuple a) v'): ∃ a',v' = .tuple a'/\ARel β a a':=by
  cases h with
  | tuple hs h=>exact ⟨_,rfl,hs,h⟩
theorem VRel.inv_iface {t:TypeId}{v v':Value}(h:VRel β (.iface t v) v'): ∃ u,v' = .iface t u/\VRel β v u:=by
  cases h with
  | iface _ h=>exact ⟨_,rfl,h⟩
theorem VRel.inv_nilIface {v':Value}(h:VRel β .nilIface v'):v' = .nilIface:=by cases h; rfl
theorem VRel.inv_nilSlice {n c:Nat}{v':Value}(h:VRel β (.slice none n c) v'):n=0/\c=0/\v' = .slice none 0 0:=by cases h; exact ⟨rfl,rfl,rfl⟩
theorem VRel.inv_map {k:Nat}{v':Value}(h:VRel β (.map (some k)) v'): ∃ sl,β k=some sl/\sl.isMap=true/\v' = .map (some sl.b):=by
  cases h with
  | map h hm=>exact ⟨_,h,hm,rfl⟩
theorem VRel.inv_nilMap {v':Value}(h:VRel β (.map none) v'):v' = .map none:=by cases h; rfl
theorem VRel.inv_nilPtr {v':Value}(h:VRel β (.pointer none) v'):v' = .pointer none:=by cases h; rfl
theorem VRel.inv_slice {k i n c:Nat}{v':Value}(h:VRel β (.slice (some ⟨k,i,none⟩) n c) v'): ∃ sl i' c',β k=some sl/\sl.isMap=false/\(none:Option Nat)=none/\v' = .slice (some ⟨sl.b,i',none⟩) n c'/\
    (c < bm->c'=c)/\(bm<=c->c - bm<=c')/\n<=aN c/\(i'=sl.s+i\/(n=0/\c'=0))/\(sl.sz=0\/i'+c'*sl.sz<=sl.n):=by
  cases h with
  | slice h hm hx ho hn hi hz=>exact ⟨_,_,_,h,hm,rfl,rfl,hx,ho,hn,hi,hz⟩
theorem VRel.inv_sliceA {a:Addr}{n c:Nat}{v':Value}(h:VRel β (.slice (some a) n c) v'):(∃ k i,a=⟨k,i,none⟩)\/(a=⟨0,0,some 0⟩/\n=0/\c=0/\ ∃ a',v' = .slice (some a') 0 0):=by
  cases h with
  | slice h hm hx ho hn hi hz=>exact .inl ⟨_,_,rfl⟩
  | dead a=>exact .inr ⟨rfl,rfl,rfl,_,rfl⟩
theorem VRel.inv_some {a:Addr}{n c:Nat}{v':Value}(h:VRel β (.slice (some a) n c) v'): ∃ a' c',v' = .slice (some a') n c':=by
  cases h with
  | slice h hm hx ho hn hi hz=>exact ⟨_,_,rfl⟩
  | dead a=>exact ⟨_,_,rfl⟩
theorem ARel.get {a a':Array Value}(h:ARel β a a'){i:Nat}{v:Value}(hv:a[i]?=some v): ∃ v',a'[i]?=some v'/\VRel β v v':=by
  have hi:i < a.size:=(Array.getElem?_eq_some_iff.1 hv).1
  have hi':i < a'.size:=h.1 ▸ hi
  exact ⟨a'[i],Array.getElem?_eq_getElem hi',h.2 i v _ hv (Array.getElem?_eq_getElem hi')⟩
theorem LRel.get {a a':List Value}(h:LRel β a a'){i:Nat}{v:Value}(hv:a[i]?=some v): ∃ v',a'[i]?=some v'/\VRel β v v':=by
  have hi:i < a.length:=(List.getElem?_eq_some_iff.1 hv).1
  have hi':i < a'.length:=h.1 ▸ hi
  exact ⟨a'[i],gE hi',h.2 i v _ hv (gE hi')⟩
theorem av {t:TypeId}{d:TypeDesc}(h:P.underlying t=some d)(w:World):(underlying t).run P w = .ok d w:=run_underlying h w
theorem pE {t:TypeId}{i:TypeInfo}(h:P.info? t=some i)(w:World):(typeInfo t).run P w = .ok i w:=by simp [typeInfo,h]
theorem iO {t:TypeId}{n:Nat}(h:aq P t=some n): ∃ i,P.info? t=some i/\i.size=n:=by
  unfold aq at h
  cases hi:P.info? t with
  | none=>simp [hi] at h
  | some i=>exact ⟨i,rfl,by simpa [hi] using h⟩
theorem bG {t:TypeId}{n:Nat}(h:aq P t=some n)(w:World):(sizeOf t).run P w = .ok n w:=by
  obtain ⟨i,hi,rfl⟩:=iO h
  simp [sizeOf,pE hi]
theorem bZ {t:TypeId}{z:Value}(h:cp P t=some z):plain z=true/\ ∃ i,P.info? t=some i/\i.zero=some z:=by
  unfold cp at h
  cases hi:P.info? t with
  | none=>simp [hi] at h
  | some i=>
    simp only [hi] at h
    cases hz:i.zero with
    | none=>simp [hz] at h
    | some z'=>
      simp only [hz] at h
      split at h
      · next hp=>obtain rfl:=oI h; exact ⟨hp,i,rfl,hz⟩
      · cases h
theorem jj {t:TypeId}{z:Value}(h:cp P t=some z)(w:World):(zeroValue t).run P w = .ok z w:=by
  obtain ⟨_,i,hi,hz⟩:=bZ h
  simp [zeroValue,pE hi,hz]
theorem qp {t:TypeId}{d:TypeDesc}(h:P.underlying t=some d)(w:World):(Go.isAgg t).run P w = .ok (Ab.isAgg P t) w:=by
  simp only [Go.isAgg,Sem.run_bind,av h,Result.andThen_ok,Ab.isAgg,h]
  cases d <;> rfl
theorem BF: ∀ x y:List UInt8,mJ x y=Op.bytesLess x y
  | [],[]=>rfl
  | _::_,[]=>rfl
  | [],_::_=>rfl
  | a::x,b::y=>by simp [mJ,Op.bytesLess,BF x y]
theorem Ao {a b:ByteArray}(h:a.data.toList=b.data.toList):a=b:=by
  cases a; cases b; simp only [ByteArray.mk.injEq]; exact Array.ext' h
theorem MS (a b:ByteArray):(⟨(a.data.toList++b.data.toList).toArray⟩:ByteArray)=a++b:=by
  apply Ao; simp
theorem NO {op:BinOp}{x y:ByteArray}{v:Value}(h:DZ op x.data.toList y.data.toList=some v)(w:World):(Op.stringOp op x y).run P w = .ok v w:=by
  unfold DZ at h
  unfold Op.stringOp
  simp only [ByteArray.toList_eq]
  cases op <;> simp only [] at h <;> first
    | (simp only [Option.some.injEq] at h; subst h; simp [BF]; done)
    | (cases h; done)
    | skip
  split at h
  · next hl=>
    obtain rfl:=oI h
    simp only [Sem.run_ite,run_unsupported,Sem.run_pure]
    rw [if_neg]
    · simp only [aa,MS]
    · have hx:x.data.toList.length=x.size:=by simp
      have hy:y.data.toList.length=y.size:=by simp
      rw [hx,hy] at hl
      have:IntKind.i64.max=9223372036854775807:=by decide
      omega
  · cases h
theorem Mn {op:BinOp}{t:TypeId}{k:IntKind}{k':IntKind}{a b:Int}{v:Value}(h:am P op t (.int k a) (.int k' b)=some v)(w:World):(binOp op t (.int k a) (.int k' b)).run P w = .ok v w:=by
  simp only [am] at h
  unfold binOp
  cases op <;> simp only [] at h <;> first
    | (split at h
       · next hb=>
         obtain rfl:=oI h
         simp only [Op.shift,Sem.run_ite]
         rw [if_neg (by omega)]
         rfl
       · cases h
       done)
    | (split at h
       · next hk=>
         subst hk
         simp only [ne_eq,not_true_eq_false,if_false]
         first
           | (obtain rfl:=oI h; rfl)
           | (split at h
              · cases h
              · next hb=>obtain rfl:=oI h; simp [Op.intDiv,hb])
           | (obtain ⟨r,hr,rfl⟩:=Option.map_eq_some_iff.1 h; exact intCmp_sim hr w)
       · cases h)
theorem C0 (a b:ByteArray):(a.data.toList == b.data.toList)=(a == b):=by
  rw [beq_toListBytes,ByteArray.toList_eq,ByteArray.toList_eq]
theorem AR {x y:Value}{b:Bool}{t:TypeId}(hb:An P t x y=some b)(d:Nat)(w:World):(Op.equalIn (d+1) t x y).run P w = .ok b w:=by
  unfold An at hb
  split at hb
  · next hu=>obtain rfl:=oI hb; exact run_equalIn_bool' w d t _ _ hu
  · next hu=>
    split at hb
    · next hk=>subst hk; obtain rfl:=oI hb; exact run_equalIn_int w d t _ _ _ _ hu
    · cases hb
  · next hu=>obtain rfl:=oI hb; rw [run_equalIn_string w d t _ _ hu]; simp [ByteArray.toList_eq]
  · cases hb
theorem xd {x y:Value}{b:Bool}{t:TypeId}(hb:An P t x y=some b): ∃ d,P.underlying t=some d/\isAgg P t=false:=by
  unfold An at hb
  split at hb
  · next hu=>exact ⟨_,hu,by simp [isAgg,hu]⟩
  · next hu=>exact ⟨_,hu,by simp [isAgg,hu]⟩
  · next hu=>exact ⟨_,hu,by simp [isAgg,hu]⟩
  · cases hb
theorem sC {t:TypeId}{d:TypeDesc}(hu:P.underlying t=some d)(ha:isAgg P t=false){cs:Array Value}{off:Nat}{v:Value}(hv:cs[off]?=some v)(w:World):(part t cs off).run P w = .ok v w:=by
  simp [part,qp hu,ha,hv]
theorem AA {xs ys:Array Value}(d:Nat)(w:World): ∀ (fs:List Field)(i:Nat)(l m:List Value){b:Bool},xs.toList.drop i=l->ys.toList.drop i=m->gA P fs i l m=some b->
    (Op.eqFields (d+1) xs ys fs).run P w = .ok b w
  | [],_,_,_,b,_,_,h=>by simp only [gA] at h; obtain rfl:=oI h; rfl
  | f::fs,i,[],_,b,_,_,h=>by simp [gA] at h
  | f::fs,i,_::_,[],b,_,_,h=>by simp [gA] at h
  | f::fs,i,x::l,y::m,b,hl,hm,h=>by
    simp only [gA] at h
    split at h
    · next hc=>
      obtain ⟨ho,hn⟩:=hc
      have hx:xs[f.offset]?=some x:=by
        have:(xs.toList.drop i)[0]?=some x:=by rw [hl]; rfl
        rw [List.getElem?_drop] at this
        rw [ho,<-Array.getElem?_toList]; simpa using this
      have hy:ys[f.offset]?=some y:=by
        have:(ys.toList.drop i)[0]?=some y:=by rw [hm]; rfl
        rw [List.getElem?_drop] at this
        rw [ho,<-Array.getElem?_toList]; simpa using this
      have hl':xs.toList.drop (i+1)=l:=by rw [<-List.drop_drop,hl]; rfl
      have hm':ys.toList.drop (i+1)=m:=by rw [<-List.drop_drop,hm]; rfl
      unfold Op.eqFields
      rw [if_pos hn]
      split at h
      · next he=>
        obtain ⟨ds,hu,ha⟩:=xd he
        simp only [Sem.run_bind,sC hu ha hx,sC hu ha hy,Result.andThen_ok,AR he d]
        simp only [Bool.not_true,Bool.false_eq_true,if_false]
        exact AA d w fs (i+1) l m hl' hm' h
      · next he=>
        obtain ⟨ds,hu,ha⟩:=xd he
        obtain rfl:=oI h
        simp only [Sem.run_bind,sC hu ha hx,sC hu ha hy,Result.andThen_ok,AR he d]
        rfl
      · cases h
    · cases h
theorem Hd {x y x' y':Value}{b:Bool}{t:TypeId}(h:An P t x y=some b)(hx:VRel β x x')(hy:VRel β y y'):x'=x/\y'=y:=by
  unfold An at h
  split at h
  · exact ⟨hx.inv_bool,hy.inv_bool⟩
  · exact ⟨hx.inv_int,hy.inv_int⟩
  · exact ⟨hx.inv_string,hy.inv_string⟩
  · cases h
theorem zY: ∀ (fs:List Field)(i:Nat){l m l' m':List Value}{b:Bool},gA P fs i l m=some b->LRel β l l'->LRel β m m'->gA P fs i l' m'=some b
  | [],_,_,_,_,_,_,h,_,_=>by simpa [gA] using h
  | f::fs,i,[],_,_,_,b,h,_,_=>by simp [gA] at h
  | f::fs,i,_::_,[],_,_,b,h,_,_=>by simp [gA] at h
  | f::fs,i,x::l,y::m,l',m',b,h,hl,hm=>by
    obtain ⟨x',l',rfl,hx,hl'⟩:=hl.inv_cons
    obtain ⟨y',m',rfl,hy,hm'⟩:=hm.inv_cons
    simp only [gA] at h ⊢
    split at h
    · next hc=>
      rw [if_pos hc]
      split at h
      · next he=>
        obtain ⟨rfl,rfl⟩:=Hd he hx hy
        rw [he]
        exact zY fs (i+1) h hl' hm'
      · next he=>
        obtain ⟨rfl,rfl⟩:=Hd he hx hy
        rw [he]
        exact h
      · cases h
    · cases h
theorem vV {t e:TypeId}(d:Nat)(hu:P.underlying t=some (.pointer e)){n:Nat}(hn:aq P e=some n)(h0:n≠0)(a:Addr)(w:World):
    (Op.equalIn (d+1) t (.pointer (some a)) (.pointer (some a))).run P w = .ok true w:=by
  simp only [Op.equalIn,Sem.run_bind,av hu,Result.andThen_ok,bG hn,Sem.run_ite]
  rw [if_pos h0]
  simp [sameAddr]
set_option maxHeartbeats 4000000 in
theorem HJ {t:TypeId}{x y x' y':Value}{b:Bool}(h:nD P t x y=some b)(hx:VRel β x x')(hy:VRel β y y')(w:World)(d:Nat):(Op.equalIn (d+1+1) t x' y').run P w = .ok b w:=by
  unfold nD at h
  split at h
  · cases hx.inv_bool; cases hy.inv_bool
    split at h
    · next hu=>obtain rfl:=oI h; exact run_equalIn_bool' w (d+1) t _ _ hu
    · cases h
  · cases hx
    split at h
    · next hu=>obtain rfl:=oI h; cases hy <;> simp only [Op.equalIn,Sem.run_bind,av hu,Result.andThen_ok,Sem.run_pure] <;> rfl
    · cases h
  · cases hy
    split at h
    · next hu=>obtain rfl:=oI h; cases hx <;> simp only [Op.equalIn,Sem.run_bind,av hu,Result.andThen_ok,Sem.run_pure] <;> rfl
    · cases h
  · next a b'=>
    split at h
    · next e hu=>
      split at h
      · next hc=>
        obtain rfl:=oI h
        obtain ⟨rfl,hs⟩:=hc
        obtain ⟨sl,h1,_,_,rfl⟩:=hx.inv_pointer
        obtain ⟨sl',h2,_,_,rfl⟩:=hy.inv_pointer
        rw [h1] at h2
        obtain rfl:=oI h2
        cases hn:aq P e with
        | none=>simp [hn] at hs
        | some n=>exact vV (d+1) hu hn (by simpa [hn] using hs) _ w
      · cases h
    · cases h
  · cases hx
    split at h
    · next hu=>obtain rfl:=oI h; cases hy <;> simp only [Op.equalIn,Sem.run_bind,av hu,Result.andThen_ok,Sem.run_pure] <;> rfl
    · cases h
  · cases hy
    split at h
    · next hu=>obtain rfl:=oI h; cases hx <;> simp only [Op.equalIn,Sem.run_bind,av hu,Result.andThen_ok,Sem.run_pure] <;> rfl
    · cases h
  · cases hx
    split at h
    · next hu=>obtain rfl:=oI h; cases hy <;> simp only [Op.equalIn,Sem.run_bind,av hu,Result.andThen_ok,Sem.run_pure] <;> rfl
    · cases h
  · cases hy
    split at h
    · next hu=>obtain rfl:=oI h; cases hx <;> simp only [Op.equalIn,Sem.run_bind,av hu,Result.andThen_ok,Sem.run_pure] <;> rfl
    · cases h
  all_goals first
    | (cases hx <;> cases hy <;>
       (split at h
        · next hu=>obtain rfl:=oI h; simp only [Op.equalIn,Sem.run_bind,av hu,Result.andThen_ok,Sem.run_pure]
        · cases h)
       done)
    | skip
  · obtain ⟨a',rfl,ha⟩:=hx.inv_agg
    obtain ⟨b',rfl,hb⟩:=hy.inv_agg
    split at h
    · next fs hu=>
      split at h
      · next hc=>
        have hf:P.fieldsOf t=fs:=by simp [Program.fieldsOf,hu]
        rw [run_equalIn_struct w (d+1) t a' b' (by rw [hf]; exact hu) hc.1,hf]
        exact AA d w fs.toList 0 _ _ (by simp) (by simp) (zY fs.toList 0 h (ARel.toList.1 ha) (ARel.toList.1 hb))
      · cases h
    · cases h
  · cases h
theorem Mt {t:TypeId}{x y x' y':Value}{b:Bool}(h:nD P t x y=some b)(hx:VRel β x x')(hy:VRel β y y')(w:World):(Op.equal t x' y').run P w = .ok b w:=
  HJ h hx hy w 9998
theorem A1 {t:TypeId}{x y x' y':Value}{b:Bool}(h:nD P t x y=some b)(hx:VRel β x x')(hy:VRel β y y')(op:BinOp)(xo yo:Operand)(w:World):
    (eqGuard op t xo yo x' y').run P w = .ok () w/\(binOp .eql t x' y').run P w = .ok (.bool b) w/\(binOp .neq t x' y').run P w = .ok (.bool !b) w:=by
  have he:=Mt h hx hy w
  unfold nD at h
  split at h
  all_goals first
    | (cases h; done)
    | (obtain ⟨a',rfl,ha⟩:=hx.inv_agg
       obtain ⟨b',rfl,hb⟩:=hy.inv_agg
       split at h
       · split at h
         · next hc=>exact ⟨run_eqGuard_agg w op t xo yo a' b' hc.2,by simp [binOp,he],by simp [binOp,he]⟩
         · cases h
       · cases h
       done)
    | (cases hx <;> cases hy <;> (refine ⟨?_,?_,?_⟩ <;> first | (simp only [binOp,Sem.run_bind,he,Result.andThen_ok,Sem.run_pure]; done) | (cases op <;> rfl)))
theorem LE {op:BinOp}{t:TypeId}{xo yo:Operand}{x y x' y':Value}{v:Value}(h:am P op t x y=some v)(hx:VRel β x x')(hy:VRel β y y')(w:World):
    (do eqGuard op t xo yo x' y'; binOp op t x' y':Sem Value).run P w = .ok v w/\VRel β v v:=by
  have h0:=h
  unfold am at h
  split at h
  · next k a k' b=>
    cases hx.inv_int; cases hy.inv_int
    refine ⟨?_,?_⟩
    · have hg:(eqGuard op t xo yo (.int k a) (.int k' b)).run P w = .ok () w:=by cases op <;> rfl
      simp only [Sem.run_bind,hg,Result.andThen_ok]
      exact Mn h0 w
    · clear h0
      cases op <;> simp only [] at h <;> first
        | (split at h
           · first
             | (obtain rfl:=oI h; exact .int _ _)
             | (obtain ⟨r,hr,rfl⟩:=Option.map_eq_some_iff.1 h; exact .bool _)
             | (split at h
                · cases h
                · obtain rfl:=oI h; exact .int _ _)
           · cases h
           done)
  · next a b=>
    cases hx.inv_string; cases hy.inv_string
    refine ⟨?_,?_⟩
    · have hg:(eqGuard op t xo yo (.string a) (.string b)).run P w = .ok () w:=by cases op <;> rfl
      simp only [Sem.run_bind,hg,Result.andThen_ok]
      have hb:binOp op t (.string a) (.string b)=Op.stringOp op a b:=by cases op <;> rfl
      rw [hb]
      exact NO h w
    · unfold DZ at h
      cases op <;> simp only [] at h <;> first
        | (obtain rfl:=oI h; exact .bool _)
        | (split at h
           · obtain rfl:=oI h; exact .string _
           · cases h)
        | (cases h; done)
  · cases op <;> simp only [] at h <;> first
      | (cases h; done)
      | (obtain ⟨b,hb,rfl⟩:=Option.map_eq_some_iff.1 h
         obtain ⟨hg,he,hn⟩:=A1 hb hx hy .eql xo yo w
         exact ⟨by simp only [Sem.run_bind,hg,Result.andThen_ok]; exact he,.bool _⟩)
      | (obtain ⟨b,hb,rfl⟩:=Option.map_eq_some_iff.1 h
         obtain ⟨hg,he,hn⟩:=A1 hb hx hy .neq xo yo w
         exact ⟨by simp only [Sem.run_bind,hg,Result.andThen_ok]; exact hn,.bool _⟩)
theorem QL {op:UnOp}{x x' v:Value}(h:AP op x=some v)(hx:VRel β x x')(w:World):(Op.unary op x').run P w = .ok v w/\VRel β v v:=by
  unfold AP at h
  split at h
  · cases hx.inv_int; obtain rfl:=oI h; exact ⟨rfl,.int _ _⟩
  · cases hx.inv_int; obtain rfl:=oI h; exact ⟨rfl,.int _ _⟩
  · cases hx.inv_bool; obtain rfl:=oI h; exact ⟨rfl,.bool _⟩
  · cases h
end
section
variable {β:Inj} {P:Program}
def PRel (β:Inj)(l l':List (Nat×Value)):Prop:=l.map (·.1)=l'.map (·.1)/\LRel β (l.map (·.2)) (l'.map (·.2))
theorem PRel.inv_cons {p:Nat×Value}{l l':List (Nat×Value)}(h:PRel β (p::l) l'): ∃ v' r,l'=(p.1,v')::r/\VRel β p.2 v'/\PRel β l r:=by
 cases l' with
 | nil=>have:=h.1; simp at this
 | cons q r=>
  obtain ⟨h1,h2⟩:=h
  simp only [List.map_cons,List.cons.injEq] at h1 h2
  exact ⟨q.2,r,by rw [h1.1],h2.head,h1.2,h2.tail⟩
theorem PRel.inv_nil {l':List (Nat×Value)}(h:PRel β [] l'):l'=[]:=by
 have:=h.1; simp at this; exact this
theorem PRel.map {α:Type}(l:List α)(n:α->Nat){f f':α->Value}(h: ∀ x∈l,VRel β (f x) (f' x)):PRel β (l.map fun x=>(n x,f x)) (l.map fun x=>(n x,f' x)):=
 ⟨by simp [List.map_map,Function.comp_def],by simpa [List.map_map,Function.comp_def] using LRel.map l h⟩
theorem LW {v:Value}(h:A7 v=true):v≠Ab.junk:=by rintro rfl; cases h
theorem zk (off:Nat): ∀ (l l':List Value)(j:Nat)(cs cs':Array Value),LRel β l l'->ARel β cs cs'->
  ARel β ((l.zipIdx j).foldl (fun cs (c,j)=>cs.setIfInBounds (off+j) c) cs) ((l'.zipIdx j).foldl (fun cs (c,j)=>cs.setIfInBounds (off+j) c) cs')
 | [],l',j,cs,cs',h,hc=>by rw [h.inv_nil]; exact hc
 | v::l,l',j,cs,cs',h,hc=>by
  obtain ⟨v',r,rfl,hv,hr⟩:=h.inv_cons
  simp only [List.zipIdx_cons,List.foldl_cons]
  refine zk off l r (j+1) _ _ hr ⟨by simp [hc.1],fun i a a' h1 h2=> ?_⟩
  rw [Array.getElem?_setIfInBounds] at h1 h2
  split at h1
  ·next he=>
   subst he
   simp only [if_true] at h2
   split at h1
   ·simp only [Option.some.injEq] at h1
    subst h1
    split at h2
    ·simp only [Option.some.injEq] at h2; subst h2; exact hv
    ·cases h2
   ·cases h1
  ·next he=>
   rw [if_neg he] at h2
   exact hc.2 i a a' h1 h2
theorem tL (place:Nat->Option (Nat×Nat)): ∀ (l l':List (Nat×Value))(cs cs' r:Array Value),PRel β l l'->(∀ p∈l,A7 p.2=true)->ARel β cs cs'->Instr.fill place cs l=some r->
  ∃ r',Instr.fill place cs' l'=some r'/\ARel β r r'
 | [],l',cs,cs',r,h,_,hc,hf=>by
  rw [h.inv_nil]
  simp only [Instr.fill] at hf ⊢
  obtain rfl:=oI hf
  exact ⟨cs',rfl,hc⟩
 | p::l,l',cs,cs',r,h,hj,hc,hf=>by
  obtain ⟨v',t,rfl,hv,ht⟩:=h.inv_cons
  obtain ⟨i,v⟩:=p
  have hcells:=hv.cells (LW (hj _ List.mem_cons_self))
  simp only [Instr.fill] at hf ⊢
  cases hp:place i with
  | none=>simp [hp] at hf
  | some q=>
   obtain ⟨off,size⟩:=q
   simp only [hp] at hf ⊢
   dsimp only at hv hcells
   rw [<-hcells.1,<-hc.1]
   split at hf
   ·cases hf
   ·next hs=>
    rw [if_neg hs]
    refine tL place l t _ _ r ht (fun p hp=>hj p (List.mem_cons_of_mem _ hp)) ?_ hf
    have:=zk (β:=β) off v.cells.toList v'.cells.toList 0 cs cs' (ARel.toList.1 hcells) hc
    rw [<-Array.foldl_toList,<-Array.foldl_toList]
    simpa [Array.toList_zipIdx] using this
theorem ARel.of_plain_cells {z:Value}(h:plain z=true):ARel β z.cells z.cells:=by
 have hz:VRel β z z:= .of_plain h
 by_cases hj:z=Ab.junk
 ·subst hj; cases h
 ·exact hz.cells hj
theorem M0 {t:TypeId}{parts parts':List (Nat×Value)}{v:Value}(h:bE P t parts=some v)(hp:PRel β parts parts')(w:World):
  ∃ v',(Instr.build t parts'.toArray).run P w = .ok v' w/\VRel β v v':=by
 unfold bE at h
 split at h
 ·next z hz=>
  obtain ⟨hpl,i,hi,hzi⟩:=bZ hz
  split at h
  ·next hj=>
   obtain ⟨cs,hb,rfl⟩:=Option.map_eq_some_iff.1 h
   have hj': ∀ p∈parts,A7 p.2=true:=List.all_eq_true.1 hj
   have hcs:=ARel.of_plain_cells (β:=β) hpl
   have key: ∃ cs',P.built t parts'=some cs'/\ARel β cs cs':=by
    unfold Program.built at hb ⊢
    simp only [hi] at hb ⊢
    cases hu:P.underlying t with
    | none=>simp [hu] at hb
    | some d=>
     cases d <;> simp only [hu] at hb ⊢ <;> try (cases hb; done)
     ·next n e=>
      split at hb
      ·next z' ie he1 he2=>
       obtain rfl:z=z':=oI (hzi.symm.trans he1)
       exact tL _ _ _ _ _ _ hp hj' hcs hb
      ·cases hb
     ·next fs=>
      split at hb
      ·next z' pl he1 he2=>
       obtain rfl:z=z':=oI (hzi.symm.trans he1)
       exact tL _ _ _ _ _ _ hp hj' hcs hb
      ·cases hb
   obtain ⟨cs',hb',hr⟩:=key
   exact ⟨.agg cs',run_build w t parts'.toArray cs' hb',.agg hr.1 hr.2⟩
  ·cases h
 ·cases h
theorem G4 {t:TypeId}{cs cs':Array Value}{off:Nat}{v:Value}(h:gM P t cs off=some v)(hc:ARel β cs cs')(w:World):
  ∃ v',(part t cs' off).run P w = .ok v' w/\VRel β v v':=by
 unfold gM at h
 cases hu:P.underlying t with
 | none=>simp [hu] at h
 | some d=>
 simp only [hu] at h
 simp only [part,Sem.run_bind,qp hu,Result.andThen_ok,Sem.run_ite]
 split at h
 ·next ha=>
  obtain ⟨n,hn,rfl⟩:=Option.map_eq_some_iff.1 h
  rw [if_pos ha]
  simp only [bG hn,Result.andThen_ok,Sem.run_pure]
  refine ⟨_,rfl,.agg (by simp [hc.1]) fun i v v' h1 h2=> ?_⟩
  simp only [Array.getElem?_extract] at h1 h2
  rw [hc.1] at h1
  split at h1
  ·next hi=>
   rw [if_pos hi] at h2
   exact hc.2 _ v v' h1 h2
  ·cases h1
 ·next ha=>
  rw [if_neg ha]
  obtain ⟨v',hv',hr⟩:=hc.get h
  exact ⟨v',by simp [hv'],hr⟩
theorem G5 {src dst:TypeId}{x x' v:Value}(h:cw P src dst x=some v)(hx:VRel β x x')(w:World):(convert src dst x').run P w = .ok v w/\VRel β v v:=by
 unfold cw at h
 split at h
 ·next d1 k k' n h1 h2=>
  cases hx.inv_int
  obtain rfl:=oI h
  refine ⟨?_,.int _ _⟩
  simp only [convert,Sem.run_bind,av h1,av h2,Result.andThen_ok]
  cases d1 <;> rfl
 ·next d1 s h1 h2=>
  cases hx.inv_string
  obtain rfl:=oI h
  refine ⟨?_,.string _⟩
  simp only [convert,Sem.run_bind,av h1,av h2,Result.andThen_ok]
  cases d1 <;> rfl
 ·next e h1 h2=>
  cases hx
  obtain rfl:=oI h
  refine ⟨?_,.nilPtr⟩
  simp only [convert,Sem.run_bind,av h1,av h2,Result.andThen_ok,Conv.unsafePointer]
  rfl
 ·next e h1 h2=>
  cases hx
  obtain rfl:=oI h
  refine ⟨?_,.nilPtr⟩
  simp only [convert,Sem.run_bind,av h1,av h2,Result.andThen_ok,Conv.unsafePointer]
  rfl
 ·cases h
theorem Ej (mx:Bool): ∀ (l l':List Value)(x x' v:Value),VRel β x x'->LRel β l l'->ks mx (x::l)=some v->(∀ w:World,((l'.foldlM (if mx then Builtin.max2 else Builtin.min2) x':Sem Value)).run P w = .ok v w)/\VRel β v v\/(l=[]/\v=x)
 | [],l',x,x',v,hx,hl,h=>by
  simp only [ks,List.foldlM_nil,Option.pure_def,Option.some.injEq] at h
  exact .inr ⟨rfl,h.symm⟩
 | y::l,l',x,x',v,hx,hl,h=>by
  left
  obtain ⟨y',r,rfl,hy,hr⟩:=hl.inv_cons
  simp only [ks,List.foldlM_cons,Option.bind_eq_bind] at h
  split at h
  ·next k a k' b=>
   cases hx.inv_int; cases hy.inv_int
   split at h
   ·next hk=>
    subst hk
    simp only [Option.bind_some] at h
    have ih:=Ej mx l r (.int k (if mx then if b > a then b else a else if b < a then b else a)) _ v (.int _ _) hr (by simpa [ks] using h)
    refine ⟨fun w=> ?_,?_⟩
    ·rw [List.foldlM_cons,Sem.run_bind]
     have h1:((if mx then Builtin.max2 else Builtin.min2) (.int k a) (.int k b)).run P w = .ok (.int k (if mx then if b > a then b else a else if b < a then b else a)) w:=by
      cases mx <;> rfl
     rw [h1,Result.andThen_ok]
     rcases ih with ⟨ih,_⟩ | ⟨rfl,rfl⟩
     ·exact ih w
     ·rw [hr.inv_nil]; rfl
    ·rcases ih with ⟨_,ih⟩ | ⟨rfl,rfl⟩
     ·exact ih
     ·exact .int _ _
   ·simp at h
  ·simp at h
theorem cP {α:Type}{s:Sem α}{f:α->Next}{w w':World}{v:α}(h:s.run P w = .ok v w'):(do pure (f (<-s)):Sem Next).run P w = .ok (f v) w':=by
 simp [h]
theorem bn (b i n:Nat):(⟨b,i,none⟩:Addr).add n=⟨b,i+n,none⟩:=by
 unfold Addr.add
 split
 ·next h=>subst h; rfl
 ·rfl
theorem z2 {a b a' b':Value}(h:VRel β a a')(h':VRel β b b'):VRel β (.tuple #[a,b]) (.tuple #[a',b']):=
 .tuple rfl fun i v v' h1 h2=>by
  match i,h1,h2 with
  | 0,h1,h2=>simp at h1 h2; subst h1; subst h2; exact h
  | 1,h1,h2=>simp at h1 h2; subst h1; subst h2; exact h'
  | i+2,h1,h2=>simp at h1
set_option maxHeartbeats 4000000 in
theorem mK {ρ ρ':Operand->Value}(hρ: ∀ x,VRel β (ρ x) (ρ' x)){o:Oper}{v:Value}(h:aD P ρ o=some v)(w:World):
  ∃ v',(execOp ρ' o).run P w = .ok (.value v') w/\VRel β v v':=by
 unfold aD at h
 unfold execOp
 split at h
 ·next x ho=>obtain rfl:=oI h; simp only [ho]; exact ⟨_,rfl,hρ _⟩
 ·next x ho=>obtain rfl:=oI h; simp only [ho]; exact ⟨_,rfl,hρ _⟩
 ·next c a b ho=>
  simp only [ho]
  split at h
  ·next t ht=>
   have hc:=hρ c
   rw [ht] at hc
   obtain rfl:=oI h
   refine ⟨if t then ρ' a else ρ' b,?_,?_⟩
   ·simp [hc.inv_bool,asBool]
   ·cases t
    ·exact hρ b
    ·exact hρ a
  ·cases h
 ·next t parts ho=>
  simp only [ho]
  obtain ⟨v',hr,hv⟩:=M0 (parts':=parts.toList.map fun p=>(p.1,ρ' p.2)) h (PRel.map parts.toList (·.1) fun p _=>hρ p.2) w
  refine ⟨v',?_,hv⟩
  have he:(parts.toList.map fun p=>(p.1,ρ' p.2)).toArray=parts.map fun (i,x)=>(i,ρ' x):=by
   apply Array.ext'; simp
  rw [he] at hr
  exact cP hr
 ·next x ho=>
  simp only [ho]
  have hx:=hρ x
  split at h
  ·cases h
  ·cases h
  ·cases h
  ·cases h
  ·cases h
  ·next v0 h1 h2 h3 h4 h5=>
   obtain rfl:=oI h
   refine ⟨ρ' x,?_,hx⟩
   revert hx h1 h2 h3 h4 h5
   generalize ρ x=a
   generalize ρ' x=b
   intro hx h1 h2 h3 h4 h5
   cases hx with
   | junk v=>exact absurd rfl (h5 _)
   | nilPtr=>exact absurd rfl h1
   | nilIface=>exact absurd rfl h2
   | nilFunc=>exact absurd rfl h3
   | @func fn a a' c c' ha hc ra rc=>cases fn <;> first | rfl | exact absurd rfl (h4 _ _ _)
   | _=>rfl
 ·next op t x y yt ho=>
  simp only [ho]
  obtain ⟨hr,hv⟩:=LE (xo:=x) (yo:=y) h (hρ x) (hρ y) w
  exact ⟨v,cP hr,hv⟩
 ·next op t x ho=>
  simp only [ho]
  obtain ⟨hr,hv⟩:=QL h (hρ x) w
  exact ⟨v,cP hr,hv⟩
 ·next s d x ho=>
  simp only [ho]
  obtain ⟨hr,hv⟩:=G5 h (hρ x) w
  exact ⟨v,cP hr,hv⟩
 ·next t x ho=>
  simp only [ho]
  split at h
  ·cases h
  ·cases h
  ·next d hn1 hu=>
   obtain rfl:=oI h
   refine ⟨.iface t (ρ' x),cP ?_,.iface t (hρ x)⟩
   simp only [Instr.makeInterface,Sem.run_bind,av hu,Result.andThen_ok]
   cases d <;> first | rfl | exact absurd rfl (hn1 _)
 ·next fn first captured ho=>
  simp only [ho]
  split at h
  ·cases h
  ·next hfn=>
   obtain rfl:=oI h
   refine ⟨.func fn (first.map ρ') (captured.map ρ'),rfl,.func (by cases fn <;> first | rfl | exact absurd rfl (hfn _)) (by simp) (by simp) ?_ ?_⟩
   ·intro i a a' h1 h2
    simp only [Array.getElem?_map,Option.map_eq_some_iff] at h1 h2
    obtain ⟨p,hp,rfl⟩:=h1
    obtain ⟨q,hq,rfl⟩:=h2
    rw [hp] at hq; obtain rfl:=oI hq
    exact hρ p
   ·intro i a a' h1 h2
    simp only [Array.getElem?_map,Option.map_eq_some_iff] at h1 h2
    obtain ⟨p,hp,rfl⟩:=h1
    obtain ⟨q,hq,rfl⟩:=h2
    rw [hp] at hq; obtain rfl:=oI hq
    exact hρ p
 ·next s x f ho=>
  simp only [ho]
  have hx:=hρ x
  split at h
  ·next fields a hu ha=>
   rw [ha] at hx
   obtain ⟨sl,h1,hm,hs,he⟩:=hx.inv_pointer
   split at h
   ·next fd hf=>
    split at h
    ·next hn=>
     obtain rfl:=oI h
     cases hsz:aq P fd.type with
     | none=>simp [hsz] at hn
     | some n=>
      have h0:n≠0:=by simpa [hsz] using hn
      refine ⟨.pointer (some ((⟨sl.b,sl.s+a.off,none⟩:Addr).add fd.offset)),cP ?_,?_⟩
      ·simp only [Instr.fieldAt,Sem.run_bind,av hu,Result.andThen_ok,hf,he,Instr.sureAddr,Sem.run_pure,fieldPlace,bG hsz,Sem.run_ite]
       rw [if_neg h0]; rfl
      ·obtain ⟨ab,ao,asp⟩:=a
       simp only at hs h1; subst hs
       rw [bn,bn,Nat.add_assoc]
       exact .ptr h1 hm
    ·cases h
   ·cases h
  ·cases h
 ·next t x f ho=>
  simp only [ho]
  have hx:=hρ x
  split at h
  ·next fields cs hu ha=>
   rw [ha] at hx
   obtain ⟨cs',he,hc⟩:=hx.inv_agg
   split at h
   ·next fd hf=>
    obtain ⟨v',hr,hv⟩:=G4 h hc w
    refine ⟨v',cP ?_,hv⟩
    simp only [Instr.field,Sem.run_bind,av hu,Result.andThen_ok,hf,he,asAgg,Sem.run_pure,hr]
   ·cases h
  ·cases h
 ·next t x i ho=>
  simp only [ho]
  have hx:=hρ x
  have hi:=hρ i
  split at h
  ·next len e a k j hu ha hj=>
   rw [ha] at hx
   rw [hj] at hi
   obtain ⟨sl,h1,hm,hs,he⟩:=hx.inv_pointer
   split at h
   ·next n hn=>
    split at h
    ·next hr=>
     obtain rfl:=oI h
     refine ⟨.pointer (some ((⟨sl.b,sl.s+a.off,none⟩:Addr).add (j.toNat*n))),cP ?_,?_⟩
     ·simp only [Instr.indexAt,Sem.run_bind,hi.inv_int,asIntOf,Sem.run_pure,Result.andThen_ok,av hu,he,Instr.sureAddr,bG hn,Sem.run_ite]
      rw [if_pos hr]
     ·obtain ⟨ab,ao,asp⟩:=a
      simp only at hs h1; subst hs
      rw [bn,bn,Nat.add_assoc]
      exact .ptr h1 hm
    ·cases h
   ·cases h
  ·next e a len c k j hu ha hj=>
   rw [ha] at hx
   rw [hj] at hi
   obtain ⟨ab,ao,asp⟩:=a
   split at h
   ·next n hn=>
    split at h
    ·next hr=>
     obtain rfl:=oI h
     have hsp0:asp=none:=by
      rcases hx.inv_sliceA with ⟨k',i',e⟩ | ⟨_,hn0,_⟩
      ·injection e
      ·exact absurd hr (by omega)
     subst hsp0
     obtain ⟨sl,i',c',h1,hm,hsp,he,hx1,ho1,hn1,hi1,hz1⟩:=hx.inv_slice
     ·clear hsp
      have hii:i'=sl.s+ao:=by rcases hi1 with hi1 | hi1; exact hi1; exact absurd hi1.1 (by omega)
      subst hii
      refine ⟨.pointer (some ((⟨sl.b,sl.s+ao,none⟩:Addr).add (j.toNat*n))),cP ?_,?_⟩
      ·simp only [Instr.indexAt,Sem.run_bind,hi.inv_int,asIntOf,Sem.run_pure,Result.andThen_ok,av hu,he,bG hn,Sem.run_ite]
       rw [if_pos hr]
      ·rw [bn,bn,Nat.add_assoc]
       exact .ptr h1 hm
    ·cases h
   ·cases h
  ·cases h
 ·next t x i ho=>
  simp only [ho]
  have hx:=hρ x
  have hi:=hρ i
  split at h
  ·next len e cs k j hu ha hj=>
   rw [ha] at hx
   rw [hj] at hi
   obtain ⟨cs',he,hc⟩:=hx.inv_agg
   split at h
   ·next n hn=>
    split at h
    ·next hr=>
     obtain ⟨v',hp,hv⟩:=G4 h hc w
     refine ⟨v',cP ?_,hv⟩
     simp only [Instr.index,Sem.run_bind,hi.inv_int,asIntOf,Sem.run_pure,Result.andThen_ok,av hu,he,bG hn,Sem.run_ite,hp]
     rw [if_pos hr]
    ·cases h
   ·cases h
  ·next s k j hu ha hj=>
   rw [ha] at hx
   rw [hj] at hi
   split at h
   ·next hr=>
    split at h
    ·next b hb=>
     obtain rfl:=oI h
     refine ⟨_,cP ?_,.int _ _⟩
     have hb':s[j.toNat]?=some b:=by
      rw [Array.getElem?_toList] at hb
      exact hb
     simp only [Instr.index,Sem.run_bind,hi.inv_int,asIntOf,Sem.run_pure,Result.andThen_ok,av hu,hx.inv_string]
     rw [if_pos hr,hb']
     rfl
    ·cases h
   ·cases h
  ·cases h
 ·next x xt u ok ho=>
  simp only [ho]
  have hx:=hρ x
  split at h
  ·cases h
  ·cases h
  ·next d hn1 hu ha=>
   rw [ha] at hx
   split at h
   ·next hok=>
    obtain ⟨z,hz,rfl⟩:=Option.map_eq_some_iff.1 h
    refine ⟨.tuple #[z,.bool false],cP ?_,z2 (.of_plain (bZ hz).1) (.bool _)⟩
    simp only [Instr.typeAssert,Sem.run_bind,av hu,Result.andThen_ok,hx.inv_nilIface]
    cases d <;> first
     | exact absurd rfl (hn1 _)
     | (rw [if_pos hok]; simp [jj hz])
   ·cases h
  ·next d t v1 hn1 hu ha=>
   rw [ha] at hx
   obtain ⟨v2,he,hv⟩:=hx.inv_iface
   split at h
   ·next htu=>
    obtain rfl:=oI h
    refine ⟨if ok then .tuple #[v2,.bool true] else v2,cP ?_,?_⟩
    ·simp only [Instr.typeAssert,Sem.run_bind,av hu,Result.andThen_ok,he]
     cases d <;> first
      | exact absurd rfl (hn1 _)
      | (rw [if_pos htu]; rfl)
    ·cases ok
     ·exact hv
     ·exact z2 hv (.bool _)
   ·next htu=>
    split at h
    ·next hok=>
     obtain ⟨z,hz,rfl⟩:=Option.map_eq_some_iff.1 h
     refine ⟨.tuple #[z,.bool false],cP ?_,z2 (.of_plain (bZ hz).1) (.bool _)⟩
     simp only [Instr.typeAssert,Sem.run_bind,av hu,Result.andThen_ok,he]
     cases d <;> first
      | exact absurd rfl (hn1 _)
      | (rw [if_neg htu,if_pos hok]; simp [jj hz])
    ·cases h
  ·cases h
 ·next x i ho=>
  simp only [ho]
  have hx:=hρ x
  split at h
  ·next vs ha=>
   rw [ha] at hx
   obtain ⟨vs',he,hc⟩:=hx.inv_tuple
   obtain ⟨v',hv',hr⟩:=hc.get h
   exact ⟨v',cP (by simp [Instr.extract,he,hv']),hr⟩
  ·cases h
 ·next args ats ho=>
  simp only [ho]
  have hl:LRel β (args.toList.map ρ) (args.toList.map ρ'):=LRel.map _ fun x _=>hρ x
  have he:(args.map ρ').toList=args.toList.map ρ':=by simp
  revert hl h
  generalize args.toList.map ρ=l
  generalize hg:args.toList.map ρ'=l'
  intro h hl
  cases l with
  | nil=>simp [ks] at h
  | cons x l=>
   obtain ⟨x',r,rfl,hx,hr⟩:=hl.inv_cons
   rcases Ej true l r x x' v hx hr h with ⟨h1,h2⟩ | ⟨rfl,rfl⟩
   ·exact ⟨v,by
     simp only [resolve,Sem.run_bind,Sem.run_pure,Result.andThen_ok,invoke,builtin,Builtin.max_,he,hg]
     have:=h1 w
     simp only [if_true] at this
     rw [this]; rfl,h2⟩
   ·exact ⟨x',by
     rw [hr.inv_nil] at hg
     simp only [resolve,Sem.run_bind,Sem.run_pure,Result.andThen_ok,invoke,builtin,Builtin.max_,he,hg]
     rfl,hx⟩
 ·next args ats ho=>
  simp only [ho]
  have hl:LRel β (args.toList.map ρ) (args.toList.map ρ'):=LRel.map _ fun x _=>hρ x
  have he:(args.map ρ').toList=args.toList.map ρ':=by simp
  revert hl h
  generalize args.toList.map ρ=l
  generalize hg:args.toList.map ρ'=l'
  intro h hl
  cases l with
  | nil=>simp [ks] at h
  | cons x l=>
   obtain ⟨x',r,rfl,hx,hr⟩:=hl.inv_cons
   rcases Ej false l r x x' v hx hr h with ⟨h1,h2⟩ | ⟨rfl,rfl⟩
   ·exact ⟨v,by
     simp only [resolve,Sem.run_bind,Sem.run_pure,Result.andThen_ok,invoke,builtin,Builtin.min_,he,hg]
     have:=h1 w
     simp only [Bool.false_eq_true,if_false] at this
     rw [this]; rfl,h2⟩
   ·exact ⟨x',by
     rw [hr.inv_nil] at hg
     simp only [resolve,Sem.run_bind,Sem.run_pure,Result.andThen_ok,invoke,builtin,Builtin.min_,he,hg]
     rfl,hx⟩
 ·next args ats ho=>
  simp only [ho]
  split at h
  ·next x t hx ht=>
   split at h
   ·next e a n c hu ha=>
    split at h
    ·next hc=>
     obtain rfl:=oI h
     have hxr:=hρ x
     rw [ha] at hxr
     have key: ∃ a' ,ρ' x = .slice a' n c:=by
      cases a with
      | none=>obtain ⟨rfl,rfl,he⟩:=hxr.inv_nilSlice; exact ⟨none,he⟩
      | some a=>
       rcases hxr.inv_sliceA with ⟨k',i',rfl⟩ | ⟨rfl,rfl,rfl,a',he⟩
       ·obtain ⟨sl,i',c',_,_,_,he,hx1,_⟩:=hxr.inv_slice
        rw [hx1 hc] at he
        exact ⟨_,he⟩
       ·exact ⟨_,he⟩
     obtain ⟨a',he⟩:=key
     refine ⟨.int .i64 c,?_,.int _ _⟩
     have h0:(args.map ρ')[0]?=some (.slice a' n c):=by simp [hx,he]
     simp only [resolve,Sem.run_bind,Sem.run_pure,Result.andThen_ok,invoke,builtin,Builtin.cap_,ht,h0,av hu]
     rfl
    ·cases h
   ·cases h
  ·cases h
 ·cases h
end
section
variable {β:Inj} {P:Program}
def Blk.wr:Blk->Bool
 | .cells _ _ _ wr=>wr
 | .map _=>true
 | .loop .. =>true
def SH (fr:Nat×Nat)(n:Nat):Prop:= ∀ x,fr.1<=x->x < fr.2->n<=x
def ERel (β:Inj)(es:List (Value×Value))(es':List MapEntry):Prop:=
 es.length=es'.length/\ ∀ (i:Nat) p e,es[i]?=some p->es'[i]?=some e->VRel β p.1 e.key/\VRel β p.2 e.val
def CellsAt (β:Inj)(cs:List Value)(s:Nat)(cs':Array Value):Prop:= ∀ (i:Nat) v,cs[i]?=some v-> ∃ v',cs'[s+i]?=some v'/\VRel β v v'
def Jh:LSt->LoopState->Option Code->Prop
 | .ready,s,j=>s = .ready/\j=none
 | .busy,s,_=>s = .busy
 | .ret,s,j=>s = .done/\j=some .ret
 | .exit id,s,j=>s = .done/\j=some (.exit id)
def BRel (β:Inj)(B:Blk)(sl:Slot)(w:World):Prop:=
 match B with
 | .cells cs t sz wr=>sl.isMap=false/\sl.t=t/\(sl.sz=sz/\(sz=0->sl.s=0))/\ ∃ cs' fr,w.heap[sl.b]?=some (.cells cs' t fr)/\cs'.size=sl.n/\CellsAt β cs sl.s cs'/\(wr=true->SH fr cs'.size)
 | .map es=>sl.isMap=true/\ ∃ es' clock,w.heap[sl.b]?=some (.map es' clock)/\ERel β es es'.toList
 | .loop st tm ps asg body _=>sl.isMap=true/\ ∃ r:Loop,w.heap[sl.b]?=some (.loop r)/\Jh st r.state r.pending/\LRel β tm r.tmps.toList/\r.params.toList=ps/\r.assign=asg/\r.body=body
structure Sim (β:Inj)(h:Heap)(w:World):Prop where
 lt: ∀ k sl,β k=some sl->k < h.next/\sl.b < w.heap.size
 blk: ∀ k B sl,h.get k=some B->β k=some sl->BRel β B sl w
 own: ∀ k k' B B' sl sl',k≠k'->h.get k=some B->h.get k'=some B'->β k=some sl->β k'=some sl'->B.wr=true->sl.b≠sl'.b
 wf: ∀ k B,h.get k=some B->k < h.next
theorem ERel.mono {β β':Inj}(hβ:β.le β'){es:List (Value×Value)}{es':List MapEntry}(h:ERel β es es'):ERel β' es es':=
 ⟨h.1,fun i p e h1 h2=>⟨(h.2 i p e h1 h2).1.mono hβ,(h.2 i p e h1 h2).2.mono hβ⟩⟩
theorem CellsAt.mono {β β':Inj}(hβ:β.le β'){cs:List Value}{s:Nat}{cs':Array Value}(h:CellsAt β cs s cs'):CellsAt β' cs s cs':=
 fun i v hv=>let ⟨v',h1,h2⟩:=h i v hv; ⟨v',h1,h2.mono hβ⟩
theorem BRel.mono {β β':Inj}(hβ:β.le β'){B:Blk}{sl:Slot}{w:World}(h:BRel β B sl w):BRel β' B sl w:=by
 cases B with
 | cells cs t sz wr=>
  obtain ⟨h1,h2,h3,cs',fr,h4,h5,h6,h7⟩:=h
  exact ⟨h1,h2,h3,cs',fr,h4,h5,h6.mono hβ,h7⟩
 | map es=>
  obtain ⟨h1,es',clock,h2,h3⟩:=h
  exact ⟨h1,es',clock,h2,h3.mono hβ⟩
 | loop st tm ps asg body ok=>
  obtain ⟨h1,r,h2,h3,h4,h5⟩:=h
  exact ⟨h1,r,h2,h3,h4.mono hβ,h5⟩
theorem BRel.of_heap {B:Blk}{sl:Slot}{w w':World}(h:BRel β B sl w)(he:w'.heap[sl.b]?=w.heap[sl.b]?):BRel β B sl w':=by
 cases B with
 | cells cs t sz wr=>
  obtain ⟨h1,h2,h3,cs',fr,h4,h5,h6,h7⟩:=h
  exact ⟨h1,h2,h3,cs',fr,by rw [he]; exact h4,h5,h6,h7⟩
 | map es=>
  obtain ⟨h1,es',clock,h2,h3⟩:=h
  exact ⟨h1,es',clock,by rw [he]; exact h2,h3⟩
 | loop st tm ps asg body ok=>
  obtain ⟨h1,r,h2,h3⟩:=h
  exact ⟨h1,r,by rw [he]; exact h2,h3⟩
theorem kH {w:World}{b i:Nat}{cs:Array Value}{t:TypeId}{fr:Nat×Nat}(h:w.heap[b]?=some (.cells cs t fr)):w.cell? ⟨b,i,none⟩=cs[i]?:=by
 simp [World.cell?,h]
theorem Sim.row {h:Heap}{w:World}(hs:Sim β h w){k:Nat}{cs:List Value}{t:TypeId}{sz:Nat}{wr:Bool}{sl:Slot}(hk:h.get k=some (.cells cs t sz wr))(hb:β k=some sl):
  sl.isMap=false/\sl.t=t/\sl.sz=sz/\ ∃ cs' fr,w.heap[sl.b]?=some (.cells cs' t fr)/\cs'.size=sl.n/\CellsAt β cs sl.s cs'/\(wr=true->SH fr cs'.size):=
 let ⟨h1,h2,h3,h4⟩:=hs.blk k _ sl hk hb; ⟨h1,h2,h3.1,h4⟩
theorem Sim.row0 {h:Heap}{w:World}(hs:Sim β h w){k:Nat}{cs:List Value}{t:TypeId}{wr:Bool}{sl:Slot}(hk:h.get k=some (.cells cs t 0 wr))(hb:β k=some sl):sl.s=0:=
 let ⟨_,_,h3,_⟩:=hs.blk k _ sl hk hb; h3.2 rfl
theorem qd {w:World}{b s:Nat}{cs:List Value}{cs':Array Value}{t:TypeId}{fr:Nat×Nat}(hw:w.heap[b]?=some (.cells cs' t fr))(hc:CellsAt β cs s cs')(i n:Nat)(hl:((cs.drop i).take n).length=n):
  ∃ l',(loadCells ⟨b,s+i,none⟩ n).run P w = .ok l'.toArray w/\LRel β ((cs.drop i).take n) l':=by
 have hlen:i+n<=cs.length\/n=0:=by
  simp only [List.length_take,List.length_drop] at hl; omega
 have hget: ∀ j,j < n-> ∃ v v',cs[i+j]?=some v/\cs'[s+(i+j)]?=some v'/\VRel β v v':=by
  intro j hj
  have hlt:i+j < cs.length:=by omega
  obtain ⟨v',h1,h2⟩:=hc (i+j) _ (gE hlt)
  exact ⟨_,v',gE hlt,h1,h2⟩
 refine ⟨(List.range n).map fun j=>cs'.getD (s+(i+j)) undef,?_,?_,?_⟩
 ·refine run_loadCells w ⟨b,s+i,none⟩ n _ fun j hj=> ?_
  obtain ⟨v,v',_,h2,_⟩:=hget j hj
  rw [bn,kH hw,show s+i+j=s+(i+j) by omega,h2]
  simp [Array.getD_eq_getD_getElem?,h2]
 ·simp [hl]
 ·intro j v v' h1 h2
  simp only [List.getElem?_map,Option.map_eq_some_iff] at h2
  obtain ⟨j',hj',rfl⟩:=h2
  rw [List.getElem?_take,List.getElem?_drop] at h1
  split at h1
  ·next hj=>
   rw [List.getElem?_range hj] at hj'
   obtain rfl:=oI hj'
   obtain ⟨u,u',e1,e2,e3⟩:=hget j hj
   rw [e1] at h1
   obtain rfl:=oI h1
   simpa [Array.getD_eq_getD_getElem?,e2] using e3
  ·cases h1
theorem Hc {h:Heap}{w:World}(hs:Sim β h w){t:TypeId}{a a' v:Value}(hl:ah P t h a=some v)(ha:VRel β a a'):
  ∃ ad,a' = .pointer (some ad)/\ ∃ v',(loadVar t ad).run P w = .ok v' w/\VRel β v v':=by
 unfold ah at hl
 split at hl
 ·next d k i hu=>
  obtain ⟨sl,hb,hm,rfl⟩:=ha.inv_ptr
  refine ⟨_,rfl,?_⟩
  split at hl
  ·next cs t' sz wr hk=>
   obtain ⟨_,_,_,cs',fr,hw,hn,hc,_⟩:=hs.row hk hb
   simp only [loadVar,Sem.run_bind,qp hu,Result.andThen_ok,Sem.run_ite]
   split at hl
   ·next hag=>
    rw [if_pos hag]
    split at hl
    ·next n hsz=>
     split at hl
     ·next hlen=>
      obtain rfl:=oI hl
      obtain ⟨l',hr,hrel⟩:=qd (P:=P) hw hc i n hlen
      refine ⟨.agg l'.toArray,by simp [bG hsz,hr],.agg (by simpa using hrel.1) fun j v v' h1 h2=>hrel.2 j v v' (by simpa using h1) (by simpa using h2)⟩
     ·cases hl
    ·cases hl
   ·next hag=>
    rw [if_neg hag]
    obtain ⟨v',h1,h2⟩:=hc i v hl
    exact ⟨v',by simp [run_load,kH hw,h1],h2⟩
  ·cases hl
 ·cases hl
theorem I6 (s:ByteArray)(l h:Nat):(⟨((s.data.toList.drop l).take (h - l)).toArray⟩:ByteArray)=s.extract l h:=by
 apply Ao
 simp [ByteArray.data_extract,Array.toList_extract]
def OVRel (β:Inj)(x x':Option Value):Prop:=match x,x' with | none,none=>True | some v,some v'=>VRel β v v' | _,_=>False
theorem OVRel.map {ρ ρ':Operand->Value}(hρ: ∀ x,VRel β (ρ x) (ρ' x))(x:Option Operand):OVRel β (x.map ρ) (x.map ρ'):=by
 cases x with
 | none=>trivial
 | some x=>exact hρ x
theorem OVRel.none_ {x':Option Value}(h:OVRel β none x'):x'=none:=by cases x' with | none=>rfl | some _=>exact h.elim
theorem OVRel.some_ {v:Value}{x':Option Value}(h:OVRel β (some v) x'): ∃ v',x'=some v'/\VRel β v v':=by cases x' with | none=>exact h.elim | some v'=>exact ⟨v',rfl,h⟩
theorem im {x x':Option Value}{d:Nat}{n:Int}(h:bK x d=some n)(hx:OVRel β x x'):
  (x=none/\x'=none/\n=d)\/ ∃ k,x=some (.int k n)/\x'=some (.int k n):=by
 cases x with
 | none=>simp only [bK,Option.some.injEq] at h; exact .inl ⟨rfl,hx.none_,h.symm⟩
 | some v=>
  obtain ⟨v',rfl,hv⟩:=hx.some_
  cases v with
  | int k m=>simp only [bK,Option.some.injEq] at h; subst h; exact .inr ⟨k,rfl,by rw [hv.inv_int]⟩
  | _=>simp [bK] at h
theorem ei {k:IntKind}{n:Int}{y:Nat}{c:BoundsCode}(h0:0<=n)(h1:n<=y)(w:World):(Instr.sliceBound (.int k n) y c).run P w = .ok n.toNat w:=by
 simp only [Instr.sliceBound,Sem.run_bind,asIntOf,Sem.run_pure,Result.andThen_ok,Sem.run_ite]
 rw [if_pos ⟨h0,h1⟩]
theorem kD {isS:Bool}{len cap:Nat}{lo hi lo' hi':Option Value}{l r:Int}(hl:bK lo 0=some l)(hh:bK hi len=some r)
  (hxl:OVRel β lo lo') (hxh:OVRel β hi hi')
  (h0:0<=l) (h1:l<=r) (h2:r<=cap) (w:World):(Instr.sliceBounds isS len cap lo' hi' none).run P w = .ok (l.toNat,r.toNat,cap) w:=by
 unfold Instr.sliceBounds
 rcases im hh hxh with ⟨rfl,rfl,rfl⟩ | ⟨k,rfl,rfl⟩
 ·rcases im hl hxl with ⟨rfl,rfl,rfl⟩ | ⟨k',rfl,rfl⟩
  ·simp
  ·simp only [Sem.run_bind,Sem.run_pure,Result.andThen_ok]
   rw [ei h0 h1]
   simp
 ·rcases im hl hxl with ⟨rfl,rfl,rfl⟩ | ⟨k',rfl,rfl⟩
  ·simp only [Sem.run_bind,Sem.run_pure,Result.andThen_ok]
   rw [ei (by omega) h2]
   simp
  ·simp only [Sem.run_bind,Sem.run_pure,Result.andThen_ok]
   rw [ei (by omega) h2]
   simp only [Result.andThen_ok]
   rw [ei h0 (by omega)]
   simp
theorem GW {len cap:Nat}{lo hi lo' hi':Option Value}{l r m:Int}{k:IntKind}(hl:bK lo 0=some l)(hh:bK hi len=some r)(hne:hi≠none)
  (hxl:OVRel β lo lo') (hxh:OVRel β hi hi')
  (h0:0<=l) (h1:l<=r) (h2:r<=m) (h3:m<=cap) (w:World):(Instr.sliceBounds true len cap lo' hi' (some (.int k m))).run P w = .ok (l.toNat,r.toNat,m.toNat) w:=by
 unfold Instr.sliceBounds
 rcases im hh hxh with ⟨rfl,rfl,rfl⟩ | ⟨k',rfl,rfl⟩
 ·exact absurd rfl hne
 ·rcases im hl hxl with ⟨rfl,rfl,rfl⟩ | ⟨k'',rfl,rfl⟩
  ·simp only [Sem.run_bind]
   rw [ei (by omega) h3]
   simp only [Result.andThen_ok]
   rw [ei (by omega) (by omega)]
   simp
  ·simp only [Sem.run_bind]
   rw [ei (by omega) h3]
   simp only [Result.andThen_ok]
   rw [ei (by omega) (by omega)]
   simp only [Result.andThen_ok]
   rw [ei h0 (by omega)]
   simp
theorem Ni {h:Heap}{w:World}(hs:Sim β h w){t:TypeId}{x x' v:Value}{lo hi mx lo' hi' mx':Option Value}(hv:aL P t x lo hi mx h=some v)(hx:VRel β x x')
  (hlo:OVRel β lo lo') (hhi:OVRel β hi hi') (hmx:OVRel β mx mx'): ∃ v',(Instr.sliceAt t x' lo' hi' mx').run P w = .ok v' w/\VRel β v v':=by
 unfold aL at hv
 split at hv
 ·next s=>
  cases hx.inv_string
  split at hv
  ·next hu=>
   split at hv
   ·next _ l r hl hh=>
    split at hv
    ·next hc=>
     obtain rfl:=oI hv
     have hmx':mx'=none:=hmx.none_
     subst hmx'
     refine ⟨.string (s.extract l.toNat r.toNat),?_,?_⟩
     ·have hsz:s.size=s.data.toList.length:=by simp
      simp only [Instr.sliceAt,Sem.run_bind,av hu,Result.andThen_ok,Instr.slice]
      simp only [Option.isSome_none,Bool.false_eq_true,if_false,Sem.run_bind,Sem.run_pure]
      rw [hsz,kD hl hh hlo hhi hc.1 hc.2.1 hc.2.2]
      simp
     ·rw [aa,show (r - l).toNat=r.toNat - l.toNat by omega,I6]
      exact .string _
    ·cases hv
   ·cases hv
  ·cases hv
 ·split at hv
  ·next e hu=>
   split at hv
   ·next n hl hh hsz=>
    obtain rfl:=oI hv
    obtain ⟨_,_,rfl⟩:=hx.inv_nilSlice
    have hmx':mx'=none:=hmx.none_
    subst hmx'
    refine ⟨.slice none 0 0,?_,.nilSlice⟩
    simp only [Instr.sliceAt,Sem.run_bind,av hu,Result.andThen_ok,Instr.slice]
    rw [kD hl hh hlo hhi (by omega) (by omega) (by omega)]
    simp [bG hsz]
   ·cases hv
  ·cases hv
 ·next k i len cap=>
  split at hv
  ·next e hu=>
   split at hv
   ·next l r sz cs t' sz' wr hl hh hsz hk=>
    split at hv
    ·next hszz=>
     obtain ⟨sl,i',c',hb,hm,_,rfl,hx1,ho1,hn1,hi1,hz1⟩:=hx.inv_slice
     obtain ⟨_,_,hslz,_⟩:=hs.row hk hb
     have hcap:aN cap<=c':=by
      unfold aN; split
      ·next hc=>exact ho1 hc
      ·next hc=>rw [hx1 (by omega)]; exact Nat.le_refl _
     split at hv
     ·split at hv
      ·next hc=>
       obtain rfl:=oI hv
       have hmx':mx'=none:=hmx.none_
       subst hmx'
       have hlc:l.toNat<=c':=by omega
       refine ⟨.slice (if c'=l.toNat then some ⟨sl.b,i',none⟩ else some ⟨sl.b,i'+l.toNat*sz,none⟩) (r - l).toNat (c' - l.toNat),?_,?_⟩
       ·simp only [Instr.sliceAt,Sem.run_bind,av hu,Result.andThen_ok,Instr.slice]
        rw [kD hl hh hlo hhi hc.1 hc.2.1 (by omega)]
        simp only [Result.andThen_ok,bG hsz,Sem.run_pure,Option.map_some,bn]
        rw [show r.toNat - l.toNat=(r - l).toNat by omega]
       ·by_cases hcl:c'=l.toNat
        ·rw [if_pos hcl]
         refine .slice hb hm ?_ ?_ ?_ (.inr ⟨by omega,by omega⟩) ?_
         ·intro hlt
          by_cases hco:cap < bm
          ·have:=hx1 hco; omega
          ·have:=ho1 (by omega); have h5:aN cap=cap - bm:=by unfold aN; rw [if_pos (by omega)]
           omega
         ·intro hge
          have hco:bm<=cap:=by omega
          have:=ho1 hco
          omega
         ·have:(r - l).toNat=0:=by omega
          omega
         ·rcases hz1 with hz1 | hz1
          ·exact .inl hz1
          ·right; rw [show c' - l.toNat=0 by omega]; simp; exact Nat.le_trans (Nat.le_add_right _ _) hz1
        ·rw [if_neg hcl]
         have hi2:i'=sl.s+i:=by rcases hi1 with h1 | ⟨h1,h2⟩; exact h1; exact absurd h2 (by omega)
         refine .slice hb hm ?_ ?_ ?_ (.inl (by omega)) ?_
         ·intro hlt
          by_cases hco:cap < bm
          ·have:=hx1 hco; omega
          ·have:=ho1 (by omega); have h5:aN cap=cap - bm:=by unfold aN; rw [if_pos (by omega)]
           omega
         ·intro hge
          have hco:bm<=cap:=by omega
          have:=ho1 hco
          omega
         ·by_cases hco:cap < bm
          ·have h5:aN cap=cap:=by unfold aN; rw [if_neg (by omega)]
           have h6:aN (cap - l.toNat)=cap - l.toNat:=by unfold aN; rw [if_neg (by omega)]
           omega
          ·have h5:aN cap=cap - bm:=by unfold aN; rw [if_pos (by omega)]
           have h6:aN (cap - l.toNat)=cap - l.toNat - bm:=by unfold aN; rw [if_pos (by omega)]
           omega
         ·rcases hszz with e1 | e1
          ·rcases hz1 with hz1 | hz1
           ·exact .inl hz1
           ·right
            subst e1; rw [<-hslz]
            rw [Nat.sub_mul]
            have:l.toNat*sl.sz<=c'*sl.sz:=Nat.mul_le_mul_right _ hlc
            omega
          ·exact .inl (by omega)
      ·cases hv
     ·next k m=>
      split at hv
      ·next hc=>
       obtain rfl:=oI hv
       obtain ⟨h0,h1,h2,h3,h4,h5⟩:=hc
       obtain ⟨vm,rfl,hvm⟩:=hmx.some_
       cases hvm.inv_int
       have hne:hi≠none:=by intro e; subst e; cases h5
       have hmc:m.toNat<=c':=by omega
       refine ⟨.slice (if m.toNat=l.toNat then some ⟨sl.b,i',none⟩ else some ⟨sl.b,i'+l.toNat*sz,none⟩) (r - l).toNat (m.toNat - l.toNat),?_,?_⟩
       ·simp only [Instr.sliceAt,Sem.run_bind,av hu,Result.andThen_ok,Instr.slice]
        rw [GW hl hh hne hlo hhi h0 h1 h2 (by omega)]
        simp only [Result.andThen_ok,bG hsz,Sem.run_pure,Option.map_some,bn]
        rw [show r.toNat - l.toNat=(r - l).toNat by omega]
       ·have hcm:aN (m - l).toNat=(m - l).toNat:=by unfold aN; rw [if_neg (by omega)]
        by_cases hcl:m.toNat=l.toNat
        ·rw [if_pos hcl]
         refine .slice hb hm (by omega) (by omega) (by omega) (.inr ⟨by omega,by omega⟩) ?_
         rcases hz1 with hz1 | hz1
         ·exact .inl hz1
         ·right; rw [show m.toNat - l.toNat=0 by omega]; simp; exact Nat.le_trans (Nat.le_add_right _ _) hz1
        ·rw [if_neg hcl]
         have hi2:i'=sl.s+i:=by rcases hi1 with h1 | ⟨h1,h2⟩; exact h1; exact absurd h2 (by omega)
         refine .slice hb hm (by omega) (by omega) (by omega) (.inl (by omega)) ?_
         rcases hszz with e1 | e1
         ·rcases hz1 with hz1 | hz1
          ·exact .inl hz1
          ·right
           subst e1; rw [<-hslz]
           have e2:l.toNat*sl.sz+(m.toNat - l.toNat)*sl.sz=m.toNat*sl.sz:=by rw [<-Nat.add_mul]; congr 1; omega
           have:m.toNat*sl.sz<=c'*sl.sz:=Nat.mul_le_mul_right _ hmc
           omega
         ·exact .inl (by omega)
      ·cases hv
     ·cases hv
    ·cases hv
   ·cases hv
  ·cases hv
 ·next k i=>
  obtain ⟨sl,hb,hm,rfl⟩:=hx.inv_ptr
  split at hv
  ·next n e hu=>
   split at hv
   ·next _ l r sz cs t' wr hl hh hsz hk=>
    split at hv
    ·next hc=>
     obtain ⟨h0,h1,h2,h3⟩:=hc
     obtain rfl:=oI hv
     have hmx':mx'=none:=hmx.none_
     subst hmx'
     obtain ⟨_,_,hslz,_⟩:=hs.row hk hb
     have hcm:aN (n - l.toNat)=n - l.toNat:=by unfold aN; rw [if_neg (by omega)]
     refine ⟨.slice (some (if n=l.toNat then ⟨sl.b,sl.s+i,none⟩ else ⟨sl.b,sl.s+i+l.toNat*sz,none⟩)) (r - l).toNat (n - l.toNat),?_,?_⟩
     ·simp only [Instr.sliceAt,Sem.run_bind,av hu,Result.andThen_ok,Instr.sureAddr,Sem.run_pure]
      rw [kD hl hh hlo hhi h0 h1 h2]
      simp only [Result.andThen_ok,bG hsz,bn]
      rw [show r.toNat - l.toNat=(r - l).toNat by omega]
     ·by_cases hcl:n=l.toNat
      ·rw [if_pos hcl]
       exact .slice hb hm (by omega) (by omega) (by omega) (.inr ⟨by omega,by omega⟩) (.inl (by omega))
      ·rw [if_neg hcl]
       exact .slice hb hm (by omega) (by omega) (by omega) (.inl (by omega)) (.inl (by omega))
    ·cases hv
   ·cases hv
  ·cases hv
 ·cases hv
theorem Bv: ∀ {l:List Value}{bs:List UInt8},bytesOf l=some bs-> ∃ ns:List Int,l=ns.map (Value.int .u8)/\ ∀ s:ByteArray,ns.foldl (fun r n=>r.push (UInt8.ofNat n.toNat)) s=⟨s.data++bs.toArray⟩
 | [],bs,h=>by simp only [bytesOf,Option.some.injEq] at h; subst h; exact ⟨[],rfl,fun s=>by simp⟩
 | v::l,bs,h=>by
  unfold bytesOf at h
  split at h
  ·next e=>cases e
  ·next n r e=>
   simp only [List.cons.injEq] at e
   obtain ⟨rfl,rfl⟩:=e
   split at h
   ·obtain ⟨bs',hb,rfl⟩:=Option.map_eq_some_iff.1 h
    obtain ⟨ns,rfl,hf⟩:=Bv hb
    refine ⟨n::ns,rfl,fun s=> ?_⟩
    rw [List.foldl_cons,hf]
    apply Ao
    simp [ByteArray.push]
   ·cases h
  ·cases h
theorem LRel.ints {k:IntKind}{ns:List Int}{l':List Value}(h:LRel β (ns.map (Value.int k)) l'):l'=ns.map (Value.int k):=by
 apply List.ext_getElem?
 intro i
 by_cases hi:i < ns.length
 ·have h1:(ns.map (Value.int k))[i]?=some (.int k ns[i]):=by simp [hi]
  obtain ⟨v',h2,h3⟩:=h.get h1
  rw [h1,h2,h3.inv_int]
 ·have h1:(ns.map (Value.int k)).length<=i:=by simp; omega
  rw [List.getElem?_eq_none h1,List.getElem?_eq_none (h.1 ▸ h1)]
theorem CA {h:Heap}{w:World}(hs:Sim β h w){k i n:Nat}{cs:List Value}{t:TypeId}{sz:Nat}{wr:Bool}{sl:Slot}(hk:h.get k=some (.cells cs t sz wr))(hb:β k=some sl)
  (hl:((cs.drop i).take n).length=n) {bs:List UInt8} (hbs:bytesOf ((cs.drop i).take n)=some bs):
  ∃ ns:List Int,(cs.drop i).take n=ns.map (Value.int .u8)/\(loadCells ⟨sl.b,sl.s+i,none⟩ n).run P w = .ok (ns.map (Value.int .u8)).toArray w/\(∀ s:ByteArray,ns.foldl (fun r n=>r.push (UInt8.ofNat n.toNat)) s=⟨s.data++bs.toArray⟩)/\
   (∀ j u,(ns.map (Value.int .u8))[j]?=some u->w.cell? ((⟨sl.b,sl.s+i,none⟩:Addr).add j)=some u):=by
 obtain ⟨ns,hns,hf⟩:=Bv hbs
 obtain ⟨_,_,_,cs',fr,hw,hn,hc,_⟩:=hs.row hk hb
 obtain ⟨l',hr,hrel⟩:=qd (P:=P) hw hc i n hl
 rw [hns] at hrel
 rw [hrel.ints] at hr
 refine ⟨ns,hns,hr,hf,fun j u hu=> ?_⟩
 have hj:((cs.drop i).take n)[j]?=some u:=by rw [hns]; exact hu
 rw [List.getElem?_take,List.getElem?_drop] at hj
 split at hj
 ·obtain ⟨u',h1,h2⟩:=hc _ _ hj
  rw [bn,kH hw,show sl.s+i+j=sl.s+(i+j) by omega,h1]
  simp only [List.getElem?_map,Option.map_eq_some_iff] at hu
  obtain ⟨m,_,rfl⟩:=hu
  rw [h2.inv_int]
 ·cases hj
theorem sP {h:Heap}{w:World}(hs:Sim β h w){k i n c:Nat}{cs:List Value}{t:TypeId}{sz:Nat}{wr:Bool}(hk:h.get k=some (.cells cs t sz wr))
  (hl:((cs.drop i).take n).length=n) {bs:List UInt8} (hbs:bytesOf ((cs.drop i).take n)=some bs) {x':Value} (hx:VRel β (.slice (some ⟨k,i,none⟩) n c) x'):
  (Conv.bytesToString x').run P w = .ok (aa bs) w:=by
 obtain ⟨sl,i',c',hb,hm,_,rfl,hx1,ho1,hn1,hi1,hz1⟩:=hx.inv_slice
 by_cases h0:n=0
 ·subst h0
  have:bs=[]:=by simp [bytesOf] at hbs; exact hbs
  subst this
  simp [Conv.bytesToString,loadCells,loadCellsFrom,aa]
  rfl
 ·have hi2:i'=sl.s+i:=by rcases hi1 with h1 | ⟨h1,h2⟩; exact h1; exact absurd h1 h0
  subst hi2
  obtain ⟨ns,hns,hr,hf,hcell⟩:=CA (P:=P) hs hk hb hl hbs
  rw [run_bytesToString (P:=P) w ⟨sl.b,sl.s+i,none⟩ n c' ns hr,hf]
  congr 2
  apply Ao
  simp [ByteArray.empty,ByteArray.emptyWithCapacity]
  rfl
end
section
variable {β:Inj} {P:Program}
theorem Ir {a b:Value}(h:G8 a b=true):a=b:=by
 unfold G8 at h
 split at h
 ·rw [beq_iff_eq.1 h]
 ·simp only [Bool.and_eq_true,decide_eq_true_eq] at h; rw [h.1,h.2]
 ·next a b=>
  simp only [decide_eq_true_eq] at h
  obtain ⟨⟨a⟩⟩:=a
  obtain ⟨⟨b⟩⟩:=b
  simp only at h
  rw [h]
 ·cases h
theorem Hl: ∀ {a b:List Value},DH a b=true->a=b
 | [],[],_=>rfl
 | [],_::_,h=>by simp [DH] at h
 | _::_,[],h=>by simp [DH] at h
 | a::x,b::y,h=>by
  simp only [DH,Bool.and_eq_true] at h
  rw [Ir h.1,Hl h.2]
theorem OX {a b:Value}(h:Le a b=true):a=b:=by
 unfold Le at h
 split at h
 ·rw [Array.ext' (Hl h)]
 ·exact Ir h
theorem VRel.scal3_eq {v v':Value}(hv:wx v=true)(h:VRel β v v'):v'=v:=by
 cases h <;> first | rfl | (simp [wx] at hv)
theorem VRel.of_scal3 {v:Value}(hv:wx v=true):VRel β v v:=by
 cases v <;> first | exact .bool _ | exact .int _ _ | exact .string _ | (simp [wx] at hv)
theorem VRel.keyP_eq {v v':Value}(hv:wj v=true)(h:VRel β v v'):v'=v:=by
 unfold wj at hv
 split at hv
 ·next cs=>
  obtain ⟨a',rfl,ha⟩:=h.inv_agg
  have:a'=cs:=by
   refine Array.ext ha.1.symm fun i h1 h2=> ?_
   have h3:=ha.2 i cs[i] a'[i] (Array.getElem?_eq_getElem h2) (Array.getElem?_eq_getElem h1)
   exact h3.scal3_eq (List.all_eq_true.1 hv _ (by simp))
  rw [this]
 ·exact h.scal3_eq hv
theorem VRel.of_keyP {v:Value}(hv:wj v=true):VRel β v v:=by
 unfold wj at hv
 split at hv
 ·next cs=>
  refine .agg rfl fun i v v' h1 h2=> ?_
  rw [h1] at h2
  obtain rfl:=oI h2
  refine .of_scal3 (List.all_eq_true.1 hv _ ?_)
  rw [<-Array.getElem?_toList] at h1
  exact List.mem_of_getElem? h1
 ·exact .of_scal3 hv
theorem jW {t:TypeId}{cs:Array Value}{off:Nat}{v:Value}(h:gM P t cs off=some v)(w:World):(part t cs off).run P w = .ok v w:=by
 unfold gM at h
 cases hu:P.underlying t with
 | none=>simp [hu] at h
 | some d=>
 simp only [hu] at h
 simp only [part,Sem.run_bind,qp hu,Result.andThen_ok,Sem.run_ite]
 split at h
 ·next ha=>
  obtain ⟨n,hn,rfl⟩:=Option.map_eq_some_iff.1 h
  rw [if_pos ha]
  simp only [bG hn,Result.andThen_ok,Sem.run_pure]
 ·next ha=>
  rw [if_neg ha]
  simp [h]
theorem Ik {e:TypeId->Value->Value->Option Bool}{d:Nat}(w:World)(he: ∀ t x y b,e t x y=some b->(Op.equalIn d t x y).run P w = .ok b w)(xs ys:Array Value): ∀ (fs:List Field){b:Bool},Rt P e xs ys fs=some b->
  (Op.eqFields d xs ys fs).run P w = .ok b w
 | [],b,h=>by simp only [Rt] at h; obtain rfl:=oI h; rfl
 | f::fs,b,h=>by
  simp only [Rt] at h
  split at h
  ·next hn=>
   split at h
   ·next p q h1 h2=>
    unfold Op.eqFields
    rw [if_pos hn]
    split at h
    ·next h3=>
     simp only [Sem.run_bind,jW h1,jW h2,Result.andThen_ok,he _ _ _ _ h3]
     simp only [Bool.not_true,Bool.false_eq_true,if_false]
     exact Ik w he xs ys fs h
    ·next h3=>
     obtain rfl:=oI h
     simp only [Sem.run_bind,jW h1,jW h2,Result.andThen_ok,he _ _ _ _ h3]
     rfl
    ·cases h
   ·cases h
  ·cases h
theorem rk (w:World): ∀ (d n:Nat)(t:TypeId)(x y:Value)(b:Bool),eR P d t x y=some b->(Op.equalIn (n+d) t x y).run P w = .ok b w
 | 0,_,_,_,_,_,h=>by simp [eR] at h
 | d+1,n,t,x,y,b,h=>by
  unfold eR at h
  split at h
  ·next fs a b' hu=>
   split at h
   ·next hs=>
    have hf:P.fieldsOf t=fs:=by simp [Program.fieldsOf,hu]
    rw [show n+(d+1)=(n+d)+1 from rfl,run_equalIn_struct w (n+d) t a b' (by rw [hf]; exact hu) hs,hf]
    exact Ik w (fun t x y b hb=>rk w d n t x y b hb) a b' fs.toList h
   ·cases h
  ·exact AR h (n+d) w
theorem DK {c:TypeId->Value->Bool}{em:Bool}{d:Nat}(w:World)(hc: ∀ t v,c t v=true->(Instr.checkKey em d t v).run P w = .ok () w)(cs:Array Value): ∀ (fs:List Field),KZ P c cs fs=true->
  (forIn fs PUnit.unit (fun f _=>do
   if f.name≠ "_" then Instr.checkKey em d f.type (<-part f.type cs f.offset)
   pure (ForInStep.yield PUnit.unit)):Sem PUnit).run P w = .ok PUnit.unit w
 | [],_=>rfl
 | f::fs,h=>by
  simp only [KZ,Bool.and_eq_true,decide_eq_true_eq] at h
  obtain ⟨⟨hn,h1⟩,h2⟩:=h
  cases hp:gM P f.type cs f.offset with
  | none=>rw [hp] at h1; cases h1
  | some p=>
   rw [hp] at h1
   simp only [List.forIn_cons,Sem.run_bind,hn,ne_eq,not_false_eq_true,if_true,Result.andThen_ok,jW hp,hc _ _ h1,Sem.run_pure]
   simpa using DK w hc cs fs h2
theorem zQ (em:Bool)(w:World): ∀ (d n:Nat)(t:TypeId)(v:Value),vL P d t v=true->(Instr.checkKey em (n+d) t v).run P w = .ok () w
 | 0,_,_,_,h=>by simp [vL] at h
 | d+1,n,t,v,h=>by
  rw [show n+(d+1)=(n+d)+1 from rfl]
  unfold vL at h
  split at h
  ·next fs a hu=>
   have:=DK (em:=em) w (fun t v hv=>zQ em w d n t v hv) a fs.toList h
   rw [Instr.checkKey]
   simp only [Sem.run_bind,av hu,Result.andThen_ok]
   rw [<-Array.forIn_toList]
   simp only [ne_eq,ite_not,bind_pure_comp] at this ⊢
   simp at this ⊢
   rw [this]
   rfl
  ·next hu=>simp [Instr.checkKey,av hu]
  ·next hu=>simp [Instr.checkKey,av hu]
  ·next hu=>simp [Instr.checkKey,av hu]
  ·cases h
theorem wO {kt:TypeId}{k:Value}(h:nM P kt k=true)(em:Bool)(w:World):(Instr.checkKey em 10000 kt k).run P w = .ok () w:=by
 unfold nM at h
 simp only [Bool.and_eq_true] at h
 exact zQ em w 3 9997 kt k h.2
theorem yU {kt:TypeId}{k:Value}(h:nM P kt k=true):wj k=true:=by
 unfold nM at h
 simp only [Bool.and_eq_true] at h
 exact h.1
theorem qt {kt:TypeId}{a b:Value}{r:Bool}(h:wI P kt a b=some r):wj b=true/\eR P 3 kt a b=some r/\(r=true->a=b):=by
 unfold wI at h
 split at h
 ·next hk=>
  refine ⟨hk,?_⟩
  split at h
  ·next he=>
   split at h
   ·next hs=>obtain rfl:=oI h; exact ⟨he,fun _=>OX hs⟩
   ·cases h
  ·next hx=>
   refine ⟨h,fun hr=> ?_⟩
   subst hr
   exact absurd h hx
 ·cases h
theorem Nu {kt:TypeId}{k:Value}(h:nM P kt k=true):(∃ fs a,P.underlying kt=some (.struct fs)/\k = .agg a)\/(∃ kd,P.underlying kt=some kd/\ ∀ b r,eR P 3 kt k b=some r->Instr.sameNow kd k b=some r):=by
 unfold nM at h
 simp only [Bool.and_eq_true] at h
 have h2:=h.2
 unfold vL at h2
 split at h2
 ·next fs a hu=>exact .inl ⟨fs,a,hu,rfl⟩
 ·next b hu=>
  refine .inr ⟨_,hu,fun y r he=> ?_⟩
  simp only [eR,An,hu] at he
  cases y <;> simp at he
  simp [Instr.sameNow,he]
 ·next kk k' n hu=>
  refine .inr ⟨_,hu,fun y r he=> ?_⟩
  simp only [eR,An,hu] at he
  cases y <;> simp at he
  obtain ⟨rfl,rfl⟩:=he
  simp [Instr.sameNow]
 ·next b hu=>
  refine .inr ⟨_,hu,fun y r he=> ?_⟩
  simp only [eR,An,hu] at he
  cases y with
  | string s=>
   obtain rfl:=oI he
   simp only [Instr.sameNow]
   rw [C0]
  | _=>simp at he
 ·cases h2
theorem ERel.tail' {p:Value×Value}{es:List (Value×Value)}{e:MapEntry}{es':List MapEntry}(he:ERel β (p::es) (e::es')):ERel β es es':=
 ⟨by have:=he.1; simpa using this,fun j p e h1 h2=>he.2 (j+1) p e (by simpa using h1) (by simpa using h2)⟩
structure Finder (P:Program)(kt:TypeId)(k:Value){α:Type}(fnd:List MapEntry->Nat->α)(R:Option (Nat×Value)->α):Prop where
 nil: ∀ i,fnd [] i=R none
 hit: ∀ (e:MapEntry) es i,eR P 3 kt k e.key=some true->fnd (e::es) i=R (some (i,e.val))
 miss: ∀ (e:MapEntry) es i,eR P 3 kt k e.key=some false->fnd (e::es) i=fnd es (i+1)
theorem JI {kt:TypeId}{kd:TypeDesc}{k:Value}(hk: ∀ b r,eR P 3 kt k b=some r->Instr.sameNow kd k b=some r):Finder P kt k (Instr.findNow kd k) some where
 nil:=fun _=>rfl
 hit:=fun e es i h=>by simp only [Instr.findNow,hk _ _ h]
 miss:=fun e es i h=>by simp only [Instr.findNow,hk _ _ h]
theorem Cl {kt:TypeId}{k:Value}(w:World):Finder P kt k (fun es i=>(Instr.findAsking kt k es i).run P w) (fun r=> .ok r w) where
 nil:=fun _=>by simp [Instr.findAsking]
 hit:=fun e es i h=>by
  have hr:(Op.equal kt k e.key).run P w = .ok true w:=rk w 3 9997 kt k e.key true h
  simp [Instr.findAsking,hr]
 miss:=fun e es i h=>by
  have hr:(Op.equal kt k e.key).run P w = .ok false w:=rk w 3 9997 kt k e.key false h
  simp [Instr.findAsking,hr]
section
variable {kt:TypeId} {k:Value} {α:Type} {fnd:List MapEntry->Nat->α} {R:Option (Nat×Value)->α}
theorem HY (hF:Finder P kt k fnd R): ∀ (es:List (Value×Value))(es':List MapEntry)(i:Nat){r:Option Value},ERel β es es'->Ag P kt k es=some r->
  ∃ r',fnd es' i=R r'/\((r=none/\r'=none)\/ ∃ v j v',r=some v/\r'=some (j,v')/\VRel β v v')
 | [],es',i,r,he,h=>by
  have:es'=[]:=List.eq_nil_of_length_eq_zero he.1.symm
  subst this
  simp only [Ag,Option.some.injEq] at h
  exact ⟨none,hF.nil i,.inl ⟨h.symm,rfl⟩⟩
 | (k',v)::es,[],i,r,he,h=>by have:=he.1; simp at this
 | (k',v)::es,e::es',i,r,he,h=>by
  obtain ⟨hke,hve⟩:=he.2 0 (k',v) e rfl rfl
  dsimp only at hke hve
  simp only [Ag] at h
  split at h
  ·next hq=>
   obtain ⟨hp,hd,_⟩:=qt hq
   have hkey:=hke.keyP_eq hp
   obtain rfl:=oI h
   exact ⟨some (i,e.val),hF.hit e es' i (by rw [hkey]; exact hd),.inr ⟨v,i,e.val,rfl,rfl,hve⟩⟩
  ·next hq=>
   obtain ⟨hp,hd,_⟩:=qt hq
   have hkey:=hke.keyP_eq hp
   obtain ⟨r',h1,h2⟩:=HY hF es es' (i+1) he.tail' h
   exact ⟨r',by rw [hF.miss e es' i (by rw [hkey]; exact hd)]; exact h1,h2⟩
  ·cases h
theorem wW (hF:Finder P kt k fnd R){x x':Value}(hk:wj k=true)(hx:VRel β x x'): ∀ (es:List (Value×Value))(es':List MapEntry){r:List (Value×Value)},ERel β es es'->iR P kt k x es=some r-> ∀ i clock,
  (∃ j e,fnd es' i=R (some (i+j,e.val))/\es'[j]?=some e/\e.key=k/\ERel β r (es'.modify j fun e=>{ e with key:=k,val:=x' }))\/
  (fnd es' i=R none/\ERel β r (es'++[{ key:=k,val:=x',born:=clock }]))
 | [],es',r,he,h,i,clock=>by
  have:es'=[]:=List.eq_nil_of_length_eq_zero he.1.symm
  subst this
  simp only [iR,Option.some.injEq] at h
  subst h
  refine .inr ⟨hF.nil i,rfl,fun j p e h1 h2=> ?_⟩
  cases j with
  | zero=>simp at h1 h2; subst h1; subst h2; exact ⟨.of_keyP hk,hx⟩
  | succ j=>simp at h1
 | (k',v)::es,[],r,he,h,i,clock=>by have:=he.1; simp at this
 | (k',v)::es,e::es',r,he,h,i,clock=>by
  obtain ⟨hke,hve⟩:=he.2 0 (k',v) e rfl rfl
  dsimp only at hke hve
  have hcons: ∀ {p:Value×Value}{e0:MapEntry}{q:List (Value×Value)}{q':List MapEntry},VRel β p.1 e0.key->VRel β p.2 e0.val->ERel β q q'->ERel β (p::q) (e0::q'):=fun h1 h2 h3=>
   ⟨by simp [h3.1],fun j p e h4 h5=>by
    cases j with
    | zero=>simp at h4 h5; subst h4; subst h5; exact ⟨h1,h2⟩
    | succ j=>exact h3.2 j p e (by simpa using h4) (by simpa using h5)⟩
  simp only [iR] at h
  split at h
  ·next hq=>
   obtain ⟨hp,hd,heq⟩:=qt hq
   have hkey:=hke.keyP_eq hp
   obtain rfl:=oI h
   refine .inl ⟨0,e,hF.hit e es' i (by rw [hkey]; exact hd),rfl,by rw [hkey,heq rfl],?_⟩
   simp only [List.modify_zero_cons]
   exact hcons (.of_keyP hk) hx he.tail'
  ·next hq=>
   obtain ⟨hp,hd,_⟩:=qt hq
   have hkey:=hke.keyP_eq hp
   obtain ⟨r',hr,rfl⟩:=Option.map_eq_some_iff.1 h
   have hm:=hF.miss e es' i (by rw [hkey]; exact hd)
   rcases wW hF hk hx es es' he.tail' hr (i+1) clock with ⟨j,e0,h1,h2,h3,h4⟩ | ⟨h1,h2⟩
   ·refine .inl ⟨j+1,e0,?_,by simpa using h2,h3,?_⟩
    ·rw [hm,h1]; congr 3; omega
    ·simp only [List.modify_succ_cons]
     exact hcons hke hve h4
   ·exact .inr ⟨hm.trans h1,hcons hke hve h2⟩
  ·cases h
end
theorem Aj {kt:TypeId}{k:Value}(hk:nM P kt k=true)(w:World)(es':List MapEntry):
  ∃ (α:Type)(fnd:List MapEntry->Nat->α)(R:Option (Nat×Value)->α),Finder P kt k fnd R/\ ∀ r',fnd es' 0=R r'->(Instr.findKey kt k es').run P w = .ok r' w:=by
 rcases Nu hk with ⟨fs,a,hu,rfl⟩ | ⟨kd,hu,hn⟩
 ·refine ⟨_,_,_,Cl w,fun r' h=> ?_⟩
  cases es' with
  | nil=>
   have h:Result.ok (none:Option (Nat×Value)) w=Result.ok r' w:=by simpa [Instr.findAsking] using h
   injection h with h
   subst h
   simp [Instr.findKey,av hu,Instr.findNow]
  | cons e es'=>
   simp only [Instr.findKey,Sem.run_bind,av hu,Result.andThen_ok,Instr.findNow,Instr.sameNow]
   exact h
 ·exact ⟨_,_,_,JI hn,fun r' h=>by simp [Instr.findKey,av hu,h]⟩
theorem pb (d:Nat){v:Value}(h:wx v=true):Instr.sameBits d v v=true:=by
 cases v <;> first | (simp [wx] at h; done) | (cases d <;> simp [Instr.sameBits]; done) | (cases d <;> (simp only [Instr.sameBits]; rw [<-C0]; simp))
theorem B6 {v:Value}(h:wj v=true)(d:Nat):Instr.sameBits (d+1) v v=true:=by
 unfold wj at h
 split at h
 ·next cs=>
  simp only [Instr.sameBits,BEq.rfl,Bool.true_and]
  rw [List.all_eq_true] at h ⊢
  rintro ⟨x,y⟩ hm
  obtain ⟨i,h1⟩:=List.getElem?_of_mem hm
  rw [List.getElem?_zip_eq_some] at h1
  obtain ⟨h2,h3⟩:=h1
  dsimp only at h2 h3 ⊢
  rw [h2] at h3
  obtain rfl:=oI h3
  exact pb d (h x (List.mem_of_getElem? h2))
 ·exact pb (d+1) h
set_option maxHeartbeats 1000000 in
theorem nh {ρ ρ':Operand->Value}(hρ: ∀ x,VRel β (ρ x) (ρ' x)){o:Oper}{v:Value}{h:Heap}{w:World}(hs:Sim β h w)(hv:aH P ρ o h=some v):
  ∃ v',(execOp ρ' o).run P w = .ok (.value v') w/\VRel β v v':=by
 unfold aH at hv
 unfold execOp
 split at hv
 ·next t a ho=>
  simp only [ho]
  obtain ⟨ad,he,v',hr,hrel⟩:=Hc (P:=P) hs hv (hρ a)
  exact ⟨v',cP (by simp [Instr.loadAt,he,Instr.sureAddr,hr]),hrel⟩
 ·next t x lo hi mx ho=>
  simp only [ho]
  obtain ⟨v',hr,hrel⟩:=Ni (P:=P) hs hv (hρ x) (OVRel.map hρ lo) (OVRel.map hρ hi) (OVRel.map hρ mx)
  exact ⟨v',cP hr,hrel⟩
 ·next s d x ho=>
  simp only [ho]
  have hx:=hρ x
  split at hv
  ·next e a n c h1 h2 ha=>
   rw [ha] at hx
   split at hv
   ·next he=>
    obtain rfl:=oI hv
    obtain ⟨_,_,hx'⟩:=hx.inv_nilSlice
    refine ⟨aa [],cP ?_,.string _⟩
    simp only [convert,Sem.run_bind,av h1,av h2,Result.andThen_ok,hx',av he,Conv.bytesToString]
    rfl
   ·next k i he=>
    split at hv
    ·next cs t sz wr hk=>
     split at hv
     ·next hl=>
      obtain ⟨bs,hbs,rfl⟩:=Option.map_eq_some_iff.1 hv
      refine ⟨aa bs,cP ?_,.string _⟩
      have hb:=sP (P:=P) hs hk hl hbs hx
      obtain ⟨sl,i',c',_,_,_,hx',_⟩:=hx.inv_slice
      rw [hx'] at hb ⊢
      simp only [convert,Sem.run_bind,av h1,av h2,Result.andThen_ok,av he]
      exact hb
     ·cases hv
    ·cases hv
   ·cases hv
  ·cases hv
 ·next t m k ok ho=>
  simp only [ho]
  have hm:=hρ m
  have hk:=hρ k
  split at hv
  ·next kt e hu=>
   split at hv
   ·next es z hes hz=>
    split at hv
    ·next hok=>
     have hkk:=hk.keyP_eq (yU hok)
     have key: ∃ es',ERel β es es'.toList/\((ρ' m = .map none/\es' = #[])\/ ∃ b clock,ρ' m = .map (some b)/\(getObj b).run P w = .ok (.map es' clock) w):=by
      split at hes
      ·next hm0=>
       obtain rfl:=oI hes
       rw [hm0] at hm
       exact ⟨#[],⟨rfl,fun i p e h1=>by simp at h1⟩,.inl ⟨hm.inv_nilMap,rfl⟩⟩
      ·next r hm0=>
       rw [hm0] at hm
       split at hes
       ·next es0 hr=>
        obtain rfl:=oI hes
        obtain ⟨sl,hb,hmap,he⟩:=hm.inv_map
        obtain ⟨_,es',clock,hw,hrel⟩:=hs.blk _ _ _ hr hb
        exact ⟨es',hrel,.inr ⟨sl.b,clock,he,by simp [getObj,Sem.run,hw]⟩⟩
       ·cases hes
      ·cases hes
     obtain ⟨es',hrel,hrun⟩:=key
     have hlk: ∀ {v:Value},(∃ r,Ag P kt (ρ k) es=some r/\v=match r with | some v=>(if ok then .tuple #[v,.bool true] else v) | none=>(if ok then .tuple #[z,.bool false] else z))->
       ∃ v',(Instr.lookup t (ρ' m) (ρ' k) ok).run P w = .ok v' w/\VRel β v v':=by
      rintro v ⟨r,hr,rfl⟩
      rw [hkk]
      obtain ⟨α,fnd,R,hF,hrun1⟩:=Aj hok w es'.toList
      obtain ⟨r',h1,h2⟩:=HY hF es es'.toList 0 hrel hr
      have hfk:=hrun1 r' h1
      have hL:(Instr.lookup t (ρ' m) (ρ k) ok).run P w=((do
         Instr.checkKey es'.isEmpty 10000 kt (ρ k)
         let (v,ok') <-match <-Instr.findKey kt (ρ k) es'.toList with
          | some (_,v)=>pure (v,true)
          | none=>pure (<-zeroValue e,false)
         pure (if ok then .tuple #[v,.bool ok'] else v)):Sem Value).run P w:=by
       rcases hrun with ⟨he,rfl⟩ | ⟨b,clock,he,hg⟩
       ·simp only [Instr.lookup,Sem.run_bind,av hu,Result.andThen_ok,he,Sem.run_pure]; rfl
       ·simp only [Instr.lookup,Sem.run_bind,av hu,Result.andThen_ok,he,hg,Sem.run_pure]; rfl
      rw [hL]
      have hck:=wO hok es'.isEmpty w
      simp only [Sem.run_bind,hck,Result.andThen_ok,hfk]
      rcases h2 with ⟨rfl,rfl⟩ | ⟨u,j,u',rfl,rfl,hu'⟩
      ·refine ⟨if ok then .tuple #[z,.bool false] else z,by simp [jj hz],?_⟩
       have hzz:VRel β z z:= .of_plain (bZ hz).1
       cases ok
       ·exact hzz
       ·exact z2 hzz (.bool _)
      ·refine ⟨if ok then .tuple #[u',.bool true] else u',by simp,?_⟩
       cases ok
       ·exact hu'
       ·exact z2 hu' (.bool _)
     have: ∃ r,Ag P kt (ρ k) es=some r/\v=match r with | some v=>(if ok then .tuple #[v,.bool true] else v) | none=>(if ok then .tuple #[z,.bool false] else z):=by
      split at hv
      ·next u hf=>exact ⟨some u,hf,(oI hv).symm⟩
      ·next hf=>exact ⟨none,hf,(oI hv).symm⟩
      ·cases hv
     obtain ⟨v',h1,h2⟩:=hlk this
     exact ⟨v',cP h1,h2⟩
    ·cases hv
   ·cases hv
  ·cases hv
 ·next args ats ho=>
  simp only [ho]
  split at hv
  ·next x t hx ht=>
   have hxr:=hρ x
   have h0:(args.map ρ')[0]?=some (ρ' x):=by simp [hx]
   have key: ∃ n,v = .int .i64 n/\(Builtin.len_ ats o.type (args.map ρ')).run P w = .ok (.int .i64 n) w:=by
    simp only [Builtin.len_,ht,h0]
    split at hv
    ·next s hu ha=>
     rw [ha] at hxr
     obtain rfl:=oI hv
     refine ⟨_,rfl,?_⟩
     simp only [Sem.run_bind,av hu,Result.andThen_ok,hxr.inv_string,Sem.run_pure,goInt]
     simp
    ·next n e y hu=>
     obtain rfl:=oI hv
     refine ⟨_,rfl,?_⟩
     simp only [Sem.run_bind,av hu,Result.andThen_ok,Sem.run_pure,goInt]
    ·next e a n c hu ha=>
     rw [ha] at hxr
     obtain rfl:=oI hv
     refine ⟨_,rfl,?_⟩
     cases a with
     | none=>obtain ⟨rfl,rfl,he⟩:=hxr.inv_nilSlice; simp only [Sem.run_bind,av hu,Result.andThen_ok,he,Sem.run_pure,goInt]
     | some a=>obtain ⟨a',c',he⟩:=hxr.inv_some; simp only [Sem.run_bind,av hu,Result.andThen_ok,he,Sem.run_pure,goInt]
    ·next kt e hu ha=>
     rw [ha] at hxr
     obtain rfl:=oI hv
     refine ⟨_,rfl,?_⟩
     simp only [Sem.run_bind,av hu,Result.andThen_ok,hxr.inv_nilMap,Sem.run_pure,goInt]
    ·next kt e r hu ha=>
     rw [ha] at hxr
     split at hv
     ·next es hr=>
      obtain rfl:=oI hv
      refine ⟨_,rfl,?_⟩
      obtain ⟨sl,hb,hmap,he⟩:=hxr.inv_map
      obtain ⟨_,es',clock,hw,hrel⟩:=hs.blk _ _ _ hr hb
      have hg:(getObj sl.b).run P w = .ok (.map es' clock) w:=by simp [getObj,Sem.run,hw]
      simp only [Sem.run_bind,av hu,Result.andThen_ok,he,hg,Sem.run_pure,goInt]
      rw [hrel.1]; simp
     ·cases hv
    ·cases hv
   obtain ⟨n,rfl,hr⟩:=key
   refine ⟨.int .i64 n,?_,.int _ _⟩
   simp only [resolve,Sem.run_bind,Sem.run_pure,Result.andThen_ok,invoke,builtin,hr]
  ·cases hv
 ·cases hv
end
section
variable {β:Inj} {P:Program}
def Wr (β:Inj)(h:Heap)(b:Nat):Prop:= ∃ k B sl,h.get k=some B/\B.wr=true/\β k=some sl/\sl.b=b
structure Step (β:Inj)(h:Heap)(w:World)(β':Inj)(h':Heap)(w':World):Prop where
 le:β.le β'
 next:h.next<=h'.next
 sim:Sim β' h' w'
 size:w.heap.size<=w'.heap.size
 os:w'.os=w.os
 tape:w'.tape=w.tape
 output:w'.output=w.output
 kept: ∀ b,b < w.heap.size-> ¬ Wr β h b->w'.heap[b]?=w.heap[b]?
 back: ∀ b,b < w.heap.size->Wr β' h' b->Wr β h b
 fresh: ∀ k sl,β' k=some sl->β k=some sl\/(h.next<=k/\(w.heap.size<=sl.b\/Wr β h sl.b))
 keys: ∀ k B,h'.get k=some B->k < h.next-> ∃ B₀,h.get k=some B₀
theorem Step.refl {h:Heap}{w:World}(hs:Sim β h w):Step β h w β h w:=
 ⟨β.le_refl,Nat.le_refl _,hs,Nat.le_refl _,rfl,rfl,rfl,fun _ _ _=>rfl,fun _ _ h=>h,fun _ _ h=> .inl h,fun _ B h _=>⟨B,h⟩⟩
theorem Step.trans {β₁ β₂:Inj}{h h₁ h₂:Heap}{w w₁ w₂:World}(a:Step β h w β₁ h₁ w₁)(b:Step β₁ h₁ w₁ β₂ h₂ w₂):Step β h w β₂ h₂ w₂ where
 le:=Inj.le_trans a.le b.le
 next:=Nat.le_trans a.next b.next
 sim:=b.sim
 size:=Nat.le_trans a.size b.size
 os:=b.os.trans a.os
 tape:=b.tape.trans a.tape
 output:=b.output.trans a.output
 kept:=fun k hk hn=>(b.kept k (Nat.lt_of_lt_of_le hk a.size) fun hw=>hn (a.back k hk hw)).trans (a.kept k hk hn)
 back:=fun k hk hw=>a.back k hk (b.back k (Nat.lt_of_lt_of_le hk a.size) hw)
 fresh:=fun k sl hk=>by
  rcases b.fresh k sl hk with h1 | ⟨h1,h2⟩
  ·exact a.fresh k sl h1
  ·refine .inr ⟨Nat.le_trans a.next h1,?_⟩
   rcases h2 with h2 | h2
   ·exact .inl (Nat.le_trans a.size h2)
   ·rcases Nat.lt_or_ge sl.b w.heap.size with h3 | h3
    ·exact .inr (a.back _ h3 h2)
    ·exact .inl h3
 keys:=fun k B hk hlt=>by
  obtain ⟨B₁,h1⟩:=b.keys k B hk (Nat.lt_of_lt_of_le hlt a.next)
  exact a.keys k B₁ h1 hlt
theorem Sim.of_heap {h:Heap}{w w':World}(hs:Sim β h w)(he:w'.heap=w.heap):Sim β h w':=
 ⟨fun k sl hk=>by rw [he]; exact hs.lt k sl hk,fun k B sl h1 h2=>(hs.blk k B sl h1 h2).of_heap (by rw [he]),hs.own,hs.wf⟩
theorem Step.of_heap {h:Heap}{w w':World}(hs:Sim β h w)(he:w'.heap=w.heap)(h1:w'.os=w.os)(h2:w'.tape=w.tape)(h3:w'.output=w.output):Step β h w β h w':=
 ⟨β.le_refl,Nat.le_refl _,hs.of_heap he,by rw [he]; exact Nat.le_refl _,h1,h2,h3,fun _ _ _=>by rw [he],fun _ _ h=>h,fun _ _ h=> .inl h,fun _ B h _=>⟨B,h⟩⟩
def Inj.ext (β:Inj)(k:Nat)(sl:Slot):Inj:=fun j=>if j=k then some sl else β j
theorem Inj.ext_same (β:Inj)(k:Nat)(sl:Slot):β.ext k sl k=some sl:=by simp [Inj.ext]
theorem Inj.ext_ne (β:Inj){k j:Nat}(sl:Slot)(h:j≠k):β.ext k sl j=β j:=by simp [Inj.ext,h]
theorem Inj.le_ext {k:Nat}(sl:Slot)(h:β k=none):β.le (β.ext k sl):=fun j sl' hj=>by
 rw [β.ext_ne sl (by rintro rfl; rw [h] at hj; cases hj)]; exact hj
theorem Sim.none_of_ge {h:Heap}{w:World}(hs:Sim β h w){k:Nat}(hk:h.next<=k):β k=none:=by
 cases hb:β k with
 | none=>rfl
 | some sl=>exact absurd (hs.lt k sl hb).1 (by omega)
structure Allocs (β:Inj)(w:World)(B:Blk)(f:Nat->Value)(v':Value)(w':World):Prop where
 size:w'.heap.size=w.heap.size+1
 os:w'.os=w.os
 tape:w'.tape=w.tape
 output:w'.output=w.output
 kept: ∀ b,b < w.heap.size->w'.heap[b]?=w.heap[b]?
 new: ∃ sl:Slot,sl.b=w.heap.size/\ ∀ (β':Inj)(k:Nat),β.le β'->β' k=some sl->BRel β' B sl w'/\VRel β' (f k) v'
theorem Heap.wf_push {h:Heap}(hw: ∀ k B,h.get k=some B->k < h.next)(B:Blk): ∀ k B',(h.push B).get k=some B'->k < (h.push B).next:=fun k B' hk=>by
 rw [h.get_push] at hk
 split at hk
 ·next e=>subst e; simp
 ·have:=hw k B' hk; simp; omega
theorem Heap.wf_set {h:Heap}(hw: ∀ k B,h.get k=some B->k < h.next){j:Nat}(B:Blk)(hj:j < h.next): ∀ k B',(h.set j B).get k=some B'->k < (h.set j B).next:=fun k B' hk=>by
 rw [h.get_set] at hk
 split at hk
 ·next e=>subst e; exact hj
 ·exact hw k B' hk
theorem Heap.wf_del {h:Heap}(hw: ∀ k B,h.get k=some B->k < h.next)(j:Nat): ∀ k B',(h.del j).get k=some B'->k < (h.del j).next:=fun k B' hk=>by
 rw [h.get_del] at hk
 split at hk
 ·cases hk
 ·exact hw k B' hk
theorem Allocs.step {h:Heap}{w w':World}(hs:Sim β h w){B:Blk}{f:Nat->Value}{v':Value}(ha:Allocs β w B f v' w'):
  ∃ β',Step β h w β' (h.push B) w'/\VRel β' (f h.next) v':=by
 obtain ⟨sl,hb,hnew⟩:=ha.new
 have hnone:=hs.none_of_ge (Nat.le_refl h.next)
 have hle:β.le (β.ext h.next sl):=Inj.le_ext sl hnone
 obtain ⟨h1,h2⟩:=hnew _ h.next hle (β.ext_same _ _)
 have hlt: ∀ k sl',β k=some sl'->sl'.b < w.heap.size:=fun k sl' hk=>(hs.lt k sl' hk).2
 have hwr: ∀ b,b < w.heap.size->Wr (β.ext h.next sl) (h.push B) b->Wr β h b:=by
  rintro b hb' ⟨k,B',sl',e1,e2,e3,e4⟩
  by_cases hk:k=h.next
  ·subst hk
   rw [β.ext_same] at e3
   obtain rfl:=oI e3
   omega
  ·rw [h.get_push_ne k B hk] at e1
   rw [β.ext_ne sl hk] at e3
   exact ⟨k,B',sl',e1,e2,e3,e4⟩
 refine ⟨β.ext h.next sl,⟨hle,by simp,⟨?_,?_,?_,Heap.wf_push hs.wf B⟩,by rw [ha.size]; omega,ha.os,ha.tape,ha.output,fun b hb' _=>ha.kept b hb',hwr,?_,?_⟩,h2⟩
 ·intro k sl' hk
  by_cases hkn:k=h.next
  ·subst hkn
   rw [β.ext_same] at hk
   obtain rfl:=oI hk
   exact ⟨by simp,by rw [ha.size,hb]; omega⟩
  ·rw [β.ext_ne sl hkn] at hk
   have:=hs.lt k sl' hk
   exact ⟨by simp; omega,by rw [ha.size]; omega⟩
 ·intro k B' sl' e1 e2
  by_cases hkn:k=h.next
  ·subst hkn
   rw [β.ext_same] at e2
   obtain rfl:=oI e2
   rw [h.get_push_same] at e1
   obtain rfl:=oI e1
   exact h1
  ·rw [h.get_push_ne k B hkn] at e1
   rw [β.ext_ne sl hkn] at e2
   exact ((hs.blk k B' sl' e1 e2).mono hle).of_heap (ha.kept _ (hlt k sl' e2))
 ·intro k k' B' B'' sl' sl'' hne e1 e2 e3 e4 e5
  by_cases hkn:k=h.next
  ·subst hkn
   rw [β.ext_same] at e3
   obtain rfl:=oI e3
   rw [β.ext_ne sl (Ne.symm hne)] at e4
   have:=hlt k' sl'' e4
   omega
  ·by_cases hkn':k'=h.next
   ·subst hkn'
    rw [β.ext_same] at e4
    obtain rfl:=oI e4
    rw [β.ext_ne sl hne] at e3
    have:=hlt k sl' e3
    omega
   ·rw [h.get_push_ne k B hkn] at e1
    rw [h.get_push_ne k' B hkn'] at e2
    rw [β.ext_ne sl hkn] at e3
    rw [β.ext_ne sl hkn'] at e4
    exact hs.own k k' B' B'' sl' sl'' hne e1 e2 e3 e4 e5
 ·intro k sl' hk
  by_cases hkn:k=h.next
  ·subst hkn
   rw [β.ext_same] at hk
   obtain rfl:=oI hk
   exact .inr ⟨Nat.le_refl _,.inl (by omega)⟩
  ·rw [β.ext_ne sl hkn] at hk
   exact .inl hk
 ·intro k B' hk hlt'
  rw [h.get_push_ne k B (by omega)] at hk
  exact ⟨B',hk⟩
theorem CellsAt.of_list {cs:List Value}{l':List Value}(h:LRel β cs l'):CellsAt β cs 0 l'.toArray:=fun i v hv=>by
 obtain ⟨v',h1,h2⟩:=h.get hv
 exact ⟨v',by simpa using h1,h2⟩
theorem Dh (n:Nat):SH (0,0) n:=fun x _ h=>absurd h (by simp)
theorem ew {w:World}(o:Obj):(w.alloc o).heap[w.heap.size]?=some o:=by
 unfold World.alloc; simp only [Array.getElem?_push,if_true]
theorem gU {w:World}(o:Obj){b:Nat}(h:b < w.heap.size):(w.alloc o).heap[b]?=w.heap[b]?:=by
 simp only [World.alloc,Array.getElem?_push]
 rw [if_neg (by omega)]
theorem mP {w:World}{cs l':List Value}{t:TypeId}{sz:Nat}{f:Nat->Value}{v':Value}(h:LRel β cs l')
  (hv: ∀ (β':Inj)(k:Nat)(sl:Slot),β' k=some sl->sl.b=w.heap.size->sl.s=0->sl.n=l'.length->sl.sz=sz->sl.isMap=false->VRel β' (f k) v'):
  Allocs β w (.cells cs t sz true) f v' (w.alloc (.cells l'.toArray t)) where
 size:=by simp
 os:=rfl
 tape:=rfl
 output:=rfl
 kept:=fun b hb=>gU _ hb
 new:=⟨⟨w.heap.size,0,l'.length,t,sz,false⟩,rfl,fun β' k hle hk=>
  ⟨⟨rfl,rfl,⟨rfl,fun _=>rfl⟩,l'.toArray,(0,0),ew _,by simp,CellsAt.of_list (h.mono hle),fun _=>Dh _⟩,hv β' k _ hk rfl rfl rfl rfl rfl⟩⟩
theorem LRel.refl_plain {z:Value}(h:plain z=true):LRel β z.cells.toList z.cells.toList:=ARel.toList.1 (ARel.of_plain_cells h)
theorem kY {l l':List Value}(h:LRel β l l'): ∀ n,LRel β (bh l n) (bh l' n)
 | 0=> .nil β
 | n+1=>h.append (kY h n)
theorem dX (l:List Value): ∀ n,(bh l n).length=n*l.length
 | 0=>by simp [bh]
 | n+1=>by simp [bh,dX l n,Nat.add_mul,Nat.add_comm]
theorem xj (l:List Value): ∀ (n i:Nat),i < n*l.length->(bh l n)[i]?=l[i % l.length]?
 | 0,i,h=>by simp at h
 | n+1,i,h=>by
  have hl:0 < l.length:=by
   rcases Nat.eq_zero_or_pos l.length with h0 | h0
   ·rw [h0] at h; simp at h
   ·exact h0
  simp only [bh]
  by_cases hi:i < l.length
  ·rw [List.getElem?_append_left hi,Nat.mod_eq_of_lt hi]
  ·rw [List.getElem?_append_right (by omega),xj l n (i - l.length) (by rw [Nat.add_mul] at h; omega)]
   congr 1
   exact (Nat.mod_eq_sub_mod (by omega)).symm
theorem rG (z:Array Value)(n:Nat)(hz:0 < z.size):((Array.range (n*z.size)).map (fun i=>z[i % z.size]!))=(bh z.toList n).toArray:=by
 apply Array.ext'
 apply List.ext_getElem?
 intro i
 simp only [Array.toList_map,Array.toList_range,List.getElem?_map]
 by_cases hi:i < n*z.size
 ·rw [List.getElem?_range hi,xj z.toList n i (by simpa using hi)]
  have hm:i % z.size < z.size:=Nat.mod_lt _ hz
  simp [hm]
 ·rw [List.getElem?_eq_none (by simp; omega),List.getElem?_eq_none (by rw [dX]; simp; omega)]
  rfl
end
section
variable {β:Inj} {P:Program}
theorem dM (e:TypeId)(cs:Array Value)(w:World):(newRow e cs).run P w = .ok ⟨w.heap.size,0,none⟩ (w.alloc (.cells cs e)):=by
 simp [newRow]
theorem Kz {w:World}{β':Inj}{k:Nat}{sl:Slot}(h:β' k=some sl)(hb:sl.b=w.heap.size)(hs:sl.s=0)(hm:sl.isMap=false):VRel β' (.pointer (some ⟨k,0,none⟩)) (.pointer (some ⟨w.heap.size,0,none⟩)):=by
 have:=VRel.ptr (i:=0) h hm
 rwa [hb,hs] at this
theorem qk {w:World}{β':Inj}{k:Nat}{sl:Slot}{n c c':Nat}(h:β' k=some sl)(hb:sl.b=w.heap.size)(hs:sl.s=0)(hm:sl.isMap=false)(hx:c < bm->c'=c)(ho:bm<=c->c - bm<=c')(hn:n<=aN c)
  (hz:sl.sz=0\/c'*sl.sz<=sl.n):VRel β' (.slice (some ⟨k,0,none⟩) n c) (.slice (some ⟨w.heap.size,0,none⟩) n c'):=by
 have:=VRel.slice (i:=0) (i':=0) h hm hx ho hn (.inl (by rw [hs])) (by simpa using hz)
 rwa [hb] at this
theorem Bz {c:Nat}(h:c < bm):aN c=c:=by unfold aN; rw [if_neg (by omega)]
theorem dg (c:Nat):aN (bm+c)=c:=by unfold aN; rw [if_pos (by omega)]; omega
theorem yQ:bm=36893488147419103232:=rfl
def YK (a:Addr)(n:Nat):Obj->Obj
 | .cells c elem (lo,hi)=> .cells c elem (if lo == hi then (a.off,a.off+n) else (min lo a.off,max hi (a.off+n)))
 | o=>o
theorem kO (w:World)(a:Addr){n:Nat}(hn:n≠0)(b:Nat):(w.freeze a n).heap[b]?=if a.block=b then (w.heap[b]?).map (YK a n) else w.heap[b]?:=by
 unfold World.freeze
 rw [if_neg hn]
 simp only [Array.getElem?_modify]
 rfl
theorem xl (w:World)(a:Addr)(n:Nat):(w.freeze a n).heap.size=w.heap.size:=by
 unfold World.freeze
 split
 ·rfl
 ·simp
theorem pm (w:World)(a:Addr)(n:Nat):(w.freeze a n).os=w.os/\(w.freeze a n).tape=w.tape/\(w.freeze a n).output=w.output:=by
 unfold World.freeze
 split <;> exact ⟨rfl,rfl,rfl⟩
theorem Ap (off:Nat): ∀ (q:List (Value×Nat))(a:Array Value),(q.foldl (fun cs (c,j)=>cs.setIfInBounds (off+j) c) a).size=a.size
 | [],_=>rfl
 | c::q,a=>by simp only [List.foldl_cons]; rw [Ap off q]; simp
theorem D1 (place:Nat->Option (Nat×Nat)): ∀ (l:List (Nat×Value))(a r:Array Value),Instr.fill place a l=some r->r.size=a.size
 | [],a,r,h=>by simp only [Instr.fill,Option.some.injEq] at h; rw [h]
 | (i,v)::l,a,r,h=>by
  simp only [Instr.fill] at h
  split at h
  ·cases h
  ·split at h
   ·cases h
   ·rw [D1 place l _ _ h,<-Array.foldl_toList]
    exact Ap _ _ a
theorem oL (f:Nat->Value)(n:Nat)(h:n=0):(Array.range n).map f = #[]:=by
 subst h; apply Array.ext'; simp
set_option maxHeartbeats 1000000 in
theorem kX {ρ ρ':Operand->Value}(hρ: ∀ x,VRel β (ρ x) (ρ' x)){o:Oper}{B:Blk}{f:Nat->Value}{w:World}(hv:aG P ρ o=some (B,f)):
  ∃ v' w',(execOp ρ' o).run P w = .ok (.value v') w'/\Allocs β w B f v' w':=by
 unfold aG at hv
 unfold execOp
 split at hv
 ·next t ho=>
  simp only [ho]
  split at hv
  ·next z hz=>
   split at hv
   ·next hsc=>
    simp only [Option.some.injEq,Prod.mk.injEq] at hv
    obtain ⟨rfl,rfl⟩:=hv
    refine ⟨_,_,cP (v:= .pointer (some ⟨w.heap.size,0,none⟩)) (w':=w.alloc (.cells z.cells.toList.toArray t)) ?_,mP (LRel.refl_plain (bZ hz).1) fun β' k sl h1 h2 h3 h4 h5 h6=>Kz h1 h2 h3 h6⟩
    simp [Instr.alloc,jj hz,newVar,dM]
   ·cases hv
  ·cases hv
 ·next t x ho=>
  simp only [ho]
  split at hv
  ·next hsc=>
   simp only [Option.some.injEq,Prod.mk.injEq] at hv
   obtain ⟨rfl,rfl⟩:=hv
   have hx:=hρ x
   have hj:ρ x≠Ab.junk:=by
    intro e
    rw [e] at hsc
    cases hsc
   have hc:=hx.cells hj
   refine ⟨_,_,cP (v:= .pointer (some ⟨w.heap.size,0,none⟩)) (w':=w.alloc (.cells (ρ' x).cells.toList.toArray t)) ?_,mP (ARel.toList.1 hc) fun β' k sl h1 h2 h3 h4 h5 h6=>Kz h1 h2 h3 h6⟩
   simp [Instr.box,newVar,dM]
  ·cases hv
 ·next t len parts ho=>
  simp only [ho]
  split at hv
  ·next e hu=>
   split at hv
   ·next sz z hsz hz=>
    split at hv
    ·next hc=>
     obtain ⟨hzs,hpos,hlim⟩:=hc
     split at hv
     ·next cs hcs=>
      split at hcs
      ·next hj=>
       split at hv
       ·next hsc=>
        simp only [Option.some.injEq,Prod.mk.injEq] at hv
        obtain ⟨rfl,rfl⟩:=hv
        have hrow:ARel β (bh z.cells.toList len).toArray (bh z.cells.toList len).toArray:=ARel.toList.2 (by simpa using kY (LRel.refl_plain (bZ hz).1) len)
        have hpr:PRel β (parts.toList.map fun p=>(p.1,ρ p.2)) (parts.toList.map fun p=>(p.1,ρ' p.2)):=PRel.map parts.toList (·.1) fun p _=>hρ p.2
        obtain ⟨cs',hf,hr⟩:=tL _ _ _ _ _ _ hpr (by
         intro p hp
         simp only [List.mem_map] at hp
         obtain ⟨q,hq,rfl⟩:=hp
         exact List.all_eq_true.1 hj q hq) hrow hcs
        have hsize:cs'.size=len*sz:=by
         rw [D1 _ _ _ _ hf]
         simp [dX,hzs]
        refine ⟨_,_,cP (v:= .slice (some ⟨w.heap.size,0,none⟩) len len) (w':=w.alloc (.cells cs'.toList.toArray e)) ?_,mP (ARel.toList.1 hr) fun β' k sl h1 h2 h3 h4 h5 h6=>
         qk h1 h2 h3 h6 (fun _=>rfl) (fun h=>absurd h (by rw [yQ]; have:len<=len*sz:=Nat.le_mul_of_pos_right _ hpos; omega))
          (by rw [Bz (by rw [yQ]; have:len<=len*sz:=Nat.le_mul_of_pos_right _ hpos; omega)]; exact Nat.le_refl _) (.inr (by rw [h5,h4]; simp [hsize]))⟩
        have he:(parts.map fun (i,x)=>(i,ρ' x)).toList=(parts.toList.map fun p=>(p.1,ρ' p.2)):=by simp
        have hzr:((Array.range (len*sz)).map (z.cells[· % z.cells.size]!))=(bh z.cells.toList len).toArray:=by
         rw [<-hzs]; exact rG z.cells len (by omega)
        simp only [Instr.buildSlice,Sem.run_bind,av hu,Result.andThen_ok,bG hsz,Sem.run_ite]
        rw [if_neg (by omega)]
        by_cases hl0:len*sz=0
        ·rw [if_pos hl0]
         have:len=0:=by rcases Nat.mul_eq_zero.1 hl0 with h | h; exact h; omega
         subst this
         simp only [bh] at hf
         simp only [Sem.run_pure,Result.andThen_ok,he]
         rw [oL _ _ (by simp)]
         have hf':Instr.fill (fun i=>some (i*sz,sz)) #[] (parts.toList.map fun p=>(p.1,ρ' p.2))=some cs':=hf
         rw [hf']
         simp [dM]
        ·rw [if_neg hl0]
         simp only [Sem.run_bind,jj hz,Sem.run_pure,Result.andThen_ok,hzr,he,hf]
         simp [dM]
       ·cases hv
      ·cases hcs
     ·cases hv
    ·cases hv
   ·cases hv
  ·cases hv
 ·next t l c ho=>
  simp only [ho]
  have hl:=hρ l
  have hc:=hρ c
  split at hv
  ·next e l0 c0 hu hla hca=>
   rw [hla] at hl
   rw [hca] at hc
   split at hv
   ·next i z hi hz=>
    split at hv
    ·next hcond=>
     obtain ⟨hzs,hpos,h0,h1,h2,h3⟩:=hcond
     simp only [Option.some.injEq,Prod.mk.injEq] at hv
     obtain ⟨rfl,rfl⟩:=hv
     have hrow:LRel β (bh z.cells.toList c0.toNat) (bh z.cells.toList c0.toNat):=kY (LRel.refl_plain (bZ hz).1) _
     have hsz:aq P e=some i.size:=by simp [aq,hi]
     refine ⟨_,_,cP (v:= .slice (some ⟨w.heap.size,0,none⟩) l0.toNat c0.toNat) (w':=w.alloc (.cells (bh z.cells.toList c0.toNat).toArray e)) ?_,mP hrow fun β' k sl h1' h2' h3' h4 h5 h6=>
      qk h1' h2' h3' h6 (fun _=>rfl) (fun h=>absurd h (by rw [yQ]; omega)) (by rw [Bz (by rw [yQ]; omega)]; omega) (.inr (by rw [h5,h4,dX]; simp [hzs]))⟩
     have hw1:IntKind.i64.wrap l0=l0:=by rw [IntKind.wrap_i64]; omega
     have hw2:IntKind.i64.wrap c0=c0:=by rw [IntKind.wrap_i64]; omega
     simp only [Instr.makeSlice,Sem.run_bind,av hu,Result.andThen_ok,hl.inv_int,hc.inv_int,asInt,asIntOf,Sem.run_pure,pE hi,hw1,hw2,Sem.run_ite]
     have hib:(i.bytes:Int)*c0<=140737488355328:=by rw [Int.mul_comm]; exact h2
     rw [if_neg (by simp; omega)]
     simp only [run_askRoom,Result.andThen_ok,bG hsz]
     by_cases hc0:c0.toNat*i.size=0
     ·rw [if_pos hc0]
      have:c0.toNat=0:=by rcases Nat.mul_eq_zero.1 hc0 with h | h; exact h; omega
      rw [oL _ _ hc0,dM,this]
      rfl
     ·rw [if_neg hc0]
      have hzr:=rG z.cells c0.toNat (by omega)
      rw [hzs] at hzr
      simp only [jj hz,Result.andThen_ok,hzs]
      rw [hzr,dM]
      rfl
    ·cases hv
   ·cases hv
  ·cases hv
 ·next t r ho=>
  simp only [ho]
  have hnew: ∀ v',v'=Value.map (some w.heap.size)->Allocs β w (.map []) (fun k=> .map (some k)) v' (w.alloc (.map #[] 0)):=fun v' he=>
   {
    size:=by simp,os:=rfl,tape:=rfl,output:=rfl,kept:=fun b hb=>gU _ hb
    new:=⟨⟨w.heap.size,0,0,0,0,true⟩,rfl,fun β' k _ hk=>⟨⟨rfl,#[],0,ew _,rfl,fun i p e h=>by simp at h⟩,by rw [he]; exact .map (sl:=⟨w.heap.size,0,0,0,0,true⟩) hk rfl⟩⟩ }
  split at hv
  ·next kt e hu=>
   split at hv
   ·simp only [Option.some.injEq,Prod.mk.injEq] at hv
    obtain ⟨rfl,rfl⟩:=hv
    refine ⟨_,_,cP (v:= .map (some w.heap.size)) (w':=w.alloc (.map #[] 0)) ?_,hnew _ rfl⟩
    simp [Instr.makeMap]
   ·next x=>
    split at hv
    ·next k n hx=>
     have hxr:=hρ x
     rw [hx] at hxr
     simp only [Option.some.injEq,Prod.mk.injEq] at hv
     obtain ⟨rfl,rfl⟩:=hv
     refine ⟨_,_,cP (v:= .map (some w.heap.size)) (w':=w.alloc (.map #[] 0)) ?_,hnew _ rfl⟩
     simp [Instr.makeMap,av hu,hxr.inv_int,asInt,asIntOf]
    ·cases hv
  ·cases hv
 ·next s d x ho=>
  simp only [ho]
  have hx:=hρ x
  split at hv
  ·next ds e s0 h1 h2 ha=>
   rw [ha] at hx
   split at hv
   ·next he=>
    split at hv
    ·next hsz=>
     simp only [Option.some.injEq,Prod.mk.injEq] at hv
     obtain ⟨rfl,rfl⟩:=hv
     have hcut:(Question.appendCap s0.size 0 e).forced=false:=rfl
     obtain ⟨cap,hcap,hle⟩: ∃ cap,(Question.appendCap s0.size 0 e).cut (w.tape w.drawn (.appendCap s0.size 0 e))=cap/\s0.size<=cap:=⟨_,rfl,by simp [Question.cut]⟩
     let cells:Array Value:=(s0.data.map fun b=>Value.int .u8 b.toNat)++Array.replicate (cap - s0.size) (.int .u8 0)
     have hcs:cells.size=cap:=by simp [cells]; omega
     let w1:World:=w.drew.alloc (.cells cells e)
     let w2:World:=w1.freeze ⟨w.heap.size,cap,none⟩ 1
     have hnew:w2.heap[w.heap.size]?=some (.cells cells e (cap,cap+1)):=by
      have h1:w1.heap[w.heap.size]?=some (.cells cells e):=ew (w:=w.drew) _
      simp only [w2,kO _ _ (Nat.succ_ne_zero 0),if_true,h1,Option.map_some,YK,BEq.rfl]
     refine ⟨_,w2,cP (v:= .slice (some ⟨w.heap.size,0,none⟩) s0.size cap) (w':=w2) ?_,?_⟩
     ·have hsh:w1.shape? w.heap.size=some (e,cap):=by
       have h1:w1.heap[w.heap.size]?=some (.cells cells e):=ew (w:=w.drew) _
       simp [World.shape?,h1,hcs]
      have hconv:(convert s d (ρ' x)).run P w=(Conv.stringToBytes e s0).run P w:=by
       rw [hx.inv_string]
       simp only [convert,Sem.run_bind,av h1,av h2,Result.andThen_ok]
       cases ds <;> simp only [av he,Result.andThen_ok]
      rw [hconv]
      simp only [Conv.stringToBytes,Sem.run_bind,run_choose,hcut,Bool.false_eq_true,if_false,Result.andThen_ok,hcap,dM]
      show (Sem.run P (markStringish ⟨w.heap.size,0,none⟩) w1).andThen _=_
      simp only [markStringish,Sem.run_bind,run_shape,hsh,Result.andThen_ok,run_freeze,Sem.run_pure]
      rfl
     ·refine { size:= ?_,os:=rfl,tape:=rfl,output:=rfl,kept:= ?_,new:=⟨⟨w.heap.size,0,cap,e,1,false⟩,rfl,?_⟩ }
      ·simp [w2,w1,xl]
      ·intro b hb
       have:w1.heap[b]?=w.heap[b]?:=gU (w:=w.drew) _ hb
       simp only [w2,kO _ _ (Nat.succ_ne_zero 0)]
       rw [if_neg (by omega)]
       exact this
      ·intro β' k hle' hk
       refine ⟨⟨rfl,rfl,⟨rfl,fun _=>rfl⟩,cells,(cap,cap+1),hnew,hcs,?_,fun _ x h1 h2=>by rw [hcs]; exact h1⟩,?_⟩
       ·intro i v hv
        simp only [List.getElem?_map,Option.map_eq_some_iff] at hv
        obtain ⟨b,hb,rfl⟩:=hv
        refine ⟨_,?_,.int _ _⟩
        have hi:i < s0.data.size:=by
         have:=(List.getElem?_eq_some_iff.1 hb).1; simpa using this
        simp only [cells,Nat.zero_add]
        rw [Array.getElem?_append_left (by simpa using hi)]
        rw [Array.getElem?_toList] at hb
        simp [hb]
       ·have:s0.data.toList.length=s0.size:=by simp
        rw [this]
        exact qk (w:=w) hk rfl rfl rfl (fun h=>absurd h (by omega)) (fun _=>by omega) (by rw [dg]; exact Nat.le_refl _) (.inr (by simp))
    ·cases hv
   ·cases hv
  ·cases hv
 ·cases hv
end
section
variable {β:Inj} {P:Program}
structure At (w w':World)(b:Nat):Prop where
 size:w'.heap.size=w.heap.size
 os:w'.os=w.os
 tape:w'.tape=w.tape
 output:w'.output=w.output
 kept: ∀ b',b'≠b->w'.heap[b']?=w.heap[b']?
theorem At.refl (w:World)(b:Nat):At w w b:=⟨rfl,rfl,rfl,rfl,fun _ _=>rfl⟩
theorem At.trans {w w₁ w₂:World}{b:Nat}(h:At w w₁ b)(h':At w₁ w₂ b):At w w₂ b:=
 ⟨h'.size.trans h.size,h'.os.trans h.os,h'.tape.trans h.tape,h'.output.trans h.output,fun b' hb=>(h'.kept b' hb).trans (h.kept b' hb)⟩
theorem Step.at_ {h:Heap}{w w':World}(hs:Sim β h w){k:Nat}{B₀ B:Blk}{sl:Slot}(hk:h.get k=some B₀)(hb:β k=some sl)(hw:B₀.wr=true)(ha:At w w' sl.b)(hB:BRel β B sl w'):Step β h w β (h.set k B) w':=by
 have hown: ∀ k' B' sl',k'≠k->h.get k'=some B'->β k'=some sl'->sl'.b≠sl.b:=fun k' B' sl' hne h1 h2=>(hs.own k k' B₀ B' sl sl' (Ne.symm hne) hk h1 hb h2 hw).symm
 refine ⟨β.le_refl,Nat.le_refl _,⟨?_,?_,?_,Heap.wf_set hs.wf B (hs.lt k sl hb).1⟩,by rw [ha.size]; exact Nat.le_refl _,ha.os,ha.tape,ha.output,?_,?_,fun _ _ h=> .inl h,?_⟩
 ·intro k' sl' h1
  rw [ha.size]
  exact hs.lt k' sl' h1
 ·intro k' B' sl' h1 h2
  by_cases hne:k'=k
  ·subst hne
   rw [h.get_set_same] at h1
   obtain rfl:=oI h1
   rw [hb] at h2
   obtain rfl:=oI h2
   exact hB
  ·rw [h.get_set_ne k k' B hne] at h1
   exact (hs.blk k' B' sl' h1 h2).of_heap (ha.kept _ (hown k' B' sl' hne h1 h2))
 ·intro k₁ k₂ B₁ B₂ sl₁ sl₂ hne h1 h2 h3 h4 h5
  by_cases hk1:k₁=k
  ·subst hk1
   rw [h.get_set_ne k₁ k₂ B (Ne.symm hne)] at h2
   rw [hb] at h3
   obtain rfl:=oI h3
   exact (hown k₂ B₂ sl₂ (Ne.symm hne) h2 h4).symm
  ·rw [h.get_set_ne k k₁ B hk1] at h1
   by_cases hk2:k₂=k
   ·subst hk2
    rw [hb] at h4
    obtain rfl:=oI h4
    exact hown k₁ B₁ sl₁ hk1 h1 h3
   ·rw [h.get_set_ne k k₂ B hk2] at h2
    exact hs.own k₁ k₂ B₁ B₂ sl₁ sl₂ hne h1 h2 h3 h4 h5
 ·intro b hb' hn
  refine ha.kept b ?_
  rintro rfl
  exact hn ⟨k,B₀,sl,hk,hw,hb,rfl⟩
 ·rintro b hb' ⟨k',B',sl',h1,h2,h3,h4⟩
  by_cases hne:k'=k
  ·subst hne
   exact ⟨k',B₀,sl',hk,hw,h3,h4⟩
  ·rw [h.get_set_ne k k' B hne] at h1
   exact ⟨k',B',sl',h1,h2,h3,h4⟩
 ·intro k' B' h1 h2
  by_cases hne:k'=k
  ·subst hne; exact ⟨B₀,hk⟩
  ·rw [h.get_set_ne k k' B hne] at h1; exact ⟨B',h1⟩
def splice (cur:Array Value)(o:Nat)(vs:List Value):Array Value:=(cur.toList.take o++vs++cur.toList.drop (o+vs.length)).toArray
theorem JT (cur:Array Value)(o:Nat):splice cur o []=cur:=by apply Array.ext'; simp [splice]
theorem pR {cur:Array Value}{o:Nat}{vs:List Value}(h:o+vs.length<=cur.size):(splice cur o vs).size=cur.size:=by simp [splice]; omega
theorem Ii {cur:Array Value}{o:Nat}{v:Value}{vs:List Value}(h:o+(vs.length+1)<=cur.size):splice (cur.setIfInBounds o v) (o+1) vs=splice cur o (v::vs):=by
 have ho:o < cur.toList.length:=by simp; omega
 have h1:(cur.toList.set o v).take (o+1)=cur.toList.take o++[v]:=by
  rw [List.take_succ_eq_append_getElem (by simpa using ho),List.take_set_of_le (Nat.le_refl _)]
  simp
 have h2:(cur.toList.set o v).drop (o+1+vs.length)=cur.toList.drop (o+(vs.length+1)):=by
  rw [List.drop_set_of_lt (by omega)]
  congr 1; omega
 unfold splice
 rw [Array.toList_setIfInBounds,h1,h2]
 simp
theorem J0 (w:World){b o:Nat}{cur:Array Value}{t:TypeId}{fr:Nat×Nat}(v:Value)(hw:w.heap[b]?=some (.cells cur t fr)):
  At w (w.setCell ⟨b,o,none⟩ v) b/\(w.setCell ⟨b,o,none⟩ v).heap[b]?=some (.cells (cur.setIfInBounds o v) t fr):=by
 refine ⟨⟨by simp [World.setCell],rfl,rfl,rfl,fun b' hb=> ?_⟩,?_⟩
 ·simp only [World.setCell,Array.getElem?_modify]
  rw [if_neg (Ne.symm hb)]
 ·simp only [World.setCell,Array.getElem?_modify,if_true,hw,Option.map_some]
  simp
theorem mT (b o:Nat)(t:TypeId)(fr:Nat×Nat): ∀ (vs:List Value)(i:Nat)(cur:Array Value)(w:World),w.heap[b]?=some (.cells cur t fr)->SH fr cur.size->o+i+vs.length<=cur.size->
  (∀ v∈vs,v.oneCell'=true)-> ∃ w',(storeCells ⟨b,o,none⟩ vs i).run P w = .ok () w'/\At w w' b/\w'.heap[b]?=some (.cells (splice cur (o+i) vs) t fr)
 | [],i,cur,w,hw,_,_,_=>⟨w,rfl,At.refl w b,by rw [JT]; exact hw⟩
 | v::vs,i,cur,w,hw,hf,hl,h1=>by
  simp only [List.length_cons] at hl
  have hc:w.cell? ⟨b,o+i,none⟩=some cur[o+i]:=by rw [kH hw]; exact Array.getElem?_eq_getElem (by omega)
  have hfr:w.frozen? ⟨b,o+i,none⟩=false:=by
   simp only [World.frozen?,hw]
   rw [Bool.and_eq_false_iff]
   by_cases h2:fr.1<=o+i
   ·right
    simp only [decide_eq_false_iff_not]
    intro h3
    have:=hf _ h2 h3
    omega
   ·left; simpa using h2
  have hst:(store ((⟨b,o,none⟩:Addr).add i) v).run P w = .ok () (w.setCell ⟨b,o+i,none⟩ v):=by
   rw [bn,run_store P w _ v .plain (h1 v List.mem_cons_self),hc]
   simp [hfr]
  obtain ⟨ha,hw'⟩:=J0 w (o:=o+i) v hw
  obtain ⟨w',hr,ha',hh⟩:=mT b o t fr vs (i+1) _ _ hw' (by simpa using hf) (by simp; omega) fun u hu=>h1 u (List.mem_cons_of_mem _ hu)
  refine ⟨w',?_,ha.trans ha',?_⟩
  ·simp only [storeCells,Sem.run_bind,hst,Result.andThen_ok,hr]
  ·rw [hh,<-Ii (cur:=cur) (o:=o+i) (by omega)]
   rfl
theorem LRel.scalars {l l':List Value}(h:LRel β l l')(hs:l.all bL=true): ∀ v∈l',v.oneCell'=true:=fun v hv=>by
 obtain ⟨i,hi,rfl⟩:=List.mem_iff_getElem.1 hv
 have hi':i < l.length:=h.1 ▸ hi
 exact ((h.2 i _ _ (gE hi') (gE hi)).scalar_one (List.all_eq_true.1 hs _ (List.getElem_mem hi'))).1
theorem CellsAt.splice {cs vs vs':List Value}{s i:Nat}{cs':Array Value}(hc:CellsAt β cs s cs')(hv:LRel β vs vs')(hi:i+vs.length<=cs.length)(hl:s+i+vs.length<=cs'.size):
  CellsAt β (cs.take i++vs++cs.drop (i+vs.length)) s (Ab.splice cs' (s+i) vs'):=by
 have hlen:vs'.length=vs.length:=hv.1.symm
 intro j v hj
 have hsp: ∀ j,(Ab.splice cs' (s+i) vs')[s+j]?=if j < i then cs'[s+j]? else if j < i+vs.length then vs'[j - i]? else cs'[s+j]?:=by
  intro j
  simp only [Ab.splice,List.getElem?_toArray]
  by_cases h1:j < i
  ·rw [if_pos h1,List.append_assoc,List.getElem?_append_left (by simp; omega),List.getElem?_take,if_pos (by omega),Array.getElem?_toList]
  ·rw [if_neg h1]
   by_cases h2:j < i+vs.length
   ·rw [if_pos h2,List.getElem?_append_left (by simp; omega),List.getElem?_append_right (by simp; omega)]
    congr 1; simp; omega
   ·rw [if_neg h2,List.getElem?_append_right (by simp; omega),List.getElem?_drop,Array.getElem?_toList]
    congr 1; simp; omega
 rw [hsp]
 by_cases h1:j < i
 ·rw [if_pos h1]
  rw [List.append_assoc,List.getElem?_append_left (by simp; omega),List.getElem?_take,if_pos h1] at hj
  exact hc j v hj
 ·rw [if_neg h1]
  by_cases h2:j < i+vs.length
  ·rw [if_pos h2]
   rw [List.getElem?_append_left (by simp; omega),List.getElem?_append_right (by simp; omega)] at hj
   have:j - (cs.take i).length=j - i:=by simp; omega
   rw [this] at hj
   exact hv.get hj
  ·rw [if_neg h2]
   rw [List.getElem?_append_right (by simp; omega),List.getElem?_drop] at hj
   have:i+vs.length+(j - (cs.take i++vs).length)=j:=by simp; omega
   rw [this] at hj
   exact hc j v hj
theorem qg {h:Heap}{w:World}(hs:Sim β h w){k i:Nat}{sl:Slot}{vs vs':List Value}{u:Upd}(hst:storeAt h k i vs=some u)(hb:β k=some sl)(hv:LRel β vs vs'):
  ∃ w',(storeCells ⟨sl.b,sl.s+i,none⟩ vs').run P w = .ok () w'/\Step β h w β (u.app h) w':=by
 unfold storeAt at hst
 split at hst
 ·next cs t sz hk=>
  split at hst
  ·next hc=>
   obtain ⟨hl,hsc⟩:=hc
   obtain rfl:=oI hst
   obtain ⟨hm,ht,hz,cs',fr,hw,hn,hcells,hfr⟩:=hs.blk k _ sl hk hb
   by_cases he:vs=[]
   ·subst he
    have:=hv.inv_nil
    subst this
    refine ⟨w,rfl,Step.at_ hs hk hb rfl (At.refl w _) ?_⟩
    simp only [List.append_nil,List.length_nil,Nat.add_zero,List.take_append_drop]
    exact ⟨hm,ht,hz,cs',fr,hw,hn,hcells,hfr⟩
   ·have hpos:0 < vs.length:=List.length_pos_iff.2 he
    have hbound:sl.s+i+vs.length<=cs'.size:=by
     obtain ⟨v',h1,_⟩:=hcells (i+vs.length - 1) _ (gE (by omega))
     have:=(Array.getElem?_eq_some_iff.1 h1).1
     omega
    obtain ⟨w',hr,ha,hh⟩:=mT (P:=P) sl.b (sl.s+i) t fr vs' 0 cs' w hw (hfr rfl) (by rw [<-hv.1]; omega) (hv.scalars hsc)
    refine ⟨w',hr,Step.at_ hs hk hb rfl ha ⟨hm,ht,hz,_,fr,hh,?_,hcells.splice hv hl hbound,fun _=> ?_⟩⟩
    ·rw [pR (by rw [<-hv.1]; omega)]; exact hn
    ·rw [pR (by rw [<-hv.1]; omega)]; exact hfr rfl
  ·cases hst
 ·cases hst
end
section
variable {β:Inj} {P:Program}
theorem F5 {e:TypeId}{i:TypeInfo}(h:dz P e=some i):P.info? e=some i/\0 < i.size/\ ∃ z,i.zero=some z/\z.cells.size=i.size/\cp P e=some z:=by
 unfold dz at h
 split at h
 ·next i' z hi hz=>
  split at h
  ·next hc=>
   obtain rfl:=oI h
   obtain ⟨_,j,hj,hjz⟩:=bZ hz
   rw [hi] at hj
   obtain rfl:=oI hj
   exact ⟨hi,hc.2,z,hjz,hc.1,hz⟩
  ·cases h
 ·cases h
theorem mF {h:Heap}{w:World}(hs:Sim β h w){sz:Nat}{x x':Value}{news:List Value}{m:Nat}(hx:dJ h sz x=some (news,m))(hv:VRel β x x'):
  (∀ w,(Builtin.lenOf x').run P w = .ok m w)/\ ∀ j,j<=m-> ∃ l',(∀ w',(∀ b,b < w.heap.size->w'.heap[b]?=w.heap[b]?)->(Builtin.firstCells sz j x').run P w' = .ok l'.toArray w')/\LRel β (news.take (j*sz)) l':=by
 unfold dJ at hx
 split at hx
 ·simp only [Option.some.injEq,Prod.mk.injEq] at hx
  obtain ⟨rfl,rfl⟩:=hx
  obtain ⟨_,_,rfl⟩:=hv.inv_nilSlice
  refine ⟨fun w=>rfl,fun j hj=>⟨[],fun w' _=>by simp [Builtin.firstCells],by simp; exact .nil β⟩⟩
 ·next k i n c=>
  split at hx
  ·next cs t sz' wr hk=>
   split at hx
   ·next hl=>
    simp only [Option.some.injEq,Prod.mk.injEq] at hx
    obtain ⟨rfl,rfl⟩:=hx
    obtain ⟨sl,i',c',hb,hm,_,rfl,hx1,ho1,hn1,hi1,hz1⟩:=hv.inv_slice
    obtain ⟨_,_,_,cs',fr,hw,hn,hcells,_⟩:=hs.row hk hb
    refine ⟨fun w=>rfl,fun j hj=> ?_⟩
    by_cases hj0:j=0
    ·subst hj0
     exact ⟨[],fun w' _=>by simp [Builtin.firstCells,loadCells,loadCellsFrom],by simp; exact .nil β⟩
    ·have hi2:i'=sl.s+i:=by rcases hi1 with h1 | ⟨h1,h2⟩; exact h1; exact absurd h1 (by omega)
     subst hi2
     have hjs:j*sz<=n*sz:=Nat.mul_le_mul_right _ hj
     have hl':((cs.drop i).take (j*sz)).length=j*sz:=by
      simp only [List.length_take,List.length_drop] at hl ⊢; omega
     have hlt:=(hs.lt k sl hb).2
     have key:=qd (P:=P) hw hcells i (j*sz) hl'
     obtain ⟨l',hr,hrel⟩:=key
     refine ⟨l',fun w' hw'=> ?_,?_⟩
     ·obtain ⟨l2,hr2,hrel2⟩:=qd (P:=P) (w:=w') (by rw [hw' _ hlt]; exact hw) hcells i (j*sz) hl'
      have:(loadCells ⟨sl.b,sl.s+i,none⟩ (j*sz)).run P w' = .ok l'.toArray w':=by
       have e1: ∀ q,q < j*sz->w.cell? ((⟨sl.b,sl.s+i,none⟩:Addr).add q)=some (l'.getD q undef):=by
        intro q hq
        have hlen:l'.length=j*sz:=by rw [<-hrel.1,hl']
        have hq':q < ((cs.drop i).take (j*sz)).length:=by omega
        have hg:=gE hq'
        rw [List.getElem?_take,if_pos hq,List.getElem?_drop] at hg
        obtain ⟨v',h1,_⟩:=hcells _ _ hg
        have h2:=run_loadCells (P:=P) w ⟨sl.b,sl.s+i,none⟩ (j*sz) (fun q=>cs'.getD (sl.s+(i+q)) undef) (by
         intro q2 hq2
         have hq3:q2 < ((cs.drop i).take (j*sz)).length:=by omega
         have hg2:=gE hq3
         rw [List.getElem?_take,if_pos hq2,List.getElem?_drop] at hg2
         obtain ⟨v2,h3,_⟩:=hcells _ _ hg2
         rw [bn,kH hw,show sl.s+i+q2=sl.s+(i+q2) by omega,h3]
         simp [Array.getD_eq_getD_getElem?,h3])
        rw [hr] at h2
        simp only [Result.ok.injEq,and_true] at h2
        have h4:l'=(List.range (j*sz)).map fun q=>cs'.getD (sl.s+(i+q)) undef:=by simpa using congrArg Array.toList h2
        rw [bn,kH hw,show sl.s+i+q=sl.s+(i+q) by omega,h1,h4]
        simp [List.getD,hq,Array.getD_eq_getD_getElem?,h1]
       have hlen:l'.length=j*sz:=by rw [<-hrel.1,hl']
       have e2:=run_loadCells (P:=P) w' ⟨sl.b,sl.s+i,none⟩ (j*sz) (fun q=>l'.getD q undef) (by
        intro q hq
        have:w'.cell? ((⟨sl.b,sl.s+i,none⟩:Addr).add q)=w.cell? ((⟨sl.b,sl.s+i,none⟩:Addr).add q):=by
         rw [bn]; simp [World.cell?,hw' _ hlt]
        rw [this]; exact e1 q hq)
       rw [e2]
       congr 2
       apply List.ext_getElem?
       intro q
       by_cases hq:q < j*sz
       ·simp [hq,List.getD,gE (show q < l'.length by omega)]
       ·rw [List.getElem?_eq_none (by simp; omega),List.getElem?_eq_none (by omega)]
      exact this
     ·rw [List.take_take,Nat.min_eq_left hjs]; exact hrel
   ·cases hx
  ·cases hx
 ·next s=>
  split at hx
  ·next hsz=>
   subst hsz
   simp only [Option.some.injEq,Prod.mk.injEq] at hx
   obtain ⟨rfl,rfl⟩:=hx
   cases hv.inv_string
   refine ⟨fun w=>by simp [Builtin.lenOf],fun j hj=>⟨(s.data.toList.map fun b=>Value.int .u8 b.toNat).take j,fun w' _=> ?_,?_⟩⟩
   ·simp only [Builtin.firstCells,Sem.run_pure]
    congr 1
    apply Array.ext'
    simp [ByteArray.data_extract,Array.toList_extract]
   ·rw [Nat.mul_one,<-List.map_take]
    exact LRel.map _ fun b _=> .int _ _
  ·cases hx
 ·cases hx
theorem oB {t':TypeId}(h:ca P t'=true):P.underlying t'=some .string\/ ∃ e,P.underlying t'=some (.slice e):=by
 unfold ca at h
 split at h
 ·next e hu=>exact .inr ⟨_,hu⟩
 ·next hu=>exact .inl hu
 ·cases h
theorem gW {t t' ty e:TypeId}{i:TypeInfo}(ht:P.underlying t=some (.slice e))(hi:P.info? e=some i)(ht':ca P t'=true){base:Option Addr}{n c m:Nat}{x':Value}{news:List Value}{w w':World}
  (hm: ∀ w,(Builtin.lenOf x').run P w = .ok m w) (hn:(Builtin.firstCells i.size m x').run P w = .ok news.toArray w) (hc:n+m<=c)
  (hst:(match base with | some a=>storeCells (a.add (n*i.size)) news | none=>pure ():Sem Unit).run P w = .ok () w'):
  (Builtin.append_ #[t,t'] ty #[.slice base n c,x']).run P w = .ok (.slice base (n+m) c) w':=by
 have h0:(#[t,t']:Array TypeId)[0]?=some t:=rfl
 have h1:(#[t,t']:Array TypeId)[1]?=some t':=rfl
 have h2:(#[Value.slice base n c,x']:Array Value)[0]?=some (.slice base n c):=rfl
 have h3:(#[Value.slice base n c,x']:Array Value)[1]?=some x':=rfl
 have hrs: ∀ w,(sizeOf e).run P w = .ok i.size w:=bG (by simp [aq,hi])
 rcases oB ht' with hu | ⟨e',hu⟩
 all_goals
  simp only [Builtin.append_,h0,h1,h2,h3,Sem.run_bind,av ht,Result.andThen_ok,hrs,av hu,Sem.run_pure,Bool.false_eq_true,if_false,hm,Sem.run_ite]
  rw [if_pos hc]
  simp only [Bool.not_false,if_true,hn,Result.andThen_ok]
  cases base with
  | none=>
   simp only [Sem.run_pure,Result.ok.injEq,true_and] at hst
   subst hst
   rfl
  | some a=>
   dsimp only at hst
   simp only [Sem.run_bind,hst,Result.andThen_ok,Sem.run_pure]
theorem jv {t t' ty e:TypeId}{i:TypeInfo}{z:Value}(ht:P.underlying t=some (.slice e))(hi:P.info? e=some i)(hz:i.zero=some z)(ht':ca P t'=true){base:Option Addr}{n c m:Nat}{x':Value}
  {olds news:List Value} {w:World} (hm: ∀ w,(Builtin.lenOf x').run P w = .ok m w) (ho:(Builtin.firstCells i.size n (.slice base n c)).run P w.drew = .ok olds.toArray w.drew)
  (hn:(Builtin.firstCells i.size m x').run P w.drew = .ok news.toArray w.drew) (hc:c < n+m) (hb:(n+m)*i.bytes<=70368744177664) (hl:n+m<=1099511627776):
  (Builtin.append_ #[t,t'] ty #[.slice base n c,x']).run P w = .ok (.slice (some ⟨w.heap.size,0,none⟩) (n+m) (grownCap w (n+m) c e))
   (w.drew.alloc (.cells (olds++news++(Builtin.zeroCells z.cells (grownCap w (n+m) c e - (n+m))).toList).toArray e)):=by
 have h0:(#[t,t']:Array TypeId)[0]?=some t:=rfl
 have h1:(#[t,t']:Array TypeId)[1]?=some t':=rfl
 have h2:(#[Value.slice base n c,x']:Array Value)[0]?=some (.slice base n c):=rfl
 have h3:(#[Value.slice base n c,x']:Array Value)[1]?=some x':=rfl
 have hrs: ∀ w,(sizeOf e).run P w = .ok i.size w:=bG (by simp [aq,hi])
 have hrz: ∀ w,(zeroValue e).run P w = .ok z w:=fun w=>by simp [zeroValue,pE hi,hz]
 have hfit:=growslice_fits (need:=n+m) (old:=c) (bytes:=i.bytes) hc (by omega)
 have hcut:(Question.appendCap (n+m) c e).forced=false:=rfl
 have hmax:IntKind.i64.max=9223372036854775807:=by decide
 rcases oB ht' with hu | ⟨e',hu⟩
 all_goals
  simp only [Builtin.append_,h0,h1,h2,h3,Sem.run_bind,av ht,Result.andThen_ok,hrs,av hu,Sem.run_pure,Bool.false_eq_true,if_false,hm,Sem.run_ite,pE hi,false_or,Bool.not_false,if_true]
  rw [if_neg (by omega),if_neg (by omega),if_neg (by omega)]
  simp only [run_choose,hcut,Bool.false_eq_true,if_false,Result.andThen_ok,run_askRoom,World.drew_eq,ho,hn,hrz,dM]
  congr 2
  simp only [grownCap]
  congr 1
  apply Array.ext'
  simp
theorem KV {h:Heap}{w:World}(hs:Sim β h w)(k:Nat):Sim β (h.del k) w:=
 ⟨fun k' sl hk=>hs.lt k' sl hk,fun k' B sl h1 h2=>by
  rw [h.get_del] at h1; split at h1
  ·cases h1
  ·exact hs.blk k' B sl h1 h2,fun k₁ k₂ B₁ B₂ sl₁ sl₂ hne h1 h2 h3 h4 h5=>by
  rw [h.get_del] at h1 h2
  split at h1
  ·cases h1
  ·split at h2
   ·cases h2
   ·exact hs.own k₁ k₂ B₁ B₂ sl₁ sl₂ hne h1 h2 h3 h4 h5,Heap.wf_del hs.wf k⟩
theorem Om {h:Heap}{w:World}(hs:Sim β h w)(k:Nat):Step β h w β (h.del k) w:=
 ⟨β.le_refl,Nat.le_refl _,KV hs k,Nat.le_refl _,rfl,rfl,rfl,fun _ _ _=>rfl,fun b hb ⟨k',B,sl,h1,h2,h3,h4⟩=>⟨k',B,sl,by
  rw [h.get_del] at h1; split at h1
  ·cases h1
  ·exact h1,h2,h3,h4⟩,fun _ _ h=> .inl h,fun k' B h1 h2=>⟨B,by
  rw [h.get_del] at h1; split at h1
  ·cases h1
  ·exact h1⟩⟩
theorem Ly {h:Heap}{w w':World}(hs:Sim β h w){k:Nat}{B₀ B:Blk}{sl sl':Slot}(hk:h.get k=some B₀)(hb:β k=some sl)(hw:B₀.wr=true)(ha:At w w' sl.b)(hsl:sl'.b=sl.b)
  (hB:BRel (β.ext h.next sl') B sl' w'):Step β h w (β.ext h.next sl') ((h.del k).push B) w':=by
 have hlt:=(hs.lt k sl hb).1
 have hnone:=hs.none_of_ge (Nat.le_refl h.next)
 have hle:β.le (β.ext h.next sl'):=Inj.le_ext sl' hnone
 have hget: ∀ k',k'≠h.next-> ∀ B',((h.del k).push B).get k'=some B'->k'≠k/\h.get k'=some B':=by
  intro k' hne B' hg
  rw [(h.del k).get_push_ne k' B hne,h.get_del] at hg
  split at hg
  ·cases hg
  ·next hne2=>exact ⟨hne2,hg⟩
 have hnew:((h.del k).push B).get h.next=some B:=(h.del k).get_push_same B
 have hown: ∀ k' B' sl'',k'≠k->h.get k'=some B'->β k'=some sl''->sl''.b≠sl.b:=fun k' B' sl'' hne h1 h2=>(hs.own k k' B₀ B' sl sl'' (Ne.symm hne) hk h1 hb h2 hw).symm
 refine ⟨hle,by simp,⟨?_,?_,?_,Heap.wf_push (h:=h.del k) (Heap.wf_del hs.wf k) B⟩,by rw [ha.size]; exact Nat.le_refl _,ha.os,ha.tape,ha.output,?_,?_,?_,?_⟩
 ·intro k' sl'' h1
  rw [ha.size]
  by_cases hne:k'=h.next
  ·subst hne
   rw [β.ext_same] at h1
   obtain rfl:=oI h1
   exact ⟨by simp,by rw [hsl]; exact (hs.lt k sl hb).2⟩
  ·rw [β.ext_ne sl' hne] at h1
   have:=hs.lt k' sl'' h1
   exact ⟨by simp; omega,this.2⟩
 ·intro k' B' sl'' h1 h2
  by_cases hne:k'=h.next
  ·subst hne
   rw [β.ext_same] at h2
   obtain rfl:=oI h2
   rw [hnew] at h1
   obtain rfl:=oI h1
   exact hB
  ·rw [β.ext_ne sl' hne] at h2
   obtain ⟨hne2,h1⟩:=hget k' hne B' h1
   exact ((hs.blk k' B' sl'' h1 h2).mono hle).of_heap (ha.kept _ (hown k' B' sl'' hne2 h1 h2))
 ·intro k₁ k₂ B₁ B₂ sl₁ sl₂ hne h1 h2 h3 h4 h5
  by_cases hk1:k₁=h.next
  ·subst hk1
   rw [β.ext_same] at h3
   obtain rfl:=oI h3
   rw [β.ext_ne _ (Ne.symm hne)] at h4
   obtain ⟨hne2,h2⟩:=hget k₂ (Ne.symm hne) B₂ h2
   rw [hsl]
   exact (hown k₂ B₂ sl₂ hne2 h2 h4).symm
  ·rw [β.ext_ne _ hk1] at h3
   obtain ⟨hne1,h1⟩:=hget k₁ hk1 B₁ h1
   by_cases hk2:k₂=h.next
   ·subst hk2
    rw [β.ext_same] at h4
    obtain rfl:=oI h4
    rw [hsl]
    exact hown k₁ B₁ sl₁ hne1 h1 h3
   ·rw [β.ext_ne _ hk2] at h4
    obtain ⟨_,h2⟩:=hget k₂ hk2 B₂ h2
    exact hs.own k₁ k₂ B₁ B₂ sl₁ sl₂ hne h1 h2 h3 h4 h5
 ·intro b hb' hn
  refine ha.kept b ?_
  rintro rfl
  exact hn ⟨k,B₀,sl,hk,hw,hb,rfl⟩
 ·rintro b hb' ⟨k',B',sl'',h1,h2,h3,h4⟩
  by_cases hne:k'=h.next
  ·subst hne
   rw [β.ext_same] at h3
   obtain rfl:=oI h3
   exact ⟨k,B₀,sl,hk,hw,hb,by rw [<-h4,hsl]⟩
  ·rw [β.ext_ne _ hne] at h3
   obtain ⟨_,h1⟩:=hget k' hne B' h1
   exact ⟨k',B',sl'',h1,h2,h3,h4⟩
 ·intro k' sl'' h1
  by_cases hne:k'=h.next
  ·subst hne
   rw [β.ext_same] at h1
   obtain rfl:=oI h1
   exact .inr ⟨Nat.le_refl _,.inr ⟨k,B₀,sl,hk,hw,hb,hsl.symm⟩⟩
  ·rw [β.ext_ne _ hne] at h1
   exact .inl h1
 ·intro k' B' h1 h2
  obtain ⟨_,h1⟩:=hget k' (by omega) B' h1
  exact ⟨B',h1⟩
theorem IJ (z:Array Value)(n:Nat):(Builtin.zeroCells z n).size=n*z.size:=by simp [Builtin.zeroCells]
theorem nz {w:World}{e:TypeId}{sz need cap:Nat}{vs vs':List Value}{z:Array Value}(hv:LRel β vs vs')(hl:vs.length=need*sz)(hz:z.size=sz)(hc:need<=cap):
  Allocs β w (.cells vs e sz true) (fun k=> .slice (some ⟨k,0,none⟩) need (bm+need)) (.slice (some ⟨w.heap.size,0,none⟩) need cap) (w.drew.alloc (.cells (vs'++(Builtin.zeroCells z (cap - need)).toList).toArray e)) where
 size:=by simp
 os:=rfl
 tape:=rfl
 output:=rfl
 kept:=fun b hb=>gU (w:=w.drew) _ hb
 new:=by
  have hsz:(vs'++(Builtin.zeroCells z (cap - need)).toList).toArray.size=cap*sz:=by
   simp only [List.size_toArray,List.length_append,Array.length_toList,IJ,hz,<-hv.1,hl,<-Nat.add_mul]
   congr 1; omega
  refine ⟨⟨w.heap.size,0,cap*sz,e,sz,false⟩,rfl,fun β' k hle hk=>⟨⟨rfl,rfl,⟨rfl,fun _=>rfl⟩,_,(0,0),ew (w:=w.drew) _,hsz,?_,fun _=>Dh _⟩,?_⟩⟩
  ·intro i v hi
   obtain ⟨v',h1,h2⟩:=hv.get hi
   refine ⟨v',?_,h2.mono hle⟩
   have hi':=(List.getElem?_eq_some_iff.1 h1).1
   simp only [Nat.zero_add,List.getElem?_toArray]
   rw [List.getElem?_append_left hi']; exact h1
  ·exact qk (w:=w) hk rfl rfl rfl (fun h=>absurd h (by omega)) (fun _=>by omega) (by rw [dg]; exact Nat.le_refl _) (.inr (Nat.le_refl _))
end
section
variable {β:Inj} {P:Program}
theorem qL {l l':List Value}{n:Nat}(h:LRel β (l.take n) l')(hl:l.length=n):LRel β l l':=by
 rwa [List.take_of_length_le (by omega)] at h
theorem m9 (w:World)(need old:Nat)(e:TypeId):need<=grownCap w need old e:=by simp [grownCap,Question.cut]
theorem LU {h:Heap}{w:World}(hs:Sim β h w){k j n c:Nat}{cs:List Value}{e:TypeId}{sz:Nat}{wr:Bool}{s':Value}(hk:h.get k=some (.cells cs e sz wr))(hl:((cs.drop j).take (n*sz)).length=n*sz)
  (hv:VRel β (.slice (some ⟨k,j,none⟩) n c) s'): ∃ l',(∀ w',(∀ b,b < w.heap.size->w'.heap[b]?=w.heap[b]?)->(Builtin.firstCells sz n s').run P w' = .ok l'.toArray w')/\LRel β ((cs.drop j).take (n*sz)) l':=by
 have hx:dJ h sz (.slice (some ⟨k,j,none⟩) n c)=some ((cs.drop j).take (n*sz),n):=by
  simp only [dJ,hk]
  rw [if_pos hl]
 obtain ⟨_,h2⟩:=mF (P:=P) hs hx hv
 obtain ⟨l',h3,h4⟩:=h2 n (Nat.le_refl _)
 exact ⟨l',h3,qL h4 hl⟩
set_option maxHeartbeats 1000000 in
theorem I5 {h:Heap}{w:World}(hs:Sim β h w){t t' ty:TypeId}{s x s' x' v:Value}{u:Upd}(hv:aB P t t' s x h=some (v,u))(hvs:VRel β s s')(hvx:VRel β x x'):
  ∃ v' w' β',(Builtin.append_ #[t,t'] ty #[s',x']).run P w = .ok v' w'/\Step β h w β' (u.app h) w'/\VRel β' v v':=by
 unfold aB at hv
 split at hv
 ·next e ht=>
  split at hv
  ·next i hre=>
   obtain ⟨hi,hpos,z,hz,hzs,hzz⟩:=F5 hre
   split at hv
   ·next htl=>
    split at hv
    ·next news m hsrc=>
     obtain ⟨hlen,hcells⟩:=mF (P:=P) hs hsrc hvx
     obtain ⟨news',hrn,hrel⟩:=hcells m (Nat.le_refl _)
     split at hv
     ·next hnc=>
      obtain ⟨hsc,hnl⟩:=hnc
      have hrel:=qL hrel hnl
      have hnl':news'.length=m*i.size:=by rw [<-hrel.1,hnl]
      have hrn0:=hrn w fun _ _=>rfl
      have hrnd:=hrn w.drew fun _ _=>rfl
      split at hv
      ·obtain ⟨_,_,rfl⟩:=hvs.inv_nilSlice
       split at hv
       ·next hm0=>
        simp only [Option.some.injEq,Prod.mk.injEq] at hv
        obtain ⟨rfl,rfl⟩:=hv
        subst hm0
        refine ⟨_,w,β,gW ht hi htl hlen hrn0 (Nat.le_refl _) (by simp),Step.refl hs,.nilSlice⟩
       ·next hm0=>
        split at hv
        ·next hb=>
         simp only [Option.some.injEq,Prod.mk.injEq] at hv
         obtain ⟨rfl,rfl⟩:=hv
         have hrun:=jv (ty:=ty) (n:=0) (c:=0) (base:=none) (olds:=[]) ht hi hz htl hlen (by simp [Builtin.firstCells]) hrnd (by omega) (by simpa using hb.1) (by omega)
         have hal:=nz (β:=β) (w:=w) (e:=e) (need:=m) (cap:=grownCap w (0+m) 0 e) (z:=z.cells) hrel hnl hzs (by have:=m9 w (0+m) 0 e; omega)
         simp only [Nat.zero_add,List.nil_append] at hrun hal
         obtain ⟨β',hst,hvr⟩:=hal.step hs
         exact ⟨_,_,β',hrun,hst,hvr⟩
        ·cases hv
      ·next k j n c=>
       obtain ⟨sl,i',c',hb,hmp,_,rfl,hx1,ho1,hn1,hi1,hz1⟩:=hvs.inv_slice
       have hcap:aN c<=c':=by
        unfold aN; split
        ·next hc=>exact ho1 hc
        ·next hc=>rw [hx1 (by omega)]; exact Nat.le_refl _
       split at hv
       ·next hm0=>
        simp only [Option.some.injEq,Prod.mk.injEq] at hv
        obtain ⟨rfl,rfl⟩:=hv
        subst hm0
        have:news'=[]:=List.eq_nil_of_length_eq_zero (by simpa using hnl')
        subst this
        exact ⟨_,w,β,gW ht hi htl hlen hrn0 (by omega) (by simp [storeCells]),Step.refl hs,hvs⟩
       ·next hm0=>
        split at hv
        ·next hroom=>
         obtain ⟨u',hst,he⟩:=Option.map_eq_some_iff.1 hv
         simp only [Prod.mk.injEq] at he
         obtain ⟨rfl,rfl⟩:=he
         have hi2:i'=sl.s+j:=by rcases hi1 with h1 | ⟨h1,h2⟩; exact h1; exact absurd h2 (by omega)
         subst hi2
         obtain ⟨w',hr,hstep⟩:=qg (P:=P) hs hst hb hrel
         refine ⟨_,w',β,gW ht hi htl hlen hrn0 (by omega) ?_,hstep,.slice hb hmp hx1 ho1 hroom (.inl rfl) hz1⟩
         dsimp only
         rw [bn,Nat.add_assoc]
         exact hr
        ·next hroom=>
         unfold gz at hv
         split at hv
         ·next hbd=>
          split at hv
          ·next cs e' sz' wr hk=>
           split at hv
           ·next hcond=>
            obtain ⟨rfl,rfl,hol⟩:=hcond
            obtain ⟨olds',hro,horel⟩:=LU (P:=P) hs hk hol hvs
            have hrod:=hro w.drew fun _ _=>rfl
            have hall:LRel β ((cs.drop j).take (n*i.size)++news) (olds'++news'):=horel.append hrel
            have hal0:((cs.drop j).take (n*i.size)++news).length=(n+m)*i.size:=by rw [List.length_append,hol,hnl,Nat.add_mul]
            split at hv
            ·next hcx=>
             simp only [Option.some.injEq,Prod.mk.injEq] at hv
             obtain ⟨rfl,rfl⟩:=hv
             have hcc:c'=c:=hx1 hcx
             subst hcc
             rw [Bz hcx] at hroom
             have hrun:=jv (ty:=ty) ht hi hz htl hlen hrod hrnd (by omega) hbd.1 hbd.2
             have hal:=nz (β:=β) (w:=w) (e:=e') (z:=z.cells) hall hal0 hzs (m9 w (n+m) c' e')
             obtain ⟨β',hst,hvr⟩:=hal.step hs
             exact ⟨_,_,β',hrun,hst,hvr⟩
            ·next hcx=>
             split at hv
             ·next hwr=>
              obtain ⟨rfl,hcl⟩:=hwr
              simp only [Option.some.injEq,Prod.mk.injEq] at hv
              obtain ⟨rfl,rfl⟩:=hv
              by_cases hin:n+m<=c'
              ·have hi2:i'=sl.s+j:=by rcases hi1 with h1 | ⟨h1,h2⟩; exact h1; exact absurd h2 (by omega)
               subst hi2
               obtain ⟨_,hslt,hslz,cs',fr,hw,hn,hcel,hfr⟩:=hs.row hk hb
               have hext:sl.s+j+c'*i.size<=sl.n:=by
                rcases hz1 with h1 | h1
                ·omega
                ·rw [hslz] at h1; exact h1
               have hmul:(n+m)*i.size<=c'*i.size:=Nat.mul_le_mul_right _ hin
               rw [Nat.add_mul] at hmul
               obtain ⟨w',hr,ha,hh⟩:=mT (P:=P) sl.b (sl.s+j+n*i.size) e' fr news' 0 cs' w hw (hfr rfl) (by rw [hnl',hn]; omega) (hrel.scalars hsc)
               have hsz2:(Ab.splice cs' (sl.s+j+n*i.size+0) news').size=cs'.size:=pR (by rw [hnl',hn]; omega)
               refine ⟨_,w',β.ext h.next ⟨sl.b,sl.s+j,sl.n,e',i.size,false⟩,gW ht hi htl hlen hrn0 hin ?_,Ly (sl':=⟨sl.b,sl.s+j,sl.n,e',i.size,false⟩) hs hk hb rfl ha rfl ?_,?_⟩
               ·dsimp only
                rw [bn]
                exact hr
               ·have hle:β.le (β.ext h.next ⟨sl.b,sl.s+j,sl.n,e',i.size,false⟩):=Inj.le_ext _ (hs.none_of_ge (Nat.le_refl _))
                refine ⟨rfl,rfl,⟨rfl,fun h0=>absurd h0 (by omega)⟩,_,fr,hh,by rw [hsz2]; exact hn,?_,fun _=>by rw [hsz2]; exact hfr rfl⟩
                intro q u hq
                simp only [Ab.splice,Nat.add_zero,List.getElem?_toArray]
                by_cases hq1:q < n*i.size
                ·rw [List.getElem?_append_left (by rw [hol]; exact hq1),List.getElem?_take,if_pos hq1,List.getElem?_drop] at hq
                 obtain ⟨u',h1,h2⟩:=hcel _ _ hq
                 refine ⟨u',?_,h2.mono hle⟩
                 have hlt:=(Array.getElem?_eq_some_iff.1 h1).1
                 rw [List.append_assoc,List.getElem?_append_left (by simp; omega),List.getElem?_take,if_pos (by omega),Array.getElem?_toList,Nat.add_assoc]
                 exact h1
                ·have hq2:=(List.getElem?_eq_some_iff.1 hq).1
                 rw [hal0,Nat.add_mul] at hq2
                 rw [List.getElem?_append_right (by rw [hol]; omega),hol] at hq
                 obtain ⟨u',h1,h2⟩:=hrel.get hq
                 refine ⟨u',?_,h2.mono hle⟩
                 rw [List.getElem?_append_left (by simp; omega),List.getElem?_append_right (by simp; omega)]
                 have:sl.s+j+q - (cs'.toList.take (sl.s+j+n*i.size)).length=q - n*i.size:=by simp; omega
                 rw [this]; exact h1
               ·exact .slice (sl:=⟨sl.b,sl.s+j,sl.n,e',i.size,false⟩) (β.ext_same _ _) rfl (fun h=>absurd h (by omega)) (fun _=>by omega) (by rw [dg]; exact Nat.le_refl _) (.inl rfl) (.inr hext)
              ·have hrun:=jv (ty:=ty) ht hi hz htl hlen hrod hrnd (by omega) hbd.1 hbd.2
               have hal:=nz (β:=β) (w:=w) (e:=e') (z:=z.cells) hall hal0 hzs (m9 w (n+m) c' e')
               obtain ⟨β',hst,hvr⟩:=hal.step (KV hs k)
               exact ⟨_,_,β',hrun,(Om hs k).trans hst,hvr⟩
             ·cases hv
           ·cases hv
          ·cases hv
         ·cases hv
      ·cases hv
     ·cases hv
    ·cases hv
   ·cases hv
  ·cases hv
 ·cases hv
end
section
variable {β:Inj} {P:Program}
theorem Qm {h:Heap}{w:World}(hs:Sim β h w){t:TypeId}{ts:List TypeId}{ty:TypeId}{d s d' s' v:Value}{u:Upd}(hv:PK P t d s h=some (v,u))(hd:VRel β d d')(hsr:VRel β s s'):
  ∃ v' w' β',(Builtin.copy_ (t::ts).toArray ty #[d',s']).run P w = .ok v' w'/\Step β h w β' (u.app h) w'/\VRel β' v v':=by
 unfold PK at hv
 split at hv
 ·next e ht=>
  split at hv
  ·next sz a n c hsz=>
   split at hv
   ·next cs m hsrc=>
    obtain ⟨hlen,hcells⟩:=mF (P:=P) hs hsrc hsr
    have h0:(t::ts).toArray[0]?=some t:=rfl
    have h1:(#[d',s']:Array Value)[0]?=some d':=rfl
    have h2:(#[d',s']:Array Value)[1]?=some s':=rfl
    obtain ⟨cs',hrc,hrel⟩:=hcells (min m n) (Nat.min_le_left _ _)
    have hrc0:=hrc w fun _ _=>rfl
    have hmin:Nat.min m n=min m n:=rfl
    have hdf: ∃ a' c',d' = .slice a' n c':=by
     cases a with
     | none=>obtain ⟨rfl,rfl,rfl⟩:=hd.inv_nilSlice; exact ⟨_,_,rfl⟩
     | some a=>obtain ⟨a',c',rfl⟩:=hd.inv_some; exact ⟨_,_,rfl⟩
    split at hv
    ·next hz=>
     simp only [Option.some.injEq,Prod.mk.injEq] at hv
     obtain ⟨rfl,rfl⟩:=hv
     have hm0:min m n=0:=by omega
     rw [hm0] at hrc0 hrel
     have:cs'=[]:=by simpa using hrel.1.symm
     subst this
     obtain ⟨a',c',rfl⟩:=hdf
     refine ⟨.int .i64 0,w,β,?_,Step.refl hs,.int _ _⟩
     simp only [Builtin.copy_,h0,h1,h2,Sem.run_bind,av ht,Result.andThen_ok,hlen,bG hsz,hmin,hm0,hrc0,goInt]
     cases a' <;> simp [storeCells]
    ·next hz=>
     split at hv
     ·next k j=>
      obtain ⟨u',hst,he⟩:=Option.map_eq_some_iff.1 hv
      simp only [Prod.mk.injEq] at he
      obtain ⟨rfl,rfl⟩:=he
      obtain ⟨sl,i',c',hb,hmp,_,rfl,hx1,ho1,hn1,hi1,hz1⟩:=hd.inv_slice
      have hi2:i'=sl.s+j:=by rcases hi1 with h1 | ⟨h1,h2⟩; exact h1; exact absurd h1 (by omega)
      subst hi2
      obtain ⟨w',hr,hstep⟩:=qg (P:=P) hs hst hb hrel
      refine ⟨.int .i64 (min m n:Nat),w',β,?_,hstep,.int _ _⟩
      simp only [Builtin.copy_,h0,h1,h2,Sem.run_bind,av ht,Result.andThen_ok,hlen,bG hsz,hmin,hrc0,Sem.run_pure,goInt,hr]
     ·cases hv
   ·cases hv
  ·cases hv
 ·cases hv
theorem Ew (z:Array Value): ∀ n,(Builtin.zeroCells z n).toList=bh z.toList n:=by
 intro n
 rcases Nat.eq_zero_or_pos z.size with h | h
 ·have h1:(Builtin.zeroCells z n).toList.length=0:=by simp [Builtin.zeroCells,h]
  have h2:(bh z.toList n).length=0:=by rw [dX]; simp [h]
  rw [List.eq_nil_of_length_eq_zero h1,List.eq_nil_of_length_eq_zero h2]
 ·unfold Builtin.zeroCells
  rw [rG z n h]
theorem Mh {h:Heap}{w:World}(hs:Sim β h w){t:TypeId}{ty:TypeId}{x x' v:Value}{u:Upd}(hv:J9 P t x h=some (v,u))(hx:VRel β x x'):
  ∃ v' w' β',(Builtin.clear_ #[t] ty #[x']).run P w = .ok v' w'/\Step β h w β' (u.app h) w'/\VRel β' v v':=by
 unfold J9 at hv
 split at hv
 ·next e k j n c ht=>
  split at hv
  ·next z hz=>
   obtain ⟨sl,i',c',hb,hmp,_,rfl,hx1,ho1,hn1,hi1,hz1⟩:=hx.inv_slice
   have h0:(#[t]:Array TypeId)[0]?=some t:=rfl
   have h1:(#[Value.slice (some ⟨sl.b,i',none⟩) n c']:Array Value)[0]?=some (.slice (some ⟨sl.b,i',none⟩) n c'):=rfl
   split at hv
   ·next hn=>
    subst hn
    simp only [Option.some.injEq,Prod.mk.injEq] at hv
    obtain ⟨rfl,rfl⟩:=hv
    refine ⟨undef,w,β,?_,Step.refl hs,.undef β⟩
    simp only [Builtin.clear_,h0,h1,Sem.run_bind,av ht,Result.andThen_ok]
    rfl
   ·next hn=>
    obtain ⟨u',hst,he⟩:=Option.map_eq_some_iff.1 hv
    simp only [Prod.mk.injEq] at he
    obtain ⟨rfl,rfl⟩:=he
    have hi2:i'=sl.s+j:=by rcases hi1 with h1 | ⟨h1,h2⟩; exact h1; exact absurd h1 (by omega)
    subst hi2
    obtain ⟨w',hr,hstep⟩:=qg (P:=P) hs hst hb (kY (LRel.refl_plain (bZ hz).1) n)
    refine ⟨undef,w',β,?_,hstep,.undef β⟩
    obtain ⟨n',rfl⟩: ∃ n',n=n'+1:=⟨n - 1,by omega⟩
    simp only [Builtin.clear_,h0,h1,Sem.run_bind,av ht,Result.andThen_ok,jj hz,Ew,hr]
    rfl
  ·cases hv
 ·cases hv
theorem qY {h:Heap}{w:World}(hs:Sim β h w){t kt et:TypeId}{r:Nat}{es es2:List (Value×Value)}{k m' x x':Value}(hu:P.underlying t=some (.map kt et))(hk:nM P kt k=true)
  (hr:h.get r=some (.map es)) (hins:iR P kt k x es=some es2) (hm:VRel β (.map (some r)) m') (hx:VRel β x x'):
  ∃ w',(Instr.mapUpdate t m' k x').run P w = .ok () w'/\Step β h w β (h.set r (.map es2)) w':=by
 obtain ⟨sl,hb,hmap,rfl⟩:=hm.inv_map
 obtain ⟨_,es',clock,hw,hrel⟩:=hs.blk _ _ _ hr hb
 have hlt:sl.b < w.heap.size:=(hs.lt _ _ hb).2
 have hg:(getObj sl.b).run P w = .ok (.map es' clock) w:=by simp [getObj,Sem.run,hw]
 have hset: ∀ o,(setObj sl.b o).run P w = .ok () { w with heap:=w.heap.setIfInBounds sl.b o }:=fun o=>by simp [setObj,Sem.run,hw]
 have hat: ∀ o,At w { w with heap:=w.heap.setIfInBounds sl.b o } sl.b/\({ w with heap:=w.heap.setIfInBounds sl.b o }:World).heap[sl.b]?=some o:=fun o=>
  ⟨⟨by simp,rfl,rfl,rfl,fun b' hb'=>by simp only [Array.getElem?_setIfInBounds]; rw [if_neg (Ne.symm hb')]⟩,by simp [hlt]⟩
 have hck:=wO hk false w
 have hkp:=yU hk
 obtain ⟨α,fnd,R,hF,hrun1⟩:=Aj hk w es'.toList
 rcases wW hF hkp hx es es'.toList hrel hins 0 clock with ⟨j,e,h1,h2,h3,h4⟩ | ⟨h1,h2⟩
 ·have hfk:=hrun1 _ h1
  obtain ⟨ha,hh⟩:=hat (.map (es'.modify j fun e=>{ e with key:=k,val:=x' }) clock)
  refine ⟨_,?_,Step.at_ hs hr hb rfl ha ⟨hmap,_,clock,hh,by simpa using h4⟩⟩
  have hej:es'[j]?=some e:=by simpa using h2
  have hsb:=B6 hkp 9999
  simp only [Instr.mapUpdate,Sem.run_bind,av hu,Result.andThen_ok,hg,hck,hfk,Nat.zero_add]
  simp only [hej,Option.map_some,Option.getD_some,h3,Instr.keyThatStays,hsb,if_true,Sem.run_pure,Result.andThen_ok,hset]
 ·have hfk:=hrun1 _ h1
  obtain ⟨ha,hh⟩:=hat (.map (es'.push { key:=k,val:=x',born:=clock }) (clock+1))
  refine ⟨_,?_,Step.at_ hs hr hb rfl ha ⟨hmap,_,clock+1,hh,by simpa using h2⟩⟩
  simp only [Instr.mapUpdate,Sem.run_bind,av hu,Result.andThen_ok,hg,hck,hfk,hset]
end
section
variable {β:Inj} {P:Program}
theorem Aa {e:TypeId}{s:Nat}(hc:P.cellsOf e=s)(hs:0 < s)(count off n:Nat)(hr:off % s=0)(hn:off / s+n<=count):liesAt P P.depth e count off e n=true:=by
 have hd:P.depth=(2*(P.types.size+Made.depth)+1)+1:=rfl
 rw [hd]
 simp only [liesAt,Bool.or_eq_true]
 left
 rw [hd]
 have:s≠0:=by omega
 simp [rowAt,hc,hr,hn,sameLayout,this]
theorem zP {e:TypeId}{n:Nat}(h:aq P e=some n):P.cellsOf e=n:=by
 obtain ⟨i,hi,rfl⟩:=iO h
 simp [Program.cellsOf,hi]
theorem At.freeze (w:World)(a:Addr)(n:Nat):At w (w.freeze a n) a.block:=
 ⟨xl w a n,(pm w a n).1,(pm w a n).2.1,(pm w a n).2.2,fun b hb=>by
  by_cases hn:n=0
  ·subst hn; rfl
  ·rw [kO w a hn,if_neg (Ne.symm hb)]⟩
theorem lB: ∀ {l:List Value}{bs:List UInt8},bytesOf l=some bs->l=bs.map fun b=>Value.int .u8 b.toNat
 | [],bs,h=>by simp only [bytesOf,Option.some.injEq] at h; subst h; rfl
 | v::l,bs,h=>by
  unfold bytesOf at h
  split at h
  ·next e=>cases e
  ·next n r e=>
   simp only [List.cons.injEq] at e
   obtain ⟨rfl,rfl⟩:=e
   split at h
   ·next hr=>
    obtain ⟨bs',hb,rfl⟩:=Option.map_eq_some_iff.1 h
    rw [List.map_cons,<-lB hb]
    congr 2
    have:(UInt8.ofNat n.toNat).toNat=n.toNat:=by
     simp [UInt8.toNat_ofNat']; omega
    omega
   ·cases h
  ·cases h
set_option maxHeartbeats 1000000 in
theorem vQ {h:Heap}{w:World}(hs:Sim β h w){k i:Nat}{n:Int}{kk:IntKind}{pt e:TypeId}{cs:List Value}{l:List UInt8}{p':Value}{ats:Array TypeId}{ty:TypeId}(hk:h.get k=some (.cells cs e 1 true))(hpt:ats[0]?=some pt)
  (hu:P.underlying pt=some (.pointer e)) (hsz:aq P e=some 1) (hn:0 < n) (hmx:n < 9223372036854775807) (hl:((cs.drop i).take n.toNat).length=n.toNat) (hb:bytesOf ((cs.drop i).take n.toNat)=some l) (hp:VRel β (.pointer (some ⟨k,i,none⟩)) p'):
  ∃ w',(Builtin.unsafeString_ ats ty #[p',.int kk n]).run P w = .ok (aa l) w'/\Step β h w β (h.set k (.cells cs e 1 false)) w':=by
 obtain ⟨sl,hbk,hm,rfl⟩:=hp.inv_ptr
 obtain ⟨hm',ht,hz,cs',fr,hw,hnn,hcells,hfr⟩:=hs.blk _ _ _ hk hbk
 refine ⟨w.freeze ⟨sl.b,sl.s+i,none⟩ n.toNat,?_,Step.at_ hs hk hbk rfl (At.freeze w _ _) ?_⟩
 ·have hlen:l.length=n.toNat:=by
   have:=congrArg List.length (lB hb)
   rw [hl] at this; simpa using this.symm
  have hbound:sl.s+i+n.toNat<=cs'.size:=by
   have hlt:i+n.toNat - 1 < cs.length:=by simp only [List.length_take,List.length_drop] at hl; omega
   obtain ⟨v',h1,_⟩:=hcells _ _ (gE hlt)
   have:=(Array.getElem?_eq_some_iff.1 h1).1
   omega
  have hsh:w.shape? sl.b=some (e,cs'.size):=by simp [World.shape?,hw]
  have hco:=zP hsz
  have hlies:liesAt P P.depth e (cs'.size / P.cellsOf e) (sl.s+i) e n.toNat=true:=Aa hco (by omega) _ _ _ (by omega) (by rw [hco]; simp; exact hbound)
  have hld:(loadBytes ⟨sl.b,sl.s+i,none⟩ .empty n.toNat).run P w = .ok (⟨l.toArray⟩:ByteArray) w:=by
   rw [<-hlen]
   rw [Lib.run_loadBytes (P:=P) w l ⟨sl.b,sl.s+i,none⟩ .empty]
   ·congr 1
    apply Ao
    simp [ByteArray.empty,ByteArray.emptyWithCapacity]
    rfl
   ·intro j x hj
    have hjv:((cs.drop i).take n.toNat)[j]?=some (.int .u8 x.toNat):=by rw [lB hb]; simp [hj]
    rw [List.getElem?_take,List.getElem?_drop] at hjv
    split at hjv
    ·obtain ⟨v',h1,h2⟩:=hcells _ _ hjv
     rw [bn,kH hw,show sl.s+i+j=sl.s+(i+j) by omega,h1,h2.inv_int]
    ·cases hjv
  have hmax:IntKind.i64.max=9223372036854775807:=by decide
  have hdef:Builtin.unsafeString_ ats ty #[.pointer (some ⟨sl.b,sl.s+i,none⟩),.int kk n] =
    (do
     let n <-asInt (.int kk n)
     let some pt:=ats[0]? | stuck "unsafe.String: no argument types"
     if n < 0 then runtimePanic (.error "unsafe.String: len out of range")
     if n > IntKind.i64.max then unsupported (.unsafePointer "String: a length above the largest int")
     if n=0 then pure (.string .empty)
     else if <-variablesAt ⟨sl.b,sl.s+i,none⟩ (<-elemOf pt) n.toNat then do
      let s <-loadBytes ⟨sl.b,sl.s+i,none⟩ .empty n.toNat
      freeze ⟨sl.b,sl.s+i,none⟩ n.toNat
      pure (.string s)
     else unsupported (.unsafePointer "String: not so many bytes at ptr")):=rfl
  rw [hdef]
  simp only [Sem.run_bind,asInt,asIntOf,Sem.run_pure,Result.andThen_ok,hpt,Sem.run_ite]
  rw [if_neg (by omega),if_neg (by omega),if_neg (by omega)]
  simp only [elemOf,Sem.run_bind,av hu,Sem.run_pure,Result.andThen_ok,variablesAt,run_program,run_shape,hsh,hlies,if_true,hld,run_freeze]
  rfl
 ·have hfh:(w.freeze ⟨sl.b,sl.s+i,none⟩ n.toNat).heap[sl.b]?=some (YK ⟨sl.b,sl.s+i,none⟩ n.toNat (.cells cs' e fr)):=by
   rw [kO w _ (by omega)]; simp [hw]
  exact ⟨hm',ht,hz,cs',_,hfh,hnn,hcells,fun h=>by cases h⟩
end
section
variable {β:Inj} {P:Program}
def YT (r:Result Next)(v':Value)(w':World):Prop:=r = .ok (.value v') w'\/(r = .ok .skip w'/\v'=undef)
def aE (o:Oper):Bool:=match o.op with
 | .call { callee:= .value _,.. }=>true
 | _=>false
theorem Lq {ρ':Operand->Value}{args:Array Operand}{a b:Operand}(h:args.toList=[a,b]):args.map ρ' = #[ρ' a,ρ' b]:=by
 apply Array.ext'; simp [h]
set_option maxHeartbeats 2000000 in
theorem wd {ρ ρ':Operand->Value}(hρ: ∀ x,VRel β (ρ x) (ρ' x)){cf:aX}{o:Oper}(hnc:aE o=false){v:Value}{u:Upd}{h:Heap}{w:World}(hs:Sim β h w)(hv:bA P cf ρ o h=some (v,u)):
  ∃ v' w' β',YT ((execOp ρ' o).run P w) v' w'/\Step β h w β' (u.app h) w'/\VRel β' v v':=by
 unfold bA at hv
 unfold execOp
 split at hv
 ·next t a x ho=>
  simp only [ho]
  have ha:=hρ a
  have hx:=hρ x
  split at hv
  ·next k i hka=>
   rw [hka] at ha
   obtain ⟨sl,hb,hm,he⟩:=ha.inv_ptr
   split at hv
   ·next hsz=>
    obtain ⟨u',hst,he2⟩:=Option.map_eq_some_iff.1 hv
    simp only [Prod.mk.injEq] at he2
    obtain ⟨rfl,rfl⟩:=he2
    have hj:ρ x≠Ab.junk:=by
     intro e
     rw [e] at hst
     unfold storeAt at hst
     split at hst
     ·split at hst
      ·next hc=>exact absurd hc.2 (by simp [Value.cells,bL])
      ·cases hst
     ·cases hst
    have hc:=hx.cells hj
    obtain ⟨w',hr,hstep⟩:=qg (P:=P) hs hst hb (ARel.toList.1 hc)
    refine ⟨undef,w',β,.inr ⟨?_,rfl⟩,hstep,.undef β⟩
    have hr2:(storeVar t ⟨sl.b,sl.s+i,none⟩ (ρ' x)).run P w = .ok () w':=by
     simp only [storeVar,Sem.run_bind,bG hsz,Result.andThen_ok,Sem.run_ite]
     rw [if_neg (by simp [hc.1])]
     exact hr
    simp only [Instr.storeAt,Sem.run_bind,he,Instr.sureAddr,Sem.run_pure,Result.andThen_ok,hr2]
   ·cases hv
  ·cases hv
 ·next t m k x ho=>
  simp only [ho]
  have hm:=hρ m
  have hk:=hρ k
  split at hv
  ·next kt et r hu hma=>
   rw [hma] at hm
   split at hv
   ·next es hr=>
    split at hv
    ·next hkk=>
     obtain ⟨es2,hins,he⟩:=Option.map_eq_some_iff.1 hv
     simp only [Prod.mk.injEq] at he
     obtain ⟨rfl,rfl⟩:=he
     obtain ⟨w',hrun,hstep⟩:=qY (P:=P) hs hu hkk hr hins hm (hρ x)
     exact ⟨undef,w',β,.inr ⟨by rw [hk.keyP_eq (yU hkk)]; simp [hrun],rfl⟩,hstep,.undef β⟩
    ·cases hv
   ·cases hv
  ·cases hv
 ·next t m k x ho=>
  simp only [ho]
  have hm:=hρ m
  have hk:=hρ k
  split at hv
  ·next kt et r hu hma=>
   rw [hma] at hm
   split at hv
   ·next es hr=>
    split at hv
    ·next hkk=>
     obtain ⟨es2,hins,he⟩:=Option.map_eq_some_iff.1 hv
     simp only [Prod.mk.injEq] at he
     obtain ⟨rfl,rfl⟩:=he
     obtain ⟨w',hrun,hstep⟩:=qY (P:=P) hs hu hkk hr hins hm (hρ x)
     exact ⟨undef,w',β,.inr ⟨by rw [hk.keyP_eq (yU hkk)]; simp [hrun],rfl⟩,hstep,.undef β⟩
    ·cases hv
   ·cases hv
  ·cases hv
 ·next f args ats ho=>simp [aE,ho] at hnc
 ·next args ats ho=>
  simp only [ho]
  split at hv
  ·next s x t t' ha ht=>
   obtain ⟨v',w',β',hr,hstep,hvr⟩:=I5 (P:=P) (ty:=o.type) hs hv (hρ s) (hρ x)
   refine ⟨v',w',β',.inl ?_,hstep,hvr⟩
   have hat:ats = #[t,t']:=by apply Array.ext'; simp [ht]
   simp only [resolve,Sem.run_bind,Sem.run_pure,Result.andThen_ok,invoke,builtin,Lq ha,hat,hr]
  ·cases hv
 ·next args ats ho=>
  simp only [ho]
  split at hv
  ·next d s t ts ha ht=>
   obtain ⟨v',w',β',hr,hstep,hvr⟩:=Qm (P:=P) (ts:=ts) (ty:=o.type) hs hv (hρ d) (hρ s)
   refine ⟨v',w',β',.inl ?_,hstep,hvr⟩
   have hat:ats=(t::ts).toArray:=by apply Array.ext'; simp [ht]
   simp only [resolve,Sem.run_bind,Sem.run_pure,Result.andThen_ok,invoke,builtin,Lq ha,hat,hr]
  ·cases hv
 ·next args ats ho=>
  simp only [ho]
  have hl:LRel β (args.toList.map ρ) (args.toList.map ρ'):=LRel.map _ fun x _=>hρ x
  split at hv
  ·next x t hm ht=>
   rw [hm] at hl
   obtain ⟨y,r,hy,hyr,hrr⟩:=hl.inv_cons
   have:=hrr.inv_nil
   subst this
   obtain ⟨v',w',β',hr,hstep,hvr⟩:=Mh (P:=P) (ty:=o.type) hs hv hyr
   refine ⟨v',w',β',.inl ?_,hstep,hvr⟩
   have hat:ats = #[t]:=by apply Array.ext'; simp [ht]
   have ha:args.map ρ' = #[y]:=by apply Array.ext'; simp [hy]
   simp only [resolve,Sem.run_bind,Sem.run_pure,Result.andThen_ok,invoke,builtin,ha,hat,hr]
  ·cases hv
 ·next args ats ho=>
  simp only [ho]
  have hl:LRel β (args.toList.map ρ) (args.toList.map ρ'):=LRel.map _ fun x _=>hρ x
  split at hv
  ·next n c hm=>
   rw [hm] at hl
   obtain ⟨y,r,hy,hyr,hrr⟩:=hl.inv_cons
   have:=hrr.inv_nil
   subst this
   obtain ⟨rfl,rfl,rfl⟩:=hyr.inv_nilSlice
   simp only [Option.some.injEq,Prod.mk.injEq] at hv
   obtain ⟨rfl,rfl⟩:=hv
   have hat:args.map ρ' = #[.slice none 0 0]:=by apply Array.ext'; simp [hy]
   refine ⟨.pointer none,w,β,.inl ?_,Step.refl hs,.nilPtr⟩
   simp only [resolve,Sem.run_bind,Sem.run_pure,Result.andThen_ok,invoke,builtin,hat,Lib.run_unsafeSliceData_nil]
  ·next a n c hm=>
   rw [hm] at hl
   obtain ⟨y,r,hy,hyr,hrr⟩:=hl.inv_cons
   have:=hrr.inv_nil
   subst this
   obtain ⟨ab,ao,asp⟩:=a
   have hsp0:asp=none\/ ¬ 0 < aN c:=by
    rcases hyr.inv_sliceA with ⟨k',i',e⟩ | ⟨_,_,hc0,_⟩
    ·injection e with _ _ e; exact .inl e
    ·subst hc0; exact .inr (by unfold aN; rw [if_neg (by decide)]; decide)
   rcases hsp0 with hsp0 | hsp0
   rotate_left
   ·rw [if_neg hsp0] at hv; cases hv
   subst hsp0
   obtain ⟨sl,i',c',hb,hmp,hsp,rfl,hx1,ho1,hn1,hi1,hz1⟩:=hyr.inv_slice
   clear hsp
   split at hv
   ·next hc=>
    simp only [Option.some.injEq,Prod.mk.injEq] at hv
    obtain ⟨rfl,rfl⟩:=hv
    have hcap:aN c<=c':=by
     unfold aN; split
     ·next hc=>exact ho1 hc
     ·next hc=>rw [hx1 (by omega)]; exact Nat.le_refl _
    have hi2:i'=sl.s+ao:=by rcases hi1 with h1 | ⟨h1,h2⟩; exact h1; exact absurd h2 (by omega)
    subst hi2
    have hat:args.map ρ' = #[.slice (some ⟨sl.b,sl.s+ao,none⟩) n c']:=by apply Array.ext'; simp [hy]
    refine ⟨.pointer (some ⟨sl.b,sl.s+ao,none⟩),w,β,.inl ?_,Step.refl hs,.ptr hb hmp⟩
    simp only [resolve,Sem.run_bind,Sem.run_pure,Result.andThen_ok,invoke,builtin,hat,Lib.run_unsafeSliceData_row (P:=P) w ats o.type ⟨sl.b,sl.s+ao,none⟩ n c' (by omega)]
   ·cases hv
  ·cases hv
 ·next args ats ho=>
  simp only [ho]
  have hl:LRel β (args.toList.map ρ) (args.toList.map ρ'):=LRel.map _ fun x _=>hρ x
  split at hv
  ·next kk pt hm hpt=>
   rw [hm] at hl
   obtain ⟨y,r,hy,hyr,hrr⟩:=hl.inv_cons
   obtain ⟨z,r2,rfl,hzr,hrr2⟩:=hrr.inv_cons
   have:=hrr2.inv_nil
   subst this
   cases hyr.inv_nilPtr
   cases hzr.inv_int
   simp only [Option.some.injEq,Prod.mk.injEq] at hv
   obtain ⟨rfl,rfl⟩:=hv
   have hat:args.map ρ' = #[.pointer none,.int kk 0]:=by apply Array.ext'; simp [hy]
   refine ⟨aa [],w,β,.inl ?_,Step.refl hs,.string _⟩
   have hmax:IntKind.i64.max=9223372036854775807:=by decide
   have hdef:Builtin.unsafeString_ ats o.type #[.pointer none,.int kk 0] =
     (do
      let n <-asInt (.int kk 0)
      let some pt:=ats[0]? | stuck "unsafe.String: no argument types"
      if n < 0 then runtimePanic (.error "unsafe.String: len out of range")
      if n > IntKind.i64.max then unsupported (.unsafePointer "String: a length above the largest int")
      if n=0 then pure (.string .empty)
      else runtimePanic (.error "unsafe.String: ptr is nil and len is not zero")):=rfl
   simp only [resolve,Sem.run_bind,Sem.run_pure,Result.andThen_ok,invoke,builtin,hat,hdef,asInt,asIntOf,hpt,Sem.run_ite]
   rw [if_neg (by omega),if_neg (by omega)]
   rfl
  ·next k i kk n pt hm hpt=>
   rw [hm] at hl
   obtain ⟨y,r,hy,hyr,hrr⟩:=hl.inv_cons
   obtain ⟨z,r2,rfl,hzr,hrr2⟩:=hrr.inv_cons
   have:=hrr2.inv_nil
   subst this
   cases hzr.inv_int
   have hat:args.map ρ' = #[y,.int kk n]:=by apply Array.ext'; simp [hy]
   split at hv
   ·next cs e e' hk hu=>
    split at hv
    ·next hc=>
     obtain ⟨rfl,hsz,hn,hmx,hlen⟩:=hc
     split at hv
     ·next l hb=>
      simp only [Option.some.injEq,Prod.mk.injEq] at hv
      obtain ⟨rfl,rfl⟩:=hv
      obtain ⟨w',hr,hstep⟩:=vQ (P:=P) (kk:=kk) (ats:=ats) (ty:=o.type) hs hk hpt hu hsz hn hmx hlen hb hyr
      refine ⟨aa l,w',β,.inl ?_,hstep,.string _⟩
      simp only [resolve,Sem.run_bind,Sem.run_pure,Result.andThen_ok,invoke,builtin,hat,hr]
     ·cases hv
    ·cases hv
   ·cases hv
  ·cases hv
 ·next s d x ho=>
  simp only [ho]
  have hx:=hρ x
  split at hv
  ·next t k h1 h2 ha=>
   rw [ha] at hx
   split at hv
   ·next cs t' wr hk=>
    split at hv
    ·next hc=>
     obtain ⟨rfl,hsz,hpos⟩:=hc
     simp only [Option.some.injEq,Prod.mk.injEq] at hv
     obtain ⟨rfl,rfl⟩:=hv
     obtain ⟨sl,hb,hm,he⟩:=hx.inv_ptr
     obtain ⟨_,_,_,cs',fr,hw,hn,hcells,_⟩:=hs.row hk hb
     obtain ⟨j,hj,hjs⟩:=iO hsz
     obtain ⟨v0,hv0,_⟩:=hcells 0 _ (gE hpos)
     have hlt:=(Array.getElem?_eq_some_iff.1 hv0).1
     have hsh:w.shape? sl.b=some (t,cs'.size):=by simp [World.shape?,hw]
     refine ⟨ρ' x,w,β,.inl ?_,Step.refl hs,hρ x⟩
     rw [he]
     simp only [Sem.run_bind,Lib.run_to_unsafe (P:=P) w ⟨sl.b,sl.s+0,none⟩ h1 h2 hj (by omega) hsh hlt,Result.andThen_ok,Sem.run_pure]
    ·cases hv
   ·cases hv
  ·next t k h1 h2 ha=>
   rw [ha] at hx
   split at hv
   ·next cs t' wr hk=>
    split at hv
    ·next hc=>
     obtain ⟨rfl,hsz,hpos⟩:=hc
     simp only [Option.some.injEq,Prod.mk.injEq] at hv
     obtain ⟨rfl,rfl⟩:=hv
     obtain ⟨sl,hb,hm,he⟩:=hx.inv_ptr
     have hs0:=hs.row0 hk hb
     obtain ⟨_,_,_,cs',fr,hw,hn,hcells,_⟩:=hs.row hk hb
     obtain ⟨j,hj,hjs⟩:=iO hsz
     have hco:=zP hsz
     obtain ⟨v0,hv0,_⟩:=hcells (cs.length - 1) _ (gE (by omega))
     have hlt:=(Array.getElem?_eq_some_iff.1 hv0).1
     have hsh:w.shape? sl.b=some (t,cs'.size):=by simp [World.shape?,hw]
     have hlies:liesAt P P.depth t (cs'.size / P.cellsOf t) (sl.s+0) t 1=true:=by
      refine Aa hco hpos _ _ _ (by rw [hs0]; simp) ?_
      rw [hs0,hco]
      simp only [Nat.add_zero,Nat.zero_div,Nat.zero_add]
      exact (Nat.le_div_iff_mul_le hpos).2 (by omega)
     refine ⟨ρ' x,w,β,.inl ?_,Step.refl hs,hρ x⟩
     rw [he]
     simp only [Sem.run_bind,Lib.run_from_unsafe (P:=P) w ⟨sl.b,sl.s+0,none⟩ h1 h2 hj hsh hlies,Result.andThen_ok,Sem.run_pure]
    ·cases hv
   ·cases hv
  ·cases hv
 ·cases hv
end
end Go.Ab
end
