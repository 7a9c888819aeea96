/- Laws and walks that the proof leans on (part 1): AbEval; AbEnv; AbFast; AbRel; AbPure; AbPure2 and others. No condition. -/
import GoSem.Dispatch
import GoSem.Machine.Frame
import GoSem.Machine.Return
import Derived.CallsIn
import Derived.Laws.Tables
import Derived.KernelRfl
import Derived.Laws.Sem
import Derived.Laws.World
import Derived.Laws.Cells
import Derived.Laws.Entries
import Derived.Laws.Strings
import Derived.Laws.StructEq
import Derived.Laws.Small
import Derived.Laws.BytesString
import Derived.Laws.BitsLemmas
import Derived.Laws.Append
import Derived.Lib.UnsafeStr
import Derived.Lib.Builder
import Derived.RangeFuncLeaves
import Derived.RangeFuncNested
open List (all_eq_true drop_drop eq_nil_of_length_eq_zero foldl_cons getElem?_append_left getElem?_append_right getElem?_drop getElem?_eq_none getElem?_map getElem?_take map_congr_left mem_cons mem_filter mem_range mem_reverse mem_toArray not_mem_nil)
open Nat (add_assoc add_mul le_refl le_trans lt_of_lt_of_le zero_add)
open Option (getD_some map_eq_some_iff map_some)
open Array (foldl_toList getElem?_eq_getElem getElem?_push getElem?_toList toList_map)
open Bool (and_eq_true false_eq_true)
open Go.Result (andThen_ok)
open Go.Sem (run_bind run_ite)
open Go.IntKind (wrap_i64)
section
namespace Go
theorem dT {p:Prop} [Decidable p] (h:decide p=true):p:=of_decide_eq_true h
theorem dF {p:Prop} [Decidable p] (h:decide p=false):¬p:=of_decide_eq_false h
theorem oI {α:Type} {a b:α} (h:some a=some b):a=b:=Option.some.inj h
theorem gE {α:Type} {l:List α} {i:Nat} (h:i<l.length):l[i]? =some l[i]:=List.getElem?_eq_getElem h
theorem gD {α:Type} {l:List α} {i:Nat} {a:α}:l.getD i a=l[i]?.getD a:=List.getD_eq_getElem?_getD
theorem lM {α β:Type} {as:List α} (f:α→β):(as.map f).length=as.length:=List.length_map f
end Go
namespace Go.Ab
noncomputable section
def cj (bs:List Nat)(j i:Nat):Bool:=(bs.getD j 0).testBit i
def e7 (ops:Array Oper):List Nat:=(Region.before ops).toList
def xc:List Oper->Nat->Bool
 | [],_=>true
 | o::r,j=>(o.after.toList.all fun e=>decide (e.on < j) || (!Region.binds .any e && !Region.binds .text e)) && xc r (j+1)
def lA (bs:List Nat)(j:Nat)(t:Tmp):List Oper->Nat->Bool
 | [],_=>true
 | o::r,i=>(match o.dst with | some d=>decide (d≠t) || decide (i=j) || cj bs j i || cj bs i j | none=>true) && lA bs j t r (i+1)
def ws (bs:List Nat)(all:List Oper):List Oper->Nat->Bool
 | [],_=>true
 | o::r,j=>(o.op.operands.toList.all fun | .tmp t=>lA bs j t all 0 | _=>true) && (match o.guard with | some (i,_)=>cj bs j i | none=>true) && ws bs all r (j+1)
def pQ:List Oper->Nat->Bool
 | [],_=>true
 | o::r,m=>match o.dst with
  | some d=> !m.testBit d && pQ r (m ||| 2 ^ d)
  | none=>pQ r m
def Cl (ops:Array Oper):Bool:=
 xc ops.toList 0 && pQ ops.toList 0 && (!Region.departs ops || (Region.linearise .gc ops 0).length == ops.size) && ws (e7 ops) ops.toList ops.toList 0
def bc:Code->Bool
 | .region _ ops true=>Cl ops
 | .seq a b=>bc a && bc b
 | .cond _ a b=>bc a && bc b
 | .block _ a=>bc a
 | .loop a=>bc a
 | _=>true
def ii:Code->Bool
 | .seq a b=>ii a && ii b
 | .cond _ a b=>ii a && ii b
 | .block _ a=>ii a
 | .loop a=>ii a
 | .rangeFunc .. =>false
 | _=>true
def j5 (asg body:Code):Bool:=bc asg && bc body && ii asg && ii body
inductive LSt where
 | ready
 | busy
 | ret
 | exit (id:Nat)
def YB:Nat:=4611686018427387904
inductive Blk where
 | cells (cs:List Value) (t:TypeId) (sz:Nat) (wr:Bool)
 | map (es:List (Value×Value))
 | loop (st:LSt) (tm:List Value) (ps:List Tmp) (asg body:Code) (ok:j5 asg body=true)
 deriving Inhabited
inductive HT where
 | nil
 | node (v:Option Blk) (l r:HT)
 deriving Inhabited
inductive Pth where
 | e
 | l (p:Pth)
 | r (p:Pth)
noncomputable def sP (f:Nat):Nat->Pth:=
 Nat.rec (motive:=fun _=>Nat->Pth) (fun _=> .e) (fun _ ih n=>Nat.rec (motive:=fun _=>Pth) .e (fun k _=>Nat.rec (motive:=fun _=>Pth) (.l (ih (k / 2))) (fun _ _=> .r (ih (k / 2))) (k % 2)) n) f
noncomputable def nn (n:Nat):Pth:=sP (n+1) n
noncomputable def HT.getE (t:HT):Option Blk:=HT.rec (motive:=fun _=>Option Blk) none (fun v _ _ _ _=>v) t
noncomputable def HT.getL (ih:HT->Option Blk)(t:HT):Option Blk:=HT.rec (motive:=fun _=>Option Blk) none (fun _ l _ _ _=>ih l) t
noncomputable def HT.getR (ih:HT->Option Blk)(t:HT):Option Blk:=HT.rec (motive:=fun _=>Option Blk) none (fun _ _ r _ _=>ih r) t
noncomputable def HT.get (p:Pth):HT->Option Blk:=Pth.rec (motive:=fun _=>HT->Option Blk) HT.getE (fun _=>HT.getL) (fun _=>HT.getR) p
noncomputable def HT.setE (b:Option Blk)(t:HT):HT:=HT.rec (motive:=fun _=>HT) (.node b .nil .nil) (fun _ l r _ _=> .node b l r) t
noncomputable def HT.setL (ih:HT->HT)(t:HT):HT:=HT.rec (motive:=fun _=>HT) (.node none (ih .nil) .nil) (fun v l r _ _=> .node v (ih l) r) t
noncomputable def HT.setR (ih:HT->HT)(t:HT):HT:=HT.rec (motive:=fun _=>HT) (.node none .nil (ih .nil)) (fun v l r _ _=> .node v l (ih r)) t
noncomputable def HT.set (b:Option Blk)(p:Pth):HT->HT:=Pth.rec (motive:=fun _=>HT->HT) (HT.setE b) (fun _=>HT.setL) (fun _=>HT.setR) p
structure Heap where
 next:Nat
 t:HT
 deriving Inhabited
noncomputable def Heap.get (h:Heap)(k:Nat):Option Blk:=h.t.get (nn k)
noncomputable def Heap.set (h:Heap)(k:Nat)(b:Blk):Heap:={ h with t:=h.t.set (some b) (nn k) }
noncomputable def Heap.del (h:Heap)(k:Nat):Heap:={ h with t:=h.t.set none (nn k) }
noncomputable def Heap.push (h:Heap)(b:Blk):Heap:={ next:=h.next+1,t:=h.t.set (some b) (nn h.next) }
def bj:Nat:=36893488147419103232
def aI (c:Nat):Nat:=if bj<=c then c - bj else c
abbrev junk:Value:= .chan (some 0)
def bI:Value->Bool
 | .agg _ | .tuple _ | .chan _=>false
 | _=>true
def np:Value->Bool
 | .bool _ | .int _ _ | .float _ _ | .complex _ _ _ | .string _ | .pointer none | .slice none 0 0 | .map none | .nilFunc | .nilIface=>true
 | _=>false
def plain:Value->Bool
 | .agg cs=>cs.toList.all np
 | .tuple cs=>cs.toList.all fun | .agg ds=>ds.toList.all np | v=>np v
 | v=>np v
def ev (gl:Nat->Bool)(tm:List Value):Operand->Value
 | .tmp t=>tm.getD t undef
 | .const v=>if plain v then v else junk
 | .global g=>if gl g then .pointer (some ⟨g,0,none⟩) else junk
 | .func f=> .func (.func f) #[] #[]
def isAgg (P:Program)(t:TypeId):Bool:=match P.underlying t with | some (.struct _) | some (.array ..)=>true | _=>false
def cw (P:Program)(t:TypeId):Option Value:=match P.info? t with | some i=>(match i.zero with | some z=>if plain z then some z else none | none=>none) | none=>none
def al (P:Program)(t:TypeId):Option Nat:=(P.info? t).map (·.size)
def gI (P:Program)(t:TypeId)(cs:Array Value)(off:Nat):Option Value:=
 match P.underlying t with
 | none=>none
 | some _=>if isAgg P t then (al P t).map fun n=> .agg (cs.extract off (off+n)) else cs[off]?
def aa (l:List UInt8):Value:= .string ⟨l.toArray⟩
def LJ (op:BinOp)(x y:Int):Option Bool:=
 match op with
 | .eql=>some (x == y) | .neq=>some (x != y) | .lss=>some (decide (x < y)) | .leq=>some (decide (x<=y)) | .gtr=>some (decide (x > y)) | .geq=>some (decide (x>=y))
 | _=>none
def aV:List UInt8->List UInt8->Bool
 | _,[]=>false
 | [],_::_=>true
 | a::x,b::y=>a < b || (a == b && aV x y)
def CV (op:BinOp)(x y:List UInt8):Option Value:=
 match op with
 | .add=>if x.length+y.length<=4611686018427387904 then some (aa (x++y)) else none
 | .eql=>some (.bool (x == y)) | .neq=>some (.bool !(x == y))
 | .lss=>some (.bool (aV x y)) | .leq=>some (.bool (aV x y || x == y))
 | .gtr=>some (.bool !(aV x y || x == y)) | .geq=>some (.bool !(aV x y))
 | _=>none
def MW:Value->Value->Option Bool
 | .bool a,.bool b=>some (a == b)
 | .int k a,.int k' b=>if k=k' then some (a == b) else none
 | .string a,.string b=>some (a.data.toList == b.data.toList)
 | _,_=>none
def sh (P:Program)(t:TypeId)(x y:Value):Option Bool:=
 match P.underlying t,x,y with
 | some .bool,.bool a,.bool b=>some (a == b)
 | some (.int _),.int k a,.int k' b=>if k=k' then some (a == b) else none
 | some .string,.string a,.string b=>some (a.data.toList == b.data.toList)
 | _,_,_=>none
def fH (P:Program):List Field->Nat->List Value->List Value->Option Bool
 | [],_,_,_=>some true
 | f::fs,i,x::xs,y::ys=>
  if f.offset=i/\f.name≠ "_" then
   match sh P f.type x y with
   | some true=>fH P fs (i+1) xs ys
   | some false=>some false
   | none=>none
  else none
 | _::_,_,_,_=>none
def iu (P:Program)(t:TypeId)(x y:Value):Option Bool:=
 match x,y with
 | .bool a,.bool b=>match P.underlying t with | some .bool=>some (a == b) | _=>none
 | .pointer none,.pointer b=>match P.underlying t with | some (.pointer _)=>some b.isNone | _=>none
 | .pointer a,.pointer none=>match P.underlying t with | some (.pointer _)=>some a.isNone | _=>none
 | .pointer (some a),.pointer (some b)=>match P.underlying t with | some (.pointer e)=>if a=b/\(al P e).any (· ≠0) then some true else none | _=>none
 | .slice none _ _,.slice b _ _=>match P.underlying t with | some (.slice _)=>some b.isNone | _=>none
 | .slice a _ _,.slice none _ _=>match P.underlying t with | some (.slice _)=>some a.isNone | _=>none
 | .map none,.map b=>match P.underlying t with | some (.map ..)=>some b.isNone | _=>none
 | .map a,.map none=>match P.underlying t with | some (.map ..)=>some a.isNone | _=>none
 | .nilFunc,.nilFunc=>match P.underlying t with | some (.func ..)=>some true | _=>none
 | .nilFunc,.func .. =>match P.underlying t with | some (.func ..)=>some false | _=>none
 | .func ..,.nilFunc=>match P.underlying t with | some (.func ..)=>some false | _=>none
 | .nilIface,.iface .. =>match P.underlying t with | some (.interface _)=>some false | _=>none
 | .iface ..,.nilIface=>match P.underlying t with | some (.interface _)=>some false | _=>none
 | .agg a,.agg b=>match P.underlying t with
  | some (.struct fs)=>if P.stoodInHeld t=false/\P.eqGuardType P.depth t=false then fH P fs.toList 0 a.toList b.toList else none
  | _=>none
 | _,_=>none
def ak (P:Program)(op:BinOp)(t:TypeId)(x y:Value):Option Value:=
 match x,y with
 | .int k a,.int k' b=>
  match op with
  | .shl=>if 0<=b then some (.int k (k.wrap (a*2 ^ (min b.toNat k.bits)))) else none
  | .shr=>if 0<=b then some (.int k (a.fdiv (2 ^ (min b.toNat k.bits)))) else none
  | _=>
   if k=k' then
    match op with
    | .add=>some (.int k (k.wrap (a+b)))
    | .sub=>some (.int k (k.wrap (a - b)))
    | .mul=>some (.int k (k.wrap (a*b)))
    | .quo=>if b=0 then none else some (.int k (k.wrap (a.tdiv b)))
    | .rem=>if b=0 then none else some (.int k (a.tmod b))
    | .and=>some (.int k (k.wrap (BitVec.ofInt k.bits a &&& BitVec.ofInt k.bits b).toNat))
    | .or=>some (.int k (k.wrap (BitVec.ofInt k.bits a ||| BitVec.ofInt k.bits b).toNat))
    | .xor=>some (.int k (k.wrap (BitVec.ofInt k.bits a ^^^ BitVec.ofInt k.bits b).toNat))
    | .andNot=>some (.int k (k.wrap (BitVec.ofInt k.bits a &&& ~~~BitVec.ofInt k.bits b).toNat))
    | op=>(LJ op a b).map .bool
   else none
 | .string a,.string b=>CV op a.data.toList b.data.toList
 | x,y=>match op with
  | .eql=>(iu P t x y).map .bool
  | .neq=>(iu P t x y).map fun b=> .bool !b
  | _=>none
def xk (op:UnOp)(x:Value):Option Value:=
 match op,x with
 | .neg,.int k n=>some (.int k (k.wrap (0 - n)))
 | .xor,.int k n=>some (.int k (k.wrap (BitVec.ofInt k.bits (if k.signed then -1 else k.max) ^^^ BitVec.ofInt k.bits n).toNat))
 | .not,.bool b=>some (.bool !b)
 | _,_=>none
def bZ:Option Value->Nat->Option Int
 | none,d=>some d
 | some (.int _ n),_=>some n
 | some _,_=>none
def bh (P:Program)(t:TypeId)(x:Value)(lo hi mx:Option Value)(h:Heap):Option Value:=
 match x with
 | .string s=>
  match P.underlying t with
  | some .string=>match mx,bZ lo 0,bZ hi s.data.toList.length with
   | none,some l,some r=>if 0<=l/\l<=r/\r<=(s.data.toList.length:Int) then some (aa ((s.data.toList.drop l.toNat).take (r - l).toNat)) else none
   | _,_,_=>none
  | _=>none
 | .slice none 0 0=>
  match P.underlying t with
  | some (.slice e)=>match mx,bZ lo 0,bZ hi 0,al P e with
   | none,some 0,some 0,some _=>some (.slice none 0 0)
   | _,_,_,_=>none
  | _=>none
 | .slice (some ⟨k,i,none⟩) len cap=>
  match P.underlying t with
  | some (.slice e)=>match bZ lo 0,bZ hi len,al P e,h.get k with
   | some l,some r,some sz,some (.cells _ _ sz' _)=>
    if sz'=sz\/sz'=0 then
     match mx with
     | none=>if 0<=l/\l<=r/\r<=(aI cap:Int) then some (.slice (some ⟨k,i+l.toNat*sz,none⟩) (r - l).toNat (cap - l.toNat)) else none
     | some (.int _ m)=>if 0<=l/\l<=r/\r<=m/\m<=(aI cap:Int)/\m < bj/\hi.isSome=true then some (.slice (some ⟨k,i+l.toNat*sz,none⟩) (r - l).toNat (m - l).toNat) else none
     | some _=>none
    else none
   | _,_,_,_=>none
  | _=>none
 | .pointer (some ⟨k,i,none⟩)=>
  match P.underlying t with
  | some (.array n e)=>match mx,bZ lo 0,bZ hi n,al P e,h.get k with
   | none,some l,some r,some sz,some (.cells _ _ 0 _)=>
    if 0<=l/\l<=r/\r<=(n:Int)/\n < bj then some (.slice (some ⟨k,i+l.toNat*sz,none⟩) (r - l).toNat (n - l.toNat)) else none
   | _,_,_,_,_=>none
  | _=>none
 | _=>none
def sV:Value->Bool
 | .chan _=>false
 | _=>true
def aC (P:Program)(t:TypeId)(parts:List (Nat×Value)):Option Value:=
 match cw P t with
 | some _=>if parts.all fun p=>sV p.2 then (P.built t parts).map .agg else none
 | none=>none
def dd (P:Program)(src dst:TypeId)(x:Value):Option Value:=
 match P.underlying src,P.underlying dst,x with
 | some _,some (.int k),.int _ n=>some (.int k (k.wrap n))
 | some _,some .string,.string s=>some (.string s)
 | some (.pointer _),some .unsafePointer,.pointer none=>some x
 | some .unsafePointer,some (.pointer _),.pointer none=>some x
 | _,_,_=>none
def jl (mx:Bool):List Value->Option Value
 | []=>none
 | x::rest=>rest.foldlM (fun x y=>match x,y with
  | .int k x,.int k' y=>if k=k' then some (.int k (if mx then (if y > x then y else x) else (if y < x then y else x))) else none
  | _,_=>none) x
def bm (P:Program)(ρ:Operand->Value)(o:Oper):Option Value:=
 match o.op with
 | .move x | .assign x=>some (ρ x)
 | .pick c a b=>match ρ c with | .bool t=>some (if t then ρ a else ρ b) | _=>none
 | .build t parts=>aC P t (parts.toList.map fun p=>(p.1,ρ p.2))
 | .nilCheck x=>match ρ x with
  | .pointer none | .nilIface | .nilFunc=>none
  | .func (.method _) _ _=>none
  | .chan _=>none
  | v=>some v
 | .binOp op t x y _=>ak P op t (ρ x) (ρ y)
 | .unOp op _ x=>xk op (ρ x)
 | .convert s d x=>dd P s d (ρ x)
 | .makeInterface t x=>match P.underlying t with | some (.interface _) | none=>none | some _=>some (.iface t (ρ x))
 | .makeFunc fn first captured=>match fn with
  | .yield _=>none
  | fn=>some (.func fn (first.map ρ) (captured.map ρ))
 | .fieldAddr s x f=>match P.underlying s,ρ x with
  | some (.struct fields),.pointer (some a)=>match fields[f]? with
   | some fd=>if (al P fd.type).any (· ≠0) then some (.pointer (some (a.add fd.offset))) else none
   | none=>none
  | _,_=>none
 | .field t x f=>match P.underlying t,ρ x with
  | some (.struct fields),.agg cs=>match fields[f]? with
   | some fd=>gI P fd.type cs fd.offset
   | none=>none
  | _,_=>none
 | .indexAddr t x i=>match P.underlying t,ρ x,ρ i with
  | some (.array len e),.pointer (some a),.int _ j=>match al P e with
   | some n=>if 0<=j/\j < (len:Int) then some (.pointer (some (a.add (j.toNat*n)))) else none
   | none=>none
  | some (.slice e),.slice (some a) len _,.int _ j=>match al P e with
   | some n=>if 0<=j/\j < (len:Int) then some (.pointer (some (a.add (j.toNat*n)))) else none
   | none=>none
  | _,_,_=>none
 | .index t x i=>match P.underlying t,ρ x,ρ i with
  | some (.array len e),.agg cs,.int _ j=>match al P e with
   | some n=>if 0<=j/\j < (len:Int) then gI P e cs (j.toNat*n) else none
   | none=>none
  | some .string,.string s,.int _ j=>if 0<=j then match s.data.toList[j.toNat]? with | some b=>some (.int .u8 b.toNat) | none=>none else none
  | _,_,_=>none
 | .typeAssert x _ u ok=>match P.underlying u,ρ x with
  | some (.interface _),_ | none,_=>none
  | some _,.nilIface=>if ok then (cw P u).map fun z=> .tuple #[z,.bool false] else none
  | some _,.iface t v=>if t=u then some (if ok then .tuple #[v,.bool true] else v) else if ok then (cw P u).map fun z=> .tuple #[z,.bool false] else none
  | _,_=>none
 | .extract x i=>match ρ x with | .tuple vs=>vs[i]? | _=>none
 | .call { callee:= .builtin .max,args,.. }=>jl true (args.toList.map ρ)
 | .call { callee:= .builtin .min,args,.. }=>jl false (args.toList.map ρ)
 | .call { callee:= .builtin .cap,args,argTypes }=>match args[0]?,argTypes[0]? with
  | some x,some t=>match P.underlying t,ρ x with
   | some (.slice _),.slice _ _ c=>if c < bj then some (.int .i64 c) else none
   | _,_=>none
  | _,_=>none
 | _=>none
def bytesOf:List Value->Option (List UInt8)
 | []=>some []
 | .int .u8 n::r=>if 0<=n/\n < 256 then (bytesOf r).map (UInt8.ofNat n.toNat :: ·) else none
 | _=>none
def ah (P:Program)(t:TypeId)(h:Heap)(a:Value):Option Value:=
 match P.underlying t,a with
 | some _,.pointer (some ⟨k,i,none⟩)=>match h.get k with
  | some (.cells cs ..)=>
   if isAgg P t then
    match al P t with
    | some n=>if ((cs.drop i).take n).length=n then some (.agg ((cs.drop i).take n).toArray) else none
    | none=>none
   else cs[i]?
  | _=>none
 | _,_=>none
def qO:Value->Bool
 | .bool _ | .int _ _ | .string _=>true
 | _=>false
def pF:Value->Bool
 | .agg cs=>cs.toList.all qO
 | v=>qO v
def xl:Value->Value->Bool
 | .bool a,.bool b=>a == b
 | .int k a,.int k' b=>decide (k=k') && decide (a=b)
 | .string a,.string b=>decide (a.data.toList=b.data.toList)
 | _,_=>false
def vE:List Value->List Value->Bool
 | [],[]=>true
 | a::x,b::y=>xl a b && vE x y
 | _,_=>false
def Cx:Value->Value->Bool
 | .agg a,.agg b=>vE a.toList b.toList
 | a,b=>xl a b
def HW (P:Program)(e:TypeId->Value->Value->Option Bool)(a b:Array Value):List Field->Option Bool
 | []=>some true
 | f::fs=>if f.name≠ "_" then (match gI P f.type a f.offset,gI P f.type b f.offset with
  | some p,some q=>(match e f.type p q with
   | some true=>HW P e a b fs
   | some false=>some false
   | none=>none)
  | _,_=>none) else none
def e9 (P:Program):Nat->TypeId->Value->Value->Option Bool
 | 0,_,_,_=>none
 | d+1,t,x,y=>match P.underlying t,x,y with
  | some (.struct fs),.agg a,.agg b=>if P.stoodInHeld t=false then HW P (e9 P d) a b fs.toList else none
  | _,x,y=>sh P t x y
def C7 (P:Program)(c:TypeId->Value->Bool)(a:Array Value):List Field->Bool
 | []=>true
 | f::fs=>decide (f.name≠ "_") && (match gI P f.type a f.offset with | some p=>c f.type p | none=>false) && C7 P c a fs
def qc (P:Program):Nat->TypeId->Value->Bool
 | 0,_,_=>false
 | d+1,t,v=>match P.underlying t,v with
  | some (.struct fs),.agg a=>C7 P (qc P d) a fs.toList
  | some .bool,.bool _=>true
  | some (.int _),.int _ _=>true
  | some .string,.string _=>true
  | _,_=>false
def i4 (P:Program)(kt:TypeId)(k:Value):Bool:=pF k && qc P 3 kt k
def nR (P:Program)(kt:TypeId)(a b:Value):Option Bool:=
 if pF b then match e9 P 3 kt a b with
  | some true=>if Cx a b then some true else none
  | r=>r
 else none
def nc (P:Program)(kt:TypeId)(k:Value):List (Value×Value)->Option (Option Value)
 | []=>some none
 | (k',v)::es=>match nR P kt k k' with
  | some true=>some (some v)
  | some false=>nc P kt k es
  | none=>none
def aU (P:Program)(ρ:Operand->Value)(o:Oper)(h:Heap):Option Value:=
 match o.op with
 | .load t a=>ah P t h (ρ a)
 | .slice t x lo hi mx=>bh P t (ρ x) (lo.map ρ) (hi.map ρ) (mx.map ρ) h
 | .convert s d x=>match P.underlying s,P.underlying d,ρ x with
  | some (.slice e),some .string,.slice a len _=>match P.underlying e,a with
   | some (.int .u8),none=>some (aa [])
   | some (.int .u8),some ⟨k,i,none⟩=>match h.get k with
    | some (.cells cs ..)=>
     if ((cs.drop i).take len).length=len then
      (bytesOf ((cs.drop i).take len)).map aa
     else none
    | _=>none
   | _,_=>none
  | _,_,_=>none
 | .lookup t m k ok=>match P.underlying t with
  | some (.map kt e)=>match (match ρ m with | .map none=>some [] | .map (some r)=>(match h.get r with | some (.map es)=>some es | _=>none) | _=>none),cw P e with
   | some es,some z=>
    if i4 P kt (ρ k) then match nc P kt (ρ k) es with
     | some (some v)=>some (if ok then .tuple #[v,.bool true] else v)
     | some none=>some (if ok then .tuple #[z,.bool false] else z)
     | none=>none
    else none
   | _,_=>none
  | _=>none
 | .call { callee:= .builtin .len,args,argTypes }=>match args[0]?,argTypes[0]? with
  | some x,some t=>match P.underlying t,ρ x with
   | some .string,.string s=>some (.int .i64 s.data.toList.length)
   | some (.array n _),_=>some (.int .i64 n)
   | some (.slice _),.slice _ n _=>some (.int .i64 n)
   | some (.map ..),.map none=>some (.int .i64 0)
   | some (.map ..),.map (some r)=>match h.get r with
    | some (.map es)=>some (.int .i64 es.length)
    | _=>none
   | _,_=>none
  | _,_=>none
 | _=>none
def aZ (z:List Value):Nat->List Value
 | 0=>[]
 | n+1=>z++aZ z n
def aM (P:Program)(ρ:Operand->Value)(o:Oper):Option (Blk×(Nat->Value)):=
 match o.op with
 | .alloc t=>match cw P t with
  | some z=>if z.cells.toList.all bI then some (.cells z.cells.toList t 0 true,fun k=> .pointer (some ⟨k,0,none⟩)) else none
  | none=>none
 | .box t x=>if (ρ x).cells.toList.all bI then some (.cells (ρ x).cells.toList t 0 true,fun k=> .pointer (some ⟨k,0,none⟩)) else none
 | .buildSlice t len parts=>match P.underlying t with
  | some (.slice e)=>match al P e,cw P e with
   | some sz,some z=>
    if z.cells.size=sz/\0 < sz/\len*sz<=65536 then
     match (if parts.toList.all fun p=>sV (ρ p.2) then Instr.fill (fun i=>some (i*sz,sz)) (aZ z.cells.toList len).toArray (parts.toList.map fun p=>(p.1,ρ p.2)) else none) with
     | some cs=>if cs.toList.all bI then some (.cells cs.toList e sz true,fun k=> .slice (some ⟨k,0,none⟩) len len) else none
     | none=>none
    else none
   | _,_=>none
  | _=>none
 | .makeSlice t l c=>match P.underlying t,ρ l,ρ c with
  | some (.slice e),.int .i64 l,.int .i64 c=>match P.info? e,cw P e with
   | some i,some z=>
    if z.cells.size=i.size/\0 < i.size/\0<=l/\l<=c/\c*i.bytes<=140737488355328/\c<=1099511627776 then
     some (.cells (aZ z.cells.toList c.toNat) e i.size true,fun k=> .slice (some ⟨k,0,none⟩) l.toNat c.toNat)
    else none
   | _,_=>none
  | _,_,_=>none
 | .makeMap t r=>match P.underlying t with
  | some (.map ..)=>match r with
   | none=>some (.map [],fun k=> .map (some k))
   | some x=>match ρ x with | .int _ _=>some (.map [],fun k=> .map (some k)) | _=>none
  | _=>none
 | .convert s d x=>match P.underlying s,P.underlying d,ρ x with
  | some _,some (.slice e),.string s=>match P.underlying e with
   | some (.int .u8)=>match al P e with
    | some 1=>some (.cells (s.data.toList.map fun b=> .int .u8 b.toNat) e 1 true,fun k=> .slice (some ⟨k,0,none⟩) s.data.toList.length (bj+s.data.toList.length))
    | _=>none
   | _=>none
  | _,_,_=>none
 | _=>none
inductive Upd where
 | no
 | set (k:Nat) (b:Blk)
 | push (b:Blk)
 | move (k:Nat) (b:Blk)
 | all (h:Heap)
 deriving Inhabited
def Upd.app (u:Upd)(h:Heap):Heap:=
 match u with
 | .no=>h
 | .set k b=>h.set k b
 | .push b=>h.push b
 | .move k b=>(h.del k).push b
 | .all h'=>h'
def storeAt (h:Heap)(k i:Nat)(vs:List Value):Option Upd:=
 match h.get k with
 | some (.cells cs t sz true)=>if i+vs.length<=cs.length/\vs.all bI then some (.set k (.cells (cs.take i++vs++cs.drop (i+vs.length)) t sz true)) else none
 | _=>none
def cz (h:Heap)(sz:Nat)(x:Value):Option (List Value×Nat):=
 match x with
 | .slice none 0 _=>some ([],0)
 | .slice (some ⟨_,_,some _⟩) 0 0=>some ([],0)
 | .slice (some ⟨k,i,none⟩) n _=>match h.get k with
  | some (.cells cs ..)=>if ((cs.drop i).take (n*sz)).length=n*sz then some ((cs.drop i).take (n*sz),n) else none
  | _=>none
 | .string s=>if sz=1 then some (s.data.toList.map fun b=> .int .u8 b.toNat,s.data.toList.length) else none
 | _=>none
def dA (P:Program)(e:TypeId):Option TypeInfo:=
 match P.info? e,cw P e with
 | some i,some z=>if z.cells.size=i.size/\0 < i.size then some i else none
 | _,_=>none
def ca (P:Program)(t:TypeId):Bool:=match P.underlying t with | some (.slice _) | some .string=>true | _=>false
def eZ (h:Heap)(e:TypeId)(sz bytes:Nat)(k j n c m:Nat)(news:List Value):Option (Value×Upd):=
 if (n+m)*bytes<=70368744177664/\n+m<=1099511627776 then
  match h.get k with
  | some (.cells cs e' sz' wr)=>
   if e'=e/\sz'=sz/\((cs.drop j).take (n*sz)).length=n*sz then
    if c < bj then some (.slice (some ⟨h.next,0,none⟩) (n+m) (bj+(n+m)),.push (.cells ((cs.drop j).take (n*sz)++news) e sz true))
    else if wr=true/\cs.length=j+n*sz then some (.slice (some ⟨h.next,0,none⟩) (n+m) (bj+(n+m)),.move k (.cells ((cs.drop j).take (n*sz)++news) e sz true))
    else none
   else none
  | _=>none
 else none
def aJ (P:Program)(t t':TypeId)(s x:Value)(h:Heap):Option (Value×Upd):=
 match P.underlying t with
 | some (.slice e)=>match dA P e with
  | some i=>
   if ca P t'=true then
    match cz h i.size x with
    | some (news,m)=>
     if news.all bI/\news.length=m*i.size then
      match s with
      | .slice none 0 0=>if m=0 then some (s,.no) else
        if m*i.bytes<=70368744177664/\m<=1099511627776 then some (.slice (some ⟨h.next,0,none⟩) m (bj+m),.push (.cells news e i.size true)) else none
      | .slice (some ⟨k,j,none⟩) n c=>
       if m=0 then some (s,.no) else
       if n+m<=aI c then
        (storeAt h k (j+n*i.size) news).map fun u=>(.slice (some ⟨k,j,none⟩) (n+m) c,u)
       else eZ h e i.size i.bytes k j n c m news
      | _=>none
     else none
    | none=>none
   else none
  | none=>none
 | _=>none
def lj (P:Program)(t:TypeId)(d s:Value)(h:Heap):Option (Value×Upd):=
 match P.underlying t with
 | some (.slice e)=>match al P e,d with
  | some sz,.slice a n _=>
   match cz h sz s with
   | some (cs,m)=>
    if n=0\/m=0 then some (.int .i64 0,.no) else
    match a with
    | some ⟨k,j,none⟩=>(storeAt h k j (cs.take (min m n*sz))).map fun u=>(.int .i64 (min m n:Nat),u)
    | _=>none
   | none=>none
  | _,_=>none
 | _=>none
def Be (P:Program)(t:TypeId)(x:Value)(h:Heap):Option (Value×Upd):=
 match P.underlying t,x with
 | some (.slice e),.slice (some ⟨k,j,none⟩) n _=>match cw P e with
  | some z=>if n=0 then some (undef,.no) else (storeAt h k j (aZ z.cells.toList n)).map fun u=>(undef,u)
  | none=>none
 | _,_=>none
abbrev bL:=FuncId->List Value->Heap->Option (Value×Heap)
def pN (cf:bL)(f:Value)(args:List Value)(h:Heap):Option (Value×Upd):=
 match f with
 | .func (.func g) first captured=>if g < YB then (cf g (first.toList++args++captured.toList) h).map fun r=>(r.1,.all r.2) else none
 | .func (.yield k) first captured=>if first.size=0/\captured.size=0 then (cf (YB+k) args h).map fun r=>(r.1,.all r.2) else none
 | _=>none
def hJ (P:Program)(kt:TypeId)(k v:Value):List (Value×Value)->Option (List (Value×Value))
 | []=>some [(k,v)]
 | (k',v')::r=>match nR P kt k k' with
  | some true=>some ((k,v)::r)
  | some false=>(hJ P kt k v r).map ((k',v') :: ·)
  | none=>none
def cV (P:Program)(cf:bL)(ρ:Operand->Value)(o:Oper)(h:Heap):Option (Value×Upd):=
 match o.op with
 | .store t a x=>match ρ a with
  | .pointer (some ⟨k,i,none⟩)=>if al P t=some (ρ x).cells.size then (storeAt h k i (ρ x).cells.toList).map fun u=>(undef,u) else none
  | _=>none
 | .mapUpdate t m k x | .insert t m k x=>match P.underlying t,ρ m with
  | some (.map kt _),.map (some r)=>match h.get r with
   | some (.map es)=>if i4 P kt (ρ k) then (hJ P kt (ρ k) (ρ x) es).map fun es'=>(undef,.set r (.map es')) else none
   | _=>none
  | _,_=>none
 | .call { callee:= .value f,args,.. }=>pN cf (ρ f) (args.toList.map ρ) h
 | .call { callee:= .builtin .append,args,argTypes }=>match args.toList,argTypes.toList with
  | [s,x],[t,t']=>aJ P t t' (ρ s) (ρ x) h
  | _,_=>none
 | .call { callee:= .builtin .copy,args,argTypes }=>match args.toList,argTypes.toList with
  | [d,s],t::_=>lj P t (ρ d) (ρ s) h
  | _,_=>none
 | .call { callee:= .builtin .clear,args,argTypes }=>match args.toList.map ρ,argTypes.toList with
  | [x],[t]=>Be P t x h
  | _,_=>none
 | .call { callee:= .builtin .unsafeSliceData,args,.. }=>match args.toList.map ρ with
  | [.slice none _ _]=>some (.pointer none,.no)
  | [.slice (some a) _ c]=>if 0 < aI c then some (.pointer (some a),.no) else none
  | _=>none
 | .call { callee:= .builtin .unsafeString,args,argTypes,.. }=>match args.toList.map ρ,argTypes[0]? with
  | [.pointer none,.int _ 0],some _=>some (aa [],.no)
  | [.pointer (some ⟨k,i,none⟩),.int _ n],some pt=>match h.get k,P.underlying pt with
   | some (.cells cs e 1 true),some (.pointer e')=>
    if e=e'/\al P e=some 1/\0 < n/\n < 9223372036854775807/\((cs.drop i).take n.toNat).length=n.toNat then
     match bytesOf ((cs.drop i).take n.toNat) with
     | some l=>some (aa l,.set k (.cells cs e 1 false))
     | none=>none
    else none
   | _,_=>none
  | _,_=>none
 | .convert s d x=>match P.underlying s,P.underlying d,ρ x with
  | some (.pointer t),some .unsafePointer,.pointer (some ⟨k,0,none⟩)=>match h.get k with
   | some (.cells cs t' 0 _)=>if t=t'/\al P t=some cs.length/\0 < cs.length then some (ρ x,.no) else none
   | _=>none
  | some .unsafePointer,some (.pointer t),.pointer (some ⟨k,0,none⟩)=>match h.get k with
   | some (.cells cs t' 0 _)=>if t=t'/\al P t=some cs.length/\0 < cs.length then some (ρ x,.no) else none
   | _=>none
  | _,_,_=>none
 | _=>none
def bJ (P:Program)(cf:bL)(ρ:Operand->Value)(o:Oper)(h:Heap):Option (Value×Upd):=
 match bm P ρ o with
 | some v=>some (v,.no)
 | none=>match aU P ρ o h with
  | some v=>some (v,.no)
  | none=>match aM P ρ o with
   | some (b,f)=>some (f h.next,.push b)
   | none=>cV P cf ρ o h
def ei (tm:List Value)(dst:Option Tmp)(v:Value):List Value:=
 match dst with
 | some d=>tm.set d v
 | none=>tm
def dN (ops:Array Oper)(tm:List Value)(o:Oper):Option Bool:=
 match o.guard with
 | none=>some true
 | some (j,want)=>match (ops[j]?).bind (·.dst) with
  | some d=>match tm.getD d undef with
   | .bool b=>some (b == want)
   | .tuple _=>some false
   | _=>none
  | none=>none
def e8 (P:Program)(gl:Nat->Bool)(cf:bL)(ops:Array Oper):List Oper->List Value->Heap->Option (List Value×Heap)
 | [],tm,h=>some (tm,h)
 | o::rest,tm,h=>
  match dN ops tm o with
  | some true=>match bJ P cf (ev gl tm) o h with
   | some (v,u)=>e8 P gl cf ops rest (ei tm o.dst v) (u.app h)
   | none=>none
  | some false=>e8 P gl cf ops rest (ei tm o.dst undef) h
  | none=>none
def Cy (e:Value->Value->Bool):List Value->List Value->Bool
 | [],[]=>true
 | a::x,b::y=>e a b && Cy e x y
 | _,_=>false
def eK:Nat->Value->Value->Bool
 | 0,_,_=>false
 | d+1,v,v'=>match v,v' with
  | .bool a,.bool b=>a == b
  | .int k a,.int k' b=>decide (k=k') && decide (a=b)
  | .string a,.string b=>decide (a.data.toList=b.data.toList)
  | .pointer none,.pointer none=>true
  | .pointer (some ⟨a,i,none⟩),.pointer (some ⟨b,j,none⟩)=>decide (a=b) && decide (i=j)
  | .slice none n c,.slice none n' c'=>decide (n=n') && decide (c=c')
  | .slice (some ⟨a,i,none⟩) n c,.slice (some ⟨b,j,none⟩) n' c'=>decide (a=b) && decide (i=j) && decide (n=n') && decide (c=c')
  | .map none,.map none=>true
  | .map (some a),.map (some b)=>decide (a=b)
  | .nilFunc,.nilFunc=>true
  | .nilIface,.nilIface=>true
  | .func (.func f) a c,.func (.func f') a' c'=>decide (f=f') && Cy (eK d) a.toList a'.toList && Cy (eK d) c.toList c'.toList
  | .iface t v,.iface t' v'=>decide (t=t') && eK d v v'
  | .agg a,.agg b=>Cy (eK d) a.toList b.toList
  | .tuple a,.tuple b=>Cy (eK d) a.toList b.toList
  | _,_=>false
inductive Ent where
 | skip
 | pure (v:Value)
 | read (v:Value)
 | alloc (B:Blk) (v:Value)
 | eff (v:Value) (h:Heap)
 deriving Inhabited
def Ent.val:Ent->Value
 | .skip=>undef
 | .pure v | .read v | .alloc _ v | .eff v _=>v
def ax (h:Heap)(base:Nat):List (Nat×Blk)->Heap
 | []=>h
 | (i,B)::r=>(ax h base r).set (base+i) B
def cD (P:Program)(gl:Nat->Bool)(cf:bL)(ops:Array Oper)(bf:Nat->Nat->Bool)(base:Nat):List Oper->Nat->List Value->Heap->List (Nat×Blk)->Option (List (List Value×Ent)×List Value×Heap×List (Nat×Blk))
 | [],_,tm,h,pd=>some ([],tm,h,pd)
 | o::rest,j,tm,h,pd=>
  match dN ops tm o with
  | none=>none
  | some false=>(cD P gl cf ops bf base rest (j+1) (ei tm o.dst undef) h pd).map fun r=>((tm,.skip)::r.1,r.2)
  | some true=>
   match bm P (ev gl tm) o with
   | some v=>(cD P gl cf ops bf base rest (j+1) (ei tm o.dst v) h pd).map fun r=>((tm,.pure v)::r.1,r.2)
   | none=>
    match aU P (ev gl tm) o h with
    | some v=>(cD P gl cf ops bf base rest (j+1) (ei tm o.dst v) h pd).map fun r=>((tm,.read v)::r.1,r.2)
    | none=>
     match aM P (ev gl tm) o with
     | some (B,f)=>(cD P gl cf ops bf base rest (j+1) (ei tm o.dst (f (base+j))) h ((j,B)::pd)).map fun r=>((tm,.alloc B (f (base+j)))::r.1,r.2)
     | none=>
      match cV P cf (ev gl tm) o (ax h base (pd.filter fun p=>bf j p.1)) with
      | some (v,u)=>
       (cD P gl cf ops bf base rest (j+1) (ei tm o.dst v) (u.app (ax h base (pd.filter fun p=>bf j p.1))) (pd.filter fun p=> !bf j p.1)).map fun r=>
        ((tm,.eff v (u.app (ax h base (pd.filter fun p=>bf j p.1))))::r.1,r.2)
      | none=>none
def dB {τ:Type}:List (τ×Ent)->Nat->List (Nat×Heap)
 | [],_=>[]
 | (_,.eff _ h)::r,j=>(j,h)::dB r (j+1)
 | _::r,j=>dB r (j+1)
def eI (bf:Nat->Nat->Bool):List (Nat×Heap)->Bool
 | (i,_)::(j,h)::r=>bf j i && eI bf ((j,h)::r)
 | _=>true
def jA (P:Program)(gl:Nat->Bool)(o:Oper)(tm:List Value)(v:Value)(h:Heap):Bool:=
 match aU P (ev gl tm) o h with
 | some v'=>eK 4 v v'
 | none=>false
def jm (P:Program)(gl:Nat->Bool)(bf:Nat->Nat->Bool)(j:Nat)(o:Oper)(tm:List Value)(v:Value):Heap->List (Nat×Heap)->Bool->Bool
 | h,[],own=>own || jA P gl o tm v h
 | h,(e,h')::r,own=>((own && Nat.blt j e) || bf j e || jA P gl o tm v h) && (bf e j || jm P gl bf j o tm v h' r (Nat.blt e j))
def gX (P:Program)(gl:Nat->Bool)(bf:Nat->Nat->Bool)(h:Heap)(es:List (Nat×Heap)):List Oper->List (List Value×Ent)->Nat->Bool
 | o::os,(tm,.read v)::r,j=>jm P gl bf j o tm v h es true && gX P gl bf h es os r (j+1)
 | _::os,_::r,j=>gX P gl bf h es os r (j+1)
 | _,_,_=>true
def rk (P:Program)(gl:Nat->Bool)(cf:bL)(ops:Array Oper)(bf:Nat->Nat->Bool)(tm:List Value)(h:Heap):Option (List Value×Heap):=
 match cD P gl cf ops bf h.next ops.toList 0 tm { h with next:=h.next+ops.size } [] with
 | some (recs,tm',h',pd)=>
  if eI bf (dB recs 0) && gX P gl bf { h with next:=h.next+ops.size } (dB recs 0) ops.toList recs 0 then some (tm',ax h' h.next pd) else none
 | none=>none
def Kx (o:Oper):Bool:=match o.op with | .insert .. =>true | _=>false
def M2 (o:Oper):Bool:=match o.op with | .store .. =>true | _=>false
def Bh (ops:Array Oper):Bool:=
 ops.toList.any Kx && (List.range ops.size).any fun j=>(match ops[j]? with | some o=>M2 o | none=>false) && (List.range j).any fun i=>(match ops[i]? with | some o=>Kx o | none=>false) && !cj (e7 ops) j i
def d9:FuncId->List Value->Heap->Option (Value×Heap):=fun _ _ _=>none
def Na (P:Program)(ρ:Operand->Value)(o:Oper)(k:Nat)(h:Heap):Option (Value×Option (Nat×Blk)):=
 match bm P ρ o with
 | some v=>some (v,none)
 | none=>match aU P ρ o h with
  | some v=>some (v,none)
  | none=>match aM P ρ o with
   | some (b,f)=>some (f k,some (k,b))
   | none=>match cV P d9 ρ o h with
    | some (v,.no)=>some (v,none)
    | some (v,.set i b)=>some (v,some (i,b))
    | _=>none
abbrev Aj:=List Value×Heap×List Nat
def zf (s:Aj)(dst:Option Tmp)(v:Value):Option (Nat×Blk)->Aj
 | none=>(ei s.1 dst v,s.2.1,s.2.2)
 | some (k,b)=>(ei s.1 dst v,s.2.1.set k b,k::s.2.2)
def zb (P:Program)(gl:Nat->Bool)(ops:Array Oper)(base j:Nat)(s:Aj):Option Aj:=
 match ops[j]? with
 | some o=>match dN ops s.1 o with
  | some true=>match Na P (ev gl s.1) o (base+j) s.2.1 with
   | some (v,u)=>some (zf s o.dst v u)
   | none=>none
  | some false=>some (zf s o.dst undef none)
  | none=>none
 | none=>none
def yX (P:Program)(gl:Nat->Bool)(ops:Array Oper)(base:Nat):Nat->Nat->Aj->Option Aj
 | 0,_,s=>some s
 | n+1,j,s=>match zb P gl ops base j s with
  | some s'=>yX P gl ops base n (j+1) s'
  | none=>none
def pL:List (Value×Value)->List (Value×Value)->Bool
 | [],[]=>true
 | (a,b)::x,(c,d)::y=>eK 4 a c && eK 4 b d && pL x y
 | _,_=>false
def Ix:Blk->Blk->Bool
 | .cells cs t sz wr,.cells cs' t' sz' wr'=>Cy (eK 4) cs cs' && Nat.beq t t' && Nat.beq sz sz' && (wr == wr')
 | .map es,.map es'=>pL es es'
 | _,_=>false
def I2 (h h':Heap)(k:Nat):Bool:=match h.get k,h'.get k with
 | some B,some C=>Ix B C
 | none,none=>true
 | _,_=>false
def Gq (s s':Aj):Bool:=Cy (eK 4) s.1 s'.1 && s.2.2.all (I2 s.2.1 s'.2.1) && s'.2.2.all (I2 s.2.1 s'.2.1)
def HS (P:Program)(gl:Nat->Bool)(ops:Array Oper)(bf:Nat->Nat->Bool)(base:Nat)(fin:Aj):Nat->List Nat->Aj->Bool
 | 0,_,s=>Gq fin s
 | n+1,done,s=>(List.range ops.size).all fun j=>done.contains j || ((List.range j).any fun i=>bf j i && !done.contains i) || (match zb P gl ops base j s with | some s'=>HS P gl ops bf base fin n (j::done) s' | none=>false)
def KI (P:Program)(gl:Nat->Bool)(ops:Array Oper)(bf:Nat->Nat->Bool)(tm:List Value)(h:Heap):Option (List Value×Heap):=
 match yX P gl ops h.next ops.size 0 (tm,{ h with next:=h.next+ops.size },[]) with
 | some fin=>if HS P gl ops bf h.next fin ops.size [] (tm,{ h with next:=h.next+ops.size },[]) then some (fin.1,fin.2.1) else none
 | none=>none
def yH (P:Program)(gl:Nat->Bool)(cf:bL)(ops:Array Oper)(tm:List Value)(h:Heap):Option (List Value×Heap):=
 if Bh ops then KI P gl ops (cj (e7 ops)) tm h else rk P gl cf ops (cj (e7 ops)) tm h
def z6 (body:List Value->Heap->Option (Exit×List Value×Heap)):Nat->List Value->Heap->Option (Exit×List Value×Heap)
 | 0,_,_=>none
 | n+1,tm,h=>match body tm h with
  | some (.normal,tm',h')=>z6 body n tm' h'
  | r=>r
def sI (P:Program)(g:FuncId):Bool:=match P.funcs[g]? with | some fn=>fn.body.isSome | none=>false
def vQ:Option Blk->Option Exit
 | some (.loop .ready ..)=>some .normal
 | some (.loop .ret ..)=>some .ret
 | some (.loop (.exit id) ..)=>some (.exit id)
 | _=>none
def aP (P:Program)(gl:Nat->Bool)(cf:bL)(N:Nat):Code->List Value->Heap->Option (Exit×List Value×Heap)
 | .skip,tm,h=>some (.normal,tm,h)
 | .region _ ops false,tm,h=>(e8 P gl cf ops ops.toList tm h).map fun r=>(.normal,r.1,r.2)
 | .region _ ops true,tm,h=>(yH P gl cf ops tm h).map fun r=>(.normal,r.1,r.2)
 | .seq a b,tm,h=>match aP P gl cf N a tm h with
  | some (.normal,tm',h')=>aP P gl cf N b tm' h'
  | r=>r
 | .cond c a b,tm,h=>match ev gl tm c with
  | .bool t=>if t then aP P gl cf N a tm h else aP P gl cf N b tm h
  | _=>none
 | .block id c,tm,h=>match aP P gl cf N c tm h with
  | some (.exit id',tm',h')=>if id'=id then some (.normal,tm',h') else some (.exit id',tm',h')
  | r=>r
 | .loop c,tm,h=>z6 (aP P gl cf N c) N tm h
 | .exit id,tm,h=>some (.exit id,tm,h)
 | .ret,tm,h=>some (.ret,tm,h)
 | .label _,tm,h=>some (.normal,tm,h)
 | .rangeFunc f ps asg body,tm,h=>match ev gl tm f with
  | .func (.func g) first captured=>
   if hc:j5 asg body=true then
    if g < YB/\sI P g=true then
     match cf g (first.toList++[.func (.yield h.next) #[] #[]]++captured.toList) (h.push (.loop .ready tm ps.toList asg body hc)) with
     | some (_,h2)=>(vQ (h2.get h.next)).map fun e=>(e,tm,h2.del h.next)
     | none=>none
    else none
   else none
  | _=>none
 | _,_,_=>none
def i7 (tm:List Value)(pa:List (Tmp×Value)):List Value:=pa.foldl (fun tm p=>tm.set p.1 p.2) tm
def qR:Exit->Option (Bool×LSt)
 | .normal=>some (true,.ready)
 | .ret=>some (false,.ret)
 | .exit id=>some (false,.exit id)
 | _=>none
def oQ (run:Code->List Value->Heap->Option (Exit×List Value×Heap))(k:Nat)(args:List Value)(h:Heap):Option (Value×Heap):=
 match h.get k with
 | some (.loop .ready tm ps asg body _)=>
  if args.length=ps.length then
   match run asg (i7 tm (ps.zip args)) h with
   | some (.normal,tm1,h1)=>match h1.get k with
    | some (.loop .ready tm' ps' asg' body' ok')=>match run body tm1 (h1.set k (.loop .busy tm' ps' asg' body' ok')) with
     | some (e,_,h2)=>match h2.get k,qR e with
      | some (.loop _ tm2 ps2 asg2 body2 ok2),some (b,st)=>some (.bool b,h2.set k (.loop st tm2 ps2 asg2 body2 ok2))
      | _,_=>none
     | none=>none
    | _=>none
   | _=>none
  else none
 | _=>none
def bG (P:Program)(tm:List Value)(h:Heap):List ResultVar->Option (List Value)
 | []=>some []
 | .tmp t::r=>(bG P tm h r).map (tm.getD t undef :: ·)
 | .cell a t::r=>match ah P t h (tm.getD a undef) with
  | some v=>(bG P tm h r).map (v :: ·)
  | none=>none
def bV:List Value->Value
 | [v]=>v
 | vs=> .tuple vs.toArray
abbrev mA:=bL->List Value->Heap->Option (Value×Heap)
def aT (P:Program)(gl:Nat->Bool)(pr:FuncId->Option mA):Nat->bL
 | 0,_,_,_=>none
 | n+1,f,args,h=>if YB<=f then oQ (aP P gl (aT P gl pr n) n) (f - YB) args h else match pr f with
  | some p=>p (aT P gl pr n) args h
  | none=>match P.funcs[f]? with
   | some fn=>match fn.body with
    | some c=>match aP P gl (aT P gl pr n) n c (args++List.replicate (fn.ntmps - args.length) undef) h with
     | some (.normal,tm,h')=>(bG P tm h' fn.results.toList).map fun vs=>(bV vs,h')
     | some (.ret,tm,h')=>(bG P tm h' fn.results.toList).map fun vs=>(bV vs,h')
     | _=>none
    | none=>none
   | none=>none
end
end Go.Ab
end
section
namespace Go.Ab
open Go
section
noncomputable section
variable {α:Type}
def ai (P:Program)(t:TypeId)(a x:Value)(h:Heap):Option (Value×Upd):=match a with
 | .pointer (some ⟨k,i,none⟩)=>if al P t=some x.cells.size then (storeAt h k i x.cells.toList).map fun u=>(undef,u) else none
 | _=>none
end
end
end Go.Ab
end
section
namespace Go.Ab
section
theorem HT.get_nil: ∀ p,HT.get p .nil=none
 | .e=>rfl
 | .l _=>rfl
 | .r _=>rfl
theorem HT.get_set_same (b:Option Blk): ∀ (p:Pth)(t:HT),HT.get p (HT.set b p t)=b
 | .e,.nil=>rfl
 | .e,.node .. =>rfl
 | .l p,.nil=>HT.get_set_same b p .nil
 | .l p,.node _ l _=>HT.get_set_same b p l
 | .r p,.nil=>HT.get_set_same b p .nil
 | .r p,.node _ _ r=>HT.get_set_same b p r
theorem HT.get_set_ne (b:Option Blk): ∀ (p q:Pth)(t:HT),q≠p->HT.get q (HT.set b p t)=HT.get q t
 | .e,.e,_,h=>absurd rfl h
 | .e,.l q,.nil,_=>HT.get_nil q
 | .e,.r q,.nil,_=>HT.get_nil q
 | .e,.l _,.node ..,_=>rfl
 | .e,.r _,.node ..,_=>rfl
 | .l p,.e,.nil,_=>rfl
 | .l p,.e,.node ..,_=>rfl
 | .l p,.l q,.nil,h=>(HT.get_set_ne b p q .nil (fun e=>h (by rw [e]))).trans (HT.get_nil q)
 | .l p,.l q,.node _ l _,h=>HT.get_set_ne b p q l (fun e=>h (by rw [e]))
 | .l p,.r q,.nil,_=>HT.get_nil q
 | .l p,.r q,.node ..,_=>rfl
 | .r p,.e,.nil,_=>rfl
 | .r p,.e,.node ..,_=>rfl
 | .r p,.r q,.nil,h=>(HT.get_set_ne b p q .nil (fun e=>h (by rw [e]))).trans (HT.get_nil q)
 | .r p,.r q,.node _ _ r,h=>HT.get_set_ne b p q r (fun e=>h (by rw [e]))
 | .r p,.l q,.nil,_=>HT.get_nil q
 | .r p,.l q,.node ..,_=>rfl
def Pth.num:Pth->Nat
 | .e=>0
 | .l p=>2*p.num+1
 | .r p=>2*p.num+2
theorem ve: ∀ (f n:Nat),n < f->(sP f n).num=n
 | 0,_,h=>absurd h (by omega)
 | f+1,0,_=>rfl
 | f+1,k+1,h=>by
  have ih:=ve f (k / 2) (by omega);have hu:sP (f+1) (k+1)=Nat.rec (motive:=fun _=>Pth) (.l (sP f (k / 2))) (fun _ _=> .r (sP f (k / 2))) (k % 2):=rfl;rw [hu];rcases Nat.mod_two_eq_zero_or_one k with hk | hk
  ·rw [hk]; show 2*(sP f (k / 2)).num+1=k+1; rw [ih]; omega
  ·rw [hk]; show 2*(sP f (k / 2)).num+2=k+1; rw [ih]; omega
theorem rZ (n:Nat):(nn n).num=n:=ve (n+1) n (by omega)
theorem pX {k j:Nat}(h:j≠k):nn j≠nn k:=fun e=>h (by rw [<-rZ j,e,rZ])
section
variable (h:Heap) (k j:Nat) (b:Blk)
theorem Heap.get_set_same:(h.set k b).get k=some b:=HT.get_set_same _ _ _
theorem Heap.get_set_ne (hne:j≠k):(h.set k b).get j=h.get j:=HT.get_set_ne _ _ _ _ (pX hne)
theorem Heap.get_del_same:(h.del k).get k=none:=HT.get_set_same _ _ _
theorem Heap.get_del_ne (hne:j≠k):(h.del k).get j=h.get j:=HT.get_set_ne _ _ _ _ (pX hne)
theorem Heap.get_push_same:(h.push b).get h.next=some b:=HT.get_set_same _ _ _
theorem Heap.get_push_ne (hne:j≠h.next):(h.push b).get j=h.get j:=HT.get_set_ne _ _ _ _ (pX hne)
@[simp] theorem Heap.next_set:(h.set k b).next=h.next:=rfl
@[simp] theorem Heap.next_del:(h.del k).next=h.next:=rfl
@[simp] theorem Heap.next_push:(h.push b).next=h.next+1:=rfl
theorem Heap.get_set:(h.set k b).get j=if j=k then some b else h.get j:=by
 split
 ·next e=>subst e; exact h.get_set_same j b
 ·next e=>exact h.get_set_ne k j b e
theorem Heap.get_del:(h.del k).get j=if j=k then none else h.get j:=by
 split
 ·next e=>subst e; exact h.get_del_same j
 ·next e=>exact h.get_del_ne k j e
theorem Heap.get_push:(h.push b).get j=if j=h.next then some b else h.get j:=by
 split
 ·next e=>subst e; exact h.get_push_same b
 ·next e=>exact h.get_push_ne j b e
end
structure Slot where
 b:Nat
 s:Nat
 n:Nat
 t:TypeId
 sz:Nat
 isMap:Bool
abbrev Inj:=Nat->Option Slot
def Inj.le (β β':Inj):Prop:= ∀ k sl,β k=some sl->β' k=some sl
theorem Inj.le_refl (β:Inj):β.le β:=fun _ _ h=>h
theorem Inj.le_trans {a b c:Inj}(h:a.le b)(h':b.le c):a.le c:=fun k sl hk=>h' k sl (h k sl hk)
def Jr:Fn->Bool
 | .yield _=>true
 | _=>false
inductive VRel (β:Inj):Value->Value->Prop where
 | junk (v:Value):VRel β (.chan (some 0)) v
 | bool (b:Bool):VRel β (.bool b) (.bool b)
 | int (k:IntKind) (n:Int):VRel β (.int k n) (.int k n)
 | float (k:FloatKind) (n:Nat):VRel β (.float k n) (.float k n)
 | complex (k:FloatKind) (m n:Nat):VRel β (.complex k m n) (.complex k m n)
 | string (s:ByteArray):VRel β (.string s) (.string s)
 | nilPtr:VRel β (.pointer none) (.pointer none)
 | ptr {k i:Nat} {sl:Slot} (h:β k=some sl) (hm:sl.isMap=false):VRel β (.pointer (some ⟨k,i,none⟩)) (.pointer (some ⟨sl.b,sl.s+i,none⟩))
 | nilSlice:VRel β (.slice none 0 0) (.slice none 0 0)
 | slice {k i n c i' c':Nat} {sl:Slot} (h:β k=some sl) (hm:sl.isMap=false) (hx:c < bj->c'=c) (ho:bj<=c->c - bj<=c') (hn:n<=aI c)
   (hi:i'=sl.s+i\/(n=0/\c'=0)) (hz:sl.sz=0\/i'+c'*sl.sz<=sl.n):VRel β (.slice (some ⟨k,i,none⟩) n c) (.slice (some ⟨sl.b,i',none⟩) n c')
 | dead (a:Addr):VRel β (.slice (some ⟨0,0,some 0⟩) 0 0) (.slice (some a) 0 0)
 | nilMap:VRel β (.map none) (.map none)
 | map {k:Nat} {sl:Slot} (h:β k=some sl) (hm:sl.isMap=true):VRel β (.map (some k)) (.map (some sl.b))
 | func {fn:Fn} {a a' c c':Array Value} (hy:Jr fn=false) (ha:a.size=a'.size) (hc:c.size=c'.size) (ra: ∀ (i:Nat) v v',a[i]?=some v->a'[i]?=some v'->VRel β v v')
   (rc: ∀ (i:Nat) v v',c[i]?=some v->c'[i]?=some v'->VRel β v v'):VRel β (.func fn a c) (.func fn a' c')
 | yield {k:Nat} {sl:Slot} (h:β k=some sl) {a c:Array Value} (ha:a.size=0) (hc:c.size=0):VRel β (.func (.yield k) a c) (.func (.yield sl.b) a c)
 | nilFunc:VRel β .nilFunc .nilFunc
 | iface (t:TypeId) {v v':Value} (h:VRel β v v'):VRel β (.iface t v) (.iface t v')
 | nilIface:VRel β .nilIface .nilIface
 | agg {a a':Array Value} (hs:a.size=a'.size) (h: ∀ (i:Nat) v v',a[i]?=some v->a'[i]?=some v'->VRel β v v'):VRel β (.agg a) (.agg a')
 | tuple {a a':Array Value} (hs:a.size=a'.size) (h: ∀ (i:Nat) v v',a[i]?=some v->a'[i]?=some v'->VRel β v v'):VRel β (.tuple a) (.tuple a')
theorem VRel.mono {β β':Inj}(hβ:β.le β'){v v':Value}(h:VRel β v v'):VRel β' v v':=by
 induction h with
 | junk v=>exact .junk v
 | bool b=>exact .bool b
 | int k n=>exact .int k n
 | float k n=>exact .float k n
 | complex k m n=>exact .complex k m n
 | string s=>exact .string s
 | nilPtr=>exact .nilPtr
 | ptr h hm=>exact .ptr (hβ _ _ h) hm
 | nilSlice=>exact .nilSlice
 | slice h hm hx ho hn hi hz=>exact .slice (hβ _ _ h) hm hx ho hn hi hz
 | dead a=>exact .dead a
 | nilMap=>exact .nilMap
 | map h hm=>exact .map (hβ _ _ h) hm
 | yield h ha hc=>exact .yield (hβ _ _ h) ha hc
 | func hy ha hc _ _ ra rc=>exact .func hy ha hc (fun i v v' h h'=>ra i v v' h h') (fun i v v' h h'=>rc i v v' h h')
 | nilFunc=>exact .nilFunc
 | iface t _ ih=>exact .iface t ih
 | nilIface=>exact .nilIface
 | agg hs _ ih=>exact .agg hs fun i v v' h h'=>ih i v v' h h'
 | tuple hs _ ih=>exact .tuple hs fun i v v' h h'=>ih i v v' h h'
theorem VRel.undef (β:Inj):VRel β undef undef:= .tuple rfl (fun i v v' h=>by simp at h)
theorem VRel.of_bare {β:Inj}{v:Value}(h:np v=true):VRel β v v:=by
 unfold np at h;split at h <;> first
  | exact .bool _ | exact .int _ _ | exact .float _ _ | exact .complex _ _ _ | exact .string _ | exact .nilPtr | exact .nilSlice | exact .nilMap | exact .nilFunc | exact .nilIface
  | cases h
theorem VRel.of_bares {β:Inj}{cs:Array Value}(h:cs.toList.all np=true)(i:Nat)(v v':Value)(h1:cs[i]?=some v)(h2:cs[i]?=some v'):VRel β v v':=by
 rw [h1] at h2;obtain rfl:=oI h2;refine .of_bare (all_eq_true.1 h v ?_);rw [<-getElem?_toList] at h1;exact List.mem_of_getElem? h1
theorem VRel.of_plain {β:Inj}{v:Value}(h:plain v=true):VRel β v v:=by
 unfold plain at h;split at h
 ·exact .agg rfl (VRel.of_bares h)
 ·refine .tuple rfl fun i v v' h1 h2=> ?_;rw [h1] at h2;obtain rfl:=oI h2;rw [<-getElem?_toList] at h1;have:=all_eq_true.1 h v (List.mem_of_getElem? h1);split at this
  ·exact .agg rfl (VRel.of_bares this)
  ·exact .of_bare this
 ·exact .of_bare h
def ARel (β:Inj)(a a':Array Value):Prop:=a.size=a'.size/\ ∀ (i:Nat) v v',a[i]?=some v->a'[i]?=some v'->VRel β v v'
def LRel (β:Inj)(l l':List Value):Prop:=l.length=l'.length/\ ∀ (i:Nat) v v',l[i]?=some v->l'[i]?=some v'->VRel β v v'
theorem ARel.toList {β:Inj}{a a':Array Value}:ARel β a a'↔LRel β a.toList a'.toList:=by simp [ARel,LRel]
theorem LRel.nil (β:Inj):LRel β [] []:=⟨rfl,fun i v v' h=>by simp at h⟩
theorem LRel.cons {β:Inj}{v v':Value}{l l':List Value}(h:VRel β v v')(hl:LRel β l l'):LRel β (v::l) (v'::l'):=
 ⟨by simp [hl.1],fun i a a' h1 h2=>by
  cases i with
  | zero=>simp at h1 h2; subst h1; subst h2; exact h
  | succ i=>exact hl.2 i a a' (by simpa using h1) (by simpa using h2)⟩
theorem LRel.head {β:Inj}{v v':Value}{l l':List Value}(h:LRel β (v::l) (v'::l')):VRel β v v':=h.2 0 v v' rfl rfl
theorem LRel.tail {β:Inj}{v v':Value}{l l':List Value}(h:LRel β (v::l) (v'::l')):LRel β l l':=
 ⟨by have:=h.1; simp at this; exact this,fun i a a' h1 h2=>h.2 (i+1) a a' (by simpa using h1) (by simpa using h2)⟩
theorem LRel.inv_nil {β:Inj}{l:List Value}(h:LRel β [] l):l=[]:=eq_nil_of_length_eq_zero h.1.symm
theorem LRel.inv_cons {β:Inj}{v:Value}{l l':List Value}(h:LRel β (v::l) l'): ∃ v' r,l'=v'::r/\VRel β v v'/\LRel β l r:=by
 cases l' with
 | nil=>have:=h.1; simp at this
 | cons v' r=>exact ⟨v',r,rfl,h.head,h.tail⟩
theorem LRel.mono {β β':Inj}(hβ:β.le β'){l l':List Value}(h:LRel β l l'):LRel β' l l':=⟨h.1,fun i v v' h1 h2=>(h.2 i v v' h1 h2).mono hβ⟩
theorem LRel.append {β:Inj}: ∀ {a a' b b':List Value},LRel β a a'->LRel β b b'->LRel β (a++b) (a'++b')
 | [],a',b,b',h,h'=>by rw [h.inv_nil]; exact h'
 | v::a,a',b,b',h,h'=>by
  obtain ⟨v',r,rfl,hv,hr⟩:=h.inv_cons;exact .cons hv (hr.append h')
theorem LRel.map {β:Inj}{α:Type}(l:List α){f f':α->Value}(h: ∀ x∈l,VRel β (f x) (f' x)):LRel β (l.map f) (l.map f'):=
 ⟨by simp,fun i v v' h1 h2=>by
  simp only [getElem?_map,map_eq_some_iff] at h1 h2;obtain ⟨x,hx,rfl⟩:=h1;obtain ⟨y,hy,rfl⟩:=h2;rw [hx] at hy;obtain rfl:=oI hy;exact h x (List.mem_of_getElem? hx)⟩
theorem VRel.scalar_one {β:Inj}{v v':Value}(h:VRel β v v')(hs:bI v=true):v'.oneCell'=true/\v.cells = #[v]/\v'.cells = #[v']:=by
 cases h <;> first | (simp [bI] at hs; done) | exact ⟨rfl,rfl,rfl⟩
theorem VRel.cells {β:Inj}{v v':Value}(h:VRel β v v')(hj:v≠Ab.junk):ARel β v.cells v'.cells:=by
 cases h with
 | junk=>exact absurd rfl hj
 | agg hs h=>exact ⟨hs,h⟩
 | _=>
  refine ⟨rfl,fun i a a' h1 h2=> ?_⟩
  cases i with
  | zero=>simp [Value.cells] at h1 h2; subst h1; subst h2; constructor <;> assumption
  | succ i=>simp [Value.cells] at h1
end
end Go.Ab
end
section
namespace Go.Ab
open Go
section
variable {β:Inj} {P:Program}
theorem VRel.inv_int {k:IntKind}{n:Int}{v':Value}(h:VRel β (.int k n) v'):v' = .int k n:=by cases h; rfl
theorem VRel.inv_bool {b:Bool}{v':Value}(h:VRel β (.bool b) v'):v' = .bool b:=by cases h; rfl
theorem VRel.inv_string {s:ByteArray}{v':Value}(h:VRel β (.string s) v'):v' = .string s:=by cases h; rfl
theorem VRel.inv_ptr {k i:Nat}{v':Value}(h:VRel β (.pointer (some ⟨k,i,none⟩)) v'): ∃ sl,β k=some sl/\sl.isMap=false/\v' = .pointer (some ⟨sl.b,sl.s+i,none⟩):=by
  cases h with
  | ptr h hm=>exact ⟨_,h,hm,rfl⟩
theorem VRel.inv_pointer {a:Addr}{v':Value}(h:VRel β (.pointer (some a)) v'): ∃ sl,β a.block=some sl/\sl.isMap=false/\a.spot=none/\v' = .pointer (some ⟨sl.b,sl.s+a.off,none⟩):=by
  cases h with
  | ptr h hm=>exact ⟨_,h,hm,rfl,rfl⟩
theorem VRel.inv_agg {a:Array Value}{v':Value}(h:VRel β (.agg a) v'): ∃ a',v' = .agg a'/\ARel β a a':=by
  cases h with
  | agg hs h=>exact ⟨_,rfl,hs,h⟩
theorem VRel.inv_tuple {a:Array Value}{v':Value}(h:VRel β (.tuple a) v'): ∃ a',v' = .tuple a'/\ARel β a a':=by
  cases h with
  | tuple hs h=>exact ⟨_,rfl,hs,h⟩
theorem VRel.inv_iface {t:TypeId}{v v':Value}(h:VRel β (.iface t v) v'): ∃ u,v' = .iface t u/\VRel β v u:=by
  cases h with
  | iface _ h=>exact ⟨_,rfl,h⟩
theorem VRel.inv_nilIface {v':Value}(h:VRel β .nilIface v'):v' = .nilIface:=by cases h; rfl
theorem VRel.inv_nilSlice {n c:Nat}{v':Value}(h:VRel β (.slice none n c) v'):n=0/\c=0/\v' = .slice none 0 0:=by cases h; exact ⟨rfl,rfl,rfl⟩
theorem VRel.inv_map {k:Nat}{v':Value}(h:VRel β (.map (some k)) v'): ∃ sl,β k=some sl/\sl.isMap=true/\v' = .map (some sl.b):=by
  cases h with
  | map h hm=>exact ⟨_,h,hm,rfl⟩
theorem VRel.inv_nilMap {v':Value}(h:VRel β (.map none) v'):v' = .map none:=by cases h; rfl
theorem VRel.inv_nilPtr {v':Value}(h:VRel β (.pointer none) v'):v' = .pointer none:=by cases h; rfl
theorem VRel.inv_slice {k i n c:Nat}{v':Value}(h:VRel β (.slice (some ⟨k,i,none⟩) n c) v'): ∃ sl i' c',β k=some sl/\sl.isMap=false/\(none:Option Nat)=none/\v' = .slice (some ⟨sl.b,i',none⟩) n c'/\
    (c < bj->c'=c)/\(bj<=c->c - bj<=c')/\n<=aI c/\(i'=sl.s+i\/(n=0/\c'=0))/\(sl.sz=0\/i'+c'*sl.sz<=sl.n):=by
  cases h with
  | slice h hm hx ho hn hi hz=>exact ⟨_,_,_,h,hm,rfl,rfl,hx,ho,hn,hi,hz⟩
theorem VRel.inv_sliceA {a:Addr}{n c:Nat}{v':Value}(h:VRel β (.slice (some a) n c) v'):(∃ k i,a=⟨k,i,none⟩)\/(a=⟨0,0,some 0⟩/\n=0/\c=0/\ ∃ a',v' = .slice (some a') 0 0):=by
  cases h with
  | slice h hm hx ho hn hi hz=>exact .inl ⟨_,_,rfl⟩
  | dead a=>exact .inr ⟨rfl,rfl,rfl,_,rfl⟩
theorem VRel.inv_some {a:Addr}{n c:Nat}{v':Value}(h:VRel β (.slice (some a) n c) v'): ∃ a' c',v' = .slice (some a') n c':=by
  cases h with
  | slice h hm hx ho hn hi hz=>exact ⟨_,_,rfl⟩
  | dead a=>exact ⟨_,_,rfl⟩
theorem ARel.get {a a':Array Value}(h:ARel β a a'){i:Nat}{v:Value}(hv:a[i]?=some v): ∃ v',a'[i]?=some v'/\VRel β v v':=by
  have hi:i < a.size:=(Array.getElem?_eq_some_iff.1 hv).1;have hi':i < a'.size:=h.1 ▸ hi;exact ⟨a'[i],getElem?_eq_getElem hi',h.2 i v _ hv (getElem?_eq_getElem hi')⟩
theorem LRel.get {a a':List Value}(h:LRel β a a'){i:Nat}{v:Value}(hv:a[i]?=some v): ∃ v',a'[i]?=some v'/\VRel β v v':=by
  have hi:i < a.length:=(List.getElem?_eq_some_iff.1 hv).1;have hi':i < a'.length:=h.1 ▸ hi;exact ⟨a'[i],gE hi',h.2 i v _ hv (gE hi')⟩
theorem am {t:TypeId}{d:TypeDesc}(h:P.underlying t=some d)(w:World):(underlying t).run P w = .ok d w:=run_underlying h w
theorem kY {t:TypeId}{i:TypeInfo}(h:P.info? t=some i)(w:World):(typeInfo t).run P w = .ok i w:=by simp [typeInfo,h]
theorem ib {t:TypeId}{n:Nat}(h:al P t=some n): ∃ i,P.info? t=some i/\i.size=n:=by
  unfold al at h
  cases hi:P.info? t with
  | none=>simp [hi] at h
  | some i=>exact ⟨i,rfl,by simpa [hi] using h⟩
theorem bP {t:TypeId}{n:Nat}(h:al P t=some n)(w:World):(sizeOf t).run P w = .ok n w:=by
  obtain ⟨i,hi,rfl⟩:=ib h;simp [sizeOf,kY hi]
theorem cH {t:TypeId}{z:Value}(h:cw P t=some z):plain z=true/\ ∃ i,P.info? t=some i/\i.zero=some z:=by
  unfold cw at h
  cases hi:P.info? t with
  | none=>simp [hi] at h
  | some i=>
    simp only [hi] at h
    cases hz:i.zero with
    | none=>simp [hz] at h
    | some z'=>
      simp only [hz] at h;split at h
      · next hp=>obtain rfl:=oI h; exact ⟨hp,i,rfl,hz⟩
      · cases h
theorem iD {t:TypeId}{z:Value}(h:cw P t=some z)(w:World):(zeroValue t).run P w = .ok z w:=by
  obtain ⟨_,i,hi,hz⟩:=cH h;simp [zeroValue,kY hi,hz]
theorem lT {t:TypeId}{d:TypeDesc}(h:P.underlying t=some d)(w:World):(Go.isAgg t).run P w = .ok (Ab.isAgg P t) w:=by
  simp only [Go.isAgg,run_bind,am h,andThen_ok,Ab.isAgg,h]
  cases d <;> rfl
theorem rI: ∀ x y:List UInt8,aV x y=Op.bytesLess x y
  | [],[]=>rfl
  | _::_,[]=>rfl
  | [],_::_=>rfl
  | a::x,b::y=>by simp [aV,Op.bytesLess,rI x y]
theorem th {a b:ByteArray}(h:a.data.toList=b.data.toList):a=b:=by
  cases a; cases b; simp only [ByteArray.mk.injEq]; exact Array.ext' h
theorem DC (a b:ByteArray):(⟨(a.data.toList++b.data.toList).toArray⟩:ByteArray)=a++b:=by
  apply th; simp
theorem DP {op:BinOp}{x y:ByteArray}{v:Value}(h:CV op x.data.toList y.data.toList=some v)(w:World):(Op.stringOp op x y).run P w = .ok v w:=by
  unfold CV at h;unfold Op.stringOp;simp only [ByteArray.toList_eq]
  cases op <;> simp only [] at h <;> first
    | (simp only [Option.some.injEq] at h; subst h; simp [rI]; done)
    | (cases h; done)
    | skip
  split at h
  · next hl=>
    obtain rfl:=oI h;simp only [run_ite,run_unsupported,Sem.run_pure];rw [if_neg]
    · simp only [aa,DC]
    · have hx:x.data.toList.length=x.size:=by simp
      have hy:y.data.toList.length=y.size:=by simp
      rw [hx,hy] at hl;have:IntKind.i64.max=9223372036854775807:=by decide
      omega
  · cases h
theorem Fc {op:BinOp}{t:TypeId}{k:IntKind}{k':IntKind}{a b:Int}{v:Value}(h:ak P op t (.int k a) (.int k' b)=some v)(w:World):(binOp op t (.int k a) (.int k' b)).run P w = .ok v w:=by
  simp only [ak] at h;unfold binOp
  cases op <;> simp only [] at h <;> first
    | (split at h
       · next hb=>
         obtain rfl:=oI h;simp only [Op.shift,run_ite];rw [if_neg (by omega)];rfl
       · cases h
       done)
    | (split at h
       · next hk=>
         subst hk;simp only [ne_eq,not_true_eq_false,if_false]
         first
           | (obtain rfl:=oI h; rfl)
           | (split at h
              · cases h
              · next hb=>obtain rfl:=oI h; simp [Op.intDiv,hb])
           | (obtain ⟨r,hr,rfl⟩:=map_eq_some_iff.1 h; exact intCmp_sim hr w)
       · cases h)
theorem vu (a b:ByteArray):(a.data.toList == b.data.toList)=(a == b):=by
  rw [beq_toListBytes,ByteArray.toList_eq,ByteArray.toList_eq]
theorem sr {x y:Value}{b:Bool}{t:TypeId}(hb:sh P t x y=some b)(d:Nat)(w:World):(Op.equalIn (d+1) t x y).run P w = .ok b w:=by
  unfold sh at hb;split at hb
  · next hu=>obtain rfl:=oI hb; exact run_equalIn_bool' w d t _ _ hu
  · next hu=>
    split at hb
    · next hk=>subst hk; obtain rfl:=oI hb; exact run_equalIn_int w d t _ _ _ _ hu
    · cases hb
  · next hu=>obtain rfl:=oI hb; rw [run_equalIn_string w d t _ _ hu]; simp [ByteArray.toList_eq]
  · cases hb
theorem qE {x y:Value}{b:Bool}{t:TypeId}(hb:sh P t x y=some b): ∃ d,P.underlying t=some d/\isAgg P t=false:=by
  unfold sh at hb;split at hb
  · next hu=>exact ⟨_,hu,by simp [isAgg,hu]⟩
  · next hu=>exact ⟨_,hu,by simp [isAgg,hu]⟩
  · next hu=>exact ⟨_,hu,by simp [isAgg,hu]⟩
  · cases hb
theorem py {t:TypeId}{d:TypeDesc}(hu:P.underlying t=some d)(ha:isAgg P t=false){cs:Array Value}{off:Nat}{v:Value}(hv:cs[off]?=some v)(w:World):(part t cs off).run P w = .ok v w:=by
  simp [part,lT hu,ha,hv]
theorem sS {xs ys:Array Value}(d:Nat)(w:World): ∀ (fs:List Field)(i:Nat)(l m:List Value){b:Bool},xs.toList.drop i=l->ys.toList.drop i=m->fH P fs i l m=some b->
    (Op.eqFields (d+1) xs ys fs).run P w = .ok b w
  | [],_,_,_,b,_,_,h=>by simp only [fH] at h; obtain rfl:=oI h; rfl
  | f::fs,i,[],_,b,_,_,h=>by simp [fH] at h
  | f::fs,i,_::_,[],b,_,_,h=>by simp [fH] at h
  | f::fs,i,x::l,y::m,b,hl,hm,h=>by
    simp only [fH] at h;split at h
    · next hc=>
      obtain ⟨ho,hn⟩:=hc;have hx:xs[f.offset]?=some x:=by
        have:(xs.toList.drop i)[0]?=some x:=by rw [hl]; rfl
        rw [getElem?_drop] at this;rw [ho,<-getElem?_toList]; simpa using this
      have hy:ys[f.offset]?=some y:=by
        have:(ys.toList.drop i)[0]?=some y:=by rw [hm]; rfl
        rw [getElem?_drop] at this;rw [ho,<-getElem?_toList]; simpa using this
      have hl':xs.toList.drop (i+1)=l:=by rw [<-drop_drop,hl]; rfl
      have hm':ys.toList.drop (i+1)=m:=by rw [<-drop_drop,hm]; rfl
      unfold Op.eqFields;rw [if_pos hn];split at h
      · next he=>
        obtain ⟨ds,hu,ha⟩:=qE he;simp only [run_bind,py hu ha hx,py hu ha hy,andThen_ok,sr he d];simp only [Bool.not_true,false_eq_true,if_false];exact sS d w fs (i+1) l m hl' hm' h
      · next he=>
        obtain ⟨ds,hu,ha⟩:=qE he;obtain rfl:=oI h;simp only [run_bind,py hu ha hx,py hu ha hy,andThen_ok,sr he d];rfl
      · cases h
    · cases h
theorem xV {x y x' y':Value}{b:Bool}{t:TypeId}(h:sh P t x y=some b)(hx:VRel β x x')(hy:VRel β y y'):x'=x/\y'=y:=by
  unfold sh at h;split at h
  · exact ⟨hx.inv_bool,hy.inv_bool⟩
  · exact ⟨hx.inv_int,hy.inv_int⟩
  · exact ⟨hx.inv_string,hy.inv_string⟩
  · cases h
theorem rW: ∀ (fs:List Field)(i:Nat){l m l' m':List Value}{b:Bool},fH P fs i l m=some b->LRel β l l'->LRel β m m'->fH P fs i l' m'=some b
  | [],_,_,_,_,_,_,h,_,_=>by simpa [fH] using h
  | f::fs,i,[],_,_,_,b,h,_,_=>by simp [fH] at h
  | f::fs,i,_::_,[],_,_,b,h,_,_=>by simp [fH] at h
  | f::fs,i,x::l,y::m,l',m',b,h,hl,hm=>by
    obtain ⟨x',l',rfl,hx,hl'⟩:=hl.inv_cons;obtain ⟨y',m',rfl,hy,hm'⟩:=hm.inv_cons;simp only [fH] at h ⊢;split at h
    · next hc=>
      rw [if_pos hc];split at h
      · next he=>
        obtain ⟨rfl,rfl⟩:=xV he hx hy;rw [he];exact rW fs (i+1) h hl' hm'
      · next he=>
        obtain ⟨rfl,rfl⟩:=xV he hx hy;rw [he];exact h
      · cases h
    · cases h
theorem pP {t e:TypeId}(d:Nat)(hu:P.underlying t=some (.pointer e)){n:Nat}(hn:al P e=some n)(h0:n≠0)(a:Addr)(w:World):
    (Op.equalIn (d+1) t (.pointer (some a)) (.pointer (some a))).run P w = .ok true w:=by
  simp only [Op.equalIn,run_bind,am hu,andThen_ok,bP hn,run_ite];rw [if_pos h0];simp [sameAddr]
set_option maxHeartbeats 4000000 in
theorem zT {t:TypeId}{x y x' y':Value}{b:Bool}(h:iu P t x y=some b)(hx:VRel β x x')(hy:VRel β y y')(w:World)(d:Nat):(Op.equalIn (d+1+1) t x' y').run P w = .ok b w:=by
  unfold iu at h;split at h
  · cases hx.inv_bool; cases hy.inv_bool
    split at h
    · next hu=>obtain rfl:=oI h; exact run_equalIn_bool' w (d+1) t _ _ hu
    · cases h
  · cases hx
    split at h
    · next hu=>obtain rfl:=oI h; cases hy <;> simp only [Op.equalIn,run_bind,am hu,andThen_ok,Sem.run_pure] <;> rfl
    · cases h
  · cases hy
    split at h
    · next hu=>obtain rfl:=oI h; cases hx <;> simp only [Op.equalIn,run_bind,am hu,andThen_ok,Sem.run_pure] <;> rfl
    · cases h
  · next a b'=>
    split at h
    · next e hu=>
      split at h
      · next hc=>
        obtain rfl:=oI h;obtain ⟨rfl,hs⟩:=hc;obtain ⟨sl,h1,_,_,rfl⟩:=hx.inv_pointer;obtain ⟨sl',h2,_,_,rfl⟩:=hy.inv_pointer;rw [h1] at h2;obtain rfl:=oI h2
        cases hn:al P e with
        | none=>simp [hn] at hs
        | some n=>exact pP (d+1) hu hn (by simpa [hn] using hs) _ w
      · cases h
    · cases h
  · cases hx
    split at h
    · next hu=>obtain rfl:=oI h; cases hy <;> simp only [Op.equalIn,run_bind,am hu,andThen_ok,Sem.run_pure] <;> rfl
    · cases h
  · cases hy
    split at h
    · next hu=>obtain rfl:=oI h; cases hx <;> simp only [Op.equalIn,run_bind,am hu,andThen_ok,Sem.run_pure] <;> rfl
    · cases h
  · cases hx
    split at h
    · next hu=>obtain rfl:=oI h; cases hy <;> simp only [Op.equalIn,run_bind,am hu,andThen_ok,Sem.run_pure] <;> rfl
    · cases h
  · cases hy
    split at h
    · next hu=>obtain rfl:=oI h; cases hx <;> simp only [Op.equalIn,run_bind,am hu,andThen_ok,Sem.run_pure] <;> rfl
    · cases h
  all_goals first
    | (cases hx <;> cases hy <;>
       (split at h
        · next hu=>obtain rfl:=oI h; simp only [Op.equalIn,run_bind,am hu,andThen_ok,Sem.run_pure]
        · cases h)
       done)
    | skip
  · obtain ⟨a',rfl,ha⟩:=hx.inv_agg
    obtain ⟨b',rfl,hb⟩:=hy.inv_agg;split at h
    · next fs hu=>
      split at h
      · next hc=>
        have hf:P.fieldsOf t=fs:=by simp [Program.fieldsOf,hu]
        rw [run_equalIn_struct w (d+1) t a' b' (by rw [hf]; exact hu) hc.1,hf];exact sS d w fs.toList 0 _ _ (by simp) (by simp) (rW fs.toList 0 h (ARel.toList.1 ha) (ARel.toList.1 hb))
      · cases h
    · cases h
  · cases h
theorem Er {t:TypeId}{x y x' y':Value}{b:Bool}(h:iu P t x y=some b)(hx:VRel β x x')(hy:VRel β y y')(w:World):(Op.equal t x' y').run P w = .ok b w:=
  zT h hx hy w 9998
theorem rS {t:TypeId}{x y x' y':Value}{b:Bool}(h:iu P t x y=some b)(hx:VRel β x x')(hy:VRel β y y')(op:BinOp)(xo yo:Operand)(w:World):
    (eqGuard op t xo yo x' y').run P w = .ok () w/\(binOp .eql t x' y').run P w = .ok (.bool b) w/\(binOp .neq t x' y').run P w = .ok (.bool !b) w:=by
  have he:=Er h hx hy w;unfold iu at h;split at h
  all_goals first
    | (cases h; done)
    | (obtain ⟨a',rfl,ha⟩:=hx.inv_agg
       obtain ⟨b',rfl,hb⟩:=hy.inv_agg;split at h
       · split at h
         · next hc=>exact ⟨run_eqGuard_agg w op t xo yo a' b' hc.2,by simp [binOp,he],by simp [binOp,he]⟩
         · cases h
       · cases h
       done)
    | (cases hx <;> cases hy <;> (refine ⟨?_,?_,?_⟩ <;> first | (simp only [binOp,run_bind,he,andThen_ok,Sem.run_pure]; done) | (cases op <;> rfl)))
theorem EG {op:BinOp}{t:TypeId}{xo yo:Operand}{x y x' y':Value}{v:Value}(h:ak P op t x y=some v)(hx:VRel β x x')(hy:VRel β y y')(w:World):
    (do eqGuard op t xo yo x' y'; binOp op t x' y':Sem Value).run P w = .ok v w/\VRel β v v:=by
  have h0:=h;unfold ak at h;split at h
  · next k a k' b=>
    cases hx.inv_int; cases hy.inv_int
    refine ⟨?_,?_⟩
    · have hg:(eqGuard op t xo yo (.int k a) (.int k' b)).run P w = .ok () w:=by cases op <;> rfl
      simp only [run_bind,hg,andThen_ok];exact Fc h0 w
    · clear h0
      cases op <;> simp only [] at h <;> first
        | (split at h
           · first
             | (obtain rfl:=oI h; exact .int _ _)
             | (obtain ⟨r,hr,rfl⟩:=map_eq_some_iff.1 h; exact .bool _)
             | (split at h
                · cases h
                · obtain rfl:=oI h; exact .int _ _)
           · cases h
           done)
  · next a b=>
    cases hx.inv_string; cases hy.inv_string
    refine ⟨?_,?_⟩
    · have hg:(eqGuard op t xo yo (.string a) (.string b)).run P w = .ok () w:=by cases op <;> rfl
      simp only [run_bind,hg,andThen_ok];have hb:binOp op t (.string a) (.string b)=Op.stringOp op a b:=by cases op <;> rfl
      rw [hb];exact DP h w
    · unfold CV at h
      cases op <;> simp only [] at h <;> first
        | (obtain rfl:=oI h; exact .bool _)
        | (split at h
           · obtain rfl:=oI h; exact .string _
           · cases h)
        | (cases h; done)
  · cases op <;> simp only [] at h <;> first
      | (cases h; done)
      | (obtain ⟨b,hb,rfl⟩:=map_eq_some_iff.1 h
         obtain ⟨hg,he,hn⟩:=rS hb hx hy .eql xo yo w;exact ⟨by simp only [run_bind,hg,andThen_ok]; exact he,.bool _⟩)
      | (obtain ⟨b,hb,rfl⟩:=map_eq_some_iff.1 h
         obtain ⟨hg,he,hn⟩:=rS hb hx hy .neq xo yo w;exact ⟨by simp only [run_bind,hg,andThen_ok]; exact hn,.bool _⟩)
theorem Ga {op:UnOp}{x x' v:Value}(h:xk op x=some v)(hx:VRel β x x')(w:World):(Op.unary op x').run P w = .ok v w/\VRel β v v:=by
  unfold xk at h;split at h
  · cases hx.inv_int; obtain rfl:=oI h; exact ⟨rfl,.int _ _⟩
  · cases hx.inv_int; obtain rfl:=oI h; exact ⟨rfl,.int _ _⟩
  · cases hx.inv_bool; obtain rfl:=oI h; exact ⟨rfl,.bool _⟩
  · cases h
end
section
variable {β:Inj} {P:Program}
def PRel (β:Inj)(l l':List (Nat×Value)):Prop:=l.map (·.1)=l'.map (·.1)/\LRel β (l.map (·.2)) (l'.map (·.2))
theorem PRel.inv_cons {p:Nat×Value}{l l':List (Nat×Value)}(h:PRel β (p::l) l'): ∃ v' r,l'=(p.1,v')::r/\VRel β p.2 v'/\PRel β l r:=by
 cases l' with
 | nil=>have:=h.1; simp at this
 | cons q r=>
  obtain ⟨h1,h2⟩:=h;simp only [List.map_cons,List.cons.injEq] at h1 h2;exact ⟨q.2,r,by rw [h1.1],h2.head,h1.2,h2.tail⟩
theorem PRel.inv_nil {l':List (Nat×Value)}(h:PRel β [] l'):l'=[]:=by
 have:=h.1; simp at this; exact this
theorem PRel.map {α:Type}(l:List α)(n:α->Nat){f f':α->Value}(h: ∀ x∈l,VRel β (f x) (f' x)):PRel β (l.map fun x=>(n x,f x)) (l.map fun x=>(n x,f' x)):=
 ⟨by simp [List.map_map,Function.comp_def],by simpa [List.map_map,Function.comp_def] using LRel.map l h⟩
theorem E6 {v:Value}(h:sV v=true):v≠Ab.junk:=by rintro rfl; cases h
theorem sd (off:Nat): ∀ (l l':List Value)(j:Nat)(cs cs':Array Value),LRel β l l'->ARel β cs cs'->
  ARel β ((l.zipIdx j).foldl (fun cs (c,j)=>cs.setIfInBounds (off+j) c) cs) ((l'.zipIdx j).foldl (fun cs (c,j)=>cs.setIfInBounds (off+j) c) cs')
 | [],l',j,cs,cs',h,hc=>by rw [h.inv_nil]; exact hc
 | v::l,l',j,cs,cs',h,hc=>by
  obtain ⟨v',r,rfl,hv,hr⟩:=h.inv_cons;simp only [List.zipIdx_cons,foldl_cons];refine sd off l r (j+1) _ _ hr ⟨by simp [hc.1],fun i a a' h1 h2=> ?_⟩;rw [Array.getElem?_setIfInBounds] at h1 h2;split at h1
  ·next he=>
   subst he;simp only [if_true] at h2;split at h1
   ·simp only [Option.some.injEq] at h1;subst h1;split at h2
    ·simp only [Option.some.injEq] at h2; subst h2; exact hv
    ·cases h2
   ·cases h1
  ·next he=>
   rw [if_neg he] at h2;exact hc.2 i a a' h1 h2
theorem nY (place:Nat->Option (Nat×Nat)): ∀ (l l':List (Nat×Value))(cs cs' r:Array Value),PRel β l l'->(∀ p∈l,sV p.2=true)->ARel β cs cs'->Instr.fill place cs l=some r->
  ∃ r',Instr.fill place cs' l'=some r'/\ARel β r r'
 | [],l',cs,cs',r,h,_,hc,hf=>by
  rw [h.inv_nil];simp only [Instr.fill] at hf ⊢;obtain rfl:=oI hf;exact ⟨cs',rfl,hc⟩
 | p::l,l',cs,cs',r,h,hj,hc,hf=>by
  obtain ⟨v',t,rfl,hv,ht⟩:=h.inv_cons;obtain ⟨i,v⟩:=p;have hcells:=hv.cells (E6 (hj _ List.mem_cons_self));simp only [Instr.fill] at hf ⊢
  cases hp:place i with
  | none=>simp [hp] at hf
  | some q=>
   obtain ⟨off,size⟩:=q;simp only [hp] at hf ⊢;dsimp only at hv hcells;rw [<-hcells.1,<-hc.1];split at hf
   ·cases hf
   ·next hs=>
    rw [if_neg hs];refine nY place l t _ _ r ht (fun p hp=>hj p (List.mem_cons_of_mem _ hp)) ?_ hf;have:=sd (β:=β) off v.cells.toList v'.cells.toList 0 cs cs' (ARel.toList.1 hcells) hc;rw [<-foldl_toList,<-foldl_toList];simpa [Array.toList_zipIdx] using this
theorem ARel.of_plain_cells {z:Value}(h:plain z=true):ARel β z.cells z.cells:=by
 have hz:VRel β z z:= .of_plain h;by_cases hj:z=Ab.junk
 ·subst hj; cases h
 ·exact hz.cells hj
theorem DV {t:TypeId}{parts parts':List (Nat×Value)}{v:Value}(h:aC P t parts=some v)(hp:PRel β parts parts')(w:World):
  ∃ v',(Instr.build t parts'.toArray).run P w = .ok v' w/\VRel β v v':=by
 unfold aC at h;split at h
 ·next z hz=>
  obtain ⟨hpl,i,hi,hzi⟩:=cH hz;split at h
  ·next hj=>
   obtain ⟨cs,hb,rfl⟩:=map_eq_some_iff.1 h;have hj': ∀ p∈parts,sV p.2=true:=all_eq_true.1 hj;have hcs:=ARel.of_plain_cells (β:=β) hpl;have key: ∃ cs',P.built t parts'=some cs'/\ARel β cs cs':=by
    unfold Program.built at hb ⊢;simp only [hi] at hb ⊢
    cases hu:P.underlying t with
    | none=>simp [hu] at hb
    | some d=>
     cases d <;> simp only [hu] at hb ⊢ <;> try (cases hb; done)
     ·next n e=>
      split at hb
      ·next z' ie he1 he2=>
       obtain rfl:z=z':=oI (hzi.symm.trans he1);exact nY _ _ _ _ _ _ hp hj' hcs hb
      ·cases hb
     ·next fs=>
      split at hb
      ·next z' pl he1 he2=>
       obtain rfl:z=z':=oI (hzi.symm.trans he1);exact nY _ _ _ _ _ _ hp hj' hcs hb
      ·cases hb
   obtain ⟨cs',hb',hr⟩:=key;exact ⟨.agg cs',run_build w t parts'.toArray cs' hb',.agg hr.1 hr.2⟩
  ·cases h
 ·cases h
theorem Ai {t:TypeId}{cs cs':Array Value}{off:Nat}{v:Value}(h:gI P t cs off=some v)(hc:ARel β cs cs')(w:World):
  ∃ v',(part t cs' off).run P w = .ok v' w/\VRel β v v':=by
 unfold gI at h
 cases hu:P.underlying t with
 | none=>simp [hu] at h
 | some d=>
 simp only [hu] at h;simp only [part,run_bind,lT hu,andThen_ok,run_ite];split at h
 ·next ha=>
  obtain ⟨n,hn,rfl⟩:=map_eq_some_iff.1 h;rw [if_pos ha];simp only [bP hn,andThen_ok,Sem.run_pure];refine ⟨_,rfl,.agg (by simp [hc.1]) fun i v v' h1 h2=> ?_⟩;simp only [Array.getElem?_extract] at h1 h2;rw [hc.1] at h1;split at h1
  ·next hi=>
   rw [if_pos hi] at h2;exact hc.2 _ v v' h1 h2
  ·cases h1
 ·next ha=>
  rw [if_neg ha];obtain ⟨v',hv',hr⟩:=hc.get h;exact ⟨v',by simp [hv'],hr⟩
theorem zp {src dst:TypeId}{x x' v:Value}(h:dd P src dst x=some v)(hx:VRel β x x')(w:World):(convert src dst x').run P w = .ok v w/\VRel β v v:=by
 unfold dd at h;split at h
 ·next d1 k k' n h1 h2=>
  cases hx.inv_int
  obtain rfl:=oI h;refine ⟨?_,.int _ _⟩;simp only [convert,run_bind,am h1,am h2,andThen_ok]
  cases d1 <;> rfl
 ·next d1 s h1 h2=>
  cases hx.inv_string
  obtain rfl:=oI h;refine ⟨?_,.string _⟩;simp only [convert,run_bind,am h1,am h2,andThen_ok]
  cases d1 <;> rfl
 ·next e h1 h2=>
  cases hx
  obtain rfl:=oI h;refine ⟨?_,.nilPtr⟩;simp only [convert,run_bind,am h1,am h2,andThen_ok,Conv.unsafePointer];rfl
 ·next e h1 h2=>
  cases hx
  obtain rfl:=oI h;refine ⟨?_,.nilPtr⟩;simp only [convert,run_bind,am h1,am h2,andThen_ok,Conv.unsafePointer];rfl
 ·cases h
theorem wu (mx:Bool): ∀ (l l':List Value)(x x' v:Value),VRel β x x'->LRel β l l'->jl mx (x::l)=some v->(∀ w:World,((l'.foldlM (if mx then Builtin.max2 else Builtin.min2) x':Sem Value)).run P w = .ok v w)/\VRel β v v\/(l=[]/\v=x)
 | [],l',x,x',v,hx,hl,h=>by
  simp only [jl,List.foldlM_nil,Option.pure_def,Option.some.injEq] at h;exact .inr ⟨rfl,h.symm⟩
 | y::l,l',x,x',v,hx,hl,h=>by
  left;obtain ⟨y',r,rfl,hy,hr⟩:=hl.inv_cons;simp only [jl,List.foldlM_cons,Option.bind_eq_bind] at h;split at h
  ·next k a k' b=>
   cases hx.inv_int; cases hy.inv_int
   split at h
   ·next hk=>
    subst hk;simp only [Option.bind_some] at h;have ih:=wu mx l r (.int k (if mx then if b > a then b else a else if b < a then b else a)) _ v (.int _ _) hr (by simpa [jl] using h);refine ⟨fun w=> ?_,?_⟩
    ·rw [List.foldlM_cons,run_bind];have h1:((if mx then Builtin.max2 else Builtin.min2) (.int k a) (.int k b)).run P w = .ok (.int k (if mx then if b > a then b else a else if b < a then b else a)) w:=by
      cases mx <;> rfl
     rw [h1,andThen_ok];rcases ih with ⟨ih,_⟩ | ⟨rfl,rfl⟩
     ·exact ih w
     ·rw [hr.inv_nil]; rfl
    ·rcases ih with ⟨_,ih⟩ | ⟨rfl,rfl⟩
     ·exact ih
     ·exact .int _ _
   ·simp at h
  ·simp at h
theorem dh {α:Type}{s:Sem α}{f:α->Next}{w w':World}{v:α}(h:s.run P w = .ok v w'):(do pure (f (<-s)):Sem Next).run P w = .ok (f v) w':=by
 simp [h]
theorem bu (b i n:Nat):(⟨b,i,none⟩:Addr).add n=⟨b,i+n,none⟩:=by
 unfold Addr.add;split
 ·next h=>subst h; rfl
 ·rfl
theorem rQ {a b a' b':Value}(h:VRel β a a')(h':VRel β b b'):VRel β (.tuple #[a,b]) (.tuple #[a',b']):=
 .tuple rfl fun i v v' h1 h2=>by
  match i,h1,h2 with
  | 0,h1,h2=>simp at h1 h2; subst h1; subst h2; exact h
  | 1,h1,h2=>simp at h1 h2; subst h1; subst h2; exact h'
  | i+2,h1,h2=>simp at h1
set_option maxHeartbeats 4000000 in
theorem j8 {ρ ρ':Operand->Value}(hρ: ∀ x,VRel β (ρ x) (ρ' x)){o:Oper}{v:Value}(h:bm P ρ o=some v)(w:World):
  ∃ v',(execOp ρ' o).run P w = .ok (.value v') w/\VRel β v v':=by
 unfold bm at h;unfold execOp;split at h
 ·next x ho=>obtain rfl:=oI h; simp only [ho]; exact ⟨_,rfl,hρ _⟩
 ·next x ho=>obtain rfl:=oI h; simp only [ho]; exact ⟨_,rfl,hρ _⟩
 ·next c a b ho=>
  simp only [ho];split at h
  ·next t ht=>
   have hc:=hρ c;rw [ht] at hc;obtain rfl:=oI h;refine ⟨if t then ρ' a else ρ' b,?_,?_⟩
   ·simp [hc.inv_bool,asBool]
   ·cases t
    ·exact hρ b
    ·exact hρ a
  ·cases h
 ·next t parts ho=>
  simp only [ho];obtain ⟨v',hr,hv⟩:=DV (parts':=parts.toList.map fun p=>(p.1,ρ' p.2)) h (PRel.map parts.toList (·.1) fun p _=>hρ p.2) w;refine ⟨v',?_,hv⟩;have he:(parts.toList.map fun p=>(p.1,ρ' p.2)).toArray=parts.map fun (i,x)=>(i,ρ' x):=by
   apply Array.ext'; simp
  rw [he] at hr;exact dh hr
 ·next x ho=>
  simp only [ho];have hx:=hρ x;split at h
  ·cases h
  ·cases h
  ·cases h
  ·cases h
  ·cases h
  ·next v0 h1 h2 h3 h4 h5=>
   obtain rfl:=oI h;refine ⟨ρ' x,?_,hx⟩;revert hx h1 h2 h3 h4 h5;generalize ρ x=a;generalize ρ' x=b;intro hx h1 h2 h3 h4 h5
   cases hx with
   | junk v=>exact absurd rfl (h5 _)
   | nilPtr=>exact absurd rfl h1
   | nilIface=>exact absurd rfl h2
   | nilFunc=>exact absurd rfl h3
   | @func fn a a' c c' ha hc ra rc=>cases fn <;> first | rfl | exact absurd rfl (h4 _ _ _)
   | _=>rfl
 ·next op t x y yt ho=>
  simp only [ho];obtain ⟨hr,hv⟩:=EG (xo:=x) (yo:=y) h (hρ x) (hρ y) w;exact ⟨v,dh hr,hv⟩
 ·next op t x ho=>
  simp only [ho];obtain ⟨hr,hv⟩:=Ga h (hρ x) w;exact ⟨v,dh hr,hv⟩
 ·next s d x ho=>
  simp only [ho];obtain ⟨hr,hv⟩:=zp h (hρ x) w;exact ⟨v,dh hr,hv⟩
 ·next t x ho=>
  simp only [ho];split at h
  ·cases h
  ·cases h
  ·next d hn1 hu=>
   obtain rfl:=oI h;refine ⟨.iface t (ρ' x),dh ?_,.iface t (hρ x)⟩;simp only [Instr.makeInterface,run_bind,am hu,andThen_ok]
   cases d <;> first | rfl | exact absurd rfl (hn1 _)
 ·next fn first captured ho=>
  simp only [ho];split at h
  ·cases h
  ·next hfn=>
   obtain rfl:=oI h;refine ⟨.func fn (first.map ρ') (captured.map ρ'),rfl,.func (by cases fn <;> first | rfl | exact absurd rfl (hfn _)) (by simp) (by simp) ?_ ?_⟩
   ·intro i a a' h1 h2;simp only [Array.getElem?_map,map_eq_some_iff] at h1 h2;obtain ⟨p,hp,rfl⟩:=h1;obtain ⟨q,hq,rfl⟩:=h2;rw [hp] at hq; obtain rfl:=oI hq;exact hρ p
   ·intro i a a' h1 h2;simp only [Array.getElem?_map,map_eq_some_iff] at h1 h2;obtain ⟨p,hp,rfl⟩:=h1;obtain ⟨q,hq,rfl⟩:=h2;rw [hp] at hq; obtain rfl:=oI hq;exact hρ p
 ·next s x f ho=>
  simp only [ho];have hx:=hρ x;split at h
  ·next fields a hu ha=>
   rw [ha] at hx;obtain ⟨sl,h1,hm,hs,he⟩:=hx.inv_pointer;split at h
   ·next fd hf=>
    split at h
    ·next hn=>
     obtain rfl:=oI h
     cases hsz:al P fd.type with
     | none=>simp [hsz] at hn
     | some n=>
      have h0:n≠0:=by simpa [hsz] using hn
      refine ⟨.pointer (some ((⟨sl.b,sl.s+a.off,none⟩:Addr).add fd.offset)),dh ?_,?_⟩
      ·simp only [Instr.fieldAt,run_bind,am hu,andThen_ok,hf,he,Instr.sureAddr,Sem.run_pure,fieldPlace,bP hsz,run_ite];rw [if_neg h0]; rfl
      ·obtain ⟨ab,ao,asp⟩:=a;simp only at hs h1; subst hs;rw [bu,bu,add_assoc];exact .ptr h1 hm
    ·cases h
   ·cases h
  ·cases h
 ·next t x f ho=>
  simp only [ho];have hx:=hρ x;split at h
  ·next fields cs hu ha=>
   rw [ha] at hx;obtain ⟨cs',he,hc⟩:=hx.inv_agg;split at h
   ·next fd hf=>
    obtain ⟨v',hr,hv⟩:=Ai h hc w;refine ⟨v',dh ?_,hv⟩;simp only [Instr.field,run_bind,am hu,andThen_ok,hf,he,asAgg,Sem.run_pure,hr]
   ·cases h
  ·cases h
 ·next t x i ho=>
  simp only [ho];have hx:=hρ x;have hi:=hρ i;split at h
  ·next len e a k j hu ha hj=>
   rw [ha] at hx;rw [hj] at hi;obtain ⟨sl,h1,hm,hs,he⟩:=hx.inv_pointer;split at h
   ·next n hn=>
    split at h
    ·next hr=>
     obtain rfl:=oI h;refine ⟨.pointer (some ((⟨sl.b,sl.s+a.off,none⟩:Addr).add (j.toNat*n))),dh ?_,?_⟩
     ·simp only [Instr.indexAt,run_bind,hi.inv_int,asIntOf,Sem.run_pure,andThen_ok,am hu,he,Instr.sureAddr,bP hn,run_ite];rw [if_pos hr]
     ·obtain ⟨ab,ao,asp⟩:=a;simp only at hs h1; subst hs;rw [bu,bu,add_assoc];exact .ptr h1 hm
    ·cases h
   ·cases h
  ·next e a len c k j hu ha hj=>
   rw [ha] at hx;rw [hj] at hi;obtain ⟨ab,ao,asp⟩:=a;split at h
   ·next n hn=>
    split at h
    ·next hr=>
     obtain rfl:=oI h;have hsp0:asp=none:=by
      rcases hx.inv_sliceA with ⟨k',i',e⟩ | ⟨_,hn0,_⟩
      ·injection e
      ·exact absurd hr (by omega)
     subst hsp0;obtain ⟨sl,i',c',h1,hm,hsp,he,hx1,ho1,hn1,hi1,hz1⟩:=hx.inv_slice
     ·clear hsp;have hii:i'=sl.s+ao:=by rcases hi1 with hi1 | hi1; exact hi1; exact absurd hi1.1 (by omega)
      subst hii;refine ⟨.pointer (some ((⟨sl.b,sl.s+ao,none⟩:Addr).add (j.toNat*n))),dh ?_,?_⟩
      ·simp only [Instr.indexAt,run_bind,hi.inv_int,asIntOf,Sem.run_pure,andThen_ok,am hu,he,bP hn,run_ite];rw [if_pos hr]
      ·rw [bu,bu,add_assoc];exact .ptr h1 hm
    ·cases h
   ·cases h
  ·cases h
 ·next t x i ho=>
  simp only [ho];have hx:=hρ x;have hi:=hρ i;split at h
  ·next len e cs k j hu ha hj=>
   rw [ha] at hx;rw [hj] at hi;obtain ⟨cs',he,hc⟩:=hx.inv_agg;split at h
   ·next n hn=>
    split at h
    ·next hr=>
     obtain ⟨v',hp,hv⟩:=Ai h hc w;refine ⟨v',dh ?_,hv⟩;simp only [Instr.index,run_bind,hi.inv_int,asIntOf,Sem.run_pure,andThen_ok,am hu,he,bP hn,run_ite,hp];rw [if_pos hr]
    ·cases h
   ·cases h
  ·next s k j hu ha hj=>
   rw [ha] at hx;rw [hj] at hi;split at h
   ·next hr=>
    split at h
    ·next b hb=>
     obtain rfl:=oI h;refine ⟨_,dh ?_,.int _ _⟩;have hb':s[j.toNat]?=some b:=by
      rw [getElem?_toList] at hb;exact hb
     simp only [Instr.index,run_bind,hi.inv_int,asIntOf,Sem.run_pure,andThen_ok,am hu,hx.inv_string];rw [if_pos hr,hb'];rfl
    ·cases h
   ·cases h
  ·cases h
 ·next x xt u ok ho=>
  simp only [ho];have hx:=hρ x;split at h
  ·cases h
  ·cases h
  ·next d hn1 hu ha=>
   rw [ha] at hx;split at h
   ·next hok=>
    obtain ⟨z,hz,rfl⟩:=map_eq_some_iff.1 h;refine ⟨.tuple #[z,.bool false],dh ?_,rQ (.of_plain (cH hz).1) (.bool _)⟩;simp only [Instr.typeAssert,run_bind,am hu,andThen_ok,hx.inv_nilIface]
    cases d <;> first
     | exact absurd rfl (hn1 _)
     | (rw [if_pos hok]; simp [iD hz])
   ·cases h
  ·next d t v1 hn1 hu ha=>
   rw [ha] at hx;obtain ⟨v2,he,hv⟩:=hx.inv_iface;split at h
   ·next htu=>
    obtain rfl:=oI h;refine ⟨if ok then .tuple #[v2,.bool true] else v2,dh ?_,?_⟩
    ·simp only [Instr.typeAssert,run_bind,am hu,andThen_ok,he]
     cases d <;> first
      | exact absurd rfl (hn1 _)
      | (rw [if_pos htu]; rfl)
    ·cases ok
     ·exact hv
     ·exact rQ hv (.bool _)
   ·next htu=>
    split at h
    ·next hok=>
     obtain ⟨z,hz,rfl⟩:=map_eq_some_iff.1 h;refine ⟨.tuple #[z,.bool false],dh ?_,rQ (.of_plain (cH hz).1) (.bool _)⟩;simp only [Instr.typeAssert,run_bind,am hu,andThen_ok,he]
     cases d <;> first
      | exact absurd rfl (hn1 _)
      | (rw [if_neg htu,if_pos hok]; simp [iD hz])
    ·cases h
  ·cases h
 ·next x i ho=>
  simp only [ho];have hx:=hρ x;split at h
  ·next vs ha=>
   rw [ha] at hx;obtain ⟨vs',he,hc⟩:=hx.inv_tuple;obtain ⟨v',hv',hr⟩:=hc.get h;exact ⟨v',dh (by simp [Instr.extract,he,hv']),hr⟩
  ·cases h
 ·next args ats ho=>
  simp only [ho];have hl:LRel β (args.toList.map ρ) (args.toList.map ρ'):=LRel.map _ fun x _=>hρ x;have he:(args.map ρ').toList=args.toList.map ρ':=by simp
  revert hl h;generalize args.toList.map ρ=l;generalize hg:args.toList.map ρ'=l';intro h hl
  cases l with
  | nil=>simp [jl] at h
  | cons x l=>
   obtain ⟨x',r,rfl,hx,hr⟩:=hl.inv_cons;rcases wu true l r x x' v hx hr h with ⟨h1,h2⟩ | ⟨rfl,rfl⟩
   ·exact ⟨v,by
     simp only [resolve,run_bind,Sem.run_pure,andThen_ok,invoke,builtin,Builtin.max_,he,hg];have:=h1 w;simp only [if_true] at this;rw [this]; rfl,h2⟩
   ·exact ⟨x',by
     rw [hr.inv_nil] at hg;simp only [resolve,run_bind,Sem.run_pure,andThen_ok,invoke,builtin,Builtin.max_,he,hg];rfl,hx⟩
 ·next args ats ho=>
  simp only [ho];have hl:LRel β (args.toList.map ρ) (args.toList.map ρ'):=LRel.map _ fun x _=>hρ x;have he:(args.map ρ').toList=args.toList.map ρ':=by simp
  revert hl h;generalize args.toList.map ρ=l;generalize hg:args.toList.map ρ'=l';intro h hl
  cases l with
  | nil=>simp [jl] at h
  | cons x l=>
   obtain ⟨x',r,rfl,hx,hr⟩:=hl.inv_cons;rcases wu false l r x x' v hx hr h with ⟨h1,h2⟩ | ⟨rfl,rfl⟩
   ·exact ⟨v,by
     simp only [resolve,run_bind,Sem.run_pure,andThen_ok,invoke,builtin,Builtin.min_,he,hg];have:=h1 w;simp only [false_eq_true,if_false] at this;rw [this]; rfl,h2⟩
   ·exact ⟨x',by
     rw [hr.inv_nil] at hg;simp only [resolve,run_bind,Sem.run_pure,andThen_ok,invoke,builtin,Builtin.min_,he,hg];rfl,hx⟩
 ·next args ats ho=>
  simp only [ho];split at h
  ·next x t hx ht=>
   split at h
   ·next e a n c hu ha=>
    split at h
    ·next hc=>
     obtain rfl:=oI h;have hxr:=hρ x;rw [ha] at hxr;have key: ∃ a' ,ρ' x = .slice a' n c:=by
      cases a with
      | none=>obtain ⟨rfl,rfl,he⟩:=hxr.inv_nilSlice; exact ⟨none,he⟩
      | some a=>
       rcases hxr.inv_sliceA with ⟨k',i',rfl⟩ | ⟨rfl,rfl,rfl,a',he⟩
       ·obtain ⟨sl,i',c',_,_,_,he,hx1,_⟩:=hxr.inv_slice;rw [hx1 hc] at he;exact ⟨_,he⟩
       ·exact ⟨_,he⟩
     obtain ⟨a',he⟩:=key;refine ⟨.int .i64 c,?_,.int _ _⟩;have h0:(args.map ρ')[0]?=some (.slice a' n c):=by simp [hx,he]
     simp only [resolve,run_bind,Sem.run_pure,andThen_ok,invoke,builtin,Builtin.cap_,ht,h0,am hu];rfl
    ·cases h
   ·cases h
  ·cases h
 ·cases h
end
section
variable {β:Inj} {P:Program}
def Blk.wr:Blk->Bool
 | .cells _ _ _ wr=>wr
 | .map _=>true
 | .loop .. =>true
def H1 (fr:Nat×Nat)(n:Nat):Prop:= ∀ x,fr.1<=x->x < fr.2->n<=x
def ERel (β:Inj)(es:List (Value×Value))(es':List MapEntry):Prop:=
 es.length=es'.length/\ ∀ (i:Nat) p e,es[i]?=some p->es'[i]?=some e->VRel β p.1 e.key/\VRel β p.2 e.val
def CellsAt (β:Inj)(cs:List Value)(s:Nat)(cs':Array Value):Prop:= ∀ (i:Nat) v,cs[i]?=some v-> ∃ v',cs'[s+i]?=some v'/\VRel β v v'
def Br:LSt->LoopState->Option Code->Prop
 | .ready,s,j=>s = .ready/\j=none
 | .busy,s,_=>s = .busy
 | .ret,s,j=>s = .done/\j=some .ret
 | .exit id,s,j=>s = .done/\j=some (.exit id)
def BRel (β:Inj)(B:Blk)(sl:Slot)(w:World):Prop:=
 match B with
 | .cells cs t sz wr=>sl.isMap=false/\sl.t=t/\(sl.sz=sz/\(sz=0->sl.s=0))/\ ∃ cs' fr,w.heap[sl.b]?=some (.cells cs' t fr)/\cs'.size=sl.n/\CellsAt β cs sl.s cs'/\(wr=true->H1 fr cs'.size)
 | .map es=>sl.isMap=true/\ ∃ es' clock,w.heap[sl.b]?=some (.map es' clock)/\ERel β es es'.toList
 | .loop st tm ps asg body _=>sl.isMap=true/\ ∃ r:Loop,w.heap[sl.b]?=some (.loop r)/\Br st r.state r.pending/\LRel β tm r.tmps.toList/\r.params.toList=ps/\r.assign=asg/\r.body=body
structure Sim (β:Inj)(h:Heap)(w:World):Prop where
 lt: ∀ k sl,β k=some sl->k < h.next/\sl.b < w.heap.size
 blk: ∀ k B sl,h.get k=some B->β k=some sl->BRel β B sl w
 own: ∀ k k' B B' sl sl',k≠k'->h.get k=some B->h.get k'=some B'->β k=some sl->β k'=some sl'->B.wr=true->sl.b≠sl'.b
 wf: ∀ k B,h.get k=some B->k < h.next
theorem ERel.mono {β β':Inj}(hβ:β.le β'){es:List (Value×Value)}{es':List MapEntry}(h:ERel β es es'):ERel β' es es':=
 ⟨h.1,fun i p e h1 h2=>⟨(h.2 i p e h1 h2).1.mono hβ,(h.2 i p e h1 h2).2.mono hβ⟩⟩
theorem CellsAt.mono {β β':Inj}(hβ:β.le β'){cs:List Value}{s:Nat}{cs':Array Value}(h:CellsAt β cs s cs'):CellsAt β' cs s cs':=
 fun i v hv=>let ⟨v',h1,h2⟩:=h i v hv; ⟨v',h1,h2.mono hβ⟩
theorem BRel.mono {β β':Inj}(hβ:β.le β'){B:Blk}{sl:Slot}{w:World}(h:BRel β B sl w):BRel β' B sl w:=by
 cases B with
 | cells cs t sz wr=>
  obtain ⟨h1,h2,h3,cs',fr,h4,h5,h6,h7⟩:=h;exact ⟨h1,h2,h3,cs',fr,h4,h5,h6.mono hβ,h7⟩
 | map es=>
  obtain ⟨h1,es',clock,h2,h3⟩:=h;exact ⟨h1,es',clock,h2,h3.mono hβ⟩
 | loop st tm ps asg body ok=>
  obtain ⟨h1,r,h2,h3,h4,h5⟩:=h;exact ⟨h1,r,h2,h3,h4.mono hβ,h5⟩
theorem BRel.of_heap {B:Blk}{sl:Slot}{w w':World}(h:BRel β B sl w)(he:w'.heap[sl.b]?=w.heap[sl.b]?):BRel β B sl w':=by
 cases B with
 | cells cs t sz wr=>
  obtain ⟨h1,h2,h3,cs',fr,h4,h5,h6,h7⟩:=h;exact ⟨h1,h2,h3,cs',fr,by rw [he]; exact h4,h5,h6,h7⟩
 | map es=>
  obtain ⟨h1,es',clock,h2,h3⟩:=h;exact ⟨h1,es',clock,by rw [he]; exact h2,h3⟩
 | loop st tm ps asg body ok=>
  obtain ⟨h1,r,h2,h3⟩:=h;exact ⟨h1,r,by rw [he]; exact h2,h3⟩
theorem gQ {w:World}{b i:Nat}{cs:Array Value}{t:TypeId}{fr:Nat×Nat}(h:w.heap[b]?=some (.cells cs t fr)):w.cell? ⟨b,i,none⟩=cs[i]?:=by
 simp [World.cell?,h]
theorem Sim.row {h:Heap}{w:World}(hs:Sim β h w){k:Nat}{cs:List Value}{t:TypeId}{sz:Nat}{wr:Bool}{sl:Slot}(hk:h.get k=some (.cells cs t sz wr))(hb:β k=some sl):
  sl.isMap=false/\sl.t=t/\sl.sz=sz/\ ∃ cs' fr,w.heap[sl.b]?=some (.cells cs' t fr)/\cs'.size=sl.n/\CellsAt β cs sl.s cs'/\(wr=true->H1 fr cs'.size):=
 let ⟨h1,h2,h3,h4⟩:=hs.blk k _ sl hk hb; ⟨h1,h2,h3.1,h4⟩
theorem Sim.row0 {h:Heap}{w:World}(hs:Sim β h w){k:Nat}{cs:List Value}{t:TypeId}{wr:Bool}{sl:Slot}(hk:h.get k=some (.cells cs t 0 wr))(hb:β k=some sl):sl.s=0:=
 let ⟨_,_,h3,_⟩:=hs.blk k _ sl hk hb; h3.2 rfl
theorem mo {w:World}{b s:Nat}{cs:List Value}{cs':Array Value}{t:TypeId}{fr:Nat×Nat}(hw:w.heap[b]?=some (.cells cs' t fr))(hc:CellsAt β cs s cs')(i n:Nat)(hl:((cs.drop i).take n).length=n):
  ∃ l',(loadCells ⟨b,s+i,none⟩ n).run P w = .ok l'.toArray w/\LRel β ((cs.drop i).take n) l':=by
 have hlen:i+n<=cs.length\/n=0:=by
  simp only [List.length_take,List.length_drop] at hl; omega
 have hget: ∀ j,j < n-> ∃ v v',cs[i+j]?=some v/\cs'[s+(i+j)]?=some v'/\VRel β v v':=by
  intro j hj;have hlt:i+j < cs.length:=by omega
  obtain ⟨v',h1,h2⟩:=hc (i+j) _ (gE hlt);exact ⟨_,v',gE hlt,h1,h2⟩
 refine ⟨(List.range n).map fun j=>cs'.getD (s+(i+j)) undef,?_,?_,?_⟩
 ·refine run_loadCells w ⟨b,s+i,none⟩ n _ fun j hj=> ?_;obtain ⟨v,v',_,h2,_⟩:=hget j hj;rw [bu,gQ hw,show s+i+j=s+(i+j) by omega,h2];simp [Array.getD_eq_getD_getElem?,h2]
 ·simp [hl]
 ·intro j v v' h1 h2;simp only [getElem?_map,map_eq_some_iff] at h2;obtain ⟨j',hj',rfl⟩:=h2;rw [getElem?_take,getElem?_drop] at h1;split at h1
  ·next hj=>
   rw [List.getElem?_range hj] at hj';obtain rfl:=oI hj';obtain ⟨u,u',e1,e2,e3⟩:=hget j hj;rw [e1] at h1;obtain rfl:=oI h1;simpa [Array.getD_eq_getD_getElem?,e2] using e3
  ·cases h1
theorem xw {h:Heap}{w:World}(hs:Sim β h w){t:TypeId}{a a' v:Value}(hl:ah P t h a=some v)(ha:VRel β a a'):
  ∃ ad,a' = .pointer (some ad)/\ ∃ v',(loadVar t ad).run P w = .ok v' w/\VRel β v v':=by
 unfold ah at hl;split at hl
 ·next d k i hu=>
  obtain ⟨sl,hb,hm,rfl⟩:=ha.inv_ptr;refine ⟨_,rfl,?_⟩;split at hl
  ·next cs t' sz wr hk=>
   obtain ⟨_,_,_,cs',fr,hw,hn,hc,_⟩:=hs.row hk hb;simp only [loadVar,run_bind,lT hu,andThen_ok,run_ite];split at hl
   ·next hag=>
    rw [if_pos hag];split at hl
    ·next n hsz=>
     split at hl
     ·next hlen=>
      obtain rfl:=oI hl;obtain ⟨l',hr,hrel⟩:=mo (P:=P) hw hc i n hlen;refine ⟨.agg l'.toArray,by simp [bP hsz,hr],.agg (by simpa using hrel.1) fun j v v' h1 h2=>hrel.2 j v v' (by simpa using h1) (by simpa using h2)⟩
     ·cases hl
    ·cases hl
   ·next hag=>
    rw [if_neg hag];obtain ⟨v',h1,h2⟩:=hc i v hl;exact ⟨v',by simp [run_load,gQ hw,h1],h2⟩
  ·cases hl
 ·cases hl
theorem AN (s:ByteArray)(l h:Nat):(⟨((s.data.toList.drop l).take (h - l)).toArray⟩:ByteArray)=s.extract l h:=by
 apply th;simp [ByteArray.data_extract,Array.toList_extract]
def OVRel (β:Inj)(x x':Option Value):Prop:=match x,x' with | none,none=>True | some v,some v'=>VRel β v v' | _,_=>False
theorem OVRel.map {ρ ρ':Operand->Value}(hρ: ∀ x,VRel β (ρ x) (ρ' x))(x:Option Operand):OVRel β (x.map ρ) (x.map ρ'):=by
 cases x with
 | none=>trivial
 | some x=>exact hρ x
theorem OVRel.none_ {x':Option Value}(h:OVRel β none x'):x'=none:=by cases x' with | none=>rfl | some _=>exact h.elim
theorem OVRel.some_ {v:Value}{x':Option Value}(h:OVRel β (some v) x'): ∃ v',x'=some v'/\VRel β v v':=by cases x' with | none=>exact h.elim | some v'=>exact ⟨v',rfl,h⟩
theorem gr {x x':Option Value}{d:Nat}{n:Int}(h:bZ x d=some n)(hx:OVRel β x x'):
  (x=none/\x'=none/\n=d)\/ ∃ k,x=some (.int k n)/\x'=some (.int k n):=by
 cases x with
 | none=>simp only [bZ,Option.some.injEq] at h; exact .inl ⟨rfl,hx.none_,h.symm⟩
 | some v=>
  obtain ⟨v',rfl,hv⟩:=hx.some_
  cases v with
  | int k m=>simp only [bZ,Option.some.injEq] at h; subst h; exact .inr ⟨k,rfl,by rw [hv.inv_int]⟩
  | _=>simp [bZ] at h
theorem eH {k:IntKind}{n:Int}{y:Nat}{c:BoundsCode}(h0:0<=n)(h1:n<=y)(w:World):(Instr.sliceBound (.int k n) y c).run P w = .ok n.toNat w:=by
 simp only [Instr.sliceBound,run_bind,asIntOf,Sem.run_pure,andThen_ok,run_ite];rw [if_pos ⟨h0,h1⟩]
theorem i6 {isS:Bool}{len cap:Nat}{lo hi lo' hi':Option Value}{l r:Int}(hl:bZ lo 0=some l)(hh:bZ hi len=some r)
  (hxl:OVRel β lo lo') (hxh:OVRel β hi hi')
  (h0:0<=l) (h1:l<=r) (h2:r<=cap) (w:World):(Instr.sliceBounds isS len cap lo' hi' none).run P w = .ok (l.toNat,r.toNat,cap) w:=by
 unfold Instr.sliceBounds;rcases gr hh hxh with ⟨rfl,rfl,rfl⟩ | ⟨k,rfl,rfl⟩
 ·rcases gr hl hxl with ⟨rfl,rfl,rfl⟩ | ⟨k',rfl,rfl⟩
  ·simp
  ·simp only [run_bind,Sem.run_pure,andThen_ok];rw [eH h0 h1];simp
 ·rcases gr hl hxl with ⟨rfl,rfl,rfl⟩ | ⟨k',rfl,rfl⟩
  ·simp only [run_bind,Sem.run_pure,andThen_ok];rw [eH (by omega) h2];simp
  ·simp only [run_bind,Sem.run_pure,andThen_ok];rw [eH (by omega) h2];simp only [andThen_ok];rw [eH h0 (by omega)];simp
theorem yW {len cap:Nat}{lo hi lo' hi':Option Value}{l r m:Int}{k:IntKind}(hl:bZ lo 0=some l)(hh:bZ hi len=some r)(hne:hi≠none)
  (hxl:OVRel β lo lo') (hxh:OVRel β hi hi')
  (h0:0<=l) (h1:l<=r) (h2:r<=m) (h3:m<=cap) (w:World):(Instr.sliceBounds true len cap lo' hi' (some (.int k m))).run P w = .ok (l.toNat,r.toNat,m.toNat) w:=by
 unfold Instr.sliceBounds;rcases gr hh hxh with ⟨rfl,rfl,rfl⟩ | ⟨k',rfl,rfl⟩
 ·exact absurd rfl hne
 ·rcases gr hl hxl with ⟨rfl,rfl,rfl⟩ | ⟨k'',rfl,rfl⟩
  ·simp only [run_bind];rw [eH (by omega) h3];simp only [andThen_ok];rw [eH (by omega) (by omega)];simp
  ·simp only [run_bind];rw [eH (by omega) h3];simp only [andThen_ok];rw [eH (by omega) (by omega)];simp only [andThen_ok];rw [eH h0 (by omega)];simp
theorem DR {h:Heap}{w:World}(hs:Sim β h w){t:TypeId}{x x' v:Value}{lo hi mx lo' hi' mx':Option Value}(hv:bh P t x lo hi mx h=some v)(hx:VRel β x x')
  (hlo:OVRel β lo lo') (hhi:OVRel β hi hi') (hmx:OVRel β mx mx'): ∃ v',(Instr.sliceAt t x' lo' hi' mx').run P w = .ok v' w/\VRel β v v':=by
 unfold bh at hv;split at hv
 ·next s=>
  cases hx.inv_string
  split at hv
  ·next hu=>
   split at hv
   ·next _ l r hl hh=>
    split at hv
    ·next hc=>
     obtain rfl:=oI hv;have hmx':mx'=none:=hmx.none_;subst hmx';refine ⟨.string (s.extract l.toNat r.toNat),?_,?_⟩
     ·have hsz:s.size=s.data.toList.length:=by simp
      simp only [Instr.sliceAt,run_bind,am hu,andThen_ok,Instr.slice];simp only [Option.isSome_none,false_eq_true,if_false,run_bind,Sem.run_pure];rw [hsz,i6 hl hh hlo hhi hc.1 hc.2.1 hc.2.2];simp
     ·rw [aa,show (r - l).toNat=r.toNat - l.toNat by omega,AN];exact .string _
    ·cases hv
   ·cases hv
  ·cases hv
 ·split at hv
  ·next e hu=>
   split at hv
   ·next n hl hh hsz=>
    obtain rfl:=oI hv;obtain ⟨_,_,rfl⟩:=hx.inv_nilSlice;have hmx':mx'=none:=hmx.none_;subst hmx';refine ⟨.slice none 0 0,?_,.nilSlice⟩;simp only [Instr.sliceAt,run_bind,am hu,andThen_ok,Instr.slice];rw [i6 hl hh hlo hhi (by omega) (by omega) (by omega)];simp [bP hsz]
   ·cases hv
  ·cases hv
 ·next k i len cap=>
  split at hv
  ·next e hu=>
   split at hv
   ·next l r sz cs t' sz' wr hl hh hsz hk=>
    split at hv
    ·next hszz=>
     obtain ⟨sl,i',c',hb,hm,_,rfl,hx1,ho1,hn1,hi1,hz1⟩:=hx.inv_slice;obtain ⟨_,_,hslz,_⟩:=hs.row hk hb;have hcap:aI cap<=c':=by
      unfold aI; split
      ·next hc=>exact ho1 hc
      ·next hc=>rw [hx1 (by omega)]; exact le_refl _
     split at hv
     ·split at hv
      ·next hc=>
       obtain rfl:=oI hv;have hmx':mx'=none:=hmx.none_;subst hmx';have hlc:l.toNat<=c':=by omega
       refine ⟨.slice (if c'=l.toNat then some ⟨sl.b,i',none⟩ else some ⟨sl.b,i'+l.toNat*sz,none⟩) (r - l).toNat (c' - l.toNat),?_,?_⟩
       ·simp only [Instr.sliceAt,run_bind,am hu,andThen_ok,Instr.slice];rw [i6 hl hh hlo hhi hc.1 hc.2.1 (by omega)];simp only [andThen_ok,bP hsz,Sem.run_pure,map_some,bu];rw [show r.toNat - l.toNat=(r - l).toNat by omega]
       ·by_cases hcl:c'=l.toNat
        ·rw [if_pos hcl];refine .slice hb hm ?_ ?_ ?_ (.inr ⟨by omega,by omega⟩) ?_
         ·intro hlt;by_cases hco:cap < bj
          ·have:=hx1 hco; omega
          ·have:=ho1 (by omega); have h5:aI cap=cap - bj:=by unfold aI; rw [if_pos (by omega)]
           omega
         ·intro hge;have hco:bj<=cap:=by omega
          have:=ho1 hco;omega
         ·have:(r - l).toNat=0:=by omega
          omega
         ·rcases hz1 with hz1 | hz1
          ·exact .inl hz1
          ·right; rw [show c' - l.toNat=0 by omega]; simp; exact le_trans (Nat.le_add_right _ _) hz1
        ·rw [if_neg hcl];have hi2:i'=sl.s+i:=by rcases hi1 with h1 | ⟨h1,h2⟩; exact h1; exact absurd h2 (by omega)
         refine .slice hb hm ?_ ?_ ?_ (.inl (by omega)) ?_
         ·intro hlt;by_cases hco:cap < bj
          ·have:=hx1 hco; omega
          ·have:=ho1 (by omega); have h5:aI cap=cap - bj:=by unfold aI; rw [if_pos (by omega)]
           omega
         ·intro hge;have hco:bj<=cap:=by omega
          have:=ho1 hco;omega
         ·by_cases hco:cap < bj
          ·have h5:aI cap=cap:=by unfold aI; rw [if_neg (by omega)]
           have h6:aI (cap - l.toNat)=cap - l.toNat:=by unfold aI; rw [if_neg (by omega)]
           omega
          ·have h5:aI cap=cap - bj:=by unfold aI; rw [if_pos (by omega)]
           have h6:aI (cap - l.toNat)=cap - l.toNat - bj:=by unfold aI; rw [if_pos (by omega)]
           omega
         ·rcases hszz with e1 | e1
          ·rcases hz1 with hz1 | hz1
           ·exact .inl hz1
           ·right;subst e1; rw [<-hslz];rw [Nat.sub_mul];have:l.toNat*sl.sz<=c'*sl.sz:=Nat.mul_le_mul_right _ hlc;omega
          ·exact .inl (by omega)
      ·cases hv
     ·next k m=>
      split at hv
      ·next hc=>
       obtain rfl:=oI hv;obtain ⟨h0,h1,h2,h3,h4,h5⟩:=hc;obtain ⟨vm,rfl,hvm⟩:=hmx.some_
       cases hvm.inv_int
       have hne:hi≠none:=by intro e; subst e; cases h5
       have hmc:m.toNat<=c':=by omega
       refine ⟨.slice (if m.toNat=l.toNat then some ⟨sl.b,i',none⟩ else some ⟨sl.b,i'+l.toNat*sz,none⟩) (r - l).toNat (m.toNat - l.toNat),?_,?_⟩
       ·simp only [Instr.sliceAt,run_bind,am hu,andThen_ok,Instr.slice];rw [yW hl hh hne hlo hhi h0 h1 h2 (by omega)];simp only [andThen_ok,bP hsz,Sem.run_pure,map_some,bu];rw [show r.toNat - l.toNat=(r - l).toNat by omega]
       ·have hcm:aI (m - l).toNat=(m - l).toNat:=by unfold aI; rw [if_neg (by omega)]
        by_cases hcl:m.toNat=l.toNat
        ·rw [if_pos hcl];refine .slice hb hm (by omega) (by omega) (by omega) (.inr ⟨by omega,by omega⟩) ?_;rcases hz1 with hz1 | hz1
         ·exact .inl hz1
         ·right; rw [show m.toNat - l.toNat=0 by omega]; simp; exact le_trans (Nat.le_add_right _ _) hz1
        ·rw [if_neg hcl];have hi2:i'=sl.s+i:=by rcases hi1 with h1 | ⟨h1,h2⟩; exact h1; exact absurd h2 (by omega)
         refine .slice hb hm (by omega) (by omega) (by omega) (.inl (by omega)) ?_;rcases hszz with e1 | e1
         ·rcases hz1 with hz1 | hz1
          ·exact .inl hz1
          ·right;subst e1; rw [<-hslz];have e2:l.toNat*sl.sz+(m.toNat - l.toNat)*sl.sz=m.toNat*sl.sz:=by rw [<-add_mul]; congr 1; omega
           have:m.toNat*sl.sz<=c'*sl.sz:=Nat.mul_le_mul_right _ hmc;omega
         ·exact .inl (by omega)
      ·cases hv
     ·cases hv
    ·cases hv
   ·cases hv
  ·cases hv
 ·next k i=>
  obtain ⟨sl,hb,hm,rfl⟩:=hx.inv_ptr;split at hv
  ·next n e hu=>
   split at hv
   ·next _ l r sz cs t' wr hl hh hsz hk=>
    split at hv
    ·next hc=>
     obtain ⟨h0,h1,h2,h3⟩:=hc;obtain rfl:=oI hv;have hmx':mx'=none:=hmx.none_;subst hmx';obtain ⟨_,_,hslz,_⟩:=hs.row hk hb;have hcm:aI (n - l.toNat)=n - l.toNat:=by unfold aI; rw [if_neg (by omega)]
     refine ⟨.slice (some (if n=l.toNat then ⟨sl.b,sl.s+i,none⟩ else ⟨sl.b,sl.s+i+l.toNat*sz,none⟩)) (r - l).toNat (n - l.toNat),?_,?_⟩
     ·simp only [Instr.sliceAt,run_bind,am hu,andThen_ok,Instr.sureAddr,Sem.run_pure];rw [i6 hl hh hlo hhi h0 h1 h2];simp only [andThen_ok,bP hsz,bu];rw [show r.toNat - l.toNat=(r - l).toNat by omega]
     ·by_cases hcl:n=l.toNat
      ·rw [if_pos hcl];exact .slice hb hm (by omega) (by omega) (by omega) (.inr ⟨by omega,by omega⟩) (.inl (by omega))
      ·rw [if_neg hcl];exact .slice hb hm (by omega) (by omega) (by omega) (.inl (by omega)) (.inl (by omega))
    ·cases hv
   ·cases hv
  ·cases hv
 ·cases hv
theorem rT: ∀ {l:List Value}{bs:List UInt8},bytesOf l=some bs-> ∃ ns:List Int,l=ns.map (Value.int .u8)/\ ∀ s:ByteArray,ns.foldl (fun r n=>r.push (UInt8.ofNat n.toNat)) s=⟨s.data++bs.toArray⟩
 | [],bs,h=>by simp only [bytesOf,Option.some.injEq] at h; subst h; exact ⟨[],rfl,fun s=>by simp⟩
 | v::l,bs,h=>by
  unfold bytesOf at h;split at h
  ·next e=>cases e
  ·next n r e=>
   simp only [List.cons.injEq] at e;obtain ⟨rfl,rfl⟩:=e;split at h
   ·obtain ⟨bs',hb,rfl⟩:=map_eq_some_iff.1 h;obtain ⟨ns,rfl,hf⟩:=rT hb;refine ⟨n::ns,rfl,fun s=> ?_⟩;rw [foldl_cons,hf];apply th;simp [ByteArray.push]
   ·cases h
  ·cases h
theorem LRel.ints {k:IntKind}{ns:List Int}{l':List Value}(h:LRel β (ns.map (Value.int k)) l'):l'=ns.map (Value.int k):=by
 apply List.ext_getElem?;intro i;by_cases hi:i < ns.length
 ·have h1:(ns.map (Value.int k))[i]?=some (.int k ns[i]):=by simp [hi]
  obtain ⟨v',h2,h3⟩:=h.get h1;rw [h1,h2,h3.inv_int]
 ·have h1:(ns.map (Value.int k)).length<=i:=by simp; omega
  rw [getElem?_eq_none h1,getElem?_eq_none (h.1 ▸ h1)]
theorem tS {h:Heap}{w:World}(hs:Sim β h w){k i n:Nat}{cs:List Value}{t:TypeId}{sz:Nat}{wr:Bool}{sl:Slot}(hk:h.get k=some (.cells cs t sz wr))(hb:β k=some sl)
  (hl:((cs.drop i).take n).length=n) {bs:List UInt8} (hbs:bytesOf ((cs.drop i).take n)=some bs):
  ∃ ns:List Int,(cs.drop i).take n=ns.map (Value.int .u8)/\(loadCells ⟨sl.b,sl.s+i,none⟩ n).run P w = .ok (ns.map (Value.int .u8)).toArray w/\(∀ s:ByteArray,ns.foldl (fun r n=>r.push (UInt8.ofNat n.toNat)) s=⟨s.data++bs.toArray⟩)/\
   (∀ j u,(ns.map (Value.int .u8))[j]?=some u->w.cell? ((⟨sl.b,sl.s+i,none⟩:Addr).add j)=some u):=by
 obtain ⟨ns,hns,hf⟩:=rT hbs;obtain ⟨_,_,_,cs',fr,hw,hn,hc,_⟩:=hs.row hk hb;obtain ⟨l',hr,hrel⟩:=mo (P:=P) hw hc i n hl;rw [hns] at hrel;rw [hrel.ints] at hr;refine ⟨ns,hns,hr,hf,fun j u hu=> ?_⟩;have hj:((cs.drop i).take n)[j]?=some u:=by rw [hns]; exact hu
 rw [getElem?_take,getElem?_drop] at hj;split at hj
 ·obtain ⟨u',h1,h2⟩:=hc _ _ hj;rw [bu,gQ hw,show sl.s+i+j=sl.s+(i+j) by omega,h1];simp only [getElem?_map,map_eq_some_iff] at hu;obtain ⟨m,_,rfl⟩:=hu;rw [h2.inv_int]
 ·cases hj
theorem pg {h:Heap}{w:World}(hs:Sim β h w){k i n c:Nat}{cs:List Value}{t:TypeId}{sz:Nat}{wr:Bool}(hk:h.get k=some (.cells cs t sz wr))
  (hl:((cs.drop i).take n).length=n) {bs:List UInt8} (hbs:bytesOf ((cs.drop i).take n)=some bs) {x':Value} (hx:VRel β (.slice (some ⟨k,i,none⟩) n c) x'):
  (Conv.bytesToString x').run P w = .ok (aa bs) w:=by
 obtain ⟨sl,i',c',hb,hm,_,rfl,hx1,ho1,hn1,hi1,hz1⟩:=hx.inv_slice;by_cases h0:n=0
 ·subst h0;have:bs=[]:=by simp [bytesOf] at hbs; exact hbs
  subst this;simp [Conv.bytesToString,loadCells,loadCellsFrom,aa];rfl
 ·have hi2:i'=sl.s+i:=by rcases hi1 with h1 | ⟨h1,h2⟩; exact h1; exact absurd h1 h0
  subst hi2;obtain ⟨ns,hns,hr,hf,hcell⟩:=tS (P:=P) hs hk hb hl hbs;rw [run_bytesToString (P:=P) w ⟨sl.b,sl.s+i,none⟩ n c' ns hr,hf];congr 2;apply th;simp [ByteArray.empty,ByteArray.emptyWithCapacity];rfl
end
section
variable {β:Inj} {P:Program}
theorem zA {a b:Value}(h:xl a b=true):a=b:=by
 unfold xl at h;split at h
 ·rw [beq_iff_eq.1 h]
 ·simp only [and_eq_true,decide_eq_true_eq] at h; rw [h.1,h.2]
 ·next a b=>
  simp only [decide_eq_true_eq] at h;obtain ⟨⟨a⟩⟩:=a;obtain ⟨⟨b⟩⟩:=b;simp only at h;rw [h]
 ·cases h
theorem zW: ∀ {a b:List Value},vE a b=true->a=b
 | [],[],_=>rfl
 | [],_::_,h=>by simp [vE] at h
 | _::_,[],h=>by simp [vE] at h
 | a::x,b::y,h=>by
  simp only [vE,and_eq_true] at h;rw [zA h.1,zW h.2]
theorem IG {a b:Value}(h:Cx a b=true):a=b:=by
 unfold Cx at h;split at h
 ·rw [Array.ext' (zW h)]
 ·exact zA h
theorem VRel.scal3_eq {v v':Value}(hv:qO v=true)(h:VRel β v v'):v'=v:=by
 cases h <;> first | rfl | (simp [qO] at hv)
theorem VRel.of_scal3 {v:Value}(hv:qO v=true):VRel β v v:=by
 cases v <;> first | exact .bool _ | exact .int _ _ | exact .string _ | (simp [qO] at hv)
theorem VRel.keyP_eq {v v':Value}(hv:pF v=true)(h:VRel β v v'):v'=v:=by
 unfold pF at hv;split at hv
 ·next cs=>
  obtain ⟨a',rfl,ha⟩:=h.inv_agg;have:a'=cs:=by
   refine Array.ext ha.1.symm fun i h1 h2=> ?_;have h3:=ha.2 i cs[i] a'[i] (getElem?_eq_getElem h2) (getElem?_eq_getElem h1);exact h3.scal3_eq (all_eq_true.1 hv _ (by simp))
  rw [this]
 ·exact h.scal3_eq hv
theorem VRel.of_keyP {v:Value}(hv:pF v=true):VRel β v v:=by
 unfold pF at hv;split at hv
 ·next cs=>
  refine .agg rfl fun i v v' h1 h2=> ?_;rw [h1] at h2;obtain rfl:=oI h2;refine .of_scal3 (all_eq_true.1 hv _ ?_);rw [<-getElem?_toList] at h1;exact List.mem_of_getElem? h1
 ·exact .of_scal3 hv
theorem iJ {t:TypeId}{cs:Array Value}{off:Nat}{v:Value}(h:gI P t cs off=some v)(w:World):(part t cs off).run P w = .ok v w:=by
 unfold gI at h
 cases hu:P.underlying t with
 | none=>simp [hu] at h
 | some d=>
 simp only [hu] at h;simp only [part,run_bind,lT hu,andThen_ok,run_ite];split at h
 ·next ha=>
  obtain ⟨n,hn,rfl⟩:=map_eq_some_iff.1 h;rw [if_pos ha];simp only [bP hn,andThen_ok,Sem.run_pure]
 ·next ha=>
  rw [if_neg ha];simp [h]
theorem yc {e:TypeId->Value->Value->Option Bool}{d:Nat}(w:World)(he: ∀ t x y b,e t x y=some b->(Op.equalIn d t x y).run P w = .ok b w)(xs ys:Array Value): ∀ (fs:List Field){b:Bool},HW P e xs ys fs=some b->
  (Op.eqFields d xs ys fs).run P w = .ok b w
 | [],b,h=>by simp only [HW] at h; obtain rfl:=oI h; rfl
 | f::fs,b,h=>by
  simp only [HW] at h;split at h
  ·next hn=>
   split at h
   ·next p q h1 h2=>
    unfold Op.eqFields;rw [if_pos hn];split at h
    ·next h3=>
     simp only [run_bind,iJ h1,iJ h2,andThen_ok,he _ _ _ _ h3];simp only [Bool.not_true,false_eq_true,if_false];exact yc w he xs ys fs h
    ·next h3=>
     obtain rfl:=oI h;simp only [run_bind,iJ h1,iJ h2,andThen_ok,he _ _ _ _ h3];rfl
    ·cases h
   ·cases h
  ·cases h
theorem nu (w:World): ∀ (d n:Nat)(t:TypeId)(x y:Value)(b:Bool),e9 P d t x y=some b->(Op.equalIn (n+d) t x y).run P w = .ok b w
 | 0,_,_,_,_,_,h=>by simp [e9] at h
 | d+1,n,t,x,y,b,h=>by
  unfold e9 at h;split at h
  ·next fs a b' hu=>
   split at h
   ·next hs=>
    have hf:P.fieldsOf t=fs:=by simp [Program.fieldsOf,hu]
    rw [show n+(d+1)=(n+d)+1 from rfl,run_equalIn_struct w (n+d) t a b' (by rw [hf]; exact hu) hs,hf];exact yc w (fun t x y b hb=>nu w d n t x y b hb) a b' fs.toList h
   ·cases h
  ·exact sr h (n+d) w
theorem uK {c:TypeId->Value->Bool}{em:Bool}{d:Nat}(w:World)(hc: ∀ t v,c t v=true->(Instr.checkKey em d t v).run P w = .ok () w)(cs:Array Value): ∀ (fs:List Field),C7 P c cs fs=true->
  (forIn fs PUnit.unit (fun f _=>do
   if f.name≠ "_" then Instr.checkKey em d f.type (<-part f.type cs f.offset)
   pure (ForInStep.yield PUnit.unit)):Sem PUnit).run P w = .ok PUnit.unit w
 | [],_=>rfl
 | f::fs,h=>by
  simp only [C7,and_eq_true,decide_eq_true_eq] at h;obtain ⟨⟨hn,h1⟩,h2⟩:=h
  cases hp:gI P f.type cs f.offset with
  | none=>rw [hp] at h1; cases h1
  | some p=>
   rw [hp] at h1;simp only [List.forIn_cons,run_bind,hn,ne_eq,not_false_eq_true,if_true,andThen_ok,iJ hp,hc _ _ h1,Sem.run_pure];simpa using uK w hc cs fs h2
theorem r7 (em:Bool)(w:World): ∀ (d n:Nat)(t:TypeId)(v:Value),qc P d t v=true->(Instr.checkKey em (n+d) t v).run P w = .ok () w
 | 0,_,_,_,h=>by simp [qc] at h
 | d+1,n,t,v,h=>by
  rw [show n+(d+1)=(n+d)+1 from rfl];unfold qc at h;split at h
  ·next fs a hu=>
   have:=uK (em:=em) w (fun t v hv=>r7 em w d n t v hv) a fs.toList h;rw [Instr.checkKey];simp only [run_bind,am hu,andThen_ok];rw [<-Array.forIn_toList];simp only [ne_eq,ite_not,bind_pure_comp] at this ⊢;simp at this ⊢;rw [this];rfl
  ·next hu=>simp [Instr.checkKey,am hu]
  ·next hu=>simp [Instr.checkKey,am hu]
  ·next hu=>simp [Instr.checkKey,am hu]
  ·cases h
theorem qG {kt:TypeId}{k:Value}(h:i4 P kt k=true)(em:Bool)(w:World):(Instr.checkKey em 10000 kt k).run P w = .ok () w:=by
 unfold i4 at h;simp only [and_eq_true] at h;exact r7 em w 3 9997 kt k h.2
theorem rz {kt:TypeId}{k:Value}(h:i4 P kt k=true):pF k=true:=by
 unfold i4 at h;simp only [and_eq_true] at h;exact h.1
theorem mh {kt:TypeId}{a b:Value}{r:Bool}(h:nR P kt a b=some r):pF b=true/\e9 P 3 kt a b=some r/\(r=true->a=b):=by
 unfold nR at h;split at h
 ·next hk=>
  refine ⟨hk,?_⟩;split at h
  ·next he=>
   split at h
   ·next hs=>obtain rfl:=oI h; exact ⟨he,fun _=>IG hs⟩
   ·cases h
  ·next hx=>
   refine ⟨h,fun hr=> ?_⟩;subst hr;exact absurd h hx
 ·cases h
theorem DF {kt:TypeId}{k:Value}(h:i4 P kt k=true):(∃ fs a,P.underlying kt=some (.struct fs)/\k = .agg a)\/(∃ kd,P.underlying kt=some kd/\ ∀ b r,e9 P 3 kt k b=some r->Instr.sameNow kd k b=some r):=by
 unfold i4 at h;simp only [and_eq_true] at h;have h2:=h.2;unfold qc at h2;split at h2
 ·next fs a hu=>exact .inl ⟨fs,a,hu,rfl⟩
 ·next b hu=>
  refine .inr ⟨_,hu,fun y r he=> ?_⟩;simp only [e9,sh,hu] at he
  cases y <;> simp at he
  simp [Instr.sameNow,he]
 ·next kk k' n hu=>
  refine .inr ⟨_,hu,fun y r he=> ?_⟩;simp only [e9,sh,hu] at he
  cases y <;> simp at he
  obtain ⟨rfl,rfl⟩:=he;simp [Instr.sameNow]
 ·next b hu=>
  refine .inr ⟨_,hu,fun y r he=> ?_⟩;simp only [e9,sh,hu] at he
  cases y with
  | string s=>
   obtain rfl:=oI he;simp only [Instr.sameNow];rw [vu]
  | _=>simp at he
 ·cases h2
theorem ERel.tail' {p:Value×Value}{es:List (Value×Value)}{e:MapEntry}{es':List MapEntry}(he:ERel β (p::es) (e::es')):ERel β es es':=
 ⟨by have:=he.1; simpa using this,fun j p e h1 h2=>he.2 (j+1) p e (by simpa using h1) (by simpa using h2)⟩
structure Finder (P:Program)(kt:TypeId)(k:Value){α:Type}(fnd:List MapEntry->Nat->α)(R:Option (Nat×Value)->α):Prop where
 nil: ∀ i,fnd [] i=R none
 hit: ∀ (e:MapEntry) es i,e9 P 3 kt k e.key=some true->fnd (e::es) i=R (some (i,e.val))
 miss: ∀ (e:MapEntry) es i,e9 P 3 kt k e.key=some false->fnd (e::es) i=fnd es (i+1)
theorem BL {kt:TypeId}{kd:TypeDesc}{k:Value}(hk: ∀ b r,e9 P 3 kt k b=some r->Instr.sameNow kd k b=some r):Finder P kt k (Instr.findNow kd k) some where
 nil:=fun _=>rfl
 hit:=fun e es i h=>by simp only [Instr.findNow,hk _ _ h]
 miss:=fun e es i h=>by simp only [Instr.findNow,hk _ _ h]
theorem tZ {kt:TypeId}{k:Value}(w:World):Finder P kt k (fun es i=>(Instr.findAsking kt k es i).run P w) (fun r=> .ok r w) where
 nil:=fun _=>by simp [Instr.findAsking]
 hit:=fun e es i h=>by
  have hr:(Op.equal kt k e.key).run P w = .ok true w:=nu w 3 9997 kt k e.key true h;simp [Instr.findAsking,hr]
 miss:=fun e es i h=>by
  have hr:(Op.equal kt k e.key).run P w = .ok false w:=nu w 3 9997 kt k e.key false h;simp [Instr.findAsking,hr]
section
variable {kt:TypeId} {k:Value} {α:Type} {fnd:List MapEntry->Nat->α} {R:Option (Nat×Value)->α}
theorem zd (hF:Finder P kt k fnd R): ∀ (es:List (Value×Value))(es':List MapEntry)(i:Nat){r:Option Value},ERel β es es'->nc P kt k es=some r->
  ∃ r',fnd es' i=R r'/\((r=none/\r'=none)\/ ∃ v j v',r=some v/\r'=some (j,v')/\VRel β v v')
 | [],es',i,r,he,h=>by
  have:es'=[]:=eq_nil_of_length_eq_zero he.1.symm;subst this;simp only [nc,Option.some.injEq] at h;exact ⟨none,hF.nil i,.inl ⟨h.symm,rfl⟩⟩
 | (k',v)::es,[],i,r,he,h=>by have:=he.1; simp at this
 | (k',v)::es,e::es',i,r,he,h=>by
  obtain ⟨hke,hve⟩:=he.2 0 (k',v) e rfl rfl;dsimp only at hke hve;simp only [nc] at h;split at h
  ·next hq=>
   obtain ⟨hp,hd,_⟩:=mh hq;have hkey:=hke.keyP_eq hp;obtain rfl:=oI h;exact ⟨some (i,e.val),hF.hit e es' i (by rw [hkey]; exact hd),.inr ⟨v,i,e.val,rfl,rfl,hve⟩⟩
  ·next hq=>
   obtain ⟨hp,hd,_⟩:=mh hq;have hkey:=hke.keyP_eq hp;obtain ⟨r',h1,h2⟩:=zd hF es es' (i+1) he.tail' h;exact ⟨r',by rw [hF.miss e es' i (by rw [hkey]; exact hd)]; exact h1,h2⟩
  ·cases h
theorem qJ (hF:Finder P kt k fnd R){x x':Value}(hk:pF k=true)(hx:VRel β x x'): ∀ (es:List (Value×Value))(es':List MapEntry){r:List (Value×Value)},ERel β es es'->hJ P kt k x es=some r-> ∀ i clock,
  (∃ j e,fnd es' i=R (some (i+j,e.val))/\es'[j]?=some e/\e.key=k/\ERel β r (es'.modify j fun e=>{ e with key:=k,val:=x' }))\/
  (fnd es' i=R none/\ERel β r (es'++[{ key:=k,val:=x',born:=clock }]))
 | [],es',r,he,h,i,clock=>by
  have:es'=[]:=eq_nil_of_length_eq_zero he.1.symm;subst this;simp only [hJ,Option.some.injEq] at h;subst h;refine .inr ⟨hF.nil i,rfl,fun j p e h1 h2=> ?_⟩
  cases j with
  | zero=>simp at h1 h2; subst h1; subst h2; exact ⟨.of_keyP hk,hx⟩
  | succ j=>simp at h1
 | (k',v)::es,[],r,he,h,i,clock=>by have:=he.1; simp at this
 | (k',v)::es,e::es',r,he,h,i,clock=>by
  obtain ⟨hke,hve⟩:=he.2 0 (k',v) e rfl rfl;dsimp only at hke hve;have hcons: ∀ {p:Value×Value}{e0:MapEntry}{q:List (Value×Value)}{q':List MapEntry},VRel β p.1 e0.key->VRel β p.2 e0.val->ERel β q q'->ERel β (p::q) (e0::q'):=fun h1 h2 h3=>
   ⟨by simp [h3.1],fun j p e h4 h5=>by
    cases j with
    | zero=>simp at h4 h5; subst h4; subst h5; exact ⟨h1,h2⟩
    | succ j=>exact h3.2 j p e (by simpa using h4) (by simpa using h5)⟩
  simp only [hJ] at h;split at h
  ·next hq=>
   obtain ⟨hp,hd,heq⟩:=mh hq;have hkey:=hke.keyP_eq hp;obtain rfl:=oI h;refine .inl ⟨0,e,hF.hit e es' i (by rw [hkey]; exact hd),rfl,by rw [hkey,heq rfl],?_⟩;simp only [List.modify_zero_cons];exact hcons (.of_keyP hk) hx he.tail'
  ·next hq=>
   obtain ⟨hp,hd,_⟩:=mh hq;have hkey:=hke.keyP_eq hp;obtain ⟨r',hr,rfl⟩:=map_eq_some_iff.1 h;have hm:=hF.miss e es' i (by rw [hkey]; exact hd);rcases qJ hF hk hx es es' he.tail' hr (i+1) clock with ⟨j,e0,h1,h2,h3,h4⟩ | ⟨h1,h2⟩
   ·refine .inl ⟨j+1,e0,?_,by simpa using h2,h3,?_⟩
    ·rw [hm,h1]; congr 3; omega
    ·simp only [List.modify_succ_cons];exact hcons hke hve h4
   ·exact .inr ⟨hm.trans h1,hcons hke hve h2⟩
  ·cases h
end
theorem sx {kt:TypeId}{k:Value}(hk:i4 P kt k=true)(w:World)(es':List MapEntry):
  ∃ (α:Type)(fnd:List MapEntry->Nat->α)(R:Option (Nat×Value)->α),Finder P kt k fnd R/\ ∀ r',fnd es' 0=R r'->(Instr.findKey kt k es').run P w = .ok r' w:=by
 rcases DF hk with ⟨fs,a,hu,rfl⟩ | ⟨kd,hu,hn⟩
 ·refine ⟨_,_,_,tZ w,fun r' h=> ?_⟩
  cases es' with
  | nil=>
   have h:Result.ok (none:Option (Nat×Value)) w=Result.ok r' w:=by simpa [Instr.findAsking] using h
   injection h with h
   subst h;simp [Instr.findKey,am hu,Instr.findNow]
  | cons e es'=>
   simp only [Instr.findKey,run_bind,am hu,andThen_ok,Instr.findNow,Instr.sameNow];exact h
 ·exact ⟨_,_,_,BL hn,fun r' h=>by simp [Instr.findKey,am hu,h]⟩
theorem lC (d:Nat){v:Value}(h:qO v=true):Instr.sameBits d v v=true:=by
 cases v <;> first | (simp [qO] at h; done) | (cases d <;> simp [Instr.sameBits]; done) | (cases d <;> (simp only [Instr.sameBits]; rw [<-vu]; simp))
theorem uk {v:Value}(h:pF v=true)(d:Nat):Instr.sameBits (d+1) v v=true:=by
 unfold pF at h;split at h
 ·next cs=>
  simp only [Instr.sameBits,BEq.rfl,Bool.true_and];rw [all_eq_true] at h ⊢;rintro ⟨x,y⟩ hm;obtain ⟨i,h1⟩:=List.getElem?_of_mem hm;rw [List.getElem?_zip_eq_some] at h1;obtain ⟨h2,h3⟩:=h1;dsimp only at h2 h3 ⊢;rw [h2] at h3;obtain rfl:=oI h3;exact lC d (h x (List.mem_of_getElem? h2))
 ·exact lC (d+1) h
set_option maxHeartbeats 1000000 in
theorem jN {ρ ρ':Operand->Value}(hρ: ∀ x,VRel β (ρ x) (ρ' x)){o:Oper}{v:Value}{h:Heap}{w:World}(hs:Sim β h w)(hv:aU P ρ o h=some v):
  ∃ v',(execOp ρ' o).run P w = .ok (.value v') w/\VRel β v v':=by
 unfold aU at hv;unfold execOp;split at hv
 ·next t a ho=>
  simp only [ho];obtain ⟨ad,he,v',hr,hrel⟩:=xw (P:=P) hs hv (hρ a);exact ⟨v',dh (by simp [Instr.loadAt,he,Instr.sureAddr,hr]),hrel⟩
 ·next t x lo hi mx ho=>
  simp only [ho];obtain ⟨v',hr,hrel⟩:=DR (P:=P) hs hv (hρ x) (OVRel.map hρ lo) (OVRel.map hρ hi) (OVRel.map hρ mx);exact ⟨v',dh hr,hrel⟩
 ·next s d x ho=>
  simp only [ho];have hx:=hρ x;split at hv
  ·next e a n c h1 h2 ha=>
   rw [ha] at hx;split at hv
   ·next he=>
    obtain rfl:=oI hv;obtain ⟨_,_,hx'⟩:=hx.inv_nilSlice;refine ⟨aa [],dh ?_,.string _⟩;simp only [convert,run_bind,am h1,am h2,andThen_ok,hx',am he,Conv.bytesToString];rfl
   ·next k i he=>
    split at hv
    ·next cs t sz wr hk=>
     split at hv
     ·next hl=>
      obtain ⟨bs,hbs,rfl⟩:=map_eq_some_iff.1 hv;refine ⟨aa bs,dh ?_,.string _⟩;have hb:=pg (P:=P) hs hk hl hbs hx;obtain ⟨sl,i',c',_,_,_,hx',_⟩:=hx.inv_slice;rw [hx'] at hb ⊢;simp only [convert,run_bind,am h1,am h2,andThen_ok,am he];exact hb
     ·cases hv
    ·cases hv
   ·cases hv
  ·cases hv
 ·next t m k ok ho=>
  simp only [ho];have hm:=hρ m;have hk:=hρ k;split at hv
  ·next kt e hu=>
   split at hv
   ·next es z hes hz=>
    split at hv
    ·next hok=>
     have hkk:=hk.keyP_eq (rz hok);have key: ∃ es',ERel β es es'.toList/\((ρ' m = .map none/\es' = #[])\/ ∃ b clock,ρ' m = .map (some b)/\(getObj b).run P w = .ok (.map es' clock) w):=by
      split at hes
      ·next hm0=>
       obtain rfl:=oI hes;rw [hm0] at hm;exact ⟨#[],⟨rfl,fun i p e h1=>by simp at h1⟩,.inl ⟨hm.inv_nilMap,rfl⟩⟩
      ·next r hm0=>
       rw [hm0] at hm;split at hes
       ·next es0 hr=>
        obtain rfl:=oI hes;obtain ⟨sl,hb,hmap,he⟩:=hm.inv_map;obtain ⟨_,es',clock,hw,hrel⟩:=hs.blk _ _ _ hr hb;exact ⟨es',hrel,.inr ⟨sl.b,clock,he,by simp [getObj,Sem.run,hw]⟩⟩
       ·cases hes
      ·cases hes
     obtain ⟨es',hrel,hrun⟩:=key;have hlk: ∀ {v:Value},(∃ r,nc P kt (ρ k) es=some r/\v=match r with | some v=>(if ok then .tuple #[v,.bool true] else v) | none=>(if ok then .tuple #[z,.bool false] else z))->
       ∃ v',(Instr.lookup t (ρ' m) (ρ' k) ok).run P w = .ok v' w/\VRel β v v':=by
      rintro v ⟨r,hr,rfl⟩;rw [hkk];obtain ⟨α,fnd,R,hF,hrun1⟩:=sx hok w es'.toList;obtain ⟨r',h1,h2⟩:=zd hF es es'.toList 0 hrel hr;have hfk:=hrun1 r' h1;have hL:(Instr.lookup t (ρ' m) (ρ k) ok).run P w=((do
         Instr.checkKey es'.isEmpty 10000 kt (ρ k)
         let (v,ok') <-match <-Instr.findKey kt (ρ k) es'.toList with
          | some (_,v)=>pure (v,true)
          | none=>pure (<-zeroValue e,false)
         pure (if ok then .tuple #[v,.bool ok'] else v)):Sem Value).run P w:=by
       rcases hrun with ⟨he,rfl⟩ | ⟨b,clock,he,hg⟩
       ·simp only [Instr.lookup,run_bind,am hu,andThen_ok,he,Sem.run_pure]; rfl
       ·simp only [Instr.lookup,run_bind,am hu,andThen_ok,he,hg,Sem.run_pure]; rfl
      rw [hL];have hck:=qG hok es'.isEmpty w;simp only [run_bind,hck,andThen_ok,hfk];rcases h2 with ⟨rfl,rfl⟩ | ⟨u,j,u',rfl,rfl,hu'⟩
      ·refine ⟨if ok then .tuple #[z,.bool false] else z,by simp [iD hz],?_⟩;have hzz:VRel β z z:= .of_plain (cH hz).1
       cases ok
       ·exact hzz
       ·exact rQ hzz (.bool _)
      ·refine ⟨if ok then .tuple #[u',.bool true] else u',by simp,?_⟩
       cases ok
       ·exact hu'
       ·exact rQ hu' (.bool _)
     have: ∃ r,nc P kt (ρ k) es=some r/\v=match r with | some v=>(if ok then .tuple #[v,.bool true] else v) | none=>(if ok then .tuple #[z,.bool false] else z):=by
      split at hv
      ·next u hf=>exact ⟨some u,hf,(oI hv).symm⟩
      ·next hf=>exact ⟨none,hf,(oI hv).symm⟩
      ·cases hv
     obtain ⟨v',h1,h2⟩:=hlk this;exact ⟨v',dh h1,h2⟩
    ·cases hv
   ·cases hv
  ·cases hv
 ·next args ats ho=>
  simp only [ho];split at hv
  ·next x t hx ht=>
   have hxr:=hρ x;have h0:(args.map ρ')[0]?=some (ρ' x):=by simp [hx]
   have key: ∃ n,v = .int .i64 n/\(Builtin.len_ ats o.type (args.map ρ')).run P w = .ok (.int .i64 n) w:=by
    simp only [Builtin.len_,ht,h0];split at hv
    ·next s hu ha=>
     rw [ha] at hxr;obtain rfl:=oI hv;refine ⟨_,rfl,?_⟩;simp only [run_bind,am hu,andThen_ok,hxr.inv_string,Sem.run_pure,goInt];simp
    ·next n e y hu=>
     obtain rfl:=oI hv;refine ⟨_,rfl,?_⟩;simp only [run_bind,am hu,andThen_ok,Sem.run_pure,goInt]
    ·next e a n c hu ha=>
     rw [ha] at hxr;obtain rfl:=oI hv;refine ⟨_,rfl,?_⟩
     cases a with
     | none=>obtain ⟨rfl,rfl,he⟩:=hxr.inv_nilSlice; simp only [run_bind,am hu,andThen_ok,he,Sem.run_pure,goInt]
     | some a=>obtain ⟨a',c',he⟩:=hxr.inv_some; simp only [run_bind,am hu,andThen_ok,he,Sem.run_pure,goInt]
    ·next kt e hu ha=>
     rw [ha] at hxr;obtain rfl:=oI hv;refine ⟨_,rfl,?_⟩;simp only [run_bind,am hu,andThen_ok,hxr.inv_nilMap,Sem.run_pure,goInt]
    ·next kt e r hu ha=>
     rw [ha] at hxr;split at hv
     ·next es hr=>
      obtain rfl:=oI hv;refine ⟨_,rfl,?_⟩;obtain ⟨sl,hb,hmap,he⟩:=hxr.inv_map;obtain ⟨_,es',clock,hw,hrel⟩:=hs.blk _ _ _ hr hb;have hg:(getObj sl.b).run P w = .ok (.map es' clock) w:=by simp [getObj,Sem.run,hw]
      simp only [run_bind,am hu,andThen_ok,he,hg,Sem.run_pure,goInt];rw [hrel.1]; simp
     ·cases hv
    ·cases hv
   obtain ⟨n,rfl,hr⟩:=key;refine ⟨.int .i64 n,?_,.int _ _⟩;simp only [resolve,run_bind,Sem.run_pure,andThen_ok,invoke,builtin,hr]
  ·cases hv
 ·cases hv
end
section
variable {β:Inj} {P:Program}
def Wr (β:Inj)(h:Heap)(b:Nat):Prop:= ∃ k B sl,h.get k=some B/\B.wr=true/\β k=some sl/\sl.b=b
def TapeOk (w w':World):Prop:=w'.tape=w.tape/\w.drawn<=w'.drawn
theorem TapeOk.refl (w:World):TapeOk w w:=⟨rfl,le_refl _⟩
theorem TapeOk.trans {w w₁ w₂:World}(h:TapeOk w w₁)(h':TapeOk w₁ w₂):TapeOk w w₂:=⟨h'.1.trans h.1,le_trans h.2 h'.2⟩
structure Step (β:Inj)(h:Heap)(w:World)(β':Inj)(h':Heap)(w':World):Prop where
 le:β.le β'
 next:h.next<=h'.next
 sim:Sim β' h' w'
 size:w.heap.size<=w'.heap.size
 os:w'.os=w.os
 tape:TapeOk w w'
 output:w'.output=w.output
 kept: ∀ b,b < w.heap.size-> ¬ Wr β h b->w'.heap[b]?=w.heap[b]?
 back: ∀ b,b < w.heap.size->Wr β' h' b->Wr β h b
 fresh: ∀ k sl,β' k=some sl->β k=some sl\/(h.next<=k/\(w.heap.size<=sl.b\/Wr β h sl.b))
 keys: ∀ k B,h'.get k=some B->k < h.next-> ∃ B₀,h.get k=some B₀
theorem Step.refl {h:Heap}{w:World}(hs:Sim β h w):Step β h w β h w:=
 ⟨β.le_refl,le_refl _,hs,le_refl _,rfl,.refl _,rfl,fun _ _ _=>rfl,fun _ _ h=>h,fun _ _ h=> .inl h,fun _ B h _=>⟨B,h⟩⟩
theorem Step.trans {β₁ β₂:Inj}{h h₁ h₂:Heap}{w w₁ w₂:World}(a:Step β h w β₁ h₁ w₁)(b:Step β₁ h₁ w₁ β₂ h₂ w₂):Step β h w β₂ h₂ w₂ where
 le:=Inj.le_trans a.le b.le
 next:=le_trans a.next b.next
 sim:=b.sim
 size:=le_trans a.size b.size
 os:=b.os.trans a.os
 tape:=a.tape.trans b.tape
 output:=b.output.trans a.output
 kept:=fun k hk hn=>(b.kept k (lt_of_lt_of_le hk a.size) fun hw=>hn (a.back k hk hw)).trans (a.kept k hk hn)
 back:=fun k hk hw=>a.back k hk (b.back k (lt_of_lt_of_le hk a.size) hw)
 fresh:=fun k sl hk=>by
  rcases b.fresh k sl hk with h1 | ⟨h1,h2⟩
  ·exact a.fresh k sl h1
  ·refine .inr ⟨le_trans a.next h1,?_⟩;rcases h2 with h2 | h2
   ·exact .inl (le_trans a.size h2)
   ·rcases Nat.lt_or_ge sl.b w.heap.size with h3 | h3
    ·exact .inr (a.back _ h3 h2)
    ·exact .inl h3
 keys:=fun k B hk hlt=>by
  obtain ⟨B₁,h1⟩:=b.keys k B hk (lt_of_lt_of_le hlt a.next);exact a.keys k B₁ h1 hlt
theorem Sim.of_heap {h:Heap}{w w':World}(hs:Sim β h w)(he:w'.heap=w.heap):Sim β h w':=
 ⟨fun k sl hk=>by rw [he]; exact hs.lt k sl hk,fun k B sl h1 h2=>(hs.blk k B sl h1 h2).of_heap (by rw [he]),hs.own,hs.wf⟩
theorem Step.of_heap {h:Heap}{w w':World}(hs:Sim β h w)(he:w'.heap=w.heap)(h1:w'.os=w.os)(h2:TapeOk w w')(h3:w'.output=w.output):Step β h w β h w':=
 ⟨β.le_refl,le_refl _,hs.of_heap he,by rw [he]; exact le_refl _,h1,h2,h3,fun _ _ _=>by rw [he],fun _ _ h=>h,fun _ _ h=> .inl h,fun _ B h _=>⟨B,h⟩⟩
def Inj.ext (β:Inj)(k:Nat)(sl:Slot):Inj:=fun j=>if j=k then some sl else β j
theorem Inj.ext_same (β:Inj)(k:Nat)(sl:Slot):β.ext k sl k=some sl:=by simp [Inj.ext]
theorem Inj.ext_ne (β:Inj){k j:Nat}(sl:Slot)(h:j≠k):β.ext k sl j=β j:=by simp [Inj.ext,h]
theorem Inj.le_ext {k:Nat}(sl:Slot)(h:β k=none):β.le (β.ext k sl):=fun j sl' hj=>by
 rw [β.ext_ne sl (by rintro rfl; rw [h] at hj; cases hj)]; exact hj
theorem Sim.none_of_ge {h:Heap}{w:World}(hs:Sim β h w){k:Nat}(hk:h.next<=k):β k=none:=by
 cases hb:β k with
 | none=>rfl
 | some sl=>exact absurd (hs.lt k sl hb).1 (by omega)
structure Allocs (β:Inj)(w:World)(B:Blk)(f:Nat->Value)(v':Value)(w':World):Prop where
 size:w'.heap.size=w.heap.size+1
 os:w'.os=w.os
 tape:TapeOk w w'
 output:w'.output=w.output
 kept: ∀ b,b < w.heap.size->w'.heap[b]?=w.heap[b]?
 new: ∃ sl:Slot,sl.b=w.heap.size/\ ∀ (β':Inj)(k:Nat),β.le β'->β' k=some sl->BRel β' B sl w'/\VRel β' (f k) v'
theorem Heap.wf_push {h:Heap}(hw: ∀ k B,h.get k=some B->k < h.next)(B:Blk): ∀ k B',(h.push B).get k=some B'->k < (h.push B).next:=fun k B' hk=>by
 rw [h.get_push] at hk;split at hk
 ·next e=>subst e; simp
 ·have:=hw k B' hk; simp; omega
theorem Heap.wf_set {h:Heap}(hw: ∀ k B,h.get k=some B->k < h.next){j:Nat}(B:Blk)(hj:j < h.next): ∀ k B',(h.set j B).get k=some B'->k < (h.set j B).next:=fun k B' hk=>by
 rw [h.get_set] at hk;split at hk
 ·next e=>subst e; exact hj
 ·exact hw k B' hk
theorem Heap.wf_del {h:Heap}(hw: ∀ k B,h.get k=some B->k < h.next)(j:Nat): ∀ k B',(h.del j).get k=some B'->k < (h.del j).next:=fun k B' hk=>by
 rw [h.get_del] at hk;split at hk
 ·cases hk
 ·exact hw k B' hk
theorem Allocs.step {h:Heap}{w w':World}(hs:Sim β h w){B:Blk}{f:Nat->Value}{v':Value}(ha:Allocs β w B f v' w'):
  ∃ β',Step β h w β' (h.push B) w'/\VRel β' (f h.next) v':=by
 obtain ⟨sl,hb,hnew⟩:=ha.new;have hnone:=hs.none_of_ge (le_refl h.next);have hle:β.le (β.ext h.next sl):=Inj.le_ext sl hnone;obtain ⟨h1,h2⟩:=hnew _ h.next hle (β.ext_same _ _);have hlt: ∀ k sl',β k=some sl'->sl'.b < w.heap.size:=fun k sl' hk=>(hs.lt k sl' hk).2;have hwr: ∀ b,b < w.heap.size->Wr (β.ext h.next sl) (h.push B) b->Wr β h b:=by
  rintro b hb' ⟨k,B',sl',e1,e2,e3,e4⟩;by_cases hk:k=h.next
  ·subst hk;rw [β.ext_same] at e3;obtain rfl:=oI e3;omega
  ·rw [h.get_push_ne k B hk] at e1;rw [β.ext_ne sl hk] at e3;exact ⟨k,B',sl',e1,e2,e3,e4⟩
 refine ⟨β.ext h.next sl,⟨hle,by simp,⟨?_,?_,?_,Heap.wf_push hs.wf B⟩,by rw [ha.size]; omega,ha.os,ha.tape,ha.output,fun b hb' _=>ha.kept b hb',hwr,?_,?_⟩,h2⟩
 ·intro k sl' hk;by_cases hkn:k=h.next
  ·subst hkn;rw [β.ext_same] at hk;obtain rfl:=oI hk;exact ⟨by simp,by rw [ha.size,hb]; omega⟩
  ·rw [β.ext_ne sl hkn] at hk;have:=hs.lt k sl' hk;exact ⟨by simp; omega,by rw [ha.size]; omega⟩
 ·intro k B' sl' e1 e2;by_cases hkn:k=h.next
  ·subst hkn;rw [β.ext_same] at e2;obtain rfl:=oI e2;rw [h.get_push_same] at e1;obtain rfl:=oI e1;exact h1
  ·rw [h.get_push_ne k B hkn] at e1;rw [β.ext_ne sl hkn] at e2;exact ((hs.blk k B' sl' e1 e2).mono hle).of_heap (ha.kept _ (hlt k sl' e2))
 ·intro k k' B' B'' sl' sl'' hne e1 e2 e3 e4 e5;by_cases hkn:k=h.next
  ·subst hkn;rw [β.ext_same] at e3;obtain rfl:=oI e3;rw [β.ext_ne sl (Ne.symm hne)] at e4;have:=hlt k' sl'' e4;omega
  ·by_cases hkn':k'=h.next
   ·subst hkn';rw [β.ext_same] at e4;obtain rfl:=oI e4;rw [β.ext_ne sl hne] at e3;have:=hlt k sl' e3;omega
   ·rw [h.get_push_ne k B hkn] at e1;rw [h.get_push_ne k' B hkn'] at e2;rw [β.ext_ne sl hkn] at e3;rw [β.ext_ne sl hkn'] at e4;exact hs.own k k' B' B'' sl' sl'' hne e1 e2 e3 e4 e5
 ·intro k sl' hk;by_cases hkn:k=h.next
  ·subst hkn;rw [β.ext_same] at hk;obtain rfl:=oI hk;exact .inr ⟨le_refl _,.inl (by omega)⟩
  ·rw [β.ext_ne sl hkn] at hk;exact .inl hk
 ·intro k B' hk hlt';rw [h.get_push_ne k B (by omega)] at hk;exact ⟨B',hk⟩
theorem CellsAt.of_list {cs:List Value}{l':List Value}(h:LRel β cs l'):CellsAt β cs 0 l'.toArray:=fun i v hv=>by
 obtain ⟨v',h1,h2⟩:=h.get hv;exact ⟨v',by simpa using h1,h2⟩
theorem uO (n:Nat):H1 (0,0) n:=fun x _ h=>absurd h (by simp)
theorem eO {w:World}(o:Obj):(w.alloc o).heap[w.heap.size]?=some o:=by
 unfold World.alloc; simp only [getElem?_push,if_true]
theorem fS {w:World}(o:Obj){b:Nat}(h:b < w.heap.size):(w.alloc o).heap[b]?=w.heap[b]?:=by
 simp only [World.alloc,getElem?_push];rw [if_neg (by omega)]
theorem jX {w:World}{cs l':List Value}{t:TypeId}{sz:Nat}{f:Nat->Value}{v':Value}(h:LRel β cs l')
  (hv: ∀ (β':Inj)(k:Nat)(sl:Slot),β' k=some sl->sl.b=w.heap.size->sl.s=0->sl.n=l'.length->sl.sz=sz->sl.isMap=false->VRel β' (f k) v'):
  Allocs β w (.cells cs t sz true) f v' (w.alloc (.cells l'.toArray t)) where
 size:=by simp
 os:=rfl
 tape:= .refl _
 output:=rfl
 kept:=fun b hb=>fS _ hb
 new:=⟨⟨w.heap.size,0,l'.length,t,sz,false⟩,rfl,fun β' k hle hk=>
  ⟨⟨rfl,rfl,⟨rfl,fun _=>rfl⟩,l'.toArray,(0,0),eO _,by simp,CellsAt.of_list (h.mono hle),fun _=>uO _⟩,hv β' k _ hk rfl rfl rfl rfl rfl⟩⟩
theorem LRel.refl_plain {z:Value}(h:plain z=true):LRel β z.cells.toList z.cells.toList:=ARel.toList.1 (ARel.of_plain_cells h)
theorem ja {l l':List Value}(h:LRel β l l'): ∀ n,LRel β (aZ l n) (aZ l' n)
 | 0=> .nil β
 | n+1=>h.append (ja h n)
theorem dS (l:List Value): ∀ n,(aZ l n).length=n*l.length
 | 0=>by simp [aZ]
 | n+1=>by simp [aZ,dS l n,add_mul,Nat.add_comm]
theorem qr (l:List Value): ∀ (n i:Nat),i < n*l.length->(aZ l n)[i]?=l[i % l.length]?
 | 0,i,h=>by simp at h
 | n+1,i,h=>by
  have hl:0 < l.length:=by
   rcases Nat.eq_zero_or_pos l.length with h0 | h0
   ·rw [h0] at h; simp at h
   ·exact h0
  simp only [aZ];by_cases hi:i < l.length
  ·rw [getElem?_append_left hi,Nat.mod_eq_of_lt hi]
  ·rw [getElem?_append_right (by omega),qr l n (i - l.length) (by rw [add_mul] at h; omega)];congr 1;exact (Nat.mod_eq_sub_mod (by omega)).symm
theorem nr (z:Array Value)(n:Nat)(hz:0 < z.size):((Array.range (n*z.size)).map (fun i=>z[i % z.size]!))=(aZ z.toList n).toArray:=by
 apply Array.ext';apply List.ext_getElem?;intro i;simp only [toList_map,Array.toList_range,getElem?_map];by_cases hi:i < n*z.size
 ·rw [List.getElem?_range hi,qr z.toList n i (by simpa using hi)];have hm:i % z.size < z.size:=Nat.mod_lt _ hz;simp [hm]
 ·rw [getElem?_eq_none (by simp; omega),getElem?_eq_none (by rw [dS]; simp; omega)];rfl
end
section
variable {β:Inj} {P:Program}
theorem dW (e:TypeId)(cs:Array Value)(w:World):(newRow e cs).run P w = .ok ⟨w.heap.size,0,none⟩ (w.alloc (.cells cs e)):=by
 simp [newRow]
theorem Db {w:World}{β':Inj}{k:Nat}{sl:Slot}(h:β' k=some sl)(hb:sl.b=w.heap.size)(hs:sl.s=0)(hm:sl.isMap=false):VRel β' (.pointer (some ⟨k,0,none⟩)) (.pointer (some ⟨w.heap.size,0,none⟩)):=by
 have:=VRel.ptr (i:=0) h hm;rwa [hb,hs] at this
theorem mt {w:World}{β':Inj}{k:Nat}{sl:Slot}{n c c':Nat}(h:β' k=some sl)(hb:sl.b=w.heap.size)(hs:sl.s=0)(hm:sl.isMap=false)(hx:c < bj->c'=c)(ho:bj<=c->c - bj<=c')(hn:n<=aI c)
  (hz:sl.sz=0\/c'*sl.sz<=sl.n):VRel β' (.slice (some ⟨k,0,none⟩) n c) (.slice (some ⟨w.heap.size,0,none⟩) n c'):=by
 have:=VRel.slice (i:=0) (i':=0) h hm hx ho hn (.inl (by rw [hs])) (by simpa using hz);rwa [hb] at this
theorem rR {c:Nat}(h:c < bj):aI c=c:=by unfold aI; rw [if_neg (by omega)]
theorem bH (c:Nat):aI (bj+c)=c:=by unfold aI; rw [if_pos (by omega)]; omega
theorem rx:bj=36893488147419103232:=rfl
def NX (a:Addr)(n:Nat):Obj->Obj
 | .cells c elem (lo,hi)=> .cells c elem (if lo == hi then (a.off,a.off+n) else (min lo a.off,max hi (a.off+n)))
 | o=>o
theorem je (w:World)(a:Addr){n:Nat}(hn:n≠0)(b:Nat):(w.freeze a n).heap[b]?=if a.block=b then (w.heap[b]?).map (NX a n) else w.heap[b]?:=by
 unfold World.freeze;rw [if_neg hn];simp only [Array.getElem?_modify];rfl
theorem qs (w:World)(a:Addr)(n:Nat):(w.freeze a n).heap.size=w.heap.size:=by
 unfold World.freeze;split
 ·rfl
 ·simp
theorem lF (w:World)(a:Addr)(n:Nat):(w.freeze a n).os=w.os/\TapeOk w (w.freeze a n)/\(w.freeze a n).output=w.output:=by
 unfold World.freeze;split <;> exact ⟨rfl,.refl _,rfl⟩
theorem sM (off:Nat): ∀ (q:List (Value×Nat))(a:Array Value),(q.foldl (fun cs (c,j)=>cs.setIfInBounds (off+j) c) a).size=a.size
 | [],_=>rfl
 | c::q,a=>by simp only [foldl_cons]; rw [sM off q]; simp
theorem vv (place:Nat->Option (Nat×Nat)): ∀ (l:List (Nat×Value))(a r:Array Value),Instr.fill place a l=some r->r.size=a.size
 | [],a,r,h=>by simp only [Instr.fill,Option.some.injEq] at h; rw [h]
 | (i,v)::l,a,r,h=>by
  simp only [Instr.fill] at h;split at h
  ·cases h
  ·split at h
   ·cases h
   ·rw [vv place l _ _ h,<-foldl_toList];exact sM _ _ a
theorem lL (f:Nat->Value)(n:Nat)(h:n=0):(Array.range n).map f = #[]:=by
 subst h; apply Array.ext'; simp
set_option maxHeartbeats 1000000 in
theorem jb {ρ ρ':Operand->Value}(hρ: ∀ x,VRel β (ρ x) (ρ' x)){o:Oper}{B:Blk}{f:Nat->Value}{w:World}(hv:aM P ρ o=some (B,f)):
  ∃ v' w',(execOp ρ' o).run P w = .ok (.value v') w'/\Allocs β w B f v' w':=by
 unfold aM at hv;unfold execOp;split at hv
 ·next t ho=>
  simp only [ho];split at hv
  ·next z hz=>
   split at hv
   ·next hsc=>
    simp only [Option.some.injEq,Prod.mk.injEq] at hv;obtain ⟨rfl,rfl⟩:=hv;refine ⟨_,_,dh (v:= .pointer (some ⟨w.heap.size,0,none⟩)) (w':=w.alloc (.cells z.cells.toList.toArray t)) ?_,jX (LRel.refl_plain (cH hz).1) fun β' k sl h1 h2 h3 h4 h5 h6=>Db h1 h2 h3 h6⟩;simp [Instr.alloc,iD hz,newVar,dW]
   ·cases hv
  ·cases hv
 ·next t x ho=>
  simp only [ho];split at hv
  ·next hsc=>
   simp only [Option.some.injEq,Prod.mk.injEq] at hv;obtain ⟨rfl,rfl⟩:=hv;have hx:=hρ x;have hj:ρ x≠Ab.junk:=by
    intro e;rw [e] at hsc
    cases hsc
   have hc:=hx.cells hj;refine ⟨_,_,dh (v:= .pointer (some ⟨w.heap.size,0,none⟩)) (w':=w.alloc (.cells (ρ' x).cells.toList.toArray t)) ?_,jX (ARel.toList.1 hc) fun β' k sl h1 h2 h3 h4 h5 h6=>Db h1 h2 h3 h6⟩;simp [Instr.box,newVar,dW]
  ·cases hv
 ·next t len parts ho=>
  simp only [ho];split at hv
  ·next e hu=>
   split at hv
   ·next sz z hsz hz=>
    split at hv
    ·next hc=>
     obtain ⟨hzs,hpos,hlim⟩:=hc;split at hv
     ·next cs hcs=>
      split at hcs
      ·next hj=>
       split at hv
       ·next hsc=>
        simp only [Option.some.injEq,Prod.mk.injEq] at hv;obtain ⟨rfl,rfl⟩:=hv;have hrow:ARel β (aZ z.cells.toList len).toArray (aZ z.cells.toList len).toArray:=ARel.toList.2 (by simpa using ja (LRel.refl_plain (cH hz).1) len);have hpr:PRel β (parts.toList.map fun p=>(p.1,ρ p.2)) (parts.toList.map fun p=>(p.1,ρ' p.2)):=PRel.map parts.toList (·.1) fun p _=>hρ p.2;obtain ⟨cs',hf,hr⟩:=nY _ _ _ _ _ _ hpr (by
         intro p hp;simp only [List.mem_map] at hp;obtain ⟨q,hq,rfl⟩:=hp;exact all_eq_true.1 hj q hq) hrow hcs
        have hsize:cs'.size=len*sz:=by
         rw [vv _ _ _ _ hf];simp [dS,hzs]
        refine ⟨_,_,dh (v:= .slice (some ⟨w.heap.size,0,none⟩) len len) (w':=w.alloc (.cells cs'.toList.toArray e)) ?_,jX (ARel.toList.1 hr) fun β' k sl h1 h2 h3 h4 h5 h6=>
         mt h1 h2 h3 h6 (fun _=>rfl) (fun h=>absurd h (by rw [rx]; have:len<=len*sz:=Nat.le_mul_of_pos_right _ hpos; omega))
          (by rw [rR (by rw [rx]; have:len<=len*sz:=Nat.le_mul_of_pos_right _ hpos; omega)]; exact le_refl _) (.inr (by rw [h5,h4]; simp [hsize]))⟩
        have he:(parts.map fun (i,x)=>(i,ρ' x)).toList=(parts.toList.map fun p=>(p.1,ρ' p.2)):=by simp
        have hzr:((Array.range (len*sz)).map (z.cells[· % z.cells.size]!))=(aZ z.cells.toList len).toArray:=by
         rw [<-hzs]; exact nr z.cells len (by omega)
        simp only [Instr.buildSlice,run_bind,am hu,andThen_ok,bP hsz,run_ite];rw [if_neg (by omega)];by_cases hl0:len*sz=0
        ·rw [if_pos hl0];have:len=0:=by rcases Nat.mul_eq_zero.1 hl0 with h | h; exact h; omega
         subst this;simp only [aZ] at hf;simp only [Sem.run_pure,andThen_ok,he];rw [lL _ _ (by simp)];have hf':Instr.fill (fun i=>some (i*sz,sz)) #[] (parts.toList.map fun p=>(p.1,ρ' p.2))=some cs':=hf;rw [hf'];simp [dW]
        ·rw [if_neg hl0];simp only [run_bind,iD hz,Sem.run_pure,andThen_ok,hzr,he,hf];simp [dW]
       ·cases hv
      ·cases hcs
     ·cases hv
    ·cases hv
   ·cases hv
  ·cases hv
 ·next t l c ho=>
  simp only [ho];have hl:=hρ l;have hc:=hρ c;split at hv
  ·next e l0 c0 hu hla hca=>
   rw [hla] at hl;rw [hca] at hc;split at hv
   ·next i z hi hz=>
    split at hv
    ·next hcond=>
     obtain ⟨hzs,hpos,h0,h1,h2,h3⟩:=hcond;simp only [Option.some.injEq,Prod.mk.injEq] at hv;obtain ⟨rfl,rfl⟩:=hv;have hrow:LRel β (aZ z.cells.toList c0.toNat) (aZ z.cells.toList c0.toNat):=ja (LRel.refl_plain (cH hz).1) _;have hsz:al P e=some i.size:=by simp [al,hi]
     refine ⟨_,_,dh (v:= .slice (some ⟨w.heap.size,0,none⟩) l0.toNat c0.toNat) (w':=w.alloc (.cells (aZ z.cells.toList c0.toNat).toArray e)) ?_,jX hrow fun β' k sl h1' h2' h3' h4 h5 h6=>
      mt h1' h2' h3' h6 (fun _=>rfl) (fun h=>absurd h (by rw [rx]; omega)) (by rw [rR (by rw [rx]; omega)]; omega) (.inr (by rw [h5,h4,dS]; simp [hzs]))⟩
     have hw1:IntKind.i64.wrap l0=l0:=by rw [wrap_i64]; omega
     have hw2:IntKind.i64.wrap c0=c0:=by rw [wrap_i64]; omega
     simp only [Instr.makeSlice,run_bind,am hu,andThen_ok,hl.inv_int,hc.inv_int,asInt,asIntOf,Sem.run_pure,kY hi,hw1,hw2,run_ite];have hib:(i.bytes:Int)*c0<=140737488355328:=by rw [Int.mul_comm]; exact h2
     rw [if_neg (by simp; omega)];simp only [run_askRoom,andThen_ok,bP hsz];by_cases hc0:c0.toNat*i.size=0
     ·rw [if_pos hc0];have:c0.toNat=0:=by rcases Nat.mul_eq_zero.1 hc0 with h | h; exact h; omega
      rw [lL _ _ hc0,dW,this];rfl
     ·rw [if_neg hc0];have hzr:=nr z.cells c0.toNat (by omega);rw [hzs] at hzr;simp only [iD hz,andThen_ok,hzs];rw [hzr,dW];rfl
    ·cases hv
   ·cases hv
  ·cases hv
 ·next t r ho=>
  simp only [ho];have hnew: ∀ v',v'=Value.map (some w.heap.size)->Allocs β w (.map []) (fun k=> .map (some k)) v' (w.alloc (.map #[] 0)):=fun v' he=>
   {
    size:=by simp,os:=rfl,tape:= .refl _,output:=rfl,kept:=fun b hb=>fS _ hb
    new:=⟨⟨w.heap.size,0,0,0,0,true⟩,rfl,fun β' k _ hk=>⟨⟨rfl,#[],0,eO _,rfl,fun i p e h=>by simp at h⟩,by rw [he]; exact .map (sl:=⟨w.heap.size,0,0,0,0,true⟩) hk rfl⟩⟩ }
  split at hv
  ·next kt e hu=>
   split at hv
   ·simp only [Option.some.injEq,Prod.mk.injEq] at hv;obtain ⟨rfl,rfl⟩:=hv;refine ⟨_,_,dh (v:= .map (some w.heap.size)) (w':=w.alloc (.map #[] 0)) ?_,hnew _ rfl⟩;simp [Instr.makeMap]
   ·next x=>
    split at hv
    ·next k n hx=>
     have hxr:=hρ x;rw [hx] at hxr;simp only [Option.some.injEq,Prod.mk.injEq] at hv;obtain ⟨rfl,rfl⟩:=hv;refine ⟨_,_,dh (v:= .map (some w.heap.size)) (w':=w.alloc (.map #[] 0)) ?_,hnew _ rfl⟩;simp [Instr.makeMap,am hu,hxr.inv_int,asInt,asIntOf]
    ·cases hv
  ·cases hv
 ·next s d x ho=>
  simp only [ho];have hx:=hρ x;split at hv
  ·next ds e s0 h1 h2 ha=>
   rw [ha] at hx;split at hv
   ·next he=>
    split at hv
    ·next hsz=>
     simp only [Option.some.injEq,Prod.mk.injEq] at hv;obtain ⟨rfl,rfl⟩:=hv;have hcut:(Question.appendCap s0.size 0 e).forced=false:=rfl;obtain ⟨cap,hcap,hle⟩: ∃ cap,(Question.appendCap s0.size 0 e).cut (w.tape w.drawn (.appendCap s0.size 0 e))=cap/\s0.size<=cap:=⟨_,rfl,by simp [Question.cut]⟩
     let cells:Array Value:=(s0.data.map fun b=>Value.int .u8 b.toNat)++Array.replicate (cap - s0.size) (.int .u8 0)
     have hcs:cells.size=cap:=by simp [cells]; omega
     let w1:World:=w.drew.alloc (.cells cells e)
     let w2:World:=w1.freeze ⟨w.heap.size,cap,none⟩ 1
     have hnew:w2.heap[w.heap.size]?=some (.cells cells e (cap,cap+1)):=by
      have h1:w1.heap[w.heap.size]?=some (.cells cells e):=eO (w:=w.drew) _;simp only [w2,je _ _ (Nat.succ_ne_zero 0),if_true,h1,map_some,NX,BEq.rfl]
     refine ⟨_,w2,dh (v:= .slice (some ⟨w.heap.size,0,none⟩) s0.size cap) (w':=w2) ?_,?_⟩
     ·have hsh:w1.shape? w.heap.size=some (e,cap):=by
       have h1:w1.heap[w.heap.size]?=some (.cells cells e):=eO (w:=w.drew) _;simp [World.shape?,h1,hcs]
      have hconv:(convert s d (ρ' x)).run P w=(Conv.stringToBytes e s0).run P w:=by
       rw [hx.inv_string];simp only [convert,run_bind,am h1,am h2,andThen_ok]
       cases ds <;> simp only [am he,andThen_ok]
      rw [hconv];simp only [Conv.stringToBytes,run_bind,run_choose,hcut,false_eq_true,if_false,andThen_ok,hcap,dW];show (Sem.run P (markStringish ⟨w.heap.size,0,none⟩) w1).andThen _=_;simp only [markStringish,run_bind,run_shape,hsh,andThen_ok,run_freeze,Sem.run_pure];rfl
     ·refine { size:= ?_,os:=rfl,tape:=⟨rfl,Nat.le_succ _⟩,output:=rfl,kept:= ?_,new:=⟨⟨w.heap.size,0,cap,e,1,false⟩,rfl,?_⟩ }
      ·simp [w2,w1,qs]
      ·intro b hb;have:w1.heap[b]?=w.heap[b]?:=fS (w:=w.drew) _ hb;simp only [w2,je _ _ (Nat.succ_ne_zero 0)];rw [if_neg (by omega)];exact this
      ·intro β' k hle' hk;refine ⟨⟨rfl,rfl,⟨rfl,fun _=>rfl⟩,cells,(cap,cap+1),hnew,hcs,?_,fun _ x h1 h2=>by rw [hcs]; exact h1⟩,?_⟩
       ·intro i v hv;simp only [getElem?_map,map_eq_some_iff] at hv;obtain ⟨b,hb,rfl⟩:=hv;refine ⟨_,?_,.int _ _⟩;have hi:i < s0.data.size:=by
         have:=(List.getElem?_eq_some_iff.1 hb).1; simpa using this
        simp only [cells,zero_add];rw [Array.getElem?_append_left (by simpa using hi)];rw [getElem?_toList] at hb;simp [hb]
       ·have:s0.data.toList.length=s0.size:=by simp
        rw [this];exact mt (w:=w) hk rfl rfl rfl (fun h=>absurd h (by omega)) (fun _=>by omega) (by rw [bH]; exact le_refl _) (.inr (by simp))
    ·cases hv
   ·cases hv
  ·cases hv
 ·cases hv
end
section
variable {β:Inj} {P:Program}
structure At (w w':World)(b:Nat):Prop where
 size:w'.heap.size=w.heap.size
 os:w'.os=w.os
 tape:TapeOk w w'
 output:w'.output=w.output
 kept: ∀ b',b'≠b->w'.heap[b']?=w.heap[b']?
theorem At.refl (w:World)(b:Nat):At w w b:=⟨rfl,rfl,.refl _,rfl,fun _ _=>rfl⟩
theorem At.trans {w w₁ w₂:World}{b:Nat}(h:At w w₁ b)(h':At w₁ w₂ b):At w w₂ b:=
 ⟨h'.size.trans h.size,h'.os.trans h.os,h.tape.trans h'.tape,h'.output.trans h.output,fun b' hb=>(h'.kept b' hb).trans (h.kept b' hb)⟩
theorem Step.at_ {h:Heap}{w w':World}(hs:Sim β h w){k:Nat}{B₀ B:Blk}{sl:Slot}(hk:h.get k=some B₀)(hb:β k=some sl)(hw:B₀.wr=true)(ha:At w w' sl.b)(hB:BRel β B sl w'):Step β h w β (h.set k B) w':=by
 have hown: ∀ k' B' sl',k'≠k->h.get k'=some B'->β k'=some sl'->sl'.b≠sl.b:=fun k' B' sl' hne h1 h2=>(hs.own k k' B₀ B' sl sl' (Ne.symm hne) hk h1 hb h2 hw).symm;refine ⟨β.le_refl,le_refl _,⟨?_,?_,?_,Heap.wf_set hs.wf B (hs.lt k sl hb).1⟩,by rw [ha.size]; exact le_refl _,ha.os,ha.tape,ha.output,?_,?_,fun _ _ h=> .inl h,?_⟩
 ·intro k' sl' h1;rw [ha.size];exact hs.lt k' sl' h1
 ·intro k' B' sl' h1 h2;by_cases hne:k'=k
  ·subst hne;rw [h.get_set_same] at h1;obtain rfl:=oI h1;rw [hb] at h2;obtain rfl:=oI h2;exact hB
  ·rw [h.get_set_ne k k' B hne] at h1;exact (hs.blk k' B' sl' h1 h2).of_heap (ha.kept _ (hown k' B' sl' hne h1 h2))
 ·intro k₁ k₂ B₁ B₂ sl₁ sl₂ hne h1 h2 h3 h4 h5;by_cases hk1:k₁=k
  ·subst hk1;rw [h.get_set_ne k₁ k₂ B (Ne.symm hne)] at h2;rw [hb] at h3;obtain rfl:=oI h3;exact (hown k₂ B₂ sl₂ (Ne.symm hne) h2 h4).symm
  ·rw [h.get_set_ne k k₁ B hk1] at h1;by_cases hk2:k₂=k
   ·subst hk2;rw [hb] at h4;obtain rfl:=oI h4;exact hown k₁ B₁ sl₁ hk1 h1 h3
   ·rw [h.get_set_ne k k₂ B hk2] at h2;exact hs.own k₁ k₂ B₁ B₂ sl₁ sl₂ hne h1 h2 h3 h4 h5
 ·intro b hb' hn;refine ha.kept b ?_;rintro rfl;exact hn ⟨k,B₀,sl,hk,hw,hb,rfl⟩
 ·rintro b hb' ⟨k',B',sl',h1,h2,h3,h4⟩;by_cases hne:k'=k
  ·subst hne;exact ⟨k',B₀,sl',hk,hw,h3,h4⟩
  ·rw [h.get_set_ne k k' B hne] at h1;exact ⟨k',B',sl',h1,h2,h3,h4⟩
 ·intro k' B' h1 h2;by_cases hne:k'=k
  ·subst hne; exact ⟨B₀,hk⟩
  ·rw [h.get_set_ne k k' B hne] at h1; exact ⟨B',h1⟩
def splice (cur:Array Value)(o:Nat)(vs:List Value):Array Value:=(cur.toList.take o++vs++cur.toList.drop (o+vs.length)).toArray
theorem AQ (cur:Array Value)(o:Nat):splice cur o []=cur:=by apply Array.ext'; simp [splice]
theorem kT {cur:Array Value}{o:Nat}{vs:List Value}(h:o+vs.length<=cur.size):(splice cur o vs).size=cur.size:=by simp [splice]; omega
theorem Ah {cur:Array Value}{o:Nat}{v:Value}{vs:List Value}(h:o+(vs.length+1)<=cur.size):splice (cur.setIfInBounds o v) (o+1) vs=splice cur o (v::vs):=by
 have ho:o < cur.toList.length:=by simp; omega
 have h1:(cur.toList.set o v).take (o+1)=cur.toList.take o++[v]:=by
  rw [List.take_succ_eq_append_getElem (by simpa using ho),List.take_set_of_le (le_refl _)];simp
 have h2:(cur.toList.set o v).drop (o+1+vs.length)=cur.toList.drop (o+(vs.length+1)):=by
  rw [List.drop_set_of_lt (by omega)];congr 1; omega
 unfold splice;rw [Array.toList_setIfInBounds,h1,h2];simp
theorem Bc (w:World){b o:Nat}{cur:Array Value}{t:TypeId}{fr:Nat×Nat}(v:Value)(hw:w.heap[b]?=some (.cells cur t fr)):
  At w (w.setCell ⟨b,o,none⟩ v) b/\(w.setCell ⟨b,o,none⟩ v).heap[b]?=some (.cells (cur.setIfInBounds o v) t fr):=by
 refine ⟨⟨by simp [World.setCell],rfl,⟨rfl,le_refl _⟩,rfl,fun b' hb=> ?_⟩,?_⟩
 ·simp only [World.setCell,Array.getElem?_modify];rw [if_neg (Ne.symm hb)]
 ·simp only [World.setCell,Array.getElem?_modify,if_true,hw,map_some];simp
theorem j6 (b o:Nat)(t:TypeId)(fr:Nat×Nat): ∀ (vs:List Value)(i:Nat)(cur:Array Value)(w:World),w.heap[b]?=some (.cells cur t fr)->H1 fr cur.size->o+i+vs.length<=cur.size->
  (∀ v∈vs,v.oneCell'=true)-> ∃ w',(storeCells ⟨b,o,none⟩ vs i).run P w = .ok () w'/\At w w' b/\w'.heap[b]?=some (.cells (splice cur (o+i) vs) t fr)
 | [],i,cur,w,hw,_,_,_=>⟨w,rfl,At.refl w b,by rw [AQ]; exact hw⟩
 | v::vs,i,cur,w,hw,hf,hl,h1=>by
  simp only [List.length_cons] at hl;have hc:w.cell? ⟨b,o+i,none⟩=some cur[o+i]:=by rw [gQ hw]; exact getElem?_eq_getElem (by omega)
  have hfr:w.frozen? ⟨b,o+i,none⟩=false:=by
   simp only [World.frozen?,hw];rw [Bool.and_eq_false_iff];by_cases h2:fr.1<=o+i
   ·right;simp only [decide_eq_false_iff_not];intro h3;have:=hf _ h2 h3;omega
   ·left; simpa using h2
  have hst:(store ((⟨b,o,none⟩:Addr).add i) v).run P w = .ok () (w.setCell ⟨b,o+i,none⟩ v):=by
   rw [bu,run_store P w _ v .plain (h1 v List.mem_cons_self),hc];simp [hfr]
  obtain ⟨ha,hw'⟩:=Bc w (o:=o+i) v hw;obtain ⟨w',hr,ha',hh⟩:=j6 b o t fr vs (i+1) _ _ hw' (by simpa using hf) (by simp; omega) fun u hu=>h1 u (List.mem_cons_of_mem _ hu);refine ⟨w',?_,ha.trans ha',?_⟩
  ·simp only [storeCells,run_bind,hst,andThen_ok,hr]
  ·rw [hh,<-Ah (cur:=cur) (o:=o+i) (by omega)];rfl
theorem LRel.scalars {l l':List Value}(h:LRel β l l')(hs:l.all bI=true): ∀ v∈l',v.oneCell'=true:=fun v hv=>by
 obtain ⟨i,hi,rfl⟩:=List.mem_iff_getElem.1 hv;have hi':i < l.length:=h.1 ▸ hi;exact ((h.2 i _ _ (gE hi') (gE hi)).scalar_one (all_eq_true.1 hs _ (List.getElem_mem hi'))).1
theorem CellsAt.splice {cs vs vs':List Value}{s i:Nat}{cs':Array Value}(hc:CellsAt β cs s cs')(hv:LRel β vs vs')(hi:i+vs.length<=cs.length)(hl:s+i+vs.length<=cs'.size):
  CellsAt β (cs.take i++vs++cs.drop (i+vs.length)) s (Ab.splice cs' (s+i) vs'):=by
 have hlen:vs'.length=vs.length:=hv.1.symm;intro j v hj;have hsp: ∀ j,(Ab.splice cs' (s+i) vs')[s+j]?=if j < i then cs'[s+j]? else if j < i+vs.length then vs'[j - i]? else cs'[s+j]?:=by
  intro j;simp only [Ab.splice,List.getElem?_toArray];by_cases h1:j < i
  ·rw [if_pos h1,List.append_assoc,getElem?_append_left (by simp; omega),getElem?_take,if_pos (by omega),getElem?_toList]
  ·rw [if_neg h1];by_cases h2:j < i+vs.length
   ·rw [if_pos h2,getElem?_append_left (by simp; omega),getElem?_append_right (by simp; omega)];congr 1; simp; omega
   ·rw [if_neg h2,getElem?_append_right (by simp; omega),getElem?_drop,getElem?_toList];congr 1; simp; omega
 rw [hsp];by_cases h1:j < i
 ·rw [if_pos h1];rw [List.append_assoc,getElem?_append_left (by simp; omega),getElem?_take,if_pos h1] at hj;exact hc j v hj
 ·rw [if_neg h1];by_cases h2:j < i+vs.length
  ·rw [if_pos h2];rw [getElem?_append_left (by simp; omega),getElem?_append_right (by simp; omega)] at hj;have:j - (cs.take i).length=j - i:=by simp; omega
   rw [this] at hj;exact hv.get hj
  ·rw [if_neg h2];rw [getElem?_append_right (by simp; omega),getElem?_drop] at hj;have:i+vs.length+(j - (cs.take i++vs).length)=j:=by simp; omega
   rw [this] at hj;exact hc j v hj
theorem mj {h:Heap}{w:World}(hs:Sim β h w){k i:Nat}{sl:Slot}{vs vs':List Value}{u:Upd}(hst:storeAt h k i vs=some u)(hb:β k=some sl)(hv:LRel β vs vs'):
  ∃ w',(storeCells ⟨sl.b,sl.s+i,none⟩ vs').run P w = .ok () w'/\Step β h w β (u.app h) w':=by
 unfold storeAt at hst;split at hst
 ·next cs t sz hk=>
  split at hst
  ·next hc=>
   obtain ⟨hl,hsc⟩:=hc;obtain rfl:=oI hst;obtain ⟨hm,ht,hz,cs',fr,hw,hn,hcells,hfr⟩:=hs.blk k _ sl hk hb;by_cases he:vs=[]
   ·subst he;have:=hv.inv_nil;subst this;refine ⟨w,rfl,Step.at_ hs hk hb rfl (At.refl w _) ?_⟩;simp only [List.append_nil,List.length_nil,Nat.add_zero,List.take_append_drop];exact ⟨hm,ht,hz,cs',fr,hw,hn,hcells,hfr⟩
   ·have hpos:0 < vs.length:=List.length_pos_iff.2 he;have hbound:sl.s+i+vs.length<=cs'.size:=by
     obtain ⟨v',h1,_⟩:=hcells (i+vs.length - 1) _ (gE (by omega));have:=(Array.getElem?_eq_some_iff.1 h1).1;omega
    obtain ⟨w',hr,ha,hh⟩:=j6 (P:=P) sl.b (sl.s+i) t fr vs' 0 cs' w hw (hfr rfl) (by rw [<-hv.1]; omega) (hv.scalars hsc);refine ⟨w',hr,Step.at_ hs hk hb rfl ha ⟨hm,ht,hz,_,fr,hh,?_,hcells.splice hv hl hbound,fun _=> ?_⟩⟩
    ·rw [kT (by rw [<-hv.1]; omega)]; exact hn
    ·rw [kT (by rw [<-hv.1]; omega)]; exact hfr rfl
  ·cases hst
 ·cases hst
end
section
variable {β:Inj} {P:Program}
theorem wS {e:TypeId}{i:TypeInfo}(h:dA P e=some i):P.info? e=some i/\0 < i.size/\ ∃ z,i.zero=some z/\z.cells.size=i.size/\cw P e=some z:=by
 unfold dA at h;split at h
 ·next i' z hi hz=>
  split at h
  ·next hc=>
   obtain rfl:=oI h;obtain ⟨_,j,hj,hjz⟩:=cH hz;rw [hi] at hj;obtain rfl:=oI hj;exact ⟨hi,hc.2,z,hjz,hc.1,hz⟩
  ·cases h
 ·cases h
theorem jL {h:Heap}{w:World}(hs:Sim β h w){sz:Nat}{x x':Value}{news:List Value}{m:Nat}(hx:cz h sz x=some (news,m))(hv:VRel β x x'):
  (∀ w,(Builtin.lenOf x').run P w = .ok m w)/\ ∀ j,j<=m-> ∃ l',(∀ w',(∀ b,b < w.heap.size->w'.heap[b]?=w.heap[b]?)->(Builtin.firstCells sz j x').run P w' = .ok l'.toArray w')/\LRel β (news.take (j*sz)) l':=by
 unfold cz at hx;split at hx
 ·simp only [Option.some.injEq,Prod.mk.injEq] at hx;obtain ⟨rfl,rfl⟩:=hx;obtain ⟨_,_,rfl⟩:=hv.inv_nilSlice;refine ⟨fun w=>rfl,fun j hj=>⟨[],fun w' _=>by simp [Builtin.firstCells],by simp; exact .nil β⟩⟩
 ·simp only [Option.some.injEq,Prod.mk.injEq] at hx;obtain ⟨rfl,rfl⟩:=hx
  cases hv
  refine ⟨fun w=>rfl,fun j hj=>⟨[],fun w' _=> ?_,by simp; exact .nil β⟩⟩;obtain rfl:j=0:=by omega
  simp [Builtin.firstCells,loadCells,loadCellsFrom]
 ·next k i n c=>
  split at hx
  ·next cs t sz' wr hk=>
   split at hx
   ·next hl=>
    simp only [Option.some.injEq,Prod.mk.injEq] at hx;obtain ⟨rfl,rfl⟩:=hx;obtain ⟨sl,i',c',hb,hm,_,rfl,hx1,ho1,hn1,hi1,hz1⟩:=hv.inv_slice;obtain ⟨_,_,_,cs',fr,hw,hn,hcells,_⟩:=hs.row hk hb;refine ⟨fun w=>rfl,fun j hj=> ?_⟩;by_cases hj0:j=0
    ·subst hj0;exact ⟨[],fun w' _=>by simp [Builtin.firstCells,loadCells,loadCellsFrom],by simp; exact .nil β⟩
    ·have hi2:i'=sl.s+i:=by rcases hi1 with h1 | ⟨h1,h2⟩; exact h1; exact absurd h1 (by omega)
     subst hi2;have hjs:j*sz<=n*sz:=Nat.mul_le_mul_right _ hj;have hl':((cs.drop i).take (j*sz)).length=j*sz:=by
      simp only [List.length_take,List.length_drop] at hl ⊢; omega
     have hlt:=(hs.lt k sl hb).2;have key:=mo (P:=P) hw hcells i (j*sz) hl';obtain ⟨l',hr,hrel⟩:=key;refine ⟨l',fun w' hw'=> ?_,?_⟩
     ·obtain ⟨l2,hr2,hrel2⟩:=mo (P:=P) (w:=w') (by rw [hw' _ hlt]; exact hw) hcells i (j*sz) hl';have:(loadCells ⟨sl.b,sl.s+i,none⟩ (j*sz)).run P w' = .ok l'.toArray w':=by
       have e1: ∀ q,q < j*sz->w.cell? ((⟨sl.b,sl.s+i,none⟩:Addr).add q)=some (l'.getD q undef):=by
        intro q hq;have hlen:l'.length=j*sz:=by rw [<-hrel.1,hl']
        have hq':q < ((cs.drop i).take (j*sz)).length:=by omega
        have hg:=gE hq';rw [getElem?_take,if_pos hq,getElem?_drop] at hg;obtain ⟨v',h1,_⟩:=hcells _ _ hg;have h2:=run_loadCells (P:=P) w ⟨sl.b,sl.s+i,none⟩ (j*sz) (fun q=>cs'.getD (sl.s+(i+q)) undef) (by
         intro q2 hq2;have hq3:q2 < ((cs.drop i).take (j*sz)).length:=by omega
         have hg2:=gE hq3;rw [getElem?_take,if_pos hq2,getElem?_drop] at hg2;obtain ⟨v2,h3,_⟩:=hcells _ _ hg2;rw [bu,gQ hw,show sl.s+i+q2=sl.s+(i+q2) by omega,h3];simp [Array.getD_eq_getD_getElem?,h3])
        rw [hr] at h2;simp only [Result.ok.injEq,and_true] at h2;have h4:l'=(List.range (j*sz)).map fun q=>cs'.getD (sl.s+(i+q)) undef:=by simpa using congrArg Array.toList h2
        rw [bu,gQ hw,show sl.s+i+q=sl.s+(i+q) by omega,h1,h4];simp [List.getD,hq,Array.getD_eq_getD_getElem?,h1]
       have hlen:l'.length=j*sz:=by rw [<-hrel.1,hl']
       have e2:=run_loadCells (P:=P) w' ⟨sl.b,sl.s+i,none⟩ (j*sz) (fun q=>l'.getD q undef) (by
        intro q hq;have:w'.cell? ((⟨sl.b,sl.s+i,none⟩:Addr).add q)=w.cell? ((⟨sl.b,sl.s+i,none⟩:Addr).add q):=by
         rw [bu]; simp [World.cell?,hw' _ hlt]
        rw [this]; exact e1 q hq)
       rw [e2];congr 2;apply List.ext_getElem?;intro q;by_cases hq:q < j*sz
       ·simp [hq,List.getD,gE (show q < l'.length by omega)]
       ·rw [getElem?_eq_none (by simp; omega),getElem?_eq_none (by omega)]
      exact this
     ·rw [List.take_take,Nat.min_eq_left hjs]; exact hrel
   ·cases hx
  ·cases hx
 ·next s=>
  split at hx
  ·next hsz=>
   subst hsz;simp only [Option.some.injEq,Prod.mk.injEq] at hx;obtain ⟨rfl,rfl⟩:=hx
   cases hv.inv_string
   refine ⟨fun w=>by simp [Builtin.lenOf],fun j hj=>⟨(s.data.toList.map fun b=>Value.int .u8 b.toNat).take j,fun w' _=> ?_,?_⟩⟩
   ·simp only [Builtin.firstCells,Sem.run_pure];congr 1;apply Array.ext';simp [ByteArray.data_extract,Array.toList_extract]
   ·rw [Nat.mul_one,<-List.map_take];exact LRel.map _ fun b _=> .int _ _
  ·cases hx
 ·cases hx
theorem kO {t':TypeId}(h:ca P t'=true):P.underlying t'=some .string\/ ∃ e,P.underlying t'=some (.slice e):=by
 unfold ca at h;split at h
 ·next e hu=>exact .inr ⟨_,hu⟩
 ·next hu=>exact .inl hu
 ·cases h
theorem fT {t t' ty e:TypeId}{i:TypeInfo}(ht:P.underlying t=some (.slice e))(hi:P.info? e=some i)(ht':ca P t'=true){base:Option Addr}{n c m:Nat}{x':Value}{news:List Value}{w w':World}
  (hm: ∀ w,(Builtin.lenOf x').run P w = .ok m w) (hn:(Builtin.firstCells i.size m x').run P w = .ok news.toArray w) (hc:n+m<=c)
  (hst:(match base with | some a=>storeCells (a.add (n*i.size)) news | none=>pure ():Sem Unit).run P w = .ok () w'):
  (Builtin.append_ #[t,t'] ty #[.slice base n c,x']).run P w = .ok (.slice base (n+m) c) w':=by
 have h0:(#[t,t']:Array TypeId)[0]?=some t:=rfl;have h1:(#[t,t']:Array TypeId)[1]?=some t':=rfl;have h2:(#[Value.slice base n c,x']:Array Value)[0]?=some (.slice base n c):=rfl;have h3:(#[Value.slice base n c,x']:Array Value)[1]?=some x':=rfl;have hrs: ∀ w,(sizeOf e).run P w = .ok i.size w:=bP (by simp [al,hi]);rcases kO ht' with hu | ⟨e',hu⟩
 all_goals
  simp only [Builtin.append_,h0,h1,h2,h3,run_bind,am ht,andThen_ok,hrs,am hu,Sem.run_pure,false_eq_true,if_false,hm,run_ite];rw [if_pos hc];simp only [Bool.not_false,if_true,hn,andThen_ok]
  cases base with
  | none=>
   simp only [Sem.run_pure,Result.ok.injEq,true_and] at hst;subst hst;rfl
  | some a=>
   dsimp only at hst;simp only [run_bind,hst,andThen_ok,Sem.run_pure]
theorem it {t t' ty e:TypeId}{i:TypeInfo}{z:Value}(ht:P.underlying t=some (.slice e))(hi:P.info? e=some i)(hz:i.zero=some z)(ht':ca P t'=true){base:Option Addr}{n c m:Nat}{x':Value}
  {olds news:List Value} {w:World} (hm: ∀ w,(Builtin.lenOf x').run P w = .ok m w) (ho:(Builtin.firstCells i.size n (.slice base n c)).run P w.drew = .ok olds.toArray w.drew)
  (hn:(Builtin.firstCells i.size m x').run P w.drew = .ok news.toArray w.drew) (hc:c < n+m) (hb:(n+m)*i.bytes<=70368744177664) (hl:n+m<=1099511627776):
  (Builtin.append_ #[t,t'] ty #[.slice base n c,x']).run P w = .ok (.slice (some ⟨w.heap.size,0,none⟩) (n+m) (grownCap w (n+m) c e))
   (w.drew.alloc (.cells (olds++news++(Builtin.zeroCells z.cells (grownCap w (n+m) c e - (n+m))).toList).toArray e)):=by
 have h0:(#[t,t']:Array TypeId)[0]?=some t:=rfl;have h1:(#[t,t']:Array TypeId)[1]?=some t':=rfl;have h2:(#[Value.slice base n c,x']:Array Value)[0]?=some (.slice base n c):=rfl;have h3:(#[Value.slice base n c,x']:Array Value)[1]?=some x':=rfl;have hrs: ∀ w,(sizeOf e).run P w = .ok i.size w:=bP (by simp [al,hi]);have hrz: ∀ w,(zeroValue e).run P w = .ok z w:=fun w=>by simp [zeroValue,kY hi,hz]
 have hfit:=growslice_fits (need:=n+m) (old:=c) (bytes:=i.bytes) hc (by omega);have hcut:(Question.appendCap (n+m) c e).forced=false:=rfl;have hmax:IntKind.i64.max=9223372036854775807:=by decide
 rcases kO ht' with hu | ⟨e',hu⟩
 all_goals
  simp only [Builtin.append_,h0,h1,h2,h3,run_bind,am ht,andThen_ok,hrs,am hu,Sem.run_pure,false_eq_true,if_false,hm,run_ite,kY hi,false_or,Bool.not_false,if_true];rw [if_neg (by omega),if_neg (by omega),if_neg (by omega)];simp only [run_choose,hcut,false_eq_true,if_false,andThen_ok,run_askRoom,World.drew_eq,ho,hn,hrz,dW];congr 2;simp only [grownCap];congr 1;apply Array.ext';simp
theorem Cv {h:Heap}{w:World}(hs:Sim β h w)(k:Nat):Sim β (h.del k) w:=
 ⟨fun k' sl hk=>hs.lt k' sl hk,fun k' B sl h1 h2=>by
  rw [h.get_del] at h1; split at h1
  ·cases h1
  ·exact hs.blk k' B sl h1 h2,fun k₁ k₂ B₁ B₂ sl₁ sl₂ hne h1 h2 h3 h4 h5=>by
  rw [h.get_del] at h1 h2;split at h1
  ·cases h1
  ·split at h2
   ·cases h2
   ·exact hs.own k₁ k₂ B₁ B₂ sl₁ sl₂ hne h1 h2 h3 h4 h5,Heap.wf_del hs.wf k⟩
theorem F1 {h:Heap}{w:World}(hs:Sim β h w)(k:Nat):Step β h w β (h.del k) w:=
 ⟨β.le_refl,le_refl _,Cv hs k,le_refl _,rfl,.refl _,rfl,fun _ _ _=>rfl,fun b hb ⟨k',B,sl,h1,h2,h3,h4⟩=>⟨k',B,sl,by
  rw [h.get_del] at h1; split at h1
  ·cases h1
  ·exact h1,h2,h3,h4⟩,fun _ _ h=> .inl h,fun k' B h1 h2=>⟨B,by
  rw [h.get_del] at h1; split at h1
  ·cases h1
  ·exact h1⟩⟩
theorem EN {h:Heap}{w w':World}(hs:Sim β h w){k:Nat}{B₀ B:Blk}{sl sl':Slot}(hk:h.get k=some B₀)(hb:β k=some sl)(hw:B₀.wr=true)(ha:At w w' sl.b)(hsl:sl'.b=sl.b)
  (hB:BRel (β.ext h.next sl') B sl' w'):Step β h w (β.ext h.next sl') ((h.del k).push B) w':=by
 have hlt:=(hs.lt k sl hb).1;have hnone:=hs.none_of_ge (le_refl h.next);have hle:β.le (β.ext h.next sl'):=Inj.le_ext sl' hnone;have hget: ∀ k',k'≠h.next-> ∀ B',((h.del k).push B).get k'=some B'->k'≠k/\h.get k'=some B':=by
  intro k' hne B' hg;rw [(h.del k).get_push_ne k' B hne,h.get_del] at hg;split at hg
  ·cases hg
  ·next hne2=>exact ⟨hne2,hg⟩
 have hnew:((h.del k).push B).get h.next=some B:=(h.del k).get_push_same B;have hown: ∀ k' B' sl'',k'≠k->h.get k'=some B'->β k'=some sl''->sl''.b≠sl.b:=fun k' B' sl'' hne h1 h2=>(hs.own k k' B₀ B' sl sl'' (Ne.symm hne) hk h1 hb h2 hw).symm;refine ⟨hle,by simp,⟨?_,?_,?_,Heap.wf_push (h:=h.del k) (Heap.wf_del hs.wf k) B⟩,by rw [ha.size]; exact le_refl _,ha.os,ha.tape,ha.output,?_,?_,?_,?_⟩
 ·intro k' sl'' h1;rw [ha.size];by_cases hne:k'=h.next
  ·subst hne;rw [β.ext_same] at h1;obtain rfl:=oI h1;exact ⟨by simp,by rw [hsl]; exact (hs.lt k sl hb).2⟩
  ·rw [β.ext_ne sl' hne] at h1;have:=hs.lt k' sl'' h1;exact ⟨by simp; omega,this.2⟩
 ·intro k' B' sl'' h1 h2;by_cases hne:k'=h.next
  ·subst hne;rw [β.ext_same] at h2;obtain rfl:=oI h2;rw [hnew] at h1;obtain rfl:=oI h1;exact hB
  ·rw [β.ext_ne sl' hne] at h2;obtain ⟨hne2,h1⟩:=hget k' hne B' h1;exact ((hs.blk k' B' sl'' h1 h2).mono hle).of_heap (ha.kept _ (hown k' B' sl'' hne2 h1 h2))
 ·intro k₁ k₂ B₁ B₂ sl₁ sl₂ hne h1 h2 h3 h4 h5;by_cases hk1:k₁=h.next
  ·subst hk1;rw [β.ext_same] at h3;obtain rfl:=oI h3;rw [β.ext_ne _ (Ne.symm hne)] at h4;obtain ⟨hne2,h2⟩:=hget k₂ (Ne.symm hne) B₂ h2;rw [hsl];exact (hown k₂ B₂ sl₂ hne2 h2 h4).symm
  ·rw [β.ext_ne _ hk1] at h3;obtain ⟨hne1,h1⟩:=hget k₁ hk1 B₁ h1;by_cases hk2:k₂=h.next
   ·subst hk2;rw [β.ext_same] at h4;obtain rfl:=oI h4;rw [hsl];exact hown k₁ B₁ sl₁ hne1 h1 h3
   ·rw [β.ext_ne _ hk2] at h4;obtain ⟨_,h2⟩:=hget k₂ hk2 B₂ h2;exact hs.own k₁ k₂ B₁ B₂ sl₁ sl₂ hne h1 h2 h3 h4 h5
 ·intro b hb' hn;refine ha.kept b ?_;rintro rfl;exact hn ⟨k,B₀,sl,hk,hw,hb,rfl⟩
 ·rintro b hb' ⟨k',B',sl'',h1,h2,h3,h4⟩;by_cases hne:k'=h.next
  ·subst hne;rw [β.ext_same] at h3;obtain rfl:=oI h3;exact ⟨k,B₀,sl,hk,hw,hb,by rw [<-h4,hsl]⟩
  ·rw [β.ext_ne _ hne] at h3;obtain ⟨_,h1⟩:=hget k' hne B' h1;exact ⟨k',B',sl'',h1,h2,h3,h4⟩
 ·intro k' sl'' h1;by_cases hne:k'=h.next
  ·subst hne;rw [β.ext_same] at h1;obtain rfl:=oI h1;exact .inr ⟨le_refl _,.inr ⟨k,B₀,sl,hk,hw,hb,hsl.symm⟩⟩
  ·rw [β.ext_ne _ hne] at h1;exact .inl h1
 ·intro k' B' h1 h2;obtain ⟨_,h1⟩:=hget k' (by omega) B' h1;exact ⟨B',h1⟩
theorem AM (z:Array Value)(n:Nat):(Builtin.zeroCells z n).size=n*z.size:=by simp [Builtin.zeroCells]
theorem jT {w:World}{e:TypeId}{sz need cap:Nat}{vs vs':List Value}{z:Array Value}(hv:LRel β vs vs')(hl:vs.length=need*sz)(hz:z.size=sz)(hc:need<=cap):
  Allocs β w (.cells vs e sz true) (fun k=> .slice (some ⟨k,0,none⟩) need (bj+need)) (.slice (some ⟨w.heap.size,0,none⟩) need cap) (w.drew.alloc (.cells (vs'++(Builtin.zeroCells z (cap - need)).toList).toArray e)) where
 size:=by simp
 os:=rfl
 tape:=⟨rfl,Nat.le_succ _⟩
 output:=rfl
 kept:=fun b hb=>fS (w:=w.drew) _ hb
 new:=by
  have hsz:(vs'++(Builtin.zeroCells z (cap - need)).toList).toArray.size=cap*sz:=by
   simp only [List.size_toArray,List.length_append,Array.length_toList,AM,hz,<-hv.1,hl,<-add_mul];congr 1; omega
  refine ⟨⟨w.heap.size,0,cap*sz,e,sz,false⟩,rfl,fun β' k hle hk=>⟨⟨rfl,rfl,⟨rfl,fun _=>rfl⟩,_,(0,0),eO (w:=w.drew) _,hsz,?_,fun _=>uO _⟩,?_⟩⟩
  ·intro i v hi;obtain ⟨v',h1,h2⟩:=hv.get hi;refine ⟨v',?_,h2.mono hle⟩;have hi':=(List.getElem?_eq_some_iff.1 h1).1;simp only [zero_add,List.getElem?_toArray];rw [getElem?_append_left hi']; exact h1
  ·exact mt (w:=w) hk rfl rfl rfl (fun h=>absurd h (by omega)) (fun _=>by omega) (by rw [bH]; exact le_refl _) (.inr (le_refl _))
end
section
variable {β:Inj} {P:Program}
theorem mN {l l':List Value}{n:Nat}(h:LRel β (l.take n) l')(hl:l.length=n):LRel β l l':=by
 rwa [List.take_of_length_le (by omega)] at h
theorem jU (w:World)(need old:Nat)(e:TypeId):need<=grownCap w need old e:=by simp [grownCap,Question.cut]
theorem Ea {h:Heap}{w:World}(hs:Sim β h w){k j n c:Nat}{cs:List Value}{e:TypeId}{sz:Nat}{wr:Bool}{s':Value}(hk:h.get k=some (.cells cs e sz wr))(hl:((cs.drop j).take (n*sz)).length=n*sz)
  (hv:VRel β (.slice (some ⟨k,j,none⟩) n c) s'): ∃ l',(∀ w',(∀ b,b < w.heap.size->w'.heap[b]?=w.heap[b]?)->(Builtin.firstCells sz n s').run P w' = .ok l'.toArray w')/\LRel β ((cs.drop j).take (n*sz)) l':=by
 have hx:cz h sz (.slice (some ⟨k,j,none⟩) n c)=some ((cs.drop j).take (n*sz),n):=by
  simp only [cz,hk];rw [if_pos hl]
 obtain ⟨_,h2⟩:=jL (P:=P) hs hx hv;obtain ⟨l',h3,h4⟩:=h2 n (le_refl _);exact ⟨l',h3,mN h4 hl⟩
set_option maxHeartbeats 1000000 in
theorem Cm {h:Heap}{w:World}(hs:Sim β h w){t t' ty:TypeId}{s x s' x' v:Value}{u:Upd}(hv:aJ P t t' s x h=some (v,u))(hvs:VRel β s s')(hvx:VRel β x x'):
  ∃ v' w' β',(Builtin.append_ #[t,t'] ty #[s',x']).run P w = .ok v' w'/\Step β h w β' (u.app h) w'/\VRel β' v v':=by
 unfold aJ at hv;split at hv
 ·next e ht=>
  split at hv
  ·next i hre=>
   obtain ⟨hi,hpos,z,hz,hzs,hzz⟩:=wS hre;split at hv
   ·next htl=>
    split at hv
    ·next news m hsrc=>
     obtain ⟨hlen,hcells⟩:=jL (P:=P) hs hsrc hvx;obtain ⟨news',hrn,hrel⟩:=hcells m (le_refl _);split at hv
     ·next hnc=>
      obtain ⟨hsc,hnl⟩:=hnc;have hrel:=mN hrel hnl;have hnl':news'.length=m*i.size:=by rw [<-hrel.1,hnl]
      have hrn0:=hrn w fun _ _=>rfl;have hrnd:=hrn w.drew fun _ _=>rfl;split at hv
      ·obtain ⟨_,_,rfl⟩:=hvs.inv_nilSlice;split at hv
       ·next hm0=>
        simp only [Option.some.injEq,Prod.mk.injEq] at hv;obtain ⟨rfl,rfl⟩:=hv;subst hm0;refine ⟨_,w,β,fT ht hi htl hlen hrn0 (le_refl _) (by simp),Step.refl hs,.nilSlice⟩
       ·next hm0=>
        split at hv
        ·next hb=>
         simp only [Option.some.injEq,Prod.mk.injEq] at hv;obtain ⟨rfl,rfl⟩:=hv;have hrun:=it (ty:=ty) (n:=0) (c:=0) (base:=none) (olds:=[]) ht hi hz htl hlen (by simp [Builtin.firstCells]) hrnd (by omega) (by simpa using hb.1) (by omega);have hal:=jT (β:=β) (w:=w) (e:=e) (need:=m) (cap:=grownCap w (0+m) 0 e) (z:=z.cells) hrel hnl hzs (by have:=jU w (0+m) 0 e; omega);simp only [zero_add,List.nil_append] at hrun hal;obtain ⟨β',hst,hvr⟩:=hal.step hs;exact ⟨_,_,β',hrun,hst,hvr⟩
        ·cases hv
      ·next k j n c=>
       obtain ⟨sl,i',c',hb,hmp,_,rfl,hx1,ho1,hn1,hi1,hz1⟩:=hvs.inv_slice;have hcap:aI c<=c':=by
        unfold aI; split
        ·next hc=>exact ho1 hc
        ·next hc=>rw [hx1 (by omega)]; exact le_refl _
       split at hv
       ·next hm0=>
        simp only [Option.some.injEq,Prod.mk.injEq] at hv;obtain ⟨rfl,rfl⟩:=hv;subst hm0;have:news'=[]:=eq_nil_of_length_eq_zero (by simpa using hnl');subst this;exact ⟨_,w,β,fT ht hi htl hlen hrn0 (by omega) (by simp [storeCells]),Step.refl hs,hvs⟩
       ·next hm0=>
        split at hv
        ·next hroom=>
         obtain ⟨u',hst,he⟩:=map_eq_some_iff.1 hv;simp only [Prod.mk.injEq] at he;obtain ⟨rfl,rfl⟩:=he;have hi2:i'=sl.s+j:=by rcases hi1 with h1 | ⟨h1,h2⟩; exact h1; exact absurd h2 (by omega)
         subst hi2;obtain ⟨w',hr,hstep⟩:=mj (P:=P) hs hst hb hrel;refine ⟨_,w',β,fT ht hi htl hlen hrn0 (by omega) ?_,hstep,.slice hb hmp hx1 ho1 hroom (.inl rfl) hz1⟩;dsimp only;rw [bu,add_assoc];exact hr
        ·next hroom=>
         unfold eZ at hv;split at hv
         ·next hbd=>
          split at hv
          ·next cs e' sz' wr hk=>
           split at hv
           ·next hcond=>
            obtain ⟨rfl,rfl,hol⟩:=hcond;obtain ⟨olds',hro,horel⟩:=Ea (P:=P) hs hk hol hvs;have hrod:=hro w.drew fun _ _=>rfl;have hall:LRel β ((cs.drop j).take (n*i.size)++news) (olds'++news'):=horel.append hrel;have hal0:((cs.drop j).take (n*i.size)++news).length=(n+m)*i.size:=by rw [List.length_append,hol,hnl,add_mul]
            split at hv
            ·next hcx=>
             simp only [Option.some.injEq,Prod.mk.injEq] at hv;obtain ⟨rfl,rfl⟩:=hv;have hcc:c'=c:=hx1 hcx;subst hcc;rw [rR hcx] at hroom;have hrun:=it (ty:=ty) ht hi hz htl hlen hrod hrnd (by omega) hbd.1 hbd.2;have hal:=jT (β:=β) (w:=w) (e:=e') (z:=z.cells) hall hal0 hzs (jU w (n+m) c' e');obtain ⟨β',hst,hvr⟩:=hal.step hs;exact ⟨_,_,β',hrun,hst,hvr⟩
            ·next hcx=>
             split at hv
             ·next hwr=>
              obtain ⟨rfl,hcl⟩:=hwr;simp only [Option.some.injEq,Prod.mk.injEq] at hv;obtain ⟨rfl,rfl⟩:=hv;by_cases hin:n+m<=c'
              ·have hi2:i'=sl.s+j:=by rcases hi1 with h1 | ⟨h1,h2⟩; exact h1; exact absurd h2 (by omega)
               subst hi2;obtain ⟨_,hslt,hslz,cs',fr,hw,hn,hcel,hfr⟩:=hs.row hk hb;have hext:sl.s+j+c'*i.size<=sl.n:=by
                rcases hz1 with h1 | h1
                ·omega
                ·rw [hslz] at h1; exact h1
               have hmul:(n+m)*i.size<=c'*i.size:=Nat.mul_le_mul_right _ hin;rw [add_mul] at hmul;obtain ⟨w',hr,ha,hh⟩:=j6 (P:=P) sl.b (sl.s+j+n*i.size) e' fr news' 0 cs' w hw (hfr rfl) (by rw [hnl',hn]; omega) (hrel.scalars hsc);have hsz2:(Ab.splice cs' (sl.s+j+n*i.size+0) news').size=cs'.size:=kT (by rw [hnl',hn]; omega);refine ⟨_,w',β.ext h.next ⟨sl.b,sl.s+j,sl.n,e',i.size,false⟩,fT ht hi htl hlen hrn0 hin ?_,EN (sl':=⟨sl.b,sl.s+j,sl.n,e',i.size,false⟩) hs hk hb rfl ha rfl ?_,?_⟩
               ·dsimp only;rw [bu];exact hr
               ·have hle:β.le (β.ext h.next ⟨sl.b,sl.s+j,sl.n,e',i.size,false⟩):=Inj.le_ext _ (hs.none_of_ge (le_refl _));refine ⟨rfl,rfl,⟨rfl,fun h0=>absurd h0 (by omega)⟩,_,fr,hh,by rw [hsz2]; exact hn,?_,fun _=>by rw [hsz2]; exact hfr rfl⟩;intro q u hq;simp only [Ab.splice,Nat.add_zero,List.getElem?_toArray];by_cases hq1:q < n*i.size
                ·rw [getElem?_append_left (by rw [hol]; exact hq1),getElem?_take,if_pos hq1,getElem?_drop] at hq;obtain ⟨u',h1,h2⟩:=hcel _ _ hq;refine ⟨u',?_,h2.mono hle⟩;have hlt:=(Array.getElem?_eq_some_iff.1 h1).1;rw [List.append_assoc,getElem?_append_left (by simp; omega),getElem?_take,if_pos (by omega),getElem?_toList,add_assoc];exact h1
                ·have hq2:=(List.getElem?_eq_some_iff.1 hq).1;rw [hal0,add_mul] at hq2;rw [getElem?_append_right (by rw [hol]; omega),hol] at hq;obtain ⟨u',h1,h2⟩:=hrel.get hq;refine ⟨u',?_,h2.mono hle⟩;rw [getElem?_append_left (by simp; omega),getElem?_append_right (by simp; omega)];have:sl.s+j+q - (cs'.toList.take (sl.s+j+n*i.size)).length=q - n*i.size:=by simp; omega
                 rw [this]; exact h1
               ·exact .slice (sl:=⟨sl.b,sl.s+j,sl.n,e',i.size,false⟩) (β.ext_same _ _) rfl (fun h=>absurd h (by omega)) (fun _=>by omega) (by rw [bH]; exact le_refl _) (.inl rfl) (.inr hext)
              ·have hrun:=it (ty:=ty) ht hi hz htl hlen hrod hrnd (by omega) hbd.1 hbd.2;have hal:=jT (β:=β) (w:=w) (e:=e') (z:=z.cells) hall hal0 hzs (jU w (n+m) c' e');obtain ⟨β',hst,hvr⟩:=hal.step (Cv hs k);exact ⟨_,_,β',hrun,(F1 hs k).trans hst,hvr⟩
             ·cases hv
           ·cases hv
          ·cases hv
         ·cases hv
      ·cases hv
     ·cases hv
    ·cases hv
   ·cases hv
  ·cases hv
 ·cases hv
end
section
variable {β:Inj} {P:Program}
theorem GS {h:Heap}{w:World}(hs:Sim β h w){t:TypeId}{ts:List TypeId}{ty:TypeId}{d s d' s' v:Value}{u:Upd}(hv:lj P t d s h=some (v,u))(hd:VRel β d d')(hsr:VRel β s s'):
  ∃ v' w' β',(Builtin.copy_ (t::ts).toArray ty #[d',s']).run P w = .ok v' w'/\Step β h w β' (u.app h) w'/\VRel β' v v':=by
 unfold lj at hv;split at hv
 ·next e ht=>
  split at hv
  ·next sz a n c hsz=>
   split at hv
   ·next cs m hsrc=>
    obtain ⟨hlen,hcells⟩:=jL (P:=P) hs hsrc hsr;have h0:(t::ts).toArray[0]?=some t:=rfl;have h1:(#[d',s']:Array Value)[0]?=some d':=rfl;have h2:(#[d',s']:Array Value)[1]?=some s':=rfl;obtain ⟨cs',hrc,hrel⟩:=hcells (min m n) (Nat.min_le_left _ _);have hrc0:=hrc w fun _ _=>rfl;have hmin:Nat.min m n=min m n:=rfl;have hdf: ∃ a' c',d' = .slice a' n c':=by
     cases a with
     | none=>obtain ⟨rfl,rfl,rfl⟩:=hd.inv_nilSlice; exact ⟨_,_,rfl⟩
     | some a=>obtain ⟨a',c',rfl⟩:=hd.inv_some; exact ⟨_,_,rfl⟩
    split at hv
    ·next hz=>
     simp only [Option.some.injEq,Prod.mk.injEq] at hv;obtain ⟨rfl,rfl⟩:=hv;have hm0:min m n=0:=by omega
     rw [hm0] at hrc0 hrel;have:cs'=[]:=by simpa using hrel.1.symm
     subst this;obtain ⟨a',c',rfl⟩:=hdf;refine ⟨.int .i64 0,w,β,?_,Step.refl hs,.int _ _⟩;simp only [Builtin.copy_,h0,h1,h2,run_bind,am ht,andThen_ok,hlen,bP hsz,hmin,hm0,hrc0,goInt]
     cases a' <;> simp [storeCells]
    ·next hz=>
     split at hv
     ·next k j=>
      obtain ⟨u',hst,he⟩:=map_eq_some_iff.1 hv;simp only [Prod.mk.injEq] at he;obtain ⟨rfl,rfl⟩:=he;obtain ⟨sl,i',c',hb,hmp,_,rfl,hx1,ho1,hn1,hi1,hz1⟩:=hd.inv_slice;have hi2:i'=sl.s+j:=by rcases hi1 with h1 | ⟨h1,h2⟩; exact h1; exact absurd h1 (by omega)
      subst hi2;obtain ⟨w',hr,hstep⟩:=mj (P:=P) hs hst hb hrel;refine ⟨.int .i64 (min m n:Nat),w',β,?_,hstep,.int _ _⟩;simp only [Builtin.copy_,h0,h1,h2,run_bind,am ht,andThen_ok,hlen,bP hsz,hmin,hrc0,Sem.run_pure,goInt,hr]
     ·cases hv
   ·cases hv
  ·cases hv
 ·cases hv
theorem vX (z:Array Value): ∀ n,(Builtin.zeroCells z n).toList=aZ z.toList n:=by
 intro n;rcases Nat.eq_zero_or_pos z.size with h | h
 ·have h1:(Builtin.zeroCells z n).toList.length=0:=by simp [Builtin.zeroCells,h]
  have h2:(aZ z.toList n).length=0:=by rw [dS]; simp [h]
  rw [eq_nil_of_length_eq_zero h1,eq_nil_of_length_eq_zero h2]
 ·unfold Builtin.zeroCells;rw [nr z n h]
theorem Ei {h:Heap}{w:World}(hs:Sim β h w){t:TypeId}{ty:TypeId}{x x' v:Value}{u:Upd}(hv:Be P t x h=some (v,u))(hx:VRel β x x'):
  ∃ v' w' β',(Builtin.clear_ #[t] ty #[x']).run P w = .ok v' w'/\Step β h w β' (u.app h) w'/\VRel β' v v':=by
 unfold Be at hv;split at hv
 ·next e k j n c ht=>
  split at hv
  ·next z hz=>
   obtain ⟨sl,i',c',hb,hmp,_,rfl,hx1,ho1,hn1,hi1,hz1⟩:=hx.inv_slice;have h0:(#[t]:Array TypeId)[0]?=some t:=rfl;have h1:(#[Value.slice (some ⟨sl.b,i',none⟩) n c']:Array Value)[0]?=some (.slice (some ⟨sl.b,i',none⟩) n c'):=rfl;split at hv
   ·next hn=>
    subst hn;simp only [Option.some.injEq,Prod.mk.injEq] at hv;obtain ⟨rfl,rfl⟩:=hv;refine ⟨undef,w,β,?_,Step.refl hs,.undef β⟩;simp only [Builtin.clear_,h0,h1,run_bind,am ht,andThen_ok];rfl
   ·next hn=>
    obtain ⟨u',hst,he⟩:=map_eq_some_iff.1 hv;simp only [Prod.mk.injEq] at he;obtain ⟨rfl,rfl⟩:=he;have hi2:i'=sl.s+j:=by rcases hi1 with h1 | ⟨h1,h2⟩; exact h1; exact absurd h1 (by omega)
    subst hi2;obtain ⟨w',hr,hstep⟩:=mj (P:=P) hs hst hb (ja (LRel.refl_plain (cH hz).1) n);refine ⟨undef,w',β,?_,hstep,.undef β⟩;obtain ⟨n',rfl⟩: ∃ n',n=n'+1:=⟨n - 1,by omega⟩
    simp only [Builtin.clear_,h0,h1,run_bind,am ht,andThen_ok,iD hz,vX,hr];rfl
  ·cases hv
 ·cases hv
theorem m8 {h:Heap}{w:World}(hs:Sim β h w){t kt et:TypeId}{r:Nat}{es es2:List (Value×Value)}{k m' x x':Value}(hu:P.underlying t=some (.map kt et))(hk:i4 P kt k=true)
  (hr:h.get r=some (.map es)) (hins:hJ P kt k x es=some es2) (hm:VRel β (.map (some r)) m') (hx:VRel β x x'):
  ∃ w',(Instr.mapUpdate t m' k x').run P w = .ok () w'/\Step β h w β (h.set r (.map es2)) w':=by
 obtain ⟨sl,hb,hmap,rfl⟩:=hm.inv_map;obtain ⟨_,es',clock,hw,hrel⟩:=hs.blk _ _ _ hr hb;have hlt:sl.b < w.heap.size:=(hs.lt _ _ hb).2;have hg:(getObj sl.b).run P w = .ok (.map es' clock) w:=by simp [getObj,Sem.run,hw]
 have hset: ∀ o,(setObj sl.b o).run P w = .ok () { w with heap:=w.heap.setIfInBounds sl.b o }:=fun o=>by simp [setObj,Sem.run,hw]
 have hat: ∀ o,At w { w with heap:=w.heap.setIfInBounds sl.b o } sl.b/\({ w with heap:=w.heap.setIfInBounds sl.b o }:World).heap[sl.b]?=some o:=fun o=>
  ⟨⟨by simp,rfl,⟨rfl,le_refl _⟩,rfl,fun b' hb'=>by simp only [Array.getElem?_setIfInBounds]; rw [if_neg (Ne.symm hb')]⟩,by simp [hlt]⟩
 have hck:=qG hk false w;have hkp:=rz hk;obtain ⟨α,fnd,R,hF,hrun1⟩:=sx hk w es'.toList;rcases qJ hF hkp hx es es'.toList hrel hins 0 clock with ⟨j,e,h1,h2,h3,h4⟩ | ⟨h1,h2⟩
 ·have hfk:=hrun1 _ h1;obtain ⟨ha,hh⟩:=hat (.map (es'.modify j fun e=>{ e with key:=k,val:=x' }) clock);refine ⟨_,?_,Step.at_ hs hr hb rfl ha ⟨hmap,_,clock,hh,by simpa using h4⟩⟩;have hej:es'[j]?=some e:=by simpa using h2
  have hsb:=uk hkp 9999;simp only [Instr.mapUpdate,run_bind,am hu,andThen_ok,hg,hck,hfk,zero_add];simp only [hej,map_some,getD_some,h3,Instr.keyThatStays,hsb,if_true,Sem.run_pure,andThen_ok,hset]
 ·have hfk:=hrun1 _ h1;obtain ⟨ha,hh⟩:=hat (.map (es'.push { key:=k,val:=x',born:=clock }) (clock+1));refine ⟨_,?_,Step.at_ hs hr hb rfl ha ⟨hmap,_,clock+1,hh,by simpa using h2⟩⟩;simp only [Instr.mapUpdate,run_bind,am hu,andThen_ok,hg,hck,hfk,hset]
end
section
variable {β:Inj} {P:Program}
theorem tD {e:TypeId}{s:Nat}(hc:P.cellsOf e=s)(hs:0 < s)(count off n:Nat)(hr:off % s=0)(hn:off / s+n<=count):liesAt P P.depth e count off e n=true:=by
 have hd:P.depth=(2*(P.types.size+Made.depth)+1)+1:=rfl;rw [hd];simp only [liesAt,Bool.or_eq_true];left;rw [hd];have:s≠0:=by omega
 simp [rowAt,hc,hr,hn,sameLayout,this]
theorem sw {e:TypeId}{n:Nat}(h:al P e=some n):P.cellsOf e=n:=by
 obtain ⟨i,hi,rfl⟩:=ib h;simp [Program.cellsOf,hi]
theorem At.freeze (w:World)(a:Addr)(n:Nat):At w (w.freeze a n) a.block:=
 ⟨qs w a n,(lF w a n).1,(lF w a n).2.1,(lF w a n).2.2,fun b hb=>by
  by_cases hn:n=0
  ·subst hn; rfl
  ·rw [je w a hn,if_neg (Ne.symm hb)]⟩
theorem jh: ∀ {l:List Value}{bs:List UInt8},bytesOf l=some bs->l=bs.map fun b=>Value.int .u8 b.toNat
 | [],bs,h=>by simp only [bytesOf,Option.some.injEq] at h; subst h; rfl
 | v::l,bs,h=>by
  unfold bytesOf at h;split at h
  ·next e=>cases e
  ·next n r e=>
   simp only [List.cons.injEq] at e;obtain ⟨rfl,rfl⟩:=e;split at h
   ·next hr=>
    obtain ⟨bs',hb,rfl⟩:=map_eq_some_iff.1 h;rw [List.map_cons,<-jh hb];congr 2;have:(UInt8.ofNat n.toNat).toNat=n.toNat:=by
     simp [UInt8.toNat_ofNat']; omega
    omega
   ·cases h
  ·cases h
set_option maxHeartbeats 1000000 in
theorem pK {h:Heap}{w:World}(hs:Sim β h w){k i:Nat}{n:Int}{kk:IntKind}{pt e:TypeId}{cs:List Value}{l:List UInt8}{p':Value}{ats:Array TypeId}{ty:TypeId}(hk:h.get k=some (.cells cs e 1 true))(hpt:ats[0]?=some pt)
  (hu:P.underlying pt=some (.pointer e)) (hsz:al P e=some 1) (hn:0 < n) (hmx:n < 9223372036854775807) (hl:((cs.drop i).take n.toNat).length=n.toNat) (hb:bytesOf ((cs.drop i).take n.toNat)=some l) (hp:VRel β (.pointer (some ⟨k,i,none⟩)) p'):
  ∃ w',(Builtin.unsafeString_ ats ty #[p',.int kk n]).run P w = .ok (aa l) w'/\Step β h w β (h.set k (.cells cs e 1 false)) w':=by
 obtain ⟨sl,hbk,hm,rfl⟩:=hp.inv_ptr;obtain ⟨hm',ht,hz,cs',fr,hw,hnn,hcells,hfr⟩:=hs.blk _ _ _ hk hbk;refine ⟨w.freeze ⟨sl.b,sl.s+i,none⟩ n.toNat,?_,Step.at_ hs hk hbk rfl (At.freeze w _ _) ?_⟩
 ·have hlen:l.length=n.toNat:=by
   have:=congrArg List.length (jh hb);rw [hl] at this; simpa using this.symm
  have hbound:sl.s+i+n.toNat<=cs'.size:=by
   have hlt:i+n.toNat - 1 < cs.length:=by simp only [List.length_take,List.length_drop] at hl; omega
   obtain ⟨v',h1,_⟩:=hcells _ _ (gE hlt);have:=(Array.getElem?_eq_some_iff.1 h1).1;omega
  have hsh:w.shape? sl.b=some (e,cs'.size):=by simp [World.shape?,hw]
  have hco:=sw hsz;have hlies:liesAt P P.depth e (cs'.size / P.cellsOf e) (sl.s+i) e n.toNat=true:=tD hco (by omega) _ _ _ (by omega) (by rw [hco]; simp; exact hbound);have hld:(loadBytes ⟨sl.b,sl.s+i,none⟩ .empty n.toNat).run P w = .ok (⟨l.toArray⟩:ByteArray) w:=by
   rw [<-hlen];rw [Lib.run_loadBytes (P:=P) w l ⟨sl.b,sl.s+i,none⟩ .empty]
   ·congr 1;apply th;simp [ByteArray.empty,ByteArray.emptyWithCapacity];rfl
   ·intro j x hj;have hjv:((cs.drop i).take n.toNat)[j]?=some (.int .u8 x.toNat):=by rw [jh hb]; simp [hj]
    rw [getElem?_take,getElem?_drop] at hjv;split at hjv
    ·obtain ⟨v',h1,h2⟩:=hcells _ _ hjv;rw [bu,gQ hw,show sl.s+i+j=sl.s+(i+j) by omega,h1,h2.inv_int]
    ·cases hjv
  have hmax:IntKind.i64.max=9223372036854775807:=by decide
  have hdef:Builtin.unsafeString_ ats ty #[.pointer (some ⟨sl.b,sl.s+i,none⟩),.int kk n] =
    (do
     let n <-asInt (.int kk n)
     let some pt:=ats[0]? | stuck "unsafe.String: no argument types"
     if n < 0 then runtimePanic (.error "unsafe.String: len out of range")
     if n > IntKind.i64.max then unsupported (.unsafePointer "String: a length above the largest int")
     if n=0 then pure (.string .empty)
     else if <-variablesAt ⟨sl.b,sl.s+i,none⟩ (<-elemOf pt) n.toNat then do
      let s <-loadBytes ⟨sl.b,sl.s+i,none⟩ .empty n.toNat
      freeze ⟨sl.b,sl.s+i,none⟩ n.toNat
      pure (.string s)
     else unsupported (.unsafePointer "String: not so many bytes at ptr")):=rfl
  rw [hdef];simp only [run_bind,asInt,asIntOf,Sem.run_pure,andThen_ok,hpt,run_ite];rw [if_neg (by omega),if_neg (by omega),if_neg (by omega)];simp only [elemOf,run_bind,am hu,Sem.run_pure,andThen_ok,variablesAt,run_program,run_shape,hsh,hlies,if_true,hld,run_freeze];rfl
 ·have hfh:(w.freeze ⟨sl.b,sl.s+i,none⟩ n.toNat).heap[sl.b]?=some (NX ⟨sl.b,sl.s+i,none⟩ n.toNat (.cells cs' e fr)):=by
   rw [je w _ (by omega)]; simp [hw]
  exact ⟨hm',ht,hz,cs',_,hfh,hnn,hcells,fun h=>by cases h⟩
end
section
variable {β:Inj} {P:Program}
def Ob (r:Result Next)(v':Value)(w':World):Prop:=r = .ok (.value v') w'\/(r = .ok .skip w'/\v'=undef)
def aG (o:Oper):Bool:=match o.op with
 | .call { callee:= .value _,.. }=>true
 | _=>false
theorem Dh {ρ':Operand->Value}{args:Array Operand}{a b:Operand}(h:args.toList=[a,b]):args.map ρ' = #[ρ' a,ρ' b]:=by
 apply Array.ext'; simp [h]
set_option maxHeartbeats 2000000 in
theorem qk {ρ ρ':Operand->Value}(hρ: ∀ x,VRel β (ρ x) (ρ' x)){cf:bL}{o:Oper}(hnc:aG o=false){v:Value}{u:Upd}{h:Heap}{w:World}(hs:Sim β h w)(hv:cV P cf ρ o h=some (v,u)):
  ∃ v' w' β',Ob ((execOp ρ' o).run P w) v' w'/\Step β h w β' (u.app h) w'/\VRel β' v v':=by
 unfold cV at hv;unfold execOp;split at hv
 ·next t a x ho=>
  simp only [ho];have ha:=hρ a;have hx:=hρ x;split at hv
  ·next k i hka=>
   rw [hka] at ha;obtain ⟨sl,hb,hm,he⟩:=ha.inv_ptr;split at hv
   ·next hsz=>
    obtain ⟨u',hst,he2⟩:=map_eq_some_iff.1 hv;simp only [Prod.mk.injEq] at he2;obtain ⟨rfl,rfl⟩:=he2;have hj:ρ x≠Ab.junk:=by
     intro e;rw [e] at hst;unfold storeAt at hst;split at hst
     ·split at hst
      ·next hc=>exact absurd hc.2 (by simp [Value.cells,bI])
      ·cases hst
     ·cases hst
    have hc:=hx.cells hj;obtain ⟨w',hr,hstep⟩:=mj (P:=P) hs hst hb (ARel.toList.1 hc);refine ⟨undef,w',β,.inr ⟨?_,rfl⟩,hstep,.undef β⟩;have hr2:(storeVar t ⟨sl.b,sl.s+i,none⟩ (ρ' x)).run P w = .ok () w':=by
     simp only [storeVar,run_bind,bP hsz,andThen_ok,run_ite];rw [if_neg (by simp [hc.1])];exact hr
    simp only [Instr.storeAt,run_bind,he,Instr.sureAddr,Sem.run_pure,andThen_ok,hr2]
   ·cases hv
  ·cases hv
 ·next t m k x ho=>
  simp only [ho];have hm:=hρ m;have hk:=hρ k;split at hv
  ·next kt et r hu hma=>
   rw [hma] at hm;split at hv
   ·next es hr=>
    split at hv
    ·next hkk=>
     obtain ⟨es2,hins,he⟩:=map_eq_some_iff.1 hv;simp only [Prod.mk.injEq] at he;obtain ⟨rfl,rfl⟩:=he;obtain ⟨w',hrun,hstep⟩:=m8 (P:=P) hs hu hkk hr hins hm (hρ x);exact ⟨undef,w',β,.inr ⟨by rw [hk.keyP_eq (rz hkk)]; simp [hrun],rfl⟩,hstep,.undef β⟩
    ·cases hv
   ·cases hv
  ·cases hv
 ·next t m k x ho=>
  simp only [ho];have hm:=hρ m;have hk:=hρ k;split at hv
  ·next kt et r hu hma=>
   rw [hma] at hm;split at hv
   ·next es hr=>
    split at hv
    ·next hkk=>
     obtain ⟨es2,hins,he⟩:=map_eq_some_iff.1 hv;simp only [Prod.mk.injEq] at he;obtain ⟨rfl,rfl⟩:=he;obtain ⟨w',hrun,hstep⟩:=m8 (P:=P) hs hu hkk hr hins hm (hρ x);exact ⟨undef,w',β,.inr ⟨by rw [hk.keyP_eq (rz hkk)]; simp [hrun],rfl⟩,hstep,.undef β⟩
    ·cases hv
   ·cases hv
  ·cases hv
 ·next f args ats ho=>simp [aG,ho] at hnc
 ·next args ats ho=>
  simp only [ho];split at hv
  ·next s x t t' ha ht=>
   obtain ⟨v',w',β',hr,hstep,hvr⟩:=Cm (P:=P) (ty:=o.type) hs hv (hρ s) (hρ x);refine ⟨v',w',β',.inl ?_,hstep,hvr⟩;have hat:ats = #[t,t']:=by apply Array.ext'; simp [ht]
   simp only [resolve,run_bind,Sem.run_pure,andThen_ok,invoke,builtin,Dh ha,hat,hr]
  ·cases hv
 ·next args ats ho=>
  simp only [ho];split at hv
  ·next d s t ts ha ht=>
   obtain ⟨v',w',β',hr,hstep,hvr⟩:=GS (P:=P) (ts:=ts) (ty:=o.type) hs hv (hρ d) (hρ s);refine ⟨v',w',β',.inl ?_,hstep,hvr⟩;have hat:ats=(t::ts).toArray:=by apply Array.ext'; simp [ht]
   simp only [resolve,run_bind,Sem.run_pure,andThen_ok,invoke,builtin,Dh ha,hat,hr]
  ·cases hv
 ·next args ats ho=>
  simp only [ho];have hl:LRel β (args.toList.map ρ) (args.toList.map ρ'):=LRel.map _ fun x _=>hρ x;split at hv
  ·next x t hm ht=>
   rw [hm] at hl;obtain ⟨y,r,hy,hyr,hrr⟩:=hl.inv_cons;have:=hrr.inv_nil;subst this;obtain ⟨v',w',β',hr,hstep,hvr⟩:=Ei (P:=P) (ty:=o.type) hs hv hyr;refine ⟨v',w',β',.inl ?_,hstep,hvr⟩;have hat:ats = #[t]:=by apply Array.ext'; simp [ht]
   have ha:args.map ρ' = #[y]:=by apply Array.ext'; simp [hy]
   simp only [resolve,run_bind,Sem.run_pure,andThen_ok,invoke,builtin,ha,hat,hr]
  ·cases hv
 ·next args ats ho=>
  simp only [ho];have hl:LRel β (args.toList.map ρ) (args.toList.map ρ'):=LRel.map _ fun x _=>hρ x;split at hv
  ·next n c hm=>
   rw [hm] at hl;obtain ⟨y,r,hy,hyr,hrr⟩:=hl.inv_cons;have:=hrr.inv_nil;subst this;obtain ⟨rfl,rfl,rfl⟩:=hyr.inv_nilSlice;simp only [Option.some.injEq,Prod.mk.injEq] at hv;obtain ⟨rfl,rfl⟩:=hv;have hat:args.map ρ' = #[.slice none 0 0]:=by apply Array.ext'; simp [hy]
   refine ⟨.pointer none,w,β,.inl ?_,Step.refl hs,.nilPtr⟩;simp only [resolve,run_bind,Sem.run_pure,andThen_ok,invoke,builtin,hat,Lib.run_unsafeSliceData_nil]
  ·next a n c hm=>
   rw [hm] at hl;obtain ⟨y,r,hy,hyr,hrr⟩:=hl.inv_cons;have:=hrr.inv_nil;subst this;obtain ⟨ab,ao,asp⟩:=a;have hsp0:asp=none\/ ¬ 0 < aI c:=by
    rcases hyr.inv_sliceA with ⟨k',i',e⟩ | ⟨_,_,hc0,_⟩
    ·injection e with _ _ e; exact .inl e
    ·subst hc0; exact .inr (by unfold aI; rw [if_neg (by decide)]; decide)
   rcases hsp0 with hsp0 | hsp0
   rotate_left
   ·rw [if_neg hsp0] at hv; cases hv
   subst hsp0;obtain ⟨sl,i',c',hb,hmp,hsp,rfl,hx1,ho1,hn1,hi1,hz1⟩:=hyr.inv_slice;clear hsp;split at hv
   ·next hc=>
    simp only [Option.some.injEq,Prod.mk.injEq] at hv;obtain ⟨rfl,rfl⟩:=hv;have hcap:aI c<=c':=by
     unfold aI; split
     ·next hc=>exact ho1 hc
     ·next hc=>rw [hx1 (by omega)]; exact le_refl _
    have hi2:i'=sl.s+ao:=by rcases hi1 with h1 | ⟨h1,h2⟩; exact h1; exact absurd h2 (by omega)
    subst hi2;have hat:args.map ρ' = #[.slice (some ⟨sl.b,sl.s+ao,none⟩) n c']:=by apply Array.ext'; simp [hy]
    refine ⟨.pointer (some ⟨sl.b,sl.s+ao,none⟩),w,β,.inl ?_,Step.refl hs,.ptr hb hmp⟩;simp only [resolve,run_bind,Sem.run_pure,andThen_ok,invoke,builtin,hat,Lib.run_unsafeSliceData_row (P:=P) w ats o.type ⟨sl.b,sl.s+ao,none⟩ n c' (by omega)]
   ·cases hv
  ·cases hv
 ·next args ats ho=>
  simp only [ho];have hl:LRel β (args.toList.map ρ) (args.toList.map ρ'):=LRel.map _ fun x _=>hρ x;split at hv
  ·next kk pt hm hpt=>
   rw [hm] at hl;obtain ⟨y,r,hy,hyr,hrr⟩:=hl.inv_cons;obtain ⟨z,r2,rfl,hzr,hrr2⟩:=hrr.inv_cons;have:=hrr2.inv_nil;subst this
   cases hyr.inv_nilPtr
   cases hzr.inv_int
   simp only [Option.some.injEq,Prod.mk.injEq] at hv;obtain ⟨rfl,rfl⟩:=hv;have hat:args.map ρ' = #[.pointer none,.int kk 0]:=by apply Array.ext'; simp [hy]
   refine ⟨aa [],w,β,.inl ?_,Step.refl hs,.string _⟩;have hmax:IntKind.i64.max=9223372036854775807:=by decide
   have hdef:Builtin.unsafeString_ ats o.type #[.pointer none,.int kk 0] =
     (do
      let n <-asInt (.int kk 0)
      let some pt:=ats[0]? | stuck "unsafe.String: no argument types"
      if n < 0 then runtimePanic (.error "unsafe.String: len out of range")
      if n > IntKind.i64.max then unsupported (.unsafePointer "String: a length above the largest int")
      if n=0 then pure (.string .empty)
      else runtimePanic (.error "unsafe.String: ptr is nil and len is not zero")):=rfl
   simp only [resolve,run_bind,Sem.run_pure,andThen_ok,invoke,builtin,hat,hdef,asInt,asIntOf,hpt,run_ite];rw [if_neg (by omega),if_neg (by omega)];rfl
  ·next k i kk n pt hm hpt=>
   rw [hm] at hl;obtain ⟨y,r,hy,hyr,hrr⟩:=hl.inv_cons;obtain ⟨z,r2,rfl,hzr,hrr2⟩:=hrr.inv_cons;have:=hrr2.inv_nil;subst this
   cases hzr.inv_int
   have hat:args.map ρ' = #[y,.int kk n]:=by apply Array.ext'; simp [hy]
   split at hv
   ·next cs e e' hk hu=>
    split at hv
    ·next hc=>
     obtain ⟨rfl,hsz,hn,hmx,hlen⟩:=hc;split at hv
     ·next l hb=>
      simp only [Option.some.injEq,Prod.mk.injEq] at hv;obtain ⟨rfl,rfl⟩:=hv;obtain ⟨w',hr,hstep⟩:=pK (P:=P) (kk:=kk) (ats:=ats) (ty:=o.type) hs hk hpt hu hsz hn hmx hlen hb hyr;refine ⟨aa l,w',β,.inl ?_,hstep,.string _⟩;simp only [resolve,run_bind,Sem.run_pure,andThen_ok,invoke,builtin,hat,hr]
     ·cases hv
    ·cases hv
   ·cases hv
  ·cases hv
 ·next s d x ho=>
  simp only [ho];have hx:=hρ x;split at hv
  ·next t k h1 h2 ha=>
   rw [ha] at hx;split at hv
   ·next cs t' wr hk=>
    split at hv
    ·next hc=>
     obtain ⟨rfl,hsz,hpos⟩:=hc;simp only [Option.some.injEq,Prod.mk.injEq] at hv;obtain ⟨rfl,rfl⟩:=hv;obtain ⟨sl,hb,hm,he⟩:=hx.inv_ptr;obtain ⟨_,_,_,cs',fr,hw,hn,hcells,_⟩:=hs.row hk hb;obtain ⟨j,hj,hjs⟩:=ib hsz;obtain ⟨v0,hv0,_⟩:=hcells 0 _ (gE hpos);have hlt:=(Array.getElem?_eq_some_iff.1 hv0).1;have hsh:w.shape? sl.b=some (t,cs'.size):=by simp [World.shape?,hw]
     refine ⟨ρ' x,w,β,.inl ?_,Step.refl hs,hρ x⟩;rw [he];simp only [run_bind,Lib.run_to_unsafe (P:=P) w ⟨sl.b,sl.s+0,none⟩ h1 h2 hj (by omega) hsh hlt,andThen_ok,Sem.run_pure]
    ·cases hv
   ·cases hv
  ·next t k h1 h2 ha=>
   rw [ha] at hx;split at hv
   ·next cs t' wr hk=>
    split at hv
    ·next hc=>
     obtain ⟨rfl,hsz,hpos⟩:=hc;simp only [Option.some.injEq,Prod.mk.injEq] at hv;obtain ⟨rfl,rfl⟩:=hv;obtain ⟨sl,hb,hm,he⟩:=hx.inv_ptr;have hs0:=hs.row0 hk hb;obtain ⟨_,_,_,cs',fr,hw,hn,hcells,_⟩:=hs.row hk hb;obtain ⟨j,hj,hjs⟩:=ib hsz;have hco:=sw hsz;obtain ⟨v0,hv0,_⟩:=hcells (cs.length - 1) _ (gE (by omega));have hlt:=(Array.getElem?_eq_some_iff.1 hv0).1;have hsh:w.shape? sl.b=some (t,cs'.size):=by simp [World.shape?,hw]
     have hlies:liesAt P P.depth t (cs'.size / P.cellsOf t) (sl.s+0) t 1=true:=by
      refine tD hco hpos _ _ _ (by rw [hs0]; simp) ?_;rw [hs0,hco];simp only [Nat.add_zero,Nat.zero_div,zero_add];exact (Nat.le_div_iff_mul_le hpos).2 (by omega)
     refine ⟨ρ' x,w,β,.inl ?_,Step.refl hs,hρ x⟩;rw [he];simp only [run_bind,Lib.run_from_unsafe (P:=P) w ⟨sl.b,sl.s+0,none⟩ h1 h2 hj hsh hlies,andThen_ok,Sem.run_pure]
    ·cases hv
   ·cases hv
  ·cases hv
 ·cases hv
end
section
variable {β:Inj} {P:Program} {gl:Nat->Bool}
def eJ (r:Option Nat):Fence:={ Fence.wide with round:=r }
theorem mZ {r:Option Nat}{n:Nat}{f:FuncId}{args:Array Value}{w:World}{R:Ending->World->Prop}(h:Calls P f args w R):CallsIn (eJ r) n P f args w R:=
 (callsIn_wide (n:=n)).2 h
def Gl (gl:Nat->Bool)(β:Inj):Prop:= ∀ g,gl g=true-> ∃ sl,β g=some sl/\sl.b=g/\sl.s=0/\sl.isMap=false
theorem Gl.mono {β β':Inj}(h:Gl gl β)(hle:β.le β'):Gl gl β':=fun g hg=>let ⟨sl,h1,h2⟩:=h g hg; ⟨sl,hle _ _ h1,h2⟩
theorem LRel.getD {l l':List Value}(h:LRel β l l')(i:Nat):VRel β (l.getD i undef) (l'.getD i undef):=by
 by_cases hi:i < l.length
 ·have hi':i < l'.length:=h.1 ▸ hi;simp only [List.getD,gE hi,gE hi',getD_some];exact h.2 i _ _ (gE hi) (gE hi')
 ·have hi':l'.length<=i:=by rw [<-h.1]; omega
  simp only [List.getD,getElem?_eq_none (Nat.le_of_not_lt hi),getElem?_eq_none hi',Option.getD_none];exact .undef β
theorem pS {tm:List Value}{a:Act}(hg:Gl gl β)(ht:LRel β tm a.tmps.toList)(x:Operand):VRel β (ev gl tm x) (a.eval x):=by
 cases x with
 | tmp t=>
  simp only [ev,Act.eval];have:=ht.getD t;rwa [show a.tmps.toList.getD t undef=a.tmps.getD t undef by simp [List.getD,Array.getD_eq_getD_getElem?]] at this
 | const v=>
  simp only [ev,Act.eval];split
  ·next h=>exact .of_plain h
  ·exact .junk v
 | global g=>
  simp only [ev,Act.eval];split
  ·next h=>
   obtain ⟨sl,h1,h2,h3,h4⟩:=hg g h;have:=VRel.ptr (i:=0) h1 h4;rwa [h2,h3] at this
  ·exact .junk _
 | func f=>
  simp only [ev,Act.eval];exact .func rfl rfl rfl (fun i v v' h=>by simp at h) (fun i v v' h=>by simp at h)
theorem fp {tm:List Value}{a:Act}(ht:LRel β tm a.tmps.toList)(dst:Option Tmp){v v':Value}(hv:VRel β v v'):LRel β (ei tm dst v) (a.put dst v').tmps.toList:=by
 cases dst with
 | none=>exact ht
 | some d=>
  simp only [ei,Act.put,Array.toList_setIfInBounds];refine ⟨by simp [ht.1],fun i u u' h1 h2=> ?_⟩;rw [List.getElem?_set] at h1 h2;split at h1
  ·next he=>
   subst he;simp only [if_true] at h2;split at h1
   ·simp only [Option.some.injEq] at h1;subst h1;split at h2
    ·simp only [Option.some.injEq] at h2; subst h2; exact hv
    ·cases h2
   ·cases h1
  ·next he=>
   rw [if_neg he] at h2;exact ht.2 i u u' h1 h2
theorem bO (a:Act)(dst:Option Tmp)(v:Value):(a.put dst v).defers=a.defers:=by cases dst <;> rfl
theorem vA {l:List Value}{d:Nat}{b:Bool}(h:l.getD d undef = .bool b):l[d]?=some (.bool b):=by
 rw [gD] at h
 cases hd:l[d]? with
 | none=>rw [hd] at h; cases h
 | some v=>rw [hd] at h; simp only [getD_some] at h; rw [h]
theorem sG {l:List Value}{d:Nat}{vs:Array Value}(h:l.getD d undef = .tuple vs):l[d]?=some (.tuple vs)\/l[d]?=none:=by
 rw [gD] at h
 cases hd:l[d]? with
 | none=>exact .inr rfl
 | some v=>rw [hd] at h; simp only [getD_some] at h; rw [h]; exact .inl rfl
theorem fz {ops:Array Oper}{tm:List Value}{a:Act}(ht:LRel β tm a.tmps.toList){o:Oper}{b:Bool}(h:dN ops tm o=some b):Region.wanted o (yielded ops a.tmps)=b:=by
 unfold dN at h;unfold Region.wanted;split at h
 ·next hg=>rw [hg]; simpa using h
 ·next j want hg=>
  rw [hg];simp only [yielded];split at h
  ·next d hd=>
   rw [hd];simp only [Option.bind_some];split at h
   ·next b' hb=>
    obtain ⟨v',h1,h2⟩:=ht.get (vA hb);rw [h2.inv_bool] at h1;rw [getElem?_toList] at h1;rw [h1];simp only [Option.some.injEq] at h;subst h
    cases b' <;> cases want <;> rfl
   ·next vs hb=>
    simp only [Option.some.injEq] at h;subst h;rcases sG hb with hb | hb
    ·obtain ⟨v',h1,h2⟩:=ht.get hb;obtain ⟨vs',rfl,_⟩:=h2.inv_tuple;rw [getElem?_toList] at h1;rw [h1];rfl
    ·have hd:a.tmps[d]?=none:=by
      rw [<-getElem?_toList];exact getElem?_eq_none (by rw [<-ht.1]; exact List.getElem?_eq_none_iff.1 hb)
     rw [hd];rfl
   ·cases h
  ·cases h
def jo (β:Inj)(h:Heap)(w:World)(v:Value)(h':Heap):Ending->World->Prop:=fun e w'=> ∃ v' β',e = .returned v'/\Step β h w β' h' w'/\VRel β' v v'
def NM (P:Program)(gl:Nat->Bool)(cf:bL):Prop:=
 ∀ f args h v h',f < YB->cf f args h=some (v,h')-> ∀ β w (args':Array Value),Sim β h w->Gl gl β->LRel β args args'.toList->
  ∃ fn,P.funcs[f]?=some fn/\((fn.body.isSome=true/\Calls P f args' w (jo β h w v h'))\/
   (∃ v' w' β',(callFunc f args').run P w = .ok (.value v') w'/\Step β h w β' h' w'/\VRel β' v v'))
def NT (P:Program)(gl:Nat->Bool)(cf:bL):Prop:=
 ∀ k args h v h',cf (YB+k) args h=some (v,h')-> ∀ β w (args':Array Value) sl,Sim β h w->Gl gl β->LRel β args args'.toList->β k=some sl->
  ∃ fn tmps asg body,(Instr.yield sl.b args').run P w = .ok (.round sl.b fn tmps asg body) w/\ ∀ (r:Option Nat)(n:Nat),RoundIn (eJ r) n P sl.b fn tmps asg body w (jo β h w v h')
structure CfOk (P:Program)(gl:Nat->Bool)(cf:bL):Prop where
 fn:NM P gl cf
 yd:NT P gl cf
def cM (P:Program):Prop:= ∀ (f:FuncId)(fn:Func),P.funcs[f]?=some fn->(fn.name == "runtime.NumGoroutine")=false
theorem cK (hN:cM P){f:FuncId}{fn:Func}(hf:P.funcs[f]?=some fn)(hb:fn.body.isSome=true)(args:Array Value)(w:World):(callFunc f args).run P w = .ok (.enter f args) w:=by
 have h1:=hN f fn hf;have h2:fn.body.isNone=false:=by cases h:fn.body <;> simp_all
 simp only [callFunc,run_bind,run_program,andThen_ok,hf];rw [h1,h2];rfl
theorem VRel.inv_fn {g:FuncId}{first captured:Array Value}{x:Value}(hf:VRel β (.func (.func g) first captured) x): ∃ first' captured',x = .func (.func g) first' captured'/\ARel β first first'/\ARel β captured captured':=by
 cases hf with
 | func hy ha hc ra rc=>exact ⟨_,_,rfl,⟨ha,ra⟩,⟨hc,rc⟩⟩
theorem VRel.inv_yield {k:Nat}{first captured:Array Value}{x:Value}(hf:VRel β (.func (.yield k) first captured) x): ∃ sl,β k=some sl/\x = .func (.yield sl.b) first captured:=by
 cases hf with
 | func hy ha hc ra rc=>cases hy
 | yield h ha hc=>exact ⟨_,h,rfl⟩
theorem xT (hN:cM P){cf:bL}(hcf:CfOk P gl cf){r:Option Nat}{n:Nat}{a:Act}{h:Heap}{w:World}{o:Oper}{f:Operand}{args:Array Operand}{ats:Array TypeId}(ho:o.op = .call { callee:= .value f,args:=args,argTypes:=ats })
  {ρ:Operand->Value} {v:Value} {u:Upd} (hs:Sim β h w) (hg:Gl gl β) (hρ: ∀ x,VRel β (ρ x) (a.eval x)) (hr:pN cf (ρ f) (args.toList.map ρ) h=some (v,u)) (next:Act->World->Prop) (Q:Exit->Act->World->Prop)
  (hk: ∀ v' w' β',Step β h w β' (u.app h) w'->VRel β' v v'->next (a.put o.dst v') w'):o.uponIn (eJ r) n P a next Q ((execOp a.eval o).run P w):=by
 unfold pN at hr;have hf:=hρ f;split at hr
 ·next g first captured hfv=>
  split at hr
  ·next hgY=>
   rw [hfv] at hf;obtain ⟨⟨v0,h'⟩,hcall,he⟩:=map_eq_some_iff.1 hr;simp only [Prod.mk.injEq] at he;obtain ⟨rfl,rfl⟩:=he;obtain ⟨first',captured',hfe,hfr,hcr⟩:=hf.inv_fn;have hargs:LRel β (first.toList++args.toList.map ρ++captured.toList) (first'++args.map a.eval++captured').toList:=by
    simp only [Array.toList_append,toList_map];exact ((ARel.toList.1 hfr).append (LRel.map _ fun x _=>hρ x)).append (ARel.toList.1 hcr)
   have hex:(execOp a.eval o).run P w=(callFunc g (first'++args.map a.eval++captured')).run P w:=by
    unfold execOp;simp only [ho,resolve,hfe,Deferred.ofValue,run_bind,Sem.run_pure,andThen_ok,invoke]
   rw [hex];obtain ⟨fn,hfn,hres⟩:=hcf.fn g _ h _ h' hgY hcall β w _ hs hg hargs;rcases hres with ⟨hb,hcalls⟩ | ⟨v',w',β',h1,h2,h3⟩
   ·rw [cK hN hfn hb];refine ⟨fun hd=>by simp [eJ,Fence.wide] at hd,mZ (hcalls.mono ?_)⟩;rintro e w' ⟨v',β',rfl,h2,h3⟩;exact hk v' w' β' h2 h3
   ·rw [h1];exact hk v' w' β' h2 h3
  ·cases hr
 ·next k first captured hfv=>
  split at hr
  ·next hz=>
   rw [hfv] at hf;obtain ⟨⟨v0,h'⟩,hcall,he⟩:=map_eq_some_iff.1 hr;simp only [Prod.mk.injEq] at he;obtain ⟨rfl,rfl⟩:=he;obtain ⟨sl,hb,hfe⟩:=hf.inv_yield;have hf0:first = #[]:=Array.eq_empty_of_size_eq_zero hz.1
   have hargs:LRel β (args.toList.map ρ) (args.map a.eval).toList:=by
    simp only [toList_map];exact LRel.map _ fun x _=>hρ x
   have hex:(execOp a.eval o).run P w=(Instr.yield sl.b (args.map a.eval)).run P w:=by
    unfold execOp;simp only [ho,resolve,hfe,Deferred.ofValue,run_bind,Sem.run_pure,andThen_ok,invoke,hf0,Array.empty_append]
   rw [hex];obtain ⟨fn,tmps,asg,body,h1,h2⟩:=hcf.yd k _ h _ h' hcall β w _ sl hs hg hargs hb;rw [h1];refine ⟨fun hd=>by simp [eJ,Fence.wide] at hd,(h2 r (n - 1)).mono ?_⟩;rintro e w' ⟨v',β',rfl,h3,h4⟩;exact hk v' w' β' h3 h4
  ·cases hr
 ·cases hr
theorem Mn (hN:cM P){cf:bL}(hcf:CfOk P gl cf){r:Option Nat}{n:Nat}{tm:List Value}{a:Act}{h:Heap}{w:World}{o:Oper}{v:Value}{u:Upd}(hs:Sim β h w)(hg:Gl gl β)(ht:LRel β tm a.tmps.toList)
  (hr:bJ P cf (ev gl tm) o h=some (v,u)) (next:Act->World->Prop) (Q:Exit->Act->World->Prop)
  (hk: ∀ v' w' β',Step β h w β' (u.app h) w'->VRel β' v v'->next (a.put o.dst v') w'):o.wpIn (eJ r) n P a w next Q:=by
 refine ⟨fun _ _=>trivial,?_⟩;have hρ:=pS (β:=β) hg ht;have hnd: ∀ c,o.op≠ .defer c:=by
  intro c hc;unfold bJ at hr;simp [bm,aU,aM,cV,hc] at hr
 rw [Oper.semAt_eq _ _ _ hnd];unfold bJ at hr;split at hr
 ·next v0 hp=>
  simp only [Option.some.injEq,Prod.mk.injEq] at hr;obtain ⟨rfl,rfl⟩:=hr;obtain ⟨v',h1,h2⟩:=j8 hρ hp w;rw [h1];exact hk v' w β (Step.refl hs) h2
 ·split at hr
  ·next v0 hp=>
   simp only [Option.some.injEq,Prod.mk.injEq] at hr;obtain ⟨rfl,rfl⟩:=hr;obtain ⟨v',h1,h2⟩:=jN hρ hs hp;rw [h1];exact hk v' w β (Step.refl hs) h2
  ·split at hr
   ·next B f hp=>
    simp only [Option.some.injEq,Prod.mk.injEq] at hr;obtain ⟨rfl,rfl⟩:=hr;obtain ⟨v',w',h1,h2⟩:=jb hρ (w:=w) hp;obtain ⟨β',h3,h4⟩:=h2.step hs;rw [h1];exact hk v' w' β' h3 h4
   ·by_cases hc:aG o=false
    ·obtain ⟨v',w',β',h1,h2,h3⟩:=qk hρ hc hs hr;rcases h1 with h1 | ⟨h1,rfl⟩
     ·rw [h1];exact hk v' w' β' h2 h3
     ·rw [h1];exact hk undef w' β' h2 h3
    ·unfold aG at hc;split at hc
     ·next f args ats ho=>
      simp only [cV,ho] at hr;exact xT hN hcf ho hs hg hρ hr next Q hk
     ·exact absurd rfl hc
theorem BV (hN:cM P){cf:bL}(hcf:CfOk P gl cf){r:Option Nat}{n:Nat}{ops:Array Oper}(Q:Exit->Act->World->Prop): ∀ (rest:List Oper)(i:Nat){β:Inj}{tm tm':List Value}{a:Act}{h h':Heap}{w:World},
  ops.toList.drop i=rest->e8 P gl cf ops rest tm h=some (tm',h')->Sim β h w->Gl gl β->LRel β tm a.tmps.toList->
  (∀ a' w' β',Step β h w β' h' w'->LRel β' tm' a'.tmps.toList->a'.defers=a.defers->Q .normal a' w')->wpOpsIn (eJ r) n P ops Q (List.range' i rest.length) a w
 | [],i,β,tm,tm',a,h,h',w,hd,hr,hs,hg,ht,hk=>by
  simp only [e8,Option.some.injEq,Prod.mk.injEq] at hr;obtain ⟨rfl,rfl⟩:=hr;exact hk a w β (Step.refl hs) ht rfl
 | o::rest,i,β,tm,tm',a,h,h',w,hd,hr,hs,hg,ht,hk=>by
  have ho:ops[i]?=some o:=by
   have:(ops.toList.drop i)[0]?=some o:=by rw [hd]; rfl
   rw [getElem?_drop] at this;rw [<-getElem?_toList]; simpa using this
  have hd':ops.toList.drop (i+1)=rest:=by rw [<-drop_drop,hd]; rfl
  simp only [List.length_cons,List.range'_succ,wpOpsIn,ho];simp only [e8] at hr;split at hr
  ·next hw=>
   rw [fz ht hw];simp only [if_true];split at hr
   ·next v u hop=>
    refine Mn hN hcf hs hg ht hop _ _ fun v' w' β' hst hv=> ?_;refine BV hN hcf Q rest (i+1) hd' hr hst.sim (hg.mono hst.le) (fp (ht.mono hst.le) o.dst hv) fun a' w2 β2 h1 h2 h3=> ?_;exact hk a' w2 β2 (hst.trans h1) h2 (h3.trans (bO a o.dst v'))
   ·cases hr
  ·next hw=>
   rw [fz ht hw];simp only [false_eq_true,if_false];refine ⟨fun _ _=>trivial,?_⟩;refine BV hN hcf Q rest (i+1) hd' hr hs hg (fp ht o.dst (.undef β)) fun a' w2 β2 h1 h2 h3=> ?_;exact hk a' w2 β2 h1 h2 (h3.trans (bO a o.dst undef))
  ·cases hr
theorem EY (hN:cM P){cf:bL}(hcf:CfOk P gl cf){r:Option Nat}{n:Nat}{id:Nat}{ops:Array Oper}(Q:Exit->Act->World->Prop){tm tm':List Value}{a:Act}{h h':Heap}{w:World}
  (hr:e8 P gl cf ops ops.toList tm h=some (tm',h')) (hs:Sim β h w) (hg:Gl gl β) (ht:LRel β tm a.tmps.toList)
  (hk: ∀ a' w' β',Step β h w β' h' w'->LRel β' tm' a'.tmps.toList->a'.defers=a.defers->Q .normal a' w'):(Code.region id ops false).wpIn (eJ r) n P Q a w:=by
 refine wpIn_region ?_;have:=BV hN hcf (r:=r) (n:=n) Q ops.toList 0 (by simp) hr hs hg ht hk;rwa [<-List.range_eq_range',Array.length_toList] at this
theorem wo {F:Fence}{n:Nat}{c:Code}{Q:Exit->Act->World->Prop}(I:Nat->Act->World->Prop)(hz: ∀ a w,¬ I 0 a w)
  (round: ∀ j a w,I (j+1) a w->c.wpIn F n P (Exit.then (I j) Q) a w) {j:Nat} {a:Act} {w:World} (h₀:I j a w):(Code.loop c).wpIn F n P Q a w:=by
 intro b k cs hro hb hr;have key: ∀ j a w,I j a w-> ∃ e a' w',Q e a' w'/\ArrivesIn (Machine.fenced P F) P (lone (b.atR a (.code c :: .inLoop c::k)) cs w) b k cs e a' w':=by
  intro j
  induction j with
  | zero=>exact fun a w h=>absurd h (hz a w)
  | succ j ih=>
   intro a w hI;obtain ⟨e,a₁,w₁,hq,harr⟩:=round j a w hI b (.inLoop c::k) cs hro hb hr
   cases e with
   | normal=>
    obtain ⟨e₂,a₂,w₂,hq₂,harr₂⟩:=ih a₁ w₁ hq;exact ⟨e₂,a₂,w₂,hq₂,.of_steps (StepsIn.trans harr (.one (fenced_calm hb hr rfl) stepR_inLoop)) harr₂⟩
   | exit id=>exact ⟨_,a₁,w₁,hq,.pass (x:= .inLoop c) rfl (fun _ _=> .inl (by simp)) harr⟩
   | goto l=>exact ⟨_,a₁,w₁,hq,.pass (x:= .inLoop c) rfl (fun _ _=> .inl (by simp)) harr⟩
   | ret=>exact ⟨_,a₁,w₁,hq,.pass (x:= .inLoop c) rfl (fun _ _=> .inl (by simp)) harr⟩
   | panic ch=>exact ⟨_,a₁,w₁,hq,.pass (x:= .inLoop c) rfl (fun _ _=> .inl (by simp)) harr⟩
   | outgrown=>exact ⟨_,a₁,w₁,hq,.pass (x:= .inLoop c) rfl (fun _ _=> .inl (by simp)) harr⟩
 obtain ⟨e,a',w',hq,harr⟩:=key j a w h₀;exact ⟨e,a',w',hq,.of_steps (.one (fenced_calm hb hr rfl) stepR_loop) harr⟩
def fQ (P:Program)(gl:Nat->Bool)(cf:bL)(c:Code):Prop:=
 ∀ id ops,c = .region id ops true-> ∀ β tm tm' (a:Act) h h' (w:World) (r:Option Nat) (n:Nat) (Q:Exit->Act->World->Prop),yH P gl cf ops tm h=some (tm',h')->Sim β h w->Gl gl β->LRel β tm a.tmps.toList->
  (∀ a' w' β',Step β h w β' h' w'->LRel β' tm' a'.tmps.toList->a'.defers=a.defers->Q .normal a' w')->(Code.region id ops true).wpIn (eJ r) n P Q a w
inductive Part:Code->Code->Prop where
 | refl (c:Code):Part c c
 | seqL {c a b:Code} (h:Part c a):Part c (.seq a b)
 | seqR {c a b:Code} (h:Part c b):Part c (.seq a b)
 | condT {c a b:Code} {o:Operand} (h:Part c a):Part c (.cond o a b)
 | condF {c a b:Code} {o:Operand} (h:Part c b):Part c (.cond o a b)
 | block {c a:Code} {id:Nat} (h:Part c a):Part c (.block id a)
 | loop {c a:Code} (h:Part c a):Part c (.loop a)
def we (b:Nat):Deferred:={ target:= .collected b,args:= #[] }
def Marks (w:World)(ds:List Deferred)(β:Inj)(h:Heap)(w':World)(ds':List Deferred):Prop:=
 ∃ ms:List Nat,ds'=ms.map we++ds/\ms.Nodup/\ ∀ b∈ms,w.heap.size<=b/\b < w'.heap.size/\w'.heap[b]?=some (.deferred (some []))/\ ¬ Wr β h b
theorem Marks.same {w w':World}{ds ds':List Deferred}{h:Heap}(e:ds'=ds):Marks w ds β h w' ds':=⟨[],by simpa using e,by simp,by simp⟩
theorem Marks.trans {β₁ β₂:Inj}{w w₁ w₂:World}{ds ds₁ ds₂:List Deferred}{h₁ h₂:Heap}(m:Marks w ds β₁ h₁ w₁ ds₁)(hsz:w.heap.size<=w₁.heap.size)(st:Step β₁ h₁ w₁ β₂ h₂ w₂)(m':Marks w₁ ds₁ β₂ h₂ w₂ ds₂):Marks w ds β₂ h₂ w₂ ds₂:=by
 obtain ⟨ms,rfl,hn,hb⟩:=m;obtain ⟨ms',rfl,hn',hb'⟩:=m';refine ⟨ms'++ms,by simp,List.nodup_append.2 ⟨hn',hn,fun a ha b hb2 e=> ?_⟩,fun b hm=> ?_⟩
 ·subst e;have:=(hb' a ha).1;have:=(hb a hb2).2.1;omega
 ·rcases List.mem_append.1 hm with hm | hm
  ·obtain ⟨h1,h2⟩:=hb' b hm;exact ⟨by omega,h2⟩
  ·obtain ⟨h1,h2,h3,h4⟩:=hb b hm;exact ⟨h1,lt_of_lt_of_le h2 st.size,(st.kept b h2 h4).trans h3,fun hw=>h4 (st.back b h2 hw)⟩
theorem BN {h:Heap}{w:World}(hs:Sim β h w)(o:Obj):Step β h w β h (w.alloc o):=by
 have hk: ∀ b,b < w.heap.size->(w.alloc o).heap[b]?=w.heap[b]?:=fun b hb=>by
  show (w.heap.push o)[b]?=_;rw [getElem?_push,if_neg (by omega)]
 refine ⟨β.le_refl,le_refl _,⟨fun k sl hk=>⟨(hs.lt k sl hk).1,?_⟩,fun k B sl h1 h2=>(hs.blk k B sl h1 h2).of_heap (hk _ (hs.lt k sl h2).2),hs.own,hs.wf⟩,?_,rfl,⟨rfl,le_refl _⟩,rfl,fun b hb _=>hk b hb,fun _ _ h=>h,fun _ _ h=> .inl h,fun _ B h _=>⟨B,h⟩⟩
 ·have:=(hs.lt k sl hk).2;simp; omega
 ·simp
theorem DU {h:Heap}{w:World}(hs:Sim β h w){tm:List Value}{r:Loop}(hr:r.state = .ready)(hp:r.pending=none)(ht:LRel β tm r.tmps.toList)(ok:j5 r.assign r.body=true):
  ∃ β',Step β h w β' (h.push (.loop .ready tm r.params.toList r.assign r.body ok)) (w.alloc (.loop r))/\ ∃ sl,β' h.next=some sl/\sl.b=w.heap.size:=by
 have ha:Allocs β w (.loop .ready tm r.params.toList r.assign r.body ok) (fun k=> .func (.yield k) #[] #[]) (.func (.yield w.heap.size) #[] #[]) (w.alloc (.loop r)):=by
  refine ⟨by simp,rfl,⟨rfl,le_refl _⟩,rfl,fun b hb=> ?_,⟨w.heap.size,0,0,0,0,true⟩,rfl,fun β' k hle hk=>⟨⟨rfl,r,World.alloc_heap_new w _,⟨hr,hp⟩,ht.mono hle,rfl,rfl,rfl⟩,?_⟩⟩
  ·show (w.heap.push _)[b]?=_;rw [getElem?_push,if_neg (by omega)]
  ·exact .yield (sl:=⟨w.heap.size,0,0,0,0,true⟩) hk rfl rfl
 obtain ⟨β',h1,h2⟩:=ha.step hs;obtain ⟨sl,h3,h4⟩:=h2.inv_yield;refine ⟨β',h1,sl,h3,?_⟩;simp only [Value.func.injEq,Fn.yield.injEq] at h4;exact h4.1.symm
theorem EH {h:Heap}{w w':World}(hs:Sim β h w){k:Nat}{B₀:Blk}{sl:Slot}(hk:h.get k=some B₀)(hb:β k=some sl)(hw:B₀.wr=true)(ha:At w w' sl.b):Step β h w β (h.del k) w':=by
 have hget: ∀ k' B',(h.del k).get k'=some B'->k'≠k/\h.get k'=some B':=fun k' B' hg=>by
  rw [h.get_del] at hg;split at hg
  ·cases hg
  ·next hne=>exact ⟨hne,hg⟩
 have hown: ∀ k' B' sl',k'≠k->h.get k'=some B'->β k'=some sl'->sl'.b≠sl.b:=fun k' B' sl' hne h1 h2=>(hs.own k k' B₀ B' sl sl' (Ne.symm hne) hk h1 hb h2 hw).symm;refine ⟨β.le_refl,le_refl _,⟨?_,?_,?_,Heap.wf_del hs.wf k⟩,by rw [ha.size]; exact le_refl _,ha.os,ha.tape,ha.output,?_,?_,fun _ _ h=> .inl h,?_⟩
 ·intro k' sl' h1;rw [ha.size];exact hs.lt k' sl' h1
 ·intro k' B' sl' h1 h2;obtain ⟨hne,h1⟩:=hget _ _ h1;exact (hs.blk k' B' sl' h1 h2).of_heap (ha.kept _ (hown k' B' sl' hne h1 h2))
 ·intro k₁ k₂ B₁ B₂ sl₁ sl₂ hne h1 h2 h3 h4 h5;exact hs.own k₁ k₂ B₁ B₂ sl₁ sl₂ hne (hget _ _ h1).2 (hget _ _ h2).2 h3 h4 h5
 ·intro b hb' hn;refine ha.kept b ?_;rintro rfl;exact hn ⟨k,B₀,sl,hk,hw,hb,rfl⟩
 ·rintro b hb' ⟨k',B',sl',h1,h2,h3,h4⟩;exact ⟨k',B',sl',(hget _ _ h1).2,h2,h3,h4⟩
 ·intro k' B' h1 h2;exact ⟨B',(hget _ _ h1).2⟩
theorem pO (w:World)(b:Nat)(o:Obj):At w (w.putObj b o) b:=⟨by simp,rfl,.refl _,rfl,fun b' hb=>World.putObj_heap_other hb⟩
theorem zl {P:Program}{g:FuncId}(h:sI P g=true): ∃ fn,P.funcs[g]?=some fn/\fn.body.isSome=true:=by
 unfold sI at h;split at h
 ·next fn hf=>exact ⟨fn,hf,h⟩
 ·cases h
theorem wh {a b:Bool}(h:(a && b)=true):a=true:=by simp only [and_eq_true] at h; exact h.1
theorem Cs {a b:Bool}(h:(a && b)=true):b=true:=by simp only [and_eq_true] at h; exact h.2
theorem pm (hN:cM P){cf:bL}(hcf:CfOk P gl cf){r:Option Nat}{n N:Nat}: ∀ (c:Code),(r=none\/ii c=true)->(∀ d,Part d c->fQ P gl cf d)-> ∀ {β:Inj}{tm tm':List Value}{a:Act}{h h':Heap}{w:World}{e:Exit}(Q:Exit->Act->World->Prop),
  aP P gl cf N c tm h=some (e,tm',h')->Sim β h w->Gl gl β->LRel β tm a.tmps.toList->
  (∀ a' w' β',Step β h w β' h' w'->LRel β' tm' a'.tmps.toList->Marks w a.defers β' h' w' a'.defers->Q e a' w')->c.wpIn (eJ r) n P Q a w:=by
 intro c
 induction c with
 | skip=>
  intro hnr hdr β tm tm' a h h' w e Q hr hs hg ht hk;simp only [aP,Option.some.injEq,Prod.mk.injEq] at hr;obtain ⟨rfl,rfl,rfl⟩:=hr;exact wpIn_skip (hk a w β (Step.refl hs) ht (.same rfl))
 | region id ops draw=>
  intro hnr hdr β tm tm' a h h' w e Q hr hs hg ht hk
  cases draw
  ·simp only [aP] at hr;obtain ⟨⟨tm2,h2⟩,hop,he⟩:=map_eq_some_iff.1 hr;simp only [Prod.mk.injEq] at he;obtain ⟨rfl,rfl,rfl⟩:=he;exact EY hN hcf Q hop hs hg ht fun a' w' β' h1 h2 h3=>hk a' w' β' h1 h2 (.same h3)
  ·simp only [aP] at hr;obtain ⟨⟨tm2,h2⟩,hop,he⟩:=map_eq_some_iff.1 hr;simp only [Prod.mk.injEq] at he;obtain ⟨rfl,rfl,rfl⟩:=he;exact hdr _ (.refl _) id ops rfl β tm tm2 a h h2 w r n Q hop hs hg ht fun a' w' β' h1 h2 h3=>hk a' w' β' h1 h2 (.same h3)
 | seq x y ihx ihy=>
  intro hnr hdr β tm tm' a h h' w e Q hr hs hg ht hk;simp only [aP] at hr;refine wpIn_seq ?_;split at hr
  ·next tm1 h1 hx=>
   refine ihx (hnr.imp id wh) (fun d hd=>hdr d (.seqL hd)) _ hx hs hg ht fun a1 w1 β1 hst1 ht1 hd1=> ?_;exact ihy (hnr.imp id Cs) (fun d hd=>hdr d (.seqR hd)) _ hr hst1.sim (hg.mono hst1.le) ht1 fun a2 w2 β2 hst2 ht2 hd2=>hk a2 w2 β2 (hst1.trans hst2) ht2 (hd1.trans hst1.size hst2 hd2)
  ·next hne=>
   refine ihx (hnr.imp id wh) (fun d hd=>hdr d (.seqL hd)) _ hr hs hg ht fun a1 w1 β1 hst1 ht1 hd1=> ?_;have:=hk a1 w1 β1 hst1 ht1 hd1
   cases e with
   | normal=>exact absurd hr (hne _ _)
   | _=>exact this
 | cond o x y ihx ihy=>
  intro hnr hdr β tm tm' a h h' w e Q hr hs hg ht hk;simp only [aP] at hr;split at hr
  ·next t hev=>
   have hc:a.eval o = .bool t:=by
    have:=pS (β:=β) hg ht o;rw [hev] at this;exact this.inv_bool
   cases t
   ·exact wpIn_cond hc (ihy (hnr.imp id Cs) (fun d hd=>hdr d (.condF hd)) Q hr hs hg ht hk)
   ·exact wpIn_cond hc (ihx (hnr.imp id wh) (fun d hd=>hdr d (.condT hd)) Q hr hs hg ht hk)
  ·cases hr
 | block id x ih=>
  intro hnr hdr β tm tm' a h h' w e Q hr hs hg ht hk;simp only [aP] at hr;refine wpIn_block ?_;split at hr
  ·next id' tm1 h1 hx=>
   refine ih hnr (fun d hd=>hdr d (.block hd)) _ hx hs hg ht fun a1 w1 β1 hst1 ht1 hd1=> ?_;split at hr
   ·next he=>
    simp only [Option.some.injEq,Prod.mk.injEq] at hr;obtain ⟨rfl,rfl,rfl⟩:=hr;simp only [Exit.inBlock,he,if_true];exact hk a1 w1 β1 hst1 ht1 hd1
   ·next he=>
    simp only [Option.some.injEq,Prod.mk.injEq] at hr;obtain ⟨rfl,rfl,rfl⟩:=hr;simp only [Exit.inBlock,he,if_false];exact hk a1 w1 β1 hst1 ht1 hd1
  ·next hne=>
   refine ih hnr (fun d hd=>hdr d (.block hd)) _ hr hs hg ht fun a1 w1 β1 hst1 ht1 hd1=> ?_;have:=hk a1 w1 β1 hst1 ht1 hd1
   cases e with
   | exit id'=>exact absurd hr (hne _ _ _)
   | _=>exact this
 | loop x ih=>
  intro hnr hdr β tm tm' a h h' w e Q hr hs hg ht hk;simp only [aP] at hr;refine wo (fun j a1 w1=> ∃ β1 tm1 h1,Step β h w β1 h1 w1/\LRel β1 tm1 a1.tmps.toList/\Marks w a.defers β1 h1 w1 a1.defers/\z6 (aP P gl cf N x) j tm1 h1=some (e,tm',h')) ?_ ?_ (j:=N) ⟨β,tm,h,Step.refl hs,ht,.same rfl,hr⟩
  ·rintro a1 w1 ⟨β1,tm1,h1,_,_,_,h5⟩;simp [z6] at h5
  ·rintro j a1 w1 ⟨β1,tm1,h1,hst1,ht1,hd1,hit⟩;simp only [z6] at hit;split at hit
   ·next tm2 h2 hx=>
    refine ih hnr (fun d hd=>hdr d (.loop hd)) _ hx hst1.sim (hg.mono hst1.le) ht1 fun a2 w2 β2 hst2 ht2 hd2=> ?_;exact ⟨β2,tm2,h2,hst1.trans hst2,ht2,hd1.trans hst1.size hst2 hd2,hit⟩
   ·next hne=>
    refine ih hnr (fun d hd=>hdr d (.loop hd)) _ hit hst1.sim (hg.mono hst1.le) ht1 fun a2 w2 β2 hst2 ht2 hd2=> ?_;have:=hk a2 w2 β2 (hst1.trans hst2) ht2 (hd1.trans hst1.size hst2 hd2)
    cases e with
    | normal=>exact absurd hit (hne _ _)
    | _=>exact this
 | exit id=>
  intro hnr hdr β tm tm' a h h' w e Q hr hs hg ht hk;simp only [aP,Option.some.injEq,Prod.mk.injEq] at hr;obtain ⟨rfl,rfl,rfl⟩:=hr;exact wpIn_exit (hk a w β (Step.refl hs) ht (.same rfl))
 | ret=>
  intro hnr hdr β tm tm' a h h' w e Q hr hs hg ht hk;simp only [aP,Option.some.injEq,Prod.mk.injEq] at hr;obtain ⟨rfl,rfl,rfl⟩:=hr;exact wpIn_ret (hk a w β (Step.refl hs) ht (.same rfl))
 | label l=>
  intro hnr hdr β tm tm' a h h' w e Q hr hs hg ht hk;simp only [aP,Option.some.injEq,Prod.mk.injEq] at hr;obtain ⟨rfl,rfl,rfl⟩:=hr;exact wpIn_label (hk a w β (Step.refl hs) ht (.same rfl))
 | rangeFunc f ps x y _ _=>
  intro hnr hdr β tm tm' a h h' w e Q hr hs hg ht hk;rcases hnr with rfl | hnr
  ·simp only [aP] at hr;split at hr
   ·next g first captured hfv=>
    split at hr
    ·next hok=>
     split at hr
     ·next hgb=>
      split at hr
      ·next v2 h2 hcall=>
       obtain ⟨e2,hend,he⟩:=map_eq_some_iff.1 hr;simp only [Prod.mk.injEq] at he;obtain ⟨rfl,rfl,rfl⟩:=he;refine wpIn_rangeFunc fun fnI hFn=> ?_;have hs0:Step β h w β h (w.alloc (.deferred (some []))):=BN hs _;obtain ⟨β1,hst1,sl,hsl,hslb⟩:=DU hs0.sim (tm:=tm) (r:={ state:= .ready,pending:=none,fn:=fnI,tmps:=a.tmps,params:=ps,assign:=x,body:=y,defers:=w.heap.size }) rfl rfl ht hok;have hst01:=hs0.trans hst1;have hf:=pS (β:=β) hg ht f;rw [hfv] at hf;obtain ⟨first',captured',hfe,hfr,hcr⟩:=hf.inv_fn;have hslb':sl.b=w.heap.size+1:=by rw [hslb]; simp
       have hargs:LRel β1 (first.toList++[Value.func (.yield h.next) #[] #[]]++captured.toList) (first' ++ #[Value.func (.yield (w.heap.size+1)) #[] #[]]++captured').toList:=by
        simp only [Array.toList_append];refine (((ARel.toList.1 hfr).mono hst01.le).append ?_).append ((ARel.toList.1 hcr).mono hst01.le);exact .cons (by have:=VRel.yield hsl (a:= #[]) (c:= #[]) rfl rfl; rwa [hslb'] at this) (.nil _)
       obtain ⟨fn,hfn,hres⟩:=hcf.fn g _ _ _ h2 hgb.1 hcall β1 _ _ hst1.sim (hg.mono hst01.le) hargs;obtain ⟨fn2,hfn2,hbody⟩:=zl hgb.2;rw [hfn2] at hfn;obtain rfl:=oI hfn;have hent:=cK hN hfn2 hbody (first' ++ #[Value.func (.yield (w.heap.size+1)) #[] #[]]++captured');have hcalls:Calls P g (first' ++ #[Value.func (.yield (w.heap.size+1)) #[] #[]]++captured') ((w.alloc (.deferred (some []))).alloc (.loop { state:= .ready,pending:=none,fn:=fnI,tmps:=a.tmps,params:=ps,assign:=x,body:=y,defers:=w.heap.size })) (jo β1 (h.push (.loop .ready tm ps.toList x y hok)) ((w.alloc (.deferred (some []))).alloc (.loop { state:= .ready,pending:=none,fn:=fnI,tmps:=a.tmps,params:=ps,assign:=x,body:=y,defers:=w.heap.size })) v2 h2):=by
        rcases hres with ⟨_,hc⟩ | ⟨v',w',β',hc,_⟩
        ·exact hc
        ·rw [hent] at hc; cases hc
       have henter:(Instr.enterLoop fnI a.tmps ps x y (eJ none).round).run P w = .ok (w.heap.size+1,[we w.heap.size]) ((w.alloc (.deferred (some []))).alloc (.loop { state:= .ready,pending:=none,fn:=fnI,tmps:=a.tmps,params:=ps,assign:=x,body:=y,defers:=w.heap.size })):=run_enterLoop_outer fnI a.tmps ps x y;have hresv:(resolve a.eval (rangeCall f (w.heap.size+1)) 0).run P ((w.alloc (.deferred (some []))).alloc (.loop { state:= .ready,pending:=none,fn:=fnI,tmps:=a.tmps,params:=ps,assign:=x,body:=y,defers:=w.heap.size })) = .ok { target:= .fn (.func g) captured',args:=first' ++ #[Value.func (.yield (w.heap.size+1)) #[] #[]] } ((w.alloc (.deferred (some []))).alloc (.loop { state:= .ready,pending:=none,fn:=fnI,tmps:=a.tmps,params:=ps,assign:=x,body:=y,defers:=w.heap.size })):=by
        have he:resolve a.eval (rangeCall f (w.heap.size+1)) 0=Deferred.ofValue (a.eval f) #[Value.func (.yield (w.heap.size+1)) #[] #[]]:=by
         unfold resolve rangeCall;simp only [List.map_toArray,List.map_cons,List.map_nil];rfl
        rw [he,hfe];rfl
       refine ⟨_,_,_,_,_,g,_,_,henter,hresv,fun _ _=>trivial,hent _,fun hd=>by simp [eJ,Fence.wide] at hd,mZ (hcalls.mono ?_)⟩;rintro e' w3 ⟨v',β3,rfl,hst3,hv3⟩
       cases hB:h2.get h.next with
       | none=>rw [hB] at hend; cases hend
       | some B=>
        rw [hB] at hend;have hsl3:=hst3.le _ _ hsl
        cases B with
        | cells _ _ _ _=>cases hend
        | map _=>cases hend
        | loop st tm2 ps2 asg2 body2 ok2=>
         obtain ⟨_,r,hr1,hr2,_⟩:=hst3.sim.blk _ _ _ hB hsl3;rw [hslb'] at hr1;have hmk:Marks w a.defers β3 (h2.del h.next) (w3.putObj (w.heap.size+1) (.loop { r with state:= .exhausted })) ([we w.heap.size]++a.defers):=by
          have hnw: ¬ Wr β1 (h.push (.loop .ready tm ps.toList x y hok)) w.heap.size:=fun hw=>by
           have:=hst1.back w.heap.size (by simp) hw;obtain ⟨k,B,sl0,_,_,h3,h4⟩:=this;have:=(hs.lt k sl0 h3).2;omega
          have hsz:w.heap.size < ((w.alloc (.deferred (some []))).alloc (.loop { state:= .ready,pending:=none,fn:=fnI,tmps:=a.tmps,params:=ps,assign:=x,body:=y,defers:=w.heap.size })).heap.size:=by simp; omega
          refine ⟨[w.heap.size],rfl,by simp,fun b hb=> ?_⟩;obtain rfl:=List.mem_singleton.1 hb;refine ⟨le_refl _,?_,?_,fun hw=> ?_⟩
          ·rw [World.putObj_size]; exact lt_of_lt_of_le hsz hst3.size
          ·rw [World.putObj_heap_other (by omega),hst3.kept _ hsz hnw];show ((w.heap.push _).push _)[w.heap.size]?=_;rw [getElem?_push,if_neg (by simp),getElem?_push,if_pos rfl]
          ·obtain ⟨k,B,sl0,h1,h2',h3,h4⟩:=hw;refine hnw (hst3.back _ hsz ⟨k,B,sl0,?_,h2',h3,h4⟩);rw [Heap.get_del] at h1;split at h1
           ·cases h1
           ·exact h1
         have hdrop:Step β3 h2 w3 β3 (h2.del h.next) (w3.putObj (w.heap.size+1) (.loop { r with state:= .exhausted })):=EH hst3.sim hB hsl3 rfl (by rw [hslb']; exact pO _ _ _);have hall:=(hst01.trans hst3).trans hdrop;have htm:=ht.mono (hst01.trans hst3).le;have hfin:=hk { a with defers:=[we w.heap.size]++a.defers } _ β3 hall htm hmk;have hnb:r.state≠ .busy:=by
          cases st <;> simp only [Br] at hr2 <;> first | (rw [hr2.1]; simp; done) | cases hend
         refine ⟨r.pending,_,run_endLoop hr1 hnb,?_⟩
         cases st with
         | ready=>
          obtain rfl:=oI hend;have hp:r.pending=none:=hr2.2;rw [hp] at hfin ⊢;exact hfin
         | busy=>cases hend
         | ret=>
          obtain rfl:=oI hend;have hp:r.pending=some .ret:=hr2.2;rw [hp] at hfin ⊢;exact wpIn_ret hfin
         | exit id=>
          obtain rfl:=oI hend;have hp:r.pending=some (.exit id):=hr2.2;rw [hp] at hfin ⊢;exact wpIn_exit hfin
      ·cases hr
     ·cases hr
    ·cases hr
   ·cases hr
  ·cases hnr
 | scope x _=>intro hnr hdr β tm tm' a h h' w e Q hr; simp [aP] at hr
 | goto l=>intro hnr hdr β tm tm' a h h' w e Q hr; simp [aP] at hr
 | refuse s=>intro hnr hdr β tm tm' a h h' w e Q hr; simp [aP] at hr
end
section
variable {β:Inj} {P:Program} {gl:Nat->Bool}
def zD (tmps:Array Value):ResultVar->Sem Value
 | .tmp t=>pure (tmps.getD t undef)
 | .cell x t=>do loadVar t (<-asAddr (tmps.getD x undef))
theorem B0 (fn:Func)(tmps:Array Value):results fn tmps=(do let vs <-fn.results.mapM (zD tmps); pure (if h:vs.size=1 then vs[0] else .tuple vs)):=by
 unfold results;congr 1
theorem kC {a:Act}{h:Heap}{w:World}(hs:Sim β h w){tm:List Value}(ht:LRel β tm a.tmps.toList): ∀ (l:List ResultVar){vs:List Value},bG P tm h l=some vs->
  ∃ vs',(l.mapM (zD a.tmps)).run P w = .ok vs' w/\LRel β vs vs'
 | [],vs,h=>by simp only [bG,Option.some.injEq] at h; subst h; exact ⟨[],by simp,.nil β⟩
 | .tmp t::l,vs,hr=>by
  simp only [bG] at hr;obtain ⟨vs0,h0,rfl⟩:=map_eq_some_iff.1 hr;obtain ⟨vs',h1,h2⟩:=kC hs ht l h0;have hv:=ht.getD t;rw [show a.tmps.toList.getD t undef=a.tmps.getD t undef by simp [List.getD,Array.getD_eq_getD_getElem?]] at hv;refine ⟨a.tmps.getD t undef::vs',?_,.cons hv h2⟩;rw [List.mapM_cons];simp only [run_bind,zD,Sem.run_pure,andThen_ok,h1]
 | .cell x t::l,vs,hr=>by
  simp only [bG] at hr;split at hr
  ·next v hl=>
   obtain ⟨vs0,h0,rfl⟩:=map_eq_some_iff.1 hr;obtain ⟨vs',h1,h2⟩:=kC hs ht l h0;have hv:=ht.getD x;rw [show a.tmps.toList.getD x undef=a.tmps.getD x undef by simp [List.getD,Array.getD_eq_getD_getElem?]] at hv;obtain ⟨ad,he,v',hrun,hvr⟩:=xw (P:=P) hs hl hv;refine ⟨v'::vs',?_,.cons hvr h2⟩;rw [List.mapM_cons];simp only [run_bind,zD,he,asAddr,Sem.run_pure,andThen_ok,hrun,h1]
  ·cases hr
theorem zh {fn:Func}{a:Act}{h:Heap}{w:World}(hs:Sim β h w){tm:List Value}(ht:LRel β tm a.tmps.toList){vs:List Value}(hr:bG P tm h fn.results.toList=some vs):
  ∃ v',(results fn a.tmps).run P w = .ok v' w/\VRel β (bV vs) v':=by
 obtain ⟨vs',h1,h2⟩:=kC (P:=P) hs ht fn.results.toList hr;have hm:(fn.results.mapM (zD a.tmps)).run P w = .ok vs'.toArray w:=by
  rw [Array.mapM_eq_mapM_toList];simp only [Sem.run_map,h1,andThen_ok]
 refine ⟨if h:vs'.toArray.size=1 then vs'.toArray[0] else .tuple vs'.toArray,?_,?_⟩
 ·rw [B0];simp only [run_bind,hm,andThen_ok,Sem.run_pure]
 ·match vs,vs',h2 with
  | [],vs',h2=>rw [h2.inv_nil]; exact .tuple rfl fun i v v' h=>by simp at h
  | [v],vs',h2=>
   obtain ⟨v',r,rfl,hv,hr⟩:=h2.inv_cons;rw [hr.inv_nil];exact hv
  | v::u::vs,vs',h2=>
   have hl:=h2.1;have hne: ¬ vs'.toArray.size=1:=by simp only [List.size_toArray]; simp only [List.length_cons] at hl; omega
   rw [dif_neg hne];exact .tuple (by simpa using hl) fun i x x' h3 h4=>h2.2 i x x' (by simpa using h3) (by simpa using h4)
theorem BRel.not_deferred {B:Blk}{sl:Slot}{w:World}(h:BRel β B sl w){d:Option (List Deferred)}(hd:w.heap[sl.b]?=some (.deferred d)):False:=by
 cases B with
 | cells cs t sz wr=>obtain ⟨_,_,_,cs',fr,h4,_⟩:=h; rw [hd] at h4; cases h4
 | map es=>obtain ⟨_,es',clock,h2,_⟩:=h; rw [hd] at h2; cases h2
 | loop st tm ps asg body ok=>obtain ⟨_,r,h2,_⟩:=h; rw [hd] at h2; cases h2
theorem vo {β₀:Inj}{h₀ h:Heap}{w₀ w:World}(st:Step β₀ h₀ w₀ β h w){b:Nat}{d d':Option (List Deferred)}(hb:w₀.heap.size<=b)(hd:w.heap[b]?=some (.deferred d)):Step β₀ h₀ w₀ β h (w.putObj b (.deferred d')):=by
 refine ⟨st.le,st.next,⟨fun k sl hk=> ?_,fun k B sl h1 h2=> ?_,st.sim.own,st.sim.wf⟩,?_,st.os,st.tape,st.output,fun b' hb' hw=> ?_,st.back,st.fresh,st.keys⟩
 ·rw [World.putObj_size]; exact st.sim.lt k sl hk
 ·have hB:=st.sim.blk k B sl h1 h2;refine hB.of_heap (World.putObj_heap_other fun e=> ?_);rw [<-e] at hd;exact hB.not_deferred hd
 ·rw [World.putObj_size]; exact st.size
 ·rw [World.putObj_heap_other (by omega)];exact st.kept b' hb' hw
theorem ki {F:Fence}{n:Nat}{fn:Func}{β₀ β':Inj}{h₀ h':Heap}{w₀:World}{tm:List Value}{tmps:Array Value}{vs:List Value}(hres:bG P tm h' fn.results.toList=some vs)(ht:LRel β' tm tmps.toList):
  ∀ (ms:List Nat)(w':World),ms.Nodup->(∀ b∈ms,w₀.heap.size<=b/\w'.heap[b]?=some (.deferred (some [])))->Step β₀ h₀ w₀ β' h' w'->LeavesInM F n P fn tmps (jo β₀ h₀ w₀ (bV vs) h') (ms.map we) .returning w'
 | [],w',_,_,st=>by
  obtain ⟨v',h1,h2⟩:=zh (P:=P) (fn:=fn) (a:={ tmps:=tmps,defers:=[] }) st.sim ht hres;exact ⟨v',h1,v',β',rfl,st,h2⟩
 | b::ms,w',hn,hb,st=>by
  obtain ⟨h1,h2⟩:=hb b (by simp);obtain ⟨hn1,hn2⟩:=List.nodup_cons.1 hn;refine ⟨by simp,.inl ⟨b,_,rfl,run_takeDeferred h2,?_⟩⟩;refine ki hres ht ms _ hn2 (fun b' hm=> ?_) (vo st h1 h2);obtain ⟨h3,h4⟩:=hb b' (by simp [hm]);exact ⟨h3,by rw [World.putObj_heap_other (by rintro rfl; exact hn1 hm)]; exact h4⟩
def iS (P:Program)(gl:Nat->Bool)(f:FuncId)(p:mA):Prop:=
 ∀ cf,CfOk P gl cf-> ∀ args h v h',p cf args h=some (v,h')-> ∀ β w (args':Array Value),Sim β h w->Gl gl β->LRel β args args'.toList->
  ∃ fn,P.funcs[f]?=some fn/\((fn.body.isSome=true/\Calls P f args' w (jo β h w v h'))\/
   (∃ v' w' β',(callFunc f args').run P w = .ok (.value v') w'/\Step β h w β' h' w'/\VRel β' v v'))
def j9 (P:Program)(gl:Nat->Bool)(pr:FuncId->Option mA):Prop:= ∀ f p,pr f=some p->iS P gl f p
def Ac (P:Program)(gl:Nat->Bool):Prop:= ∀ cf,CfOk P gl cf-> ∀ (f:FuncId)(fn:Func)(c d:Code),P.funcs[f]?=some fn->fn.body=some c->Part d c->fQ P gl cf d
theorem sk (hN:cM P){cf:bL}(hcf:CfOk P gl cf){N:Nat}{f:FuncId}{fn:Func}{c:Code}(hf:P.funcs[f]?=some fn)(hb:fn.body=some c)(hd: ∀ d,Part d c->fQ P gl cf d)
  {args:List Value} {h h':Heap} {tm:List Value} {e:Exit} {vs:List Value} (hr:aP P gl cf N c (args++List.replicate (fn.ntmps - args.length) undef) h=some (e,tm,h')) (he:e = .normal\/e = .ret)
  (hres:bG P tm h' fn.results.toList=some vs) {w:World} {args':Array Value} (hs:Sim β h w) (hg:Gl gl β) (ha:LRel β args args'.toList):
  Calls P f args' w (jo β h w (bV vs) h'):=by
 refine (callsIn_wide (n:=0)).1 (callsIn_of_wp_marks (F:=Fence.wide) hf hb trivial ?_);have hrep: ∀ k,LRel β (List.replicate k undef) (List.replicate k undef):=fun k=>⟨rfl,fun i v v' h1 h2=>by
  rw [List.getElem?_replicate] at h1 h2;split at h1
  ·next hi=>rw [if_pos hi] at h2; obtain rfl:=oI h1; obtain rfl:=oI h2; exact .undef β
  ·cases h1⟩
 have ht:LRel β (args++List.replicate (fn.ntmps - args.length) undef) (args'++Array.replicate (fn.ntmps - args'.size) undef).toList:=by
  have:args'.size=args.length:=by rw [ha.1]; simp
  rw [this];simp only [Array.toList_append,Array.toList_replicate];exact ha.append (hrep _)
 refine pm (r:=none) hN hcf c (.inl rfl) hd _ hr hs hg ht fun a w' β' hst ht' hd'=> ?_;obtain ⟨ms,hms,hnd,hb'⟩:=hd';simp only [List.append_nil] at hms;have key:=ki (P:=P) (F:=Fence.wide) (n:=0) (fn:=fn) hres ht' ms w' hnd (fun b hm=>⟨(hb' b hm).1,(hb' b hm).2.2.1⟩) hst;rw [<-hms] at key;rcases he with rfl | rfl
 ·exact key
 ·exact key
theorem sK: ∀ (l:List (Tmp×Value))(T:Array Value),(l.foldl (fun tmps (p:Tmp×Value)=>tmps.setIfInBounds p.1 p.2) T).toList=i7 T.toList l
 | [],_=>rfl
 | p::l,T=>by
  simp only [foldl_cons,i7];rw [sK l,i7,Array.toList_setIfInBounds]
theorem LRel.set {l l':List Value}(h:LRel β l l')(i:Nat){v v':Value}(hv:VRel β v v'):LRel β (l.set i v) (l'.set i v'):=by
 refine ⟨by simp [h.1],fun j u u' h1 h2=> ?_⟩;rw [List.getElem?_set] at h1 h2;split at h1
 ·next he=>
  rw [if_pos he] at h2;split at h1
  ·split at h2
   ·obtain rfl:=oI h1; obtain rfl:=oI h2; exact hv
   ·cases h2
  ·cases h1
 ·next he=>rw [if_neg he] at h2; exact h.2 j u u' h1 h2
theorem vG: ∀ (ps:List Tmp){tm tm' args args':List Value},LRel β tm tm'->LRel β args args'->LRel β (i7 tm (ps.zip args)) (i7 tm' (ps.zip args'))
 | [],_,_,_,_,ht,_=>by simpa [i7] using ht
 | p::ps,_,_,[],_,ht,ha=>by rw [ha.inv_nil]; simpa [i7] using ht
 | p::ps,_,_,v::vs,_,ht,ha=>by
  obtain ⟨v',r',rfl,hv,hrr⟩:=ha.inv_cons;exact vG ps (ht.set p hv) hrr
theorem eT {cf:bL}(hD: ∀ (d c:Code),Part d c->bc c=true->fQ P gl cf d){c:Code}(h:bc c=true): ∀ d,Part d c->fQ P gl cf d:=fun d hd=>hD d c hd h
theorem HC (hN:cM P){cf:bL}(hcf:CfOk P gl cf)(hD: ∀ (d c:Code),Part d c->bc c=true->fQ P gl cf d){N k:Nat}{args:List Value}{h h':Heap}{v:Value}(hr:oQ (aP P gl cf N) k args h=some (v,h')){w:World}{args':Array Value}{sl:Slot}
  (hs:Sim β h w) (hg:Gl gl β) (ha:LRel β args args'.toList) (hb:β k=some sl):
  ∃ fn tmps asg body,(Instr.yield sl.b args').run P w = .ok (.round sl.b fn tmps asg body) w/\ ∀ (r:Option Nat)(n:Nat),RoundIn (eJ r) n P sl.b fn tmps asg body w (jo β h w v h'):=by
 unfold oQ at hr;split at hr
 ·next tm ps asg body ok hk=>
  split at hr
  ·next hlen=>
   split at hr
   ·next tm1 h1 hasg=>
    split at hr
    ·next tm' ps' asg' body' ok' hk1=>
     split at hr
     ·next e x h2 hbody=>
      split at hr
      ·next st2 tm2 ps2 asg2 body2 ok2 b st hk2 hlst=>
       simp only [Option.some.injEq,Prod.mk.injEq] at hr;obtain ⟨rfl,rfl⟩:=hr;obtain ⟨_,lr,hr1,hr2,htm,hps,rfl,rfl⟩:=hs.blk _ _ _ hk hb;have hsz:args'.size=lr.params.size:=by
        have:=ha.1;rw [<-Array.length_toList,<-this,hlen,<-hps]; simp
       refine ⟨lr.fn,_,lr.assign,lr.body,run_yield hr1 hsz,fun r n=> ?_⟩;simp only [j5,and_eq_true] at ok;obtain ⟨⟨⟨ok1,ok2'⟩,ok3⟩,ok4⟩:=ok;have hset:LRel β (i7 tm (ps.zip args)) ((lr.params.zip args').foldl (fun tmps (t,a)=>tmps.setIfInBounds t a) lr.tmps).toList:=by
        rw [<-foldl_toList,Array.toList_zip,hps];have:=vG ps htm ha;rw [<-sK (ps.zip args'.toList) lr.tmps] at this;exact this
       refine roundIn_of_wpIn trivial ?_;refine pm (r:=some sl.b) hN hcf lr.assign (.inr ok3) (eT hD ok1) _ hasg hs hg (a:={ tmps:=_,defers:=[] }) hset fun a1 w1 β1 hst1 ht1 _=> ?_;have hb1:=hst1.le _ _ hb;obtain ⟨_,lr1,hr11,hr12,htm1,hps1,hasg1,hbody1⟩:=hst1.sim.blk _ _ _ hk1 hb1;have hst2:Step β1 h1 w1 β1 (h1.set k (.loop .busy tm' ps' asg' body' ok')) (w1.putObj sl.b (.loop { lr1 with state:= .busy })):=
        Step.at_ hst1.sim hk1 hb1 rfl (pO _ _ _) ⟨by assumption,{ lr1 with state:= .busy },World.putObj_heap_same (hst1.sim.lt _ _ hb1).2,rfl,htm1,hps1,hasg1,hbody1⟩
       refine ⟨_,run_beginRound hr11 hr12.1,?_⟩;have hst12:=hst1.trans hst2;refine pm (r:=some sl.b) hN hcf lr.body (.inr ok4) (eT hD ok2') _ hbody hst2.sim (hg.mono hst12.le) ht1 fun a2 w2 β2 hst3 ht2 _=> ?_;have hb2:=hst3.le _ _ hb1;obtain ⟨hmap,lr2,hr21,hr22,htm2,hps2,hasg2,hbody2⟩:=hst3.sim.blk _ _ _ hk2 hb2;have hst13:=hst12.trans hst3;have fin: ∀ jump:Option Code,b=jump.isNone->Br st (if jump.isNone then .ready else .done) jump->
         ∃ v w',(Instr.endRound sl.b jump).run P w2 = .ok v w'/\jo β h w (.bool b) (h2.set k (.loop st tm2 ps2 asg2 body2 ok2)) (.returned v) w':=fun jump hj hst=>by
        refine ⟨_,_,run_endRound jump hr21,.bool jump.isNone,β2,rfl,hst13.trans (Step.at_ hst3.sim hk2 hb2 rfl (pO _ _ _) ⟨hmap,_,World.putObj_heap_same (hst3.sim.lt _ _ hb2).2,hst,htm2,hps2,hasg2,hbody2⟩),?_⟩;rw [hj]; exact .bool _
       cases e with
       | normal=>simp only [qR,Option.some.injEq,Prod.mk.injEq] at hlst; obtain ⟨rfl,rfl⟩:=hlst; exact fin none rfl ⟨rfl,rfl⟩
       | ret=>simp only [qR,Option.some.injEq,Prod.mk.injEq] at hlst; obtain ⟨rfl,rfl⟩:=hlst; exact fin (some .ret) rfl ⟨rfl,rfl⟩
       | exit id=>simp only [qR,Option.some.injEq,Prod.mk.injEq] at hlst; obtain ⟨rfl,rfl⟩:=hlst; exact fin (some (.exit id)) rfl ⟨rfl,rfl⟩
       | _=>cases hlst
      ·cases hr
     ·cases hr
    ·cases hr
   ·cases hr
  ·cases hr
 ·cases hr
def vi (P:Program)(gl:Nat->Bool):Prop:= ∀ cf,CfOk P gl cf-> ∀ (d c:Code),Part d c->bc c=true->fQ P gl cf d
theorem Dc (hN:cM P){pr:FuncId->Option mA}(hp:j9 P gl pr)(hD:Ac P gl)(hT:vi P gl): ∀ n,CfOk P gl (aT P gl pr n)
 | 0=>⟨fun f args h v h' _ hr=>by simp [aT] at hr,fun k args h v h' hr=>by simp [aT] at hr⟩
 | n+1=>by
  have ih:=Dc hN hp hD hT n;refine ⟨fun f args h v h' hfY hr β w args' hs hg ha=> ?_,fun k args h v h' hr β w args' sl hs hg ha hb=> ?_⟩
  ·simp only [aT] at hr;rw [if_neg (by omega)] at hr;split at hr
   ·next p hpf=>exact hp f p hpf _ ih args h v h' hr β w args' hs hg ha
   ·split at hr
    ·next fn hf=>
     split at hr
     ·next c hb=>
      refine ⟨fn,hf,.inl ⟨by simp [hb],?_⟩⟩;split at hr
      ·next tm h2 hcr=>
       obtain ⟨vs,hres,he⟩:=map_eq_some_iff.1 hr;simp only [Prod.mk.injEq] at he;obtain ⟨rfl,rfl⟩:=he;exact sk hN ih hf hb (fun d hd=>hD _ ih f fn c d hf hb hd) hcr (.inl rfl) hres hs hg ha
      ·next tm h2 hcr=>
       obtain ⟨vs,hres,he⟩:=map_eq_some_iff.1 hr;simp only [Prod.mk.injEq] at he;obtain ⟨rfl,rfl⟩:=he;exact sk hN ih hf hb (fun d hd=>hD _ ih f fn c d hf hb hd) hcr (.inr rfl) hres hs hg ha
      ·cases hr
     ·cases hr
    ·cases hr
  ·simp only [aT] at hr;rw [if_pos (by omega),Nat.add_sub_cancel_left] at hr;exact HC hN ih (hT _ ih) hr hs hg ha hb
end
section
variable {β:Inj} {P:Program}
structure Same (h h':Heap):Prop where
 next:h.next=h'.next
 get: ∀ k,h.get k=h'.get k
theorem Same.refl (h:Heap):Same h h:=⟨rfl,fun _=>rfl⟩
theorem Same.symm {h h':Heap}(e:Same h h'):Same h' h:=⟨e.next.symm,fun k=>(e.get k).symm⟩
theorem Sim.same {h h':Heap}{w:World}(e:Same h h')(hs:Sim β h w):Sim β h' w:=
 ⟨fun k sl hk=>by rw [<-e.next]; exact hs.lt k sl hk,fun k B sl h1 h2=>hs.blk k B sl (by rw [e.get]; exact h1) h2,
  fun k k' B B' sl sl' hne h1 h2 h3 h4 h5=>hs.own k k' B B' sl sl' hne (by rw [e.get]; exact h1) (by rw [e.get]; exact h2) h3 h4 h5,
  fun k B hk=>by rw [<-e.next]; exact hs.wf k B (by rw [e.get]; exact hk)⟩
theorem Wr.same {h h':Heap}(e:Same h h'){b:Nat}:Wr β h b->Wr β h' b:=fun ⟨k,B,sl,h1,h2⟩=>⟨k,B,sl,by rw [<-e.get]; exact h1,h2⟩
theorem Step.same {h h₂ h' h₂':Heap}{β':Inj}{w w':World}(e:Same h h₂)(e':Same h' h₂')(s:Step β h w β' h' w'):Step β h₂ w β' h₂' w':=
 ⟨s.le,by rw [<-e.next,<-e'.next]; exact s.next,s.sim.same e',s.size,s.os,s.tape,s.output,fun b hb hn=>s.kept b hb fun hw=>hn (hw.same e),fun b hb hw=>(s.back b hb (hw.same e'.symm)).same e,
  fun k sl hk=>(s.fresh k sl hk).imp id fun ⟨h1,h2⟩=>⟨by rw [<-e.next]; exact h1,h2.imp id fun hw=>hw.same e⟩,
  fun k B hk hlt=>let ⟨B₀,h0⟩:=s.keys k B (by rw [e'.get]; exact hk) (by rw [e.next]; exact hlt); ⟨B₀,by rw [<-e.get]; exact h0⟩⟩
theorem Sim.sub {V G:Heap}{w:World}(hs:Sim β V w)(hn:G.next=V.next)(hg: ∀ k B,G.get k=some B->V.get k=some B):Sim β G w:=
 ⟨fun k sl hk=>by rw [hn]; exact hs.lt k sl hk,fun k B sl h1 h2=>hs.blk k B sl (hg k B h1) h2,fun k k' B B' sl sl' hne h1 h2 h3 h4 h5=>hs.own k k' B B' sl sl' hne (hg k B h1) (hg k' B' h2) h3 h4 h5,
  fun k B hk=>by rw [hn]; exact hs.wf k B (hg k B hk)⟩
theorem Step.frame {G G' V V':Heap}{β':Inj}{w w':World}(s:Step β G w β' G' w')(hv:Sim β V w)(hn:V.next=G.next)(hn':V'.next=G'.next)(R:Nat->Blk->Prop)
  (hR: ∀ k B,R k B->k < G.next/\G.get k=none) (eV: ∀ k B,V.get k=some B↔G.get k=some B\/R k B) (eV': ∀ k B,V'.get k=some B↔G'.get k=some B\/R k B):Step β V w β' V' w':=by
 have hold: ∀ k sl,k < G.next->β' k=some sl->β k=some sl:=fun k sl hk hb=>by
  rcases s.fresh k sl hb with h | ⟨h,_⟩
  ·exact h
  ·omega
 have hnw: ∀ k B sl,R k B->β k=some sl-> ¬ Wr β G sl.b:=by
  rintro k B sl hr hb ⟨k2,B2,sl2,h1,h2,h3,h4⟩;have hne:k2≠k:=by rintro rfl; rw [(hR _ _ hr).2] at h1; cases h1
  exact hv.own k2 k B2 B sl2 sl hne ((eV _ _).2 (.inl h1)) ((eV _ _).2 (.inr hr)) h3 hb h2 h4
 have hwr: ∀ b,Wr β G b->Wr β V b:=fun b ⟨k,B,sl,h1,h2⟩=>⟨k,B,sl,(eV _ _).2 (.inl h1),h2⟩
 refine ⟨s.le,by rw [hn,hn']; exact s.next,⟨?_,?_,?_,?_⟩,s.size,s.os,s.tape,s.output,fun b hb hw=>s.kept b hb fun h=>hw (hwr b h),?_,?_,?_⟩
 ·intro k sl hk;rw [hn'];exact s.sim.lt k sl hk
 ·intro k B sl h1 h2;rcases (eV' k B).1 h1 with h1 | h1
  ·exact s.sim.blk k B sl h1 h2
  ·have hb:=hold k sl (hR _ _ h1).1 h2;exact ((hv.blk k B sl ((eV _ _).2 (.inr h1)) hb).mono s.le).of_heap (s.kept _ (hv.lt k sl hb).2 (hnw k B sl h1 hb))
 ·intro k k' B B' sl sl' hne h1 h2 h3 h4 h5;rcases (eV' k B).1 h1 with h1 | h1
  ·rcases (eV' k' B').1 h2 with h2 | h2
   ·exact s.sim.own k k' B B' sl sl' hne h1 h2 h3 h4 h5
   ·have hb:=hold k' sl' (hR _ _ h2).1 h4;intro he;exact hnw k' B' sl' h2 hb (s.back _ (hv.lt k' sl' hb).2 ⟨k,B,sl,h1,h5,h3,he⟩)
  ·have hb:=hold k sl (hR _ _ h1).1 h3;rcases (eV' k' B').1 h2 with h2 | h2
   ·rcases s.fresh k' sl' h4 with h6 | ⟨_,h6 | h6⟩
    ·have hlt:=(hv.lt k' sl' h6).1;obtain ⟨B₀,h7⟩:=s.keys k' B' h2 (by rw [<-hn]; exact hlt);exact hv.own k k' B B₀ sl sl' hne ((eV _ _).2 (.inr h1)) ((eV _ _).2 (.inl h7)) hb h6 h5
    ·have:=(hv.lt k sl hb).2;omega
    ·intro he;exact hnw k B sl h1 hb (by rw [he]; exact h6)
   ·exact hv.own k k' B B' sl sl' hne ((eV _ _).2 (.inr h1)) ((eV _ _).2 (.inr h2)) hb (hold k' sl' (hR _ _ h2).1 h4) h5
 ·intro k B hk;rw [hn'];rcases (eV' k B).1 hk with hk | hk
  ·exact s.sim.wf k B hk
  ·exact lt_of_lt_of_le (hR _ _ hk).1 s.next
 ·rintro b hb ⟨k,B,sl,h1,h2,h3,h4⟩;rcases (eV' k B).1 h1 with h1 | h1
  ·exact hwr b (s.back b hb ⟨k,B,sl,h1,h2,h3,h4⟩)
  ·exact ⟨k,B,sl,(eV _ _).2 (.inr h1),h2,hold k sl (hR _ _ h1).1 h3,h4⟩
 ·intro k sl hk;rcases s.fresh k sl hk with h | ⟨h1,h2⟩
  ·exact .inl h
  ·exact .inr ⟨by rw [hn]; exact h1,h2.imp id (hwr _)⟩
 ·intro k B hk hlt;rcases (eV' k B).1 hk with hk | hk
  ·obtain ⟨B₀,h0⟩:=s.keys k B hk (by rw [<-hn]; exact hlt);exact ⟨B₀,(eV _ _).2 (.inl h0)⟩
  ·exact ⟨B,(eV _ _).2 (.inr hk)⟩
theorem Allocs.at_key {β₀:Inj}{h₀ V:Heap}{w₀ w w':World}(st:Step β₀ h₀ w₀ β V w){B:Blk}{f:Nat->Value}{v':Value}(ha:Allocs β w B f v' w'){k:Nat}(hk:β k=none)(h1:h₀.next<=k)(h2:k < V.next):
  ∃ β',Step β₀ h₀ w₀ β' (V.set k B) w'/\VRel β' (f k) v'/\β.le β'/\ ∀ j,j≠k->β' j=β j:=by
 obtain ⟨sl,hb,hnew⟩:=ha.new;have hs:=st.sim;have hle:β.le (β.ext k sl):=Inj.le_ext sl hk;obtain ⟨hB,hv⟩:=hnew _ k hle (β.ext_same _ _);have hlt: ∀ k' sl',β k'=some sl'->sl'.b < w.heap.size:=fun k' sl' hk=>(hs.lt k' sl' hk).2;have hsz:=st.size;refine ⟨β.ext k sl,⟨Inj.le_trans st.le hle,st.next,⟨?_,?_,?_,Heap.wf_set hs.wf B h2⟩,by rw [ha.size]; omega,ha.os.trans st.os,st.tape.trans ha.tape,ha.output.trans st.output,
  fun b hb' hn=>(ha.kept b (by omega)).trans (st.kept b hb' hn),?_,?_,?_⟩,hv,hle,fun j hj=>β.ext_ne sl hj⟩
 ·intro k' sl' hk';by_cases hkn:k'=k
  ·subst hkn;rw [β.ext_same] at hk';obtain rfl:=oI hk';exact ⟨h2,by rw [ha.size,hb]; omega⟩
  ·rw [β.ext_ne sl hkn] at hk';have:=hs.lt k' sl' hk';exact ⟨this.1,by rw [ha.size]; omega⟩
 ·intro k' B' sl' e1 e2;by_cases hkn:k'=k
  ·subst hkn;rw [β.ext_same] at e2;obtain rfl:=oI e2;rw [V.get_set_same] at e1;obtain rfl:=oI e1;exact hB
  ·rw [V.get_set_ne k k' B hkn] at e1;rw [β.ext_ne sl hkn] at e2;exact ((hs.blk k' B' sl' e1 e2).mono hle).of_heap (ha.kept _ (hlt k' sl' e2))
 ·intro k₁ k₂ B₁ B₂ sl₁ sl₂ hne e1 e2 e3 e4 e5;by_cases hk1:k₁=k
  ·subst hk1;rw [β.ext_same] at e3;obtain rfl:=oI e3;rw [β.ext_ne sl (Ne.symm hne)] at e4;have:=hlt k₂ sl₂ e4;omega
  ·by_cases hk2:k₂=k
   ·subst hk2;rw [β.ext_same] at e4;obtain rfl:=oI e4;rw [β.ext_ne sl hne] at e3;have:=hlt k₁ sl₁ e3;omega
   ·rw [V.get_set_ne k k₁ B hk1] at e1;rw [V.get_set_ne k k₂ B hk2] at e2;rw [β.ext_ne sl hk1] at e3;rw [β.ext_ne sl hk2] at e4;exact hs.own k₁ k₂ B₁ B₂ sl₁ sl₂ hne e1 e2 e3 e4 e5
 ·rintro b hb' ⟨k',B',sl',e1,e2,e3,e4⟩;by_cases hkn:k'=k
  ·subst hkn;rw [β.ext_same] at e3;obtain rfl:=oI e3;omega
  ·rw [V.get_set_ne k k' B hkn] at e1;rw [β.ext_ne sl hkn] at e3;exact st.back b hb' ⟨k',B',sl',e1,e2,e3,e4⟩
 ·intro k' sl' hk';by_cases hkn:k'=k
  ·subst hkn;rw [β.ext_same] at hk';obtain rfl:=oI hk';exact .inr ⟨h1,.inl (by omega)⟩
  ·rw [β.ext_ne sl hkn] at hk';exact st.fresh k' sl' hk'
 ·intro k' B' e1 hlt';rw [V.get_set_ne k k' B (by omega)] at e1;exact st.keys k' B' e1 hlt'
end
section
variable {P:Program} {ρ ρ':Operand->Value}
theorem M1 {l:List (Nat×Operand)}(h: ∀ x∈l.map (·.2),ρ x=ρ' x):l.map (fun p=>(p.1,ρ p.2))=l.map (fun p=>(p.1,ρ' p.2)):=
 map_congr_left fun p hp=>by rw [h p.2 (List.mem_map_of_mem hp)]
theorem L7 {r:Option Operand}(h: ∀ x∈r.toList,ρ x=ρ' x):r.map ρ=r.map ρ':=by
 cases r with
 | none=>rfl
 | some x=>simp [h x (by simp)]
theorem N1 {l:List (Nat×Operand)}(h: ∀ x∈l.map (·.2),ρ x=ρ' x)(q:Value->Bool):(l.all fun p=>q (ρ p.2))=l.all fun p=>q (ρ' p.2):=by
 induction l with
 | nil=>rfl
 | cons p l ih=>simp only [List.all_cons,h p.2 (by simp),ih fun x hx=>h x (by simp only [List.map_cons,mem_cons]; exact .inr hx)]
theorem xb {o:Oper}(h: ∀ x∈o.op.operands,ρ x=ρ' x):bm P ρ o=bm P ρ' o:=by
 obtain ⟨dst,op,ty,pos,after,guard⟩:=o
 cases op
 case call c=>
  obtain ⟨callee,args,ats⟩:=c
  cases callee with
  | builtin b=>
   have ha:args.toList.map ρ=args.toList.map ρ':=map_congr_left fun x hx=>h x (by simpa [Op.operands,Call.operands] using hx)
   cases b <;> simp only [bm,ha]
   split
   ·next x t hx ht=>rw [h x (by simp [Op.operands,Call.operands]; exact Array.mem_of_getElem? hx)]
   ·rfl
  | _=>rfl
 all_goals first
  | rfl
  | (simp only [Op.operands,Array.mem_append,mem_toArray,mem_cons,not_mem_nil,or_false,forall_eq_or_imp,forall_eq] at h; simp only [bm,h]; done)
  | skip
 case build t ps=>
  simp only [bm];rw [M1 fun x hx=>h x (by simpa [Op.operands] using hx)]
 case makeFunc fn first captured=>
  have h1:first.map ρ=first.map ρ':=Array.map_congr_left fun x hx=>h x (by simp [Op.operands,hx])
  have h2:captured.map ρ=captured.map ρ':=Array.map_congr_left fun x hx=>h x (by simp [Op.operands,hx]);simp only [bm,h1,h2]
theorem xd {o:Oper}{hp:Heap}(h: ∀ x∈o.op.operands,ρ x=ρ' x):aU P ρ o hp=aU P ρ' o hp:=by
 obtain ⟨dst,op,ty,pos,after,guard⟩:=o
 cases op
 case call c=>
  obtain ⟨callee,args,ats⟩:=c
  cases callee with
  | builtin b=>
   cases b <;> simp only [aU]
   split
   ·next x t hx ht=>rw [h x (by simp [Op.operands,Call.operands]; exact Array.mem_of_getElem? hx)]
   ·rfl
  | _=>rfl
 all_goals first
  | rfl
  | (simp only [Op.operands,Array.mem_append,mem_toArray,mem_cons,not_mem_nil,or_false,forall_eq_or_imp,forall_eq] at h; simp only [aU,h]; done)
  | skip
 case slice t x l hi m=>
  have h1:ρ x=ρ' x:=h x (by simp [Op.operands]);have h2:l.map ρ=l.map ρ':=L7 fun x hx=>h x (by simp at hx; simp [Op.operands,hx]);have h3:hi.map ρ=hi.map ρ':=L7 fun x hx=>h x (by simp at hx; simp [Op.operands,hx]);have h4:m.map ρ=m.map ρ':=L7 fun x hx=>h x (by simp at hx; simp [Op.operands,hx]);simp only [aU,h1,h2,h3,h4]
theorem tW {o:Oper}(h: ∀ x∈o.op.operands,ρ x=ρ' x):aM P ρ o=aM P ρ' o:=by
 obtain ⟨dst,op,ty,pos,after,guard⟩:=o
 cases op
 all_goals first
  | rfl
  | (simp only [Op.operands,mem_toArray,mem_cons,not_mem_nil,or_false,forall_eq_or_imp,forall_eq] at h; simp only [aM,h]; done)
  | skip
 case buildSlice t len ps=>
  have hm: ∀ x∈ps.toList.map (·.2),ρ x=ρ' x:=fun x hx=>h x (by simpa [Op.operands] using hx);simp only [aM];rw [M1 hm,N1 hm]
 case makeMap t r=>
  cases r with
  | none=>rfl
  | some x=>simp only [aM,h x (by simp [Op.operands])]
theorem zu {cf:bL}{o:Oper}{hp:Heap}(h: ∀ x∈o.op.operands,ρ x=ρ' x):cV P cf ρ o hp=cV P cf ρ' o hp:=by
 obtain ⟨dst,op,ty,pos,after,guard⟩:=o
 cases op
 case call c=>
  obtain ⟨callee,args,ats⟩:=c
  cases callee with
  | builtin b=>
   have ha:args.toList.map ρ=args.toList.map ρ':=map_congr_left fun x hx=>h x (by simpa [Op.operands,Call.operands] using hx)
   cases b <;> simp only [cV,ha]
   all_goals
    split
    ·next s x t t' hx ht=>
     have h1: ∀ y∈args.toList,ρ y=ρ' y:=fun y hy=>h y (by simpa [Op.operands,Call.operands] using hy);rw [hx] at h1;rw [h1 s (by simp),h1 x (by simp)]
    ·rfl
  | value f=>
   have ha:args.toList.map ρ=args.toList.map ρ':=map_congr_left fun x hx=>h x (by simp [Op.operands,Call.operands]; right; simpa using hx);simp only [cV,ha,h f (by simp [Op.operands,Call.operands])]
  | _=>rfl
 all_goals first
  | rfl
  | (simp only [Op.operands,mem_toArray,mem_cons,not_mem_nil,or_false,forall_eq_or_imp,forall_eq] at h; simp only [cV,h]; done)
  | skip
end
end Go.Ab
end
section
namespace Go.Ab
open Go Region
structure Topo (ops:Array Oper)(L:List Nat):Prop where
 mem: ∀ i,i∈L↔i < ops.size
 nodup:L.Nodup
 deps: ∀ pre i suf,L=pre++i::suf-> ∀ o,ops[i]?=some o-> ∀ e∈o.after,binds .any e=true->e.on∈pre
theorem EL {m:Region.Mode}{e:Edge}(h:binds .any e=true):binds m e=true:=by
 unfold binds at *;split at h
 ·simp at h
 ·simp at h
 ·rfl
def LU (m:Region.Mode)(ops:Array Oper)(listed:Array Bool)(i:Nat):Prop:=
 listed.getD i true=false/\ ∃ o,ops[i]?=some o/\ ∀ e∈o.after,binds m e=true->listed.getD e.on false=true
theorem mem_ready' {m:Region.Mode}{ops:Array Oper}{listed:Array Bool}{i:Nat}:
  i∈(List.range ops.size).filter (fun i=> !listed.getD i true && ((ops[i]?).map (·.after.all fun e=> !binds m e || listed.getD e.on false)).getD false)↔i < ops.size/\LU m ops listed i:=by
 simp only [mem_filter,mem_range,and_eq_true,Bool.not_eq_true',LU];refine ⟨fun ⟨h1,h2,h3⟩=>⟨h1,h2,?_⟩,fun ⟨h1,h2,o,h3,h4⟩=>⟨h1,h2,?_⟩⟩
 ·rw [getElem?_eq_getElem h1] at h3;simp only [map_some,getD_some,Array.all_eq_true'] at h3;refine ⟨_,getElem?_eq_getElem h1,fun e he hb=> ?_⟩;have:=h3 e he;rw [hb] at this;simpa using this
 ·rw [h3];simp only [map_some,getD_some,Array.all_eq_true'];intro e he
  cases hb:binds m e with
  | false=>rfl
  | true=>simp [h4 e he hb]
def left (ops:Array Oper)(listed:Array Bool):List Nat:=(List.range ops.size).filter fun i=> !listed.getD i true
theorem s9 {l:Array Bool}{i j:Nat}(d:Bool)(hi:i < l.size):(l.setIfInBounds i true).getD j d=if j=i then true else l.getD j d:=by
 simp only [Array.getD_eq_getD_getElem?,Array.getElem?_setIfInBounds];by_cases h:i=j
 ·subst h; simp [hi]
 ·rw [if_neg h,if_neg (Ne.symm h)]
theorem zw (m:Region.Mode)(ops:Array Oper):
  ∀ (fuel t:Nat)(listed:Array Bool)(acc:List Nat),listed.size=ops.size->(∀ i,i∈acc↔i < ops.size/\listed.getD i true=true)->acc.Nodup->
   (∀ pre i suf,acc.reverse=pre++i::suf-> ∀ o,ops[i]?=some o-> ∀ e∈o.after,binds m e=true->e.on∈pre)->
   let L:=linearise.go m ops fuel t listed acc
   (∀ i,i∈L->i < ops.size)/\L.Nodup/\ ∀ pre i suf,L=pre++i::suf-> ∀ o,ops[i]?=some o-> ∀ e∈o.after,binds m e=true->e.on∈pre
 | 0,t,listed,acc,hs,ha,hn,hd=>by
  simp only [linearise.go];exact ⟨fun i hi=>((ha i).1 (mem_reverse.1 hi)).1,(List.reverse_perm acc).nodup_iff.2 hn,hd⟩
 | fuel+1,t,listed,acc,hs,ha,hn,hd=>by
  simp only [linearise.go];split
  ·next i hi=>
   have hi:=List.mem_of_getElem? hi;obtain ⟨hib,hfree,o,ho,hdep⟩:=mem_ready'.1 hi;have hisz:i < listed.size:=by omega
   have hia:i ∉ acc:=fun h=>by have:=((ha i).1 h).2; rw [hfree] at this; cases this
   have hdep': ∀ e∈o.after,binds m e=true->e.on∈acc.reverse:=fun e he hb=>by
    rw [mem_reverse,ha];have hl:=hdep e he hb;have:e.on < listed.size:=by
     rcases Nat.lt_or_ge e.on listed.size with h5 | h5
     ·exact h5
     ·simp [Array.getD_eq_getD_getElem?,Array.getElem?_eq_none h5] at hl
    exact ⟨by omega,by simp only [Array.getD_eq_getD_getElem?,getElem?_eq_getElem this] at hl ⊢; exact hl⟩
   refine zw m ops fuel (t / _) (listed.setIfInBounds i true) (i::acc) (by simpa using hs) ?_ (List.nodup_cons.2 ⟨hia,hn⟩) ?_
   ·intro j;rw [mem_cons,ha,s9 _ hisz];constructor
    ·rintro (rfl | ⟨h3,h4⟩)
     ·exact ⟨hib,by simp⟩
     ·exact ⟨h3,by split <;> simp_all⟩
    ·rintro ⟨h3,h4⟩;split at h4
     ·next he=>exact .inl he
     ·exact .inr ⟨h3,h4⟩
   ·intro pre j suf heq o' ho' e he hb;rw [List.reverse_cons] at heq;rcases List.append_eq_append_iff.1 heq with ⟨as,h3,h4⟩ | ⟨bs,h3,h4⟩
    ·cases as with
     | nil=>
      simp only [List.nil_append,List.cons.injEq] at h4;obtain ⟨rfl,rfl⟩:=h4;rw [ho] at ho';obtain rfl:=oI ho';rw [h3,List.append_nil];exact hdep' e he hb
     | cons a as=>
      simp only [List.cons_append,List.cons.injEq] at h4;obtain ⟨_,h4⟩:=h4;have:=congrArg List.length h4;simp at this
    ·cases bs with
     | nil=>
      simp only [List.nil_append,List.cons.injEq] at h4;obtain ⟨rfl,rfl⟩:=h4;rw [ho] at ho';obtain rfl:=oI ho';have h3':pre=acc.reverse:=by simpa using h3.symm
      rw [h3'];exact hdep' e he hb
     | cons b bs=>
      simp only [List.cons_append,List.cons.injEq] at h4;obtain ⟨rfl,_⟩:=h4;exact hd pre j bs h3 o' ho' e he hb
  ·exact ⟨fun i hi=>((ha i).1 (mem_reverse.1 hi)).1,(List.reverse_perm acc).nodup_iff.2 hn,hd⟩
theorem Iq (m:Region.Mode)(ops:Array Oper)(prog: ∀ listed:Array Bool,listed.size=ops.size->(∃ i,i < ops.size/\listed.getD i true=false)-> ∃ i,i < ops.size/\LU m ops listed i):
  ∀ (fuel t:Nat)(listed:Array Bool)(acc:List Nat),listed.size=ops.size->(left ops listed).length<=fuel->(∀ i,i < ops.size->listed.getD i true=true->i∈acc)->
   ∀ i,i < ops.size->i∈linearise.go m ops fuel t listed acc
 | 0,t,listed,acc,hs,hl,ha=>fun i h=>by
  simp only [linearise.go];rw [mem_reverse];refine ha i h ?_
  cases hg:listed.getD i true with
  | true=>rfl
  | false=>
   have:i∈left ops listed:=mem_filter.2 ⟨mem_range.2 h,by rw [hg]; rfl⟩;have:=List.length_pos_of_mem this;omega
 | fuel+1,t,listed,acc,hs,hl,ha=>by
  simp only [linearise.go];split
  ·next i hi=>
   have hi:=List.mem_of_getElem? hi;obtain ⟨hib,hfree,_⟩:=mem_ready'.1 hi;have hisz:i < listed.size:=by omega
   refine Iq m ops prog fuel (t / _) (listed.setIfInBounds i true) (i::acc) (by simpa using hs) ?_ ?_
   ·have hsub: ∀ j,j∈left ops (listed.setIfInBounds i true)->j∈left ops listed/\j≠i:=by
     intro j hj;simp only [left,mem_filter,mem_range,Bool.not_eq_true',s9 _ hisz] at hj ⊢;split at hj
     ·exact absurd hj.2 (by simp)
     ·next hne=>exact ⟨hj,hne⟩
    have him:i∈left ops listed:=mem_filter.2 ⟨mem_range.2 hib,by rw [hfree]; rfl⟩;have hnd:(left ops (listed.setIfInBounds i true)).Nodup:=List.Pairwise.filter _ List.nodup_range;have:(left ops (listed.setIfInBounds i true)).length<=((left ops listed).erase i).length:=by
     refine List.Nodup.length_le_of_subset hnd fun j hj=> ?_;obtain ⟨h3,h4⟩:=hsub j hj;exact (List.mem_erase_of_ne h4).2 h3
    rw [List.length_erase_of_mem him] at this;omega
   ·intro j hj hg;rw [s9 _ hisz] at hg;split at hg
    ·next he=>exact mem_cons.2 (.inl he)
    ·exact mem_cons.2 (.inr (ha j hj hg))
  ·next hnone=>
   intro i hi;rw [mem_reverse]
   cases hg:listed.getD i true with
   | true=>exact ha i hi hg
   | false=>
    obtain ⟨i0,h1,h2⟩:=prog listed hs ⟨i,hi,hg⟩;have hmem:=mem_ready'.2 ⟨h1,h2⟩;generalize (List.range ops.size).filter (fun i=> !listed.getD i true && ((ops[i]?).map (·.after.all fun e=> !binds m e || listed.getD e.on false)).getD false)=rs at hmem hnone;have hpos:0 < rs.length:=List.length_pos_of_mem hmem;rw [gE (Nat.mod_lt _ hpos)] at hnone
    cases hnone
theorem z8 (ops:Array Oper)(listed:Array Bool):(left ops listed).length<=ops.size:=by
 have:=List.length_filter_le (fun i=> !listed.getD i true) (List.range ops.size);simpa [left] using this
theorem uE (m:Region.Mode)(ops:Array Oper)(t:Nat):
  (∀ i,i∈linearise m ops t->i < ops.size)/\(linearise m ops t).Nodup/\ ∀ pre i suf,linearise m ops t=pre++i::suf-> ∀ o,ops[i]?=some o-> ∀ e∈o.after,binds m e=true->e.on∈pre:=by
 refine zw m ops ops.size t _ [] (by simp) (fun i=> ?_) List.nodup_nil (fun pre i suf h=>by simp at h);simp only [not_mem_nil,false_iff,not_and];intro hi;simp [Array.getD_eq_getD_getElem?,hi]
theorem Kw (m:Region.Mode)(ops:Array Oper)(t:Nat)(prog: ∀ listed:Array Bool,listed.size=ops.size->(∃ i,i < ops.size/\listed.getD i true=false)-> ∃ i,i < ops.size/\LU m ops listed i):
  ∀ i,i < ops.size->i∈linearise m ops t:=by
 refine Iq m ops prog ops.size t _ [] (by simp) (z8 _ _) fun i hi hg=> ?_;simp [Array.getD_eq_getD_getElem?,hi] at hg
def Back (ops:Array Oper):Prop:= ∀ i o,ops[i]?=some o-> ∀ e∈o.after,e.on < i\/binds .any e=false/\binds .text e=false
theorem Kz {p:Nat->Prop}[DecidablePred p]: ∀ (n:Nat),(∃ i,i < n/\p i)-> ∃ i,i < n/\p i/\ ∀ j,j < i-> ¬ p j
 | 0,⟨_,h,_⟩=>absurd h (by omega)
 | n+1,h=>by
  by_cases h': ∃ i,i < n/\p i
  ·obtain ⟨i,h1,h2,h3⟩:=Kz n h';exact ⟨i,by omega,h2,h3⟩
  ·obtain ⟨i,h1,h2⟩:=h;refine ⟨i,h1,h2,fun j hj hp=>h' ⟨j,by omega,hp⟩⟩
theorem vJ {m:Region.Mode}{ops:Array Oper}(hb: ∀ i o,ops[i]?=some o-> ∀ e∈o.after,binds m e=true->e.on < i):
  ∀ listed:Array Bool,listed.size=ops.size->(∃ i,i < ops.size/\listed.getD i true=false)-> ∃ i,i < ops.size/\LU m ops listed i:=by
 intro listed hs hex;obtain ⟨i,h1,h2,h3⟩:=Kz ops.size hex;refine ⟨i,h1,h2,ops[i],getElem?_eq_getElem h1,fun e he hbe=> ?_⟩;have hlt:=hb i _ (getElem?_eq_getElem h1) e he hbe;have hsz:e.on < listed.size:=by omega
 have:=h3 e.on hlt;simp only [Array.getD_eq_getD_getElem?,getElem?_eq_getElem hsz,getD_some,Bool.not_eq_false] at this ⊢;exact this
theorem xz {p:Nat->Prop}[DecidablePred p]: ∀ (L:List Nat),(∃ i∈L,p i)-> ∃ pre i suf,L=pre++i::suf/\p i/\ ∀ j∈pre,¬ p j
 | [],⟨_,h,_⟩=>by cases h
 | x::L,h=>by
  by_cases hx:p x
  ·exact ⟨[],x,L,rfl,hx,fun j hj=>by cases hj⟩
  ·obtain ⟨i,h1,h2⟩:=h;rcases mem_cons.1 h1 with rfl | h1
   ·exact absurd h2 hx
   ·obtain ⟨pre,j,suf,rfl,h3,h4⟩:=xz L ⟨i,h1,h2⟩;refine ⟨x::pre,j,suf,rfl,h3,fun y hy=> ?_⟩;rcases mem_cons.1 hy with rfl | hy
    ·exact hx
    ·exact h4 y hy
theorem Ds {m:Region.Mode}{ops:Array Oper}(hc:(linearise m ops 0).length=ops.size):
  ∀ listed:Array Bool,listed.size=ops.size->(∃ i,i < ops.size/\listed.getD i true=false)-> ∃ i,i < ops.size/\LU m ops listed i:=by
 intro listed hs hex;obtain ⟨h1,h2,h3⟩:=uE m ops 0;have hall: ∀ i,i < ops.size->i∈linearise m ops 0:=by
  intro i hi;refine Classical.byContradiction fun hn=> ?_;have hnd:(i::linearise m ops 0).Nodup:=List.nodup_cons.2 ⟨hn,h2⟩;have:=List.Nodup.length_le_of_subset (l₂:=List.range ops.size) hnd fun j hj=>by
   rcases mem_cons.1 hj with rfl | hj
   ·exact mem_range.2 hi
   ·exact mem_range.2 (h1 j hj)
  simp at this;omega
 obtain ⟨i,hi,hf⟩:=hex;obtain ⟨pre,j,suf,heq,h4,h5⟩:=xz (p:=fun i=>listed.getD i true=false) _ ⟨i,hall i hi,hf⟩;have hj:j < ops.size:=h1 j (by rw [heq]; simp);refine ⟨j,hj,h4,ops[j],getElem?_eq_getElem hj,fun e he hbe=> ?_⟩;have hm:=h3 pre j suf heq _ (getElem?_eq_getElem hj) e he hbe;have:=h5 _ hm;have hsz:e.on < listed.size:=by
  have:=h1 e.on (by rw [heq]; simp [hm]);omega
 simp only [Array.getD_eq_getD_getElem?,getElem?_eq_getElem hsz,getD_some,Bool.not_eq_false] at this ⊢;exact this
theorem mP {ops:Array Oper}(hb:Back ops)(hc:departs ops=true->(linearise .gc ops 0).length=ops.size)(mixed:Bool)(t:Nat):Topo ops (schedule mixed ops t):=by
 have key: ∀ (m:Region.Mode)(t:Nat),(∀ listed:Array Bool,listed.size=ops.size->(∃ i,i < ops.size/\listed.getD i true=false)-> ∃ i,i < ops.size/\LU m ops listed i)->Topo ops (linearise m ops t):=by
  intro m t hp;obtain ⟨h1,h2,h3⟩:=uE m ops t;exact ⟨fun i=>⟨h1 i,Kw m ops t hp i⟩,h2,fun pre i suf h o ho e he hbe=>h3 pre i suf h o ho e he (EL hbe)⟩
 have hany: ∀ i o,ops[i]?=some o-> ∀ e∈o.after,binds .any e=true->e.on < i:=fun i o ho e he hbe=>by
  rcases hb i o ho e he with h | ⟨h,_⟩
  ·exact h
  ·rw [h] at hbe; cases hbe
 have htext: ∀ i o,ops[i]?=some o-> ∀ e∈o.after,binds .text e=true->e.on < i:=fun i o ho e he hbe=>by
  rcases hb i o ho e he with h | ⟨_,h⟩
  ·exact h
  ·rw [h] at hbe; cases hbe
 unfold schedule;split
 ·exact key _ _ (vJ hany)
 ·next hd=>
  split
  ·exact key _ _ (vJ htext)
  ·refine key _ _ (Ds (hc ?_));simp only [Bool.or_eq_true,Bool.not_eq_true',not_or,Bool.not_eq_false] at hd;exact hd.2
end Go.Ab
end
