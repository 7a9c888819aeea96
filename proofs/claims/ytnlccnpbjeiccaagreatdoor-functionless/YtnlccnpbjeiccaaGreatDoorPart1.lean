/- Laws and walks that the proof leans on (part 1): AbEval; AbEnv; AbFast; AbRel; AbPure; AbPure2 and others. No condition. -/
import GoSem.Dispatch
import GoSem.Machine.Frame
import GoSem.Machine.Return
import Derived.CallsIn
import Derived.Laws.Tables
import Derived.KernelRfl
import Derived.Laws.Sem
import Derived.Laws.World
import Derived.Laws.Cells
import Derived.Laws.Entries
import Derived.Laws.Strings
import Derived.Laws.StructEq
import Derived.Laws.Small
import Derived.Laws.BytesString
import Derived.Laws.BitsLemmas
import Derived.Laws.Append
import Derived.Lib.UnsafeStr
import Derived.Lib.Builder
import Derived.RangeFuncLeaves
import Derived.RangeFuncNested
set_option linter.unusedVariables false
set_option linter.unusedSimpArgs false
set_option maxRecDepth 100000
open List (all_eq_true drop_drop getElem?_append_left getElem?_append_right getElem?_drop getElem?_eq_none getElem?_take)
open Nat (add_assoc add_mul lt_of_lt_of_le)
open Option (map_eq_some_iff map_some)
open Array (getElem?_eq_getElem getElem?_push getElem?_toList)
open Bool (and_eq_true false_eq_true)
open Go.Result (andThen_ok)
open Go.Sem (run_bind run_ite)
open Go.IntKind (wrap_i64)
section
namespace Go
theorem dT{p:Prop} [Decidable p] (h:decide p=true):p:=of_decide_eq_true h
theorem dF{p:Prop} [Decidable p] (h:decide p=false):¬p:=of_decide_eq_false h
theorem oI{α:Type} {a b:α} (h:some a=some b):a=b:=Option.some.inj h
theorem gE{α:Type} {l:List α} {i:Nat} (h:i<l.length):l[i]? =some l[i]:=List.getElem?_eq_getElem h
theorem gD{α:Type} {l:List α} {i:Nat} {a:α}:l.getD i a=l[i]?.getD a:=List.getD_eq_getElem?_getD
theorem lM{α β:Type} {as:List α} (f:α→β):(as.map f).length=as.length:=List.length_map f
end Go
namespace Go.Ab
noncomputable section
def cE(a:List Nat)(j i:Nat):Bool:=(a.getD j 0).testBit i
def fi(a:Array Oper):List Nat:=(Region.before a).toList
def Ft:List Oper->Nat->Bool
 |[],_=>true
 |o::r,j=>(o.after.toList.all λe=>decide (e.on<j)||(!Region.binds .any e && !Region.binds .text e))&&Ft r (j+1)
def rH(a:List Nat)(j:Nat)(t:Tmp):List Oper->Nat->Bool
 |[],_=>true
 |o::r,i=>(match o.dst with|some d=>decide (d≠t)||decide (i=j)||cE a j i||cE a i j|none=>true)&&rH a j t r (i+1)
def GI(a:List Nat)(all:List Oper):List Oper->Nat->Bool
 |[],_=>true
 |o::r,j=>(o.op.operands.toList.all fun|.tmp t=>rH a j t all 0|_=>true)&&(match o.guard with|some (i,_)=>cE a j i|none=>true)&&GI a all r (j+1)
def yq:List Oper->Nat->Bool
 |[],_=>true
 |o::r,m=>match o.dst with
  |some d=> !m.testBit d&&yq r (m|||2^d)
  |none=>yq r m
def Ll(a:Array Oper):Bool:=
 Ft a.toList 0&&yq a.toList 0&&(!Region.departs a||(Region.linearise .gc a 0).length==a.size)&&GI (fi a) a.toList a.toList 0
def cj:Code->Bool
 |.region _ c true=>Ll c
 |.seq a b=>cj a&&cj b
 |.cond _ a b=>cj a&&cj b
 |.block _ a=>cj a
 |.loop a=>cj a
 |_=>true
def lU:Code->Bool
 |.seq a b=>lU a&&lU b
 |.cond _ a b=>lU a&&lU b
 |.block _ a=>lU a
 |.loop a=>lU a
 |.rangeFunc .. =>false
 |_=>true
def jM(b a:Code):Bool:=cj b&&cj a&&lU b&&lU a
inductive Wx where
 |ready
 |busy
 |ret
 |exit (id:Nat)
def YB:Nat:=4611686018427387904
inductive bw where
 |cells (cs:List Value) (t:TypeId) (sz:Nat) (wr:Bool)
 |map (es:List (Value×Value))
 |loop (st:Wx) (tm:List Value) (ps:List Tmp) (asg body:Code) (ok:jM asg body=true)
 deriving Inhabited
inductive HT where
 |nil
 |node (v:Option bw) (l r:HT)
 deriving Inhabited
inductive Fk where
 |e
 |l (p:Fk)
 |r (p:Fk)
noncomputable def Ce(f:Nat):Nat->Fk:=
 Nat.rec (motive:=λ_=>Nat->Fk) (λ_=> .e) (λ_ a n=>Nat.rec (motive:=λ_=>Fk) .e (λk _=>Nat.rec (motive:=λ_=>Fk) (.l (a (k/2))) (λ_ _=> .r (a (k/2))) (k%2)) n) f
noncomputable def pathOf(n:Nat):Fk:=Ce (n+1) n
noncomputable def HT.aa9(t:HT):Option bw:=HT.rec (motive:=λ_=>Option bw) none (λv _ _ _ _=>v) t
noncomputable def HT.aeA(a:HT->Option bw)(t:HT):Option bw:=HT.rec (motive:=λ_=>Option bw) none (λ_ l _ _ _=>a l) t
noncomputable def HT.aeB(a:HT->Option bw)(t:HT):Option bw:=HT.rec (motive:=λ_=>Option bw) none (λ_ _ r _ _=>a r) t
noncomputable def HT.get(p:Fk):HT->Option bw:=Fk.rec (motive:=λ_=>HT->Option bw) HT.aa9 (λ_=>HT.aeA) (λ_=>HT.aeB) p
noncomputable def HT.aeZ(b:Option bw)(t:HT):HT:=HT.rec (motive:=λ_=>HT) (.node b .nil .nil) (λ_ l r _ _=> .node b l r) t
noncomputable def HT.ae0(a:HT->HT)(t:HT):HT:=HT.rec (motive:=λ_=>HT) (.node none (a .nil) .nil) (λv l r _ _=> .node v (a l) r) t
noncomputable def HT.ae1(a:HT->HT)(t:HT):HT:=HT.rec (motive:=λ_=>HT) (.node none .nil (a .nil)) (λv l r _ _=> .node v l (a r)) t
noncomputable def HT.set(b:Option bw)(p:Fk):HT->HT:=Fk.rec (motive:=λ_=>HT->HT) (HT.aeZ b) (λ_=>HT.ae0) (λ_=>HT.ae1) p
structure aa where
 next:Nat
 t:HT
 deriving Inhabited
noncomputable def aa.get(h:aa)(k:Nat):Option bw:=h.t.get (pathOf k)
noncomputable def aa.set(h:aa)(k:Nat)(b:bw):aa:={ h with t:=h.t.set (some b) (pathOf k) }
noncomputable def aa.del(h:aa)(k:Nat):aa:={ h with t:=h.t.set none (pathOf k) }
noncomputable def aa.push(h:aa)(b:bw):aa:={ next:=h.next+1,t:=h.t.set (some b) (pathOf h.next) }
def ca:Nat:=36893488147419103232
def aV(c:Nat):Nat:=if ca<=c then c-ca else c
abbrev jE:Value:= .chan (some 0)
def bc:Value->Bool
 |.agg _|.tuple _|.chan _=>false
 |_=>true
def bare:Value->Bool
 |.bool _|.int _ _|.float _ _|.complex _ _ _|.string _|.pointer none|.slice none 0 0|.map none|.nilFunc|.nilIface=>true
 |_=>false
def plain:Value->Bool
 |.agg cs=>cs.toList.all bare
 |.tuple cs=>cs.toList.all fun|.agg a=>a.toList.all bare|v=>bare v
 |v=>bare v
def ev(a:Nat->Bool)(b:List Value):Operand->Value
 |.tmp t=>b.getD t undef
 |.const v=>if plain v then v else jE
 |.global g=>if a g then .pointer (some ⟨g,0,none⟩)else jE
 |.func f=> .func (.func f) #[] #[]
def isAgg(P:Program)(t:TypeId):Bool:=match P.underlying t with|some (.struct _)|some (.array ..)=>true|_=>false
def zeroOf(P:Program)(t:TypeId):Option Value:=match P.info? t with|some i=>(match i.zero with|some z=>if plain z then some z else none|none=>none)|none=>none
def au(P:Program)(t:TypeId):Option Nat:=(P.info? t).map (·.size)
def partOf(P:Program)(t:TypeId)(cs:Array Value)(a:Nat):Option Value:=
 match P.underlying t with
 |none=>none
 |some _=>if isAgg P t then(au P t).map λn=> .agg (cs.extract a (a+n))else cs[a]?
def strOf(l:List UInt8):Value:= .string ⟨l.toArray⟩
def intCmp(a:BinOp)(x y:Int):Option Bool:=
 match a with
 |.eql=>some (x==y)|.neq=>some (x !=y)|.lss=>some (decide (x<y))|.leq=>some (decide (x<=y))|.gtr=>some (decide (x>y))|.geq=>some (decide (x>=y))
 |_=>none
def oS:List UInt8->List UInt8->Bool
 |_,[]=>false
 |[],_::_=>true
 |a::x,b::y=>a<b||(a==b&&oS x y)
def OF(a:BinOp)(x y:List UInt8):Option Value:=
 match a with
 |.add=>if x.length+y.length<=4611686018427387904 then some (strOf (x++y))else none
 |.eql=>some (.bool (x==y))|.neq=>some (.bool !(x==y))
 |.lss=>some (.bool (oS x y))|.leq=>some (.bool (oS x y||x==y))
 |.gtr=>some (.bool !(oS x y||x==y))|.geq=>some (.bool !(oS x y))
 |_=>none
def acX:Value->Value->Option Bool
 |.bool a,.bool b=>some (a==b)
 |.int k a,.int c b=>if k=c then some (a==b)else none
 |.string a,.string b=>some (a.data.toList==b.data.toList)
 |_,_=>none
def Bf(P:Program)(t:TypeId)(x y:Value):Option Bool:=
 match P.underlying t,x,y with
 |some .bool,.bool a,.bool b=>some (a==b)
 |some (.int _),.int k a,.int c b=>if k=c then some (a==b)else none
 |some .string,.string a,.string b=>some (a.data.toList==b.data.toList)
 |_,_,_=>none
def jL(P:Program):List Field->Nat->List Value->List Value->Option Bool
 |[],_,_,_=>some true
 |f::c,i,x::a,y::b=>
  if f.offset=i/\f.name≠ "_" then
   match Bf P f.type x y with
   |some true=>jL P c (i+1) a b
   |some false=>some false
   |none=>none
  else none
 |_::_,_,_,_=>none
def oW(P:Program)(t:TypeId)(x y:Value):Option Bool:=
 match x,y with
 |.bool a,.bool b=>match P.underlying t with|some .bool=>some (a==b)|_=>none
 |.pointer none,.pointer b=>match P.underlying t with|some (.pointer _)=>some b.isNone|_=>none
 |.pointer a,.pointer none=>match P.underlying t with|some (.pointer _)=>some a.isNone|_=>none
 |.pointer (some a),.pointer (some b)=>match P.underlying t with|some (.pointer e)=>if a=b/\(au P e).any (· ≠0)then some true else none|_=>none
 |.slice none _ _,.slice b _ _=>match P.underlying t with|some (.slice _)=>some b.isNone|_=>none
 |.slice a _ _,.slice none _ _=>match P.underlying t with|some (.slice _)=>some a.isNone|_=>none
 |.map none,.map b=>match P.underlying t with|some (.map ..)=>some b.isNone|_=>none
 |.map a,.map none=>match P.underlying t with|some (.map ..)=>some a.isNone|_=>none
 |.nilFunc,.nilFunc=>match P.underlying t with|some (.func ..)=>some true|_=>none
 |.nilFunc,.func .. =>match P.underlying t with|some (.func ..)=>some false|_=>none
 |.func ..,.nilFunc=>match P.underlying t with|some (.func ..)=>some false|_=>none
 |.nilIface,.iface .. =>match P.underlying t with|some (.interface _)=>some false|_=>none
 |.iface ..,.nilIface=>match P.underlying t with|some (.interface _)=>some false|_=>none
 |.agg a,.agg b=>match P.underlying t with
  |some (.struct c)=>if P.stoodInHeld t=false/\P.eqGuardType P.depth t=false then jL P c.toList 0 a.toList b.toList else none
  |_=>none
 |_,_=>none
def ay(P:Program)(c:BinOp)(t:TypeId)(x y:Value):Option Value:=
 match x,y with
 | .int k a,.int d b=>
  match c with
  |.shl=>if 0<=b then some (.int k (k.wrap (a*2^(min b.toNat k.bits))))else none
  |.shr=>if 0<=b then some (.int k (a.fdiv (2^(min b.toNat k.bits))))else none
  | _=>
   if k=d then
    match c with
    |.add=>some (.int k (k.wrap (a+b)))
    |.sub=>some (.int k (k.wrap (a-b)))
    |.mul=>some (.int k (k.wrap (a*b)))
    |.quo=>if b=0 then none else some (.int k (k.wrap (a.tdiv b)))
    |.rem=>if b=0 then none else some (.int k (a.tmod b))
    |.and=>some (.int k (k.wrap (BitVec.ofInt k.bits a&&&BitVec.ofInt k.bits b).toNat))
    |.or=>some (.int k (k.wrap (BitVec.ofInt k.bits a|||BitVec.ofInt k.bits b).toNat))
    |.xor=>some (.int k (k.wrap (BitVec.ofInt k.bits a^^^BitVec.ofInt k.bits b).toNat))
    |.andNot=>some (.int k (k.wrap (BitVec.ofInt k.bits a &&& ~~~BitVec.ofInt k.bits b).toNat))
    |c=>(intCmp c a b).map .bool
   else none
 |.string a,.string b=>OF c a.data.toList b.data.toList
 |x,y=>match c with
  |.eql=>(oW P t x y).map .bool
  |.neq=>(oW P t x y).map λb=> .bool !b
  |_=>none
def E6(a:UnOp)(x:Value):Option Value:=
 match a,x with
 |.neg,.int k n=>some (.int k (k.wrap (0-n)))
 |.xor,.int k n=>some (.int k (k.wrap (BitVec.ofInt k.bits (if k.signed then -1 else k.max)^^^BitVec.ofInt k.bits n).toNat))
 |.not,.bool b=>some (.bool !b)
 |_,_=>none
def dq:Option Value->Nat->Option Int
 |none,d=>some d
 |some (.int _ n),_=>some n
 |some _,_=>none
def bm(P:Program)(t:TypeId)(x:Value)(f c d:Option Value)(h:aa):Option Value:=
 match x with
 | .string s=>
  match P.underlying t with
  |some .string=>match d,dq f 0,dq c s.data.toList.length with
   |none,some l,some r=>if 0<=l/\l<=r/\r<=(s.data.toList.length:Int)then some (strOf ((s.data.toList.drop l.toNat).take (r-l).toNat))else none
   |_,_,_=>none
  |_=>none
 | .slice none 0 0=>
  match P.underlying t with
  |some (.slice e)=>match d,dq f 0,dq c 0,au P e with
   |none,some 0,some 0,some _=>some (.slice none 0 0)
   |_,_,_,_=>none
  |_=>none
 | .slice (some ⟨k,i,none⟩) j a=>
  match P.underlying t with
  | some (.slice e)=>match dq f 0,dq c j,au P e,h.get k with
   | some l,some r,some b,some (.cells _ _ g _)=>
    if g=b\/g=0 then
     match d with
     |none=>if 0<=l/\l<=r/\r<=(aV a:Int)then some (.slice (some ⟨k,i+l.toNat*b,none⟩) (r-l).toNat (a-l.toNat))else none
     |some (.int _ m)=>if 0<=l/\l<=r/\r<=m/\m<=(aV a:Int)/\m<ca/\c.isSome=true then some (.slice (some ⟨k,i+l.toNat*b,none⟩) (r-l).toNat (m-l).toNat)else none
     |some _=>none
    else none
   |_,_,_,_=>none
  |_=>none
 | .pointer (some ⟨k,i,none⟩)=>
  match P.underlying t with
  | some (.array n e)=>match d,dq f 0,dq c n,au P e,h.get k with
   |none,some l,some r,some b,some (.cells _ _ 0 _)=>
    if 0<=l/\l<=r/\r<=(n:Int)/\n<ca then some (.slice (some ⟨k,i+l.toNat*b,none⟩) (r-l).toNat (n-l.toNat))else none
   |_,_,_,_,_=>none
  |_=>none
 |_=>none
def BV:Value->Bool
 |.chan _=>false
 |_=>true
def aD(P:Program)(t:TypeId)(a:List (Nat×Value)):Option Value:=
 match zeroOf P t with
 |some _=>if a.all λp=>BV p.2 then(P.built t a).map .agg else none
 |none=>none
def eK(P:Program)(b a:TypeId)(x:Value):Option Value:=
 match P.underlying b,P.underlying a,x with
 |some _,some (.int k),.int _ n=>some (.int k (k.wrap n))
 |some _,some .string,.string s=>some (.string s)
 |some (.pointer _),some .unsafePointer,.pointer none=>some x
 |some .unsafePointer,some (.pointer _),.pointer none=>some x
 |_,_,_=>none
def qm(c:Bool):List Value->Option Value
 |[]=>none
 |x::a=>a.foldlM (λx y=>match x,y with
  |.int k x,.int b y=>if k=b then some (.int k (if c then(if y>x then y else x)else(if y<x then y else x)))else none
  |_,_=>none) x
def aZ(P:Program)(g:Operand->Value)(o:Oper):Option Value:=
 match o.op with
 |.move x|.assign x=>some (g x)
 |.pick c a b=>match g c with|.bool t=>some (if t then g a else g b)|_=>none
 |.build t q=>aD P t (q.toList.map λp=>(p.1,g p.2))
 |.nilCheck x=>match g x with
  |.pointer none|.nilIface|.nilFunc=>none
  |.func (.method _) _ _=>none
  |.chan _=>none
  |v=>some v
 |.binOp w t x y _=>ay P w t (g x) (g y)
 |.unOp w _ x=>E6 w (g x)
 |.convert s d x=>eK P s d (g x)
 |.makeInterface t x=>match P.underlying t with|some (.interface _)|none=>none|some _=>some (.iface t (g x))
 |.makeFunc r first l=>match r with
  |.yield _=>none
  |r=>some (.func r (first.map g) (l.map g))
 | .fieldAddr s x f=>match P.underlying s,g x with
  |some (.struct h),.pointer (some a)=>match h[f]? with
   |some m=>if(au P m.type).any (· ≠0)then some (.pointer (some (a.add m.offset)))else none
   |none=>none
  |_,_=>none
 | .field t x f=>match P.underlying t,g x with
  |some (.struct h),.agg cs=>match h[f]? with
   |some m=>partOf P m.type cs m.offset
   |none=>none
  |_,_=>none
 | .indexAddr t x i=>match P.underlying t,g x,g i with
  |some (.array k e),.pointer (some a),.int _ j=>match au P e with
   |some n=>if 0<=j/\j<(k:Int)then some (.pointer (some (a.add (j.toNat*n))))else none
   |none=>none
  |some (.slice e),.slice (some a) k _,.int _ j=>match au P e with
   |some n=>if 0<=j/\j<(k:Int)then some (.pointer (some (a.add (j.toNat*n))))else none
   |none=>none
  |_,_,_=>none
 | .index t x i=>match P.underlying t,g x,g i with
  |some (.array k e),.agg cs,.int _ j=>match au P e with
   |some n=>if 0<=j/\j<(k:Int)then partOf P e cs (j.toNat*n)else none
   |none=>none
  |some .string,.string s,.int _ j=>if 0<=j then match s.data.toList[j.toNat]? with|some b=>some (.int .u8 b.toNat)|none=>none else none
  |_,_,_=>none
 |.typeAssert x _ u A=>match P.underlying u,g x with
  |some (.interface _),_|none,_=>none
  |some _,.nilIface=>if A then(zeroOf P u).map λz=> .tuple #[z,.bool false]else none
  |some _,.iface t v=>if t=u then some (if A then .tuple #[v,.bool true]else v)else if A then(zeroOf P u).map λz=> .tuple #[z,.bool false]else none
  |_,_=>none
 |.extract x i=>match g x with|.tuple B=>B[i]?|_=>none
 |.call { callee:= .builtin .max,args,.. }=>qm true (args.toList.map g)
 |.call { callee:= .builtin .min,args,.. }=>qm false (args.toList.map g)
 | .call { callee:= .builtin .cap,args,argTypes }=>match args[0]?,argTypes[0]? with
  |some x,some t=>match P.underlying t,g x with
   |some (.slice _),.slice _ _ c=>if c<ca then some (.int .i64 c)else none
   |_,_=>none
  |_,_=>none
 |_=>none
def bytesOf:List Value->Option (List UInt8)
 |[]=>some []
 |.int .u8 n::r=>if 0<=n/\n<256 then(bytesOf r).map (UInt8.ofNat n.toNat::·)else none
 |_=>none
def ae(P:Program)(t:TypeId)(h:aa)(a:Value):Option Value:=
 match P.underlying t,a with
 | some _,.pointer (some ⟨k,i,none⟩)=>match h.get k with
  | some (.cells cs ..)=>
   if isAgg P t then
    match au P t with
    |some n=>if((cs.drop i).take n).length=n then some (.agg ((cs.drop i).take n).toArray)else none
    |none=>none
   else cs[i]?
  |_=>none
 |_,_=>none
def zi:Value->Bool
 |.bool _|.int _ _|.string _=>true
 |_=>false
def xy:Value->Bool
 |.agg cs=>cs.toList.all zi
 |v=>zi v
def EO:Value->Value->Bool
 |.bool a,.bool b=>a==b
 |.int k a,.int c b=>decide (k=c)&&decide (a=b)
 |.string a,.string b=>decide (a.data.toList=b.data.toList)
 |_,_=>false
def zh:List Value->List Value->Bool
 |[],[]=>true
 |a::x,b::y=>EO a b&&zh x y
 |_,_=>false
def JS:Value->Value->Bool
 |.agg a,.agg b=>zh a.toList b.toList
 |a,b=>EO a b
def S8(P:Program)(e:TypeId->Value->Value->Option Bool)(a b:Array Value):List Field->Option Bool
 |[]=>some true
 |f::c=>if f.name≠ "_" then(match partOf P f.type a f.offset,partOf P f.type b f.offset with
  |some p,some q=>(match e f.type p q with
   |some true=>S8 P e a b c
   |some false=>some false
   |none=>none)
  |_,_=>none)else none
def eF(P:Program):Nat->TypeId->Value->Value->Option Bool
 |0,_,_,_=>none
 |d+1,t,x,y=>match P.underlying t,x,y with
  |some (.struct c),.agg a,.agg b=>if P.stoodInHeld t=false then S8 P (eF P d) a b c.toList else none
  |_,x,y=>Bf P t x y
def NJ(P:Program)(c:TypeId->Value->Bool)(a:Array Value):List Field->Bool
 |[]=>true
 |f::b=>decide (f.name≠ "_")&&(match partOf P f.type a f.offset with|some p=>c f.type p|none=>false)&&NJ P c a b
def xw(P:Program):Nat->TypeId->Value->Bool
 |0,_,_=>false
 |d+1,t,v=>match P.underlying t,v with
  |some (.struct b),.agg a=>NJ P (xw P d) a b.toList
  |some .bool,.bool _=>true
  |some (.int _),.int _ _=>true
  |some .string,.string _=>true
  |_,_=>false
def kO(P:Program)(a:TypeId)(k:Value):Bool:=xy k&&xw P 3 a k
def qd(P:Program)(c:TypeId)(a b:Value):Option Bool:=
 if xy b then match eF P 3 c a b with
  |some true=>if JS a b then some true else none
  |r=>r
 else none
def od(P:Program)(a:TypeId)(k:Value):List (Value×Value)->Option (Option Value)
 |[]=>some none
 |(b,v)::c=>match qd P a k b with
  |some true=>some (some v)
  |some false=>od P a k c
  |none=>none
def bj(P:Program)(b:Operand->Value)(o:Oper)(h:aa):Option Value:=
 match o.op with
 |.load t a=>ae P t h (b a)
 |.slice t x q p l=>bm P t (b x) (q.map b) (p.map b) (l.map b) h
 | .convert s d x=>match P.underlying s,P.underlying d,b x with
  | some (.slice e),some .string,.slice a f _=>match P.underlying e,a with
   |some (.int .u8),none=>some (strOf [])
   | some (.int .u8),some ⟨k,i,none⟩=>match h.get k with
    | some (.cells cs ..)=>
     if((cs.drop i).take f).length=f then
      (bytesOf ((cs.drop i).take f)).map strOf
     else none
    |_=>none
   |_,_=>none
  |_,_,_=>none
 | .lookup t m k j=>match P.underlying t with
  | some (.map g e)=>match (match b m with|.map none=>some []|.map (some r)=>(match h.get r with|some (.map c)=>some c|_=>none)|_=>none),zeroOf P e with
   | some c,some z=>
    if kO P g (b k)then match od P g (b k) c with
     |some (some v)=>some (if j then .tuple #[v,.bool true]else v)
     |some none=>some (if j then .tuple #[z,.bool false]else z)
     |none=>none
    else none
   |_,_=>none
  |_=>none
 | .call { callee:= .builtin .len,args,argTypes }=>match args[0]?,argTypes[0]? with
  | some x,some t=>match P.underlying t,b x with
   |some .string,.string s=>some (.int .i64 s.data.toList.length)
   |some (.array n _),_=>some (.int .i64 n)
   |some (.slice _),.slice _ n _=>some (.int .i64 n)
   |some (.map ..),.map none=>some (.int .i64 0)
   |some (.map ..),.map (some r)=>match h.get r with
    |some (.map c)=>some (.int .i64 c.length)
    |_=>none
   |_,_=>none
  |_,_=>none
 |_=>none
def bG(z:List Value):Nat->List Value
 |0=>[]
 |n+1=>z++bG z n
def aT(P:Program)(a:Operand->Value)(o:Oper):Option (bw×(Nat->Value)):=
 match o.op with
 |.alloc t=>match zeroOf P t with
  |some z=>if z.cells.toList.all bc then some (.cells z.cells.toList t 0 true,λk=> .pointer (some ⟨k,0,none⟩))else none
  |none=>none
 |.box t x=>if(a x).cells.toList.all bc then some (.cells (a x).cells.toList t 0 true,λk=> .pointer (some ⟨k,0,none⟩))else none
 | .buildSlice t g f=>match P.underlying t with
  | some (.slice e)=>match au P e,zeroOf P e with
   | some h,some z=>
    if z.cells.size=h/\0<h/\g*h<=65536 then
     match (if f.toList.all λp=>BV (a p.2)then Instr.fill (λi=>some (i*h,h)) (bG z.cells.toList g).toArray (f.toList.map λp=>(p.1,a p.2))else none)with
     |some cs=>if cs.toList.all bc then some (.cells cs.toList e h true,λk=> .slice (some ⟨k,0,none⟩) g g)else none
     |none=>none
    else none
   |_,_=>none
  |_=>none
 | .makeSlice t l c=>match P.underlying t,a l,a c with
  | some (.slice e),.int .i64 l,.int .i64 c=>match P.info? e,zeroOf P e with
   | some i,some z=>
    if z.cells.size=i.size/\0<i.size/\0<=l/\l<=c/\c*i.bytes<=140737488355328/\c<=1099511627776 then
     some (.cells (bG z.cells.toList c.toNat) e i.size true,λk=> .slice (some ⟨k,0,none⟩) l.toNat c.toNat)
    else none
   |_,_=>none
  |_,_,_=>none
 | .makeMap t r=>match P.underlying t with
  |some (.map ..)=>match r with
   |none=>some (.map [],λk=> .map (some k))
   |some x=>match a x with|.int _ _=>some (.map [],λk=> .map (some k))|_=>none
  |_=>none
 | .convert s d x=>match P.underlying s,P.underlying d,a x with
  | some _,some (.slice e),.string s=>match P.underlying e with
   |some (.int .u8)=>match au P e with
    |some 1=>some (.cells (s.data.toList.map λb=> .int .u8 b.toNat) e 1 true,λk=> .slice (some ⟨k,0,none⟩) s.data.toList.length (ca+s.data.toList.length))
    |_=>none
   |_=>none
  |_,_,_=>none
 |_=>none
inductive aY where
 |no
 |set (k:Nat) (b:bw)
 |push (b:bw)
 |move (k:Nat) (b:bw)
 |all (h:aa)
 deriving Inhabited
def aY.app(u:aY)(h:aa):aa:=
 match u with
 |.no=>h
 |.set k b=>h.set k b
 |.push b=>h.push b
 |.move k b=>(h.del k).push b
 |.all a=>a
def storeAt(h:aa)(k i:Nat)(a:List Value):Option aY:=
 match h.get k with
 |some (.cells cs t b true)=>if i+a.length<=cs.length/\a.all bc then some (.set k (.cells (cs.take i++a++cs.drop (i+a.length)) t b true))else none
 |_=>none
def cI(h:aa)(a:Nat)(x:Value):Option (List Value×Nat):=
 match x with
 |.slice none 0 _=>some ([],0)
 |.slice (some ⟨_,_,some _⟩) 0 0=>some ([],0)
 |.slice (some ⟨k,i,none⟩) n _=>match h.get k with
  |some (.cells cs ..)=>if((cs.drop i).take (n*a)).length=n*a then some ((cs.drop i).take (n*a),n)else none
  |_=>none
 |.string s=>if a=1 then some (s.data.toList.map λb=> .int .u8 b.toNat,s.data.toList.length)else none
 |_=>none
def dG(P:Program)(e:TypeId):Option TypeInfo:=
 match P.info? e,zeroOf P e with
 |some i,some z=>if z.cells.size=i.size/\0<i.size then some i else none
 |_,_=>none
def bZ(P:Program)(t:TypeId):Bool:=match P.underlying t with|some (.slice _)|some .string=>true|_=>false
def fI(h:aa)(e:TypeId)(a d:Nat)(k j n c m:Nat)(b:List Value):Option (Value×aY):=
 if(n+m)*d<=70368744177664/\n+m<=1099511627776 then
  match h.get k with
  | some (.cells cs g f i)=>
   if g=e/\f=a/\((cs.drop j).take (n*a)).length=n*a then
    if c<ca then some (.slice (some ⟨h.next,0,none⟩) (n+m) (ca+(n+m)),.push (.cells ((cs.drop j).take (n*a)++b) e a true))
    else if i=true/\cs.length=j+n*a then some (.slice (some ⟨h.next,0,none⟩) (n+m) (ca+(n+m)),.move k (.cells ((cs.drop j).take (n*a)++b) e a true))
    else none
   else none
  |_=>none
 else none
def aE (P:Program)(t t':TypeId)(s x:Value)(h:aa):Option (Value×aY):=
 match P.underlying t with
 | some (.slice e)=>match dG P e with
  | some i=>
   if bZ P t'=true then
    match cI h i.size x with
    | some (a,m)=>
     if a.all bc/\a.length=m*i.size then
      match s with
      | .slice none 0 0=>if m=0 then some (s,.no)else
        if m*i.bytes<=70368744177664/\m<=1099511627776 then some (.slice (some ⟨h.next,0,none⟩) m (ca+m),.push (.cells a e i.size true))else none
      | .slice (some ⟨k,j,none⟩) n c=>
       if m=0 then some (s,.no)else
       if n+m<=aV c then
        (storeAt h k (j+n*i.size) a).map λu=>(.slice (some ⟨k,j,none⟩) (n+m) c,u)
       else fI h e i.size i.bytes k j n c m a
      |_=>none
     else none
    |none=>none
   else none
  |none=>none
 |_=>none
def copyV(P:Program)(t:TypeId)(d s:Value)(h:aa):Option (Value×aY):=
 match P.underlying t with
 | some (.slice e)=>match au P e,d with
  | some b,.slice a n _=>
   match cI h b s with
   |some (cs,m)=>
    if n=0\/m=0 then some (.int .i64 0,.no)else
    match a with
    |some ⟨k,j,none⟩=>(storeAt h k j (cs.take (min m n*b))).map λu=>(.int .i64 (min m n:Nat),u)
    |_=>none
   |none=>none
  |_,_=>none
 |_=>none
def Lc(P:Program)(t:TypeId)(x:Value)(h:aa):Option (Value×aY):=
 match P.underlying t,x with
 |some (.slice e),.slice (some ⟨k,j,none⟩) n _=>match zeroOf P e with
  |some z=>if n=0 then some (undef,.no)else(storeAt h k j (bG z.cells.toList n)).map λu=>(undef,u)
  |none=>none
 |_,_=>none
abbrev ck:=FuncId->List Value->aa->Option (Value×aa)
def qE(c:ck)(f:Value)(b:List Value)(h:aa):Option (Value×aY):=
 match f with
 |.func (.func g) first a=>if g<YB then(c g (first.toList++b++a.toList) h).map λr=>(r.1,.all r.2)else none
 |.func (.yield k) first a=>if first.size=0/\a.size=0 then(c (YB+k) b h).map λr=>(r.1,.all r.2)else none
 |_=>none
def ju(P:Program)(b:TypeId)(k v:Value):List (Value×Value)->Option (List (Value×Value))
 |[]=>some [(k,v)]
 |(a,v')::r=>match qd P b k a with
  |some true=>some ((k,v)::r)
  |some false=>(ju P b k v r).map ((a,v')::·)
  |none=>none
def cL(P:Program)(v:ck)(b:Operand->Value)(o:Oper)(h:aa):Option (Value×aY):=
 match o.op with
 |.store t a x=>match b a with
  |.pointer (some ⟨k,i,none⟩)=>if au P t=some (b x).cells.size then(storeAt h k i (b x).cells.toList).map λu=>(undef,u)else none
  |_=>none
 | .mapUpdate t m k x|.insert t m k x=>match P.underlying t,b m with
  |some (.map j _),.map (some r)=>match h.get r with
   |some (.map q)=>if kO P j (b k)then(ju P j (b k) (b x) q).map λg=>(undef,.set r (.map g))else none
   |_=>none
  |_,_=>none
 |.call { callee:= .value f,args,.. }=>qE v (b f) (args.toList.map b) h
 |.call { callee:= .builtin .append,args,argTypes }=>match args.toList,argTypes.toList with
  |[s,x],[t,t']=>aE P t t' (b s) (b x) h
  |_,_=>none
 |.call { callee:= .builtin .copy,args,argTypes }=>match args.toList,argTypes.toList with
  |[d,s],t::_=>copyV P t (b d) (b s) h
  |_,_=>none
 |.call { callee:= .builtin .clear,args,argTypes }=>match args.toList.map b,argTypes.toList with
  |[x],[t]=>Lc P t x h
  |_,_=>none
 |.call { callee:= .builtin .unsafeSliceData,args,.. }=>match args.toList.map b with
  |[.slice none _ _]=>some (.pointer none,.no)
  |[.slice (some a) _ c]=>if 0<aV c then some (.pointer (some a),.no)else none
  |_=>none
 | .call { callee:= .builtin .unsafeString,args,argTypes,.. }=>match args.toList.map b,argTypes[0]? with
  |[.pointer none,.int _ 0],some _=>some (strOf [],.no)
  | [.pointer (some ⟨k,i,none⟩),.int _ n],some w=>match h.get k,P.underlying w with
   | some (.cells cs e 1 true),some (.pointer p)=>
    if e=p/\au P e=some 1/\0<n/\n<9223372036854775807/\((cs.drop i).take n.toNat).length=n.toNat then
     match bytesOf ((cs.drop i).take n.toNat)with
     |some l=>some (strOf l,.set k (.cells cs e 1 false))
     |none=>none
    else none
   |_,_=>none
  |_,_=>none
 | .convert s d x=>match P.underlying s,P.underlying d,b x with
  |some (.pointer t),some .unsafePointer,.pointer (some ⟨k,0,none⟩)=>match h.get k with
   |some (.cells cs t' 0 _)=>if t=t'/\au P t=some cs.length/\0<cs.length then some (b x,.no)else none
   |_=>none
  |some .unsafePointer,some (.pointer t),.pointer (some ⟨k,0,none⟩)=>match h.get k with
   |some (.cells cs t' 0 _)=>if t=t'/\au P t=some cs.length/\0<cs.length then some (b x,.no)else none
   |_=>none
  |_,_,_=>none
 |_=>none
def bo(P:Program)(c:ck)(a:Operand->Value)(o:Oper)(h:aa):Option (Value×aY):=
 match aZ P a o with
 |some v=>some (v,.no)
 | none=>match bj P a o h with
  |some v=>some (v,.no)
  |none=>match aT P a o with
   |some (b,f)=>some (f h.next,.push b)
   |none=>cL P c a o h
def eZ(a:List Value)(b:Option Tmp)(v:Value):List Value:=
 match b with
 |some d=>a.set d v
 |none=>a
def dY(c:Array Oper)(e:List Value)(o:Oper):Option Bool:=
 match o.guard with
 |none=>some true
 | some (j,a)=>match (c[j]?).bind (·.dst)with
  |some d=>match e.getD d undef with
   |.bool b=>some (b==a)
   |.tuple _=>some false
   |_=>none
  |none=>none
def jx(P:Program)(d:Nat->Bool)(e:ck)(c:Array Oper):List Oper->List Value->aa->Option (List Value×aa)
 |[],a,h=>some (a,h)
 | o::b,a,h=>
  match dY c a o with
  |some true=>match bo P e (ev d a) o h with
   |some (v,u)=>jx P d e c b (eZ a o.dst v) (u.app h)
   |none=>none
  |some false=>jx P d e c b (eZ a o.dst undef) h
  |none=>none
def yN(e:Value->Value->Bool):List Value->List Value->Bool
 |[],[]=>true
 |a::x,b::y=>e a b&&yN e x y
 |_,_=>false
def cZ:Nat->Value->Value->Bool
 |0,_,_=>false
 |d+1,v,v'=>match v,v' with
  |.bool a,.bool b=>a==b
  |.int k a,.int h b=>decide (k=h)&&decide (a=b)
  |.string a,.string b=>decide (a.data.toList=b.data.toList)
  |.pointer none,.pointer none=>true
  |.pointer (some ⟨a,i,none⟩),.pointer (some ⟨b,j,none⟩)=>decide (a=b)&&decide (i=j)
  |.slice none n c,.slice none g e=>decide (n=g)&&decide (c=e)
  |.slice (some ⟨a,i,none⟩) n c,.slice (some ⟨b,j,none⟩) g e=>decide (a=b)&&decide (i=j)&&decide (n=g)&&decide (c=e)
  |.map none,.map none=>true
  |.map (some a),.map (some b)=>decide (a=b)
  |.nilFunc,.nilFunc=>true
  |.nilIface,.nilIface=>true
  |.func (.func f) a c,.func (.func m) l e=>decide (f=m)&&yN (cZ d) a.toList l.toList&&yN (cZ d) c.toList e.toList
  |.iface t v,.iface t' v'=>decide (t=t')&&cZ d v v'
  |.agg a,.agg b=>yN (cZ d) a.toList b.toList
  |.tuple a,.tuple b=>yN (cZ d) a.toList b.toList
  |_,_=>false
inductive lz where
 |skip
 |pure (v:Value)
 |read (v:Value)
 |alloc (B:bw) (v:Value)
 |qc (v:Value) (h:aa)
 deriving Inhabited
def lz.val:lz->Value
 |.skip=>undef
 |.pure v|.read v|.alloc _ v|.qc v _=>v
def av(h:aa)(a:Nat):List (Nat×bw)->aa
 |[]=>h
 |(i,B)::r=>(av h a r).set (a+i) B
def cW (P:Program)(i:Nat->Bool)(k:ck)(e:Array Oper)(g:Nat->Nat->Bool)(a:Nat):List Oper->Nat->List Value->aa->List (Nat×bw)->Option (List (List Value×lz)×List Value×aa×List (Nat×bw))
 |[],_,b,h,d=>some ([],b,h,d)
 | o::c,j,b,h,d=>
  match dY e b o with
  |none=>none
  |some false=>(cW P i k e g a c (j+1) (eZ b o.dst undef) h d).map λr=>((b,.skip)::r.1,r.2)
  | some true=>
   match aZ P (ev i b) o with
   |some v=>(cW P i k e g a c (j+1) (eZ b o.dst v) h d).map λr=>((b,.pure v)::r.1,r.2)
   | none=>
    match bj P (ev i b) o h with
    |some v=>(cW P i k e g a c (j+1) (eZ b o.dst v) h d).map λr=>((b,.read v)::r.1,r.2)
    | none=>
     match aT P (ev i b) o with
     |some (B,f)=>(cW P i k e g a c (j+1) (eZ b o.dst (f (a+j))) h ((j,B)::d)).map λr=>((b,.alloc B (f (a+j)))::r.1,r.2)
     | none=>
      match cL P k (ev i b) o (av h a (d.filter λp=>g j p.1))with
      | some (v,u)=>
       (cW P i k e g a c (j+1) (eZ b o.dst v) (u.app (av h a (d.filter λp=>g j p.1))) (d.filter λp=> !g j p.1)).map λr=>
        ((b,.qc v (u.app (av h a (d.filter λp=>g j p.1))))::r.1,r.2)
      |none=>none
def dI{a:Type}:List (a×lz)->Nat->List (Nat×aa)
 |[],_=>[]
 |(_,.qc _ h)::r,j=>(j,h)::dI r (j+1)
 |_::r,j=>dI r (j+1)
def chained(a:Nat->Nat->Bool):List (Nat×aa)->Bool
 |(i,_)::(j,h)::r=>a j i&&chained a ((j,h)::r)
 |_=>true
def hH(P:Program)(a:Nat->Bool)(o:Oper)(b:List Value)(v:Value)(h:aa):Bool:=
 match bj P (ev a b) o h with
 |some v'=>cZ 4 v v'
 |none=>false
def jz(P:Program)(c:Nat->Bool)(b:Nat->Nat->Bool)(j:Nat)(o:Oper)(d:List Value)(v:Value):aa->List (Nat×aa)->Bool->Bool
 |h,[],a=>a||hH P c o d v h
 |h,(e,f)::r,a=>((a&&Nat.blt j e)||b j e||hH P c o d v h)&&(b e j||jz P c b j o d v f r (Nat.blt e j))
def fP(P:Program)(b:Nat->Bool)(a:Nat->Nat->Bool)(h:aa)(d:List (Nat×aa)):List Oper->List (List Value×lz)->Nat->Bool
 |o::c,(e,.read v)::r,j=>jz P b a j o e v h d true&&fP P b a h d c r (j+1)
 |_::c,_::r,j=>fP P b a h d c r (j+1)
 |_,_,_=>true
def rQ(P:Program)(e:Nat->Bool)(i:ck)(a:Array Oper)(c:Nat->Nat->Bool)(f:List Value)(h:aa):Option (List Value×aa):=
 match cW P e i a c h.next a.toList 0 f { h with next:=h.next+a.size } []with
 |some (b,d,g,j)=>
  if chained c (dI b 0)&&fP P e c { h with next:=h.next+a.size } (dI b 0) a.toList b 0 then some (d,av g h.next j)else none
 |none=>none
def aac(o:Oper):Bool:=match o.op with|.insert .. =>true|_=>false
def ac9(o:Oper):Bool:=match o.op with|.store .. =>true|_=>false
def tF(a:Array Oper):Bool:=
 a.toList.any aac&&(List.range a.size).any λj=>(match a[j]? with|some o=>ac9 o|none=>false)&&(List.range j).any λi=>(match a[i]? with|some o=>aac o|none=>false) && !cE (fi a) j i
def fZ:FuncId->List Value->aa->Option (Value×aa):=λ_ _ _=>none
def GF(P:Program)(a:Operand->Value)(o:Oper)(k:Nat)(h:aa):Option (Value×Option (Nat×bw)):=
 match aZ P a o with
 |some v=>some (v,none)
 | none=>match bj P a o h with
  |some v=>some (v,none)
  | none=>match aT P a o with
   |some (b,f)=>some (f k,some (k,b))
   |none=>match cL P fZ a o h with
    |some (v,.no)=>some (v,none)
    |some (v,.set i b)=>some (v,some (i,b))
    |_=>none
abbrev yx:=List Value×aa×List Nat
def BK(s:yx)(a:Option Tmp)(v:Value):Option (Nat×bw)->yx
 |none=>(eZ s.1 a v,s.2.1,s.2.2)
 |some (k,b)=>(eZ s.1 a v,s.2.1.set k b,k::s.2.2)
def wx(P:Program)(c:Nat->Bool)(a:Array Oper)(b j:Nat)(s:yx):Option yx:=
 match a[j]? with
 | some o=>match dY a s.1 o with
  |some true=>match GF P (ev c s.1) o (b+j) s.2.1 with
   |some (v,u)=>some (BK s o.dst v u)
   |none=>none
  |some false=>some (BK s o.dst undef none)
  |none=>none
 |none=>none
def zm(P:Program)(c:Nat->Bool)(b:Array Oper)(a:Nat):Nat->Nat->yx->Option yx
 |0,_,s=>some s
 |n+1,j,s=>match wx P c b a j s with
  |some d=>zm P c b a n (j+1) d
  |none=>none
def tM:List (Value×Value)->List (Value×Value)->Bool
 |[],[]=>true
 |(a,b)::x,(c,d)::y=>cZ 4 a c&&cZ 4 b d&&tM x y
 |_,_=>false
def yG:bw->bw->Bool
 |.cells cs t e g,.cells b t' d c=>yN (cZ 4) cs b&&Nat.beq t t'&&Nat.beq e d&&(g==c)
 |.map f,.map a=>tM f a
 |_,_=>false
def O7(h a:aa)(k:Nat):Bool:=match h.get k,a.get k with
 |some B,some C=>yG B C
 |none,none=>true
 |_,_=>false
def Eb(s a:yx):Bool:=yN (cZ 4) s.1 a.1&&s.2.2.all (O7 s.2.1 a.2.1)&&a.2.2.all (O7 s.2.1 a.2.1)
def HS(P:Program)(e:Nat->Bool)(b:Array Oper)(d:Nat->Nat->Bool)(c:Nat)(fin:yx):Nat->List Nat->yx->Bool
 |0,_,s=>Eb fin s
 |n+1,a,s=>(List.range b.size).all λj=>a.contains j||((List.range j).any λi=>d j i && !a.contains i)||(match wx P e b c j s with|some f=>HS P e b d c fin n (j::a) f|none=>false)
def vc(P:Program)(b:Nat->Bool)(a:Array Oper)(d:Nat->Nat->Bool)(c:List Value)(h:aa):Option (List Value×aa):=
 match zm P b a h.next a.size 0 (c,{ h with next:=h.next+a.size },[])with
 |some fin=>if HS P b a d h.next fin a.size [] (c,{ h with next:=h.next+a.size },[])then some (fin.1,fin.2.1)else none
 |none=>none
def yK(P:Program)(b:Nat->Bool)(d:ck)(a:Array Oper)(c:List Value)(h:aa):Option (List Value×aa):=
 if tF a then vc P b a (cE (fi a)) c h else rQ P b d a (cE (fi a)) c h
def iter(a:List Value->aa->Option (Exit×List Value×aa)):Nat->List Value->aa->Option (Exit×List Value×aa)
 |0,_,_=>none
 |n+1,c,h=>match a c h with
  |some (.normal,b,d)=>iter a n b d
  |r=>r
def qF(P:Program)(g:FuncId):Bool:=match P.funcs[g]? with|some a=>a.body.isSome|none=>false
def N6:Option bw->Option Exit
 |some (.loop .ready ..)=>some .normal
 |some (.loop .ret ..)=>some .ret
 |some (.loop (.exit a) ..)=>some (.exit a)
 |_=>none
def aU(P:Program)(i:Nat->Bool)(j:ck)(N:Nat):Code->List Value->aa->Option (Exit×List Value×aa)
 |.skip,d,h=>some (.normal,d,h)
 |.region _ m false,d,h=>(jx P i j m m.toList d h).map λr=>(.normal,r.1,r.2)
 |.region _ m true,d,h=>(yK P i j m d h).map λr=>(.normal,r.1,r.2)
 |.seq a b,d,h=>match aU P i j N a d h with
  |some (.normal,l,o)=>aU P i j N b l o
  |r=>r
 |.cond c a b,d,h=>match ev i d c with
  |.bool t=>if t then aU P i j N a d h else aU P i j N b d h
  |_=>none
 |.block s c,d,h=>match aU P i j N c d h with
  |some (.exit q,l,o)=>if q=s then some (.normal,l,o)else some (.exit q,l,o)
  |r=>r
 |.loop c,d,h=>iter (aU P i j N c) N d h
 |.exit s,d,h=>some (.exit s,d,h)
 |.ret,d,h=>some (.ret,d,h)
 |.label _,d,h=>some (.normal,d,h)
 | .rangeFunc f v p n,d,h=>match ev i d f with
  | .func (.func g) first k=>
   if w:jM p n=true then
    if g<YB/\qF P g=true then
     match j g (first.toList++[.func (.yield h.next) #[] #[]]++k.toList) (h.push (.loop .ready d v.toList p n w))with
     |some (_,u)=>(N6 (u.get h.next)).map λe=>(e,d,u.del h.next)
     |none=>none
    else none
   else none
  |_=>none
 |_,_,_=>none
def ry(a:List Value)(b:List (Tmp×Value)):List Value:=b.foldl (λa p=>a.set p.1 p.2) a
def I4:Exit->Option (Bool×Wx)
 |.normal=>some (true,.ready)
 |.ret=>some (false,.ret)
 |.exit a=>some (false,.exit a)
 |_=>none
def oE(f:Code->List Value->aa->Option (Exit×List Value×aa))(k:Nat)(a:List Value)(h:aa):Option (Value×aa):=
 match h.get k with
 | some (.loop .ready w v m g _)=>
  if a.length=v.length then
   match f m (ry w (v.zip a)) h with
   | some (.normal,t,p)=>match p.get k with
    | some (.loop .ready l s i c q)=>match f g t (p.set k (.loop .busy l s i c q))with
     |some (e,_,r)=>match r.get k,I4 e with
      |some (.loop _ n o j d u),some (b,x)=>some (.bool b,r.set k (.loop x n o j d u))
      |_,_=>none
     |none=>none
    |_=>none
   |_=>none
  else none
 |_=>none
def cB(P:Program)(b:List Value)(h:aa):List ResultVar->Option (List Value)
 |[]=>some []
 |.tmp t::r=>(cB P b h r).map (b.getD t undef::·)
 |.cell a t::r=>match ae P t h (b.getD a undef)with
  |some v=>(cB P b h r).map (v::·)
  |none=>none
def cm:List Value->Value
 |[v]=>v
 |a=> .tuple a.toArray
abbrev lK:=ck->List Value->aa->Option (Value×aa)
def bn(P:Program)(b:Nat->Bool)(g:FuncId->Option lK):Nat->ck
 |0,_,_,_=>none
 | n+1,f,a,h=>if YB<=f then oE (aU P b (bn P b g n) n) (f-YB) a h else match g f with
  |some p=>p (bn P b g n) a h
  | none=>match P.funcs[f]? with
   | some e=>match e.body with
    |some c=>match aU P b (bn P b g n) n c (a++List.replicate (e.ntmps-a.length) undef) h with
     |some (.normal,j,d)=>(cB P j d e.results.toList).map λi=>(cm i,d)
     |some (.ret,j,d)=>(cB P j d e.results.toList).map λi=>(cm i,d)
     |_=>none
    |none=>none
   |none=>none
end
end Go.Ab
end
section
namespace Go.Ab
variable{n:Nat}{v:Value}
noncomputable section
structure Row where
 c0:Value
 c1:Value
 c2:Value
 c3:Value
 c4:Value
 c5:Value
 c6:Value
 c7:Value
 c8:Value
 c9:Value
 c10:Value
 c11:Value
 c12:Value
 c13:Value
 c14:Value
 c15:Value
structure Env where
 c0:Row
 c1:Row
 c2:Row
 c3:Row
 c4:Row
 c5:Row
 c6:Row
 c7:Row
 c8:Row
 c9:Row
 c10:Row
 c11:Row
 c12:Row
 c13:Row
 c14:Row
 c15:Row
inductive qh where
 |d0|d1|d2|d3|d4|d5|d6|d7|d8|d9|d10|d11|d12|d13|d14|d15|x
 deriving DecidableEq
def nQ:Row:=Row.mk undef undef undef undef undef undef undef undef undef undef undef undef undef undef undef undef
def Bc:Env:=Env.mk nQ nQ nQ nQ nQ nQ nQ nQ nQ nQ nQ nQ nQ nQ nQ nQ
def Row.g0(t:Row):Value:=Row.rec (motive:=λ_=>Value) (λa _ _ _ _ _ _ _ _ _ _ _ _ _ _ _=>a) t
def Row.g1(t:Row):Value:=Row.rec (motive:=λ_=>Value) (λ_ a _ _ _ _ _ _ _ _ _ _ _ _ _ _=>a) t
def Row.g2(t:Row):Value:=Row.rec (motive:=λ_=>Value) (λ_ _ a _ _ _ _ _ _ _ _ _ _ _ _ _=>a) t
def Row.g3(t:Row):Value:=Row.rec (motive:=λ_=>Value) (λ_ _ _ a _ _ _ _ _ _ _ _ _ _ _ _=>a) t
def Row.g4(t:Row):Value:=Row.rec (motive:=λ_=>Value) (λ_ _ _ _ a _ _ _ _ _ _ _ _ _ _ _=>a) t
def Row.g5(t:Row):Value:=Row.rec (motive:=λ_=>Value) (λ_ _ _ _ _ a _ _ _ _ _ _ _ _ _ _=>a) t
def Row.g6(t:Row):Value:=Row.rec (motive:=λ_=>Value) (λ_ _ _ _ _ _ a _ _ _ _ _ _ _ _ _=>a) t
def Row.g7(t:Row):Value:=Row.rec (motive:=λ_=>Value) (λ_ _ _ _ _ _ _ a _ _ _ _ _ _ _ _=>a) t
def Row.g8(t:Row):Value:=Row.rec (motive:=λ_=>Value) (λ_ _ _ _ _ _ _ _ a _ _ _ _ _ _ _=>a) t
def Row.g9(t:Row):Value:=Row.rec (motive:=λ_=>Value) (λ_ _ _ _ _ _ _ _ _ a _ _ _ _ _ _=>a) t
def Row.g10(t:Row):Value:=Row.rec (motive:=λ_=>Value) (λ_ _ _ _ _ _ _ _ _ _ a _ _ _ _ _=>a) t
def Row.g11(t:Row):Value:=Row.rec (motive:=λ_=>Value) (λ_ _ _ _ _ _ _ _ _ _ _ a _ _ _ _=>a) t
def Row.g12(t:Row):Value:=Row.rec (motive:=λ_=>Value) (λ_ _ _ _ _ _ _ _ _ _ _ _ a _ _ _=>a) t
def Row.g13(t:Row):Value:=Row.rec (motive:=λ_=>Value) (λ_ _ _ _ _ _ _ _ _ _ _ _ _ a _ _=>a) t
def Row.g14(t:Row):Value:=Row.rec (motive:=λ_=>Value) (λ_ _ _ _ _ _ _ _ _ _ _ _ _ _ a _=>a) t
def Row.g15(t:Row):Value:=Row.rec (motive:=λ_=>Value) (λ_ _ _ _ _ _ _ _ _ _ _ _ _ _ _ a=>a) t
def Row.s0(t:Row)(x:Value)(K:Row->Bool):Bool:=Row.rec (motive:=λ_=>Bool) (λ_ k m l i o n h j g f d e a b c=>K (Row.mk x k m l i o n h j g f d e a b c)) t
def Row.s1(t:Row)(x:Value)(K:Row->Bool):Bool:=Row.rec (motive:=λ_=>Bool) (λo _ l k i n m h j g f d e a b c=>K (Row.mk o x l k i n m h j g f d e a b c)) t
def Row.s2(t:Row)(x:Value)(K:Row->Bool):Bool:=Row.rec (motive:=λ_=>Bool) (λo k _ l i n m h j g f d e a b c=>K (Row.mk o k x l i n m h j g f d e a b c)) t
def Row.s3(t:Row)(x:Value)(K:Row->Bool):Bool:=Row.rec (motive:=λ_=>Bool) (λo k l _ i n m h j g f d e a b c=>K (Row.mk o k l x i n m h j g f d e a b c)) t
def Row.s4(t:Row)(x:Value)(K:Row->Bool):Bool:=Row.rec (motive:=λ_=>Bool) (λo j l k _ n m h i g f d e a b c=>K (Row.mk o j l k x n m h i g f d e a b c)) t
def Row.s5(t:Row)(x:Value)(K:Row->Bool):Bool:=Row.rec (motive:=λ_=>Bool) (λo k m l i _ n h j g f d e a b c=>K (Row.mk o k m l i x n h j g f d e a b c)) t
def Row.s6(t:Row)(x:Value)(K:Row->Bool):Bool:=Row.rec (motive:=λ_=>Bool) (λo k m l i n _ h j g f d e a b c=>K (Row.mk o k m l i n x h j g f d e a b c)) t
def Row.s7(t:Row)(x:Value)(K:Row->Bool):Bool:=Row.rec (motive:=λ_=>Bool) (λo j l k h n m _ i g f d e a b c=>K (Row.mk o j l k h n m x i g f d e a b c)) t
def Row.s8(t:Row)(x:Value)(K:Row->Bool):Bool:=Row.rec (motive:=λ_=>Bool) (λo j l k i n m h _ g f d e a b c=>K (Row.mk o j l k i n m h x g f d e a b c)) t
def Row.s9(t:Row)(x:Value)(K:Row->Bool):Bool:=Row.rec (motive:=λ_=>Bool) (λo j l k h n m g i _ f d e a b c=>K (Row.mk o j l k h n m g i x f d e a b c)) t
def Row.s10(t:Row)(x:Value)(K:Row->Bool):Bool:=Row.rec (motive:=λ_=>Bool) (λo j l k h n m g i f _ d e a b c=>K (Row.mk o j l k h n m g i f x d e a b c)) t
def Row.s11(t:Row)(x:Value)(K:Row->Bool):Bool:=Row.rec (motive:=λ_=>Bool) (λo j l k h n m g i f e _ d a b c=>K (Row.mk o j l k h n m g i f e x d a b c)) t
def Row.s12(t:Row)(x:Value)(K:Row->Bool):Bool:=Row.rec (motive:=λ_=>Bool) (λo j l k h n m g i f e d _ a b c=>K (Row.mk o j l k h n m g i f e d x a b c)) t
def Row.s13(t:Row)(x:Value)(K:Row->Bool):Bool:=Row.rec (motive:=λ_=>Bool) (λo j l k h n m g i f e c d _ a b=>K (Row.mk o j l k h n m g i f e c d x a b)) t
def Row.s14(t:Row)(x:Value)(K:Row->Bool):Bool:=Row.rec (motive:=λ_=>Bool) (λo j l k h n m g i f e c d a _ b=>K (Row.mk o j l k h n m g i f e c d a x b)) t
def Row.s15(t:Row)(x:Value)(K:Row->Bool):Bool:=Row.rec (motive:=λ_=>Bool) (λo j l k h n m g i f e c d a b _=>K (Row.mk o j l k h n m g i f e c d a b x)) t
def Row.u0(t:Row)(x:Value):Row:=Row.rec (motive:=λ_=>Row) (λ_ k m l i o n h j g f d e a b c=>Row.mk x k m l i o n h j g f d e a b c) t
def Row.u1(t:Row)(x:Value):Row:=Row.rec (motive:=λ_=>Row) (λo _ l k i n m h j g f d e a b c=>Row.mk o x l k i n m h j g f d e a b c) t
def Row.u2(t:Row)(x:Value):Row:=Row.rec (motive:=λ_=>Row) (λo k _ l i n m h j g f d e a b c=>Row.mk o k x l i n m h j g f d e a b c) t
def Row.u3(t:Row)(x:Value):Row:=Row.rec (motive:=λ_=>Row) (λo k l _ i n m h j g f d e a b c=>Row.mk o k l x i n m h j g f d e a b c) t
def Row.u4(t:Row)(x:Value):Row:=Row.rec (motive:=λ_=>Row) (λo j l k _ n m h i g f d e a b c=>Row.mk o j l k x n m h i g f d e a b c) t
def Row.u5(t:Row)(x:Value):Row:=Row.rec (motive:=λ_=>Row) (λo k m l i _ n h j g f d e a b c=>Row.mk o k m l i x n h j g f d e a b c) t
def Row.u6(t:Row)(x:Value):Row:=Row.rec (motive:=λ_=>Row) (λo k m l i n _ h j g f d e a b c=>Row.mk o k m l i n x h j g f d e a b c) t
def Row.u7(t:Row)(x:Value):Row:=Row.rec (motive:=λ_=>Row) (λo j l k h n m _ i g f d e a b c=>Row.mk o j l k h n m x i g f d e a b c) t
def Row.u8(t:Row)(x:Value):Row:=Row.rec (motive:=λ_=>Row) (λo j l k i n m h _ g f d e a b c=>Row.mk o j l k i n m h x g f d e a b c) t
def Row.u9(t:Row)(x:Value):Row:=Row.rec (motive:=λ_=>Row) (λo j l k h n m g i _ f d e a b c=>Row.mk o j l k h n m g i x f d e a b c) t
def Row.u10(t:Row)(x:Value):Row:=Row.rec (motive:=λ_=>Row) (λo j l k h n m g i f _ d e a b c=>Row.mk o j l k h n m g i f x d e a b c) t
def Row.u11(t:Row)(x:Value):Row:=Row.rec (motive:=λ_=>Row) (λo j l k h n m g i f e _ d a b c=>Row.mk o j l k h n m g i f e x d a b c) t
def Row.u12(t:Row)(x:Value):Row:=Row.rec (motive:=λ_=>Row) (λo j l k h n m g i f e d _ a b c=>Row.mk o j l k h n m g i f e d x a b c) t
def Row.u13(t:Row)(x:Value):Row:=Row.rec (motive:=λ_=>Row) (λo j l k h n m g i f e c d _ a b=>Row.mk o j l k h n m g i f e c d x a b) t
def Row.u14(t:Row)(x:Value):Row:=Row.rec (motive:=λ_=>Row) (λo j l k h n m g i f e c d a _ b=>Row.mk o j l k h n m g i f e c d a x b) t
def Row.u15(t:Row)(x:Value):Row:=Row.rec (motive:=λ_=>Row) (λo j l k h n m g i f e c d a b _=>Row.mk o j l k h n m g i f e c d a b x) t
def Row.sx(t:Row)(_:Value)(K:Row->Bool):Bool:=K t
def Row.ux(t:Row)(_:Value):Row:=t
def Row.gx(_:Row):Value:=undef
def Row.at(d:qh):Row->Value:=qh.rec (motive:=λ_=>Row->Value) Row.g0 Row.g1 Row.g2 Row.g3 Row.g4 Row.g5 Row.g6 Row.g7 Row.g8 Row.g9 Row.g10 Row.g11 Row.g12 Row.g13 Row.g14 Row.g15 Row.gx d
def Row.set(d:qh):Row->Value->(Row->Bool)->Bool:=qh.rec (motive:=λ_=>Row->Value->(Row->Bool)->Bool) Row.s0 Row.s1 Row.s2 Row.s3 Row.s4 Row.s5 Row.s6 Row.s7 Row.s8 Row.s9 Row.s10 Row.s11 Row.s12 Row.s13 Row.s14 Row.s15 Row.sx d
def Row.kF(d:qh):Row->Value->Row:=qh.rec (motive:=λ_=>Row->Value->Row) Row.u0 Row.u1 Row.u2 Row.u3 Row.u4 Row.u5 Row.u6 Row.u7 Row.u8 Row.u9 Row.u10 Row.u11 Row.u12 Row.u13 Row.u14 Row.u15 Row.ux d
theorem Row.MH(d:qh)(t:Row)(x:Value)(K:Row->Bool):Row.set d t x K=K (Row.kF d t x):=by cases d<;>rfl
theorem Row.KX(d e:qh)(t:Row)(x:Value)(a:d≠ .x):Row.at e (Row.kF d t x)=if e=d then x else Row.at e t:=by
 cases d<;>first|exact absurd rfl a|(cases e<;>rfl)
def Env.g0(t:Env):Row:=Env.rec (motive:=λ_=>Row) (λa _ _ _ _ _ _ _ _ _ _ _ _ _ _ _=>a) t
def Env.g1(t:Env):Row:=Env.rec (motive:=λ_=>Row) (λ_ a _ _ _ _ _ _ _ _ _ _ _ _ _ _=>a) t
def Env.g2(t:Env):Row:=Env.rec (motive:=λ_=>Row) (λ_ _ a _ _ _ _ _ _ _ _ _ _ _ _ _=>a) t
def Env.g3(t:Env):Row:=Env.rec (motive:=λ_=>Row) (λ_ _ _ a _ _ _ _ _ _ _ _ _ _ _ _=>a) t
def Env.g4(t:Env):Row:=Env.rec (motive:=λ_=>Row) (λ_ _ _ _ a _ _ _ _ _ _ _ _ _ _ _=>a) t
def Env.g5(t:Env):Row:=Env.rec (motive:=λ_=>Row) (λ_ _ _ _ _ a _ _ _ _ _ _ _ _ _ _=>a) t
def Env.g6(t:Env):Row:=Env.rec (motive:=λ_=>Row) (λ_ _ _ _ _ _ a _ _ _ _ _ _ _ _ _=>a) t
def Env.g7(t:Env):Row:=Env.rec (motive:=λ_=>Row) (λ_ _ _ _ _ _ _ a _ _ _ _ _ _ _ _=>a) t
def Env.g8(t:Env):Row:=Env.rec (motive:=λ_=>Row) (λ_ _ _ _ _ _ _ _ a _ _ _ _ _ _ _=>a) t
def Env.g9(t:Env):Row:=Env.rec (motive:=λ_=>Row) (λ_ _ _ _ _ _ _ _ _ a _ _ _ _ _ _=>a) t
def Env.g10(t:Env):Row:=Env.rec (motive:=λ_=>Row) (λ_ _ _ _ _ _ _ _ _ _ a _ _ _ _ _=>a) t
def Env.g11(t:Env):Row:=Env.rec (motive:=λ_=>Row) (λ_ _ _ _ _ _ _ _ _ _ _ a _ _ _ _=>a) t
def Env.g12(t:Env):Row:=Env.rec (motive:=λ_=>Row) (λ_ _ _ _ _ _ _ _ _ _ _ _ a _ _ _=>a) t
def Env.g13(t:Env):Row:=Env.rec (motive:=λ_=>Row) (λ_ _ _ _ _ _ _ _ _ _ _ _ _ a _ _=>a) t
def Env.g14(t:Env):Row:=Env.rec (motive:=λ_=>Row) (λ_ _ _ _ _ _ _ _ _ _ _ _ _ _ a _=>a) t
def Env.g15(t:Env):Row:=Env.rec (motive:=λ_=>Row) (λ_ _ _ _ _ _ _ _ _ _ _ _ _ _ _ a=>a) t
def Env.s0(t:Env)(x:Row)(K:Env->Bool):Bool:=Env.rec (motive:=λ_=>Bool) (λ_ k m l i o n h j g f d e a b c=>K (Env.mk x k m l i o n h j g f d e a b c)) t
def Env.s1(t:Env)(x:Row)(K:Env->Bool):Bool:=Env.rec (motive:=λ_=>Bool) (λo _ l k i n m h j g f d e a b c=>K (Env.mk o x l k i n m h j g f d e a b c)) t
def Env.s2(t:Env)(x:Row)(K:Env->Bool):Bool:=Env.rec (motive:=λ_=>Bool) (λo k _ l i n m h j g f d e a b c=>K (Env.mk o k x l i n m h j g f d e a b c)) t
def Env.s3(t:Env)(x:Row)(K:Env->Bool):Bool:=Env.rec (motive:=λ_=>Bool) (λo k l _ i n m h j g f d e a b c=>K (Env.mk o k l x i n m h j g f d e a b c)) t
def Env.s4(t:Env)(x:Row)(K:Env->Bool):Bool:=Env.rec (motive:=λ_=>Bool) (λo j l k _ n m h i g f d e a b c=>K (Env.mk o j l k x n m h i g f d e a b c)) t
def Env.s5(t:Env)(x:Row)(K:Env->Bool):Bool:=Env.rec (motive:=λ_=>Bool) (λo k m l i _ n h j g f d e a b c=>K (Env.mk o k m l i x n h j g f d e a b c)) t
def Env.s6(t:Env)(x:Row)(K:Env->Bool):Bool:=Env.rec (motive:=λ_=>Bool) (λo k m l i n _ h j g f d e a b c=>K (Env.mk o k m l i n x h j g f d e a b c)) t
def Env.s7(t:Env)(x:Row)(K:Env->Bool):Bool:=Env.rec (motive:=λ_=>Bool) (λo j l k h n m _ i g f d e a b c=>K (Env.mk o j l k h n m x i g f d e a b c)) t
def Env.s8(t:Env)(x:Row)(K:Env->Bool):Bool:=Env.rec (motive:=λ_=>Bool) (λo j l k i n m h _ g f d e a b c=>K (Env.mk o j l k i n m h x g f d e a b c)) t
def Env.s9(t:Env)(x:Row)(K:Env->Bool):Bool:=Env.rec (motive:=λ_=>Bool) (λo j l k h n m g i _ f d e a b c=>K (Env.mk o j l k h n m g i x f d e a b c)) t
def Env.s10(t:Env)(x:Row)(K:Env->Bool):Bool:=Env.rec (motive:=λ_=>Bool) (λo j l k h n m g i f _ d e a b c=>K (Env.mk o j l k h n m g i f x d e a b c)) t
def Env.s11(t:Env)(x:Row)(K:Env->Bool):Bool:=Env.rec (motive:=λ_=>Bool) (λo j l k h n m g i f e _ d a b c=>K (Env.mk o j l k h n m g i f e x d a b c)) t
def Env.s12(t:Env)(x:Row)(K:Env->Bool):Bool:=Env.rec (motive:=λ_=>Bool) (λo j l k h n m g i f e d _ a b c=>K (Env.mk o j l k h n m g i f e d x a b c)) t
def Env.s13(t:Env)(x:Row)(K:Env->Bool):Bool:=Env.rec (motive:=λ_=>Bool) (λo j l k h n m g i f e c d _ a b=>K (Env.mk o j l k h n m g i f e c d x a b)) t
def Env.s14(t:Env)(x:Row)(K:Env->Bool):Bool:=Env.rec (motive:=λ_=>Bool) (λo j l k h n m g i f e c d a _ b=>K (Env.mk o j l k h n m g i f e c d a x b)) t
def Env.s15(t:Env)(x:Row)(K:Env->Bool):Bool:=Env.rec (motive:=λ_=>Bool) (λo j l k h n m g i f e c d a b _=>K (Env.mk o j l k h n m g i f e c d a b x)) t
def Env.u0(t:Env)(x:Row):Env:=Env.rec (motive:=λ_=>Env) (λ_ k m l i o n h j g f d e a b c=>Env.mk x k m l i o n h j g f d e a b c) t
def Env.u1(t:Env)(x:Row):Env:=Env.rec (motive:=λ_=>Env) (λo _ l k i n m h j g f d e a b c=>Env.mk o x l k i n m h j g f d e a b c) t
def Env.u2(t:Env)(x:Row):Env:=Env.rec (motive:=λ_=>Env) (λo k _ l i n m h j g f d e a b c=>Env.mk o k x l i n m h j g f d e a b c) t
def Env.u3(t:Env)(x:Row):Env:=Env.rec (motive:=λ_=>Env) (λo k l _ i n m h j g f d e a b c=>Env.mk o k l x i n m h j g f d e a b c) t
def Env.u4(t:Env)(x:Row):Env:=Env.rec (motive:=λ_=>Env) (λo j l k _ n m h i g f d e a b c=>Env.mk o j l k x n m h i g f d e a b c) t
def Env.u5(t:Env)(x:Row):Env:=Env.rec (motive:=λ_=>Env) (λo k m l i _ n h j g f d e a b c=>Env.mk o k m l i x n h j g f d e a b c) t
def Env.u6(t:Env)(x:Row):Env:=Env.rec (motive:=λ_=>Env) (λo k m l i n _ h j g f d e a b c=>Env.mk o k m l i n x h j g f d e a b c) t
def Env.u7(t:Env)(x:Row):Env:=Env.rec (motive:=λ_=>Env) (λo j l k h n m _ i g f d e a b c=>Env.mk o j l k h n m x i g f d e a b c) t
def Env.u8(t:Env)(x:Row):Env:=Env.rec (motive:=λ_=>Env) (λo j l k i n m h _ g f d e a b c=>Env.mk o j l k i n m h x g f d e a b c) t
def Env.u9(t:Env)(x:Row):Env:=Env.rec (motive:=λ_=>Env) (λo j l k h n m g i _ f d e a b c=>Env.mk o j l k h n m g i x f d e a b c) t
def Env.u10(t:Env)(x:Row):Env:=Env.rec (motive:=λ_=>Env) (λo j l k h n m g i f _ d e a b c=>Env.mk o j l k h n m g i f x d e a b c) t
def Env.u11(t:Env)(x:Row):Env:=Env.rec (motive:=λ_=>Env) (λo j l k h n m g i f e _ d a b c=>Env.mk o j l k h n m g i f e x d a b c) t
def Env.u12(t:Env)(x:Row):Env:=Env.rec (motive:=λ_=>Env) (λo j l k h n m g i f e d _ a b c=>Env.mk o j l k h n m g i f e d x a b c) t
def Env.u13(t:Env)(x:Row):Env:=Env.rec (motive:=λ_=>Env) (λo j l k h n m g i f e c d _ a b=>Env.mk o j l k h n m g i f e c d x a b) t
def Env.u14(t:Env)(x:Row):Env:=Env.rec (motive:=λ_=>Env) (λo j l k h n m g i f e c d a _ b=>Env.mk o j l k h n m g i f e c d a x b) t
def Env.u15(t:Env)(x:Row):Env:=Env.rec (motive:=λ_=>Env) (λo j l k h n m g i f e c d a b _=>Env.mk o j l k h n m g i f e c d a b x) t
def Env.sx(t:Env)(_:Row)(K:Env->Bool):Bool:=K t
def Env.ux(t:Env)(_:Row):Env:=t
def Env.gx(_:Env):Row:=nQ
def Env.at(d:qh):Env->Row:=qh.rec (motive:=λ_=>Env->Row) Env.g0 Env.g1 Env.g2 Env.g3 Env.g4 Env.g5 Env.g6 Env.g7 Env.g8 Env.g9 Env.g10 Env.g11 Env.g12 Env.g13 Env.g14 Env.g15 Env.gx d
def Env.set(d:qh):Env->Row->(Env->Bool)->Bool:=qh.rec (motive:=λ_=>Env->Row->(Env->Bool)->Bool) Env.s0 Env.s1 Env.s2 Env.s3 Env.s4 Env.s5 Env.s6 Env.s7 Env.s8 Env.s9 Env.s10 Env.s11 Env.s12 Env.s13 Env.s14 Env.s15 Env.sx d
def Env.kF(d:qh):Env->Row->Env:=qh.rec (motive:=λ_=>Env->Row->Env) Env.u0 Env.u1 Env.u2 Env.u3 Env.u4 Env.u5 Env.u6 Env.u7 Env.u8 Env.u9 Env.u10 Env.u11 Env.u12 Env.u13 Env.u14 Env.u15 Env.ux d
theorem Env.MH(d:qh)(t:Env)(x:Row)(K:Env->Bool):Env.set d t x K=K (Env.kF d t x):=by cases d<;>rfl
theorem Env.KX(d e:qh)(t:Env)(x:Row)(a:d≠ .x):Env.at e (Env.kF d t x)=if e=d then x else Env.at e t:=by
 cases d<;>first|exact absurd rfl a|(cases e<;>rfl)
def Hw(n:Nat):qh:=Nat.rec (motive:=λ_=>qh) .d0 (λp _=>Nat.rec (motive:=λ_=>qh) .d1 (λi _=>Nat.rec (motive:=λ_=>qh) .d2 (λj _=>Nat.rec (motive:=λ_=>qh) .d3 (λg _=>Nat.rec (motive:=λ_=>qh) .d4 (λo _=>Nat.rec (motive:=λ_=>qh) .d5 (λf _=>Nat.rec (motive:=λ_=>qh) .d6 (λk _=>Nat.rec (motive:=λ_=>qh) .d7 (λl _=>Nat.rec (motive:=λ_=>qh) .d8 (λm _=>Nat.rec (motive:=λ_=>qh) .d9 (λh _=>Nat.rec (motive:=λ_=>qh) .d10 (λc _=>Nat.rec (motive:=λ_=>qh) .d11 (λd _=>Nat.rec (motive:=λ_=>qh) .d12 (λe _=>Nat.rec (motive:=λ_=>qh) .d13 (λb _=>Nat.rec (motive:=λ_=>qh) .d14 (λa _=>Nat.rec (motive:=λ_=>qh) .d15 (λ_ _=> .x) a) b) e) d) c) h) m) l) k) f) o) g) j) i) p) n
def qh.num:qh->Nat
 |.d0=>0
 |.d1=>1
 |.d2=>2
 |.d3=>3
 |.d4=>4
 |.d5=>5
 |.d6=>6
 |.d7=>7
 |.d8=>8
 |.d9=>9
 |.d10=>10
 |.d11=>11
 |.d12=>12
 |.d13=>13
 |.d14=>14
 |.d15=>15
 |.x=>16
theorem GD:∀n,(Hw n).num=min n 16
 |0=>rfl
 |1=>rfl
 |2=>rfl
 |3=>rfl
 |4=>rfl
 |5=>rfl
 |6=>rfl
 |7=>rfl
 |8=>rfl
 |9=>rfl
 |10=>rfl
 |11=>rfl
 |12=>rfl
 |13=>rfl
 |14=>rfl
 |15=>rfl
 |n+16=>by show 16=min (n+16) 16;omega
theorem SY{a b:Nat}(e:a<16)(h:Hw b=Hw a):b=a:=by
 have d:=GD a;have c:=GD b;rw[h]at c;omega
theorem Z7{a:Nat}(b:a<16):Hw a≠ .x:=λh=>by
 have:=GD a;rw[h]at this;simp only[qh.num]at this;omega
def Env.get(t:Nat)(e:Env):Value:=Row.at (Hw (t%16)) (Env.at (Hw (t/16)) e)
def Env.put(t:Nat)(e:Env)(v:Value)(K:Env->Bool):Bool:=Row.set (Hw (t%16)) (Env.at (Hw (t/16)) e) v λr=>Env.set (Hw (t/16)) e r K
def Env.new(t:Nat)(e:Env)(v:Value):Env:=Env.kF (Hw (t/16)) e (Row.kF (Hw (t%16)) (Env.at (Hw (t/16)) e) v)
theorem Env.put_eq(t:Nat)(e:Env)(v:Value)(K:Env->Bool):Env.put t e v K=K (Env.new t e v):=by
 unfold Env.put Env.new;rw[Row.MH,Env.MH]
theorem U1(d:qh):Row.at d nQ=undef:=by cases d<;>rfl
theorem Be(t:Nat):Env.get t Bc=undef:=by
 unfold Env.get;have:Env.at (Hw (t/16)) Bc=nQ:=by cases Hw (t/16)<;>rfl
 rw[this,U1]
theorem Env.FZ{t:Nat}{e:Env}(i:t<256):Env.get n (Env.new t e v)=if n=t then v else Env.get n e:=by
 have c:t/16<16:=by omega
 have d:t%16<16:=Nat.mod_lt _ (by omega);unfold Env.get Env.new;rw[Env.KX _ _ _ _ (Z7 c)];by_cases a:Hw (n/16)=Hw (t/16)
 ·have f:=SY c a;rw[if_pos a,Row.KX _ _ _ _ (Z7 d)];by_cases b:Hw (n%16)=Hw (t%16)
  ·have g:=SY d b;rw[if_pos b,if_pos (by omega)]
  ·rw[if_neg b,if_neg (λh=>b (by rw[h])),a]
 ·rw[if_neg a,if_neg (λh=>a (by rw[h]))]
end
end Go.Ab
end
section
namespace Go.Ab
open Go
variable{u:IntKind}
section
noncomputable section
variable {α:Type}
def iN(n:Nat)(c:Nat->Bool):Bool:=Nat.rec (motive:=λ_=>Bool) (c 0) (λm _=>c (m+1)) n
def Tc(n:Int)(c:Int->Bool):Bool:=Int.rec (motive:=λ_=>Bool) (λn=>iN n λn=>c (.ofNat n)) (λn=>iN n λn=>c (.negSucc n)) n
def De(a:Bool)(x:Option α)(K:α->Bool):Bool:=Option.rec (motive:=λ_=>Bool) a K x
def fJ(b:Bool)(x y:Bool):Bool:=Bool.rec (motive:=λ_=>Bool) y x b
def NQ(a:Option Addr)(K:Option Addr->Bool):Bool:=Option.rec (motive:=λ_=>Bool) (K none) (λc=>Addr.rec (motive:=λ_=>Bool) (λb o s=>iN b λb=>iN o λo=>K (some ⟨b,o,s⟩)) c) a
def ac1(k:IntKind)(n:Int)(K:Value->Bool):Bool:=Tc n λn=>K (.int k n)
def ac2(a:Option Addr)(K:Value->Bool):Bool:=NQ a λa=>K (.pointer a)
def Yc(a:Option Addr)(n c:Nat)(K:Value->Bool):Bool:=NQ a λa=>iN n λn=>iN c λc=>K (.slice a n c)
def lC(v:Value):(Value->Bool)->Bool:=Value.rec (motive_1:=λ_=>(Value->Bool)->Bool) (motive_2:=λ_=>Unit) (motive_3:=λ_=>Unit) (λb K=>K (.bool b)) ac1 (λk n K=>K (.float k n)) (λk m n K=>K (.complex k m n)) (λs K=>K (.string s)) ac2 Yc (λr K=>K (.map r)) (λr K=>K (.chan r)) (λf a c _ _=>(λf a c K=>K (.func f a c)) f a c) (λK=>K .nilFunc) (λt v _=>(λt v K=>K (.iface t v)) t v) (λK=>K .nilIface) (λa _=>(λa K=>K (.agg a)) a) (λa _=>(λa K=>K (.tuple a)) a) (λ_ _=>()) () (λ_ _ _ _=>()) v
def yJ(v:Value):Bool->(Bool->Bool)->Bool:=Value.rec (motive_1:=λ_=>Bool->(Bool->Bool)->Bool) (motive_2:=λ_=>Unit) (motive_3:=λ_=>Unit) (λb _ K=>K b) (λ_ _ d _=>d) (λ_ _ d _=>d) (λ_ _ _ d _=>d) (λ_ d _=>d) (λ_ d _=>d) (λ_ _ _ d _=>d) (λ_ d _=>d) (λ_ d _=>d) (λf a c _ _=>(λ_ _ _ d _=>d) f a c) (λd _=>d) (λt v _=>(λ_ _ d _=>d) t v) (λd _=>d) (λa _=>(λ_ d _=>d) a) (λa _=>(λ_ d _=>d) a) (λ_ _=>()) () (λ_ _ _ _=>()) v
theorem H3(v:Value)(a:Bool)(K:Bool->Bool):(yJ v a K=a/\∀b,v≠ .bool b)\/ ∃b,v = .bool b/\yJ v a K=K b:=by
 cases v<;>first|exact .inr ⟨_,rfl,rfl⟩|exact .inl ⟨rfl,by intros;simp⟩
def Dr(v:Value):Bool->(IntKind->Int->Bool)->Bool:=Value.rec (motive_1:=λ_=>Bool->(IntKind->Int->Bool)->Bool) (motive_2:=λ_=>Unit) (motive_3:=λ_=>Unit) (λ_ b _=>b) (λk n _ K=>K k n) (λ_ _ b _=>b) (λ_ _ _ b _=>b) (λ_ b _=>b) (λ_ b _=>b) (λ_ _ _ b _=>b) (λ_ b _=>b) (λ_ b _=>b) (λf a c _ _=>(λ_ _ _ b _=>b) f a c) (λb _=>b) (λt v _=>(λ_ _ b _=>b) t v) (λb _=>b) (λa _=>(λ_ b _=>b) a) (λa _=>(λ_ b _=>b) a) (λ_ _=>()) () (λ_ _ _ _=>()) v
theorem Yj(v:Value)(a:Bool)(K:IntKind->Int->Bool):(Dr v a K=a/\∀k n,v≠ .int k n)\/ ∃k n,v = .int k n/\Dr v a K=K k n:=by
 cases v<;>first|exact .inr ⟨_,_,rfl,rfl⟩|exact .inl ⟨rfl,by intros;simp⟩
def Ao(v:Value):Bool->(ByteArray->Bool)->Bool:=Value.rec (motive_1:=λ_=>Bool->(ByteArray->Bool)->Bool) (motive_2:=λ_=>Unit) (motive_3:=λ_=>Unit) (λ_ b _=>b) (λ_ _ b _=>b) (λ_ _ b _=>b) (λ_ _ _ b _=>b) (λs _ K=>K s) (λ_ b _=>b) (λ_ _ _ b _=>b) (λ_ b _=>b) (λ_ b _=>b) (λf a c _ _=>(λ_ _ _ b _=>b) f a c) (λb _=>b) (λt v _=>(λ_ _ b _=>b) t v) (λb _=>b) (λa _=>(λ_ b _=>b) a) (λa _=>(λ_ b _=>b) a) (λ_ _=>()) () (λ_ _ _ _=>()) v
theorem MS(v:Value)(a:Bool)(K:ByteArray->Bool):(Ao v a K=a/\∀s,v≠ .string s)\/ ∃s,v = .string s/\Ao v a K=K s:=by
 cases v<;>first|exact .inr ⟨_,rfl,rfl⟩|exact .inl ⟨rfl,by intros;simp⟩
def Jz(v:Value):Bool->(Option Addr->Bool)->Bool:=Value.rec (motive_1:=λ_=>Bool->(Option Addr->Bool)->Bool) (motive_2:=λ_=>Unit) (motive_3:=λ_=>Unit) (λ_ b _=>b) (λ_ _ b _=>b) (λ_ _ b _=>b) (λ_ _ _ b _=>b) (λ_ b _=>b) (λa _ K=>K a) (λ_ _ _ b _=>b) (λ_ b _=>b) (λ_ b _=>b) (λf a c _ _=>(λ_ _ _ b _=>b) f a c) (λb _=>b) (λt v _=>(λ_ _ b _=>b) t v) (λb _=>b) (λa _=>(λ_ b _=>b) a) (λa _=>(λ_ b _=>b) a) (λ_ _=>()) () (λ_ _ _ _=>()) v
theorem YW(v:Value)(b:Bool)(K:Option Addr->Bool):(Jz v b K=b/\∀a,v≠ .pointer a)\/ ∃a,v = .pointer a/\Jz v b K=K a:=by
 cases v<;>first|exact .inr ⟨_,rfl,rfl⟩|exact .inl ⟨rfl,by intros;simp⟩
def Cy(v:Value):Bool->(Option Addr->Nat->Nat->Bool)->Bool:=Value.rec (motive_1:=λ_=>Bool->(Option Addr->Nat->Nat->Bool)->Bool) (motive_2:=λ_=>Unit) (motive_3:=λ_=>Unit) (λ_ b _=>b) (λ_ _ b _=>b) (λ_ _ b _=>b) (λ_ _ _ b _=>b) (λ_ b _=>b) (λ_ b _=>b) (λa n c _ K=>K a n c) (λ_ b _=>b) (λ_ b _=>b) (λf a c _ _=>(λ_ _ _ b _=>b) f a c) (λb _=>b) (λt v _=>(λ_ _ b _=>b) t v) (λb _=>b) (λa _=>(λ_ b _=>b) a) (λa _=>(λ_ b _=>b) a) (λ_ _=>()) () (λ_ _ _ _=>()) v
theorem Re(v:Value)(b:Bool)(K:Option Addr->Nat->Nat->Bool):(Cy v b K=b/\∀a n c,v≠ .slice a n c)\/ ∃a n c,v = .slice a n c/\Cy v b K=K a n c:=by
 cases v<;>first|exact .inr ⟨_,_,_,rfl,rfl⟩|exact .inl ⟨rfl,by intros;simp⟩
def funcF(v:Value):Bool->(Fn->Array Value->Array Value->Bool)->Bool:=Value.rec (motive_1:=λ_=>Bool->(Fn->Array Value->Array Value->Bool)->Bool) (motive_2:=λ_=>Unit) (motive_3:=λ_=>Unit) (λ_ b _=>b) (λ_ _ b _=>b) (λ_ _ b _=>b) (λ_ _ _ b _=>b) (λ_ b _=>b) (λ_ b _=>b) (λ_ _ _ b _=>b) (λ_ b _=>b) (λ_ b _=>b) (λf a c _ _=>(λf a c _ K=>K f a c) f a c) (λb _=>b) (λt v _=>(λ_ _ b _=>b) t v) (λb _=>b) (λa _=>(λ_ b _=>b) a) (λa _=>(λ_ b _=>b) a) (λ_ _=>()) () (λ_ _ _ _=>()) v
theorem IK(v:Value)(b:Bool)(K:Fn->Array Value->Array Value->Bool):(funcF v b K=b/\∀f a c,v≠ .func f a c)\/ ∃f a c,v = .func f a c/\funcF v b K=K f a c:=by
 cases v<;>first|exact .inr ⟨_,_,_,rfl,rfl⟩|exact .inl ⟨rfl,by intros;simp⟩
def WO(v:Value):Bool->(Array Value->Bool)->Bool:=Value.rec (motive_1:=λ_=>Bool->(Array Value->Bool)->Bool) (motive_2:=λ_=>Unit) (motive_3:=λ_=>Unit) (λ_ b _=>b) (λ_ _ b _=>b) (λ_ _ b _=>b) (λ_ _ _ b _=>b) (λ_ b _=>b) (λ_ b _=>b) (λ_ _ _ b _=>b) (λ_ b _=>b) (λ_ b _=>b) (λf a c _ _=>(λ_ _ _ b _=>b) f a c) (λb _=>b) (λt v _=>(λ_ _ b _=>b) t v) (λb _=>b) (λa _=>(λa _ K=>K a) a) (λa _=>(λ_ b _=>b) a) (λ_ _=>()) () (λ_ _ _ _=>()) v
theorem WQ(v:Value)(b:Bool)(K:Array Value->Bool):(WO v b K=b/\∀a,v≠ .agg a)\/ ∃a,v = .agg a/\WO v b K=K a:=by
 cases v<;>first|exact .inr ⟨_,rfl,rfl⟩|exact .inl ⟨rfl,by intros;simp⟩
def Hi(v:Value):Bool->(Array Value->Bool)->Bool:=Value.rec (motive_1:=λ_=>Bool->(Array Value->Bool)->Bool) (motive_2:=λ_=>Unit) (motive_3:=λ_=>Unit) (λ_ b _=>b) (λ_ _ b _=>b) (λ_ _ b _=>b) (λ_ _ _ b _=>b) (λ_ b _=>b) (λ_ b _=>b) (λ_ _ _ b _=>b) (λ_ b _=>b) (λ_ b _=>b) (λf a c _ _=>(λ_ _ _ b _=>b) f a c) (λb _=>b) (λt v _=>(λ_ _ b _=>b) t v) (λb _=>b) (λa _=>(λ_ b _=>b) a) (λa _=>(λa _ K=>K a) a) (λ_ _=>()) () (λ_ _ _ _=>()) v
theorem Rv(v:Value)(b:Bool)(K:Array Value->Bool):(Hi v b K=b/\∀a,v≠ .tuple a)\/ ∃a,v = .tuple a/\Hi v b K=K a:=by
 cases v<;>first|exact .inr ⟨_,rfl,rfl⟩|exact .inl ⟨rfl,by intros;simp⟩
def Vd(v:Value):Bool:=Value.rec (motive_1:=λ_=>Bool) (motive_2:=λ_=>Unit) (motive_3:=λ_=>Unit) (λ_=>true) (λ_ _=>true) (λ_ _=>true) (λ_ _ _=>true) (λ_=>true) (λ_=>true) (λ_ _ _=>true) (λ_=>true) (λ_=>false) (λf a c _ _=>(λ_ _ _=>true) f a c) true (λt v _=>(λ_ _=>true) t v) true (λa _=>(λ_=>false) a) (λa _=>(λ_=>false) a) (λ_ _=>()) () (λ_ _ _ _=>()) v
theorem JW(v:Value):Vd v=bc v:=by cases v<;>rfl
def Yh(k:IntKind):IntKind->Bool:=IntKind.rec (motive:=λ_=>IntKind->Bool) (IntKind.rec (motive:=λ_=>Bool) true false false false false false false false) (IntKind.rec (motive:=λ_=>Bool) false true false false false false false false) (IntKind.rec (motive:=λ_=>Bool) false false true false false false false false) (IntKind.rec (motive:=λ_=>Bool) false false false true false false false false) (IntKind.rec (motive:=λ_=>Bool) false false false false true false false false) (IntKind.rec (motive:=λ_=>Bool) false false false false false true false false) (IntKind.rec (motive:=λ_=>Bool) false false false false false false true false) (IntKind.rec (motive:=λ_=>Bool) false false false false false false false true) k
theorem Ga{k:IntKind}(h:Yh k u=true):k=u:=by cases k<;>cases u<;>first|rfl|cases h
def lim(k:IntKind):Nat:=IntKind.rec (motive:=λ_=>Nat) 128 32768 2147483648 9223372036854775808 256 65536 4294967296 18446744073709551616 k
def abl(j:Int)(a:Bool)(K:Nat->Bool):Bool:=Int.rec (motive:=λ_=>Bool) K (λ_=>a) j
def IT(a b:Int):Bool:=Int.rec (motive:=λ_=>Bool) (λm=>Int.rec (motive:=λ_=>Bool) (λn=>Nat.blt m n) (λ_=>false) b) (λm=>Int.rec (motive:=λ_=>Bool) (λ_=>true) (λn=>Nat.blt n m) b) a
def N0(a b:Int):Bool:=Int.rec (motive:=λ_=>Bool) (λm=>Int.rec (motive:=λ_=>Bool) (λn=>Nat.beq m n) (λ_=>false) b) (λm=>Int.rec (motive:=λ_=>Bool) (λ_=>false) (λn=>Nat.beq n m) b) a
def Wu(k:IntKind)(n:Int)(K:Int->Bool):Bool:=
 Int.rec (motive:=λ_=>Bool) (λm=>fJ (Nat.blt m (lim k)) (iN m λm=>K (.ofNat m)) (Tc (k.wrap (.ofNat m)) K)) (λm=>Tc (k.wrap (.negSucc m)) K) n
def xq(l:List Value):(List Value->Bool)->Bool:=List.rec (motive:=λ_=>(List Value->Bool)->Bool) (λK=>K []) (λa _ b K=>b λr=>K (a::r)) l
def nth(l:List α):Nat->Option α:=List.rec (motive:=λ_=>Nat->Option α) (λ_=>none) (λa _ b i=>Nat.rec (motive:=λ_=>Option α) (some a) (λj _=>b j) i) l
def Ha(v:Value)(b:Bool)(l:List Value):Nat->(List Value->Bool)->Bool:=
 List.rec (motive:=λ_=>Nat->(List Value->Bool)->Bool) (λ_ _=>b) (λa r c i K=>Nat.rec (motive:=λ_=>Bool) (K (v::r)) (λj _=>c j λr=>K (a::r)) i) l
def HT.kE(b:Option bw)(t:HT)(K:HT->Bool):Bool:=HT.rec (motive:=λ_=>Bool) (K (.node b .nil .nil)) (λ_ l r _ _=>K (.node b l r)) t
def HT.kL(a:HT->(HT->Bool)->Bool)(t:HT)(K:HT->Bool):Bool:=HT.rec (motive:=λ_=>Bool) (a .nil λl=>K (.node none l .nil)) (λv l r _ _=>a l λl=>K (.node v l r)) t
def HT.kR(a:HT->(HT->Bool)->Bool)(t:HT)(K:HT->Bool):Bool:=HT.rec (motive:=λ_=>Bool) (a .nil λr=>K (.node none .nil r)) (λv l r _ _=>a r λr=>K (.node v l r)) t
def HT.oz(b:Option bw)(p:Fk):HT->(HT->Bool)->Bool:=Fk.rec (motive:=λ_=>HT->(HT->Bool)->Bool) (HT.kE b) (λ_=>HT.kL) (λ_=>HT.kR) p
def IA(b:bw)(K:bw->Bool):Bool:=bw.rec (motive:=λ_=>Bool) (λcs t d g=>xq cs λcs=>K (.cells cs t d g)) (λf=>K (.map f)) (λh e i c a j=>K (.loop h e i c a j)) b
def V9(k:Nat)(b:bw)(h:aa)(K:aa->Bool):Bool:=IA b λb=>HT.oz (some b) (pathOf k) h.t λt=>K ⟨h.next,t⟩
def uo(b:bw)(h:aa)(K:aa->Bool):Bool:=IA b λb=>HT.oz (some b) (pathOf h.next) h.t λt=>iN h.next λn=>K ⟨n+1,t⟩
def Ng(k:Nat)(b:bw)(h:aa)(K:aa->Bool):Bool:=IA b λb=>HT.oz none (pathOf k) h.t λt=>HT.oz (some b) (pathOf h.next) t λt=>iN h.next λn=>K ⟨n+1,t⟩
def WT(u:aY):aa->(aa->Bool)->Bool:=aY.rec (motive:=λ_=>aa->(aa->Bool)->Bool) (λh K=>K h) V9 uo Ng (λh _ K=>K h) u
structure Cx where
 P:Program
 gl:Nat->Bool
 cf:FuncId->List Value->aa->(Value->aa->Bool)->Bool
 N:Nat
 n:Nat
 bad:Bool
abbrev qj:=Cx->Oper->(Operand->Value)->aa->(Value->aa->Bool)->Bool
def Mg(a:Bool)(r:Option (Value×aY))(h:aa)(K:Value->aa->Bool):Bool:=De a r λr=>Prod.rec (motive:=λ_=>Bool) (λv u=>WT u h λh=>lC v λv=>K v h) r
def gen:qj:=λa o b h K=>Mg a.bad (bo a.P fZ b o h) h K
def K8:qj:=λa _ _ _ _=>a.bad
def NI(x:Operand):qj:=λ_ _ a h K=>lC (a x) λv=>K v h
def SA(c a b:Operand):qj:=λe _ d h K=>yJ (d c) e.bad λt=>fJ t (lC (d a) λv=>K v h) (lC (d b) λv=>K v h)
def Sb(P:Program)(t:TypeId):Option bw:=match zeroOf P t with
 |some z=>if z.cells.toList.all bc then some (.cells z.cells.toList t 0 true)else none
 |none=>none
def YH(b:bw)(h:aa)(K:Value->aa->Bool):Bool:=iN h.next λk=>uo b h λh=>K (.pointer (some ⟨k,0,none⟩)) h
def K7(t:TypeId):qj:=λa _ _ h K=>De a.bad (Sb a.P t) λb=>YH b h K
def aaR(t:TypeId)(x:Operand):qj:=λb o a h K=>fJ (Vd (a x)) (lC (a x) λv=>YH (.cells [v] t 0 true) h K) (gen b o a h K)
def HN(a:Option Addr)(c:Bool)(K:Nat->Nat->Bool):Bool:=Option.rec (motive:=λ_=>Bool) c (λd=>Addr.rec (motive:=λ_=>Bool) (λb i s=>Option.rec (motive:=λ_=>Bool) (K b i) (λ_=>c) s) d) a
def Zc(h:aa)(k:Nat)(a:Bool)(K:List Value->TypeId->Nat->Bool->Bool):Bool:=De a (h.get k) λB=>bw.rec (motive:=λ_=>Bool) K (λ_=>a) (λ_ _ _ _ _ _=>a) B
def GO(P:Program)(t:TypeId):Bool:=(P.underlying t).isSome && !isAgg P t
def aap(P:Program)(t:TypeId):Bool:=decide (au P t=some 1)
def Sz(t:TypeId)(a:Operand):qj:=λc _ d h K=>
 fJ (GO c.P t) (Jz (d a) c.bad λe=>HN e c.bad λb i=>Zc h b c.bad λcs _ _ _=>De c.bad (nth cs i) λv=>K v h) (De c.bad (ae c.P t h (d a)) λv=>K v h)
def aj(P:Program)(t:TypeId)(a x:Value)(h:aa):Option (Value×aY):=match a with
 |.pointer (some ⟨k,i,none⟩)=>if au P t=some x.cells.size then(storeAt h k i x.cells.toList).map λu=>(undef,u)else none
 |_=>none
def Lb(t:TypeId)(a x:Operand):qj:=λc _ d h K=>
 fJ (aap c.P t&&Vd (d x)) (Jz (d a) c.bad λg=>HN g c.bad λb i=>Zc h b c.bad λcs f e j=>fJ j (lC (d x) λv=>Ha v c.bad cs i λcs=>
   HT.oz (some (.cells cs f e true)) (pathOf b) h.t λt=>K undef ⟨h.next,t⟩) c.bad) (Mg c.bad (aj c.P t (d a) (d x) h) h K)
def xh(x:Operand):qj:=λb o c h K=>Jz (c x) (gen b o c h K) λa=>De b.bad a λa=>K (.pointer (some a)) h
def AN(f:Int->Int->Int)(x y:Operand):qj:=λc o d h K=>Dr (d x) (gen c o d h K) λk a=>Dr (d y) c.bad λe b=>fJ (Yh k e) (Wu k (f a b) λn=>K (.int k n) h) c.bad
def HW(f:Int->Int->Bool)(x y:Operand):qj:=λc o d h K=>Dr (d x) (gen c o d h K) λk a=>Dr (d y) c.bad λe b=>fJ (Yh k e) (fJ (f a b) (K (.bool true) h) (K (.bool false) h)) c.bad
def HX(_ _:Operand):qj:=gen
def ac6(a b:Int):Int:=a+b
def ac8(a b:Int):Int:=a-b
def ac7(a b:Int):Int:=a*b
def iNe(a b:Int):Bool:= !N0 a b
def iLe(a b:Int):Bool:= !IT b a
def iGt(a b:Int):Bool:=IT b a
def iGe(a b:Int):Bool:= !IT a b
def acO(a:BinOp)(_:TypeId)(x y:Operand)(_:TypeId):qj:=
 BinOp.rec (motive:=λ_=>Operand->Operand->qj) (AN ac6) (AN ac8) (AN ac7) HX HX HX HX HX HX HX HX (HW N0) (HW iNe) (HW IT) (HW iLe) (HW iGt) (HW iGe) a x y
def ab2(_:Operand):qj:=gen
def ab3(x:Operand):qj:=λa _ c h K=>yJ (c x) a.bad λb=>fJ b (K (.bool false) h) (K (.bool true) h)
def cUn(a:UnOp)(_:TypeId)(x:Operand):qj:=UnOp.rec (motive:=λ_=>Operand->qj) ab2 ab2 ab3 ab2 a x
def kOf(P:Program)(s d:TypeId):Option IntKind:=match P.underlying s,P.underlying d with
 |some _,some (.int k)=>some k
 |_,_=>none
def AV(s d:TypeId)(x:Operand):qj:=λa o b h K=>Option.rec (motive:=λ_=>Bool) (gen a o b h K) (λk=>Dr (b x) a.bad λ_ n=>Wu k n λn=>K (.int k n) h) (kOf a.P s d)
def acZ(P:Program)(s:TypeId)(f:Nat):Option Nat:=match P.underlying s with
 |some (.struct a)=>match a[f]? with
  |some b=>if(au P b.type).any (· ≠0)then some b.offset else none
  |none=>none
 |_=>none
def tJ(s:TypeId)(x:Operand)(f:Nat):qj:=λa _ e h K=>De a.bad (acZ a.P s f) λc=>Jz (e x) a.bad λd=>HN d a.bad λb i=>iN (i+c) λi=>K (.pointer (some ⟨b,i,none⟩)) h
def Lw(P:Program)(s:TypeId)(f:Nat):Option Nat:=match P.underlying s with
 |some (.struct a)=>match a[f]? with
  |some b=>if GO P b.type then some b.offset else none
  |none=>none
 |_=>none
def K9(s:TypeId)(x:Operand)(f:Nat):qj:=λa o c h K=>Option.rec (motive:=λ_=>Bool) (gen a o c h K) (λb=>WO (c x) a.bad λcs=>De a.bad (nth cs.toList b) λv=>lC v λv=>K v h) (Lw a.P s f)
def aab(P:Program)(t:TypeId):Option (Option Nat×Nat):=match P.underlying t with
 |some (.array a e)=>(au P e).map λn=>(some a,n)
 |some (.slice e)=>(au P e).map λn=>(none,n)
 |_=>none
def elemAt(c:Bool)(a:Option Addr)(j n d:Nat)(h:aa)(K:Value->aa->Bool):Bool:=fJ (Nat.blt j d) (HN a c λb o=>iN (o+j*n) λo=>K (.pointer (some ⟨b,o,none⟩)) h) c
def tK(t:TypeId)(x i:Operand):qj:=λb _ d h K=>De b.bad (aab b.P t) λe=>Prod.rec (motive:=λ_=>Bool) (λc n=>Dr (d i) b.bad λ_ j=>abl j b.bad λj=>
 Option.rec (motive:=λ_=>Bool) (Cy (d x) b.bad λa l _=>elemAt b.bad a j n l h K) (λc=>Jz (d x) b.bad λa=>elemAt b.bad a j n c h K) c) e
def isStr(P:Program)(t:TypeId):Bool:=match P.underlying t with|some .string=>true|_=>false
def La(t:TypeId)(x i:Operand):qj:=λa o c h K=>fJ (isStr a.P t) (Ao (c x) a.bad λs=>Dr (c i) a.bad λ_ j=>abl j a.bad λj=>De a.bad (nth s.data.toList j) λb=>iN b.toNat λb=>K (.int .u8 (.ofNat b)) h) (gen a o c h K)
def AW(x:Operand)(i:Nat):qj:=λa _ c h K=>Hi (c x) a.bad λb=>De a.bad (nth b.toList i) λv=>lC v λv=>K v h
def fArgs(b:Operand->Value)(l:List Operand):(List Value->Bool)->Bool:=List.rec (motive:=λ_=>(List Value->Bool)->Bool) (λK=>K []) (λx _ a K=>lC (b x) λv=>a λr=>K (v::r)) l
def fnF(b:Fn)(a:Bool)(K:FuncId->Bool)(Y:Nat->Bool):Bool:=Fn.rec (motive:=λ_=>Bool) K (λ_=>a) (λ_ _=>a) (λ_ _ _ _=>a) Y b
def xl(a:Array Value):Bool:=List.rec (motive:=λ_=>Bool) true (λ_ _ _=>false) a.toList
def Fx(f:Operand)(d:Array Operand)(_:Array TypeId):qj:=λb _ e h K=>funcF (e f) b.bad λi first a=>fnF i b.bad
 (λg=>fJ (Nat.blt g YB) (fArgs e d.toList λc=>xq (first.toList++c++a.toList) λc=>b.cf g c h K) b.bad)
 (λk=>fJ (xl first) (fJ (xl a) (fArgs e d.toList λc=>iN (YB+k) λj=>b.cf j c h K) b.bad) b.bad)
def aad(P:Program)(t:TypeId):Bool:=match P.underlying t with|some (.slice _)=>true|_=>false
def Gg(P:Program)(a:Array Operand)(b:Array TypeId):Option Operand:=match a[0]?,b[0]? with
 |some x,some t=>if aad P t then some x else none
 |_,_=>none
def SF(b:Array Operand)(c:Array TypeId):qj:=λa o d h K=>Option.rec (motive:=λ_=>Bool) (gen a o d h K) (λx=>Cy (d x) a.bad λ_ n _=>K (.int .i64 (.ofNat n)) h) (Gg a.P b c)
def AY(a:Array Operand)(c:Array TypeId):qj:=λb _ d h K=>Mg b.bad (match a.toList,c.toList with
  |[s,x],[t,t']=>aE b.P t t' (d s) (d x) h
  |_,_=>none) h K
def gy(_:Array Operand)(_:Array TypeId):qj:=gen
def Pg(b:Builtin):Array Operand->Array TypeId->qj:=
 Builtin.rec (motive:=λ_=>Array Operand->Array TypeId->qj) AY gy gy gy gy gy gy gy SF gy gy gy gy gy gy gy gy gy gy gy gy gy gy gy gy gy b
def SG(_:Operand)(_:String)(_:Array Operand)(_:Array TypeId):qj:=K8
def aaS(a:Callee)(b:Array Operand)(c:Array TypeId):qj:=Callee.rec (motive:=λ_=>Array Operand->Array TypeId->qj) Fx SG Pg a b c
def Sy(c:Call):qj:=Call.rec (motive:=λ_=>qj) aaS c
def opF(a:Op):qj:=Op.rec (motive:=λ_=>qj) NI NI SA K7 aaR (λ_ _=>gen) (λ_ _ _=>gen) (λ_ _ _ _=>gen) Sz Lb (λ_=>gen) (λ_=>gen) xh acO cUn AV (λ_ _=>gen) (λ_ _=>gen) (λ_ _ _=>gen) (λ_ _=>gen) (λ_ _=>gen) (λ_ _ _=>gen) (λ_ _ _ _ _=>gen) tJ K9 tK La (λ_ _ _ _=>gen) (λ_ _ _ _=>gen) (λ_ _ _=>gen) (λ_ _ _ _=>gen) (λ_ _=>gen) (λ_ _=>gen) (λ_=>gen) (λ_ _ _ _=>gen) AW Sy (λ_=>K8) (λ_=>K8) (λ_=>K8) (λ_ _=>K8) (λ_ _ _=>K8) (λ_ _=>K8) a
def Xt(b:Bool)(x y:Value):Value:=Bool.rec (motive:=λ_=>Value) y x b
def acY(t:Tmp)(_:Nat->Bool)(e:Env):Value:=Env.get t e
def XV(v:Value)(_:Nat->Bool)(_:Env):Value:=Xt (plain v) v jE
def Ta(g:Nat)(a:Nat->Bool)(_:Env):Value:=Xt (a g) (.pointer (some ⟨g,0,none⟩)) jE
def aa5(f:FuncId)(_:Nat->Bool)(_:Env):Value:= .func (.func f) #[] #[]
def NO(a:Nat->Bool)(e:Env)(x:Operand):Value:=Operand.rec (motive:=λ_=>(Nat->Bool)->Env->Value) acY XV Ta aa5 x a e
def Tp(a:Array Oper)(j:Nat):Option Tmp:=(a[j]?).bind (·.dst)
def Bz(v:Value):Bool->(Bool->Bool)->Bool->Bool:=Value.rec (motive_1:=λ_=>Bool->(Bool->Bool)->Bool->Bool) (motive_2:=λ_=>Unit) (motive_3:=λ_=>Unit) (λb _ K _=>K b) (λ_ _ d _ _=>d) (λ_ _ d _ _=>d) (λ_ _ _ d _ _=>d) (λ_ d _ _=>d) (λ_ d _ _=>d) (λ_ _ _ d _ _=>d) (λ_ d _ _=>d) (λ_ d _ _=>d) (λf a c _ _=>(λ_ _ _ d _ _=>d) f a c) (fun  d _ _=>d) (λt v _=>(λ_ _ d _ _=>d) t v) (fun  d _ _=>d) (λa _=>(λ_ d _ _=>d) a) (λa _=>(λ_ _ _ e=>e) a) (λ_ _=>()) () (λ_ _ _ _=>()) v
def sG(n:Nat)(a:Option Tmp)(e:Env)(v:Value)(K:Env->Bool):Bool:=Option.rec (motive:=λ_=>Bool) (K e) (λd=>fJ (Nat.blt d n) (Env.put d e v K) (K e)) a
def CL(k:Array Oper)(e:Env)(i:Bool)(h:Option (Nat×Bool))(f:Bool)(a:Bool):Bool:=
 Option.rec (motive:=λ_=>Bool) f (λg=>Prod.rec (motive:=λ_=>Bool) (λj c=>De i (Tp k j) λd=>Bz (Env.get d e) i (λb=>Bool.rec (motive:=λ_=>Bool) (fJ c a f) (fJ c f a) b) a) g) h
def abr(a:Cx)(b:Array Oper)(o:Oper)(e:Env)(h:aa)(K:Env->aa->Bool):Bool:=
 CL b e a.bad o.guard (opF o.op a o (NO a.gl e) h λv h=>sG a.n o.dst e v λe=>K e h) (sG a.n o.dst e undef λe=>K e h)
def Jq(b:Cx)(a:Array Oper)(l:List Oper):Env->aa->(Env->aa->Bool)->Bool:=
 List.rec (motive:=λ_=>Env->aa->(Env->aa->Bool)->Bool) (λe h K=>K e h) (λo _ c e h K=>abr b a o e h λe h=>c e h K) l
inductive ZN where
 |p|r|e|d
def acP(a:Callee)(_:Array Operand)(_:Array TypeId):ZN:=Callee.rec (motive:=λ_=>ZN) (λ_=> .e) (λ_ _=> .d)
 (λb=>Builtin.rec (motive:=λ_=>ZN) .e .d .d .d .d .d .d .d .r .d .d .d .d .d .d .d .d .d .d .d .d .d .d .d .d .d b) a
def aev(c:Call):ZN:=Call.rec (motive:=λ_=>ZN) acP c
def Po(a:Op):ZN:=Op.rec (motive:=λ_=>ZN) (λ_=> .p) (λ_=> .p) (λ_ _ _=> .p) (λ_=> .d) (λ_ _=> .d) (λ_ _=> .d) (λ_ _ _=> .d) (λ_ _ _ _=> .d) (λ_ _=> .r) (λ_ _ _=> .e) (λ_=> .d) (λ_=> .d) (λ_=> .p) (λ_ _ _ _ _=> .p) (λ_ _ _=> .p) (λ_ _ _=> .d) (λ_ _=> .d) (λ_ _=> .d) (λ_ _ _=> .d) (λ_ _=> .d) (λ_ _=> .d) (λ_ _ _=> .d) (λ_ _ _ _ _=> .d) (λ_ _ _=> .p) (λ_ _ _=> .p) (λ_ _ _=> .p) (λ_ _ _=> .p) (λ_ _ _ _=> .d) (λ_ _ _ _=> .d) (λ_ _ _=> .d) (λ_ _ _ _=> .d) (λ_ _=> .d) (λ_ _=> .d) (λ_=> .d) (λ_ _ _ _=> .d) (λ_ _=> .p) aev (λ_=> .d) (λ_=> .d) (λ_=> .d) (λ_ _=> .d) (λ_ _ _=> .d) (λ_ _=> .d) a
def nH(a:Nat)(l:List (Nat×bw))(h:aa)(K:aa->Bool):Bool:=
 List.rec (motive:=λ_=>(aa->Bool)->Bool) (λK=>K h) (λx _ c K=>Prod.rec (motive:=λ_=>Bool) (λi b=>c λh=>HT.oz (some b) (pathOf (a+i)) h.t λt=>K ⟨h.next,t⟩) x) l K
abbrev aax:=lz->Value->aa->List (Nat×bw)->Bool
def aa2(a:Cx)(d:Nat->Nat->Bool)(c j:Nat)(o:Oper)(e:Operand->Value)(h:aa)(b:List (Nat×bw))(K:aax):Bool:=
 Option.rec (motive:=λ_=>Bool) (Option.rec (motive:=λ_=>Bool) (Option.rec (motive:=λ_=>Bool)
   (nH c (b.filter λp=>d j p.1) h λh=>Mg a.bad (cL a.P fZ e o h) h λv g=>K (.qc v g) v g (b.filter λp=> !d j p.1))
   (λd=>Prod.rec (motive:=λ_=>Bool) (λB f=>IA B λB=>lC (f (c+j)) λv=>K (.alloc B v) v h ((j,B)::b)) d) (aT a.P e o))
  (λv=>lC v λv=>K (.read v) v h b) (bj a.P e o h)) (λv=>lC v λv=>K (.pure v) v h b) (aZ a.P e o)
def SR(c:Cx)(e:Nat->Nat->Bool)(b j:Nat)(o:Oper)(d:Operand->Value)(h:aa)(a:List (Nat×bw))(K:aax):Bool:=
 ZN.rec (motive:=λ_=>Bool) (opF o.op c o d h λv _=>K (.pure v) v h a) (opF o.op c o d h λv _=>K (.read v) v h a)
  (nH b (a.filter λp=>e j p.1) h λh=>opF o.op c o d h λv f=>K (.qc v f) v f (a.filter λp=> !e j p.1))
  (aa2 c e b j o d h a K) (Po o.op)
abbrev Fl:=Oper×Env×lz
def jm(c:Cx)(n:Array Oper)(q:Nat->Nat->Bool)(k:Nat)(l:List Oper):Nat->Env->aa->List (Nat×bw)->(List Fl->Env->aa->List (Nat×bw)->Bool)->Bool:=
 List.rec (motive:=λ_=>Nat->Env->aa->List (Nat×bw)->(List Fl->Env->aa->List (Nat×bw)->Bool)->Bool) (λ_ e h b K=>K [] e h b)
  (λo _ p j e h b K=>CL n e c.bad o.guard
   (SR c q k j o (NO c.gl e) h b λm v h b=>sG c.n o.dst e v λf=>p (j+1) f h b λa i g d=>K ((o,e,m)::a) i g d)
   (sG c.n o.dst e undef λf=>p (j+1) f h b λa i g d=>K ((o,e,.skip)::a) i g d)) l
def acU(a:lz)(j:Nat)(r:List (Nat×aa)):List (Nat×aa):=lz.rec (motive:=λ_=>List (Nat×aa)) r (λ_=>r) (λ_=>r) (λ_ _=>r) (λ_ h=>(j,h)::r) a
def D9(l:List Fl):Nat->List (Nat×aa):=List.rec (motive:=λ_=>Nat->List (Nat×aa)) (λ_=>[]) (λx _ a j=>acU x.2.2 j (a (j+1))) l
def xj(b:Nat->Nat->Bool)(l:List (Nat×aa)):Option Nat->Bool:=
 List.rec (motive:=λ_=>Option Nat->Bool) (λ_=>true) (λx _ a p=>Option.rec (motive:=λ_=>Bool) (a (some x.1)) (λp=>fJ (b x.1 p) (a (some x.1)) false) p) l
def ES(P:Program)(o:Oper)(a:Operand->Value)(v:Value)(h:aa):Bool:=Option.rec (motive:=λ_=>Bool) false (λv'=>cZ 4 v v') (bj P a o h)
def Ak(P:Program)(b:Nat->Nat->Bool)(j:Nat)(o:Oper)(c:Operand->Value)(v:Value)(e:List (Nat×aa)):aa->Bool->Bool:=
 List.rec (motive:=λ_=>aa->Bool->Bool) (λh a=>fJ a true (ES P o c v h))
  (λx _ d h a=>fJ (fJ (fJ a (Nat.blt j x.1) false) true (fJ (b j x.1) true (ES P o c v h))) (fJ (b x.1 j) true (d x.2 (Nat.blt x.1 j))) false) e
def aan(b:Cx)(c:Nat->Nat->Bool)(h:aa)(d:List (Nat×aa))(j:Nat)(o:Oper)(e:Env)(a:lz)(r:Bool):Bool:=
 lz.rec (motive:=λ_=>Bool) r (λ_=>r) (λv=>fJ (Ak b.P c j o (NO b.gl e) v d h true) r false) (λ_ _=>r) (λ_ _=>r) a
def GU(b:Cx)(a:Nat->Nat->Bool)(h:aa)(d:List (Nat×aa))(l:List Fl):Nat->Bool:=
 List.rec (motive:=λ_=>Nat->Bool) (λ_=>true) (λx _ c j=>aan b a h d j x.1 x.2.1 x.2.2 (c (j+1))) l
def Ij(d:Cx)(b:Array Oper)(c:Nat->Nat->Bool)(e:Env)(h:aa)(K:Env->aa->Bool):Bool:=
 iN (h.next+b.size) λg=>jm d b c h.next b.toList 0 e ⟨g,h.t⟩ [] λa i f j=>
  fJ (fJ (xj c (D9 a 0) none) (GU d c ⟨g,h.t⟩ (D9 a 0) a 0) false) (nH h.next j f λf=>K i f) d.bad
abbrev kH:=Cx->Env->aa->(Exit->Env->aa->Bool)->Bool
def jr(e:Exit)(b:Bool)(c:Nat->Bool)(a:Bool):Bool:=Exit.rec (motive:=λ_=>Bool) b c (λ_=>a) a (λ_=>a) a e
def aae:kH:=λ_ e h K=>K .normal e h
def aeF(a b:kH):kH:=λc e h K=>a c e h λx e h=>jr x (b c e h K) (λd=>K (.exit d) e h) (K x e h)
def ada(c:Operand)(a b:kH):kH:=λd e h K=>yJ (NO d.gl e c) d.bad λt=>fJ t (a d e h K) (b d e h K)
def abc(d:Nat)(a:kH):kH:=λc e h K=>a c e h λx e h=>jr x (K .normal e h) (λb=>fJ (Nat.beq b d) (K .normal e h) (K (.exit b) e h)) (K x e h)
def ade(a:kH):kH:=λb e h K=>
 Nat.rec (motive:=λ_=>Env->aa->Bool) (λ_ _=>b.bad) (λ_ d e h=>a b e h λx e h=>jr x (d e h) (λc=>K (.exit c) e h) (K x e h)) b.N e h
def adb(a:Nat):kH:=λ_ e h K=>K (.exit a) e h
def aeE:kH:=λ_ e h K=>K .ret e h
def abb:kH:=λa _ _ _=>a.bad
def tmF(e:Env)(n:Nat):Nat->(List Value->Bool)->Bool:=Nat.rec (motive:=λ_=>Nat->(List Value->Bool)->Bool) (λ_ K=>K []) (λ_ a i K=>lC (Env.get i e) λv=>a (i+1) λl=>K (v::l)) n
def yQ(l:List Value):Nat->Env->(Env->Bool)->Bool:=List.rec (motive:=λ_=>Nat->Env->(Env->Bool)->Bool) (λ_ e K=>K e) (λv _ a i e K=>lC v λv=>Env.put i e v λe=>a (i+1) e K) l
def fHT(t:HT):(HT->Bool)->Bool:=HT.rec (motive:=λ_=>(HT->Bool)->Bool) (λK=>K .nil) (λv _ _ b a K=>b λl=>a λr=>Option.rec (motive:=λ_=>Bool) (K (.node none l r)) (λB=>IA B λB=>K (.node (some B) l r)) v) t
def WR(a:Cx)(b:Array Oper)(e:Env)(h:aa)(K:Env->aa->Bool):Bool:=
 tmF e a.n 0 λl=>Option.rec (motive:=λ_=>Bool) a.bad (λr=>fJ (Nat.beq r.1.length a.n) (yQ r.1 0 Bc λe=>iN r.2.next λc=>fHT r.2.t λt=>K e ⟨c,t⟩) a.bad) (vc a.P a.gl b (cE (fi b)) l h)
def Yo(_:Nat)(a:Array Oper)(c:Bool):kH:=λb e h K=>fJ c (fJ (tF a) (WR b a e h λe h=>K .normal e h) (Ij b a (cE (fi a)) e h λe h=>K .normal e h)) (Jq b a a.toList e h λe h=>K .normal e h)
def okF(c a:Code)(d:Bool)(K:jM c a=true->Bool):Bool:=Bool.rec (motive:=λb=>jM c a=b->Bool) (λ_=>d) K (jM c a) rfl
def qf(b:Option bw)(a:Bool)(K:Wx->List Value->List Tmp->(d c:Code)->jM d c=true->Bool):Bool:=
 Option.rec (motive:=λ_=>Bool) a (λb=>bw.rec (motive:=λ_=>Bool) (λ_ _ _ _=>a) (λ_=>a) K b) b
def N2(c:Wx)(a:Bool)(K:Exit->Bool):Bool:=Wx.rec (motive:=λ_=>Bool) (K .normal) a (K .ret) (λb=>K (.exit b)) c
def Cr(b:Wx)(a x:Bool):Bool:=Wx.rec (motive:=λ_=>Bool) x a a (λ_=>a) b
def TR(x:Exit)(a:Bool)(K:Bool->Wx->Bool):Bool:=Exit.rec (motive:=λ_=>Bool) (K true .ready) (λb=>K false (.exit b)) (λ_=>a) (K false .ret) (λ_=>a) a x
def UK(n:Nat)(l:List (Tmp×Value)):Env->(Env->Bool)->Bool:=List.rec (motive:=λ_=>Env->(Env->Bool)->Bool) (λe K=>K e) (λp _ a e K=>sG n (some p.1) e p.2 λe=>a e K) l
def LG(f:Operand)(o:Array Tmp)(d c:Code):kH:=λa e h K=>funcF (NO a.gl e f) a.bad λk first b=>fnF k a.bad (λg=>okF d c a.bad λp=>fJ (Nat.blt g YB) (fJ (qF a.P g)
 (tmF e a.n 0 λl=>xq (first.toList++[.func (.yield h.next) #[] #[]]++b.toList) λj=>uo (.loop .ready l o.toList d c p) h λm=>a.cf g j m λ_ i=>
  qf (i.get h.next) a.bad λn _ _ _ _ _=>N2 n a.bad λx=>HT.oz none (pathOf h.next) i.t λt=>K x e ⟨i.next,t⟩) a.bad) a.bad) (λ_=>a.bad)
def codeF(c:Code):kH:=
 Code.rec (motive:=λ_=>kH) aae Yo (λ_ _=>aeF) (λc _ _=>ada c) (λd _=>abc d) (λ_=>ade) (λf e b a _ _=>LG f e b a) adb (λ_ _=>abb) (λ_=>aae) (λ_=>abb) aeE (λ_=>abb) c
def JK(P:Program)(e:Env)(h:aa)(c:Bool)(l:List ResultVar):(List Value->Bool)->Bool:=
 List.rec (motive:=λ_=>(List Value->Bool)->Bool) (λK=>K []) (λr _ d K=>ResultVar.rec (motive:=λ_=>Bool) (λt=>lC (Env.get t e) λv=>d λb=>K (v::b)) (λa t=>De c (ae P t h (Env.get a e)) λv=>d λb=>K (v::b)) r) l
def Zb(x:Exit)(a r:Bool):Bool:=Exit.rec (motive:=λ_=>Bool) r (λ_=>a) (λ_=>a) r (λ_=>a) a x
def Hr(z:Nat->Cx)(a:Bool)(k:Nat)(c:List Value)(h:aa)(K:Value->aa->Bool):Bool:=
 qf (h.get k) a λC u B q g _=>Cr C a (fJ (Nat.beq c.length B.length) (iN u.length λn=>fJ (Nat.ble n 256)
  (yQ u 0 Bc λe=>UK n (B.zip c) e λe=>codeF q (z n) e h λx e i=>jr x
   (qf (i.get k) a λy p w l d v=>Cr y a (HT.oz (some (.loop .busy p w l d v)) (pathOf k) i.t λt=>codeF g (z n) e ⟨i.next,t⟩ λx _ j=>
    qf (j.get k) a λ_ r s m f A=>TR x a λb o=>HT.oz (some (.loop o r s m f A)) (pathOf k) j.t λt=>K (.bool b) ⟨j.next,t⟩))
   (λ_=>a) a) a) a)
abbrev pY:=(FuncId->List Value->aa->(Value->aa->Bool)->Bool)->List Value->aa->(Value->aa->Bool)->Bool
def sS(P:Program)(j:Nat->Bool)(o:FuncId->Option (pY))(a:Bool)(i:Nat):FuncId->List Value->aa->(Value->aa->Bool)->Bool:=
 Nat.rec (motive:=λ_=>FuncId->List Value->aa->(Value->aa->Bool)->Bool) (λ_ _ _ _=>a)
  (λn g f b h K=>fJ (Nat.ble YB f) (iN (f-YB) λk=>Hr (λm=>⟨P,j,g,n,m,a⟩) a k b h K) (Option.rec (motive:=λ_=>Bool)
   (De a (P.funcs[f]?) λd=>De a d.body λc=>fJ (Nat.ble d.ntmps 256&&Nat.ble b.length d.ntmps)
    (yQ b 0 Bc λe=>codeF c ⟨P,j,g,n,d.ntmps,a⟩ e h λx e h=>Zb x a (JK P e h a d.results.toList λl=>K (cm l) h)) a)
   (λp=>p g b h K) (o f))) i
end
end
end Go.Ab
end
section
namespace Go.Ab
variable{v:Value}{V:Array Value}{A:Type}
section
theorem HT.get_nil:∀p,HT.get p .nil=none
 |.e=>rfl
 |.l _=>rfl
 |.r _=>rfl
theorem HT.dd(b:Option bw):∀(p:Fk)(t:HT),HT.get p (HT.set b p t)=b
 |.e,.nil=>rfl
 |.e,.node .. =>rfl
 |.l p,.nil=>HT.dd b p .nil
 |.l p,.node _ l _=>HT.dd b p l
 |.r p,.nil=>HT.dd b p .nil
 |.r p,.node _ _ r=>HT.dd b p r
theorem HT.bU(b:Option bw):∀(p q:Fk)(t:HT),q≠p->HT.get q (HT.set b p t)=HT.get q t
 |.e,.e,_,h=>absurd rfl h
 |.e,.l q,.nil,_=>HT.get_nil q
 |.e,.r q,.nil,_=>HT.get_nil q
 |.e,.l _,.node ..,_=>rfl
 |.e,.r _,.node ..,_=>rfl
 |.l p,.e,.nil,_=>rfl
 |.l p,.e,.node ..,_=>rfl
 |.l p,.l q,.nil,h=>(HT.bU b p q .nil (λe=>h (by rw[e]))).trans (HT.get_nil q)
 |.l p,.l q,.node _ l _,h=>HT.bU b p q l (λe=>h (by rw[e]))
 |.l p,.r q,.nil,_=>HT.get_nil q
 |.l p,.r q,.node ..,_=>rfl
 |.r p,.e,.nil,_=>rfl
 |.r p,.e,.node ..,_=>rfl
 |.r p,.r q,.nil,h=>(HT.bU b p q .nil (λe=>h (by rw[e]))).trans (HT.get_nil q)
 |.r p,.r q,.node _ _ r,h=>HT.bU b p q r (λe=>h (by rw[e]))
 |.r p,.l q,.nil,_=>HT.get_nil q
 |.r p,.l q,.node ..,_=>rfl
def Fk.num:Fk->Nat
 |.e=>0
 |.l p=>2*p.num+1
 |.r p=>2*p.num+2
theorem Ey:∀(f n:Nat),n<f->(Ce f n).num=n
 |0,_,h=>absurd h (by omega)
 |f+1,0,_=>rfl
 |f+1,k+1,h=>by
  have c:=Ey f (k/2) (by omega);have b:Ce (f+1) (k+1)=Nat.rec (motive:=λ_=>Fk) (.l (Ce f (k/2))) (λ_ _=> .r (Ce f (k/2))) (k%2):=rfl;rw[b];rcases Nat.mod_two_eq_zero_or_one k with a|a
  ·rw[a];show 2*(Ce f (k/2)).num+1=k+1;omega
  ·rw[a];show 2*(Ce f (k/2)).num+2=k+1;omega
theorem Me(n:Nat):(pathOf n).num=n:=Ey (n+1) n (by omega)
theorem xQ{k j:Nat}(h:j≠k):pathOf j≠pathOf k:=λe=>h (by grind[Me])
section
variable (h:aa) (k j:Nat) (b:bw)
theorem aa.dd:(h.set k b).get k=some b:=HT.dd _ _ _
theorem aa.bU(a:j≠k):(h.set k b).get j=h.get j:=HT.bU _ _ _ _ (xQ a)
theorem aa.FY:(h.del k).get k=none:=HT.dd _ _ _
theorem aa.Lz(a:j≠k):(h.del k).get j=h.get j:=HT.bU _ _ _ _ (xQ a)
theorem aa.gf:(h.push b).get h.next=some b:=HT.dd _ _ _
theorem aa.gT(a:j≠h.next):(h.push b).get j=h.get j:=HT.bU _ _ _ _ (xQ a)
@[simp] theorem aa.ads:(h.set k b).next=h.next:=rfl
@[simp] theorem aa.adr:(h.del k).next=h.next:=rfl
@[simp] theorem aa.acg:(h.push b).next=h.next+1:=rfl
theorem aa.aw:(h.set k b).get j=if j=k then some b else h.get j:=by
 split
 ·next e=>subst e;exact h.dd j b
 ·next e=>exact h.bU k j b e
theorem aa.dt:(h.del k).get j=if j=k then none else h.get j:=by
 split
 ·next e=>subst e;exact h.FY j
 ·next e=>exact h.Lz k j e
theorem aa.aM:(h.push b).get j=if j=h.next then some b else h.get j:=by
 split
 ·next e=>subst e;exact h.gf b
 ·next e=>exact h.gT j b e
end
structure Slot where
 b:Nat
 s:Nat
 n:Nat
 t:TypeId
 sz:Nat
 isMap:Bool
abbrev cO:=Nat->Option Slot
def cO.le(c a:cO):Prop:=∀k b,c k=some b->a k=some b
theorem cO.le_refl(a:cO):a.le a:=λ_ _ h=>h
theorem cO.le_trans{a b c:cO}(h:a.le b)(e:b.le c):a.le c:=λk d f=>e k d (h k d f)
def Yk:Fn->Bool
 |.yield _=>true
 |_=>false
inductive aB(β:cO):Value->Value->Prop where
 |jE (v:Value):aB β (.chan (some 0)) v
 |bool (b:Bool):aB β (.bool b) (.bool b)
 |int (k:IntKind) (n:Int):aB β (.int k n) (.int k n)
 |float (k:FloatKind) (n:Nat):aB β (.float k n) (.float k n)
 |complex (k:FloatKind) (m n:Nat):aB β (.complex k m n) (.complex k m n)
 |string (s:ByteArray):aB β (.string s) (.string s)
 |nilPtr:aB β (.pointer none) (.pointer none)
 |ptr {k i:Nat} {sl:Slot} (h:β k=some sl) (hm:sl.isMap=false):aB β (.pointer (some ⟨k,i,none⟩)) (.pointer (some ⟨sl.b,sl.s+i,none⟩))
 |kT:aB β (.slice none 0 0) (.slice none 0 0)
 | slice {k i n c i' c':Nat} {sl:Slot} (h:β k=some sl) (hm:sl.isMap=false) (hx:c<ca->c'=c) (ho:ca<=c->c-ca<=c') (hn:n<=aV c)
   (hi:i'=sl.s+i\/(n=0/\c'=0)) (hz:sl.sz=0\/i'+c'*sl.sz<=sl.n):aB β (.slice (some ⟨k,i,none⟩) n c) (.slice (some ⟨sl.b,i',none⟩) n c')
 |dead (a:Addr):aB β (.slice (some ⟨0,0,some 0⟩) 0 0) (.slice (some a) 0 0)
 |Mb:aB β (.map none) (.map none)
 |map {k:Nat} {sl:Slot} (h:β k=some sl) (hm:sl.isMap=true):aB β (.map (some k)) (.map (some sl.b))
 | func {fn:Fn} {a a' c c':Array Value} (hy:Yk fn=false) (ha:a.size=a'.size) (hc:c.size=c'.size) (ra:∀(i:Nat) v v',a[i]?=some v->a'[i]?=some v'->aB β v v')
   (rc:∀(i:Nat) v v',c[i]?=some v->c'[i]?=some v'->aB β v v'):aB β (.func fn a c) (.func fn a' c')
 |yield {k:Nat} {sl:Slot} (h:β k=some sl) {a c:Array Value} (ha:a.size=0) (hc:c.size=0):aB β (.func (.yield k) a c) (.func (.yield sl.b) a c)
 |nilFunc:aB β .nilFunc .nilFunc
 |iface (t:TypeId) {v v':Value} (h:aB β v v'):aB β (.iface t v) (.iface t v')
 |nilIface:aB β .nilIface .nilIface
 |agg {a a':Array Value} (hs:a.size=a'.size) (h:∀(i:Nat) v v',a[i]?=some v->a'[i]?=some v'->aB β v v'):aB β (.agg a) (.agg a')
 |tuple {a a':Array Value} (hs:a.size=a'.size) (h:∀(i:Nat) v v',a[i]?=some v->a'[i]?=some v'->aB β v v'):aB β (.tuple a) (.tuple a')
theorem aB.mono{p g:cO}(d:p.le g){v v':Value}(h:aB p v v'):aB g v v':=by
 induction h with
 |jE v=>exact .jE v
 |bool b=>exact .bool b
 |int k n=>exact .int k n
 |float k n=>exact .float k n
 |complex k m n=>exact .complex k m n
 |string s=>exact .string s
 |nilPtr=>exact .nilPtr
 |ptr h e=>exact .ptr (d _ _ h) e
 |kT=>exact .kT
 |slice h e r y q x z=>exact .slice (d _ _ h) e r y q x z
 |dead a=>exact .dead a
 |Mb=>exact .Mb
 |map h e=>exact .map (d _ _ h) e
 |yield h l o=>exact .yield (d _ _ h) l o
 |func A l o _ _ w u=>exact .func A l o (λi v v' h c=>w i v v' h c) (λi v v' h c=>u i v v' h c)
 |nilFunc=>exact .nilFunc
 |iface t _ f=>exact .iface t f
 |nilIface=>exact .nilIface
 |agg j _ f=>exact .agg j λi v v' h c=>f i v v' h c
 |tuple j _ f=>exact .tuple j λi v v' h c=>f i v v' h c
theorem aB.undef(a:cO):aB a undef undef:= .tuple rfl (λi v v' h=>by grind)
theorem aB.vS{a:cO}(h:bare v=true):aB a v v:=by
 unfold bare at h;split at h<;>first
  |exact .bool _|exact .int _ _|exact .float _ _|exact .complex _ _ _|exact .string _|exact .nilPtr|exact .kT|exact .Mb|exact .nilFunc|exact .nilIface
  |cases h
theorem aB.qU{a:cO}{cs:Array Value}(h:cs.toList.all bare=true)(i:Nat)(v v':Value)(b:cs[i]?=some v)(c:cs[i]?=some v'):aB a v v':=by grind[vS]
theorem aB.mJ{c:cO}(h:plain v=true):aB c v v:=by
 unfold plain at h;split at h
 ·exact .agg rfl (aB.qU h)
 ·refine .tuple rfl λi v v' a b=>?_;rw[a]at b;obtain rfl:=oI b;rw[<-getElem?_toList]at a;have:=all_eq_true.1 h v (List.mem_of_getElem? a);split at this
  ·exact .agg rfl (aB.qU this)
  ·exact .vS this
 grind[vS]
def gM(c:cO)(a b:Array Value):Prop:=a.size=b.size/\∀(i:Nat) v v',a[i]?=some v->b[i]?=some v'->aB c v v'
def aW(a:cO)(l l':List Value):Prop:=l.length=l'.length/\∀(i:Nat) v v',l[i]?=some v->l'[i]?=some v'->aB a v v'
theorem gM.toList{b:cO}{a:Array Value}:gM b a V↔aW b a.toList V.toList:=by simp[gM,aW]
theorem aW.nil(a:cO):aW a [] []:=⟨rfl,λi v v' h=>by grind⟩
theorem aW.cons{b:cO}{v v':Value}{l l':List Value}(h:aB b v v')(c:aW b l l'):aW b (v::l) (v'::l'):=
 ⟨by simp[c.1],λi a d e f=>by
  cases i with
  |zero=>grind
  |succ i=>exact c.2 i a d (by grind) (by grind)⟩
theorem aW.head{a:cO}{v':Value}{l l':List Value}(h:aW a (v::l) (v'::l')):aB a v v':=h.2 0 v v' rfl rfl
theorem aW.tail{b:cO}{v':Value}{l l':List Value}(h:aW b (v::l) (v'::l')):aW b l l':=
 ⟨by have:=h.1;grind,λi a c d e=>h.2 (i+1) a c (by grind) (by grind)⟩
theorem aW.dN{a:cO}{l:List Value}(h:aW a [] l):l=[]:=List.eq_nil_of_length_eq_zero h.1.symm
theorem aW.cA{a:cO}{l l':List Value}(h:aW a (v::l) l'):∃v' r,l'=v'::r/\aB a v v'/\aW a l r:=by
 cases l' with
 |nil=>have:=h.1;grind
 |cons v' r=>exact⟨v',r,rfl,h.head,h.tail⟩
theorem aW.mono{c a:cO}(b:c.le a){l l':List Value}(h:aW c l l'):aW a l l':=⟨h.1,λi v v' d e=>(h.2 i v v' d e).mono b⟩
theorem aW.append{e:cO}:∀{a c b d:List Value},aW e a c->aW e b d->aW e (a++b) (c++d)
 |[],c,b,d,h,f=>by rw[h.dN];grind
 |v::a,c,b,d,h,f=>by
  obtain⟨v',r,rfl,g,i⟩:=h.cA;exact .cons g (i.append f)
theorem aW.map{b:cO}(l:List A){f a:A->Value}(h:∀x∈l,aB b (f x) (a x)):aW b (l.map f) (l.map a):=
 ⟨by simp,λi v v' c d=>by grind⟩
theorem aB.MC{b:cO}{v':Value}(h:aB b v v')(a:bc v=true):v'.oneCell'=true/\v.cells = #[v]/\v'.cells = #[v']:=by
 cases h<;>first|(simp[bc]at a;done)|exact⟨rfl,rfl,rfl⟩
theorem aB.cells{d:cO}{v':Value}(h:aB d v v')(g:v≠Ab.jE):gM d v.cells v'.cells:=by
 cases h with
 |jE=>grind
 |agg e h=>exact⟨e,h⟩
 |_=>
  refine⟨rfl,λi a f b c=>?_⟩
  cases i with
  |zero=>simp[Value.cells]at b c;subst b;subst c;constructor<;>assumption
  |succ i=>simp[Value.cells]at b
end
end Go.Ab
end
section
namespace Go.Ab
open Go
variable{z:Int}{b:Bool}{k:Nat}{i:Nat}{v:Value}{n:Nat}{V:Array Value}{c:List Value}{u:IntKind}{w:Value}{T:TypeId}
section
variable {β:cO} {P:Program}
theorem aB.cX{k:IntKind}{v':Value}(h:aB β (.int k z) v'):v' = .int k z:=by cases h;rfl
theorem aB.jv{v':Value}(h:aB β (.bool b) v'):v' = .bool b:=by cases h;rfl
theorem aB.ew{s:ByteArray}{v':Value}(h:aB β (.string s) v'):v' = .string s:=by cases h;rfl
theorem aB.rW{v':Value}(h:aB β (.pointer (some ⟨k,i,none⟩)) v'):∃a,β k=some a/\a.isMap=false/\v' = .pointer (some ⟨a.b,a.s+i,none⟩):=by
  cases h with
  |ptr h b=>grind
theorem aB.nz{a:Addr}{v':Value}(h:aB β (.pointer (some a)) v'):∃b,β a.block=some b/\b.isMap=false/\a.spot=none/\v' = .pointer (some ⟨b.b,b.s+a.off,none⟩):=by
  cases h with
  |ptr h c=>grind
theorem aB.lQ{a:Array Value}{v':Value}(h:aB β (.agg a) v'):∃b,v' = .agg b/\gM β a b:=by
  cases h with
  |agg c h=>exact⟨_,rfl,c,h⟩
theorem aB.rX{a:Array Value}{v':Value}(h:aB β (.tuple a) v'):∃b,v' = .tuple b/\gM β a b:=by
  cases h with
  |tuple c h=>exact⟨_,rfl,c,h⟩
theorem aB.PV{t:TypeId}{v':Value}(h:aB β (.iface t v) v'):∃u,v' = .iface t u/\aB β v u:=by
  cases h with
  |iface _ h=>grind
theorem aB.Gd{v':Value}(h:aB β .nilIface v'):v' = .nilIface:=by cases h;rfl
theorem aB.eM{c:Nat}{v':Value}(h:aB β (.slice none n c) v'):n=0/\c=0/\v' = .slice none 0 0:=by cases h;grind
theorem aB.Gc{v':Value}(h:aB β (.map (some k)) v'):∃a,β k=some a/\a.isMap=true/\v' = .map (some a.b):=by
  cases h with
  |map h b=>grind
theorem aB.BF{v':Value}(h:aB β (.map none) v'):v' = .map none:=by cases h;rfl
theorem aB.LD{v':Value}(h:aB β (.pointer none) v'):v' = .pointer none:=by cases h;rfl
theorem aB.fk{c:Nat}{v':Value}(h:aB β (.slice (some ⟨k,i,none⟩) n c) v'):∃a d b,β k=some a/\a.isMap=false/\(none:Option Nat)=none/\v' = .slice (some ⟨a.b,d,none⟩) n b/\
    (c<ca->b=c)/\(ca<=c->c-ca<=b)/\n<=aV c/\(d=a.s+i\/(n=0/\b=0))/\(a.sz=0\/d+b*a.sz<=a.n):=by
  cases h with
  |slice h f g l e j m=>grind
theorem aB.tQ{a:Addr}{c:Nat}{v':Value}(h:aB β (.slice (some a) n c) v'):(∃k i,a=⟨k,i,none⟩)\/(a=⟨0,0,some 0⟩/\n=0/\c=0/\∃b,v' = .slice (some b) 0 0):=by
  cases h with
  |slice h e f j d g l=>grind
  |dead a=>grind
theorem aB.IU{a:Addr}{c:Nat}{v':Value}(h:aB β (.slice (some a) n c) v'):∃d b,v' = .slice (some d) n b:=by
  cases h with
  |slice h f g j e i k=>grind
  |dead a=>grind
theorem gM.get{a:Array Value}(h:gM β a V){i:Nat}{v:Value}(c:a[i]?=some v):∃v',V[i]?=some v'/\aB β v v':=by
  have d:i<a.size:=(Array.getElem?_eq_some_iff.1 c).1;have b:i<V.size:=h.1▸d;exact⟨V[i],getElem?_eq_getElem b,h.2 i v _ c (getElem?_eq_getElem b)⟩
theorem aW.get{a:List Value}(h:aW β a c){i:Nat}{v:Value}(d:a[i]?=some v):∃v',c[i]?=some v'/\aB β v v':=by
  have e:i<a.length:=(List.getElem?_eq_some_iff.1 d).1;have b:i<c.length:=h.1▸e;exact⟨c[i],gE b,h.2 i v _ d (gE b)⟩
theorem aF{t:TypeId}{d:TypeDesc}(h:P.underlying t=some d)(w:World):(underlying t).run P w = .ok d w:=run_underlying h w
theorem rm{t:TypeId}{i:TypeInfo}(h:P.info? t=some i)(w:World):(typeInfo t).run P w = .ok i w:=by simp[typeInfo,h]
theorem lX{t:TypeId}(h:au P t=some n):∃i,P.info? t=some i/\i.size=n:=by simp_all[au]
theorem de{t:TypeId}(h:au P t=some n)(w:World):(sizeOf t).run P w = .ok n w:=by
  obtain⟨i,a,rfl⟩:=lX h;simp[sizeOf,rm a]
theorem eh{t:TypeId}{z:Value}(h:zeroOf P t=some z):plain z=true/\∃i,P.info? t=some i/\i.zero=some z:=by
  unfold zeroOf at h
  grind
theorem mP{t:TypeId}{z:Value}(h:zeroOf P t=some z)(w:World):(zeroValue t).run P w = .ok z w:=by
  obtain⟨_,i,a,b⟩:=eh h
  simp_all[rm,zeroValue]
theorem sf{t:TypeId}{d:TypeDesc}(h:P.underlying t=some d)(w:World):(Go.isAgg t).run P w = .ok (Ab.isAgg P t) w:=by
  simp only[Go.isAgg,run_bind,aF h,andThen_ok,Ab.isAgg,h]
  cases d<;>rfl
theorem AT:∀x y:List UInt8,oS x y=Op.bytesLess x y
  |[],[]=>rfl
  |_::_,[]=>rfl
  |[],_::_=>rfl
  |a::x,b::y=>by simp[oS,Op.bytesLess,AT x y]
theorem Sn{a b:ByteArray}(h:a.data.toList=b.data.toList):a=b:=by
  cases a;simp_all
theorem Qh(a b:ByteArray):(⟨(a.data.toList++b.data.toList).toArray⟩:ByteArray)=a++b:=by rfl
theorem Rm{a:BinOp}{x y:ByteArray}(h:OF a x.data.toList y.data.toList=some v)(w:World):(Op.stringOp a x y).run P w = .ok v w:=by
  unfold OF at h;unfold Op.stringOp;simp only[ByteArray.toList_eq]
  cases a<;>simp only[]at h<;>first
    |(simp only[Option.some.injEq]at h;subst h;simp[AT];done)
    |(cases h;done)
    |skip
  split at h
  · next b=>
    obtain rfl:=oI h;simp only[run_ite,run_unsupported,Sem.run_pure];rw[if_neg]
    · simp only[strOf,Qh]
    · have c:x.data.toList.length=x.size:=by simp
      have d:y.data.toList.length=y.size:=by simp
      rw[c,d]at b;have:IntKind.i64.max=9223372036854775807:=by decide
      omega
  grind
theorem PU{c:BinOp}{t:TypeId}{k:IntKind}{a b:Int}(h:ay P c t (.int k a) (.int u b)=some v)(w:World):(binOp c t (.int k a) (.int u b)).run P w = .ok v w:=by
  simp only[ay]at h;unfold binOp
  cases c<;>simp only[]at h<;>first
    | (split at h
       · next d=>
         obtain rfl:=oI h;simp only[Op.shift,run_ite];rw[if_neg (by omega)];rfl
       grind)
    | (split at h
       · next e=>
         subst e;simp only[ne_eq,not_true_eq_false,if_false]
         first
           |(obtain rfl:=oI h;rfl)
           | (split at h
              · cases h
              · next d=>obtain rfl:=oI h;simp[Op.intDiv,d])
           |(obtain⟨r,hr,rfl⟩:=map_eq_some_iff.1 h;exact intCmp_sim hr w)
       · cases h)
theorem D2(a b:ByteArray):(a.data.toList==b.data.toList)=(a==b):=by grind[beq_toListBytes,ByteArray.toList_eq]
theorem Bg{x:Value}{t:TypeId}(a:Bf P t x v=some b)(d:Nat)(w:World):(Op.equalIn (d+1) t x v).run P w = .ok b w:=by
  unfold Bf at a
  grind[run_equalIn_bool',run_equalIn_int,run_equalIn_string,ByteArray.toList_eq]
theorem yM{x:Value}{t:TypeId}(a:Bf P t x v=some b):∃d,P.underlying t=some d/\isAgg P t=false:=by
  unfold Bf at a
  grind[isAgg]
theorem wj{t:TypeId}{d:TypeDesc}(c:P.underlying t=some d)(e:isAgg P t=false){cs:Array Value}{a:Nat}{v:Value}(b:cs[a]?=some v)(w:World):(part t cs a).run P w = .ok v w:=by simp_all[sf,part]
theorem Bi{c e:Array Value}(d:Nat)(w:World):∀(a:List Field)(i:Nat)(l m:List Value){b:Bool},c.toList.drop i=l->e.toList.drop i=m->jL P a i l m=some b->
    (Op.eqFields (d+1) c e a).run P w = .ok b w
  |[],_,_,_,b,_,_,h=>by simp only[jL]at h;obtain rfl:=oI h;rfl
  |f::a,i,[],_,b,_,_,h=>by grind[jL]
  |f::a,i,_::_,[],b,_,_,h=>by grind[jL]
  | f::a,i,x::l,y::m,b,o,n,h=>by
    simp only[jL]at h;split at h
    · next z=>
      obtain⟨s,u⟩:=z;have p:c[f.offset]?=some x:=by
        have:(c.toList.drop i)[0]?=some x:=by rw[o];rfl
        rw[getElem?_drop]at this;rw[s,<-getElem?_toList];simpa using this
      have t:e[f.offset]?=some y:=by
        have:(e.toList.drop i)[0]?=some y:=by rw[n];rfl
        rw[getElem?_drop]at this;rw[s,<-getElem?_toList];simpa using this
      have q:c.toList.drop (i+1)=l:=by rw[<-drop_drop,o];rfl
      have r:e.toList.drop (i+1)=m:=by rw[<-drop_drop,n];rfl
      unfold Op.eqFields;rw[if_pos u];split at h
      · next j=>
        obtain⟨v,g,k⟩:=yM j;simp only[run_bind,wj g k p,wj g k t,andThen_ok,Bg j d];simp only[Bool.not_true,false_eq_true,if_false];exact Bi d w a (i+1) l m q r h
      · next j=>
        obtain⟨v,g,k⟩:=yM j;obtain rfl:=oI h;simp only[run_bind,wj g k p,wj g k t,andThen_ok,Bg j d];rfl
      · cases h
    grind
theorem It{x d:Value}{t:TypeId}(h:Bf P t x v=some b)(a:aB β x w)(c:aB β v d):w=x/\d=v:=by
  unfold Bf at h;split at h
  · exact⟨a.jv,c.jv⟩
  · exact⟨a.cX,c.cX⟩
  · exact⟨a.ew,c.ew⟩
  grind
theorem Bh:∀(a:List Field)(i:Nat){l m l' d:List Value}{b:Bool},jL P a i l m=some b->aW β l l'->aW β m d->jL P a i l' d=some b
  |[],_,_,_,_,_,_,h,_,_=>by grind[jL]
  |f::a,i,[],_,_,_,b,h,_,_=>by grind[jL]
  |f::a,i,_::_,[],_,_,b,h,_,_=>by grind[jL]
  | f::a,i,x::l,y::m,l',d,b,h,o,n=>by
    obtain⟨r,l',rfl,e,g⟩:=o.cA;obtain⟨q,d,rfl,k,j⟩:=n.cA;simp only[jL]at h⊢;split at h
    · next p=>
      rw[if_pos p];split at h
      · next c=>
        obtain⟨rfl,rfl⟩:=It c e k;rw[c];exact Bh a (i+1) h g j
      · next c=>
        obtain⟨rfl,rfl⟩:=It c e k;rw[c];exact h
      · cases h
    grind
theorem ye{t:TypeId}(d:Nat)(c:P.underlying t=some (.pointer T)){n:Nat}(b:au P T=some n)(e:n≠0)(a:Addr)(w:World):
    (Op.equalIn (d+1) t (.pointer (some a)) (.pointer (some a))).run P w = .ok true w:=by
  simp only[Op.equalIn,run_bind,aF c,andThen_ok,de b,run_ite]
  simp_all[sameAddr]
set_option maxHeartbeats 4000000 in
theorem Iv{t:TypeId}{x y p l:Value}{b:Bool}(h:oW P t x y=some b)(f:aB β x p)(g:aB β y l)(w:World)(d:Nat):(Op.equalIn (d+1+1) t p l).run P w = .ok b w:=by
  unfold oW at h;split at h
  · cases f.jv;cases g.jv
    split at h
    · next c=>obtain rfl:=oI h;exact run_equalIn_bool' w (d+1) t _ _ c
    · cases h
  · cases f
    split at h
    · next c=>obtain rfl:=oI h;cases g<;>simp only[Op.equalIn,run_bind,aF c,andThen_ok,Sem.run_pure]<;>rfl
    · cases h
  · cases g
    split at h
    · next c=>obtain rfl:=oI h;cases f<;>simp only[Op.equalIn,run_bind,aF c,andThen_ok,Sem.run_pure]<;>rfl
    · cases h
  · next a r=>
    split at h
    · next e c=>
      split at h
      · next k=>
        obtain rfl:=oI h;obtain⟨rfl,o⟩:=k;obtain⟨B,u,_,_,rfl⟩:=f.nz;obtain⟨A,q,_,_,rfl⟩:=g.nz;rw[u]at q;obtain rfl:=oI q
        cases i:au P e with
        |none=>simp[i]at o
        |some n=>exact ye (d+1) c i (by simpa[i]using o) _ w
      · cases h
    · cases h
  · cases f
    split at h
    · next c=>obtain rfl:=oI h;cases g<;>simp only[Op.equalIn,run_bind,aF c,andThen_ok,Sem.run_pure]<;>rfl
    · cases h
  · cases g
    split at h
    · next c=>obtain rfl:=oI h;cases f<;>simp only[Op.equalIn,run_bind,aF c,andThen_ok,Sem.run_pure]<;>rfl
    · cases h
  · cases f
    split at h
    · next c=>obtain rfl:=oI h;cases g<;>simp only[Op.equalIn,run_bind,aF c,andThen_ok,Sem.run_pure]<;>rfl
    · cases h
  · cases g
    split at h
    · next c=>obtain rfl:=oI h;cases f<;>simp only[Op.equalIn,run_bind,aF c,andThen_ok,Sem.run_pure]<;>rfl
    · cases h
  all_goals first
    | (cases f<;>cases g <;>
       (split at h
        · next c=>obtain rfl:=oI h;simp only[Op.equalIn,run_bind,aF c,andThen_ok,Sem.run_pure]
        · cases h)
       done)
    |skip
  · obtain⟨v,rfl,z⟩:=f.lQ
    obtain⟨r,rfl,s⟩:=g.lQ;split at h
    · next j c=>
      split at h
      · next k=>
        have m:P.fieldsOf t=j:=by simp[Program.fieldsOf,c]
        rw[run_equalIn_struct w (d+1) t v r (by rw[m];exact c) k.1,m];exact Bi d w j.toList 0 _ _ (by simp) (by simp) (Bh j.toList 0 h (gM.toList.1 z) (gM.toList.1 s))
      · cases h
    · cases h
  grind
theorem Pz{t:TypeId}{x a:Value}(h:oW P t x v=some b)(c:aB β x w)(e:aB β v a)(d:World):(Op.equal t w a).run P d = .ok b d:=
  Iv h c e d 9998
theorem Bj{t:TypeId}{x a:Value}(h:oW P t x v=some b)(c:aB β x w)(e:aB β v a)(f:BinOp)(j g:Operand)(d:World):
    (eqGuard f t j g w a).run P d = .ok () d/\(binOp .eql t w a).run P d = .ok (.bool b) d/\(binOp .neq t w a).run P d = .ok (.bool !b) d:=by
  have i:=Pz h c e d;unfold oW at h;split at h
  all_goals first
    |(cases h;done)
    | (obtain⟨l,rfl,n⟩:=c.lQ
       obtain⟨m,rfl,k⟩:=e.lQ;split at h
       all_goals simp_all[run_eqGuard_agg,binOp])
    |(cases c<;>cases e<;>(refine⟨?_,?_,?_⟩<;>first|(simp only[binOp,run_bind,i,andThen_ok,Sem.run_pure];done)|(cases f<;>rfl)))
theorem Pb{c:BinOp}{t:TypeId}{xo yo:Operand}{x g:Value}{m:Value}(h:ay P c t x v=some m)(d:aB β x w)(e:aB β v g)(j:World):
    (do eqGuard c t xo yo w g;binOp c t w g:Sem Value).run P j = .ok m j/\aB β m m:=by
  have o:=h;unfold ay at h;split at h
  · next k a p b=>
    cases d.cX;cases e.cX
    refine⟨?_,?_⟩
    · simp_all[PU,eqGuard]
    · clear o
      cases c<;>simp only[]at h<;>first
        | (split at h
           · first
             |(obtain rfl:=oI h;exact .int _ _)
             |(obtain⟨r,q,rfl⟩:=map_eq_some_iff.1 h;exact .bool _)
             | (split at h
                · cases h
                · obtain rfl:=oI h;exact .int _ _)
           · cases h
           done)
  · next a b=>
    cases d.ew;cases e.ew
    refine⟨?_,?_⟩
    · have i:(eqGuard c t xo yo (.string a) (.string b)).run P j = .ok () j:=by cases c<;>rfl
      grind[run_bind,andThen_ok,Rm,binOp]
    · unfold OF at h
      cases c<;>simp only[]at h<;>first
        |(obtain rfl:=oI h;exact .bool _)
        | (split at h
           · obtain rfl:=oI h;exact .string _
           grind)
        |(cases h;done)
  · cases c<;>simp only[]at h<;>first
      |(cases h;done)
      | (obtain⟨b,f,rfl⟩:=map_eq_some_iff.1 h
         obtain⟨i,l,n⟩:=Bj f d e .eql xo yo j;exact⟨by simp only[run_bind,i,andThen_ok];exact l,.bool _⟩)
      | (obtain⟨b,f,rfl⟩:=map_eq_some_iff.1 h
         obtain⟨i,l,n⟩:=Bj f d e .neq xo yo j;exact⟨by simp_all,.bool _⟩)
theorem V6{b:UnOp}{x:Value}(h:E6 b x=some w)(a:aB β x v)(c:World):(Op.unary b v).run P c = .ok w c/\aB β w w:=by
  unfold E6 at h;split at h
  · cases a.cX;obtain rfl:=oI h;exact⟨rfl,.int _ _⟩
  · cases a.cX;obtain rfl:=oI h;exact⟨rfl,.int _ _⟩
  · cases a.jv;obtain rfl:=oI h;exact⟨rfl,.bool _⟩
  grind
end
variable{A:Type}{W:World}
section
variable {β:cO} {P:Program}
def zD(β:cO)(l l':List (Nat×Value)):Prop:=l.map (·.1)=l'.map (·.1)/\aW β (l.map (·.2)) (l'.map (·.2))
theorem zD.cA{p:Nat×Value}{l l':List (Nat×Value)}(h:zD β (p::l) l'):∃v' r,l'=(p.1,v')::r/\aB β p.2 v'/\zD β l r:=by
 cases l' with
 |nil=>have:=h.1;grind
 |cons q r=>
  obtain⟨b,a⟩:=h;simp only[List.map_cons,List.cons.injEq]at b a;exact⟨q.2,r,by grind,a.head,b.2,a.tail⟩
theorem zD.dN{l':List (Nat×Value)}(h:zD β [] l'):l'=[]:=by
 have:=h.1;simp_all
theorem zD.map(l:List A)(n:A->Nat){f a:A->Value}(h:∀x∈l,aB β (f x) (a x)):zD β (l.map λx=>(n x,f x)) (l.map λx=>(n x,a x)):=
 ⟨by simp,by grind[aW.map]⟩
theorem Qw(h:BV v=true):v≠Ab.jE:=by rintro rfl;cases h
theorem Cw(d:Nat):∀(l l':List Value)(j:Nat)(cs b:Array Value),aW β l l'->gM β cs b->
  gM β ((l.zipIdx j).foldl (λcs (c,j)=>cs.setIfInBounds (d+j) c) cs) ((l'.zipIdx j).foldl (λcs (c,j)=>cs.setIfInBounds (d+j) c) b)
 |[],l',j,cs,b,h,e=>by rw[h.dN];exact e
 | v::l,l',j,cs,b,h,e=>by
  obtain⟨v',r,rfl,o,n⟩:=h.cA;simp only[List.zipIdx_cons,List.foldl_cons];refine Cw d l r (j+1) _ _ n ⟨by simp[e.1],λi a k f g=>?_⟩;rw[Array.getElem?_setIfInBounds]at f g;split at f
  ·grind
  ·next m=>
   rw[if_neg m]at g;exact e.2 i a k f g
theorem vp(a:Nat->Option (Nat×Nat)):∀(l l':List (Nat×Value))(cs c r:Array Value),zD β l l'->(∀p∈l,BV p.2=true)->gM β cs c->Instr.fill a cs l=some r->
  ∃m,Instr.fill a c l'=some m/\gM β r m
 |[],l',cs,c,r,h,_,f,d=>by
  rw[h.dN];simp only[Instr.fill]at d⊢
  grind
 | p::l,l',cs,c,r,h,k,f,d=>by
  obtain⟨v',t,rfl,g,s⟩:=h.cA;obtain⟨i,v⟩:=p;have b:=g.cells (Qw (k _ List.mem_cons_self));simp only[Instr.fill]at d⊢
  cases e:a i with
  |none=>grind
  | some q=>
   obtain⟨j,o⟩:=q;simp only[e]at d⊢;dsimp only at g b;rw[<-b.1,<-f.1];split at d
   ·grind
   ·next n=>
    rw[if_neg n];refine vp a l t _ _ r s (λp e=>k p (List.mem_cons_of_mem _ e)) ?_ d;have:=Cw (β:=β) j v.cells.toList v'.cells.toList 0 cs c (gM.toList.1 b) f
    grind[Array.toList_zipIdx]
theorem gM.qW{z:Value}(h:plain z=true):gM β z.cells z.cells:=by
 have b:aB β z z:= .mJ h;by_cases a:z=Ab.jE
 ·subst a;cases h
 ·exact b.cells a
theorem Pd{t:TypeId}{b parts':List (Nat×Value)}(h:aD P t b=some v)(u:zD β b parts')(w:World):
  ∃v',(Instr.build t parts'.toArray).run P w = .ok v' w/\aB β v v':=by
 unfold aD at h;split at h
 ·next z A=>
  obtain⟨r,i,y,g⟩:=eh A;split at h
  ·next B=>
   obtain⟨cs,a,rfl⟩:=map_eq_some_iff.1 h;have j:∀p∈b,BV p.2=true:=all_eq_true.1 B;have k:=gM.qW (β:=β) r;have m:∃c,P.built t parts'=some c/\gM β cs c:=by
    unfold Program.built at a⊢;simp only[y]at a⊢
    cases s:P.underlying t with
    |none=>simp[s]at a
    | some d=>
     cases d<;>simp only[s]at a⊢<;>try (cases a;done)
     ·next n e=>
      split at a
      ·next l C f q=>
       obtain rfl:z=l:=oI (g.symm.trans f);exact vp _ _ _ _ _ _ u j k a
      ·cases a
     ·next E=>
      split at a
      ·next l D f q=>
       obtain rfl:z=l:=oI (g.symm.trans f);exact vp _ _ _ _ _ _ u j k a
      ·cases a
   obtain⟨c,o,x⟩:=m;exact⟨.agg c,run_build w t parts'.toArray c o,.agg x.1 x.2⟩
  ·cases h
 grind
theorem Jv{t:TypeId}{cs:Array Value}(h:partOf P t cs n=some v)(b:gM β cs V)(w:World):
  ∃v',(part t V n).run P w = .ok v' w/\aB β v v':=by
 unfold partOf at h
 cases f:P.underlying t with
 |none=>grind
 |some d=>
 simp only[f]at h;simp only[part,run_bind,sf f,andThen_ok,run_ite];split at h
 ·next e=>
  obtain⟨m,g,rfl⟩:=map_eq_some_iff.1 h;rw[if_pos e];simp only[de g,andThen_ok,Sem.run_pure];refine⟨_,rfl,.agg (by simp[b.1]) λi v v' a c=>?_⟩;simp only[Array.getElem?_extract]at a c;rw[b.1]at a;split at a
  ·next j=>
   rw[if_pos j]at c;exact b.2 _ v v' a c
  grind
 ·next e=>
  rw[if_neg e];obtain⟨v',k,l⟩:=b.get h
  simp_all
theorem Ic{d:TypeId}{x:Value}(h:eK P T d x=some w)(c:aB β x v)(g:World):(convert T d v).run P g = .ok w g/\aB β w w:=by
 unfold eK at h;split at h
 ·next f k i n a b=>
  cases c.cX
  obtain rfl:=oI h;refine⟨?_,.int _ _⟩;simp only[convert,run_bind,aF a,aF b,andThen_ok]
  cases f<;>rfl
 ·next f s a b=>
  cases c.ew
  obtain rfl:=oI h;refine⟨?_,.string _⟩;simp only[convert,run_bind,aF a,aF b,andThen_ok]
  cases f<;>rfl
 ·next e a b=>
  cases c
  obtain rfl:=oI h;refine⟨?_,.nilPtr⟩;simp only[convert,run_bind,aF a,aF b,andThen_ok,Conv.unsafePointer];rfl
 ·next e a b=>
  cases c
  obtain rfl:=oI h;refine⟨?_,.nilPtr⟩;simp only[convert,run_bind,aF a,aF b,andThen_ok,Conv.unsafePointer];rfl
 grind
theorem Gk(c:Bool):∀(l l':List Value)(x e v:Value),aB β x e->aW β l l'->qm c (x::l)=some v->(∀w:World,((l'.foldlM (if c then Builtin.max2 else Builtin.min2) e:Sem Value)).run P w = .ok v w)/\aB β v v\/(l=[]/\v=x)
 |[],l',x,e,v,g,f,h=>by simp_all[qm]
 | y::l,l',x,e,v,g,f,h=>by
  left;obtain⟨p,r,rfl,n,i⟩:=f.cA;simp only[qm,List.foldlM_cons,Option.bind_eq_bind]at h;split at h
  ·next k a o b=>
   cases g.cX;cases n.cX
   split at h
   ·next m=>
    subst m;simp only[Option.bind_some]at h;have d:=Gk c l r (.int k (if c then if b>a then b else a else if b<a then b else a)) _ v (.int _ _) i (by simpa[qm]using h);refine⟨λw=>?_,?_⟩
    ·rw[List.foldlM_cons,run_bind];have j:((if c then Builtin.max2 else Builtin.min2) (.int k a) (.int k b)).run P w = .ok (.int k (if c then if b>a then b else a else if b<a then b else a)) w:=by
      cases c<;>rfl
     rw[j,andThen_ok];rcases d with⟨d,_⟩|⟨rfl,rfl⟩
     ·exact d w
     ·rw[i.dN];rfl
    ·rcases d with⟨_,d⟩|⟨rfl,rfl⟩
     ·exact d
     ·exact .int _ _
   ·simp at h
  grind
theorem fy{s:Sem A}{f:A->Next}{w':World}{v:A}(h:s.run P W = .ok v w'):(do pure (f (<-s)):Sem Next).run P W = .ok (f v) w':=by
 simp[h]
theorem cG(b i n:Nat):(⟨b,i,none⟩:Addr).add n=⟨b,i+n,none⟩:=by grind[Addr.add]
theorem CH{a b:Value}(h:aB β a v)(e:aB β b w):aB β (.tuple #[a,b]) (.tuple #[v,w]):=
 .tuple rfl λi f v' c d=>by grind
set_option maxHeartbeats 4000000 in
theorem tW{W B:Operand->Value}(g:∀x,aB β (W x) (B x)){o:Oper}{v:Value}(h:aZ P W o=some v)(w:World):
  ∃v',(execOp B o).run P w = .ok (.value v') w/\aB β v v':=by
 unfold aZ at h;unfold execOp;split at h
 ·next x A=>obtain rfl:=oI h;simp only[A];exact⟨_,rfl,g _⟩
 ·next x A=>obtain rfl:=oI h;simp only[A];exact⟨_,rfl,g _⟩
 ·next c a b A=>
  simp only[A];split at h
  ·next t ht=>
   have M:=g c;rw[ht]at M;obtain rfl:=oI h;refine⟨if t then B a else B b,?_,?_⟩
   ·simp[M.jv,asBool]
   ·cases t
    ·exact g b
    ·exact g a
  ·cases h
 ·next t K A=>
  simp only[A];obtain⟨v',E,I⟩:=Pd (parts':=K.toList.map λp=>(p.1,B p.2)) h (zD.map K.toList (·.1) λp _=>g p.2) w;refine⟨v',?_,I⟩;have C:(K.toList.map λp=>(p.1,B p.2)).toArray=K.map λ(i,x)=>(i,B x):=by
   apply Array.ext';simp
  rw[C]at E;exact fy E
 ·next x A=>
  simp only[A];have m:=g x;split at h
  ·cases h
  ·cases h
  ·cases h
  ·cases h
  ·cases h
  ·next v0 F J h3 h4 h5=>
   obtain rfl:=oI h;refine⟨B x,?_,m⟩;revert m F J h3 h4 h5;generalize W x=a;generalize B x=b;intro m F J h3 h4 h5
   cases m with
   |jE v=>exact absurd rfl (h5 _)
   |nilPtr=>exact absurd rfl F
   |nilIface=>exact absurd rfl J
   |nilFunc=>exact absurd rfl h3
   |@func fn a T c c' H M ra rc=>cases fn<;>first|rfl|exact absurd rfl (h4 _ _ _)
   |_=>rfl
 ·next op t x y yt A=>
  simp only[A];obtain⟨E,I⟩:=Pb (xo:=x) (yo:=y) h (g x) (g y) w;exact⟨v,fy E,I⟩
 ·next op t x A=>
  simp only[A];obtain⟨E,I⟩:=V6 h (g x) w;exact⟨v,fy E,I⟩
 ·next s d x A=>
  simp only[A];obtain⟨E,I⟩:=Ic h (g x) w;exact⟨v,fy E,I⟩
 ·next t x A=>
  simp only[A];split at h
  ·cases h
  ·cases h
  ·next d L G=>
   obtain rfl:=oI h;refine⟨.iface t (B x),fy ?_,.iface t (g x)⟩;simp only[Instr.makeInterface,run_bind,aF G,andThen_ok]
   cases d<;>first|rfl|exact absurd rfl (L _)
 ·next fn first X A=>
  simp only[A];split at h
  ·cases h
  ·next y1=>
   obtain rfl:=oI h;refine⟨.func fn (first.map B) (X.map B),rfl,.func (by cases fn<;>first|rfl|exact absurd rfl (y1 _)) (by simp) (by simp) ?_ ?_⟩
   ·intro i a T F J;simp only[Array.getElem?_map,map_eq_some_iff]at F J;obtain⟨p,hp,rfl⟩:=F;obtain⟨q,hq,rfl⟩:=J;rw[hp]at hq;obtain rfl:=oI hq;exact g p
   ·intro i a T F J;simp only[Array.getElem?_map,map_eq_some_iff]at F J;obtain⟨p,hp,rfl⟩:=F;obtain⟨q,hq,rfl⟩:=J;rw[hp]at hq;obtain rfl:=oI hq;exact g p
 ·next s x f A=>
  simp only[A];have m:=g x;split at h
  ·next x0 a G H=>
   rw[H]at m;obtain⟨N,F,hm,hs,C⟩:=m.nz;split at h
   ·next fd hf=>
    split at h
    ·next Q=>
     obtain rfl:=oI h
     cases x1:au P fd.type with
     |none=>simp[x1]at Q
     |some n=>
      have h0:n≠0:=by simpa[x1]using Q
      refine⟨.pointer (some ((⟨N.b,N.s+a.off,none⟩:Addr).add fd.offset)),fy ?_,?_⟩
      ·simp only[Instr.fieldAt,run_bind,aF G,andThen_ok,hf,C,Instr.sureAddr,Sem.run_pure,fieldPlace,de x1,run_ite];rw[if_neg h0];rfl
      ·obtain⟨ab,ao,x3⟩:=a;simp only at hs F;subst hs;rw[cG,cG,add_assoc];exact .ptr F hm
    ·cases h
   ·cases h
  ·cases h
 ·next t x f A=>
  simp only[A];have m:=g x;split at h
  ·next x0 cs G H=>
   rw[H]at m;obtain⟨y2,C,M⟩:=m.lQ;split at h
   ·next fd hf=>
    obtain⟨v',E,I⟩:=Jv h M w;refine⟨v',fy ?_,I⟩;simp only[Instr.field,run_bind,aF G,andThen_ok,hf,C,asAgg,Sem.run_pure,E]
   ·cases h
  ·cases h
 ·next t x i A=>
  simp only[A];have m:=g x;have O:=g i;split at h
  ·next x5 e a k j G H U=>
   rw[H]at m;rw[U]at O;obtain⟨N,F,hm,hs,C⟩:=m.nz;split at h
   ·next n Q=>
    split at h
    ·next E=>
     obtain rfl:=oI h;refine⟨.pointer (some ((⟨N.b,N.s+a.off,none⟩:Addr).add (j.toNat*n))),fy ?_,?_⟩
     ·simp only[Instr.indexAt,run_bind,O.cX,asIntOf,Sem.run_pure,andThen_ok,aF G,C,Instr.sureAddr,de Q,run_ite];rw[if_pos E]
     ·obtain⟨ab,ao,x3⟩:=a;simp only at hs F;subst hs;rw[cG,cG,add_assoc];exact .ptr F hm
    ·cases h
   ·cases h
  ·next e a x5 c k j G H U=>
   rw[H]at m;rw[U]at O;obtain⟨ab,ao,x3⟩:=a;split at h
   ·next n Q=>
    split at h
    ·next E=>
     obtain rfl:=oI h;have x7:x3=none:=by
      rcases m.tQ with⟨k',i',e⟩|⟨_,y8,_⟩
      ·injection e
      ·exact absurd E (by omega)
     subst x7;obtain⟨N,i',c',F,hm,y3,C,x4,y7,L,R,y6⟩:=m.fk
     ·clear y3;have x9:i'=N.s+ao:=by rcases R with R|R;exact R;exact absurd R.1 (by omega)
      subst x9;refine⟨.pointer (some ((⟨N.b,N.s+ao,none⟩:Addr).add (j.toNat*n))),fy ?_,?_⟩
      ·simp only[Instr.indexAt,run_bind,O.cX,asIntOf,Sem.run_pure,andThen_ok,aF G,C,de Q,run_ite];rw[if_pos E]
      ·rw[cG,cG,add_assoc];exact .ptr F hm
    ·cases h
   ·cases h
  ·cases h
 ·next t x i A=>
  simp only[A];have m:=g x;have O:=g i;split at h
  ·next x5 e cs k j G H U=>
   rw[H]at m;rw[U]at O;obtain⟨y2,C,M⟩:=m.lQ;split at h
   ·next n Q=>
    split at h
    ·next E=>
     obtain⟨v',hp,I⟩:=Jv h M w;refine⟨v',fy ?_,I⟩;simp only[Instr.index,run_bind,O.cX,asIntOf,Sem.run_pure,andThen_ok,aF G,C,de Q,run_ite,hp];rw[if_pos E]
    ·cases h
   ·cases h
  ·next s k j G H U=>
   rw[H]at m;rw[U]at O;split at h
   ·next E=>
    split at h
    ·next b hb=>
     obtain rfl:=oI h;refine⟨_,fy ?_,.int _ _⟩;have y0:s[j.toNat]?=some b:=by
      rw[getElem?_toList]at hb;exact hb
     simp only[Instr.index,run_bind,O.cX,asIntOf,Sem.run_pure,andThen_ok,aF G,m.ew];rw[if_pos E,y0];rfl
    ·cases h
   ·cases h
  ·cases h
 ·next x xt u ok A=>
  simp only[A];have m:=g x;split at h
  ·cases h
  ·cases h
  ·next d L G H=>
   rw[H]at m;split at h
   ·next x2=>
    obtain⟨z,hz,rfl⟩:=map_eq_some_iff.1 h;refine⟨.tuple #[z,.bool false],fy ?_,CH (.mJ (eh hz).1) (.bool _)⟩;simp only[Instr.typeAssert,run_bind,aF G,andThen_ok,m.Gd]
    cases d<;>first
     |exact absurd rfl (L _)
     |(rw[if_pos x2];simp[mP hz])
   ·cases h
  ·next d t v1 L G H=>
   rw[H]at m;obtain⟨v2,C,I⟩:=m.PV;split at h
   ·next Z=>
    obtain rfl:=oI h;refine⟨if ok then .tuple #[v2,.bool true]else v2,fy ?_,?_⟩
    ·simp only[Instr.typeAssert,run_bind,aF G,andThen_ok,C]
     cases d<;>first
      |exact absurd rfl (L _)
      |(rw[if_pos Z];rfl)
    ·cases ok
     ·exact I
     ·exact CH I (.bool _)
   ·next Z=>
    split at h
    ·next x2=>
     obtain⟨z,hz,rfl⟩:=map_eq_some_iff.1 h;refine⟨.tuple #[z,.bool false],fy ?_,CH (.mJ (eh hz).1) (.bool _)⟩;simp only[Instr.typeAssert,run_bind,aF G,andThen_ok,C]
     cases d<;>first
      |exact absurd rfl (L _)
      |(rw[if_neg Z,if_pos x2];simp[mP hz])
    ·cases h
  ·cases h
 ·next x i A=>
  simp only[A];have m:=g x;split at h
  ·next vs H=>
   rw[H]at m;obtain⟨y5,C,M⟩:=m.rX;obtain⟨v',y4,E⟩:=M.get h;exact⟨v',fy (by simp[Instr.extract,C,y4]),E⟩
  ·cases h
 ·next D x6 A=>
  simp only[A];have S:aW β (D.toList.map W) (D.toList.map B):=aW.map _ λx _=>g x;have C:(D.map B).toList=D.toList.map B:=by simp
  revert S h;generalize D.toList.map W=l;generalize V:D.toList.map B=l';intro h S
  cases l with
  |nil=>simp[qm]at h
  |cons x l=>
   obtain⟨x',r,rfl,m,E⟩:=S.cA;rcases Gk true l r x x' v m E h with⟨F,J⟩|⟨rfl,rfl⟩
   ·exact⟨v,by
     simp only[resolve,run_bind,Sem.run_pure,andThen_ok,invoke,builtin,Builtin.max_,C,V];have:=F w;simp only[if_true]at this;rw[this];rfl,J⟩
   ·exact⟨x',by
     rw[E.dN]at V;simp only[resolve,run_bind,Sem.run_pure,andThen_ok,invoke,builtin,Builtin.max_,C,V];rfl,m⟩
 ·next D x6 A=>
  simp only[A];have S:aW β (D.toList.map W) (D.toList.map B):=aW.map _ λx _=>g x;have C:(D.map B).toList=D.toList.map B:=by simp
  revert S h;generalize D.toList.map W=l;generalize V:D.toList.map B=l';intro h S
  cases l with
  |nil=>simp[qm]at h
  |cons x l=>
   obtain⟨x',r,rfl,m,E⟩:=S.cA;rcases Gk false l r x x' v m E h with⟨F,J⟩|⟨rfl,rfl⟩
   ·exact⟨v,by
     simp only[resolve,run_bind,Sem.run_pure,andThen_ok,invoke,builtin,Builtin.min_,C,V];have:=F w;simp only[false_eq_true,if_false]at this;rw[this];rfl,J⟩
   ·exact⟨x',by
     rw[E.dN]at V;simp only[resolve,run_bind,Sem.run_pure,andThen_ok,invoke,builtin,Builtin.min_,C,V];rfl,m⟩
 ·next D x6 A=>
  simp only[A];split at h
  ·next x t m ht=>
   split at h
   ·next e a n c G H=>
    split at h
    ·next M=>
     obtain rfl:=oI h;have Y:=g x;rw[H]at Y;have x8:∃T ,B x = .slice T n c:=by
      cases a with
      |none=>obtain⟨rfl,rfl,C⟩:=Y.eM;exact⟨none,C⟩
      |some a=>
       rcases Y.tQ with⟨k',i',rfl⟩|⟨rfl,rfl,rfl,T,C⟩
       ·obtain⟨N,i',c',_,_,_,C,x4,_⟩:=Y.fk;rw[x4 M]at C;exact⟨_,C⟩
       ·exact⟨_,C⟩
     obtain⟨T,C⟩:=x8;refine⟨.int .i64 c,?_,.int _ _⟩;have h0:(D.map B)[0]?=some (.slice T n c):=by simp[m,C]
     simp only[resolve,run_bind,Sem.run_pure,andThen_ok,invoke,builtin,Builtin.cap_,ht,h0,aF G];rfl
    ·cases h
   ·cases h
  ·cases h
 grind
end
variable{J:cO}{I:bw}{G:Slot}{h:aa}{r:Operand->Value}{m:Nat}{p:List Int}
section
variable {β:cO} {P:Program}
def bw.wr:bw->Bool
 |.cells _ _ _ wr=>wr
 |.map _=>true
 |.loop .. =>true
def Tm(a:Nat×Nat)(n:Nat):Prop:=∀x,a.1<=x->x<a.2->n<=x
def uA(β:cO)(b:List (Value×Value))(a:List MapEntry):Prop:=
 b.length=a.length/\∀(i:Nat) p e,b[i]?=some p->a[i]?=some e->aB β p.1 e.key/\aB β p.2 e.val
def fb(β:cO)(cs:List Value)(s:Nat)(a:Array Value):Prop:=∀(i:Nat) v,cs[i]?=some v->∃v',a[s+i]?=some v'/\aB β v v'
def KF:Wx->LoopState->Option Code->Prop
 |.ready,s,j=>s = .ready/\j=none
 |.busy,s,_=>s = .busy
 |.ret,s,j=>s = .done/\j=some .ret
 |.exit a,s,j=>s = .done/\j=some (.exit a)
def zw(β:cO)(B:bw)(a:Slot)(w:World):Prop:=
 match B with
 |.cells cs t g k=>a.isMap=false/\a.t=t/\(a.sz=g/\(g=0->a.s=0))/\∃b h,w.heap[a.b]?=some (.cells b t h)/\b.size=a.n/\fb β cs a.s b/\(k=true->Tm h b.size)
 |.map j=>a.isMap=true/\∃d c,w.heap[a.b]?=some (.map d c)/\uA β j d.toList
 |.loop l i m f e _=>a.isMap=true/\∃r:Loop,w.heap[a.b]?=some (.loop r)/\KF l r.state r.pending/\aW β i r.tmps.toList/\r.params.toList=m/\r.assign=f/\r.body=e
structure iJ(β:cO)(h:aa)(w:World):Prop where
 lt:∀k sl,β k=some sl->k<h.next/\sl.b<w.heap.size
 blk:∀k B sl,h.get k=some B->β k=some sl->zw β B sl w
 own:∀k k' B B' sl sl',k≠k'->h.get k=some B->h.get k'=some B'->β k=some sl->β k'=some sl'->B.wr=true->sl.b≠sl'.b
 wf:∀k B,h.get k=some B->k<h.next
theorem uA.mono{β:cO}(a:β.le J){d:List (Value×Value)}{b:List MapEntry}(h:uA β d b):uA J d b:=
 ⟨h.1,λi p e c f=>⟨(h.2 i p e c f).1.mono a,(h.2 i p e c f).2.mono a⟩⟩
theorem fb.mono{β:cO}(b:β.le J){cs:List Value}{s:Nat}{a:Array Value}(h:fb β cs s a):fb J cs s a:=
 λi v c=>let⟨v',d,e⟩:=h i v c;⟨v',d,e.mono b⟩
theorem zw.mono{β:cO}(a:β.le J){B:bw}{j:Slot}{w:World}(h:zw β B j w):zw J B j w:=by
 cases B with
 |cells cs t q v=>
  obtain⟨c,d,b,k,m,f,g,o,n⟩:=h;exact⟨c,d,b,k,m,f,g,o.mono a,n⟩
 |map u=>
  obtain⟨c,i,e,d,b⟩:=h;exact⟨c,i,e,d,b.mono a⟩
 |loop x s y p l z=>
  obtain⟨c,r,d,b,f,g⟩:=h;exact⟨c,r,d,b,f.mono a,g⟩
theorem zw.of_heap{e:World}(h:zw β I G W)(u:e.heap[G.b]?=W.heap[G.b]?):zw β I G e:=by
 cases I with
 |cells cs t o s=>
  obtain⟨b,d,a,g,j,v,m,l,k⟩:=h;exact⟨b,d,a,g,j,by grind,m,l,k⟩
 |map q=>
  obtain⟨b,f,c,d,a⟩:=h;exact⟨b,f,c,by grind,a⟩
 |loop w p x n i y=>
  obtain⟨b,r,d,a⟩:=h;exact⟨b,r,by grind,a⟩
theorem lL{b:Nat}{cs:Array Value}{t:TypeId}{a:Nat×Nat}(h:W.heap[b]?=some (.cells cs t a)):W.cell? ⟨b,i,none⟩=cs[i]?:=by
 simp[World.cell?,h]
theorem iJ.row(i:iJ β h W){k:Nat}{cs:List Value}{t:TypeId}{c:Nat}{e:Bool}{a:Slot}(n:h.get k=some (.cells cs t c e))(f:β k=some a):
  a.isMap=false/\a.t=t/\a.sz=c/\∃b d,W.heap[a.b]?=some (.cells b t d)/\b.size=a.n/\fb β cs a.s b/\(e=true->Tm d b.size):=
 let⟨j,l,g,m⟩:=i.blk k _ a n f;⟨j,l,g.1,m⟩
theorem iJ.nQ(d:iJ β h W){k:Nat}{cs:List Value}{t:TypeId}{e:Bool}{a:Slot}(f:h.get k=some (.cells cs t 0 e))(b:β k=some a):a.s=0:=
 let⟨_,_,c,_⟩:=d.blk k _ a f b;c.2 rfl
theorem se{w:World}{b:Nat}{cs:List Value}{t:TypeId}{o:Nat×Nat}(q:w.heap[b]?=some (.cells V t o))(s:fb β cs n V)(i f:Nat)(m:((cs.drop i).take f).length=f):
  ∃l',(loadCells ⟨b,n+i,none⟩ f).run P w = .ok l'.toArray w/\aW β ((cs.drop i).take f) l':=by
 have k:i+f<=cs.length\/f=0:=by
  simp only[List.length_take,List.length_drop]at m;omega
 have d:∀j,j<f->∃v v',cs[i+j]?=some v/\V[n+(i+j)]?=some v'/\aB β v v':=by
  intro j e;have g:i+j<cs.length:=by omega
  obtain⟨v',a,c⟩:=s (i+j) _ (gE g);exact⟨_,v',gE g,a,c⟩
 refine⟨(List.range f).map λj=>V.getD (n+(i+j)) undef,?_,?_,?_⟩
 ·refine run_loadCells w ⟨b,n+i,none⟩ f _ λj e=>?_;obtain⟨v,v',_,c,_⟩:=d j e;rw[cG,lL q,show n+i+j=n+(i+j) by omega,c]
  simp_all
 ·grind
 ·intro j v v' a c;simp only[List.getElem?_map,map_eq_some_iff]at c;obtain⟨x,h,rfl⟩:=c;rw[getElem?_take,getElem?_drop]at a;split at a
  ·next e=>
   rw[List.getElem?_range e]at h;obtain rfl:=oI h;obtain⟨u,y,l,r,p⟩:=d j e;rw[l]at a;obtain rfl:=oI a;simpa[Array.getD_eq_getD_getElem?,r]using p
  grind
theorem I0(u:iJ β h W){t:TypeId}{a p v:Value}(b:ae P t h a=some v)(x:aB β a p):
  ∃o,p = .pointer (some o)/\∃v',(loadVar t o).run P W = .ok v' W/\aB β v v':=by
 unfold ae at b;split at b
 ·next d k i w=>
  obtain⟨F,s,C,rfl⟩:=x.rW;refine⟨_,rfl,?_⟩;split at b
  ·next cs t' D G y=>
   obtain⟨_,_,_,A,E,q,B,r,_⟩:=u.row y s;simp only[loadVar,run_bind,sf w,andThen_ok,run_ite];split at b
   ·next c=>
    rw[if_pos c];split at b
    ·next n m=>
     split at b
     ·next f=>
      obtain rfl:=oI b;obtain⟨l',z,e⟩:=se (P:=P) q r i n f;refine⟨.agg l'.toArray,by simp[de m,z],.agg (by simpa using e.1) λj v v' g l=>e.2 j v v' (by simpa using g) (by simpa using l)⟩
     ·cases b
    ·cases b
   ·next c=>
    rw[if_neg c];obtain⟨v',g,l⟩:=r i v b;exact⟨v',by simp[run_load,lL q,g],l⟩
  ·cases b
 grind
theorem Ln(s:ByteArray)(l h:Nat):(⟨((s.data.toList.drop l).take (h-l)).toArray⟩:ByteArray)=s.extract l h:=by
 apply Sn;simp
def kK(β:cO)(x a:Option Value):Prop:=match x,a with|none,none=>True|some v,some v'=>aB β v v'|_,_=>False
theorem kK.map{a:Operand->Value}(b:∀x,aB β (r x) (a x))(x:Option Operand):kK β (x.map r) (x.map a):=by
 cases x with
 |none=>trivial
 |some x=>exact b x
theorem kK.none_{a:Option Value}(h:kK β none a):a=none:=by cases a with|none=>rfl|some _=>exact h.elim
theorem kK.some_{a:Option Value}(h:kK β (some v) a):∃v',a=some v'/\aB β v v':=by cases a with|none=>exact h.elim|some v'=>exact⟨v',rfl,h⟩
theorem kU{x a:Option Value}(h:dq x n=some z)(b:kK β x a):
  (x=none/\a=none/\z=n)\/ ∃k,x=some (.int k z)/\a=some (.int k z):=by
 cases x with
 |none=>simp only[dq,Option.some.injEq]at h;exact .inl ⟨rfl,b.none_,h.symm⟩
 |some v=>
  obtain⟨v',rfl,c⟩:=b.some_
  cases v with
  |int k m=>simp only[dq,Option.some.injEq]at h;subst h;exact .inr ⟨k,rfl,by rw[c.cX]⟩
  |_=>simp[dq]at h
theorem jT{k:IntKind}{c:BoundsCode}(b:0<=z)(a:z<=n)(w:World):(Instr.sliceBound (.int k z) n c).run P w = .ok z.toNat w:=by simp_all[Instr.sliceBound,asIntOf]
theorem nG{f e a c:Option Value}{l:Int}(h:dq f 0=some l)(i:dq e n=some z)
  (g:kK β f a) (d:kK β e c)
  (q:0<=l) (o:l<=z) (p:z<=m) (w:World):(Instr.sliceBounds b n m a c none).run P w = .ok (l.toNat,z.toNat,m) w:=by
 unfold Instr.sliceBounds;rcases kU i d with⟨rfl,rfl,rfl⟩|⟨k,rfl,rfl⟩
 ·grind[kU,run_bind,Sem.run_pure,andThen_ok,jT]
 ·rcases kU h g with⟨rfl,rfl,rfl⟩|⟨j,rfl,rfl⟩
  all_goals grind[run_bind,Sem.run_pure,andThen_ok,jT]
theorem JP{f c a b:Option Value}{l h:Int}{k:IntKind}(i:dq f 0=some l)(j:dq c n=some z)(p:c≠none)
  (g:kK β f a) (d:kK β c b)
  (o:0<=l) (s:l<=z) (t:z<=h) (e:h<=m) (w:World):(Instr.sliceBounds true n m a b (some (.int k h))).run P w = .ok (l.toNat,z.toNat,h.toNat) w:=by
 unfold Instr.sliceBounds;rcases kU j d with⟨rfl,rfl,rfl⟩|⟨r,rfl,rfl⟩
 ·grind
 ·rcases kU i g with⟨rfl,rfl,rfl⟩|⟨q,rfl,rfl⟩
  ·simp only[run_bind];rw[jT (by omega) e];simp only[andThen_ok];rw[jT (by omega) (by omega)];simp
  ·simp only[run_bind];rw[jT (by omega) e];simp only[andThen_ok];rw[jT (by omega) (by omega)];simp only[andThen_ok];rw[jT o (by omega)];simp
theorem Rf(hs:iJ β h W){t:TypeId}{x x' v:Value}{lo U mx R S q:Option Value}(a:bm P t x lo U mx h=some v)(Q:aB β x x')
  (A:kK β lo R) (F:kK β U S) (z:kK β mx q):∃v',(Instr.sliceAt t x' R S q).run P W = .ok v' W/\aB β v v':=by
 unfold bm at a;split at a
 ·next s=>
  cases Q.ew
  split at a
  ·next D=>
   split at a
   ·next _ l r B C=>
    split at a
    ·next g=>
     obtain rfl:=oI a;have f:q=none:=z.none_;subst f;refine⟨.string (s.extract l.toNat r.toNat),?_,?_⟩
     ·have j:s.size=s.data.toList.length:=by simp
      simp only[Instr.sliceAt,run_bind,aF D,andThen_ok,Instr.slice];simp only[Option.isSome_none,false_eq_true,if_false,run_bind,Sem.run_pure];rw[j,nG B C A F g.1 g.2.1 g.2.2];simp
     ·rw[strOf,show(r-l).toNat=r.toNat-l.toNat by omega,Ln];exact .string _
    ·cases a
   ·cases a
  ·cases a
 ·split at a
  ·next e D=>
   split at a
   ·next n B C j=>
    obtain rfl:=oI a;obtain⟨_,_,rfl⟩:=Q.eM;have f:q=none:=z.none_;subst f;refine⟨.slice none 0 0,?_,.kT⟩;simp only[Instr.sliceAt,run_bind,aF D,andThen_ok,Instr.slice];rw[nG B C A F (by omega) (by omega) (by omega)];simp[de j]
   ·cases a
  ·cases a
 ·next k i x8 b=>
  split at a
  ·next e D=>
   split at a
   ·next l r O cs t' x9 wr B C j V=>
    split at a
    ·next L=>
     obtain⟨d,J,w,u,H,_,rfl,M,E,x7,T,c⟩:=Q.fk;obtain⟨_,_,G,_⟩:=hs.row V u;have x6:aV b<=w:=by
      unfold aV;split
      ·next g=>exact E g
      ·next g=>rw[M (by omega)];exact Nat.le_refl _
     split at a
     ·split at a
      ·next g=>
       obtain rfl:=oI a;have f:q=none:=z.none_;subst f;have x0:l.toNat<=w:=by omega
       refine⟨.slice (if w=l.toNat then some ⟨d.b,J,none⟩else some ⟨d.b,J+l.toNat*O,none⟩) (r-l).toNat (w-l.toNat),?_,?_⟩
       ·simp only[Instr.sliceAt,run_bind,aF D,andThen_ok,Instr.slice];rw[nG B C A F g.1 g.2.1 (by omega)];simp only[andThen_ok,de j,Sem.run_pure,map_some,cG];rw[show r.toNat-l.toNat=(r-l).toNat by omega]
       ·by_cases o:w=l.toNat
        ·rw[if_pos o];refine .slice u H ?_ ?_ ?_ (.inr ⟨by omega,by omega⟩) ?_
         ·intro Y;by_cases p:b<ca
          ·have:=M p;omega
          ·have:=E (by omega);have N:aV b=b-ca:=by unfold aV;rw[if_pos (by omega)]
           omega
         ·intro x3;have p:ca<=b:=by omega
          have:=E p;omega
         ·have:(r-l).toNat=0:=by omega
          omega
         ·rcases c with c|c
          ·exact .inl c
          ·right;rw[show w-l.toNat=0 by omega];simp;exact Nat.le_trans (Nat.le_add_right _ _) c
        ·rw[if_neg o];have x4:J=d.s+i:=by rcases T with y|⟨y,I⟩;exact y;exact absurd I (by omega)
         refine .slice u H ?_ ?_ ?_ (.inl (by omega)) ?_
         ·intro Y;by_cases p:b<ca
          ·have:=M p;omega
          ·have:=E (by omega);have N:aV b=b-ca:=by unfold aV;rw[if_pos (by omega)]
           omega
         ·intro x3;have p:ca<=b:=by omega
          have:=E p;omega
         ·by_cases p:b<ca
          ·have N:aV b=b:=by unfold aV;rw[if_neg (by omega)]
           have h6:aV (b-l.toNat)=b-l.toNat:=by unfold aV;rw[if_neg (by omega)]
           omega
          ·have N:aV b=b-ca:=by unfold aV;rw[if_pos (by omega)]
           have h6:aV (b-l.toNat)=b-l.toNat-ca:=by unfold aV;rw[if_pos (by omega)]
           omega
         ·rcases L with K|K
          ·rcases c with c|c
           ·exact .inl c
           ·right;subst K;rw[<-G];rw[Nat.sub_mul];have:l.toNat*d.sz<=w*d.sz:=Nat.mul_le_mul_right _ x0;omega
          ·exact .inl (by omega)
      ·cases a
     ·next k m=>
      split at a
      ·next g=>
       obtain rfl:=oI a;obtain⟨X,y,I,h3,h4,N⟩:=g;obtain⟨vm,rfl,x5⟩:=z.some_
       cases x5.cX
       have x1:U≠none:=by intro e;subst e;cases N
       have Z:m.toNat<=w:=by omega
       refine⟨.slice (if m.toNat=l.toNat then some ⟨d.b,J,none⟩else some ⟨d.b,J+l.toNat*O,none⟩) (r-l).toNat (m.toNat-l.toNat),?_,?_⟩
       ·simp only[Instr.sliceAt,run_bind,aF D,andThen_ok,Instr.slice];rw[JP B C x1 A F X y I (by omega)];simp only[andThen_ok,de j,Sem.run_pure,map_some,cG];rw[show r.toNat-l.toNat=(r-l).toNat by omega]
       ·have x2:aV (m-l).toNat=(m-l).toNat:=by unfold aV;rw[if_neg (by omega)]
        by_cases o:m.toNat=l.toNat
        ·rw[if_pos o];refine .slice u H (by omega) (by omega) (by omega) (.inr ⟨by omega,by omega⟩) ?_;rcases c with c|c
         ·exact .inl c
         ·right;rw[show m.toNat-l.toNat=0 by omega];simp;exact Nat.le_trans (Nat.le_add_right _ _) c
        ·rw[if_neg o];have x4:J=d.s+i:=by rcases T with y|⟨y,I⟩;exact y;exact absurd I (by omega)
         refine .slice u H (by omega) (by omega) (by omega) (.inl (by omega)) ?_;rcases L with K|K
         ·rcases c with c|c
          ·exact .inl c
          ·right;subst K;rw[<-G];have e2:l.toNat*d.sz+(m.toNat-l.toNat)*d.sz=m.toNat*d.sz:=by rw[<-add_mul];congr 1;omega
           have:m.toNat*d.sz<=w*d.sz:=Nat.mul_le_mul_right _ Z;omega
         ·exact .inl (by omega)
      ·cases a
     ·cases a
    ·cases a
   ·cases a
  ·cases a
 ·next k i=>
  obtain⟨d,u,H,rfl⟩:=Q.rW;split at a
  ·next n e D=>
   split at a
   ·next _ l r O cs t' wr B C j V=>
    split at a
    ·next g=>
     obtain⟨X,y,I,h3⟩:=g;obtain rfl:=oI a;have f:q=none:=z.none_;subst f;obtain⟨_,_,G,_⟩:=hs.row V u;have x2:aV (n-l.toNat)=n-l.toNat:=by unfold aV;rw[if_neg (by omega)]
     refine⟨.slice (some (if n=l.toNat then⟨d.b,d.s+i,none⟩else⟨d.b,d.s+i+l.toNat*O,none⟩)) (r-l).toNat (n-l.toNat),?_,?_⟩
     ·simp only[Instr.sliceAt,run_bind,aF D,andThen_ok,Instr.sureAddr,Sem.run_pure];rw[nG B C A F X y I];simp only[andThen_ok,de j,cG];rw[show r.toNat-l.toNat=(r-l).toNat by omega]
     ·by_cases o:n=l.toNat
      ·rw[if_pos o];exact .slice u H (by omega) (by omega) (by omega) (.inr ⟨by omega,by omega⟩) (.inl (by omega))
      ·rw[if_neg o];exact .slice u H (by omega) (by omega) (by omega) (.inl (by omega)) (.inl (by omega))
    ·cases a
   ·cases a
  ·cases a
 grind
theorem AU:∀{l:List Value}{b:List UInt8},bytesOf l=some b->∃a:List Int,l=a.map (Value.int .u8)/\∀s:ByteArray,a.foldl (λr n=>r.push (UInt8.ofNat n.toNat)) s=⟨s.data++b.toArray⟩
 |[],b,h=>by simp_all[bytesOf]
 | v::l,b,h=>by
  unfold bytesOf at h;split at h
  ·next e=>cases e
  ·next n r e=>
   simp only[List.cons.injEq]at e;obtain⟨rfl,rfl⟩:=e;split at h
   ·obtain⟨f,c,rfl⟩:=map_eq_some_iff.1 h;obtain⟨a,rfl,d⟩:=AU c;refine⟨n::a,rfl,λs=>?_⟩;rw[List.foldl_cons,d];apply Sn;simp[ByteArray.push]
   ·cases h
  grind
theorem aW.ints{k:IntKind}{l':List Value}(h:aW β (p.map (Value.int k)) l'):l'=p.map (Value.int k):=by
 apply List.ext_getElem?;intro i;by_cases d:i<p.length
 ·have a:(p.map (Value.int k))[i]?=some (.int k p[i]):=by simp[d]
  obtain⟨v',c,b⟩:=h.get a;rw[a,c,b.cX]
 ·have a:(p.map (Value.int k)).length<=i:=by simp;omega
  rw[getElem?_eq_none a,getElem?_eq_none (h.1▸a)]
theorem DA(z:iJ β h W){k i n:Nat}{cs:List Value}{t:TypeId}{x:Nat}{B:Bool}{a:Slot}(D:h.get k=some (.cells cs t x B))(v:β k=some a)
  (y:((cs.drop i).take n).length=n) {o:List UInt8} (g:bytesOf ((cs.drop i).take n)=some o):
  ∃b:List Int,(cs.drop i).take n=b.map (Value.int .u8)/\(loadCells ⟨a.b,a.s+i,none⟩ n).run P W = .ok (b.map (Value.int .u8)).toArray W/\(∀s:ByteArray,b.foldl (λr n=>r.push (UInt8.ofNat n.toNat)) s=⟨s.data++o.toArray⟩)/\
   (∀j u,(b.map (Value.int .u8))[j]?=some u->W.cell? ((⟨a.b,a.s+i,none⟩:Addr).add j)=some u):=by
 obtain⟨b,c,w⟩:=AU g;obtain⟨_,_,_,E,G,l,F,q,_⟩:=z.row D v;obtain⟨l',p,d⟩:=se (P:=P) l q i n y;rw[c]at d;rw[d.ints]at p;refine⟨b,c,p,w,λj u e=>?_⟩;have f:((cs.drop i).take n)[j]?=some u:=by rw[c];exact e
 rw[getElem?_take,getElem?_drop]at f;split at f
 ·obtain⟨H,A,C⟩:=q _ _ f;rw[cG,lL l,show a.s+i+j=a.s+(i+j) by omega,A];simp only[List.getElem?_map,map_eq_some_iff]at e;obtain⟨m,_,rfl⟩:=e;rw[C.cX]
 grind
theorem uW(v:iJ β h W){k i n c:Nat}{cs:List Value}{t:TypeId}{s:Nat}{x:Bool}(y:h.get k=some (.cells cs t s x))
  (u:((cs.drop i).take n).length=n) {e:List UInt8} (a:bytesOf ((cs.drop i).take n)=some e) {f:Value} (w:aB β (.slice (some ⟨k,i,none⟩) n c) f):
  (Conv.bytesToString f).run P W = .ok (strOf e) W:=by
 obtain⟨d,z,q,o,G,_,rfl,C,F,D,g,E⟩:=w.fk;by_cases j:n=0
 ·subst j;have:e=[]:=by simp[bytesOf]at a;exact a
  subst this;rfl
 ·have l:z=d.s+i:=by rcases g with b|⟨b,H⟩;exact b;exact absurd b j
  subst l;obtain⟨r,B,A,p,m⟩:=DA (P:=P) v y o u a;rw[run_bytesToString (P:=P) W ⟨d.b,d.s+i,none⟩ n q r A,p];congr 2;simp
end
section
variable {β:cO} {P:Program}
theorem JQ{a b:Value}(h:EO a b=true):a=b:=by
 unfold EO at h;split at h
 ·rw[beq_iff_eq.1 h]
 ·simp only[and_eq_true,decide_eq_true_eq]at h;rw[h.1,h.2]
 ·next a b=>
  simp only[decide_eq_true_eq]at h;obtain⟨⟨a⟩⟩:=a;obtain⟨⟨b⟩⟩:=b;simp only at h;rw[h]
 grind
theorem JT:∀{a b:List Value},zh a b=true->a=b
 |[],[],_=>rfl
 |[],_::_,h=>by grind[zh]
 |_::_,[],h=>by grind[zh]
 |a::x,b::y,h=>by
  simp only[zh,and_eq_true]at h;rw[JQ h.1,JT h.2]
theorem Vc{a b:Value}(h:JS a b=true):a=b:=by
 unfold JS at h
 grind[Array.ext',JT,JQ]
theorem aB.JV{v':Value}(a:zi v=true)(h:aB β v v'):v'=v:=by
 cases h<;>first|rfl|(simp[zi]at a)
theorem aB.Jn(a:zi v=true):aB β v v:=by
 cases v<;>first|exact .bool _|exact .int _ _|exact .string _|(simp[zi]at a)
theorem aB.ph{v':Value}(a:xy v=true)(h:aB β v v'):v'=v:=by
 unfold xy at a;split at a
 ·next cs=>
  obtain⟨b,rfl,c⟩:=h.lQ;have:b=cs:=by
   refine Array.ext c.1.symm λi e f=>?_;have d:=c.2 i cs[i] b[i] (getElem?_eq_getElem f) (getElem?_eq_getElem e);exact d.JV (all_eq_true.1 a _ (by simp))
  grind
 ·exact h.JV a
theorem aB.Of(a:xy v=true):aB β v v:=by
 unfold xy at a;split at a
 ·next cs=>
  refine .agg rfl λi v v' b c=>?_;rw[b]at c;obtain rfl:=oI c;refine .Jn (all_eq_true.1 a _ ?_);rw[<-getElem?_toList]at b;exact List.mem_of_getElem? b
 grind[Jn]
theorem mO{t:TypeId}{cs:Array Value}(h:partOf P t cs n=some v)(w:World):(part t cs n).run P w = .ok v w:=by
 unfold partOf at h
 cases a:P.underlying t with
 |none=>grind
 |some d=>
 simp only[a]at h;simp only[part,run_bind,sf a,andThen_ok,run_ite];split at h
 ·next c=>
  obtain⟨e,b,rfl⟩:=map_eq_some_iff.1 h;rw[if_pos c];simp only[de b,andThen_ok,Sem.run_pure]
 simp_all
theorem Iu{e:TypeId->Value->Value->Option Bool}{d:Nat}(w:World)(j:∀t x y b,e t x y=some b->(Op.equalIn d t x y).run P w = .ok b w)(g i:Array Value):∀(a:List Field){b:Bool},S8 P e g i a=some b->
  (Op.eqFields d g i a).run P w = .ok b w
 |[],b,h=>by simp only[S8]at h;obtain rfl:=oI h;rfl
 | f::a,b,h=>by
  simp only[S8]at h;split at h
  ·next m=>
   split at h
   ·next p q k l=>
    unfold Op.eqFields;rw[if_pos m];split at h
    ·next c=>
     simp only[run_bind,mO k,mO l,andThen_ok,j _ _ _ _ c];simp only[Bool.not_true,false_eq_true,if_false];exact Iu w j g i a h
    ·next c=>
     obtain rfl:=oI h;simp only[run_bind,mO k,mO l,andThen_ok,j _ _ _ _ c];rfl
    ·cases h
   ·cases h
  grind
theorem tN(w:World):∀(d n:Nat)(t:TypeId)(x y:Value)(b:Bool),eF P d t x y=some b->(Op.equalIn (n+d) t x y).run P w = .ok b w
 |0,_,_,_,_,_,h=>by simp[eF]at h
 | d+1,n,t,x,y,b,h=>by
  unfold eF at h;split at h
  ·next g a f e=>
   split at h
   ·next j=>
    have c:P.fieldsOf t=g:=by simp[Program.fieldsOf,e]
    rw[show n+(d+1)=(n+d)+1 from rfl,run_equalIn_struct w (n+d) t a f (by rw[c];exact e) j,c];exact Iu w (λt x y b i=>tN w d n t x y b i) a f g.toList h
   ·cases h
  grind[Bg]
theorem D7{c:TypeId->Value->Bool}{em:Bool}{d:Nat}(w:World)(g:∀t v,c t v=true->(Instr.checkKey em d t v).run P w = .ok () w)(cs:Array Value):∀(a:List Field),NJ P c cs a=true->
  (forIn a PUnit.unit (λf _=>do
   if f.name≠ "_" then Instr.checkKey em d f.type (<-part f.type cs f.offset)
   pure (ForInStep.yield PUnit.unit)):Sem PUnit).run P w = .ok PUnit.unit w
 |[],_=>rfl
 | f::a,h=>by
  simp only[NJ,and_eq_true,decide_eq_true_eq]at h;obtain⟨⟨i,b⟩,j⟩:=h
  cases e:partOf P f.type cs f.offset with
  |none=>grind
  |some p=>
   rw[e]at b;simp only[List.forIn_cons,run_bind,i,ne_eq,not_false_eq_true,if_true,andThen_ok,mO e,g _ _ b,Sem.run_pure];simpa using D7 w g cs a j
theorem BH(b:Bool)(w:World):∀(d n:Nat)(t:TypeId)(v:Value),xw P d t v=true->(Instr.checkKey b (n+d) t v).run P w = .ok () w
 |0,_,_,_,h=>by simp[xw]at h
 | d+1,n,t,v,h=>by
  rw[show n+(d+1)=(n+d)+1 from rfl];unfold xw at h;split at h
  ·next f a e=>
   have:=D7 (em:=b) w (λt v c=>BH b w d n t v c) a f.toList h;rw[Instr.checkKey];simp only[run_bind,aF e,andThen_ok];rw[<-Array.forIn_toList];simp only[ne_eq,ite_not,bind_pure_comp]at this⊢;simp at this⊢;rw[this];rfl
  all_goals simp_all[aF,Instr.checkKey]
theorem yT{kt:TypeId}{k:Value}(h:kO P kt k=true)(a:Bool)(w:World):(Instr.checkKey a 10000 kt k).run P w = .ok () w:=by
 unfold kO at h;simp only[and_eq_true]at h;exact BH a w 3 9997 kt k h.2
theorem Aa{kt:TypeId}{k:Value}(h:kO P kt k=true):xy k=true:=by simp_all[kO]
theorem rY{kt:TypeId}{a b:Value}{r:Bool}(h:qd P kt a b=some r):xy b=true/\eF P 3 kt a b=some r/\(r=true->a=b):=by
 unfold qd at h
 grind[Vc]
theorem PW{kt:TypeId}{k:Value}(h:kO P kt k=true):(∃e a,P.underlying kt=some (.struct e)/\k = .agg a)\/(∃g,P.underlying kt=some g/\∀b r,eF P 3 kt k b=some r->Instr.sameNow g k b=some r):=by
 unfold kO at h;simp only[and_eq_true]at h;have f:=h.2;unfold xw at f;split at f
 ·next e a d=>exact .inl ⟨e,a,d,rfl⟩
 ·next b d=>
  refine .inr ⟨_,d,λy r c=>?_⟩;simp only[eF,Bf,d]at c
  cases y<;>simp at c
  simp[Instr.sameNow,c]
 ·next j i n d=>
  refine .inr ⟨_,d,λy r c=>?_⟩;simp only[eF,Bf,d]at c
  cases y<;>simp at c
  obtain⟨rfl,rfl⟩:=c;simp[Instr.sameNow]
 ·next b d=>
  refine .inr ⟨_,d,λy r c=>?_⟩;simp only[eF,Bf,d]at c
  cases y with
  |string s=>
   obtain rfl:=oI c;simp only[Instr.sameNow];rw[D2]
  |_=>simp at c
 grind
theorem uA.VF{p:Value×Value}{b:List (Value×Value)}{e:MapEntry}{a:List MapEntry}(c:uA β (p::b) (e::a)):uA β b a:=
 ⟨by have:=c.1;grind,λj p e d f=>c.2 (j+1) p e (by grind) (by grind)⟩
structure Au(P:Program)(kt:TypeId)(k:Value){α:Type}(Ef:List MapEntry->Nat->α)(R:Option (Nat×Value)->α):Prop where
 nil:∀i,Ef [] i=R none
 hit:∀(e:MapEntry) es i,eF P 3 kt k e.key=some true->Ef (e::es) i=R (some (i,e.val))
 YC:∀(e:MapEntry) es i,eF P 3 kt k e.key=some false->Ef (e::es) i=Ef es (i+1)
theorem Lr{kt:TypeId}{a:TypeDesc}{k:Value}(d:∀b r,eF P 3 kt k b=some r->Instr.sameNow a k b=some r):Au P kt k (Instr.findNow a k) some where
 nil:=λ_=>rfl
 hit:=λe c i h=>by grind[Instr.findNow]
 YC:=λe c i h=>by grind[Instr.findNow]
theorem Dp{kt:TypeId}{k:Value}(w:World):Au P kt k (λa i=>(Instr.findAsking kt k a i).run P w) (λr=> .ok r w) where
 nil:=λ_=>by rfl
 hit:=λe a i h=>by
  have b:(Op.equal kt k e.key).run P w = .ok true w:=tN w 3 9997 kt k e.key true h;simp[Instr.findAsking,b]
 YC:=λe a i h=>by
  have b:(Op.equal kt k e.key).run P w = .ok false w:=tN w 3 9997 kt k e.key false h;simp[Instr.findAsking,b]
section
variable {kt:TypeId} {k:Value} {α:Type} {Ef:List MapEntry->Nat->α} {R:Option (Nat×Value)->α}
theorem ID(l:Au P kt k Ef R):∀(f:List (Value×Value))(a:List MapEntry)(i:Nat){r:Option Value},uA β f a->od P kt k f=some r->
  ∃g,Ef a i=R g/\((r=none/\g=none)\/ ∃v j v',r=some v/\g=some (j,v')/\aB β v v')
 |[],a,i,r,c,h=>by
  have:a=[]:=List.eq_nil_of_length_eq_zero c.1.symm;subst this;simp only[od,Option.some.injEq]at h;exact⟨none,l.nil i,.inl ⟨h.symm,rfl⟩⟩
 |(q,v)::f,[],i,r,c,h=>by have:=c.1;grind
 | (q,v)::f,e::a,i,r,c,h=>by
  obtain⟨d,m⟩:=c.2 0 (q,v) e rfl rfl;dsimp only at d m;simp only[od]at h;split at h
  ·next n=>
   obtain⟨o,p,_⟩:=rY n;have b:=d.ph o;obtain rfl:=oI h;exact⟨some (i,e.val),l.hit e a i (by rw[b];exact p),.inr ⟨v,i,e.val,rfl,rfl,m⟩⟩
  ·next n=>
   obtain⟨o,p,_⟩:=rY n;have b:=d.ph o;obtain⟨g,s,t⟩:=ID l f a (i+1) c.VF h;exact⟨g,by rw[l.YC e a i (by rw[b];exact p)];exact s,t⟩
  grind
theorem yR(w:Au P kt k Ef R){x z:Value}(B:xy k=true)(y:aB β x z):∀(n:List (Value×Value))(a:List MapEntry){r:List (Value×Value)},uA β n a->ju P kt k x n=some r->∀i b,
  (∃j e,Ef a i=R (some (i+j,e.val))/\a[j]?=some e/\e.key=k/\uA β r (a.modify j λe=>{ e with key:=k,val:=z }))\/
  (Ef a i=R none/\uA β r (a++[{ key:=k,val:=z,born:=b }]))
 |[],a,r,m,h,i,b=>by
  have:a=[]:=List.eq_nil_of_length_eq_zero m.1.symm;subst this;simp only[ju,Option.some.injEq]at h;subst h;refine .inr ⟨w.nil i,rfl,λj p e g l=>?_⟩
  cases j with
  |zero=>simp at g l;subst g;subst l;exact⟨.Of B,y⟩
  |succ j=>grind
 |(F,v)::n,[],r,m,h,i,b=>by have:=m.1;grind
 | (F,v)::n,e::a,r,m,h,i,b=>by
  obtain⟨f,o⟩:=m.2 0 (F,v) e rfl rfl;dsimp only at f o;have d:∀{p:Value×Value}{t:MapEntry}{q:List (Value×Value)}{H:List MapEntry},aB β p.1 t.key->aB β p.2 t.val->uA β q H->uA β (p::q) (t::H):=λg l u=>
   ⟨by simp[u.1],λj p e s E=>by
    cases j with
    |zero=>simp at s E;subst s;subst E;exact⟨g,l⟩
    |succ j=>exact u.2 j p e (by simpa using s) (by simpa using E)⟩
  simp only[ju]at h;split at h
  ·next A=>
   obtain⟨C,D,I⟩:=rY A;have c:=f.ph C;obtain rfl:=oI h;refine .inl ⟨0,e,w.hit e a i (by rw[c];exact D),rfl,by rw[c,I rfl],?_⟩;simp only[List.modify_zero_cons];exact d (.Of B) y m.VF
  ·next A=>
   obtain⟨C,D,_⟩:=rY A;have c:=f.ph C;obtain⟨K,J,rfl⟩:=map_eq_some_iff.1 h;have G:=w.YC e a i (by rw[c];exact D);rcases yR w B y n a m.VF J (i+1) b with⟨j,t,g,l,u,s⟩|⟨g,l⟩
   ·refine .inl ⟨j+1,t,?_,by simpa using l,u,?_⟩
    ·rw[G,g];congr 3;omega
    ·simp only[List.modify_succ_cons];exact d f o s
   ·exact .inr ⟨G.trans g,d f o l⟩
  grind
end
theorem Bs{kt:TypeId}{k:Value}(g:kO P kt k=true)(w:World)(b:List MapEntry):
  ∃(α:Type)(Ef:List MapEntry->Nat->α)(R:Option (Nat×Value)->α),Au P kt k Ef R/\∀c,Ef b 0=R c->(Instr.findKey kt k b).run P w = .ok c w:=by
 rcases PW g with⟨j,a,f,rfl⟩|⟨i,f,d⟩
 ·refine⟨_,_,_,Dp w,λc h=>?_⟩
  cases b with
  |nil=>simp_all[aF,Instr.findAsking,Instr.findKey,Instr.findNow]
  |cons e b=>simp_all[aF,Instr.findKey,Instr.findNow,Instr.sameNow]
 ·exact⟨_,_,_,Lr d,λc h=>by simp_all[aF,Instr.findKey]⟩
theorem rn(d:Nat){v:Value}(h:zi v=true):Instr.sameBits d v v=true:=by
 cases v<;>first|(simp[zi]at h;done)|(cases d<;>simp[Instr.sameBits];done)|(cases d<;>(simp only[Instr.sameBits];rw[<-D2];simp))
theorem DD(h:xy v=true)(d:Nat):Instr.sameBits (d+1) v v=true:=by
 unfold xy at h;split at h
 ·next cs=>
  simp only[Instr.sameBits,BEq.rfl,Bool.true_and];rw[all_eq_true]at h⊢;rintro⟨x,y⟩ e;obtain⟨i,c⟩:=List.getElem?_of_mem e;rw[List.getElem?_zip_eq_some]at c;obtain⟨b,a⟩:=c;dsimp only at b a⊢;rw[b]at a;obtain rfl:=oI a;exact rn d (h x (List.mem_of_getElem? b))
 grind[rn]
set_option maxHeartbeats 1000000 in
theorem tX{L B:Operand->Value}(D:∀x,aB β (L x) (B x)){o:Oper}{v:Value}{h:aa}{w:World}(U:iJ β h w)(f:bj P L o h=some v):
  ∃v',(execOp B o).run P w = .ok (.value v') w/\aB β v v':=by
 unfold bj at f;unfold execOp;split at f
 ·next t a J=>
  simp only[J];obtain⟨ad,q,v',G,l⟩:=I0 (P:=P) U f (D a);exact⟨v',fy (by simp[Instr.loadAt,q,Instr.sureAddr,G]),l⟩
 ·next t x lo hi mx J=>
  simp only[J];obtain⟨v',G,l⟩:=Rf (P:=P) U f (D x) (kK.map D lo) (kK.map D hi) (kK.map D mx);exact⟨v',fy G,l⟩
 ·next s d x J=>
  simp only[J];have N:=D x;split at f
  ·next e a n c K O I=>
   rw[I]at N;split at f
   ·next q=>
    obtain rfl:=oI f;obtain⟨_,_,S⟩:=N.eM;refine⟨strOf [],fy ?_,.string _⟩;simp only[convert,run_bind,aF K,aF O,andThen_ok,S,aF q,Conv.bytesToString];rfl
   ·next k i q=>
    split at f
    ·next cs t sz wr hk=>
     split at f
     ·next hl=>
      obtain⟨bs,x5,rfl⟩:=map_eq_some_iff.1 f;refine⟨strOf bs,fy ?_,.string _⟩;have M:=uW (P:=P) U hk hl x5 N;obtain⟨sl,i',c',_,_,_,S,_⟩:=N.fk;rw[S]at M⊢;simp only[convert,run_bind,aF K,aF O,andThen_ok,aF q];exact M
     ·cases f
    ·cases f
   ·cases f
  ·cases f
 ·next t m k F J=>
  simp only[J];have Y:=D m;have hk:=D k;split at f
  ·next kt e E=>
   split at f
   ·next W z H hz=>
    split at f
    ·next V=>
     have x6:=hk.ph (Aa V);have Q:∃g,uA β W g.toList/\((B m = .map none/\g = #[])\/ ∃b A,B m = .map (some b)/\(getObj b).run P w = .ok (.map g A) w):=by
      split at H
      ·next T=>
       obtain rfl:=oI H;rw[T]at Y;exact⟨#[],⟨rfl,λi p e K=>by simp at K⟩,.inl ⟨Y.BF,rfl⟩⟩
      ·next r T=>
       rw[T]at Y;split at H
       ·next y1 G=>
        obtain rfl:=oI H;obtain⟨sl,M,x3,q⟩:=Y.Gc;obtain⟨_,g,A,hw,l⟩:=U.blk _ _ _ G M;exact⟨g,l,.inr ⟨sl.b,A,q,by simp[getObj,Sem.run,hw]⟩⟩
       ·cases H
      ·cases H
     obtain⟨g,l,x2⟩:=Q;have y0:∀{v:Value},(∃r,od P kt (L k) W=some r/\v=match r with|some v=>(if F then .tuple #[v,.bool true]else v)|none=>(if F then .tuple #[z,.bool false]else z))->
       ∃v',(Instr.lookup t (B m) (B k) F).run P w = .ok v' w/\aB β v v':=by
      rintro v ⟨r,G,rfl⟩;rw[x6];obtain⟨α,Ef,R,hF,Z⟩:=Bs V w g.toList;obtain⟨r',K,O⟩:=ID hF W g.toList 0 l G;have x7:=Z r' K;have hL:(Instr.lookup t (B m) (L k) F).run P w=((do
         Instr.checkKey g.isEmpty 10000 kt (L k)
         let(v,x8) <-match <-Instr.findKey kt (L k) g.toList with
          |some (_,v)=>pure (v,true)
          |none=>pure (<-zeroValue e,false)
         pure (if F then .tuple #[v,.bool x8]else v)):Sem Value).run P w:=by
       rcases x2 with⟨q,rfl⟩|⟨b,A,q,hg⟩
       ·simp only[Instr.lookup,run_bind,aF E,andThen_ok,q,Sem.run_pure];rfl
       ·simp only[Instr.lookup,run_bind,aF E,andThen_ok,q,hg,Sem.run_pure];rfl
      rw[hL];have x4:=yT V g.isEmpty w;simp only[run_bind,x4,andThen_ok,x7];rcases O with⟨rfl,rfl⟩|⟨u,j,u',rfl,rfl,x1⟩
      ·refine⟨if F then .tuple #[z,.bool false]else z,by simp[mP hz],?_⟩;have x0:aB β z z:= .mJ (eh hz).1
       cases F
       ·exact x0
       ·exact CH x0 (.bool _)
      ·refine⟨if F then .tuple #[u',.bool true]else u',by simp,?_⟩
       cases F
       ·exact x1
       ·exact CH x1 (.bool _)
     have:∃r,od P kt (L k) W=some r/\v=match r with|some v=>(if F then .tuple #[v,.bool true]else v)|none=>(if F then .tuple #[z,.bool false]else z):=by
      split at f
      ·next u hf=>exact⟨some u,hf,(oI f).symm⟩
      ·next hf=>exact⟨none,hf,(oI f).symm⟩
      ·cases f
     obtain⟨v',K,O⟩:=y0 this;exact⟨v',fy K,O⟩
    ·cases f
   ·cases f
  ·cases f
 ·next X x9 J=>
  simp only[J];split at f
  ·next x t N ht=>
   have C:=D x;have h0:(X.map B)[0]?=some (B x):=by simp[N]
   have Q:∃n,v = .int .i64 n/\(Builtin.len_ x9 o.type (X.map B)).run P w = .ok (.int .i64 n) w:=by
    simp only[Builtin.len_,ht,h0];split at f
    ·next s E I=>
     rw[I]at C;obtain rfl:=oI f;refine⟨_,rfl,?_⟩;simp only[run_bind,aF E,andThen_ok,C.ew,Sem.run_pure,goInt];simp
    ·next n e y E=>
     obtain rfl:=oI f;refine⟨_,rfl,?_⟩;simp only[run_bind,aF E,andThen_ok,Sem.run_pure,goInt]
    ·next e a n c E I=>
     rw[I]at C;obtain rfl:=oI f;refine⟨_,rfl,?_⟩
     cases a with
     |none=>obtain⟨rfl,rfl,q⟩:=C.eM;simp only[run_bind,aF E,andThen_ok,q,Sem.run_pure,goInt]
     |some a=>obtain⟨a',c',q⟩:=C.IU;simp only[run_bind,aF E,andThen_ok,q,Sem.run_pure,goInt]
    ·next kt e E I=>
     rw[I]at C;obtain rfl:=oI f;refine⟨_,rfl,?_⟩;simp only[run_bind,aF E,andThen_ok,C.BF,Sem.run_pure,goInt]
    ·next kt e r E I=>
     rw[I]at C;split at f
     ·next W G=>
      obtain rfl:=oI f;refine⟨_,rfl,?_⟩;obtain⟨sl,M,x3,q⟩:=C.Gc;obtain⟨_,g,A,hw,l⟩:=U.blk _ _ _ G M;have hg:(getObj sl.b).run P w = .ok (.map g A) w:=by simp[getObj,Sem.run,hw]
      simp only[run_bind,aF E,andThen_ok,q,hg,Sem.run_pure,goInt];rw[l.1];simp
     ·cases f
    ·cases f
   obtain⟨n,rfl,G⟩:=Q;refine⟨.int .i64 n,?_,.int _ _⟩;simp only[resolve,run_bind,Sem.run_pure,andThen_ok,invoke,builtin,G]
  ·cases f
 grind
end
variable{g:aa}
section
variable {β:cO} {P:Program}
def Wr(β:cO)(h:aa)(b:Nat):Prop:=∃k B a,h.get k=some B/\B.wr=true/\β k=some a/\a.b=b
def mr(w a:World):Prop:=a.tape=w.tape/\w.drawn<=a.drawn
theorem mr.refl(w:World):mr w w:=⟨rfl,Nat.le_refl _⟩
theorem mr.trans{b a:World}(h:mr W b)(c:mr b a):mr W a:=⟨c.1.trans h.1,Nat.le_trans h.2 c.2⟩
structure Step(β:cO)(h:aa)(w:World)(β':cO)(h':aa)(w':World):Prop where
 le:β.le β'
 next:h.next<=h'.next
 nS:iJ β' h' w'
 size:w.heap.size<=w'.heap.size
 os:w'.os=w.os
 tape:mr w w'
 output:w'.output=w.output
 kept:∀b,b<w.heap.size->¬Wr β h b->w'.heap[b]?=w.heap[b]?
 back:∀b,b<w.heap.size->Wr β' h' b->Wr β h b
 fresh:∀k sl,β' k=some sl->β k=some sl\/(h.next<=k/\(w.heap.size<=sl.b\/Wr β h sl.b))
 keys:∀k B,h'.get k=some B->k<h.next->∃B₀,h.get k=some B₀
theorem Step.refl(a:iJ β h W):Step β h W β h W:=
 ⟨β.le_refl,Nat.le_refl _,a,Nat.le_refl _,rfl,.refl _,rfl,λ_ _ _=>rfl,λ_ _ h=>h,λ_ _ h=> .inl h,λ_ B h _=>⟨B,h⟩⟩
theorem Step.trans{d:cO}{e:aa}{l j:World}(a:Step β h W J g l)(b:Step J g l d e j):Step β h W d e j where
 le:=cO.le_trans a.le b.le
 next:=Nat.le_trans a.next b.next
 nS:=b.nS
 size:=Nat.le_trans a.size b.size
 os:=b.os.trans a.os
 tape:=a.tape.trans b.tape
 output:=b.output.trans a.output
 kept:=λk c q=>(b.kept k (lt_of_lt_of_le c a.size) λp=>q (a.back k c p)).trans (a.kept k c q)
 back:=λk c p=>a.back k c (b.back k (lt_of_lt_of_le c a.size) p)
 fresh:=λk o c=>by
  rcases b.fresh k o c with f|⟨f,i⟩
  ·exact a.fresh k o f
  ·refine .inr ⟨Nat.le_trans a.next f,?_⟩;rcases i with i|i
   ·exact .inl (Nat.le_trans a.size i)
   ·rcases Nat.lt_or_ge o.b W.heap.size with r|r
    ·exact .inr (a.back _ r i)
    omega
 keys:=λk B c m=>by
  obtain⟨n,f⟩:=b.keys k B c (lt_of_lt_of_le m a.next);exact a.keys k n f m
theorem iJ.of_heap{c:World}(a:iJ β h W)(d:c.heap=W.heap):iJ β h c:=
 ⟨λk b g=>by rw[d];exact a.lt k b g,λk B b e f=>(a.blk k B b e f).of_heap (by rw[d]),a.own,a.wf⟩
theorem Step.of_heap{a:World}(d:iJ β h W)(b:a.heap=W.heap)(e:a.os=W.os)(f:mr W a)(c:a.output=W.output):Step β h W β h a:=
 ⟨β.le_refl,Nat.le_refl _,d.of_heap b,by grind,e,f,c,λ_ _ _=>by rw[b],λ_ _ h=>h,λ_ _ h=> .inl h,λ_ B h _=>⟨B,h⟩⟩
def cO.ext(β:cO)(k:Nat)(a:Slot):cO:=λj=>if j=k then some a else β j
theorem cO.bW(β:cO)(k:Nat)(a:Slot):β.ext k a k=some a:=by simp[cO.ext]
theorem cO.dB(β:cO){k j:Nat}(a:Slot)(h:j≠k):β.ext k a j=β j:=by simp[cO.ext,h]
theorem cO.BM(a:Slot)(h:β k=none):β.le (β.ext k a):=λj c b=>by
 rw[β.dB a (by rintro rfl;rw[h]at b;cases b)];omega
theorem iJ.jQ(b:iJ β h W){k:Nat}(d:h.next<=k):β k=none:=by
 cases a:β k with
 |none=>rfl
 |some c=>exact absurd (b.lt k c a).1 (by omega)
structure oF(β:cO)(w:World)(B:bw)(f:Nat->Value)(v':Value)(w':World):Prop where
 size:w'.heap.size=w.heap.size+1
 os:w'.os=w.os
 tape:mr w w'
 output:w'.output=w.output
 kept:∀b,b<w.heap.size->w'.heap[b]?=w.heap[b]?
 new:∃sl:Slot,sl.b=w.heap.size/\∀(β':cO)(k:Nat),β.le β'->β' k=some sl->zw β' B sl w'/\aB β' (f k) v'
theorem aa.lZ(c:∀k B,h.get k=some B->k<h.next)(B:bw):∀k b,(h.push B).get k=some b->k<(h.push B).next:=λk b a=>by
 rw[h.aM]at a;split at a
 ·simp_all
 ·have:=c k b a;simp;omega
theorem aa.wf_set(c:∀k B,h.get k=some B->k<h.next){j:Nat}(B:bw)(d:j<h.next):∀k b,(h.set j B).get k=some b->k<(h.set j B).next:=λk b a=>by
 rw[h.aw]at a;split at a
 all_goals simp_all
theorem aa.Nm(c:∀k B,h.get k=some B->k<h.next)(j:Nat):∀k a,(h.del j).get k=some a->k<(h.del j).next:=λk a b=>by
 rw[h.dt]at b
 simp_all
theorem oF.step{A:World}(o:iJ β h W){B:bw}{f:Nat->Value}{v':Value}(l:oF β W B f v' A):
  ∃u,Step β h W u (h.push B) A/\aB u (f h.next) v':=by
 obtain⟨e,D,x⟩:=l.new;have s:=o.jQ (Nat.le_refl h.next);have r:β.le (β.ext h.next e):=cO.BM e s;obtain⟨H,F⟩:=x _ h.next r (β.bW _ _);have z:∀k a,β k=some a->a.b<W.heap.size:=λk a d=>(o.lt k a d).2;have y:∀b,b<W.heap.size->Wr (β.ext h.next e) (h.push B) b->Wr β h b:=by
  rintro b t ⟨k,p,a,i,g,j,m⟩;by_cases d:k=h.next
  ·subst d;rw[β.bW]at j
   grind
  ·rw[h.gT k B d]at i;rw[β.dB e d]at j;exact⟨k,p,a,i,g,j,m⟩
 refine⟨β.ext h.next e,⟨r,by simp,⟨?_,?_,?_,aa.lZ o.wf B⟩,by rw[l.size];omega,l.os,l.tape,l.output,λb t _=>l.kept b t,y,?_,?_⟩,F⟩
 ·intro k a d;by_cases c:k=h.next
  ·subst c;rw[β.bW]at d;obtain rfl:=oI d;exact⟨by simp,by rw[l.size,D];omega⟩
  ·rw[β.dB e c]at d;have:=o.lt k a d;exact⟨by simp;omega,by rw[l.size];omega⟩
 ·intro k p a i g;by_cases c:k=h.next
  ·subst c;rw[β.bW]at g;obtain rfl:=oI g;rw[h.gf]at i
   grind
  ·rw[h.gT k B c]at i;rw[β.dB e c]at g;exact((o.blk k p a i g).mono r).of_heap (l.kept _ (z k a g))
 ·intro k v p C a w q i g j m G;by_cases c:k=h.next
  ·subst c;rw[β.bW]at j;obtain rfl:=oI j;rw[β.dB e (Ne.symm q)]at m
   grind
  ·by_cases n:v=h.next
   ·subst n;rw[β.bW]at m;obtain rfl:=oI m;rw[β.dB e q]at j
    grind
   ·rw[h.gT k B c]at i;rw[h.gT v B n]at g;rw[β.dB e c]at j;rw[β.dB e n]at m;exact o.own k v p C a w q i g j m G
 ·intro k a d;by_cases c:k=h.next
  ·subst c;rw[β.bW]at d
   grind
  ·rw[β.dB e c]at d
   grind
 ·intro k p d E;rw[h.gT k B (by omega)]at d
  grind
theorem fb.YL{cs:List Value}{l':List Value}(h:aW β cs l'):fb β cs 0 l'.toArray:=λi v a=>by
 obtain⟨v',b,c⟩:=h.get a
 grind
theorem Eh(n:Nat):Tm (0,0) n:=λx _ h=>absurd h (by simp)
theorem iw{w:World}(o:Obj):(w.alloc o).heap[w.heap.size]?=some o:=by
 unfold World.alloc;grind
theorem kg{w:World}(o:Obj){b:Nat}(h:b<w.heap.size):(w.alloc o).heap[b]?=w.heap[b]?:=by
 simp only[World.alloc,getElem?_push]
 grind
theorem oM{cs l':List Value}{t:TypeId}{f:Nat->Value}{v':Value}(h:aW β cs l')
  (g:∀(a:cO)(k:Nat)(c:Slot),a k=some c->c.b=W.heap.size->c.s=0->c.n=l'.length->c.sz=n->c.isMap=false->aB a (f k) v'):
  oF β W (.cells cs t n true) f v' (W.alloc (.cells l'.toArray t)) where
 size:=by simp
 os:=rfl
 tape:= .refl _
 output:=rfl
 kept:=λb e=>kg _ e
 new:=⟨⟨W.heap.size,0,l'.length,t,n,false⟩,rfl,λa k d i=>
  ⟨⟨rfl,rfl,⟨rfl,λ_=>rfl⟩,l'.toArray,(0,0),iw _,by simp,fb.YL (h.mono d),λ_=>Eh _⟩,g a k _ i rfl rfl rfl rfl rfl⟩⟩
theorem aW.pB{z:Value}(h:plain z=true):aW β z.cells.toList z.cells.toList:=gM.toList.1 (gM.qW h)
theorem nJ{l l':List Value}(h:aW β l l'):∀n,aW β (bG l n) (bG l' n)
 |0=> .nil β
 |n+1=>h.append (nJ h n)
theorem hO(l:List Value):∀n,(bG l n).length=n*l.length
 |0=>by simp[bG]
 |n+1=>by simp[bG,hO l n,add_mul,Nat.add_comm]
theorem zu(l:List Value):∀(n i:Nat),i<n*l.length->(bG l n)[i]?=l[i%l.length]?
 |0,i,h=>by omega
 | n+1,i,h=>by
  have b:0<l.length:=by
   rcases Nat.eq_zero_or_pos l.length with a|a
   ·grind
   ·omega
  simp only[bG];by_cases c:i<l.length
  ·grind[Nat.mod_eq_of_lt]
  ·rw[getElem?_append_right (by omega),zu l n (i-l.length) (by rw[add_mul]at h;omega)]
   grind[Nat.mod_eq_sub_mod]
theorem uu(z:Array Value)(n:Nat)(a:0<z.size):((Array.range (n*z.size)).map (λi=>z[i%z.size]!))=(bG z.toList n).toArray:=by
 apply Array.ext';apply List.ext_getElem?
 grind[zu,hO]
end
section
variable {β:cO} {P:Program}
theorem gZ(e:TypeId)(cs:Array Value)(w:World):(newRow e cs).run P w = .ok ⟨w.heap.size,0,none⟩ (w.alloc (.cells cs e)):=by rfl
theorem Oj(h:J k=some G)(b:G.b=W.heap.size)(c:G.s=0)(a:G.isMap=false):aB J (.pointer (some ⟨k,0,none⟩)) (.pointer (some ⟨W.heap.size,0,none⟩)):=by
 have:=aB.ptr (i:=0) h a
 grind
theorem sg{w:World}{c:Nat}(h:J k=some G)(j:G.b=w.heap.size)(d:G.s=0)(b:G.isMap=false)(e:c<ca->m=c)(f:ca<=c->c-ca<=m)(a:n<=aV c)
  (g:G.sz=0\/m*G.sz<=G.n):aB J (.slice (some ⟨k,0,none⟩) n c) (.slice (some ⟨w.heap.size,0,none⟩) n m):=by
 have:=aB.slice (i:=0) (i':=0) h b e f a (.inl (by rw[d])) (by simpa using g)
 grind
theorem AX{c:Nat}(h:c<ca):aV c=c:=by simp_all[if_neg,aV]
theorem bS(c:Nat):aV (ca+c)=c:=by simp_all[aV]
theorem zU:ca=36893488147419103232:=rfl
def frz(a:Addr)(n:Nat):Obj->Obj
 |.cells c b (e,d)=> .cells c b (if e==d then(a.off,a.off+n)else(min e a.off,max d (a.off+n)))
 |o=>o
theorem ny(w:World)(a:Addr){n:Nat}(c:n≠0)(b:Nat):(w.freeze a n).heap[b]?=if a.block=b then(w.heap[b]?).map (frz a n)else w.heap[b]?:=by
 unfold World.freeze;rw[if_neg c];simp only[Array.getElem?_modify];rfl
theorem yP(w:World)(a:Addr)(n:Nat):(w.freeze a n).heap.size=w.heap.size:=by grind[World.freeze]
theorem qL(w:World)(a:Addr)(n:Nat):(w.freeze a n).os=w.os/\mr w (w.freeze a n)/\(w.freeze a n).output=w.output:=by
 unfold World.freeze;split<;>exact⟨rfl,.refl _,rfl⟩
theorem Bw(b:Nat):∀(q:List (Value×Nat))(a:Array Value),(q.foldl (λcs (c,j)=>cs.setIfInBounds (b+j) c) a).size=a.size
 |[],_=>rfl
 |c::q,a=>by simp only[List.foldl_cons];rw[Bw b q];simp
theorem Ed(b:Nat->Option (Nat×Nat)):∀(l:List (Nat×Value))(a r:Array Value),Instr.fill b a l=some r->r.size=a.size
 |[],a,r,h=>by grind[Instr.fill]
 | (i,v)::l,a,r,h=>by
  simp only[Instr.fill]at h;split at h
  ·cases h
  ·split at h
   ·cases h
   ·rw[Ed b l _ _ h,<-Array.foldl_toList];simp[Bw]
theorem rh(f:Nat->Value)(n:Nat)(h:n=0):(Array.range n).map f = #[]:=by grind
set_option maxHeartbeats 1000000 in
theorem qX{ρ A:Operand->Value}(I:∀x,aB β (ρ x) (A x)){o:Oper}{B:bw}{f:Nat->Value}{w:World}(a:aT P ρ o=some (B,f)):
  ∃v' J,(execOp A o).run P w = .ok (.value v') J/\oF β w B f v' J:=by
 unfold aT at a;unfold execOp;split at a
 ·next t C=>
  simp only[C];split at a
  ·next z M=>
   split at a
   ·next W=>
    simp only[Option.some.injEq,Prod.mk.injEq]at a;obtain⟨rfl,rfl⟩:=a;refine⟨_,_,fy (v:= .pointer (some ⟨w.heap.size,0,none⟩)) (w':=w.alloc (.cells z.cells.toList.toArray t)) ?_,oM (aW.pB (eh M).1) λL k sl y F Y h4 h5 T=>Oj y F Y T⟩;simp[Instr.alloc,mP M,newVar,gZ]
   ·cases a
  ·cases a
 ·next t x C=>
  simp only[C];split at a
  ·next W=>
   simp only[Option.some.injEq,Prod.mk.injEq]at a;obtain⟨rfl,rfl⟩:=a;have Z:=I x;have hj:ρ x≠Ab.jE:=by
    intro e;rw[e]at W
    cases W
   have hc:=Z.cells hj;refine⟨_,_,fy (v:= .pointer (some ⟨w.heap.size,0,none⟩)) (w':=w.alloc (.cells (A x).cells.toList.toArray t)) ?_,oM (gM.toList.1 hc) λL k sl y F Y h4 h5 T=>Oj y F Y T⟩;simp[Instr.box,newVar,gZ]
  ·cases a
 ·next t g u C=>
  simp only[C];split at a
  ·next e hu=>
   split at a
   ·next Q z U M=>
    split at a
    ·next hc=>
     obtain⟨H,S,y9⟩:=hc;split at a
     ·next cs D=>
      split at D
      ·next hj=>
       split at a
       ·next W=>
        simp only[Option.some.injEq,Prod.mk.injEq]at a;obtain⟨rfl,rfl⟩:=a;have R:gM β (bG z.cells.toList g).toArray (bG z.cells.toList g).toArray:=gM.toList.2 (by simpa using nJ (aW.pB (eh M).1) g);have y4:zD β (u.toList.map λp=>(p.1,ρ p.2)) (u.toList.map λp=>(p.1,A p.2)):=zD.map u.toList (·.1) λp _=>I p.2;obtain⟨x0,hf,hr⟩:=vp _ _ _ _ _ _ y4 (by
         intro p hp;simp only[List.mem_map]at hp;obtain⟨q,hq,rfl⟩:=hp;exact all_eq_true.1 hj q hq) R D
        have x4:x0.size=g*Q:=by
         rw[Ed _ _ _ _ hf];simp[hO,H]
        refine⟨_,_,fy (v:= .slice (some ⟨w.heap.size,0,none⟩) g g) (w':=w.alloc (.cells x0.toList.toArray e)) ?_,oM (gM.toList.1 hr) λL k sl y F Y h4 h5 T=>
         sg y F Y T (λ_=>rfl) (λh=>absurd h (by rw[zU];have:g<=g*Q:=Nat.le_mul_of_pos_right _ S;omega))
          (by rw[AX (by rw[zU];have:g<=g*Q:=Nat.le_mul_of_pos_right _ S;omega)];exact Nat.le_refl _) (.inr (by rw[h5,h4];simp[x4]))⟩
        have he:(u.map λ(i,x)=>(i,A x)).toList=(u.toList.map λp=>(p.1,A p.2)):=by simp
        have V:((Array.range (g*Q)).map (z.cells[· % z.cells.size]!))=(bG z.cells.toList g).toArray:=by
         rw[<-H];exact uu z.cells g (by omega)
        simp only[Instr.buildSlice,run_bind,aF hu,andThen_ok,de U,run_ite];rw[if_neg (by omega)];by_cases x1:g*Q=0
        ·rw[if_pos x1];have:g=0:=by rcases Nat.mul_eq_zero.1 x1 with h|h;exact h;omega
         subst this;simp only[bG]at hf;simp only[Sem.run_pure,andThen_ok,he];rw[rh _ _ (by simp)];have y7:Instr.fill (λi=>some (i*Q,Q)) #[] (u.toList.map λp=>(p.1,A p.2))=some x0:=hf;rw[y7];simp[gZ]
        ·rw[if_neg x1];simp only[run_bind,mP M,Sem.run_pure,andThen_ok,V,he,hf];simp[gZ]
       ·cases a
      ·cases D
     ·cases a
    ·cases a
   ·cases a
  ·cases a
 ·next t l c C=>
  simp only[C];have hl:=I l;have hc:=I c;split at a
  ·next e l0 G hu y5 y2=>
   rw[y5]at hl;rw[y2]at hc;split at a
   ·next i z hi M=>
    split at a
    ·next x3=>
     obtain⟨H,S,h0,y,F,Y⟩:=x3;simp only[Option.some.injEq,Prod.mk.injEq]at a;obtain⟨rfl,rfl⟩:=a;have R:aW β (bG z.cells.toList G.toNat) (bG z.cells.toList G.toNat):=nJ (aW.pB (eh M).1) _;have U:au P e=some i.size:=by simp[au,hi]
     refine⟨_,_,fy (v:= .slice (some ⟨w.heap.size,0,none⟩) l0.toNat G.toNat) (w':=w.alloc (.cells (bG z.cells.toList G.toNat).toArray e)) ?_,oM R λL k sl y0 x9 y1 h4 h5 T=>
      sg y0 x9 y1 T (λ_=>rfl) (λh=>absurd h (by rw[zU];omega)) (by rw[AX (by rw[zU];omega)];omega) (.inr (by rw[h5,h4,hO];simp[H]))⟩
     have y3:IntKind.i64.wrap l0=l0:=by rw[wrap_i64];omega
     have x8:IntKind.i64.wrap G=G:=by rw[wrap_i64];omega
     simp only[Instr.makeSlice,run_bind,aF hu,andThen_ok,hl.cX,hc.cX,asInt,asIntOf,Sem.run_pure,rm hi,y3,x8,run_ite];have z0:(i.bytes:Int)*G<=140737488355328:=by rw[Int.mul_comm];exact F
     rw[if_neg (by simp;omega)];simp only[run_askRoom,andThen_ok,de U];by_cases X:G.toNat*i.size=0
     ·rw[if_pos X];have:G.toNat=0:=by rcases Nat.mul_eq_zero.1 X with h|h;exact h;omega
      rw[rh _ _ X,gZ,this];rfl
     ·rw[if_neg X];have V:=uu z.cells G.toNat (by omega);rw[H]at V;simp only[mP M,andThen_ok,H];rw[V,gZ];rfl
    ·cases a
   ·cases a
  ·cases a
 ·next t r C=>
  simp only[C];have K:∀v',v'=Value.map (some w.heap.size)->oF β w (.map []) (λk=> .map (some k)) v' (w.alloc (.map #[] 0)):=λv' he=>
   {
    size:=by simp,os:=rfl,tape:= .refl _,output:=rfl,kept:=λb N=>kg _ N
    new:=⟨⟨w.heap.size,0,0,0,0,true⟩,rfl,λL k _ hk=>⟨⟨rfl,#[],0,iw _,rfl,λi p e h=>by simp at h⟩,by rw[he];exact .map (sl:=⟨w.heap.size,0,0,0,0,true⟩) hk rfl⟩⟩ }
  split at a
  ·next kt e hu=>
   split at a
   ·simp only[Option.some.injEq,Prod.mk.injEq]at a;obtain⟨rfl,rfl⟩:=a;refine⟨_,_,fy (v:= .map (some w.heap.size)) (w':=w.alloc (.map #[] 0)) ?_,K _ rfl⟩;simp[Instr.makeMap]
   ·next x=>
    split at a
    ·next k n Z=>
     have x5:=I x;rw[Z]at x5;simp only[Option.some.injEq,Prod.mk.injEq]at a;obtain⟨rfl,rfl⟩:=a;refine⟨_,_,fy (v:= .map (some w.heap.size)) (w':=w.alloc (.map #[] 0)) ?_,K _ rfl⟩;simp[Instr.makeMap,aF hu,x5.cX,asInt,asIntOf]
    ·cases a
  ·cases a
 ·next s d x C=>
  simp only[C];have Z:=I x;split at a
  ·next ds e E y F ha=>
   rw[ha]at Z;split at a
   ·next he=>
    split at a
    ·next U=>
     simp only[Option.some.injEq,Prod.mk.injEq]at a;obtain⟨rfl,rfl⟩:=a;have x6:(Question.appendCap E.size 0 e).forced=false:=rfl;obtain⟨m,x7,z1⟩:∃m,(Question.appendCap E.size 0 e).cut (w.tape w.drawn (.appendCap E.size 0 e))=m/\E.size<=m:=⟨_,rfl,by simp[Question.cut]⟩
     let j:Array Value:=(E.data.map λb=>Value.int .u8 b.toNat)++Array.replicate (m-E.size) (.int .u8 0)
     have D:j.size=m:=by simp[j];omega
     let O:World:=w.drew.alloc (.cells j e)
     let w2:World:=O.freeze ⟨w.heap.size,m,none⟩ 1
     have K:w2.heap[w.heap.size]?=some (.cells j e (m,m+1)):=by
      have y:O.heap[w.heap.size]?=some (.cells j e):=iw (w:=w.drew) _;simp only[w2,ny _ _ (Nat.succ_ne_zero 0),if_true,y,map_some,frz,BEq.rfl]
     refine⟨_,w2,fy (v:= .slice (some ⟨w.heap.size,0,none⟩) E.size m) (w':=w2) ?_,?_⟩
     ·have y6:O.shape? w.heap.size=some (e,m):=by
       have y:O.heap[w.heap.size]?=some (.cells j e):=iw (w:=w.drew) _;simp[World.shape?,y,D]
      have x2:(convert s d (A x)).run P w=(Conv.stringToBytes e E).run P w:=by
       rw[Z.ew];simp only[convert,run_bind,aF y,aF F,andThen_ok]
       cases ds<;>simp only[aF he,andThen_ok]
      rw[x2];simp only[Conv.stringToBytes,run_bind,run_choose,x6,false_eq_true,if_false,andThen_ok,x7,gZ];show(Sem.run P (markStringish ⟨w.heap.size,0,none⟩) O).andThen _=_;simp only[markStringish,run_bind,run_shape,y6,andThen_ok,run_freeze,Sem.run_pure];rfl
     ·refine{ size:= ?_,os:=rfl,tape:=⟨rfl,Nat.le_succ _⟩,output:=rfl,kept:= ?_,new:=⟨⟨w.heap.size,0,m,e,1,false⟩,rfl,?_⟩ }
      ·simp[w2,O,yP]
      ·intro b N;have:O.heap[b]?=w.heap[b]?:=kg (w:=w.drew) _ N;simp only[w2,ny _ _ (Nat.succ_ne_zero 0)];rw[if_neg (by omega)];exact this
      ·intro L k y8 hk;refine⟨⟨rfl,rfl,⟨rfl,λ_=>rfl⟩,j,(m,m+1),K,D,?_,λ_ x y F=>by rw[D];exact y⟩,?_⟩
       ·intro i v a;simp only[List.getElem?_map,map_eq_some_iff]at a;obtain⟨b,N,rfl⟩:=a;refine⟨_,?_,.int _ _⟩;have hi:i<E.data.size:=by
         have:=(List.getElem?_eq_some_iff.1 N).1;simpa using this
        simp only[j,Nat.zero_add];rw[Array.getElem?_append_left (by simpa using hi)];rw[getElem?_toList]at N;simp[N]
       ·have:E.data.toList.length=E.size:=by simp
        rw[this];exact sg (w:=w) hk rfl rfl rfl (λh=>absurd h (by omega)) (λ_=>by omega) (by rw[bS];exact Nat.le_refl _) (.inr (by simp))
    ·cases a
   ·cases a
  ·cases a
 grind
end
variable{d:List Value}
section
variable {β:cO} {P:Program}
structure At(w w':World)(b:Nat):Prop where
 size:w'.heap.size=w.heap.size
 os:w'.os=w.os
 tape:mr w w'
 output:w'.output=w.output
 kept:∀b',b'≠b->w'.heap[b']?=w.heap[b']?
theorem At.refl(w:World)(b:Nat):At w w b:=⟨rfl,rfl,.refl _,rfl,λ_ _=>rfl⟩
theorem At.trans{d c:World}{b:Nat}(h:At W d b)(a:At d c b):At W c b:=
 ⟨a.size.trans h.size,a.os.trans h.os,h.tape.trans a.tape,a.output.trans h.output,λf e=>(a.kept f e).trans (h.kept f e)⟩
theorem Step.at_{v:World}(o:iJ β h W){k:Nat}{f B:bw}{m:Slot}(z:h.get k=some f)(u:β k=some m)(y:f.wr=true)(n:At W v m.b)(G:zw β B m v):Step β h W β (h.set k B) v:=by
 have A:∀a l d,a≠k->h.get a=some l->β a=some d->d.b≠m.b:=λa l d c e g=>(o.own k a f l m d (Ne.symm c) z e u g y).symm;refine⟨β.le_refl,Nat.le_refl _,⟨?_,?_,?_,aa.wf_set o.wf B (o.lt k m u).1⟩,by rw[n.size];omega,n.os,n.tape,n.output,?_,?_,λ_ _ h=> .inl h,?_⟩
 ·intro a d e;rw[n.size];exact o.lt a d e
 ·intro a l d e g;by_cases c:a=k
  ·subst c;rw[h.dd]at e
   grind
  ·rw[h.bU k a B c]at e;exact(o.blk a l d e g).of_heap (n.kept _ (A a l d c e g))
 ·intro i j w x s q c e g p r F;by_cases t:i=k
  ·subst t;rw[h.bU i j B (Ne.symm c)]at g
   grind
  ·rw[h.bU k i B t]at e;by_cases C:j=k
   ·grind
   ·rw[h.bU k j B C]at g;exact o.own i j w x s q c e g p r F
 ·intro b D E;refine n.kept b ?_;rintro rfl;exact E ⟨k,f,m,z,y,u,rfl⟩
 ·rintro b D ⟨a,l,d,e,g,p,r⟩;by_cases c:a=k
  ·subst c;exact⟨a,f,d,z,y,p,r⟩
  ·rw[h.bU k a B c]at e;exact⟨a,l,d,e,g,p,r⟩
 ·intro a l e g;by_cases c:a=k
  ·grind
  ·rw[h.bU k a B c]at e;grind
def iP(a:Array Value)(o:Nat)(b:List Value):Array Value:=(a.toList.take o++b++a.toList.drop (o+b.length)).toArray
theorem MM(a:Array Value)(o:Nat):iP a o []=a:=by grind[iP]
theorem rA(h:n+c.length<=V.size):(iP V n c).size=V.size:=by grind[iP]
theorem J3(h:n+(c.length+1)<=V.size):iP (V.setIfInBounds n v) (n+1) c=iP V n (v::c):=by
 have a:n<V.toList.length:=by simp;omega
 have b:(V.toList.set n v).take (n+1)=V.toList.take n++[v]:=by
  rw[List.take_succ_eq_append_getElem (by simpa using a),List.take_set_of_le (Nat.le_refl _)];simp
 have d:(V.toList.set n v).drop (n+1+c.length)=V.toList.drop (n+(c.length+1)):=by
  rw[List.drop_set_of_lt (by omega)];congr 1;omega
 simp_all[iP]
theorem MG(w:World){b o:Nat}{a:Array Value}{t:TypeId}{c:Nat×Nat}(v:Value)(e:w.heap[b]?=some (.cells a t c)):
  At w (w.setCell ⟨b,o,none⟩ v) b/\(w.setCell ⟨b,o,none⟩ v).heap[b]?=some (.cells (a.setIfInBounds o v) t c):=by
 refine⟨⟨by simp[World.setCell],rfl,⟨rfl,Nat.le_refl _⟩,rfl,λf d=>?_⟩,?_⟩
 all_goals simp_all[Array.getElem?_modify,Ne.symm,World.setCell]
theorem pD(b o:Nat)(t:TypeId)(e:Nat×Nat):∀(c:List Value)(i:Nat)(a:Array Value)(w:World),w.heap[b]?=some (.cells a t e)->Tm e a.size->o+i+c.length<=a.size->
  (∀v∈c,v.oneCell'=true)->∃d,(storeCells ⟨b,o,none⟩ c i).run P w = .ok () d/\At w d b/\d.heap[b]?=some (.cells (iP a (o+i) c) t e)
 |[],i,a,w,f,_,_,_=>⟨w,rfl,At.refl w b,by grind[MM]⟩
 | v::c,i,a,w,f,h,p,j=>by
  simp only[List.length_cons]at p;have s:w.cell? ⟨b,o+i,none⟩=some a[o+i]:=by rw[lL f];exact getElem?_eq_getElem (by omega)
  have m:w.frozen? ⟨b,o+i,none⟩=false:=by
   simp only[World.frozen?,f];rw[Bool.and_eq_false_iff];by_cases k:e.1<=o+i
   ·right;simp only[decide_eq_false_iff_not];intro n;have:=h _ k n;omega
   ·left;simpa using k
  have x:(store ((⟨b,o,none⟩:Addr).add i) v).run P w = .ok () (w.setCell ⟨b,o+i,none⟩ v):=by
   rw[cG,run_store P w _ v .plain (j v List.mem_cons_self),s];simp[m]
  obtain⟨r,g⟩:=MG w (o:=o+i) v f;obtain⟨d,z,l,y⟩:=pD b o t e c (i+1) _ _ g (by simpa using h) (by simp;omega) λu q=>j u (List.mem_cons_of_mem _ q);refine⟨d,?_,r.trans l,?_⟩
  all_goals grind[run_bind,andThen_ok,J3,storeCells]
theorem aW.scalars{l l':List Value}(h:aW β l l')(d:l.all bc=true):∀v∈l',v.oneCell'=true:=λv c=>by
 obtain⟨i,b,rfl⟩:=List.mem_iff_getElem.1 c;have a:i<l.length:=h.1▸b;exact((h.2 i _ _ (gE a) (gE b)).MC (all_eq_true.1 d _ (List.getElem_mem a))).1
theorem fb.iP{cs:List Value}(h:fb β cs n V)(f:aW β c d)(m:i+c.length<=cs.length)(l:n+i+c.length<=V.size):
  fb β (cs.take i++c++cs.drop (i+c.length)) n (Ab.iP V (n+i) d):=by
 have k:d.length=c.length:=f.1.symm;intro j v a;have g:∀j,(Ab.iP V (n+i) d)[n+j]?=if j<i then V[n+j]? else if j<i+c.length then d[j-i]? else V[n+j]?:=by
  intro j;simp only[Ab.iP,List.getElem?_toArray];by_cases b:j<i
  ·grind
  ·rw[if_neg b];by_cases e:j<i+c.length
   ·rw[if_pos e,getElem?_append_left (by simp;omega),getElem?_append_right (by simp;omega)]
    grind
   ·rw[if_neg e,getElem?_append_right (by simp;omega),getElem?_drop,getElem?_toList]
    grind
 rw[g];by_cases b:j<i
 ·rw[if_pos b];rw[List.append_assoc,getElem?_append_left (by grind),getElem?_take,if_pos b]at a;exact h j v a
 ·rw[if_neg b];by_cases e:j<i+c.length
  ·rw[if_pos e];rw[getElem?_append_left (by grind),getElem?_append_right (by grind)]at a;have:j-(cs.take i).length=j-i:=by simp;omega
   rw[this]at a;exact f.get a
  ·rw[if_neg e];rw[getElem?_append_right (by grind),getElem?_drop]at a;have:i+c.length+(j-(cs.take i++c).length)=j:=by simp;omega
   rw[this]at a;exact h j v a
theorem sh(o:iJ β h W){k i:Nat}{c:Slot}{d f:List Value}{u:aY}(b:storeAt h k i d=some u)(n:β k=some c)(e:aW β d f):
  ∃m,(storeCells ⟨c.b,c.s+i,none⟩ f).run P W = .ok () m/\Step β h W β (u.app h) m:=by
 unfold storeAt at b;split at b
 ·next cs t H q=>
  split at b
  ·next G=>
   obtain⟨A,z⟩:=G;obtain rfl:=oI b;obtain⟨s,y,x,g,p,v,r,a,j⟩:=o.blk k _ c q n;by_cases w:d=[]
   ·subst w;have:=e.dN;subst this;refine⟨W,rfl,Step.at_ o q n rfl (At.refl W _) ?_⟩;simp only[List.append_nil,List.length_nil,Nat.add_zero,List.take_append_drop];exact⟨s,y,x,g,p,v,r,a,j⟩
   ·have D:0<d.length:=List.length_pos_iff.2 w;have l:c.s+i+d.length<=g.size:=by
     obtain⟨v',C,_⟩:=a (i+d.length-1) _ (gE (by omega));have:=(Array.getElem?_eq_some_iff.1 C).1;omega
    obtain⟨m,F,E,B⟩:=pD (P:=P) c.b (c.s+i) t p f 0 g W v (j rfl) (by rw[<-e.1];omega) (e.scalars z);refine⟨m,F,Step.at_ o q n rfl E ⟨s,y,x,_,p,B,?_,a.iP e A l,λ_=>?_⟩⟩
    ·rw[rA (by rw[<-e.1];omega)];exact r
    ·rw[rA (by rw[<-e.1];omega)];exact j rfl
  ·cases b
 grind
end
section
variable {β:cO} {P:Program}
theorem GY{i:TypeInfo}(h:dG P T=some i):P.info? T=some i/\0<i.size/\∃z,i.zero=some z/\z.cells.size=i.size/\zeroOf P T=some z:=by
 unfold dG at h;split at h
 ·next f z b c=>
  split at h
  ·next e=>
   obtain rfl:=oI h;obtain⟨_,j,d,a⟩:=eh c;rw[b]at d;obtain rfl:=oI d;exact⟨b,e.2,z,a,e.1,c⟩
  ·cases h
 grind
theorem pH(N:iJ β h W){d:Nat}{x G:Value}{u:List Value}{m:Nat}(e:cI h d x=some (u,m))(v:aB β x G):
  (∀W,(Builtin.lenOf G).run P W = .ok m W)/\∀j,j<=m->∃l',(∀g,(∀b,b<W.heap.size->g.heap[b]?=W.heap[b]?)->(Builtin.firstCells d j G).run P g = .ok l'.toArray g)/\aW β (u.take (j*d)) l':=by
 unfold cI at e;split at e
 ·simp only[Option.some.injEq,Prod.mk.injEq]at e;obtain⟨rfl,rfl⟩:=e;obtain⟨_,_,rfl⟩:=v.eM;refine⟨λW=>rfl,λj z=>⟨[],λg _=>by simp[Builtin.firstCells],by simp;exact .nil β⟩⟩
 ·simp only[Option.some.injEq,Prod.mk.injEq]at e;obtain⟨rfl,rfl⟩:=e
  cases v
  refine⟨λW=>rfl,λj z=>⟨[],λg _=>?_,by simp;exact .nil β⟩⟩;obtain rfl:j=0:=by omega
  simp[Builtin.firstCells,loadCells,loadCellsFrom]
 ·next k i n c=>
  split at e
  ·next cs t x2 wr hk=>
   split at e
   ·next Y=>
    simp only[Option.some.injEq,Prod.mk.injEq]at e;obtain⟨rfl,rfl⟩:=e;obtain⟨a,i',c',H,hm,_,rfl,x0,x4,x1,Q,x3⟩:=v.fk;obtain⟨_,_,_,D,fr,y,hn,f,_⟩:=N.row hk H;refine⟨λW=>rfl,λj z=>?_⟩;by_cases K:j=0
    ·subst K;exact⟨[],λg _=>by simp[Builtin.firstCells,loadCells,loadCellsFrom],by simp;exact .nil β⟩
    ·have S:i'=a.s+i:=by rcases Q with p|⟨p,w⟩;exact p;exact absurd p (by omega)
     subst S;have M:j*d<=n*d:=Nat.mul_le_mul_right _ z;have o:((cs.drop i).take (j*d)).length=j*d:=by
      simp only[List.length_take,List.length_drop]at Y⊢;omega
     have A:=(N.lt k a H).2;have I:=se (P:=P) y f i (j*d) o;obtain⟨l',hr,l⟩:=I;refine⟨l',λg B=>?_,?_⟩
     ·obtain⟨l2,x5,V⟩:=se (P:=P) (w:=g) (by rw[B _ A];exact y) f i (j*d) o;have:(loadCells ⟨a.b,a.s+i,none⟩ (j*d)).run P g = .ok l'.toArray g:=by
       have X:∀q,q<j*d->W.cell? ((⟨a.b,a.s+i,none⟩:Addr).add q)=some (l'.getD q undef):=by
        intro q r;have E:l'.length=j*d:=by rw[<-l.1,o]
        have R:q<((cs.drop i).take (j*d)).length:=by omega
        have U:=gE R;rw[getElem?_take,if_pos r,getElem?_drop]at U;obtain⟨v',p,_⟩:=f _ _ U;have w:=run_loadCells (P:=P) W ⟨a.b,a.s+i,none⟩ (j*d) (λq=>D.getD (a.s+(i+q)) undef) (by
         intro F T;have J:F<((cs.drop i).take (j*d)).length:=by omega
         have C:=gE J;rw[getElem?_take,if_pos T,getElem?_drop]at C;obtain⟨v2,L,_⟩:=f _ _ C;rw[cG,lL y,show a.s+i+F=a.s+(i+F) by omega,L];simp[Array.getD_eq_getD_getElem?,L])
        rw[hr]at w;simp only[Result.ok.injEq,and_true]at w;have Z:l'=(List.range (j*d)).map λq=>D.getD (a.s+(i+q)) undef:=by simpa using congrArg Array.toList w
        rw[cG,lL y,show a.s+i+q=a.s+(i+q) by omega,p,Z];simp[List.getD,r,Array.getD_eq_getD_getElem?,p]
       have E:l'.length=j*d:=by rw[<-l.1,o]
       have e2:=run_loadCells (P:=P) g ⟨a.b,a.s+i,none⟩ (j*d) (λq=>l'.getD q undef) (by
        intro q r;have:g.cell? ((⟨a.b,a.s+i,none⟩:Addr).add q)=W.cell? ((⟨a.b,a.s+i,none⟩:Addr).add q):=by
         rw[cG];simp[World.cell?,B _ A]
        rw[this];exact X q r)
       rw[e2];congr 2;apply List.ext_getElem?;intro q;by_cases r:q<j*d
       ·simp[r,List.getD,gE (show q<l'.length by omega)]
       ·rw[getElem?_eq_none (by simp;omega),getElem?_eq_none (by omega)]
      exact this
     ·rw[List.take_take,Nat.min_eq_left M];exact l
   ·cases e
  ·cases e
 ·next s=>
  split at e
  ·next O=>
   subst O;simp only[Option.some.injEq,Prod.mk.injEq]at e;obtain⟨rfl,rfl⟩:=e
   cases v.ew
   refine⟨λW=>by simp[Builtin.lenOf],λj z=>⟨(s.data.toList.map λb=>Value.int .u8 b.toNat).take j,λg _=>?_,?_⟩⟩
   ·simp only[Builtin.firstCells,Sem.run_pure];congr 1;apply Array.ext';simp[ByteArray.data_extract,Array.toList_extract]
   ·rw[Nat.mul_one,<-List.map_take];exact aW.map _ λb _=> .int _ _
  ·cases e
 grind
theorem rD{t':TypeId}(h:bZ P t'=true):P.underlying t'=some .string\/ ∃e,P.underlying t'=some (.slice e):=by grind[bZ]
theorem kz{t t' e:TypeId}{i:TypeInfo}(u:P.underlying t=some (.slice e))(z:P.info? e=some i)(g:bZ P t'=true){b:Option Addr}{n c m:Nat}{d:Value}{f:List Value}{w h:World}
  (o:∀w,(Builtin.lenOf d).run P w = .ok m w) (l:(Builtin.firstCells i.size m d).run P w = .ok f.toArray w) (v:n+m<=c)
  (x:(match b with|some a=>storeCells (a.add (n*i.size)) f|none=>pure ():Sem Unit).run P w = .ok () h):
  (Builtin.append_ #[t,t'] T #[.slice b n c,d]).run P w = .ok (.slice b (n+m) c) h:=by
 have s:(#[t,t']:Array TypeId)[0]?=some t:=rfl;have q:(#[t,t']:Array TypeId)[1]?=some t':=rfl;have r:(#[Value.slice b n c,d]:Array Value)[0]?=some (.slice b n c):=rfl;have p:(#[Value.slice b n c,d]:Array Value)[1]?=some d:=rfl;have k:∀w,(sizeOf e).run P w = .ok i.size w:=de (by grind[au]);rcases rD g with j|⟨y,j⟩
 all_goals
  simp only[Builtin.append_,s,q,r,p,run_bind,aF u,andThen_ok,k,aF j,Sem.run_pure,false_eq_true,if_false,o,run_ite];rw[if_pos v];simp only[Bool.not_false,if_true,l,andThen_ok]
  cases b with
  |none=>simp_all
  |some a=>simp_all
theorem mN{t t' ty:TypeId}{i:TypeInfo}{z:Value}(x:P.underlying t=some (.slice T))(r:P.info? T=some i)(D:i.zero=some z)(e:bZ P t'=true){base:Option Addr}{n c m:Nat}{a:Value}
  {olds b:List Value} {w:World} (l:∀w,(Builtin.lenOf a).run P w = .ok m w) (s:(Builtin.firstCells i.size n (.slice base n c)).run P w.drew = .ok olds.toArray w.drew)
  (k:(Builtin.firstCells i.size m a).run P w.drew = .ok b.toArray w.drew) (y:c<n+m) (A:(n+m)*i.bytes<=70368744177664) (C:n+m<=1099511627776):
  (Builtin.append_ #[t,t'] ty #[.slice base n c,a]).run P w = .ok (.slice (some ⟨w.heap.size,0,none⟩) (n+m) (grownCap w (n+m) c T))
   (w.drew.alloc (.cells (olds++b++(Builtin.zeroCells z.cells (grownCap w (n+m) c T-(n+m))).toList).toArray T)):=by
 have u:(#[t,t']:Array TypeId)[0]?=some t:=rfl;have p:(#[t,t']:Array TypeId)[1]?=some t':=rfl;have q:(#[Value.slice base n c,a]:Array Value)[0]?=some (.slice base n c):=rfl;have o:(#[Value.slice base n c,a]:Array Value)[1]?=some a:=rfl;have h:∀w,(sizeOf T).run P w = .ok i.size w:=de (by grind[au]);have f:∀w,(zeroValue T).run P w = .ok z w:=λw=>by simp_all[rm,zeroValue]
 have j:=growslice_fits (need:=n+m) (old:=c) (bytes:=i.bytes) y (by omega);have d:(Question.appendCap (n+m) c T).forced=false:=rfl;have v:IntKind.i64.max=9223372036854775807:=by decide
 rcases rD e with g|⟨B,g⟩
 all_goals
  simp only[Builtin.append_,u,p,q,o,run_bind,aF x,andThen_ok,h,aF g,Sem.run_pure,false_eq_true,if_false,l,run_ite,rm r,false_or,Bool.not_false,if_true];rw[if_neg (by omega),if_neg (by omega),if_neg (by omega)];simp only[run_choose,d,false_eq_true,if_false,andThen_ok,run_askRoom,World.drew_eq,s,k,f,gZ];congr 2
  simp_all[grownCap]
theorem Oy(c:iJ β h W)(k:Nat):iJ β (h.del k) W:=
 ⟨λf l q=>c.lt f l q,λf B l a b=>by
  rw[h.dt]at a;split at a
  ·grind
  ·exact c.blk f B l a b,λj m g i e d n a b o p r=>by
  rw[h.dt]at a b;split at a
  ·grind
  ·split at b
   ·grind
   ·exact c.own j m g i e d n a b o p r,aa.Nm c.wf k⟩
theorem Vr(f:iJ β h W)(k:Nat):Step β h W β (h.del k) W:=
 ⟨β.le_refl,Nat.le_refl _,Oy f k,Nat.le_refl _,rfl,.refl _,rfl,λ_ _ _=>rfl,λb j ⟨c,B,g,a,d,e,i⟩=>⟨c,B,g,by
  rw[h.dt]at a;grind,d,e,i⟩,λ_ _ h=> .inl h,λc B a d=>⟨B,by
  rw[h.dt]at a;grind⟩⟩
theorem Rj{I:World}(s:iJ β h W){k:Nat}{i B:bw}{o sl':Slot}(F:h.get k=some i)(z:β k=some o)(E:i.wr=true)(v:At W I o.b)(t:sl'.b=o.b)
  (N:zw (β.ext h.next sl') B sl' I):Step β h W (β.ext h.next sl') ((h.del k).push B) I:=by
 have P:=(s.lt k o z).1;have D:=s.jQ (Nat.le_refl h.next);have H:β.le (β.ext h.next sl'):=cO.BM sl' D;have j:∀d,d≠h.next->∀g,((h.del k).push B).get d=some g->d≠k/\h.get d=some g:=by
  intro d a g G;rw[(h.del k).gT d B a,h.dt]at G;split at G
  ·cases G
  ·next m=>exact⟨m,G⟩
 have K:((h.del k).push B).get h.next=some B:=(h.del k).gf B;have w:∀d g e,d≠k->h.get d=some g->β d=some e->e.b≠o.b:=λd g e a c f=>(s.own k d i g o e (Ne.symm a) F c z f E).symm;refine⟨H,by simp,⟨?_,?_,?_,aa.lZ (h:=h.del k) (aa.Nm s.wf k) B⟩,by rw[v.size];exact Nat.le_refl _,v.os,v.tape,v.output,?_,?_,?_,?_⟩
 ·intro d e c;rw[v.size];by_cases a:d=h.next
  ·subst a;rw[β.bW]at c;obtain rfl:=oI c;exact⟨by simp,by rw[t];exact(s.lt k o z).2⟩
  ·rw[β.dB sl' a]at c;have:=s.lt d e c;exact⟨by simp;omega,this.2⟩
 ·intro d g e c f;by_cases a:d=h.next
  ·subst a;rw[β.bW]at f;obtain rfl:=oI f;rw[K]at c;obtain rfl:=oI c;exact N
  ·rw[β.dB sl' a]at f;obtain⟨m,c⟩:=j d a g c;exact((s.blk d g e c f).mono H).of_heap (v.kept _ (w d g e m c f))
 ·intro q l u p y x a c f n r O;by_cases C:q=h.next
  ·subst C;rw[β.bW]at n;obtain rfl:=oI n;rw[β.dB _ (Ne.symm a)]at r;obtain⟨m,f⟩:=j l (Ne.symm a) p f;rw[t];exact(w l p x m f r).symm
  ·rw[β.dB _ C]at n;obtain⟨J,c⟩:=j q C u c;by_cases A:l=h.next
   ·subst A;rw[β.bW]at r;obtain rfl:=oI r;rw[t];exact w q u y J c n
   ·rw[β.dB _ A]at r;obtain⟨_,f⟩:=j l A p f;exact s.own q l u p y x a c f n r O
 ·intro b L M;refine v.kept b ?_;rintro rfl;exact M ⟨k,i,o,F,E,z,rfl⟩
 ·rintro b L ⟨d,g,e,c,f,n,r⟩;by_cases a:d=h.next
  ·subst a;rw[β.bW]at n;obtain rfl:=oI n;exact⟨k,i,o,F,E,z,by rw[<-r,t]⟩
  ·rw[β.dB _ a]at n;obtain⟨_,c⟩:=j d a g c;exact⟨d,g,e,c,f,n,r⟩
 ·intro d e c;by_cases a:d=h.next
  ·subst a;rw[β.bW]at c;obtain rfl:=oI c;exact .inr ⟨Nat.le_refl _,.inr ⟨k,i,o,F,E,z,t.symm⟩⟩
  ·rw[β.dB _ a]at c;exact .inl c
 grind
theorem MJ(z:Array Value)(n:Nat):(Builtin.zeroCells z n).size=n*z.size:=by simp[Builtin.zeroCells]
theorem oL{w:World}{e:TypeId}{need cap:Nat}{z:Array Value}(a:aW β c d)(l:c.length=need*n)(q:z.size=n)(t:need<=cap):
  oF β w (.cells c e n true) (λk=> .slice (some ⟨k,0,none⟩) need (ca+need)) (.slice (some ⟨w.heap.size,0,none⟩) need cap) (w.drew.alloc (.cells (d++(Builtin.zeroCells z (cap-need)).toList).toArray e)) where
 size:=by simp
 os:=rfl
 tape:=⟨rfl,Nat.le_succ _⟩
 output:=rfl
 kept:=λb j=>kg (w:=w.drew) _ j
 new:=by
  have f:(d++(Builtin.zeroCells z (cap-need)).toList).toArray.size=cap*n:=by
   simp only[List.size_toArray,List.length_append,Array.length_toList,MJ,q,<-a.1,l,<-add_mul];congr 1;omega
  refine⟨⟨w.heap.size,0,cap*n,e,n,false⟩,rfl,λr k g p=>⟨⟨rfl,rfl,⟨rfl,λ_=>rfl⟩,_,(0,0),iw (w:=w.drew) _,f,?_,λ_=>Eh _⟩,?_⟩⟩
  ·intro i v o;obtain⟨v',s,m⟩:=a.get o;refine⟨v',?_,m.mono g⟩
   grind
  ·exact sg (w:=w) p rfl rfl rfl (λh=>absurd h (by omega)) (λ_=>by omega) (by simp[bS]) (.inr (Nat.le_refl _))
end
section
variable {β:cO} {P:Program}
theorem Dt{l l':List Value}(h:aW β (l.take n) l')(a:l.length=n):aW β l l':=by grind
theorem pf(w:World)(a b:Nat)(e:TypeId):a<=grownCap w a b e:=by simp[grownCap,Question.cut]
theorem QC(l:iJ β h W){k j n c:Nat}{cs:List Value}{e:TypeId}{a:Nat}{o:Bool}{f:Value}(q:h.get k=some (.cells cs e a o))(i:((cs.drop j).take (n*a)).length=n*a)
  (g:aB β (.slice (some ⟨k,j,none⟩) n c) f):∃l',(∀d,(∀b,b<W.heap.size->d.heap[b]?=W.heap[b]?)->(Builtin.firstCells a n f).run P d = .ok l'.toArray d)/\aW β ((cs.drop j).take (n*a)) l':=by
 have m:cI h a (.slice (some ⟨k,j,none⟩) n c)=some ((cs.drop j).take (n*a),n):=by
  simp only[cI,q];rw[if_pos i]
 obtain⟨_,p⟩:=pH (P:=P) l m g;obtain⟨l',r,s⟩:=p n (Nat.le_refl _)
 grind
set_option maxHeartbeats 1000000 in
theorem KV{h:aa}{w:World}(r:iJ β h w){t t' ty:TypeId}{s x s' x' v:Value}{u:aY}(a:aE P t t' s x h=some (v,u))(T:aB β s s')(z3:aB β x x'):
  ∃v' V p,(Builtin.append_ #[t,t'] ty #[s',x']).run P w = .ok v' V/\Step β h w p (u.app h) V/\aB p v v':=by
 unfold aE at a;split at a
 ·next e O=>
  split at a
  ·next i z6=>
   obtain⟨M,u1,z,hz,x0,u5⟩:=GY z6;split at a
   ·next y=>
    split at a
    ·next X m y7=>
     obtain⟨f,x1⟩:=pH (P:=P) r y7 z3;obtain⟨l,y2,d⟩:=x1 m (Nat.le_refl _);split at a
     ·next z8=>
      obtain⟨u0,Q⟩:=z8;have d:=Dt d Q;have K:l.length=m*i.size:=by rw[<-d.1,Q]
      have E:=y2 w λ_ _=>rfl;have N:=y2 w.drew λ_ _=>rfl;split at a
      ·obtain⟨_,_,rfl⟩:=T.eM;split at a
       ·next F=>
        simp only[Option.some.injEq,Prod.mk.injEq]at a;obtain⟨rfl,rfl⟩:=a;subst F;refine⟨_,w,β,kz O M y f E (Nat.le_refl _) (by simp),Step.refl r,.kT⟩
       ·next F=>
        split at a
        ·next U=>
         simp only[Option.some.injEq,Prod.mk.injEq]at a;obtain⟨rfl,rfl⟩:=a;have o:=mN (ty:=ty) (n:=0) (c:=0) (base:=none) (olds:=[]) O M hz y f (by simp[Builtin.firstCells]) N (by omega) (by simpa using U.1) (by omega);have B:=oL (β:=β) (w:=w) (e:=e) (need:=m) (cap:=grownCap w (0+m) 0 e) (z:=z.cells) d Q x0 (by have:=pf w (0+m) 0 e;omega);simp only[Nat.zero_add,List.nil_append]at o B;obtain⟨p,A,H⟩:=B.step r;exact⟨_,_,p,o,A,H⟩
        ·cases a
      ·next k j n c=>
       obtain⟨b,i',I,U,z4,_,rfl,Y,y4,u6,y1,y3⟩:=T.fk;have u3:aV c<=I:=by
        unfold aV;split
        ·next hc=>exact y4 hc
        ·next hc=>rw[Y (by omega)];exact Nat.le_refl _
       split at a
       ·next F=>
        simp only[Option.some.injEq,Prod.mk.injEq]at a;obtain⟨rfl,rfl⟩:=a;subst F;have:l=[]:=List.eq_nil_of_length_eq_zero (by simpa using K);subst this;exact⟨_,w,β,kz O M y f E (by omega) (by simp[storeCells]),Step.refl r,T⟩
       ·next F=>
        split at a
        ·next D=>
         obtain⟨u',A,he⟩:=map_eq_some_iff.1 a;simp only[Prod.mk.injEq]at he;obtain⟨rfl,rfl⟩:=he;have x4:i'=b.s+j:=by rcases y1 with g|⟨g,L⟩;exact g;exact absurd L (by omega)
         subst x4;obtain⟨V,hr,x7⟩:=sh (P:=P) r A U d;refine⟨_,V,β,kz O M y f E (by omega) ?_,x7,.slice U z4 Y y4 D (.inl rfl) y3⟩;dsimp only;rw[cG,add_assoc];exact hr
        ·next D=>
         unfold fI at a;split at a
         ·next R=>
          split at a
          ·next cs C u8 wr hk=>
           split at a
           ·next x6=>
            obtain⟨rfl,rfl,G⟩:=x6;obtain⟨x5,z5,x8⟩:=QC (P:=P) r hk G T;have x2:=z5 w.drew λ_ _=>rfl;have x3:aW β ((cs.drop j).take (n*i.size)++X) (x5++l):=x8.append d;have J:((cs.drop j).take (n*i.size)++X).length=(n+m)*i.size:=by rw[List.length_append,G,Q,add_mul]
            split at a
            ·next W=>
             simp only[Option.some.injEq,Prod.mk.injEq]at a;obtain⟨rfl,rfl⟩:=a;have z7:I=c:=Y W;subst z7;rw[AX W]at D;have o:=mN (ty:=ty) O M hz y f x2 N (by omega) R.1 R.2;have B:=oL (β:=β) (w:=w) (e:=C) (z:=z.cells) x3 J x0 (pf w (n+m) I C);obtain⟨p,A,H⟩:=B.step r;exact⟨_,_,p,o,A,H⟩
            ·next W=>
             split at a
             ·next z2=>
              obtain⟨rfl,u7⟩:=z2;simp only[Option.some.injEq,Prod.mk.injEq]at a;obtain⟨rfl,rfl⟩:=a;by_cases x9:n+m<=I
              ·have x4:i'=b.s+j:=by rcases y1 with g|⟨g,L⟩;exact g;exact absurd L (by omega)
               subst x4;obtain⟨_,u2,y8,S,fr,hw,hn,z0,y6⟩:=r.row hk U;have y9:b.s+j+I*i.size<=b.n:=by
                rcases y3 with g|g
                ·omega
                ·rw[y8]at g;exact g
               have z1:(n+m)*i.size<=I*i.size:=Nat.mul_le_mul_right _ x9;rw[add_mul]at z1;obtain⟨V,hr,ha,hh⟩:=pD (P:=P) b.b (b.s+j+n*i.size) C fr l 0 S w hw (y6 rfl) (by rw[K,hn];omega) (d.scalars u0);have Z:(Ab.iP S (b.s+j+n*i.size+0) l).size=S.size:=rA (by rw[K,hn];omega);refine⟨_,V,β.ext h.next ⟨b.b,b.s+j,b.n,C,i.size,false⟩,kz O M y f E x9 ?_,Rj (sl':=⟨b.b,b.s+j,b.n,C,i.size,false⟩) r hk U rfl ha rfl ?_,?_⟩
               ·dsimp only;rw[cG];exact hr
               ·have y5:β.le (β.ext h.next ⟨b.b,b.s+j,b.n,C,i.size,false⟩):=cO.BM _ (r.jQ (Nat.le_refl _));refine⟨rfl,rfl,⟨rfl,λh0=>absurd h0 (by omega)⟩,_,fr,hh,by rw[Z];exact hn,?_,λ_=>by rw[Z];exact y6 rfl⟩;intro q u hq;simp only[Ab.iP,Nat.add_zero,List.getElem?_toArray];by_cases y0:q<n*i.size
                ·rw[getElem?_append_left (by rw[G];exact y0),getElem?_take,if_pos y0,getElem?_drop]at hq;obtain⟨u',g,L⟩:=z0 _ _ hq;refine⟨u',?_,L.mono y5⟩;have u4:=(Array.getElem?_eq_some_iff.1 g).1;rw[List.append_assoc,getElem?_append_left (by simp;omega),getElem?_take,if_pos (by omega),getElem?_toList,add_assoc];exact g
                ·have z9:=(List.getElem?_eq_some_iff.1 hq).1;rw[J,add_mul]at z9;rw[getElem?_append_right (by rw[G];omega),G]at hq;obtain⟨u',g,L⟩:=d.get hq;refine⟨u',?_,L.mono y5⟩;rw[getElem?_append_left (by simp;omega),getElem?_append_right (by simp;omega)];have:b.s+j+q-(S.toList.take (b.s+j+n*i.size)).length=q-n*i.size:=by simp;omega
                 rw[this];exact g
               ·exact .slice (sl:=⟨b.b,b.s+j,b.n,C,i.size,false⟩) (β.bW _ _) rfl (λh=>absurd h (by omega)) (λ_=>by omega) (by rw[bS];exact Nat.le_refl _) (.inl rfl) (.inr y9)
              ·have o:=mN (ty:=ty) O M hz y f x2 N (by omega) R.1 R.2;have B:=oL (β:=β) (w:=w) (e:=C) (z:=z.cells) x3 J x0 (pf w (n+m) I C);obtain⟨p,A,H⟩:=B.step (Oy r k);exact⟨_,_,p,o,(Vr r k).trans A,H⟩
             ·cases a
           ·cases a
          ·cases a
         ·cases a
      ·cases a
     ·cases a
    ·cases a
   ·cases a
  ·cases a
 grind
end
section
variable {β:cO} {P:Program}
theorem SP(E:iJ β h W){t:TypeId}{ts:List TypeId}{ty:TypeId}{d s i p v:Value}{u:aY}(b:copyV P t d s h=some (v,u))(G:aB β d i)(R:aB β s p):
  ∃v' w A,(Builtin.copy_ (t::ts).toArray ty #[i,p]).run P W = .ok v' w/\Step β h W A (u.app h) w/\aB A v v':=by
 unfold copyV at b;split at b
 ·next e Q=>
  split at b
  ·next sz a n c C=>
   split at b
   ·next cs m D=>
    obtain⟨o,r⟩:=pH (P:=P) E D R;have N:(t::ts).toArray[0]?=some t:=rfl;have l:(#[i,p]:Array Value)[0]?=some i:=rfl;have F:(#[i,p]:Array Value)[1]?=some p:=rfl;obtain⟨K,H,f⟩:=r (min m n) (Nat.min_le_left _ _);have g:=H W λ_ _=>rfl;have q:Nat.min m n=min m n:=rfl;have I:∃y x,i = .slice y n x:=by
     cases a with
     |none=>obtain⟨rfl,rfl,rfl⟩:=G.eM;exact⟨_,_,rfl⟩
     |some a=>obtain⟨y,x,rfl⟩:=G.IU;exact⟨_,_,rfl⟩
    split at b
    ·next U=>
     simp only[Option.some.injEq,Prod.mk.injEq]at b;obtain⟨rfl,rfl⟩:=b;have B:min m n=0:=by omega
     rw[B]at g f;have:K=[]:=by simpa using f.1.symm
     subst this;obtain⟨y,x,rfl⟩:=I;refine⟨.int .i64 0,W,β,?_,Step.refl E,.int _ _⟩;simp only[Builtin.copy_,N,l,F,run_bind,aF Q,andThen_ok,o,de C,q,B,g,goInt]
     cases y<;>simp[storeCells]
    ·next U=>
     split at b
     ·next k j=>
      obtain⟨u',J,L⟩:=map_eq_some_iff.1 b;simp only[Prod.mk.injEq]at L;obtain⟨rfl,rfl⟩:=L;obtain⟨T,V,x,S,Y,_,rfl,Z,x2,x0,M,x1⟩:=G.fk;have O:V=T.s+j:=by rcases M with l|⟨l,F⟩;exact l;exact absurd l (by omega)
      subst O;obtain⟨w,X,z⟩:=sh (P:=P) E J S f;refine⟨.int .i64 (min m n:Nat),w,β,?_,z,.int _ _⟩;simp only[Builtin.copy_,N,l,F,run_bind,aF Q,andThen_ok,o,de C,q,g,Sem.run_pure,goInt,X]
     ·cases b
   ·cases b
  ·cases b
 grind
theorem Ht(z:Array Value):∀n,(Builtin.zeroCells z n).toList=bG z.toList n:=by
 intro n;rcases Nat.eq_zero_or_pos z.size with h|h
 all_goals grind[hO,List.eq_nil_of_length_eq_zero,uu,Builtin.zeroCells]
theorem Pk(p:iJ β h W){t:TypeId}{ty:TypeId}{x r v:Value}{u:aY}(a:Lc P t x h=some (v,u))(F:aB β x r):
  ∃v' d g,(Builtin.clear_ #[t] ty #[r]).run P W = .ok v' d/\Step β h W g (u.app h) d/\aB g v v':=by
 unfold Lc at a;split at a
 ·next e k j n c D=>
  split at a
  ·next z B=>
   obtain⟨i,l,o,E,H,_,rfl,I,L,J,y,K⟩:=F.fk;have A:(#[t]:Array TypeId)[0]?=some t:=rfl;have b:(#[Value.slice (some ⟨i.b,l,none⟩) n o]:Array Value)[0]?=some (.slice (some ⟨i.b,l,none⟩) n o):=rfl;split at a
   ·next m=>
    subst m;simp only[Option.some.injEq,Prod.mk.injEq]at a;obtain⟨rfl,rfl⟩:=a;refine⟨undef,W,β,?_,Step.refl p,.undef β⟩;simp only[Builtin.clear_,A,b,run_bind,aF D,andThen_ok];rfl
   ·next m=>
    obtain⟨N,q,w⟩:=map_eq_some_iff.1 a;simp only[Prod.mk.injEq]at w;obtain⟨rfl,rfl⟩:=w;have C:l=i.s+j:=by rcases y with b|⟨b,M⟩;exact b;exact absurd b (by omega)
    subst C;obtain⟨d,G,f⟩:=sh (P:=P) p q E (nJ (aW.pB (eh B).1) n);refine⟨undef,d,β,?_,f,.undef β⟩;obtain⟨s,rfl⟩:∃s,n=s+1:=⟨n-1,by omega⟩
    simp only[Builtin.clear_,A,b,run_bind,aF D,andThen_ok,mP B,Ht,G];rfl
  ·cases a
 grind
theorem sX(i:iJ β h W){t u J:TypeId}{r:Nat}{s m:List (Value×Value)}{k E x l:Value}(V:P.underlying t=some (.map u J))(w:kO P u k=true)
  (A:h.get r=some (.map s)) (z:ju P u k x s=some m) (G:aB β (.map (some r)) E) (H:aB β x l):
  ∃B,(Instr.mapUpdate t E k l).run P W = .ok () B/\Step β h W β (h.set r (.map m)) B:=by
 obtain⟨c,g,f,rfl⟩:=G.Gc;obtain⟨_,b,a,I,y⟩:=i.blk _ _ _ A g;have N:c.b<W.heap.size:=(i.lt _ _ g).2;have Y:(getObj c.b).run P W = .ok (.map b a) W:=by simp[getObj,Sem.run,I]
 have L:∀o,(setObj c.b o).run P W = .ok () { W with heap:=W.heap.setIfInBounds c.b o }:=λo=>by grind[setObj,Sem.run]
 have n:∀o,At W { W with heap:=W.heap.setIfInBounds c.b o } c.b/\({ W with heap:=W.heap.setIfInBounds c.b o }:World).heap[c.b]?=some o:=λo=>
  ⟨⟨by simp,rfl,⟨rfl,Nat.le_refl _⟩,rfl,λX O=>by grind⟩,by grind⟩
 have Q:=yT w false W;have F:=Aa w;obtain⟨T,S,R,M,d⟩:=Bs w W b.toList;rcases yR M F H s b.toList y z 0 a with⟨j,e,q,D,U,K⟩|⟨q,D⟩
 ·have C:=d _ q;obtain⟨v,p⟩:=n (.map (b.modify j λe=>{ e with key:=k,val:=l }) a);refine⟨_,?_,Step.at_ i A g rfl v ⟨f,_,a,p,by simpa using K⟩⟩
  simp_all[DD,aF,Instr.mapUpdate,Instr.keyThatStays]
 ·have C:=d _ q;obtain⟨v,p⟩:=n (.map (b.push { key:=k,val:=l,born:=a }) (a+1));refine⟨_,?_,Step.at_ i A g rfl v ⟨f,_,a+1,p,by simpa using D⟩⟩
  simp_all[aF,Instr.mapUpdate]
end
section
variable {β:cO} {P:Program}
theorem BO(h:P.cellsOf T=n)(f:0<n)(a b d:Nat)(g:b%n=0)(e:b/n+d<=a):liesAt P P.depth T a b T d=true:=by
 have c:P.depth=(2*(P.types.size+Made.depth)+1)+1:=rfl;rw[c];simp only[liesAt,Bool.or_eq_true]
 grind[rowAt,sameLayout]
theorem AZ(h:au P T=some n):P.cellsOf T=n:=by
 obtain⟨i,a,rfl⟩:=lX h
 grind[Program.cellsOf]
theorem At.freeze(w:World)(a:Addr)(n:Nat):At w (w.freeze a n) a.block:=
 ⟨yP w a n,(qL w a n).1,(qL w a n).2.1,(qL w a n).2.2,λb d=>by
  by_cases c:n=0
  ·subst c;rfl
  ·rw[ny w a c,if_neg (Ne.symm d)]⟩
theorem nN:∀{l:List Value}{a:List UInt8},bytesOf l=some a->l=a.map λb=>Value.int .u8 b.toNat
 |[],a,h=>by grind[bytesOf]
 | v::l,a,h=>by
  unfold bytesOf at h;split at h
  ·next e=>cases e
  ·next n r e=>
   simp only[List.cons.injEq]at e;obtain⟨rfl,rfl⟩:=e;split at h
   ·next f=>
    obtain⟨d,c,rfl⟩:=map_eq_some_iff.1 h;rw[List.map_cons,<-nN c];congr 2;have:(UInt8.ofNat n.toNat).toNat=n.toNat:=by
     simp[UInt8.toNat_ofNat'];omega
    omega
   ·cases h
  grind
set_option maxHeartbeats 1000000 in
theorem yr{h:aa}{w:World}(B:iJ β h w){k i:Nat}{n:Int}{kk:IntKind}{f e:TypeId}{cs:List Value}{l:List UInt8}{y:Value}{ats:Array TypeId}{ty:TypeId}(F:h.get k=some (.cells cs e 1 true))(z:ats[0]?=some f)
  (N:P.underlying f=some (.pointer e)) (C:au P e=some 1) (W:0<n) (U:n<9223372036854775807) (A:((cs.drop i).take n.toNat).length=n.toNat) (t:bytesOf ((cs.drop i).take n.toNat)=some l) (R:aB β (.pointer (some ⟨k,i,none⟩)) y):
  ∃v,(Builtin.unsafeString_ ats ty #[y,.int kk n]).run P w = .ok (strOf l) v/\Step β h w β (h.set k (.cells cs e 1 false)) v:=by
 obtain⟨a,m,X,rfl⟩:=R.rW;obtain⟨E,T,O,c,L,q,H,b,V⟩:=B.blk _ _ _ F m;refine⟨w.freeze ⟨a.b,a.s+i,none⟩ n.toNat,?_,Step.at_ B F m rfl (At.freeze w _ _) ?_⟩
 ·have o:l.length=n.toNat:=by
   have:=congrArg List.length (nN t);rw[A]at this;simpa using this.symm
  have I:a.s+i+n.toNat<=c.size:=by
   have u:i+n.toNat-1<cs.length:=by simp only[List.length_take,List.length_drop]at A;omega
   obtain⟨v',p,_⟩:=b _ _ (gE u);have:=(Array.getElem?_eq_some_iff.1 p).1;omega
  have G:w.shape? a.b=some (e,c.size):=by simp[World.shape?,q]
  have J:=AZ C;have g:liesAt P P.depth e (c.size/P.cellsOf e) (a.s+i) e n.toNat=true:=BO J (by omega) _ _ _ (by omega) (by grind);have K:(loadBytes ⟨a.b,a.s+i,none⟩ .empty n.toNat).run P w = .ok (⟨l.toArray⟩:ByteArray) w:=by
   rw[<-o];rw[Lib.run_loadBytes (P:=P) w l ⟨a.b,a.s+i,none⟩ .empty]
   ·simp
   ·intro j x S;have d:((cs.drop i).take n.toNat)[j]?=some (.int .u8 x.toNat):=by rw[nN t];simp[S]
    rw[getElem?_take,getElem?_drop]at d;split at d
    ·obtain⟨v',p,M⟩:=b _ _ d;rw[cG,lL q,show a.s+i+j=a.s+(i+j) by omega,p,M.cX]
    grind
  have Q:IntKind.i64.max=9223372036854775807:=by decide
  have r:Builtin.unsafeString_ ats ty #[.pointer (some ⟨a.b,a.s+i,none⟩),.int kk n] =
    (do
     let n <-asInt (.int kk n)
     let some f:=ats[0]?|stuck "unsafe.String: no argument types"
     if n<0 then runtimePanic (.error "unsafe.String: len out of range")
     if n>IntKind.i64.max then unsupported (.unsafePointer "String: a length above the largest int")
     if n=0 then pure (.string .empty)
     else if <-variablesAt ⟨a.b,a.s+i,none⟩ (<-elemOf f) n.toNat then do
      let s <-loadBytes ⟨a.b,a.s+i,none⟩ .empty n.toNat
      freeze ⟨a.b,a.s+i,none⟩ n.toNat
      pure (.string s)
     else unsupported (.unsafePointer "String: not so many bytes at ptr")):=rfl
  rw[r];simp only[run_bind,asInt,asIntOf,Sem.run_pure,andThen_ok,z,run_ite];rw[if_neg (by omega),if_neg (by omega),if_neg (by omega)];simp only[elemOf,run_bind,aF N,Sem.run_pure,andThen_ok,variablesAt,run_program,run_shape,G,g,if_true,K,run_freeze];rfl
 ·have D:(w.freeze ⟨a.b,a.s+i,none⟩ n.toNat).heap[a.b]?=some (frz ⟨a.b,a.s+i,none⟩ n.toNat (.cells c e L)):=by
   rw[ny w _ (by omega)];simp[q]
  exact⟨E,T,O,c,_,D,H,b,λh=>by cases h⟩
end
section
variable {β:cO} {P:Program}
def aej(r:Result Next)(v':Value)(a:World):Prop:=r = .ok (.value v') a\/(r = .ok .skip a/\v'=undef)
def bu(o:Oper):Bool:=match o.op with
 |.call { callee:= .value _,.. }=>true
 |_=>false
theorem N7{c:Array Operand}{a b:Operand}(h:c.toList=[a,b]):c.map r = #[r a,r b]:=by
 apply Array.ext';simp[h]
set_option maxHeartbeats 2000000 in
theorem EA{ρ B:Operand->Value}(q:∀x,aB β (ρ x) (B x)){cf:ck}{o:Oper}(z6:bu o=false){v:Value}{u:aY}{h:aa}{w:World}(I:iJ β h w)(b:cL P cf ρ o h=some (v,u)):
  ∃v' G M,aej ((execOp B o).run P w) v' G/\Step β h w M (u.app h) G/\aB M v v':=by
 unfold cL at b;unfold execOp;split at b
 ·next t a x E=>
  simp only[E];have Q:=q a;have hx:=q x;split at b
  ·next k i y7=>
   rw[y7]at Q;obtain⟨D,V,F,U⟩:=Q.rW;split at b
   ·next N=>
    obtain⟨u',S,y3⟩:=map_eq_some_iff.1 b;simp only[Prod.mk.injEq]at y3;obtain⟨rfl,rfl⟩:=y3;have hj:ρ x≠Ab.jE:=by
     intro e;rw[e]at S;unfold storeAt at S;split at S
     ·split at S
      ·next K=>exact absurd K.2 (by simp[Value.cells,bc])
      ·cases S
     ·cases S
    have K:=hx.cells hj;obtain⟨G,L,g⟩:=sh (P:=P) I S V (gM.toList.1 K);refine⟨undef,G,β,.inr ⟨?_,rfl⟩,g,.undef β⟩;have z8:(storeVar t ⟨D.b,D.s+i,none⟩ (B x)).run P w = .ok () G:=by
     simp only[storeVar,run_bind,de N,andThen_ok,run_ite];rw[if_neg (by simp[K.1])];exact L
    simp only[Instr.storeAt,run_bind,U,Instr.sureAddr,Sem.run_pure,andThen_ok,z8]
   ·cases b
  ·cases b
 ·next t m k x E=>
  simp only[E];have F:=q m;have W:=q k;split at b
  ·next kt et r hu x9=>
   rw[x9]at F;split at b
   ·next es L=>
    split at b
    ·next Z=>
     obtain⟨z1,x3,U⟩:=map_eq_some_iff.1 b;simp only[Prod.mk.injEq]at U;obtain⟨rfl,rfl⟩:=U;obtain⟨G,x1,g⟩:=sX (P:=P) I hu Z L x3 F (q x);exact⟨undef,G,β,.inr ⟨by rw[W.ph (Aa Z)];simp[x1],rfl⟩,g,.undef β⟩
    ·cases b
   ·cases b
  ·cases b
 ·next t m k x E=>
  simp only[E];have F:=q m;have W:=q k;split at b
  ·next kt et r hu x9=>
   rw[x9]at F;split at b
   ·next es L=>
    split at b
    ·next Z=>
     obtain⟨z1,x3,U⟩:=map_eq_some_iff.1 b;simp only[Prod.mk.injEq]at U;obtain⟨rfl,rfl⟩:=U;obtain⟨G,x1,g⟩:=sX (P:=P) I hu Z L x3 F (q x);exact⟨undef,G,β,.inr ⟨by rw[W.ph (Aa Z)];simp[x1],rfl⟩,g,.undef β⟩
    ·cases b
   ·cases b
  ·cases b
 ·next f p C E=>simp[bu,E]at z6
 ·next p C E=>
  simp only[E];split at b
  ·next s x t t' Q ht=>
   obtain⟨v',G,M,L,g,x0⟩:=KV (P:=P) (ty:=o.type) I b (q s) (q x);refine⟨v',G,M,.inl ?_,g,x0⟩;have A:C = #[t,t']:=by apply Array.ext';simp[ht]
   simp only[resolve,run_bind,Sem.run_pure,andThen_ok,invoke,builtin,N7 Q,A,L]
  ·cases b
 ·next p C E=>
  simp only[E];split at b
  ·next d s t ts Q ht=>
   obtain⟨v',G,M,L,g,x0⟩:=SP (P:=P) (ts:=ts) (ty:=o.type) I b (q d) (q s);refine⟨v',G,M,.inl ?_,g,x0⟩;have A:C=(t::ts).toArray:=by apply Array.ext';simp[ht]
   simp only[resolve,run_bind,Sem.run_pure,andThen_ok,invoke,builtin,N7 Q,A,L]
  ·cases b
 ·next p C E=>
  simp only[E];have O:aW β (p.toList.map ρ) (p.toList.map B):=aW.map _ λx _=>q x;split at b
  ·next x t F ht=>
   rw[F]at O;obtain⟨y,r,Y,H,J⟩:=O.cA;have:=J.dN;subst this;obtain⟨v',G,M,L,g,x0⟩:=Pk (P:=P) (ty:=o.type) I b H;refine⟨v',G,M,.inl ?_,g,x0⟩;have A:C = #[t]:=by apply Array.ext';simp[ht]
   have Q:p.map B = #[y]:=by apply Array.ext';simp[Y]
   simp only[resolve,run_bind,Sem.run_pure,andThen_ok,invoke,builtin,Q,A,L]
  ·cases b
 ·next p C E=>
  simp only[E];have O:aW β (p.toList.map ρ) (p.toList.map B):=aW.map _ λx _=>q x;split at b
  ·next n c F=>
   rw[F]at O;obtain⟨y,r,Y,H,J⟩:=O.cA;have:=J.dN;subst this;obtain⟨rfl,rfl,rfl⟩:=H.eM;simp only[Option.some.injEq,Prod.mk.injEq]at b;obtain⟨rfl,rfl⟩:=b;have A:p.map B = #[.slice none 0 0]:=by apply Array.ext';simp[Y]
   refine⟨.pointer none,w,β,.inl ?_,Step.refl I,.nilPtr⟩;simp only[resolve,run_bind,Sem.run_pure,andThen_ok,invoke,builtin,A,Lib.run_unsafeSliceData_nil]
  ·next a n c F=>
   rw[F]at O;obtain⟨y,r,Y,H,J⟩:=O.cA;have:=J.dN;subst this;obtain⟨ab,ao,z3⟩:=a;have R:z3=none\/ ¬0<aV c:=by
    rcases H.tQ with⟨k',i',e⟩|⟨_,_,u0,_⟩
    ·injection e with _ _ e;exact .inl e
    ·subst u0;exact .inr (by unfold aV;rw[if_neg (by decide)];decide)
   rcases R with R|R
   rotate_left
   ·rw[if_neg R]at b;cases b
   subst R;obtain⟨D,i',c',V,y9,z5,rfl,z2,z7,u3,z4,u4⟩:=H.fk;clear z5;split at b
   ·next K=>
    simp only[Option.some.injEq,Prod.mk.injEq]at b;obtain⟨rfl,rfl⟩:=b;have u2:aV c<=c':=by
     unfold aV;split
     ·next K=>exact z7 K
     ·next K=>rw[z2 (by omega)];exact Nat.le_refl _
    have z9:i'=D.s+ao:=by rcases z4 with h1|⟨h1,h2⟩;exact h1;exact absurd h2 (by omega)
    subst z9;have A:p.map B = #[.slice (some ⟨D.b,D.s+ao,none⟩) n c']:=by apply Array.ext';simp[Y]
    refine⟨.pointer (some ⟨D.b,D.s+ao,none⟩),w,β,.inl ?_,Step.refl I,.ptr V y9⟩;simp only[resolve,run_bind,Sem.run_pure,andThen_ok,invoke,builtin,A,Lib.run_unsafeSliceData_row (P:=P) w C o.type ⟨D.b,D.s+ao,none⟩ n c' (by omega)]
   ·cases b
  ·cases b
 ·next p C E=>
  simp only[E];have O:aW β (p.toList.map ρ) (p.toList.map B):=aW.map _ λx _=>q x;split at b
  ·next kk pt F x5=>
   rw[F]at O;obtain⟨y,r,Y,H,J⟩:=O.cA;obtain⟨z,r2,rfl,x7,x2⟩:=J.cA;have:=x2.dN;subst this
   cases H.LD
   cases x7.cX
   simp only[Option.some.injEq,Prod.mk.injEq]at b;obtain⟨rfl,rfl⟩:=b;have A:p.map B = #[.pointer none,.int kk 0]:=by apply Array.ext';simp[Y]
   refine⟨strOf [],w,β,.inl ?_,Step.refl I,.string _⟩;have u1:IntKind.i64.max=9223372036854775807:=by decide
   have y6:Builtin.unsafeString_ C o.type #[.pointer none,.int kk 0] =
     (do
      let n <-asInt (.int kk 0)
      let some pt:=C[0]?|stuck "unsafe.String: no argument types"
      if n<0 then runtimePanic (.error "unsafe.String: len out of range")
      if n>IntKind.i64.max then unsupported (.unsafePointer "String: a length above the largest int")
      if n=0 then pure (.string .empty)
      else runtimePanic (.error "unsafe.String: ptr is nil and len is not zero")):=rfl
   simp only[resolve,run_bind,Sem.run_pure,andThen_ok,invoke,builtin,A,y6,asInt,asIntOf,x5,run_ite];rw[if_neg (by omega),if_neg (by omega)];rfl
  ·next k i kk n pt F x5=>
   rw[F]at O;obtain⟨y,r,Y,H,J⟩:=O.cA;obtain⟨z,r2,rfl,x7,x2⟩:=J.cA;have:=x2.dN;subst this
   cases x7.cX
   have A:p.map B = #[y,.int kk n]:=by apply Array.ext';simp[Y]
   split at b
   ·next cs e e' W hu=>
    split at b
    ·next K=>
     obtain⟨rfl,N,hn,y8,y5⟩:=K;split at b
     ·next l V=>
      simp only[Option.some.injEq,Prod.mk.injEq]at b;obtain⟨rfl,rfl⟩:=b;obtain⟨G,L,g⟩:=yr (P:=P) (kk:=kk) (ats:=C) (ty:=o.type) I W x5 hu N hn y8 y5 V H;refine⟨strOf l,G,β,.inl ?_,g,.string _⟩;simp only[resolve,run_bind,Sem.run_pure,andThen_ok,invoke,builtin,A,L]
     ·cases b
    ·cases b
   ·cases b
  ·cases b
 ·next s d x E=>
  simp only[E];have hx:=q x;split at b
  ·next t k h1 h2 Q=>
   rw[Q]at hx;split at b
   ·next cs t' wr W=>
    split at b
    ·next K=>
     obtain⟨rfl,N,X⟩:=K;simp only[Option.some.injEq,Prod.mk.injEq]at b;obtain⟨rfl,rfl⟩:=b;obtain⟨D,V,F,U⟩:=hx.rW;obtain⟨_,_,_,x4,fr,hw,hn,T,_⟩:=I.row W V;obtain⟨j,hj,z0⟩:=lX N;obtain⟨v0,x6,_⟩:=T 0 _ (gE X);have y1:=(Array.getElem?_eq_some_iff.1 x6).1;have x8:w.shape? D.b=some (t,x4.size):=by simp[World.shape?,hw]
     refine⟨B x,w,β,.inl ?_,Step.refl I,q x⟩;rw[U];simp only[run_bind,Lib.run_to_unsafe (P:=P) w ⟨D.b,D.s+0,none⟩ h1 h2 hj (by omega) x8 y1,andThen_ok,Sem.run_pure]
    ·cases b
   ·cases b
  ·next t k h1 h2 Q=>
   rw[Q]at hx;split at b
   ·next cs t' wr W=>
    split at b
    ·next K=>
     obtain⟨rfl,N,X⟩:=K;simp only[Option.some.injEq,Prod.mk.injEq]at b;obtain⟨rfl,rfl⟩:=b;obtain⟨D,V,F,U⟩:=hx.rW;have y2:=I.nQ W V;obtain⟨_,_,_,x4,fr,hw,hn,T,_⟩:=I.row W V;obtain⟨j,hj,z0⟩:=lX N;have y4:=AZ N;obtain⟨v0,x6,_⟩:=T (cs.length-1) _ (gE (by omega));have y1:=(Array.getElem?_eq_some_iff.1 x6).1;have x8:w.shape? D.b=some (t,x4.size):=by simp[World.shape?,hw]
     have y0:liesAt P P.depth t (x4.size/P.cellsOf t) (D.s+0) t 1=true:=by
      refine BO y4 X _ _ _ (by rw[y2];simp) ?_;rw[y2,y4];simp only[Nat.add_zero,Nat.zero_div,Nat.zero_add];exact(Nat.le_div_iff_mul_le X).2 (by omega)
     refine⟨B x,w,β,.inl ?_,Step.refl I,q x⟩;rw[U];simp only[run_bind,Lib.run_from_unsafe (P:=P) w ⟨D.b,D.s+0,none⟩ h1 h2 hj x8 y0,andThen_ok,Sem.run_pure]
    ·cases b
   ·cases b
  ·cases b
 grind
end
variable{f:FuncId}{U:Array Oper}
section
variable {β:cO} {P:Program} {gl:Nat->Bool}
def jt(r:Option Nat):Fence:={ Fence.wide with round:=r }
theorem sT{r:Option Nat}{R:Ending->World->Prop}(h:Calls P f V W R):CallsIn (jt r) n P f V W R:=
 (callsIn_wide (n:=n)).2 h
def Gl(gl:Nat->Bool)(β:cO):Prop:=∀g,gl g=true->∃a,β g=some a/\a.b=g/\a.s=0/\a.isMap=false
theorem Gl.mono{β:cO}(h:Gl gl β)(a:β.le J):Gl gl J:=λg e=>let⟨c,b,d⟩:=h g e;⟨c,a _ _ b,d⟩
theorem aW.getD{l l':List Value}(h:aW β l l')(i:Nat):aB β (l.getD i undef) (l'.getD i undef):=by
 by_cases b:i<l.length
 ·have a:i<l'.length:=h.1▸b;simp only[List.getD,gE b,gE a,Option.getD_some];exact h.2 i _ _ (gE b) (gE a)
 ·have a:l'.length<=i:=by rw[<-h.1];omega
  simp only[List.getD,getElem?_eq_none (Nat.le_of_not_lt b),getElem?_eq_none a,Option.getD_none];exact .undef β
theorem FJ{a:Act}(j:Gl gl β)(e:aW β c a.tmps.toList)(x:Operand):aB β (ev gl c x) (a.eval x):=by
 cases x with
 |tmp t=>
  simp only[ev,Act.eval];have:=e.getD t
  simp_all
 |const v=>
  simp only[ev,Act.eval];split
  ·next h=>exact .mJ h
  ·exact .jE v
 | global g=>
  simp only[ev,Act.eval];split
  ·next h=>
   obtain⟨l,b,m,k,d⟩:=j g h;have:=aB.ptr (i:=0) b d
   grind
  ·exact .jE _
 |func f=>
  simp only[ev,Act.eval];exact .func rfl rfl rfl (λi v v' h=>by grind) (λi v v' h=>by grind)
theorem px{a:Act}(g:aW β c a.tmps.toList)(b:Option Tmp){v v':Value}(k:aB β v v'):aW β (eZ c b v) (a.put b v').tmps.toList:=by
 cases b with
 |none=>exact g
 | some d=>
  simp only[eZ,Act.put,Array.toList_setIfInBounds];refine⟨by simp[g.1],λi u j e f=>?_⟩;rw[List.getElem?_set]at e f;split at e
  ·grind
  ·next h=>
   rw[if_neg h]at f;exact g.2 i u j e f
theorem put_defers(a:Act)(b:Option Tmp)(v:Value):(a.put b v).defers=a.defers:=by cases b<;>rfl
theorem Ej{l:List Value}(h:l.getD n undef = .bool b):l[n]?=some (.bool b):=by
 rw[gD]at h
 cases a:l[n]? with
 |none=>rw[a]at h;cases h
 |some v=>grind
theorem By{l:List Value}(h:l.getD n undef = .tuple V):l[n]?=some (.tuple V)\/l[n]?=none:=by grind
theorem pO{a:Act}(l:aW β c a.tmps.toList){o:Oper}{b:Bool}(h:dY U c o=some b):Region.wanted o (yielded U a.tmps)=b:=by
 unfold dY at h;unfold Region.wanted;split at h
 ·grind
 ·next j g n=>
  rw[n];simp only[yielded];split at h
  ·next d k=>
   rw[k];simp only[Option.bind_some];split at h
   ·next m e=>
    obtain⟨v',f,i⟩:=l.get (Ej e);rw[i.jv]at f;rw[getElem?_toList]at f;rw[f];simp only[Option.some.injEq]at h;subst h
    cases m<;>cases g<;>rfl
   ·next q e=>
    simp only[Option.some.injEq]at h;subst h;rcases By e with e|e
    ·obtain⟨v',f,i⟩:=l.get e;obtain⟨p,rfl,_⟩:=i.rX;rw[getElem?_toList]at f;rw[f];rfl
    ·have k:a.tmps[d]?=none:=by
      rw[<-getElem?_toList];exact getElem?_eq_none (by rw[<-l.1];exact List.getElem?_eq_none_iff.1 e)
     rw[k];rfl
   ·cases h
  grind
def qB(β:cO)(h:aa)(w:World)(v:Value)(c:aa):Ending->World->Prop:=λe b=>∃v' a,e = .returned v'/\Step β h w a c b/\aB a v v'
def aek(P:Program)(gl:Nat->Bool)(i:ck):Prop:=
 ∀f b h v d,f<YB->i f b h=some (v,d)->∀β w (a:Array Value),iJ β h w->Gl gl β->aW β b a.toList->
  ∃g,P.funcs[f]?=some g/\((g.body.isSome=true/\Calls P f a w (qB β h w v d))\/
   (∃v' e c,(callFunc f a).run P w = .ok (.value v') e/\Step β h w c d e/\aB c v v'))
def aeo(P:Program)(gl:Nat->Bool)(j:ck):Prop:=
 ∀k d h v i,j (YB+k) d h=some (v,i)->∀β w (a:Array Value) e,iJ β h w->Gl gl β->aW β d a.toList->β k=some e->
  ∃g b f c,(Instr.yield e.b a).run P w = .ok (.round e.b g b f c) w/\∀(r:Option Nat)(n:Nat),RoundIn (jt r) n P e.b g b f c w (qB β h w v i)
structure nT(P:Program)(gl:Nat->Bool)(cf:ck):Prop where
 fn:aek P gl cf
 yd:aeo P gl cf
def dV(P:Program):Prop:=∀(f:FuncId)(a:Func),P.funcs[f]?=some a->(a.name == "runtime.NumGoroutine")=false
theorem fS(e:dV P){f:FuncId}{a:Func}(c:P.funcs[f]?=some a)(i:a.body.isSome=true)(b:Array Value)(w:World):(callFunc f b).run P w = .ok (.enter f b) w:=by
 have d:=e f a c;have g:a.body.isNone=false:=by cases h:a.body<;>simp_all
 simp only[callFunc,run_bind,run_program,andThen_ok,c];rw[d,g];rfl
theorem aB.Tw{first:Array Value}{x:Value}(c:aB β (.func (.func f) first V) x):∃b a,x = .func (.func f) b a/\gM β first b/\gM β V a:=by
 cases c with
 |func i g h e d=>exact⟨_,_,rfl,⟨g,e⟩,⟨h,d⟩⟩
theorem aB.El{first:Array Value}{x:Value}(b:aB β (.func (.yield k) first V) x):∃a,β k=some a/\x = .func (.yield a.b) first V:=by
 cases b with
 |func e c d g f=>cases e
 |yield h c d=>grind
theorem H6(hN:dV P){U:ck}(F:nT P gl U){r:Option Nat}{n:Nat}{a:Act}{h:aa}{w:World}{o:Oper}{f:Operand}{args:Array Operand}{W:Array TypeId}(V:o.op = .call { callee:= .value f,args:=args,argTypes:=W })
  {D:Operand->Value} {v:Value} {u:aY} (O:iJ β h w) (Y:Gl gl β) (B:∀x,aB β (D x) (a.eval x)) (p:qE U (D f) (args.toList.map D) h=some (v,u)) (next:Act->World->Prop) (Q:Exit->Act->World->Prop)
  (J:∀v' l c,Step β h w c (u.app h) l->aB c v v'->next (a.put o.dst v') l):o.uponIn (jt r) n P a next Q ((execOp a.eval o).run P w):=by
 unfold qE at p;have E:=B f;split at p
 ·next g first d C=>
  split at p
  ·next S=>
   rw[C]at E;obtain⟨⟨Z,I⟩,j,A⟩:=map_eq_some_iff.1 p;simp only[Prod.mk.injEq]at A;obtain⟨rfl,rfl⟩:=A;obtain⟨m,b,q,X,T⟩:=E.Tw;have i:aW β (first.toList++args.toList.map D++d.toList) (m++args.map a.eval++b).toList:=by
    simp only[Array.toList_append,Array.toList_map];exact((gM.toList.1 X).append (aW.map _ λx _=>B x)).append (gM.toList.1 T)
   have s:(execOp a.eval o).run P w=(callFunc g (m++args.map a.eval++b)).run P w:=by
    unfold execOp;simp only[V,resolve,q,Deferred.ofValue,run_bind,Sem.run_pure,andThen_ok,invoke]
   rw[s];obtain⟨fn,N,L⟩:=F.fn g _ h _ I S j β w _ O Y i;rcases L with⟨G,y⟩|⟨v',l,c,H,z,t⟩
   ·rw[fS hN N G];refine⟨λK=>by simp[jt,Fence.wide]at K,sT (y.mono ?_)⟩;rintro e l ⟨v',c,rfl,z,t⟩;exact J v' l c z t
   ·rw[H];exact J v' l c z t
  ·cases p
 ·next k first d C=>
  split at p
  ·next hz=>
   rw[C]at E;obtain⟨⟨Z,I⟩,j,A⟩:=map_eq_some_iff.1 p;simp only[Prod.mk.injEq]at A;obtain⟨rfl,rfl⟩:=A;obtain⟨R,G,q⟩:=E.El;have M:first = #[]:=Array.eq_empty_of_size_eq_zero hz.1
   have i:aW β (args.toList.map D) (args.map a.eval).toList:=by
    simp only[Array.toList_map];exact aW.map _ λx _=>B x
   have s:(execOp a.eval o).run P w=(Instr.yield R.b (args.map a.eval)).run P w:=by
    unfold execOp;simp only[V,resolve,q,Deferred.ofValue,run_bind,Sem.run_pure,andThen_ok,invoke,M,Array.empty_append]
   rw[s];obtain⟨fn,x0,x2,x1,H,z⟩:=F.yd k _ h _ I j β w _ R O Y i G;rw[H];refine⟨λK=>by simp[jt,Fence.wide]at K,(z r (n-1)).mono ?_⟩;rintro e l ⟨v',c,rfl,t,h4⟩;exact J v' l c t h4
  ·cases p
 grind
theorem adu(D:dV P){y:ck}(x:nT P gl y){r:Option Nat}{n:Nat}{t:List Value}{a:Act}{h:aa}{w:World}{o:Oper}{v:Value}{u:aY}(k:iJ β h w)(A:Gl gl β)(G:aW β t a.tmps.toList)
  (b:bo P y (ev gl t) o h=some (v,u)) (next:Act->World->Prop) (Q:Exit->Act->World->Prop)
  (l:∀v' j d,Step β h w d (u.app h) j->aB d v v'->next (a.put o.dst v') j):o.wpIn (jt r) n P a w next Q:=by
 refine⟨λ_ _=>trivial,?_⟩;have i:=FJ (β:=β) A G;have s:∀c,o.op≠ .defer c:=by
  intro c p;unfold bo at b;simp[aZ,bj,aT,cL,p]at b
 rw[Oper.semAt_eq _ _ _ s];unfold bo at b;split at b
 ·next C m=>
  simp only[Option.some.injEq,Prod.mk.injEq]at b;obtain⟨rfl,rfl⟩:=b;obtain⟨v',e,g⟩:=tW i m w;rw[e];exact l v' w β (Step.refl k) g
 ·split at b
  ·next C m=>
   simp only[Option.some.injEq,Prod.mk.injEq]at b;obtain⟨rfl,rfl⟩:=b;obtain⟨v',e,g⟩:=tX i k m;rw[e];exact l v' w β (Step.refl k) g
  ·split at b
   ·next B f m=>
    simp only[Option.some.injEq,Prod.mk.injEq]at b;obtain⟨rfl,rfl⟩:=b;obtain⟨v',j,e,g⟩:=qX i (w:=w) m;obtain⟨d,q,E⟩:=g.step k;rw[e];exact l v' j d q E
   ·by_cases p:bu o=false
    ·obtain⟨v',j,d,e,g,q⟩:=EA i p k b;rcases e with e|⟨e,rfl⟩
     ·rw[e];exact l v' j d g q
     ·rw[e];exact l undef j d g q
    ·unfold bu at p;split at p
     ·next f F H z=>
      simp only[cL,z]at b;exact H6 D x z k A i b next Q l
     grind
theorem Mf(C:dV P){H:ck}(l:nT P gl H){r:Option Nat}{n:Nat}{c:Array Oper}(Q:Exit->Act->World->Prop):∀(b:List Oper)(i:Nat){β:cO}{q g:List Value}{a:Act}{h s:aa}{w:World},
  c.toList.drop i=b->jx P gl H c b q h=some (g,s)->iJ β h w->Gl gl β->aW β q a.tmps.toList->
  (∀e z k,Step β h w k s z->aW k g e.tmps.toList->e.defers=a.defers->Q .normal e z)->wpOpsIn (jt r) n P c Q (List.range' i b.length) a w
 |[],i,β,q,g,a,h,s,w,G,d,p,x,f,t=>by
  simp only[jx,Option.some.injEq,Prod.mk.injEq]at d;obtain⟨rfl,rfl⟩:=d;exact t a w β (Step.refl p) f rfl
 | o::b,i,β,q,g,a,h,s,w,G,d,p,x,f,t=>by
  have K:c[i]?=some o:=by
   have:(c.toList.drop i)[0]?=some o:=by rw[G];rfl
   rw[getElem?_drop]at this;rw[<-getElem?_toList];simpa using this
  have y:c.toList.drop (i+1)=b:=by rw[<-drop_drop,G];rfl
  simp only[List.length_cons,List.range'_succ,wpOpsIn,K];simp only[jx]at d;split at d
  ·next E=>
   rw[pO f E];simp only[if_true];split at d
   ·next v u I=>
    refine adu C l p x f I _ _ λv' z k j J=>?_;refine Mf C l Q b (i+1) y d j.nS (x.mono j.le) (px (f.mono j.le) o.dst J) λe F m B D A=>?_;exact t e F m (j.trans B) D (A.trans (put_defers a o.dst v'))
   ·cases d
  ·next E=>
   rw[pO f E];simp only[false_eq_true,if_false];refine⟨λ_ _=>trivial,?_⟩;refine Mf C l Q b (i+1) y d p x (px f o.dst (.undef β)) λe F m B D A=>?_;exact t e F m B D (A.trans (put_defers a o.dst undef))
  grind
theorem QX(o:dV P){j:ck}(l:nT P gl j){r:Option Nat}{n:Nat}{k:Nat}{b:Array Oper}(Q:Exit->Act->World->Prop){g c:List Value}{a:Act}{h i:aa}{w:World}
  (s:jx P gl j b b.toList g h=some (c,i)) (m:iJ β h w) (t:Gl gl β) (q:aW β g a.tmps.toList)
  (p:∀e f d,Step β h w d i f->aW d c e.tmps.toList->e.defers=a.defers->Q .normal e f):(Code.region k b false).wpIn (jt r) n P Q a w:=by grind[wpIn_region,Mf,List.range_eq_range',Array.length_toList]
theorem Hp{F:Fence}{c:Code}{Q:Exit->Act->World->Prop}(I:Nat->Act->World->Prop)(E:∀a w,¬I 0 a w)
  (p:∀j a w,I (j+1) a w->c.wpIn F n P (Exit.then (I j) Q) a w) {j:Nat} {a:Act} {w:World} (s:I j a w):(Code.loop c).wpIn F n P Q a w:=by
 intro b k cs A r y;have z:∀j a w,I j a w->∃e o m,Q e o m/\ArrivesIn (Machine.fenced P F) P (lone (b.atR a (.code c :: .inLoop c::k)) cs w) b k cs e o m:=by
  intro j
  induction j with
  |zero=>grind
  | succ j C=>
   intro a w B;obtain⟨e,f,g,h,d⟩:=p j a w B b (.inLoop c::k) cs A r y
   cases e with
   |normal=>
    obtain⟨v,u,t,q,i⟩:=C f g h;exact⟨v,u,t,q,.of_steps (StepsIn.trans d (.one (fenced_calm r y rfl) stepR_inLoop)) i⟩
   |exit D=>exact⟨_,f,g,h,.pass (x:= .inLoop c) rfl (λ_ _=> .inl (by simp)) d⟩
   |goto l=>exact⟨_,f,g,h,.pass (x:= .inLoop c) rfl (λ_ _=> .inl (by simp)) d⟩
   |ret=>exact⟨_,f,g,h,.pass (x:= .inLoop c) rfl (λ_ _=> .inl (by simp)) d⟩
   |panic G=>exact⟨_,f,g,h,.pass (x:= .inLoop c) rfl (λ_ _=> .inl (by simp)) d⟩
   |outgrown=>exact⟨_,f,g,h,.pass (x:= .inLoop c) rfl (λ_ _=> .inl (by simp)) d⟩
 obtain⟨e,o,m,h,d⟩:=z j a w s;exact⟨e,o,m,h,.of_steps (.one (fenced_calm r y rfl) stepR_loop) d⟩
def jZ(P:Program)(gl:Nat->Bool)(l:ck)(c:Code):Prop:=
 ∀i b,c = .region i b true->∀β j d (a:Act) h k (w:World) (r:Option Nat) (n:Nat) (Q:Exit->Act->World->Prop),yK P gl l b j h=some (d,k)->iJ β h w->Gl gl β->aW β j a.tmps.toList->
  (∀f g e,Step β h w e k g->aW e d f.tmps.toList->f.defers=a.defers->Q .normal f g)->(Code.region i b true).wpIn (jt r) n P Q a w
inductive Part:Code->Code->Prop where
 |refl (c:Code):Part c c
 |abH {c a b:Code} (h:Part c a):Part c (.seq a b)
 |adH {c a b:Code} (h:Part c b):Part c (.seq a b)
 |Z6 {c a b:Code} {o:Operand} (h:Part c a):Part c (.cond o a b)
 |Z4 {c a b:Code} {o:Operand} (h:Part c b):Part c (.cond o a b)
 |block {c a:Code} {id:Nat} (h:Part c a):Part c (.block id a)
 |loop {c a:Code} (h:Part c a):Part c (.loop a)
def T3(b:Nat):Deferred:={ target:= .collected b,args:= #[] }
def Marks(w:World)(e:List Deferred)(β:cO)(h:aa)(c:World)(d:List Deferred):Prop:=
 ∃a:List Nat,d=a.map T3++e/\a.Nodup/\∀b∈a,w.heap.size<=b/\b<c.heap.size/\c.heap[b]?=some (.deferred (some []))/\¬Wr β h b
theorem Marks.same{w c:World}{b a:List Deferred}{h:aa}(e:a=b):Marks w b β h c a:=⟨[],by grind,by simp,by simp⟩
theorem Marks.trans{c:cO}{d f:World}{p i j:List Deferred}(m:Marks W p J h d i)(B:W.heap.size<=d.heap.size)(n:Step J h d c g f)(y:Marks d i c g f j):Marks W p c g f j:=by
 obtain⟨u,rfl,t,s⟩:=m;obtain⟨o,rfl,r,z⟩:=y;refine⟨o++u,by simp,List.nodup_append.2 ⟨r,t,λa C b A e=>?_⟩,λb k=>?_⟩
 ·grind
 ·rcases List.mem_append.1 k with k|k
  ·grind
  ·obtain⟨w,l,v,q⟩:=s b k;exact⟨w,lt_of_lt_of_le l n.size,(n.kept b l q).trans v,λx=>q (n.back b l x)⟩
theorem MO(a:iJ β h W)(o:Obj):Step β h W β h (W.alloc o):=by
 have d:∀b,b<W.heap.size->(W.alloc o).heap[b]?=W.heap[b]?:=λb e=>by
  show(W.heap.push o)[b]?=_;rw[getElem?_push,if_neg (by omega)]
 refine⟨β.le_refl,Nat.le_refl _,⟨λk c d=>⟨(a.lt k c d).1,?_⟩,λk B c g f=>(a.blk k B c g f).of_heap (d _ (a.lt k c f).2),a.own,a.wf⟩,?_,rfl,⟨rfl,Nat.le_refl _⟩,rfl,λb e _=>d b e,λ_ _ h=>h,λ_ _ h=> .inl h,λ_ B h _=>⟨B,h⟩⟩
 ·have:=(a.lt k c d).2;simp;omega
 simp
theorem Ri(f:iJ β h W){tm:List Value}{r:Loop}(n:r.state = .ready)(l:r.pending=none)(m:aW β tm r.tmps.toList)(e:jM r.assign r.body=true):
  ∃a,Step β h W a (h.push (.loop .ready tm r.params.toList r.assign r.body e)) (W.alloc (.loop r))/\∃c,a h.next=some c/\c.b=W.heap.size:=by
 have i:oF β W (.loop .ready tm r.params.toList r.assign r.body e) (λk=> .func (.yield k) #[] #[]) (.func (.yield W.heap.size) #[] #[]) (W.alloc (.loop r)):=by
  refine⟨by simp,rfl,⟨rfl,Nat.le_refl _⟩,rfl,λb o=>?_,⟨W.heap.size,0,0,0,0,true⟩,rfl,λa k d j=>⟨⟨rfl,r,World.alloc_heap_new W _,⟨n,l⟩,m.mono d,rfl,rfl,rfl⟩,?_⟩⟩
  ·show(W.heap.push _)[b]?=_;rw[getElem?_push,if_neg (by omega)]
  ·exact .yield (sl:=⟨W.heap.size,0,0,0,0,true⟩) j rfl rfl
 obtain⟨a,q,g⟩:=i.step f;obtain⟨c,p,s⟩:=g.El
 grind
theorem Rh{z:World}(m:iJ β h W){k:Nat}{g:bw}{n:Slot}(C:h.get k=some g)(y:β k=some n)(B:g.wr=true)(l:At W z n.b):Step β h W β (h.del k) z:=by
 have i:∀a e,(h.del k).get a=some e->a≠k/\h.get a=some e:=λa e q=>by
  rw[h.dt]at q;split at q
  ·cases q
  ·next f=>exact⟨f,q⟩
 have x:∀a e c,a≠k->h.get a=some e->β a=some c->c.b≠n.b:=λa e c f d j=>(m.own k a g e n c (Ne.symm f) C d y j B).symm;refine⟨β.le_refl,Nat.le_refl _,⟨?_,?_,?_,aa.Nm m.wf k⟩,by rw[l.size];exact Nat.le_refl _,l.os,l.tape,l.output,?_,?_,λ_ _ h=> .inl h,?_⟩
 ·intro a c d;rw[l.size];exact m.lt a c d
 ·intro a e c d j;obtain⟨f,d⟩:=i _ _ d;exact(m.blk a e c d j).of_heap (l.kept _ (x a e c f d j))
 ·intro u v r t p o f d j s w E;exact m.own u v r t p o f (i _ _ d).2 (i _ _ j).2 s w E
 ·intro b A D;refine l.kept b ?_;rintro rfl;exact D ⟨k,g,n,C,B,y,rfl⟩
 ·rintro b A ⟨a,e,c,d,j,s,w⟩;exact⟨a,e,c,(i _ _ d).2,j,s,w⟩
 grind
theorem wV(w:World)(b:Nat)(o:Obj):At w (w.putObj b o) b:=⟨by simp,rfl,.refl _,rfl,λc a=>World.putObj_heap_other a⟩
theorem yH{P:Program}(h:qF P f=true):∃a,P.funcs[f]?=some a/\a.body.isSome=true:=by grind[qF]
theorem Gz{a:Bool}(h:(a&&b)=true):a=true:=by grind
theorem Oe{a:Bool}(h:(a&&b)=true):b=true:=by grind
theorem Fz(hN:dV P){cf:ck}(z9:nT P gl cf){r:Option Nat}{n N:Nat}:∀(c:Code),(r=none\/lU c=true)->(∀d,Part d c->jZ P gl cf d)->∀{β:cO}{H F:List Value}{a:Act}{h T:aa}{w:World}{e:Exit}(Q:Exit->Act->World->Prop),
  aU P gl cf N c H h=some (e,F,T)->iJ β h w->Gl gl β->aW β H a.tmps.toList->
  (∀a' w' X,Step β h w X T w'->aW X F a'.tmps.toList->Marks w a.defers X T w' a'.defers->Q e a' w')->c.wpIn (jt r) n P Q a w:=by
 intro c
 induction c with
 |skip=>
  intro p q β H F a h T w e Q i v A u C;simp only[aU,Option.some.injEq,Prod.mk.injEq]at i;obtain⟨rfl,rfl,rfl⟩:=i;exact wpIn_skip (C a w β (Step.refl v) u (.same rfl))
 |region id v3 u5=>
  intro p q β H F a h T w e Q i v A u C
  cases u5
  ·simp only[aU]at i;obtain⟨⟨x1,L⟩,y8,U⟩:=map_eq_some_iff.1 i;simp only[Prod.mk.injEq]at U;obtain⟨rfl,rfl,rfl⟩:=U;exact QX hN z9 Q y8 v A u λa' w' X K L h3=>C a' w' X K L (.same h3)
  ·simp only[aU]at i;obtain⟨⟨x1,L⟩,y8,U⟩:=map_eq_some_iff.1 i;simp only[Prod.mk.injEq]at U;obtain⟨rfl,rfl,rfl⟩:=U;exact q _ (.refl _) id v3 rfl β H x1 a h L w r n Q y8 v A u λa' w' X K L h3=>C a' w' X K L (.same h3)
 | seq x y y0 y6=>
  intro p q β H F a h T w e Q i v A u C;simp only[aU]at i;refine wpIn_seq ?_;split at i
  ·next x5 K hx=>
   refine y0 (p.imp id Gz) (λd G=>q d (.abH G)) _ hx v A u λa1 Z z m V R=>?_;exact y6 (p.imp id Oe) (λd G=>q d (.adH G)) _ i m.nS (A.mono m.le) V λa2 w2 x3 J x2 x4=>C a2 w2 x3 (m.trans J) x2 (R.trans m.size J x4)
  ·next u0=>
   refine y0 (p.imp id Gz) (λd G=>q d (.abH G)) _ i v A u λa1 Z z m V R=>?_;have:=C a1 Z z m V R
   cases e with
   |normal=>grind
   |_=>exact this
 | cond o x y y0 y6=>
  intro p q β H F a h T w e Q i v A u C;simp only[aU]at i;split at i
  ·next t v1=>
   have hc:a.eval o = .bool t:=by
    have:=FJ (β:=β) A u o;rw[v1]at this;exact this.jv
   cases t
   ·exact wpIn_cond hc (y6 (p.imp id Oe) (λd G=>q d (.Z4 G)) Q i v A u C)
   ·exact wpIn_cond hc (y0 (p.imp id Gz) (λd G=>q d (.Z6 G)) Q i v A u C)
  grind
 | block id x ih=>
  intro p q β H F a h T w e Q i v A u C;simp only[aU]at i;refine wpIn_block ?_;split at i
  ·next v9 x5 K hx=>
   refine ih p (λd G=>q d (.block G)) _ hx v A u λa1 Z z m V R=>?_;split at i
   ·next U=>
    simp only[Option.some.injEq,Prod.mk.injEq]at i;obtain⟨rfl,rfl,rfl⟩:=i;simp only[Exit.inBlock,U,if_true]
    grind
   ·next U=>
    simp only[Option.some.injEq,Prod.mk.injEq]at i;obtain⟨rfl,rfl,rfl⟩:=i;simp only[Exit.inBlock,U,if_false]
    grind
  ·next u0=>
   refine ih p (λd G=>q d (.block G)) _ i v A u λa1 Z z m V R=>?_;have:=C a1 Z z m V R
   cases e with
   |exit v9=>grind
   |_=>exact this
 | loop x ih=>
  intro p q β H F a h T w e Q i v A u C;simp only[aU]at i;refine Hp (λj a1 Z=>∃z x5 K,Step β h w z K Z/\aW z x5 a1.tmps.toList/\Marks w a.defers z K Z a1.defers/\iter (aU P gl cf N x) j x5 K=some (e,F,T)) ?_ ?_ (j:=N) ⟨β,H,h,Step.refl v,u,.same rfl,i⟩
  ·grind[iter]
  ·rintro j a1 Z ⟨z,x5,K,m,V,R,x8⟩;simp only[iter]at x8;split at x8
   ·next x1 L hx=>
    refine ih p (λd G=>q d (.loop G)) _ hx m.nS (A.mono m.le) V λa2 w2 x3 J x2 x4=>?_;exact⟨x3,x1,L,m.trans J,x2,R.trans m.size J x4,x8⟩
   ·next u0=>
    refine ih p (λd G=>q d (.loop G)) _ x8 m.nS (A.mono m.le) V λa2 w2 x3 J x2 x4=>?_;have:=C a2 w2 x3 (m.trans J) x2 (R.trans m.size J x4)
    cases e with
    |normal=>grind
    |_=>exact this
 |exit id=>
  intro p q β H F a h T w e Q i v A u C;simp only[aU,Option.some.injEq,Prod.mk.injEq]at i;obtain⟨rfl,rfl,rfl⟩:=i;exact wpIn_exit (C a w β (Step.refl v) u (.same rfl))
 |ret=>
  intro p q β H F a h T w e Q i v A u C;simp only[aU,Option.some.injEq,Prod.mk.injEq]at i;obtain⟨rfl,rfl,rfl⟩:=i;exact wpIn_ret (C a w β (Step.refl v) u (.same rfl))
 |label l=>
  intro p q β H F a h T w e Q i v A u C;simp only[aU,Option.some.injEq,Prod.mk.injEq]at i;obtain⟨rfl,rfl,rfl⟩:=i;exact wpIn_label (C a w β (Step.refl v) u (.same rfl))
 | rangeFunc f Y x y _ _=>
  intro p q β H F a h T w e Q i v A u C;rcases p with rfl|p
  ·simp only[aU]at i;split at i
   ·next g first x7 v7=>
    split at i
    ·next y3=>
     split at i
     ·next u3=>
      split at i
      ·next v2 L z4=>
       obtain⟨e2,E,U⟩:=map_eq_some_iff.1 i;simp only[Prod.mk.injEq]at U;obtain⟨rfl,rfl,rfl⟩:=U;refine wpIn_rangeFunc λO w8=>?_;have z6:Step β h w β h (w.alloc (.deferred (some []))):=MO v _;obtain⟨z,m,sl,u2,u4⟩:=Ri z6.nS (tm:=H) (r:={ state:= .ready,pending:=none,fn:=O,tmps:=a.tmps,params:=Y,assign:=x,body:=y,defers:=w.heap.size }) rfl rfl u y3;have M:=z6.trans m;have hf:=FJ (β:=β) A u f;rw[v7]at hf;obtain⟨S,D,u8,v8,v5⟩:=hf.Tw;have x0:sl.b=w.heap.size+1:=by rw[u4];simp
       have z2:aW z (first.toList++[Value.func (.yield h.next) #[] #[]]++x7.toList) (S ++ #[Value.func (.yield (w.heap.size+1)) #[] #[]]++D).toList:=by
        simp only[Array.toList_append];refine(((gM.toList.1 v8).mono M.le).append ?_).append ((gM.toList.1 v5).mono M.le);exact .cons (by have:=aB.yield u2 (a:= #[]) (c:= #[]) rfl rfl;rwa[x0]at this) (.nil _)
       obtain⟨fn,z7,u6⟩:=z9.fn g _ _ _ L u3.1 z4 z _ _ m.nS (A.mono M.le) z2;obtain⟨w9,y7,z3⟩:=yH u3.2;rw[y7]at z7;obtain rfl:=oI z7;have y9:=fS hN y7 z3 (S ++ #[Value.func (.yield (w.heap.size+1)) #[] #[]]++D);have y5:Calls P g (S ++ #[Value.func (.yield (w.heap.size+1)) #[] #[]]++D) ((w.alloc (.deferred (some []))).alloc (.loop { state:= .ready,pending:=none,fn:=O,tmps:=a.tmps,params:=Y,assign:=x,body:=y,defers:=w.heap.size })) (qB z (h.push (.loop .ready H Y.toList x y y3)) ((w.alloc (.deferred (some []))).alloc (.loop { state:= .ready,pending:=none,fn:=O,tmps:=a.tmps,params:=Y,assign:=x,body:=y,defers:=w.heap.size })) v2 L):=by
        rcases u6 with⟨_,hc⟩|⟨v',w',X,hc,_⟩
        ·exact hc
        ·rw[y9]at hc;cases hc
       have y1:(Instr.enterLoop O a.tmps Y x y (jt none).round).run P w = .ok (w.heap.size+1,[T3 w.heap.size]) ((w.alloc (.deferred (some []))).alloc (.loop { state:= .ready,pending:=none,fn:=O,tmps:=a.tmps,params:=Y,assign:=x,body:=y,defers:=w.heap.size })):=run_enterLoop_outer O a.tmps Y x y;have z1:(resolve a.eval (rangeCall f (w.heap.size+1)) 0).run P ((w.alloc (.deferred (some []))).alloc (.loop { state:= .ready,pending:=none,fn:=O,tmps:=a.tmps,params:=Y,assign:=x,body:=y,defers:=w.heap.size })) = .ok { target:= .fn (.func g) D,args:=S ++ #[Value.func (.yield (w.heap.size+1)) #[] #[]] } ((w.alloc (.deferred (some []))).alloc (.loop { state:= .ready,pending:=none,fn:=O,tmps:=a.tmps,params:=Y,assign:=x,body:=y,defers:=w.heap.size })):=by
        have U:resolve a.eval (rangeCall f (w.heap.size+1)) 0=Deferred.ofValue (a.eval f) #[Value.func (.yield (w.heap.size+1)) #[] #[]]:=by
         unfold resolve rangeCall;simp only[List.map_toArray,List.map_cons,List.map_nil];rfl
        rw[U,u8];rfl
       refine⟨_,_,_,_,_,g,_,_,y1,z1,λ_ _=>trivial,y9 _,λG=>by simp[jt,Fence.wide]at G,sT (y5.mono ?_)⟩;rintro e' w3 ⟨v',x9,rfl,I,w5⟩
       cases hB:L.get h.next with
       |none=>rw[hB]at E;cases E
       | some B=>
        rw[hB]at E;have y4:=I.le _ _ u2
        cases B with
        |cells _ _ _ _=>cases E
        |map _=>cases E
        | loop st x1 w6 w4 w0 w7=>
         obtain⟨_,r,z8,x6,_⟩:=I.nS.blk _ _ _ hB y4;rw[x0]at z8;have v4:Marks w a.defers x9 (L.del h.next) (w3.putObj (w.heap.size+1) (.loop { r with state:= .exhausted })) ([T3 w.heap.size]++a.defers):=by
          have u1:¬Wr z (h.push (.loop .ready H Y.toList x y y3)) w.heap.size:=λhw=>by
           have:=m.back w.heap.size (by simp) hw;obtain⟨k,B,z0,_,_,h3,h4⟩:=this;have:=(v.lt k z0 h3).2;omega
          have y2:w.heap.size<((w.alloc (.deferred (some []))).alloc (.loop { state:= .ready,pending:=none,fn:=O,tmps:=a.tmps,params:=Y,assign:=x,body:=y,defers:=w.heap.size })).heap.size:=by simp;omega
          refine⟨[w.heap.size],rfl,by simp,λb hb=>?_⟩;obtain rfl:=List.mem_singleton.1 hb;refine⟨Nat.le_refl _,?_,?_,λhw=>?_⟩
          ·rw[World.putObj_size];exact lt_of_lt_of_le y2 I.size
          ·rw[World.putObj_heap_other (by omega),I.kept _ y2 u1];show((w.heap.push _).push _)[w.heap.size]?=_;rw[getElem?_push,if_neg (by simp),getElem?_push,if_pos rfl]
          ·obtain⟨k,B,z0,K,u9,h3,h4⟩:=hw;refine u1 (I.back _ y2 ⟨k,B,z0,?_,u9,h3,h4⟩);rw[aa.dt]at K;split at K
           ·cases K
           ·exact K
         have z5:Step x9 L w3 x9 (L.del h.next) (w3.putObj (w.heap.size+1) (.loop { r with state:= .exhausted })):=Rh I.nS hB y4 rfl (by rw[x0];exact wV _ _ _);have u7:=(M.trans I).trans z5;have v6:=u.mono (M.trans I).le;have W:=C { a with defers:=[T3 w.heap.size]++a.defers } _ x9 u7 v6 v4;have v0:r.state≠ .busy:=by
          cases st<;>simp only[KF]at x6<;>first|(rw[x6.1];simp;done)|cases E
         refine⟨r.pending,_,run_endLoop z8 v0,?_⟩
         cases st with
         |ready=>
          obtain rfl:=oI E;have hp:r.pending=none:=x6.2;rw[hp]at W⊢;exact W
         |busy=>cases E
         |ret=>
          obtain rfl:=oI E;have hp:r.pending=some .ret:=x6.2;rw[hp]at W⊢;exact wpIn_ret W
         |exit id=>
          obtain rfl:=oI E;have hp:r.pending=some (.exit id):=x6.2;rw[hp]at W⊢;exact wpIn_exit W
      ·cases i
     ·cases i
    ·cases i
   grind
  ·cases p
 |scope x _=>grind[aU]
 |goto l=>grind[aU]
 |refuse s=>grind[aU]
end
end Go.Ab
end
