/- Laws and walks that the proof leans on (part 1): AbEval; AbEnv; AbFast; AbRel; AbPure; AbPure2 and others. No condition. -/
import GoSem.Dispatch
import GoSem.Machine.Frame
import GoSem.Machine.Return
import Derived.CallsIn
import Derived.Laws.Tables
import Derived.KernelRfl
import Derived.Laws.Sem
import Derived.Laws.World
import Derived.Laws.Cells
import Derived.Laws.Entries
import Derived.Laws.Strings
import Derived.Laws.StructEq
import Derived.Laws.Small
import Derived.Laws.BytesString
import Derived.Laws.BitsLemmas
import Derived.Laws.Append
import Derived.Lib.UnsafeStr
import Derived.Lib.Builder
import Derived.RangeFuncLeaves
import Derived.RangeFuncNested
set_option linter.unusedVariables false
set_option linter.unusedSimpArgs false
set_option maxRecDepth 100000
open List (all_eq_true drop_drop foldl_cons getElem?_append_left getElem?_append_right getElem?_drop getElem?_eq_none getElem?_take length_cons map_congr_left mem_cons mem_cons_of_mem mem_cons_self mem_filter mem_range)
open Nat (lt_of_lt_of_le lt_or_ge)
open Option (bind_some map_eq_some_iff map_some)
open Array (getElem?_eq_getElem getElem?_push getElem?_toList length_toList)
open Bool (and_eq_true false_eq_true)
open Go.Result (andThen_ok)
open Go.Sem (run_bind run_ite)
open Go.IntKind (wrap_i64)
section
namespace Go
theorem dT{p:Prop} [Decidable p] (h:decide p=true):p:=of_decide_eq_true h
theorem dF{p:Prop} [Decidable p] (h:decide p=false):¬p:=of_decide_eq_false h
theorem oI{α:Type} {a b:α} (h:some a=some b):a=b:=Option.some.inj h
theorem gE{α:Type} {l:List α} {i:Nat} (h:i<l.length):l[i]? =some l[i]:=List.getElem?_eq_getElem h
theorem gD{α:Type} {l:List α} {i:Nat} {a:α}:l.getD i a=l[i]?.getD a:=List.getD_eq_getElem?_getD
theorem lM{α β:Type} {as:List α} (f:α→β):(as.map f).length=as.length:=List.length_map f
end Go
namespace Go.Ab
noncomputable section
def eY(a:List Nat)(j i:Nat):Bool:=(a.getD j 0).testBit i
def lF(ops:Array Oper):List Nat:=(Region.before ops).toList
def GO:List Oper->Nat->Bool
 |[],_=>true
 |o::r,j=>(o.after.toList.all λe=>decide (e.on<j)||(!Region.binds .any e && !Region.binds .text e))&&GO r (j+1)
def ub(a:List Nat)(j:Nat)(t:Tmp):List Oper->Nat->Bool
 |[],_=>true
 |o::r,i=>(match o.dst with|some d=>decide (d≠t)||decide (i=j)||eY a j i||eY a i j|none=>true)&&ub a j t r (i+1)
def Ht(a:List Nat)(all:List Oper):List Oper->Nat->Bool
 |[],_=>true
 |o::r,j=>(o.op.operands.toList.all fun|.tmp t=>ub a j t all 0|_=>true)&&(match o.guard with|some (i,_)=>eY a j i|none=>true)&&Ht a all r (j+1)
def Aj:List Oper->Nat->Bool
 |[],_=>true
 |o::r,m=>match o.dst with
  |some d=> !m.testBit d&&Aj r (m|||2^d)
  |none=>Aj r m
def Lz(ops:Array Oper):Bool:=
 GO ops.toList 0&&Aj ops.toList 0&&(!Region.departs ops||(Region.linearise .gc ops 0).length==ops.size)&&Ht (lF ops) ops.toList ops.toList 0
def cP:Code->Bool
 |.region _ ops true=>Lz ops
 |.seq a b=>cP a&&cP b
 |.cond _ a b=>cP a&&cP b
 |.block _ a=>cP a
 |.loop a=>cP a
 |_=>true
def od:Code->Bool
 |.seq a b=>od a&&od b
 |.cond _ a b=>od a&&od b
 |.block _ a=>od a
 |.loop a=>od a
 |.rangeFunc .. =>false
 |_=>true
def rP(b a:Code):Bool:=cP b&&cP a&&od b&&od a
inductive LSt where
 |ready
 |busy
 |ret
 |exit (id:Nat)
def YB:Nat:=4611686018427387904
inductive dS where
 |cells (cs:List Value) (t:TypeId) (sz:Nat) (wr:Bool)
 |map (es:List (Value×Value))
 |loop (st:LSt) (tm:List Value) (ps:List Tmp) (asg body:Code) (ok:rP asg body=true)
 deriving Inhabited
inductive HT where
 |nil
 |node (v:Option dS) (l r:HT)
 deriving Inhabited
inductive KR where
 |e
 |l (p:KR)
 |r (p:KR)
noncomputable def Db(f:Nat):Nat->KR:=
 Nat.rec (motive:=λ_=>Nat->KR) (λ_=> .e) (λ_ a n=>Nat.rec (motive:=λ_=>KR) .e (λk _=>Nat.rec (motive:=λ_=>KR) (.l (a (k/2))) (λ_ _=> .r (a (k/2))) (k%2)) n) f
noncomputable def pathOf(n:Nat):KR:=Db (n+1) n
noncomputable def HT.LK(t:HT):Option dS:=HT.rec (motive:=λ_=>Option dS) none (λv _ _ _ _=>v) t
noncomputable def HT.adZ(a:HT->Option dS)(t:HT):Option dS:=HT.rec (motive:=λ_=>Option dS) none (λ_ l _ _ _=>a l) t
noncomputable def HT.ad0(a:HT->Option dS)(t:HT):Option dS:=HT.rec (motive:=λ_=>Option dS) none (λ_ _ r _ _=>a r) t
noncomputable def HT.get(p:KR):HT->Option dS:=KR.rec (motive:=λ_=>HT->Option dS) HT.LK (λ_=>HT.adZ) (λ_=>HT.ad0) p
noncomputable def HT.aeo(b:Option dS)(t:HT):HT:=HT.rec (motive:=λ_=>HT) (.node b .nil .nil) (λ_ l r _ _=> .node b l r) t
noncomputable def HT.aep(a:HT->HT)(t:HT):HT:=HT.rec (motive:=λ_=>HT) (.node none (a .nil) .nil) (λv l r _ _=> .node v (a l) r) t
noncomputable def HT.aeq(a:HT->HT)(t:HT):HT:=HT.rec (motive:=λ_=>HT) (.node none .nil (a .nil)) (λv l r _ _=> .node v l (a r)) t
noncomputable def HT.set(b:Option dS)(p:KR):HT->HT:=KR.rec (motive:=λ_=>HT->HT) (HT.aeo b) (λ_=>HT.aep) (λ_=>HT.aeq) p
structure ae where
 next:Nat
 t:HT
 deriving Inhabited
noncomputable def ae.get(h:ae)(k:Nat):Option dS:=h.t.get (pathOf k)
noncomputable def ae.set(h:ae)(k:Nat)(b:dS):ae:={ h with t:=h.t.set (some b) (pathOf k) }
noncomputable def ae.del(h:ae)(k:Nat):ae:={ h with t:=h.t.set none (pathOf k) }
noncomputable def ae.push(h:ae)(b:dS):ae:={ next:=h.next+1,t:=h.t.set (some b) (pathOf h.next) }
def dn:Nat:=36893488147419103232
def bH(c:Nat):Nat:=if dn<=c then c-dn else c
abbrev hH:Value:= .chan (some 0)
def dO:Value->Bool
 |.agg _|.tuple _|.chan _=>false
 |_=>true
def bare:Value->Bool
 |.bool _|.int _ _|.float _ _|.complex _ _ _|.string _|.pointer none|.slice none 0 0|.map none|.nilFunc|.nilIface=>true
 |_=>false
def plain:Value->Bool
 |.agg cs=>cs.toList.all bare
 |.tuple cs=>cs.toList.all fun|.agg a=>a.toList.all bare|v=>bare v
 |v=>bare v
def ev(gl:Nat->Bool)(a:List Value):Operand->Value
 |.tmp t=>a.getD t undef
 |.const v=>if plain v then v else hH
 |.global g=>if gl g then .pointer (some ⟨g,0,none⟩)else hH
 |.func f=> .func (.func f) #[] #[]
def isAgg(P:Program)(t:TypeId):Bool:=match P.underlying t with|some (.struct _)|some (.array ..)=>true|_=>false
def zeroOf(P:Program)(t:TypeId):Option Value:=match P.info? t with|some i=>(match i.zero with|some z=>if plain z then some z else none|none=>none)|none=>none
def aE(P:Program)(t:TypeId):Option Nat:=(P.info? t).map (·.size)
def partOf(P:Program)(t:TypeId)(cs:Array Value)(a:Nat):Option Value:=
 match P.underlying t with
 |none=>none
 |some _=>if isAgg P t then(aE P t).map λn=> .agg (cs.extract a (a+n))else cs[a]?
def strOf(l:List UInt8):Value:= .string ⟨l.toArray⟩
def intCmp(a:BinOp)(x y:Int):Option Bool:=
 match a with
 |.eql=>some (x==y)|.neq=>some (x !=y)|.lss=>some (decide (x<y))|.leq=>some (decide (x<=y))|.gtr=>some (decide (x>y))|.geq=>some (decide (x>=y))
 |_=>none
def rr:List UInt8->List UInt8->Bool
 |_,[]=>false
 |[],_::_=>true
 |a::x,b::y=>a<b||(a==b&&rr x y)
def Ge(a:BinOp)(x y:List UInt8):Option Value:=
 match a with
 |.add=>if x.length+y.length<=4611686018427387904 then some (strOf (x++y))else none
 |.eql=>some (.bool (x==y))|.neq=>some (.bool !(x==y))
 |.lss=>some (.bool (rr x y))|.leq=>some (.bool (rr x y||x==y))
 |.gtr=>some (.bool !(rr x y||x==y))|.geq=>some (.bool !(rr x y))
 |_=>none
def acx:Value->Value->Option Bool
 |.bool a,.bool b=>some (a==b)
 |.int k a,.int c b=>if k=c then some (a==b)else none
 |.string a,.string b=>some (a.data.toList==b.data.toList)
 |_,_=>none
def Cx(P:Program)(t:TypeId)(x y:Value):Option Bool:=
 match P.underlying t,x,y with
 |some .bool,.bool a,.bool b=>some (a==b)
 |some (.int _),.int k a,.int c b=>if k=c then some (a==b)else none
 |some .string,.string a,.string b=>some (a.data.toList==b.data.toList)
 |_,_,_=>none
def mB(P:Program):List Field->Nat->List Value->List Value->Option Bool
 |[],_,_,_=>some true
 |f::c,i,x::a,y::b=>
  if f.offset=i/\f.name≠ "_" then
   match Cx P f.type x y with
   |some true=>mB P c (i+1) a b
   |some false=>some false
   |none=>none
  else none
 |_::_,_,_,_=>none
def rD(P:Program)(t:TypeId)(x y:Value):Option Bool:=
 match x,y with
 |.bool a,.bool b=>match P.underlying t with|some .bool=>some (a==b)|_=>none
 |.pointer none,.pointer b=>match P.underlying t with|some (.pointer _)=>some b.isNone|_=>none
 |.pointer a,.pointer none=>match P.underlying t with|some (.pointer _)=>some a.isNone|_=>none
 |.pointer (some a),.pointer (some b)=>match P.underlying t with|some (.pointer e)=>if a=b/\(aE P e).any (· ≠0)then some true else none|_=>none
 |.slice none _ _,.slice b _ _=>match P.underlying t with|some (.slice _)=>some b.isNone|_=>none
 |.slice a _ _,.slice none _ _=>match P.underlying t with|some (.slice _)=>some a.isNone|_=>none
 |.map none,.map b=>match P.underlying t with|some (.map ..)=>some b.isNone|_=>none
 |.map a,.map none=>match P.underlying t with|some (.map ..)=>some a.isNone|_=>none
 |.nilFunc,.nilFunc=>match P.underlying t with|some (.func ..)=>some true|_=>none
 |.nilFunc,.func .. =>match P.underlying t with|some (.func ..)=>some false|_=>none
 |.func ..,.nilFunc=>match P.underlying t with|some (.func ..)=>some false|_=>none
 |.nilIface,.iface .. =>match P.underlying t with|some (.interface _)=>some false|_=>none
 |.iface ..,.nilIface=>match P.underlying t with|some (.interface _)=>some false|_=>none
 |.agg a,.agg b=>match P.underlying t with
  |some (.struct c)=>if P.stoodInHeld t=false/\P.eqGuardType P.depth t=false then mB P c.toList 0 a.toList b.toList else none
  |_=>none
 |_,_=>none
def ay(P:Program)(c:BinOp)(t:TypeId)(x y:Value):Option Value:=
 match x,y with
 | .int k a,.int d b=>
  match c with
  |.shl=>if 0<=b then some (.int k (k.wrap (a*2^(min b.toNat k.bits))))else none
  |.shr=>if 0<=b then some (.int k (a.fdiv (2^(min b.toNat k.bits))))else none
  | _=>
   if k=d then
    match c with
    |.add=>some (.int k (k.wrap (a+b)))
    |.sub=>some (.int k (k.wrap (a-b)))
    |.mul=>some (.int k (k.wrap (a*b)))
    |.quo=>if b=0 then none else some (.int k (k.wrap (a.tdiv b)))
    |.rem=>if b=0 then none else some (.int k (a.tmod b))
    |.and=>some (.int k (k.wrap (BitVec.ofInt k.bits a&&&BitVec.ofInt k.bits b).toNat))
    |.or=>some (.int k (k.wrap (BitVec.ofInt k.bits a|||BitVec.ofInt k.bits b).toNat))
    |.xor=>some (.int k (k.wrap (BitVec.ofInt k.bits a^^^BitVec.ofInt k.bits b).toNat))
    |.andNot=>some (.int k (k.wrap (BitVec.ofInt k.bits a &&& ~~~BitVec.ofInt k.bits b).toNat))
    |c=>(intCmp c a b).map .bool
   else none
 |.string a,.string b=>Ge c a.data.toList b.data.toList
 |x,y=>match c with
  |.eql=>(rD P t x y).map .bool
  |.neq=>(rD P t x y).map λb=> .bool !b
  |_=>none
def KF(a:UnOp)(x:Value):Option Value:=
 match a,x with
 |.neg,.int k n=>some (.int k (k.wrap (0-n)))
 |.xor,.int k n=>some (.int k (k.wrap (BitVec.ofInt k.bits (if k.signed then -1 else k.max)^^^BitVec.ofInt k.bits n).toNat))
 |.not,.bool b=>some (.bool !b)
 |_,_=>none
def eP:Option Value->Nat->Option Int
 |none,d=>some d
 |some (.int _ n),_=>some n
 |some _,_=>none
def bG(P:Program)(t:TypeId)(x:Value)(f c d:Option Value)(h:ae):Option Value:=
 match x with
 | .string s=>
  match P.underlying t with
  |some .string=>match d,eP f 0,eP c s.data.toList.length with
   |none,some l,some r=>if 0<=l/\l<=r/\r<=(s.data.toList.length:Int)then some (strOf ((s.data.toList.drop l.toNat).take (r-l).toNat))else none
   |_,_,_=>none
  |_=>none
 | .slice none 0 0=>
  match P.underlying t with
  |some (.slice e)=>match d,eP f 0,eP c 0,aE P e with
   |none,some 0,some 0,some _=>some (.slice none 0 0)
   |_,_,_,_=>none
  |_=>none
 | .slice (some ⟨k,i,none⟩) j a=>
  match P.underlying t with
  | some (.slice e)=>match eP f 0,eP c j,aE P e,h.get k with
   | some l,some r,some b,some (.cells _ _ g _)=>
    if g=b\/g=0 then
     match d with
     |none=>if 0<=l/\l<=r/\r<=(bH a:Int)then some (.slice (some ⟨k,i+l.toNat*b,none⟩) (r-l).toNat (a-l.toNat))else none
     |some (.int _ m)=>if 0<=l/\l<=r/\r<=m/\m<=(bH a:Int)/\m<dn/\c.isSome=true then some (.slice (some ⟨k,i+l.toNat*b,none⟩) (r-l).toNat (m-l).toNat)else none
     |some _=>none
    else none
   |_,_,_,_=>none
  |_=>none
 | .pointer (some ⟨k,i,none⟩)=>
  match P.underlying t with
  | some (.array n e)=>match d,eP f 0,eP c n,aE P e,h.get k with
   |none,some l,some r,some b,some (.cells _ _ 0 _)=>
    if 0<=l/\l<=r/\r<=(n:Int)/\n<dn then some (.slice (some ⟨k,i+l.toNat*b,none⟩) (r-l).toNat (n-l.toNat))else none
   |_,_,_,_,_=>none
  |_=>none
 |_=>none
def C7:Value->Bool
 |.chan _=>false
 |_=>true
def bh(P:Program)(t:TypeId)(a:List (Nat×Value)):Option Value:=
 match zeroOf P t with
 |some _=>if a.all λp=>C7 p.2 then(P.built t a).map .agg else none
 |none=>none
def gN(P:Program)(b a:TypeId)(x:Value):Option Value:=
 match P.underlying b,P.underlying a,x with
 |some _,some (.int k),.int _ n=>some (.int k (k.wrap n))
 |some _,some .string,.string s=>some (.string s)
 |some (.pointer _),some .unsafePointer,.pointer none=>some x
 |some .unsafePointer,some (.pointer _),.pointer none=>some x
 |_,_,_=>none
def rQ(c:Bool):List Value->Option Value
 |[]=>none
 |x::a=>a.foldlM (λx y=>match x,y with
  |.int k x,.int b y=>if k=b then some (.int k (if c then(if y>x then y else x)else(if y<x then y else x)))else none
  |_,_=>none) x
def dr(P:Program)(ρ:Operand->Value)(o:Oper):Option Value:=
 match o.op with
 |.move x|.assign x=>some (ρ x)
 |.pick c a b=>match ρ c with|.bool t=>some (if t then ρ a else ρ b)|_=>none
 |.build t m=>bh P t (m.toList.map λp=>(p.1,ρ p.2))
 |.nilCheck x=>match ρ x with
  |.pointer none|.nilIface|.nilFunc=>none
  |.func (.method _) _ _=>none
  |.chan _=>none
  |v=>some v
 |.binOp r t x y _=>ay P r t (ρ x) (ρ y)
 |.unOp r _ x=>KF r (ρ x)
 |.convert s d x=>gN P s d (ρ x)
 |.makeInterface t x=>match P.underlying t with|some (.interface _)|none=>none|some _=>some (.iface t (ρ x))
 |.makeFunc q first k=>match q with
  |.yield _=>none
  |q=>some (.func q (first.map ρ) (k.map ρ))
 | .fieldAddr s x f=>match P.underlying s,ρ x with
  |some (.struct g),.pointer (some a)=>match g[f]? with
   |some l=>if(aE P l.type).any (· ≠0)then some (.pointer (some (a.add l.offset)))else none
   |none=>none
  |_,_=>none
 | .field t x f=>match P.underlying t,ρ x with
  |some (.struct g),.agg cs=>match g[f]? with
   |some l=>partOf P l.type cs l.offset
   |none=>none
  |_,_=>none
 | .indexAddr t x i=>match P.underlying t,ρ x,ρ i with
  |some (.array h e),.pointer (some a),.int _ j=>match aE P e with
   |some n=>if 0<=j/\j<(h:Int)then some (.pointer (some (a.add (j.toNat*n))))else none
   |none=>none
  |some (.slice e),.slice (some a) h _,.int _ j=>match aE P e with
   |some n=>if 0<=j/\j<(h:Int)then some (.pointer (some (a.add (j.toNat*n))))else none
   |none=>none
  |_,_,_=>none
 | .index t x i=>match P.underlying t,ρ x,ρ i with
  |some (.array h e),.agg cs,.int _ j=>match aE P e with
   |some n=>if 0<=j/\j<(h:Int)then partOf P e cs (j.toNat*n)else none
   |none=>none
  |some .string,.string s,.int _ j=>if 0<=j then match s.data.toList[j.toNat]? with|some b=>some (.int .u8 b.toNat)|none=>none else none
  |_,_,_=>none
 |.typeAssert x _ u w=>match P.underlying u,ρ x with
  |some (.interface _),_|none,_=>none
  |some _,.nilIface=>if w then(zeroOf P u).map λz=> .tuple #[z,.bool false]else none
  |some _,.iface t v=>if t=u then some (if w then .tuple #[v,.bool true]else v)else if w then(zeroOf P u).map λz=> .tuple #[z,.bool false]else none
  |_,_=>none
 |.extract x i=>match ρ x with|.tuple A=>A[i]?|_=>none
 |.call { callee:= .builtin .max,args,.. }=>rQ true (args.toList.map ρ)
 |.call { callee:= .builtin .min,args,.. }=>rQ false (args.toList.map ρ)
 | .call { callee:= .builtin .cap,args,argTypes }=>match args[0]?,argTypes[0]? with
  |some x,some t=>match P.underlying t,ρ x with
   |some (.slice _),.slice _ _ c=>if c<dn then some (.int .i64 c)else none
   |_,_=>none
  |_,_=>none
 |_=>none
def bytesOf:List Value->Option (List UInt8)
 |[]=>some []
 |.int .u8 n::r=>if 0<=n/\n<256 then(bytesOf r).map (UInt8.ofNat n.toNat::·)else none
 |_=>none
def aj(P:Program)(t:TypeId)(h:ae)(a:Value):Option Value:=
 match P.underlying t,a with
 | some _,.pointer (some ⟨k,i,none⟩)=>match h.get k with
  | some (.cells cs ..)=>
   if isAgg P t then
    match aE P t with
    |some n=>if((cs.drop i).take n).length=n then some (.agg ((cs.drop i).take n).toArray)else none
    |none=>none
   else cs[i]?
  |_=>none
 |_,_=>none
def AV:Value->Bool
 |.bool _|.int _ _|.string _=>true
 |_=>false
def CU:Value->Bool
 |.agg cs=>cs.toList.all AV
 |v=>AV v
def N6:Value->Value->Bool
 |.bool a,.bool b=>a==b
 |.int k a,.int c b=>decide (k=c)&&decide (a=b)
 |.string a,.string b=>decide (a.data.toList=b.data.toList)
 |_,_=>false
def F4:List Value->List Value->Bool
 |[],[]=>true
 |a::x,b::y=>N6 a b&&F4 x y
 |_,_=>false
def U5:Value->Value->Bool
 |.agg a,.agg b=>F4 a.toList b.toList
 |a,b=>N6 a b
def SZ(P:Program)(e:TypeId->Value->Value->Option Bool)(a b:Array Value):List Field->Option Bool
 |[]=>some true
 |f::c=>if f.name≠ "_" then(match partOf P f.type a f.offset,partOf P f.type b f.offset with
  |some p,some q=>(match e f.type p q with
   |some true=>SZ P e a b c
   |some false=>some false
   |none=>none)
  |_,_=>none)else none
def mA(P:Program):Nat->TypeId->Value->Value->Option Bool
 |0,_,_,_=>none
 |d+1,t,x,y=>match P.underlying t,x,y with
  |some (.struct c),.agg a,.agg b=>if P.stoodInHeld t=false then SZ P (mA P d) a b c.toList else none
  |_,x,y=>Cx P t x y
def Nx(P:Program)(c:TypeId->Value->Bool)(a:Array Value):List Field->Bool
 |[]=>true
 |f::b=>decide (f.name≠ "_")&&(match partOf P f.type a f.offset with|some p=>c f.type p|none=>false)&&Nx P c a b
def zG(P:Program):Nat->TypeId->Value->Bool
 |0,_,_=>false
 |d+1,t,v=>match P.underlying t,v with
  |some (.struct b),.agg a=>Nx P (zG P d) a b.toList
  |some .bool,.bool _=>true
  |some (.int _),.int _ _=>true
  |some .string,.string _=>true
  |_,_=>false
def tq(P:Program)(a:TypeId)(k:Value):Bool:=CU k&&zG P 3 a k
def NI(P:Program)(c:TypeId)(a b:Value):Option Bool:=
 if CU b then match mA P 3 c a b with
  |some true=>if U5 a b then some true else none
  |r=>r
 else none
def CE(P:Program)(a:TypeId)(k:Value):List (Value×Value)->Option (Option Value)
 |[]=>some none
 |(b,v)::c=>match NI P a k b with
  |some true=>some (some v)
  |some false=>CE P a k c
  |none=>none
def cW(P:Program)(ρ:Operand->Value)(o:Oper)(h:ae):Option Value:=
 match o.op with
 |.load t a=>aj P t h (ρ a)
 |.slice t x p l j=>bG P t (ρ x) (p.map ρ) (l.map ρ) (j.map ρ) h
 | .convert s d x=>match P.underlying s,P.underlying d,ρ x with
  | some (.slice e),some .string,.slice a c _=>match P.underlying e,a with
   |some (.int .u8),none=>some (strOf [])
   | some (.int .u8),some ⟨k,i,none⟩=>match h.get k with
    | some (.cells cs ..)=>
     if((cs.drop i).take c).length=c then
      (bytesOf ((cs.drop i).take c)).map strOf
     else none
    |_=>none
   |_,_=>none
  |_,_,_=>none
 | .lookup t m k g=>match P.underlying t with
  | some (.map f e)=>match (match ρ m with|.map none=>some []|.map (some r)=>(match h.get r with|some (.map b)=>some b|_=>none)|_=>none),zeroOf P e with
   | some b,some z=>
    if tq P f (ρ k)then match CE P f (ρ k) b with
     |some (some v)=>some (if g then .tuple #[v,.bool true]else v)
     |some none=>some (if g then .tuple #[z,.bool false]else z)
     |none=>none
    else none
   |_,_=>none
  |_=>none
 | .call { callee:= .builtin .len,args,argTypes }=>match args[0]?,argTypes[0]? with
  | some x,some t=>match P.underlying t,ρ x with
   |some .string,.string s=>some (.int .i64 s.data.toList.length)
   |some (.array n _),_=>some (.int .i64 n)
   |some (.slice _),.slice _ n _=>some (.int .i64 n)
   |some (.map ..),.map none=>some (.int .i64 0)
   |some (.map ..),.map (some r)=>match h.get r with
    |some (.map b)=>some (.int .i64 b.length)
    |_=>none
   |_,_=>none
  |_,_=>none
 |_=>none
def df(z:List Value):Nat->List Value
 |0=>[]
 |n+1=>z++df z n
def bV(P:Program)(ρ:Operand->Value)(o:Oper):Option (dS×(Nat->Value)):=
 match o.op with
 |.alloc t=>match zeroOf P t with
  |some z=>if z.cells.toList.all dO then some (.cells z.cells.toList t 0 true,λk=> .pointer (some ⟨k,0,none⟩))else none
  |none=>none
 |.box t x=>if(ρ x).cells.toList.all dO then some (.cells (ρ x).cells.toList t 0 true,λk=> .pointer (some ⟨k,0,none⟩))else none
 | .buildSlice t f a=>match P.underlying t with
  | some (.slice e)=>match aE P e,zeroOf P e with
   | some g,some z=>
    if z.cells.size=g/\0<g/\f*g<=65536 then
     match (if a.toList.all λp=>C7 (ρ p.2)then Instr.fill (λi=>some (i*g,g)) (df z.cells.toList f).toArray (a.toList.map λp=>(p.1,ρ p.2))else none)with
     |some cs=>if cs.toList.all dO then some (.cells cs.toList e g true,λk=> .slice (some ⟨k,0,none⟩) f f)else none
     |none=>none
    else none
   |_,_=>none
  |_=>none
 | .makeSlice t l c=>match P.underlying t,ρ l,ρ c with
  | some (.slice e),.int .i64 l,.int .i64 c=>match P.info? e,zeroOf P e with
   | some i,some z=>
    if z.cells.size=i.size/\0<i.size/\0<=l/\l<=c/\c*i.bytes<=140737488355328/\c<=1099511627776 then
     some (.cells (df z.cells.toList c.toNat) e i.size true,λk=> .slice (some ⟨k,0,none⟩) l.toNat c.toNat)
    else none
   |_,_=>none
  |_,_,_=>none
 | .makeMap t r=>match P.underlying t with
  |some (.map ..)=>match r with
   |none=>some (.map [],λk=> .map (some k))
   |some x=>match ρ x with|.int _ _=>some (.map [],λk=> .map (some k))|_=>none
  |_=>none
 | .convert s d x=>match P.underlying s,P.underlying d,ρ x with
  | some _,some (.slice e),.string s=>match P.underlying e with
   |some (.int .u8)=>match aE P e with
    |some 1=>some (.cells (s.data.toList.map λb=> .int .u8 b.toNat) e 1 true,λk=> .slice (some ⟨k,0,none⟩) s.data.toList.length (dn+s.data.toList.length))
    |_=>none
   |_=>none
  |_,_,_=>none
 |_=>none
inductive dM where
 |no
 |set (k:Nat) (b:dS)
 |push (b:dS)
 |move (k:Nat) (b:dS)
 |all (h:ae)
 deriving Inhabited
def dM.app(u:dM)(h:ae):ae:=
 match u with
 |.no=>h
 |.set k b=>h.set k b
 |.push b=>h.push b
 |.move k b=>(h.del k).push b
 |.all a=>a
def storeAt(h:ae)(k i:Nat)(a:List Value):Option dM:=
 match h.get k with
 |some (.cells cs t b true)=>if i+a.length<=cs.length/\a.all dO then some (.set k (.cells (cs.take i++a++cs.drop (i+a.length)) t b true))else none
 |_=>none
def fQ(h:ae)(a:Nat)(x:Value):Option (List Value×Nat):=
 match x with
 |.slice none 0 _=>some ([],0)
 |.slice (some ⟨_,_,some _⟩) 0 0=>some ([],0)
 |.slice (some ⟨k,i,none⟩) n _=>match h.get k with
  |some (.cells cs ..)=>if((cs.drop i).take (n*a)).length=n*a then some ((cs.drop i).take (n*a),n)else none
  |_=>none
 |.string s=>if a=1 then some (s.data.toList.map λb=> .int .u8 b.toNat,s.data.toList.length)else none
 |_=>none
def eS(P:Program)(e:TypeId):Option TypeInfo:=
 match P.info? e,zeroOf P e with
 |some i,some z=>if z.cells.size=i.size/\0<i.size then some i else none
 |_,_=>none
def dW(P:Program)(t:TypeId):Bool:=match P.underlying t with|some (.slice _)|some .string=>true|_=>false
def kY(h:ae)(e:TypeId)(a d:Nat)(k j n c m:Nat)(b:List Value):Option (Value×dM):=
 if(n+m)*d<=70368744177664/\n+m<=1099511627776 then
  match h.get k with
  | some (.cells cs g f i)=>
   if g=e/\f=a/\((cs.drop j).take (n*a)).length=n*a then
    if c<dn then some (.slice (some ⟨h.next,0,none⟩) (n+m) (dn+(n+m)),.push (.cells ((cs.drop j).take (n*a)++b) e a true))
    else if i=true/\cs.length=j+n*a then some (.slice (some ⟨h.next,0,none⟩) (n+m) (dn+(n+m)),.move k (.cells ((cs.drop j).take (n*a)++b) e a true))
    else none
   else none
  |_=>none
 else none
def bI (P:Program)(t b:TypeId)(s x:Value)(h:ae):Option (Value×dM):=
 match P.underlying t with
 | some (.slice e)=>match eS P e with
  | some i=>
   if dW P b=true then
    match fQ h i.size x with
    | some (a,m)=>
     if a.all dO/\a.length=m*i.size then
      match s with
      | .slice none 0 0=>if m=0 then some (s,.no)else
        if m*i.bytes<=70368744177664/\m<=1099511627776 then some (.slice (some ⟨h.next,0,none⟩) m (dn+m),.push (.cells a e i.size true))else none
      | .slice (some ⟨k,j,none⟩) n c=>
       if m=0 then some (s,.no)else
       if n+m<=bH c then
        (storeAt h k (j+n*i.size) a).map λu=>(.slice (some ⟨k,j,none⟩) (n+m) c,u)
       else kY h e i.size i.bytes k j n c m a
      |_=>none
     else none
    |none=>none
   else none
  |none=>none
 |_=>none
def copyV(P:Program)(t:TypeId)(d s:Value)(h:ae):Option (Value×dM):=
 match P.underlying t with
 | some (.slice e)=>match aE P e,d with
  | some b,.slice a n _=>
   match fQ h b s with
   |some (cs,m)=>
    if n=0\/m=0 then some (.int .i64 0,.no)else
    match a with
    |some ⟨k,j,none⟩=>(storeAt h k j (cs.take (min m n*b))).map λu=>(.int .i64 (min m n:Nat),u)
    |_=>none
   |none=>none
  |_,_=>none
 |_=>none
def zt(P:Program)(t:TypeId)(x:Value)(h:ae):Option (Value×dM):=
 match P.underlying t,x with
 |some (.slice e),.slice (some ⟨k,j,none⟩) n _=>match zeroOf P e with
  |some z=>if n=0 then some (undef,.no)else(storeAt h k j (df z.cells.toList n)).map λu=>(undef,u)
  |none=>none
 |_,_=>none
abbrev dZ:=FuncId->List Value->ae->Option (Value×ae)
def zh(c:dZ)(f:Value)(b:List Value)(h:ae):Option (Value×dM):=
 match f with
 |.func (.func g) first a=>if g<YB then(c g (first.toList++b++a.toList) h).map λr=>(r.1,.all r.2)else none
 |.func (.yield k) first a=>if first.size=0/\a.size=0 then(c (YB+k) b h).map λr=>(r.1,.all r.2)else none
 |_=>none
def rL(P:Program)(b:TypeId)(k v:Value):List (Value×Value)->Option (List (Value×Value))
 |[]=>some [(k,v)]
 |(a,c)::r=>match NI P b k a with
  |some true=>some ((k,v)::r)
  |some false=>(rL P b k v r).map ((a,c)::·)
  |none=>none
def gp(P:Program)(v:dZ)(ρ:Operand->Value)(o:Oper)(h:ae):Option (Value×dM):=
 match o.op with
 |.store t a x=>match ρ a with
  |.pointer (some ⟨k,i,none⟩)=>if aE P t=some (ρ x).cells.size then(storeAt h k i (ρ x).cells.toList).map λu=>(undef,u)else none
  |_=>none
 | .mapUpdate t m k x|.insert t m k x=>match P.underlying t,ρ m with
  |some (.map j _),.map (some r)=>match h.get r with
   |some (.map q)=>if tq P j (ρ k)then(rL P j (ρ k) (ρ x) q).map λg=>(undef,.set r (.map g))else none
   |_=>none
  |_,_=>none
 |.call { callee:= .value f,args,.. }=>zh v (ρ f) (args.toList.map ρ) h
 |.call { callee:= .builtin .append,args,argTypes }=>match args.toList,argTypes.toList with
  |[s,x],[t,b]=>bI P t b (ρ s) (ρ x) h
  |_,_=>none
 |.call { callee:= .builtin .copy,args,argTypes }=>match args.toList,argTypes.toList with
  |[d,s],t::_=>copyV P t (ρ d) (ρ s) h
  |_,_=>none
 |.call { callee:= .builtin .clear,args,argTypes }=>match args.toList.map ρ,argTypes.toList with
  |[x],[t]=>zt P t x h
  |_,_=>none
 |.call { callee:= .builtin .unsafeSliceData,args,.. }=>match args.toList.map ρ with
  |[.slice none _ _]=>some (.pointer none,.no)
  |[.slice (some a) _ c]=>if 0<bH c then some (.pointer (some a),.no)else none
  |_=>none
 | .call { callee:= .builtin .unsafeString,args,argTypes,.. }=>match args.toList.map ρ,argTypes[0]? with
  |[.pointer none,.int _ 0],some _=>some (strOf [],.no)
  | [.pointer (some ⟨k,i,none⟩),.int _ n],some w=>match h.get k,P.underlying w with
   | some (.cells cs e 1 true),some (.pointer p)=>
    if e=p/\aE P e=some 1/\0<n/\n<9223372036854775807/\((cs.drop i).take n.toNat).length=n.toNat then
     match bytesOf ((cs.drop i).take n.toNat)with
     |some l=>some (strOf l,.set k (.cells cs e 1 false))
     |none=>none
    else none
   |_,_=>none
  |_,_=>none
 | .convert s d x=>match P.underlying s,P.underlying d,ρ x with
  |some (.pointer t),some .unsafePointer,.pointer (some ⟨k,0,none⟩)=>match h.get k with
   |some (.cells cs b 0 _)=>if t=b/\aE P t=some cs.length/\0<cs.length then some (ρ x,.no)else none
   |_=>none
  |some .unsafePointer,some (.pointer t),.pointer (some ⟨k,0,none⟩)=>match h.get k with
   |some (.cells cs b 0 _)=>if t=b/\aE P t=some cs.length/\0<cs.length then some (ρ x,.no)else none
   |_=>none
  |_,_,_=>none
 |_=>none
def dV(P:Program)(a:dZ)(ρ:Operand->Value)(o:Oper)(h:ae):Option (Value×dM):=
 match dr P ρ o with
 |some v=>some (v,.no)
 | none=>match cW P ρ o h with
  |some v=>some (v,.no)
  |none=>match bV P ρ o with
   |some (b,f)=>some (f h.next,.push b)
   |none=>gp P a ρ o h
def jx(a:List Value)(b:Option Tmp)(v:Value):List Value:=
 match b with
 |some d=>a.set d v
 |none=>a
def jh(ops:Array Oper)(c:List Value)(o:Oper):Option Bool:=
 match o.guard with
 |none=>some true
 | some (j,a)=>match (ops[j]?).bind (·.dst)with
  |some d=>match c.getD d undef with
   |.bool b=>some (b==a)
   |.tuple _=>some false
   |_=>none
  |none=>none
def k4(P:Program)(gl:Nat->Bool)(c:dZ)(ops:Array Oper):List Oper->List Value->ae->Option (List Value×ae)
 |[],a,h=>some (a,h)
 | o::b,a,h=>
  match jh ops a o with
  |some true=>match dV P c (ev gl a) o h with
   |some (v,u)=>k4 P gl c ops b (jx a o.dst v) (u.app h)
   |none=>none
  |some false=>k4 P gl c ops b (jx a o.dst undef) h
  |none=>none
def Ry(e:Value->Value->Bool):List Value->List Value->Bool
 |[],[]=>true
 |a::x,b::y=>e a b&&Ry e x y
 |_,_=>false
def dG:Nat->Value->Value->Bool
 |0,_,_=>false
 |d+1,v,h=>match v,h with
  |.bool a,.bool b=>a==b
  |.int k a,.int l b=>decide (k=l)&&decide (a=b)
  |.string a,.string b=>decide (a.data.toList=b.data.toList)
  |.pointer none,.pointer none=>true
  |.pointer (some ⟨a,i,none⟩),.pointer (some ⟨b,j,none⟩)=>decide (a=b)&&decide (i=j)
  |.slice none n c,.slice none g e=>decide (n=g)&&decide (c=e)
  |.slice (some ⟨a,i,none⟩) n c,.slice (some ⟨b,j,none⟩) g e=>decide (a=b)&&decide (i=j)&&decide (n=g)&&decide (c=e)
  |.map none,.map none=>true
  |.map (some a),.map (some b)=>decide (a=b)
  |.nilFunc,.nilFunc=>true
  |.nilIface,.nilIface=>true
  |.func (.func f) a c,.func (.func o) m e=>decide (f=o)&&Ry (dG d) a.toList m.toList&&Ry (dG d) c.toList e.toList
  |.iface t v,.iface p h=>decide (t=p)&&dG d v h
  |.agg a,.agg b=>Ry (dG d) a.toList b.toList
  |.tuple a,.tuple b=>Ry (dG d) a.toList b.toList
  |_,_=>false
inductive sD where
 |skip
 |pure (v:Value)
 |read (v:Value)
 |alloc (B:dS) (v:Value)
 |BE (v:Value) (h:ae)
 deriving Inhabited
def sD.val:sD->Value
 |.skip=>undef
 |.pure v|.read v|.alloc _ v|.BE v _=>v
def cj(h:ae)(base:Nat):List (Nat×dS)->ae
 |[]=>h
 |(i,B)::r=>(cj h base r).set (base+i) B
def fu (P:Program)(gl:Nat->Bool)(c:dZ)(ops:Array Oper)(bf:Nat->Nat->Bool)(base:Nat):List Oper->Nat->List Value->ae->List (Nat×dS)->Option (List (List Value×sD)×List Value×ae×List (Nat×dS))
 |[],_,a,h,pd=>some ([],a,h,pd)
 | o::b,j,a,h,pd=>
  match jh ops a o with
  |none=>none
  |some false=>(fu P gl c ops bf base b (j+1) (jx a o.dst undef) h pd).map λr=>((a,.skip)::r.1,r.2)
  | some true=>
   match dr P (ev gl a) o with
   |some v=>(fu P gl c ops bf base b (j+1) (jx a o.dst v) h pd).map λr=>((a,.pure v)::r.1,r.2)
   | none=>
    match cW P (ev gl a) o h with
    |some v=>(fu P gl c ops bf base b (j+1) (jx a o.dst v) h pd).map λr=>((a,.read v)::r.1,r.2)
    | none=>
     match bV P (ev gl a) o with
     |some (B,f)=>(fu P gl c ops bf base b (j+1) (jx a o.dst (f (base+j))) h ((j,B)::pd)).map λr=>((a,.alloc B (f (base+j)))::r.1,r.2)
     | none=>
      match gp P c (ev gl a) o (cj h base (pd.filter λp=>bf j p.1))with
      | some (v,u)=>
       (fu P gl c ops bf base b (j+1) (jx a o.dst v) (u.app (cj h base (pd.filter λp=>bf j p.1))) (pd.filter λp=> !bf j p.1)).map λr=>
        ((a,.BE v (u.app (cj h base (pd.filter λp=>bf j p.1))))::r.1,r.2)
      |none=>none
def ir{a:Type}:List (a×sD)->Nat->List (Nat×ae)
 |[],_=>[]
 |(_,.BE _ h)::r,j=>(j,h)::ir r (j+1)
 |_::r,j=>ir r (j+1)
def jQ(bf:Nat->Nat->Bool):List (Nat×ae)->Bool
 |(i,_)::(j,h)::r=>bf j i&&jQ bf ((j,h)::r)
 |_=>true
def qM(P:Program)(gl:Nat->Bool)(o:Oper)(a:List Value)(v:Value)(h:ae):Bool:=
 match cW P (ev gl a) o h with
 |some b=>dG 4 v b
 |none=>false
def qn(P:Program)(gl:Nat->Bool)(bf:Nat->Nat->Bool)(j:Nat)(o:Oper)(b:List Value)(v:Value):ae->List (Nat×ae)->Bool->Bool
 |h,[],a=>a||qM P gl o b v h
 |h,(e,c)::r,a=>((a&&Nat.blt j e)||bf j e||qM P gl o b v h)&&(bf e j||qn P gl bf j o b v c r (Nat.blt e j))
def oq(P:Program)(gl:Nat->Bool)(bf:Nat->Nat->Bool)(h:ae)(b:List (Nat×ae)):List Oper->List (List Value×sD)->Nat->Bool
 |o::a,(c,.read v)::r,j=>qn P gl bf j o c v h b true&&oq P gl bf h b a r (j+1)
 |_::a,_::r,j=>oq P gl bf h b a r (j+1)
 |_,_,_=>true
def BD(P:Program)(gl:Nat->Bool)(e:dZ)(ops:Array Oper)(bf:Nat->Nat->Bool)(c:List Value)(h:ae):Option (List Value×ae):=
 match fu P gl e ops bf h.next ops.toList 0 c { h with next:=h.next+ops.size } []with
 |some (a,b,d,pd)=>
  if jQ bf (ir a 0)&&oq P gl bf { h with next:=h.next+ops.size } (ir a 0) ops.toList a 0 then some (b,cj d h.next pd)else none
 |none=>none
def ZB(o:Oper):Bool:=match o.op with|.insert .. =>true|_=>false
def acD(o:Oper):Bool:=match o.op with|.store .. =>true|_=>false
def Lk(ops:Array Oper):Bool:=
 ops.toList.any ZB&&(List.range ops.size).any λj=>(match ops[j]? with|some o=>acD o|none=>false)&&(List.range j).any λi=>(match ops[i]? with|some o=>ZB o|none=>false) && !eY (lF ops) j i
def ji:FuncId->List Value->ae->Option (Value×ae):=λ_ _ _=>none
def acO(P:Program)(ρ:Operand->Value)(o:Oper)(k:Nat)(h:ae):Option (Value×Option (Nat×dS)):=
 match dr P ρ o with
 |some v=>some (v,none)
 | none=>match cW P ρ o h with
  |some v=>some (v,none)
  | none=>match bV P ρ o with
   |some (b,f)=>some (f k,some (k,b))
   |none=>match gp P ji ρ o h with
    |some (v,.no)=>some (v,none)
    |some (v,.set i b)=>some (v,some (i,b))
    |_=>none
abbrev KP:=List Value×ae×List Nat
def Jt(s:KP)(a:Option Tmp)(v:Value):Option (Nat×dS)->KP
 |none=>(jx s.1 a v,s.2.1,s.2.2)
 |some (k,b)=>(jx s.1 a v,s.2.1.set k b,k::s.2.2)
def Kv(P:Program)(gl:Nat->Bool)(ops:Array Oper)(base j:Nat)(s:KP):Option KP:=
 match ops[j]? with
 | some o=>match jh ops s.1 o with
  |some true=>match acO P (ev gl s.1) o (base+j) s.2.1 with
   |some (v,u)=>some (Jt s o.dst v u)
   |none=>none
  |some false=>some (Jt s o.dst undef none)
  |none=>none
 |none=>none
def KA(P:Program)(gl:Nat->Bool)(ops:Array Oper)(base:Nat):Nat->Nat->KP->Option KP
 |0,_,s=>some s
 |n+1,j,s=>match Kv P gl ops base j s with
  |some a=>KA P gl ops base n (j+1) a
  |none=>none
def zw:List (Value×Value)->List (Value×Value)->Bool
 |[],[]=>true
 |(a,b)::x,(c,d)::y=>dG 4 a c&&dG 4 b d&&zw x y
 |_,_=>false
def Sy:dS->dS->Bool
 |.cells cs t e g,.cells b h d c=>Ry (dG 4) cs b&&Nat.beq t h&&Nat.beq e d&&(g==c)
 |.map f,.map a=>zw f a
 |_,_=>false
def WO(h a:ae)(k:Nat):Bool:=match h.get k,a.get k with
 |some B,some C=>Sy B C
 |none,none=>true
 |_,_=>false
def SY(s a:KP):Bool:=Ry (dG 4) s.1 a.1&&s.2.2.all (WO s.2.1 a.2.1)&&a.2.2.all (WO s.2.1 a.2.1)
def R0(P:Program)(gl:Nat->Bool)(ops:Array Oper)(bf:Nat->Nat->Bool)(base:Nat)(b:KP):Nat->List Nat->KP->Bool
 |0,_,s=>SY b s
 |n+1,a,s=>(List.range ops.size).all λj=>a.contains j||((List.range j).any λi=>bf j i && !a.contains i)||(match Kv P gl ops base j s with|some c=>R0 P gl ops bf base b n (j::a) c|none=>false)
def Zx(P:Program)(gl:Nat->Bool)(ops:Array Oper)(bf:Nat->Nat->Bool)(b:List Value)(h:ae):Option (List Value×ae):=
 match KA P gl ops h.next ops.size 0 (b,{ h with next:=h.next+ops.size },[])with
 |some a=>if R0 P gl ops bf h.next a ops.size [] (b,{ h with next:=h.next+ops.size },[])then some (a.1,a.2.1)else none
 |none=>none
def I0(P:Program)(gl:Nat->Bool)(b:dZ)(ops:Array Oper)(a:List Value)(h:ae):Option (List Value×ae):=
 if Lk ops then Zx P gl ops (eY (lF ops)) a h else BD P gl b ops (eY (lF ops)) a h
def iter(a:List Value->ae->Option (Exit×List Value×ae)):Nat->List Value->ae->Option (Exit×List Value×ae)
 |0,_,_=>none
 |n+1,c,h=>match a c h with
  |some (.normal,b,d)=>iter a n b d
  |r=>r
def Cq(P:Program)(g:FuncId):Bool:=match P.funcs[g]? with|some a=>a.body.isSome|none=>false
def Hb:Option dS->Option Exit
 |some (.loop .ready ..)=>some .normal
 |some (.loop .ret ..)=>some .ret
 |some (.loop (.exit a) ..)=>some (.exit a)
 |_=>none
def bJ(P:Program)(gl:Nat->Bool)(i:dZ)(N:Nat):Code->List Value->ae->Option (Exit×List Value×ae)
 |.skip,d,h=>some (.normal,d,h)
 |.region _ ops false,d,h=>(k4 P gl i ops ops.toList d h).map λr=>(.normal,r.1,r.2)
 |.region _ ops true,d,h=>(I0 P gl i ops d h).map λr=>(.normal,r.1,r.2)
 |.seq a b,d,h=>match bJ P gl i N a d h with
  |some (.normal,k,m)=>bJ P gl i N b k m
  |r=>r
 |.cond c a b,d,h=>match ev gl d c with
  |.bool t=>if t then bJ P gl i N a d h else bJ P gl i N b d h
  |_=>none
 |.block p c,d,h=>match bJ P gl i N c d h with
  |some (.exit o,k,m)=>if o=p then some (.normal,k,m)else some (.exit o,k,m)
  |r=>r
 |.loop c,d,h=>iter (bJ P gl i N c) N d h
 |.exit p,d,h=>some (.exit p,d,h)
 |.ret,d,h=>some (.ret,d,h)
 |.label _,d,h=>some (.normal,d,h)
 | .rangeFunc f s n l,d,h=>match ev gl d f with
  | .func (.func g) first j=>
   if u:rP n l=true then
    if g<YB/\Cq P g=true then
     match i g (first.toList++[.func (.yield h.next) #[] #[]]++j.toList) (h.push (.loop .ready d s.toList n l u))with
     |some (_,q)=>(Hb (q.get h.next)).map λe=>(e,d,q.del h.next)
     |none=>none
    else none
   else none
  |_=>none
 |_,_,_=>none
def pX(a:List Value)(b:List (Tmp×Value)):List Value:=b.foldl (λa p=>a.set p.1 p.2) a
def AN:Exit->Option (Bool×LSt)
 |.normal=>some (true,.ready)
 |.ret=>some (false,.ret)
 |.exit a=>some (false,.exit a)
 |_=>none
def yM(f:Code->List Value->ae->Option (Exit×List Value×ae))(k:Nat)(a:List Value)(h:ae):Option (Value×ae):=
 match h.get k with
 | some (.loop .ready w v m g _)=>
  if a.length=v.length then
   match f m (pX w (v.zip a)) h with
   | some (.normal,t,p)=>match p.get k with
    | some (.loop .ready l s i c q)=>match f g t (p.set k (.loop .busy l s i c q))with
     |some (e,_,r)=>match r.get k,AN e with
      |some (.loop _ n o j d u),some (b,x)=>some (.bool b,r.set k (.loop x n o j d u))
      |_,_=>none
     |none=>none
    |_=>none
   |_=>none
  else none
 |_=>none
def dE(P:Program)(b:List Value)(h:ae):List ResultVar->Option (List Value)
 |[]=>some []
 |.tmp t::r=>(dE P b h r).map (b.getD t undef::·)
 |.cell a t::r=>match aj P t h (b.getD a undef)with
  |some v=>(dE P b h r).map (v::·)
  |none=>none
def dJ:List Value->Value
 |[v]=>v
 |a=> .tuple a.toArray
abbrev uV:=dZ->List Value->ae->Option (Value×ae)
def bY(P:Program)(gl:Nat->Bool)(e:FuncId->Option uV):Nat->dZ
 |0,_,_,_=>none
 | n+1,f,a,h=>if YB<=f then yM (bJ P gl (bY P gl e n) n) (f-YB) a h else match e f with
  |some p=>p (bY P gl e n) a h
  | none=>match P.funcs[f]? with
   | some d=>match d.body with
    |some c=>match bJ P gl (bY P gl e n) n c (a++List.replicate (d.ntmps-a.length) undef) h with
     |some (.normal,i,b)=>(dE P i b d.results.toList).map λg=>(dJ g,b)
     |some (.ret,i,b)=>(dE P i b d.results.toList).map λg=>(dJ g,b)
     |_=>none
    |none=>none
   |none=>none
end
end Go.Ab
end
section
namespace Go.Ab
open Go
section
noncomputable section
variable {α:Type}
def ah(P:Program)(t:TypeId)(a x:Value)(h:ae):Option (Value×dM):=match a with
 |.pointer (some ⟨k,i,none⟩)=>if aE P t=some x.cells.size then(storeAt h k i x.cells.toList).map λu=>(undef,u)else none
 |_=>none
end
end
end Go.Ab
end
section
namespace Go.Ab
variable{v:Value}{V:Array Value}{w:Value}{c:List Value}{d:List Value}{A:Type}
section
theorem HT.get_nil:∀p,HT.get p .nil=none
 |.e=>rfl
 |.l _=>rfl
 |.r _=>rfl
theorem HT.eu(b:Option dS):∀(p:KR)(t:HT),HT.get p (HT.set b p t)=b
 |.e,.nil=>rfl
 |.e,.node .. =>rfl
 |.l p,.nil=>HT.eu b p .nil
 |.l p,.node _ l _=>HT.eu b p l
 |.r p,.nil=>HT.eu b p .nil
 |.r p,.node _ _ r=>HT.eu b p r
theorem HT.cV(b:Option dS):∀(p q:KR)(t:HT),q≠p->HT.get q (HT.set b p t)=HT.get q t
 |.e,.e,_,h=>absurd rfl h
 |.e,.l q,.nil,_=>HT.get_nil q
 |.e,.r q,.nil,_=>HT.get_nil q
 |.e,.l _,.node ..,_=>rfl
 |.e,.r _,.node ..,_=>rfl
 |.l p,.e,.nil,_=>rfl
 |.l p,.e,.node ..,_=>rfl
 |.l p,.l q,.nil,h=>(HT.cV b p q .nil (λe=>h (by rw[e]))).trans (HT.get_nil q)
 |.l p,.l q,.node _ l _,h=>HT.cV b p q l (λe=>h (by rw[e]))
 |.l p,.r q,.nil,_=>HT.get_nil q
 |.l p,.r q,.node ..,_=>rfl
 |.r p,.e,.nil,_=>rfl
 |.r p,.e,.node ..,_=>rfl
 |.r p,.r q,.nil,h=>(HT.cV b p q .nil (λe=>h (by rw[e]))).trans (HT.get_nil q)
 |.r p,.r q,.node _ _ r,h=>HT.cV b p q r (λe=>h (by rw[e]))
 |.r p,.l q,.nil,_=>HT.get_nil q
 |.r p,.l q,.node ..,_=>rfl
def KR.num:KR->Nat
 |.e=>0
 |.l p=>2*p.num+1
 |.r p=>2*p.num+2
theorem FG:∀(f n:Nat),n<f->(Db f n).num=n
 |0,_,h=>absurd h (by omega)
 |f+1,0,_=>rfl
 |f+1,k+1,h=>by
  have c:=FG f (k/2) (by omega);have b:Db (f+1) (k+1)=Nat.rec (motive:=λ_=>KR) (.l (Db f (k/2))) (λ_ _=> .r (Db f (k/2))) (k%2):=rfl;rw[b];rcases Nat.mod_two_eq_zero_or_one k with a|a
  ·rw[a];show 2*(Db f (k/2)).num+1=k+1;omega
  ·rw[a];show 2*(Db f (k/2)).num+2=k+1;omega
theorem Mb(n:Nat):(pathOf n).num=n:=FG (n+1) n (by omega)
theorem zM{k j:Nat}(h:j≠k):pathOf j≠pathOf k:=λe=>h (by grind[Mb])
section
variable (h:ae) (k j:Nat) (b:dS)
theorem ae.eu:(h.set k b).get k=some b:=HT.eu _ _ _
theorem ae.cV(a:j≠k):(h.set k b).get j=h.get j:=HT.cV _ _ _ _ (zM a)
theorem ae.G2:(h.del k).get k=none:=HT.eu _ _ _
theorem ae.LN(a:j≠k):(h.del k).get j=h.get j:=HT.cV _ _ _ _ (zM a)
theorem ae.fA:(h.push b).get h.next=some b:=HT.eu _ _ _
theorem ae.jt(a:j≠h.next):(h.push b).get j=h.get j:=HT.cV _ _ _ _ (zM a)
@[simp] theorem ae.acN:(h.set k b).next=h.next:=rfl
@[simp] theorem ae.acM:(h.del k).next=h.next:=rfl
@[simp] theorem ae.abr:(h.push b).next=h.next+1:=rfl
theorem ae.aw:(h.set k b).get j=if j=k then some b else h.get j:=by
 split
 ·next e=>subst e;exact h.eu j b
 ·next e=>exact h.cV k j b e
theorem ae.dR:(h.del k).get j=if j=k then none else h.get j:=by
 split
 ·next e=>subst e;exact h.G2 j
 ·next e=>exact h.LN k j e
theorem ae.bt:(h.push b).get j=if j=h.next then some b else h.get j:=by
 split
 ·next e=>subst e;exact h.fA b
 ·next e=>exact h.jt j b e
end
structure Slot where
 b:Nat
 s:Nat
 n:Nat
 t:TypeId
 sz:Nat
 isMap:Bool
abbrev dH:=Nat->Option Slot
def dH.le(c a:dH):Prop:=∀k b,c k=some b->a k=some b
theorem dH.le_refl(a:dH):a.le a:=λ_ _ h=>h
theorem dH.le_trans{a b c:dH}(h:a.le b)(e:b.le c):a.le c:=λk d f=>e k d (h k d f)
def XL:Fn->Bool
 |.yield _=>true
 |_=>false
inductive aD(β:dH):Value->Value->Prop where
 |hH (v:Value):aD β (.chan (some 0)) v
 |bool (b:Bool):aD β (.bool b) (.bool b)
 |int (k:IntKind) (n:Int):aD β (.int k n) (.int k n)
 |float (k:FloatKind) (n:Nat):aD β (.float k n) (.float k n)
 |complex (k:FloatKind) (m n:Nat):aD β (.complex k m n) (.complex k m n)
 |string (s:ByteArray):aD β (.string s) (.string s)
 |nilPtr:aD β (.pointer none) (.pointer none)
 |ptr {k i:Nat} {sl:Slot} (h:β k=some sl) (hm:sl.isMap=false):aD β (.pointer (some ⟨k,i,none⟩)) (.pointer (some ⟨sl.b,sl.s+i,none⟩))
 |lU:aD β (.slice none 0 0) (.slice none 0 0)
 | slice {k i n c i' c':Nat} {sl:Slot} (h:β k=some sl) (hm:sl.isMap=false) (hx:c<dn->c'=c) (ho:dn<=c->c-dn<=c') (hn:n<=bH c)
   (hi:i'=sl.s+i\/(n=0/\c'=0)) (hz:sl.sz=0\/i'+c'*sl.sz<=sl.n):aD β (.slice (some ⟨k,i,none⟩) n c) (.slice (some ⟨sl.b,i',none⟩) n c')
 |dead (a:Addr):aD β (.slice (some ⟨0,0,some 0⟩) 0 0) (.slice (some a) 0 0)
 |L8:aD β (.map none) (.map none)
 |map {k:Nat} {sl:Slot} (h:β k=some sl) (hm:sl.isMap=true):aD β (.map (some k)) (.map (some sl.b))
 | func {fn:Fn} {a a' c c':Array Value} (hy:XL fn=false) (ha:a.size=a'.size) (hc:c.size=c'.size) (ra:∀(i:Nat) v v',a[i]?=some v->a'[i]?=some v'->aD β v v')
   (rc:∀(i:Nat) v v',c[i]?=some v->c'[i]?=some v'->aD β v v'):aD β (.func fn a c) (.func fn a' c')
 |yield {k:Nat} {sl:Slot} (h:β k=some sl) {a c:Array Value} (ha:a.size=0) (hc:c.size=0):aD β (.func (.yield k) a c) (.func (.yield sl.b) a c)
 |nilFunc:aD β .nilFunc .nilFunc
 |iface (t:TypeId) {v v':Value} (h:aD β v v'):aD β (.iface t v) (.iface t v')
 |nilIface:aD β .nilIface .nilIface
 |agg {a a':Array Value} (hs:a.size=a'.size) (h:∀(i:Nat) v v',a[i]?=some v->a'[i]?=some v'->aD β v v'):aD β (.agg a) (.agg a')
 |tuple {a a':Array Value} (hs:a.size=a'.size) (h:∀(i:Nat) v v',a[i]?=some v->a'[i]?=some v'->aD β v v'):aD β (.tuple a) (.tuple a')
theorem aD.mono{q j:dH}(e:q.le j){v c:Value}(h:aD q v c):aD j v c:=by
 induction h with
 |hH v=>exact .hH v
 |bool b=>exact .bool b
 |int k n=>exact .int k n
 |float k n=>exact .float k n
 |complex k m n=>exact .complex k m n
 |string s=>exact .string s
 |nilPtr=>exact .nilPtr
 |ptr h f=>exact .ptr (e _ _ h) f
 |lU=>exact .lU
 |slice h f u z r y A=>exact .slice (e _ _ h) f u z r y A
 |dead a=>exact .dead a
 |L8=>exact .L8
 |map h f=>exact .map (e _ _ h) f
 |yield h o p=>exact .yield (e _ _ h) o p
 |func B o p _ _ x w=>exact .func B o p (λi v c h d=>x i v c h d) (λi v c h d=>w i v c h d)
 |nilFunc=>exact .nilFunc
 |iface t _ g=>exact .iface t g
 |nilIface=>exact .nilIface
 |agg l _ g=>exact .agg l λi v c h d=>g i v c h d
 |tuple l _ g=>exact .tuple l λi v c h d=>g i v c h d
theorem aD.undef(a:dH):aD a undef undef:= .tuple rfl (λi v b h=>by grind)
theorem aD.xK{a:dH}(h:bare v=true):aD a v v:=by
 unfold bare at h;split at h<;>first
  |exact .bool _|exact .int _ _|exact .float _ _|exact .complex _ _ _|exact .string _|exact .nilPtr|exact .lU|exact .L8|exact .nilFunc|exact .nilIface
  |cases h
theorem aD.xM{b:dH}{cs:Array Value}(h:cs.toList.all bare=true)(i:Nat)(v a:Value)(c:cs[i]?=some v)(d:cs[i]?=some a):aD b v a:=by grind[xK]
theorem aD.qH{c:dH}(h:plain v=true):aD c v v:=by
 unfold plain at h;split at h
 ·exact .agg rfl (aD.xM h)
 ·refine .tuple rfl λi v d a b=>?_;rw[a]at b;obtain rfl:=oI b;rw[<-getElem?_toList]at a;have:=all_eq_true.1 h v (List.mem_of_getElem? a);split at this
  ·exact .agg rfl (aD.xM this)
  ·exact .xK this
 grind[xK]
def jI(d:dH)(a b:Array Value):Prop:=a.size=b.size/\∀(i:Nat) v c,a[i]?=some v->b[i]?=some c->aD d v c
def bp(c:dH)(l a:List Value):Prop:=l.length=a.length/\∀(i:Nat) v b,l[i]?=some v->a[i]?=some b->aD c v b
theorem jI.toList{b:dH}{a:Array Value}:jI b a V↔bp b a.toList V.toList:=by simp[jI,bp]
theorem bp.nil(a:dH):bp a [] []:=⟨rfl,λi v b h=>by grind⟩
theorem bp.cons{b:dH}(h:aD b v w)(e:bp b c d):bp b (v::c) (w::d):=
 ⟨by simp[e.1],λi a f g j=>by
  cases i with
  |zero=>grind
  |succ i=>exact e.2 i a f (by grind) (by grind)⟩
theorem bp.head{a:dH}(h:bp a (v::c) (w::d)):aD a v w:=h.2 0 v w rfl rfl
theorem bp.tail{b:dH}(h:bp b (v::c) (w::d)):bp b c d:=
 ⟨by have:=h.1;grind,λi a e f g=>h.2 (i+1) a e (by grind) (by grind)⟩
theorem bp.fw{a:dH}(h:bp a [] c):c=[]:=List.eq_nil_of_length_eq_zero h.1.symm
theorem bp.dz{b:dH}(h:bp b (v::c) d):∃a r,d=a::r/\aD b v a/\bp b c r:=by
 cases d with
 |nil=>have:=h.1;grind
 |cons a r=>exact⟨a,r,rfl,h.head,h.tail⟩
theorem bp.mono{d a:dH}(b:d.le a){l c:List Value}(h:bp d l c):bp a l c:=⟨h.1,λi v g e f=>(h.2 i v g e f).mono b⟩
theorem bp.append{e:dH}:∀{a c b d:List Value},bp e a c->bp e b d->bp e (a++b) (c++d)
 |[],c,b,d,h,f=>by rw[h.fw];grind
 |v::a,c,b,d,h,f=>by
  obtain⟨j,r,rfl,g,i⟩:=h.dz;exact .cons g (i.append f)
theorem bp.map{b:dH}(l:List A){f a:A->Value}(h:∀x∈l,aD b (f x) (a x)):bp b (l.map f) (l.map a):=
 ⟨by simp,λi v e c d=>by grind⟩
theorem aD.MG{b:dH}(h:aD b v w)(a:dO v=true):w.oneCell'=true/\v.cells = #[v]/\w.cells = #[w]:=by
 cases h<;>first|(simp[dO]at a;done)|exact⟨rfl,rfl,rfl⟩
theorem aD.cells{d:dH}(h:aD d v w)(g:v≠Ab.hH):jI d v.cells w.cells:=by
 cases h with
 |hH=>grind
 |agg e h=>exact⟨e,h⟩
 |_=>
  refine⟨rfl,λi a f b c=>?_⟩
  cases i with
  |zero=>simp[Value.cells]at b c;subst b;subst c;constructor<;>assumption
  |succ i=>simp[Value.cells]at b
end
end Go.Ab
end
section
namespace Go.Ab
open Go
variable{z:Int}{v:Value}{b:Bool}{k:Nat}{i:Nat}{w:Value}{n:Nat}{V:Array Value}{c:List Value}{u:IntKind}{T:TypeId}
section
variable {β:dH} {P:Program}
theorem aD.dX{k:IntKind}(h:aD β (.int k z) v):v = .int k z:=by cases h;rfl
theorem aD.kE(h:aD β (.bool b) v):v = .bool b:=by cases h;rfl
theorem aD.fM{s:ByteArray}(h:aD β (.string s) v):v = .string s:=by cases h;rfl
theorem aD.ux(h:aD β (.pointer (some ⟨k,i,none⟩)) v):∃a,β k=some a/\a.isMap=false/\v = .pointer (some ⟨a.b,a.s+i,none⟩):=by
  cases h with
  |ptr h b=>grind
theorem aD.pM{a:Addr}(h:aD β (.pointer (some a)) v):∃b,β a.block=some b/\b.isMap=false/\a.spot=none/\v = .pointer (some ⟨b.b,b.s+a.off,none⟩):=by
  cases h with
  |ptr h c=>grind
theorem aD.rM{a:Array Value}(h:aD β (.agg a) v):∃b,v = .agg b/\jI β a b:=by
  cases h with
  |agg c h=>exact⟨_,rfl,c,h⟩
theorem aD.zF{a:Array Value}(h:aD β (.tuple a) v):∃b,v = .tuple b/\jI β a b:=by
  cases h with
  |tuple c h=>exact⟨_,rfl,c,h⟩
theorem aD.Ps{t:TypeId}(h:aD β (.iface t v) w):∃u,w = .iface t u/\aD β v u:=by
  cases h with
  |iface _ h=>grind
theorem aD.G7(h:aD β .nilIface v):v = .nilIface:=by cases h;rfl
theorem aD.gj{c:Nat}(h:aD β (.slice none n c) v):n=0/\c=0/\v = .slice none 0 0:=by cases h;grind
theorem aD.G6(h:aD β (.map (some k)) v):∃a,β k=some a/\a.isMap=true/\v = .map (some a.b):=by
  cases h with
  |map h b=>grind
theorem aD.CQ(h:aD β (.map none) v):v = .map none:=by cases h;rfl
theorem aD.LQ(h:aD β (.pointer none) v):v = .pointer none:=by cases h;rfl
theorem aD.gO{c:Nat}(h:aD β (.slice (some ⟨k,i,none⟩) n c) v):∃a d b,β k=some a/\a.isMap=false/\(none:Option Nat)=none/\v = .slice (some ⟨a.b,d,none⟩) n b/\
    (c<dn->b=c)/\(dn<=c->c-dn<=b)/\n<=bH c/\(d=a.s+i\/(n=0/\b=0))/\(a.sz=0\/d+b*a.sz<=a.n):=by
  cases h with
  |slice h f g l e j m=>grind
theorem aD.wk{a:Addr}{c:Nat}(h:aD β (.slice (some a) n c) v):(∃k i,a=⟨k,i,none⟩)\/(a=⟨0,0,some 0⟩/\n=0/\c=0/\∃b,v = .slice (some b) 0 0):=by
  cases h with
  |slice h e f j d g l=>grind
  |dead a=>grind
theorem aD.Jr{a:Addr}{c:Nat}(h:aD β (.slice (some a) n c) v):∃d b,v = .slice (some d) n b:=by
  cases h with
  |slice h f g j e i k=>grind
  |dead a=>grind
theorem jI.get{a:Array Value}(h:jI β a V){i:Nat}{v:Value}(c:a[i]?=some v):∃d,V[i]?=some d/\aD β v d:=by
  have e:i<a.size:=(Array.getElem?_eq_some_iff.1 c).1;have b:i<V.size:=h.1▸e;exact⟨V[i],getElem?_eq_getElem b,h.2 i v _ c (getElem?_eq_getElem b)⟩
theorem bp.get{a:List Value}(h:bp β a c){i:Nat}{v:Value}(d:a[i]?=some v):∃e,c[i]?=some e/\aD β v e:=by
  have f:i<a.length:=(List.getElem?_eq_some_iff.1 d).1;have b:i<c.length:=h.1▸f;exact⟨c[i],gE b,h.2 i v _ d (gE b)⟩
theorem aQ{t:TypeId}{d:TypeDesc}(h:P.underlying t=some d)(w:World):(underlying t).run P w = .ok d w:=run_underlying h w
theorem tO{t:TypeId}{i:TypeInfo}(h:P.info? t=some i)(w:World):(typeInfo t).run P w = .ok i w:=by simp[typeInfo,h]
theorem ot{t:TypeId}(h:aE P t=some n):∃i,P.info? t=some i/\i.size=n:=by simp_all[aE]
theorem ey{t:TypeId}(h:aE P t=some n)(w:World):(sizeOf t).run P w = .ok n w:=by
  obtain⟨i,a,rfl⟩:=ot h;simp[sizeOf,tO a]
theorem fD{t:TypeId}{z:Value}(h:zeroOf P t=some z):plain z=true/\∃i,P.info? t=some i/\i.zero=some z:=by
  unfold zeroOf at h
  grind
theorem pv{t:TypeId}{z:Value}(h:zeroOf P t=some z)(w:World):(zeroValue t).run P w = .ok z w:=by
  obtain⟨_,i,a,b⟩:=fD h
  simp_all[tO,zeroValue]
theorem uH{t:TypeId}{d:TypeDesc}(h:P.underlying t=some d)(w:World):(Go.isAgg t).run P w = .ok (Ab.isAgg P t) w:=by
  simp only[Go.isAgg,run_bind,aQ h,andThen_ok,Ab.isAgg,h]
  cases d<;>rfl
theorem Cs:∀x y:List UInt8,rr x y=Op.bytesLess x y
  |[],[]=>rfl
  |_::_,[]=>rfl
  |[],_::_=>rfl
  |a::x,b::y=>by simp[rr,Op.bytesLess,Cs x y]
theorem Sv{a b:ByteArray}(h:a.data.toList=b.data.toList):a=b:=by
  cases a;simp_all
theorem PG(a b:ByteArray):(⟨(a.data.toList++b.data.toList).toArray⟩:ByteArray)=a++b:=by rfl
theorem Rb{a:BinOp}{x y:ByteArray}(h:Ge a x.data.toList y.data.toList=some v)(w:World):(Op.stringOp a x y).run P w = .ok v w:=by
  unfold Ge at h;unfold Op.stringOp;simp only[ByteArray.toList_eq]
  cases a<;>simp only[]at h<;>first
    |(simp only[Option.some.injEq]at h;subst h;simp[Cs];done)
    |(cases h;done)
    |skip
  split at h
  · next b=>
    obtain rfl:=oI h;simp only[run_ite,run_unsupported,Sem.run_pure];rw[if_neg]
    · simp only[strOf,PG]
    · have c:x.data.toList.length=x.size:=by simp
      have d:y.data.toList.length=y.size:=by simp
      rw[c,d]at b;have:IntKind.i64.max=9223372036854775807:=by decide
      omega
  grind
theorem Pq{c:BinOp}{t:TypeId}{k:IntKind}{a b:Int}(h:ay P c t (.int k a) (.int u b)=some v)(w:World):(binOp c t (.int k a) (.int u b)).run P w = .ok v w:=by
  simp only[ay]at h;unfold binOp
  cases c<;>simp only[]at h<;>first
    | (split at h
       · next d=>
         obtain rfl:=oI h;simp only[Op.shift,run_ite];rw[if_neg (by omega)];rfl
       grind)
    | (split at h
       · next e=>
         subst e;simp only[ne_eq,not_true_eq_false,if_false]
         first
           |(obtain rfl:=oI h;rfl)
           | (split at h
              · cases h
              · next d=>obtain rfl:=oI h;simp[Op.intDiv,d])
           |(obtain⟨r,hr,rfl⟩:=map_eq_some_iff.1 h;exact intCmp_sim hr w)
       · cases h)
theorem Fi(a b:ByteArray):(a.data.toList==b.data.toList)=(a==b):=by grind[beq_toListBytes,ByteArray.toList_eq]
theorem Cy{x:Value}{t:TypeId}(a:Cx P t x v=some b)(d:Nat)(w:World):(Op.equalIn (d+1) t x v).run P w = .ok b w:=by
  unfold Cx at a
  grind[run_equalIn_bool',run_equalIn_int,run_equalIn_string,ByteArray.toList_eq]
theorem AH{x:Value}{t:TypeId}(a:Cx P t x v=some b):∃d,P.underlying t=some d/\isAgg P t=false:=by
  unfold Cx at a
  grind[isAgg]
theorem yp{t:TypeId}{d:TypeDesc}(c:P.underlying t=some d)(e:isAgg P t=false){cs:Array Value}{a:Nat}{v:Value}(b:cs[a]?=some v)(w:World):(part t cs a).run P w = .ok v w:=by simp_all[uH,part]
theorem CA{c e:Array Value}(d:Nat)(w:World):∀(a:List Field)(i:Nat)(l m:List Value){b:Bool},c.toList.drop i=l->e.toList.drop i=m->mB P a i l m=some b->
    (Op.eqFields (d+1) c e a).run P w = .ok b w
  |[],_,_,_,b,_,_,h=>by simp only[mB]at h;obtain rfl:=oI h;rfl
  |f::a,i,[],_,b,_,_,h=>by grind[mB]
  |f::a,i,_::_,[],b,_,_,h=>by grind[mB]
  | f::a,i,x::l,y::m,b,o,n,h=>by
    simp only[mB]at h;split at h
    · next z=>
      obtain⟨s,u⟩:=z;have p:c[f.offset]?=some x:=by
        have:(c.toList.drop i)[0]?=some x:=by rw[o];rfl
        rw[getElem?_drop]at this;rw[s,<-getElem?_toList];simpa using this
      have t:e[f.offset]?=some y:=by
        have:(e.toList.drop i)[0]?=some y:=by rw[n];rfl
        rw[getElem?_drop]at this;rw[s,<-getElem?_toList];simpa using this
      have q:c.toList.drop (i+1)=l:=by rw[<-drop_drop,o];rfl
      have r:e.toList.drop (i+1)=m:=by rw[<-drop_drop,n];rfl
      unfold Op.eqFields;rw[if_pos u];split at h
      · next j=>
        obtain⟨v,g,k⟩:=AH j;simp only[run_bind,yp g k p,yp g k t,andThen_ok,Cy j d];simp only[Bool.not_true,false_eq_true,if_false];exact CA d w a (i+1) l m q r h
      · next j=>
        obtain⟨v,g,k⟩:=AH j;obtain rfl:=oI h;simp only[run_bind,yp g k p,yp g k t,andThen_ok,Cy j d];rfl
      · cases h
    grind
theorem Jb{x d:Value}{t:TypeId}(h:Cx P t x v=some b)(a:aD β x w)(c:aD β v d):w=x/\d=v:=by
  unfold Cx at h;split at h
  · exact⟨a.kE,c.kE⟩
  · exact⟨a.dX,c.dX⟩
  · exact⟨a.fM,c.fM⟩
  grind
theorem Cz:∀(a:List Field)(i:Nat){l m d e:List Value}{b:Bool},mB P a i l m=some b->bp β l d->bp β m e->mB P a i d e=some b
  |[],_,_,_,_,_,_,h,_,_=>by grind[mB]
  |f::a,i,[],_,_,_,b,h,_,_=>by grind[mB]
  |f::a,i,_::_,[],_,_,b,h,_,_=>by grind[mB]
  | f::a,i,x::l,y::m,d,e,b,h,p,o=>by
    obtain⟨s,d,rfl,g,j⟩:=p.dz;obtain⟨r,e,rfl,n,k⟩:=o.dz;simp only[mB]at h⊢;split at h
    · next q=>
      rw[if_pos q];split at h
      · next c=>
        obtain⟨rfl,rfl⟩:=Jb c g n;rw[c];exact Cz a (i+1) h j k
      · next c=>
        obtain⟨rfl,rfl⟩:=Jb c g n;rw[c];exact h
      · cases h
    grind
theorem zW{t:TypeId}(d:Nat)(c:P.underlying t=some (.pointer T)){n:Nat}(b:aE P T=some n)(e:n≠0)(a:Addr)(w:World):
    (Op.equalIn (d+1) t (.pointer (some a)) (.pointer (some a))).run P w = .ok true w:=by
  simp only[Op.equalIn,run_bind,aQ c,andThen_ok,ey b,run_ite]
  simp_all[sameAddr]
set_option maxHeartbeats 4000000 in
theorem Jd{t:TypeId}{x y p l:Value}{b:Bool}(h:rD P t x y=some b)(f:aD β x p)(g:aD β y l)(w:World)(d:Nat):(Op.equalIn (d+1+1) t p l).run P w = .ok b w:=by
  unfold rD at h;split at h
  · cases f.kE;cases g.kE
    split at h
    · next c=>obtain rfl:=oI h;exact run_equalIn_bool' w (d+1) t _ _ c
    · cases h
  · cases f
    split at h
    · next c=>obtain rfl:=oI h;cases g<;>simp only[Op.equalIn,run_bind,aQ c,andThen_ok,Sem.run_pure]<;>rfl
    · cases h
  · cases g
    split at h
    · next c=>obtain rfl:=oI h;cases f<;>simp only[Op.equalIn,run_bind,aQ c,andThen_ok,Sem.run_pure]<;>rfl
    · cases h
  · next a r=>
    split at h
    · next e c=>
      split at h
      · next k=>
        obtain rfl:=oI h;obtain⟨rfl,o⟩:=k;obtain⟨B,u,_,_,rfl⟩:=f.pM;obtain⟨A,q,_,_,rfl⟩:=g.pM;rw[u]at q;obtain rfl:=oI q
        cases i:aE P e with
        |none=>simp[i]at o
        |some n=>exact zW (d+1) c i (by simpa[i]using o) _ w
      · cases h
    · cases h
  · cases f
    split at h
    · next c=>obtain rfl:=oI h;cases g<;>simp only[Op.equalIn,run_bind,aQ c,andThen_ok,Sem.run_pure]<;>rfl
    · cases h
  · cases g
    split at h
    · next c=>obtain rfl:=oI h;cases f<;>simp only[Op.equalIn,run_bind,aQ c,andThen_ok,Sem.run_pure]<;>rfl
    · cases h
  · cases f
    split at h
    · next c=>obtain rfl:=oI h;cases g<;>simp only[Op.equalIn,run_bind,aQ c,andThen_ok,Sem.run_pure]<;>rfl
    · cases h
  · cases g
    split at h
    · next c=>obtain rfl:=oI h;cases f<;>simp only[Op.equalIn,run_bind,aQ c,andThen_ok,Sem.run_pure]<;>rfl
    · cases h
  all_goals first
    | (cases f<;>cases g <;>
       (split at h
        · next c=>obtain rfl:=oI h;simp only[Op.equalIn,run_bind,aQ c,andThen_ok,Sem.run_pure]
        · cases h)
       done)
    |skip
  · obtain⟨v,rfl,z⟩:=f.rM
    obtain⟨r,rfl,s⟩:=g.rM;split at h
    · next j c=>
      split at h
      · next k=>
        have m:P.fieldsOf t=j:=by simp[Program.fieldsOf,c]
        rw[run_equalIn_struct w (d+1) t v r (by rw[m];exact c) k.1,m];exact CA d w j.toList 0 _ _ (by simp) (by simp) (Cz j.toList 0 h (jI.toList.1 z) (jI.toList.1 s))
      · cases h
    · cases h
  grind
theorem Pf{t:TypeId}{x a:Value}(h:rD P t x v=some b)(c:aD β x w)(e:aD β v a)(d:World):(Op.equal t w a).run P d = .ok b d:=
  Jd h c e d 9998
theorem CB{t:TypeId}{x a:Value}(h:rD P t x v=some b)(c:aD β x w)(e:aD β v a)(f:BinOp)(j g:Operand)(d:World):
    (eqGuard f t j g w a).run P d = .ok () d/\(binOp .eql t w a).run P d = .ok (.bool b) d/\(binOp .neq t w a).run P d = .ok (.bool !b) d:=by
  have i:=Pf h c e d;unfold rD at h;split at h
  all_goals first
    |(cases h;done)
    | (obtain⟨l,rfl,n⟩:=c.rM
       obtain⟨m,rfl,k⟩:=e.rM;split at h
       all_goals simp_all[run_eqGuard_agg,binOp])
    |(cases c<;>cases e<;>(refine⟨?_,?_,?_⟩<;>first|(simp only[binOp,run_bind,i,andThen_ok,Sem.run_pure];done)|(cases f<;>rfl)))
theorem O0{c:BinOp}{t:TypeId}{xo yo:Operand}{x g:Value}{m:Value}(h:ay P c t x v=some m)(d:aD β x w)(e:aD β v g)(j:World):
    (do eqGuard c t xo yo w g;binOp c t w g:Sem Value).run P j = .ok m j/\aD β m m:=by
  have o:=h;unfold ay at h;split at h
  · next k a p b=>
    cases d.dX;cases e.dX
    refine⟨?_,?_⟩
    · simp_all[Pq,eqGuard]
    · clear o
      cases c<;>simp only[]at h<;>first
        | (split at h
           · first
             |(obtain rfl:=oI h;exact .int _ _)
             |(obtain⟨r,q,rfl⟩:=map_eq_some_iff.1 h;exact .bool _)
             | (split at h
                · cases h
                · obtain rfl:=oI h;exact .int _ _)
           · cases h
           done)
  · next a b=>
    cases d.fM;cases e.fM
    refine⟨?_,?_⟩
    · have i:(eqGuard c t xo yo (.string a) (.string b)).run P j = .ok () j:=by cases c<;>rfl
      grind[run_bind,andThen_ok,Rb,binOp]
    · unfold Ge at h
      cases c<;>simp only[]at h<;>first
        |(obtain rfl:=oI h;exact .bool _)
        | (split at h
           · obtain rfl:=oI h;exact .string _
           grind)
        |(cases h;done)
  · cases c<;>simp only[]at h<;>first
      |(cases h;done)
      | (obtain⟨b,f,rfl⟩:=map_eq_some_iff.1 h
         obtain⟨i,l,n⟩:=CB f d e .eql xo yo j;exact⟨by simp only[run_bind,i,andThen_ok];exact l,.bool _⟩)
      | (obtain⟨b,f,rfl⟩:=map_eq_some_iff.1 h
         obtain⟨i,l,n⟩:=CB f d e .neq xo yo j;exact⟨by simp_all,.bool _⟩)
theorem VP{b:UnOp}{x:Value}(h:KF b x=some w)(a:aD β x v)(c:World):(Op.unary b v).run P c = .ok w c/\aD β w w:=by
  unfold KF at h;split at h
  · cases a.dX;obtain rfl:=oI h;exact⟨rfl,.int _ _⟩
  · cases a.dX;obtain rfl:=oI h;exact⟨rfl,.int _ _⟩
  · cases a.kE;obtain rfl:=oI h;exact⟨rfl,.bool _⟩
  grind
end
variable{A:Type}{W:World}
section
variable {β:dH} {P:Program}
def A7(β:dH)(l a:List (Nat×Value)):Prop:=l.map (·.1)=a.map (·.1)/\bp β (l.map (·.2)) (a.map (·.2))
theorem A7.dz{p:Nat×Value}{l a:List (Nat×Value)}(h:A7 β (p::l) a):∃d r,a=(p.1,d)::r/\aD β p.2 d/\A7 β l r:=by
 cases a with
 |nil=>have:=h.1;grind
 |cons q r=>
  obtain⟨c,b⟩:=h;simp only[List.map_cons,List.cons.injEq]at c b;exact⟨q.2,r,by grind,b.head,c.2,b.tail⟩
theorem A7.fw{a:List (Nat×Value)}(h:A7 β [] a):a=[]:=by
 have:=h.1;simp_all
theorem A7.map(l:List A)(n:A->Nat){f a:A->Value}(h:∀x∈l,aD β (f x) (a x)):A7 β (l.map λx=>(n x,f x)) (l.map λx=>(n x,a x)):=
 ⟨by simp,by grind[bp.map]⟩
theorem PV(h:C7 v=true):v≠Ab.hH:=by rintro rfl;cases h
theorem Dx(d:Nat):∀(l e:List Value)(j:Nat)(cs b:Array Value),bp β l e->jI β cs b->
  jI β ((l.zipIdx j).foldl (λcs (c,j)=>cs.setIfInBounds (d+j) c) cs) ((e.zipIdx j).foldl (λcs (c,j)=>cs.setIfInBounds (d+j) c) b)
 |[],e,j,cs,b,h,f=>by rw[h.fw];exact f
 | v::l,e,j,cs,b,h,f=>by
  obtain⟨q,r,rfl,p,o⟩:=h.dz;simp only[List.zipIdx_cons,foldl_cons];refine Dx d l r (j+1) _ _ o ⟨by simp[f.1],λi a m g k=>?_⟩;rw[Array.getElem?_setIfInBounds]at g k;split at g
  ·grind
  ·next n=>
   rw[if_neg n]at k;exact f.2 i a m g k
theorem xl(a:Nat->Option (Nat×Nat)):∀(l e:List (Nat×Value))(cs c r:Array Value),A7 β l e->(∀p∈l,C7 p.2=true)->jI β cs c->Instr.fill a cs l=some r->
  ∃n,Instr.fill a c e=some n/\jI β r n
 |[],e,cs,c,r,h,_,g,d=>by
  rw[h.fw];simp only[Instr.fill]at d⊢
  grind
 | p::l,e,cs,c,r,h,m,g,d=>by
  obtain⟨u,t,rfl,j,w⟩:=h.dz;obtain⟨i,v⟩:=p;have b:=j.cells (PV (m _ mem_cons_self));simp only[Instr.fill]at d⊢
  cases f:a i with
  |none=>grind
  | some q=>
   obtain⟨k,s⟩:=q;simp only[f]at d⊢;dsimp only at j b;rw[<-b.1,<-g.1];split at d
   ·grind
   ·next o=>
    rw[if_neg o];refine xl a l t _ _ r w (λp f=>m p (mem_cons_of_mem _ f)) ?_ d;have:=Dx (β:=β) k v.cells.toList u.cells.toList 0 cs c (jI.toList.1 b) g
    grind[Array.toList_zipIdx]
theorem jI.tF{z:Value}(h:plain z=true):jI β z.cells z.cells:=by
 have b:aD β z z:= .qH h;by_cases a:z=Ab.hH
 ·subst a;cases h
 ·exact b.cells a
theorem O3{t:TypeId}{b parts':List (Nat×Value)}(h:bh P t b=some v)(u:A7 β b parts')(w:World):
  ∃x,(Instr.build t parts'.toArray).run P w = .ok x w/\aD β v x:=by
 unfold bh at h;split at h
 ·next z B=>
  obtain⟨r,i,A,g⟩:=fD B;split at h
  ·next C=>
   obtain⟨cs,a,rfl⟩:=map_eq_some_iff.1 h;have j:∀p∈b,C7 p.2=true:=all_eq_true.1 C;have k:=jI.tF (β:=β) r;have m:∃c,P.built t parts'=some c/\jI β cs c:=by
    unfold Program.built at a⊢;simp only[A]at a⊢
    cases s:P.underlying t with
    |none=>simp[s]at a
    | some d=>
     cases d<;>simp only[s]at a⊢<;>try (cases a;done)
     ·next n e=>
      split at a
      ·next l D f q=>
       obtain rfl:z=l:=oI (g.symm.trans f);exact xl _ _ _ _ _ _ u j k a
      ·cases a
     ·next F=>
      split at a
      ·next l E f q=>
       obtain rfl:z=l:=oI (g.symm.trans f);exact xl _ _ _ _ _ _ u j k a
      ·cases a
   obtain⟨c,o,y⟩:=m;exact⟨.agg c,run_build w t parts'.toArray c o,.agg y.1 y.2⟩
  ·cases h
 grind
theorem JR{t:TypeId}{cs:Array Value}(h:partOf P t cs n=some v)(c:jI β cs V)(w:World):
  ∃a,(part t V n).run P w = .ok a w/\aD β v a:=by
 unfold partOf at h
 cases g:P.underlying t with
 |none=>grind
 |some d=>
 simp only[g]at h;simp only[part,run_bind,uH g,andThen_ok,run_ite];split at h
 ·next f=>
  obtain⟨o,j,rfl⟩:=map_eq_some_iff.1 h;rw[if_pos f];simp only[ey j,andThen_ok,Sem.run_pure];refine⟨_,rfl,.agg (by simp[c.1]) λi v a b e=>?_⟩;simp only[Array.getElem?_extract]at b e;rw[c.1]at b;split at b
  ·next k=>
   rw[if_pos k]at e;exact c.2 _ v a b e
  grind
 ·next f=>
  rw[if_neg f];obtain⟨a,l,m⟩:=c.get h
  simp_all
theorem IY{d:TypeId}{x:Value}(h:gN P T d x=some w)(c:aD β x v)(g:World):(convert T d v).run P g = .ok w g/\aD β w w:=by
 unfold gN at h;split at h
 ·next f k i n a b=>
  cases c.dX
  obtain rfl:=oI h;refine⟨?_,.int _ _⟩;simp only[convert,run_bind,aQ a,aQ b,andThen_ok]
  cases f<;>rfl
 ·next f s a b=>
  cases c.fM
  obtain rfl:=oI h;refine⟨?_,.string _⟩;simp only[convert,run_bind,aQ a,aQ b,andThen_ok]
  cases f<;>rfl
 ·next e a b=>
  cases c
  obtain rfl:=oI h;refine⟨?_,.nilPtr⟩;simp only[convert,run_bind,aQ a,aQ b,andThen_ok,Conv.unsafePointer];rfl
 ·next e a b=>
  cases c
  obtain rfl:=oI h;refine⟨?_,.nilPtr⟩;simp only[convert,run_bind,aQ a,aQ b,andThen_ok,Conv.unsafePointer];rfl
 grind
theorem Hf(c:Bool):∀(l f:List Value)(x e v:Value),aD β x e->bp β l f->rQ c (x::l)=some v->(∀w:World,((f.foldlM (if c then Builtin.max2 else Builtin.min2) e:Sem Value)).run P w = .ok v w)/\aD β v v\/(l=[]/\v=x)
 |[],f,x,e,v,i,g,h=>by simp_all[rQ]
 | y::l,f,x,e,v,i,g,h=>by
  left;obtain⟨q,r,rfl,o,j⟩:=g.dz;simp only[rQ,List.foldlM_cons,Option.bind_eq_bind]at h;split at h
  ·next k a p b=>
   cases i.dX;cases o.dX
   split at h
   ·next n=>
    subst n;simp only[bind_some]at h;have d:=Hf c l r (.int k (if c then if b>a then b else a else if b<a then b else a)) _ v (.int _ _) j (by simpa[rQ]using h);refine⟨λw=>?_,?_⟩
    ·rw[List.foldlM_cons,run_bind];have m:((if c then Builtin.max2 else Builtin.min2) (.int k a) (.int k b)).run P w = .ok (.int k (if c then if b>a then b else a else if b<a then b else a)) w:=by
      cases c<;>rfl
     rw[m,andThen_ok];rcases d with⟨d,_⟩|⟨rfl,rfl⟩
     ·exact d w
     ·rw[j.fw];rfl
    ·rcases d with⟨_,d⟩|⟨rfl,rfl⟩
     ·exact d
     ·exact .int _ _
   ·simp at h
  grind
theorem gW{s:Sem A}{f:A->Next}{w':World}{v:A}(h:s.run P W = .ok v w'):(do pure (f (<-s)):Sem Next).run P W = .ok (f v) w':=by
 simp[h]
theorem dy(b i n:Nat):(⟨b,i,none⟩:Addr).add n=⟨b,i+n,none⟩:=by grind[Addr.add]
theorem DL{a b:Value}(h:aD β a v)(e:aD β b w):aD β (.tuple #[a,b]) (.tuple #[v,w]):=
 .tuple rfl λi g f c d=>by grind
set_option maxHeartbeats 4000000 in
theorem rV{ρ B:Operand->Value}(g:∀x,aD β (ρ x) (B x)){o:Oper}{v:Value}(h:dr P ρ o=some v)(w:World):
  ∃O,(execOp B o).run P w = .ok (.value O) w/\aD β v O:=by
 unfold dr at h;unfold execOp;split at h
 ·next x A=>obtain rfl:=oI h;simp only[A];exact⟨_,rfl,g _⟩
 ·next x A=>obtain rfl:=oI h;simp only[A];exact⟨_,rfl,g _⟩
 ·next c a b A=>
  simp only[A];split at h
  ·next t ht=>
   have M:=g c;rw[ht]at M;obtain rfl:=oI h;refine⟨if t then B a else B b,?_,?_⟩
   ·simp[M.kE,asBool]
   ·cases t
    ·exact g b
    ·exact g a
  ·cases h
 ·next t K A=>
  simp only[A];obtain⟨O,E,I⟩:=O3 (parts':=K.toList.map λp=>(p.1,B p.2)) h (A7.map K.toList (·.1) λp _=>g p.2) w;refine⟨O,?_,I⟩;have C:(K.toList.map λp=>(p.1,B p.2)).toArray=K.map λ(i,x)=>(i,B x):=by
   apply Array.ext';simp
  rw[C]at E;exact gW E
 ·next x A=>
  simp only[A];have m:=g x;split at h
  ·cases h
  ·cases h
  ·cases h
  ·cases h
  ·cases h
  ·next v0 F J h3 h4 h5=>
   obtain rfl:=oI h;refine⟨B x,?_,m⟩;revert m F J h3 h4 h5;generalize ρ x=a;generalize B x=b;intro m F J h3 h4 h5
   cases m with
   |hH v=>exact absurd rfl (h5 _)
   |nilPtr=>exact absurd rfl F
   |nilIface=>exact absurd rfl J
   |nilFunc=>exact absurd rfl h3
   |@func fn a U c c' H M ra rc=>cases fn<;>first|rfl|exact absurd rfl (h4 _ _ _)
   |_=>rfl
 ·next op t x y yt A=>
  simp only[A];obtain⟨E,I⟩:=O0 (xo:=x) (yo:=y) h (g x) (g y) w;exact⟨v,gW E,I⟩
 ·next op t x A=>
  simp only[A];obtain⟨E,I⟩:=VP h (g x) w;exact⟨v,gW E,I⟩
 ·next s d x A=>
  simp only[A];obtain⟨E,I⟩:=IY h (g x) w;exact⟨v,gW E,I⟩
 ·next t x A=>
  simp only[A];split at h
  ·cases h
  ·cases h
  ·next d L G=>
   obtain rfl:=oI h;refine⟨.iface t (B x),gW ?_,.iface t (g x)⟩;simp only[Instr.makeInterface,run_bind,aQ G,andThen_ok]
   cases d<;>first|rfl|exact absurd rfl (L _)
 ·next fn first X A=>
  simp only[A];split at h
  ·cases h
  ·next y1=>
   obtain rfl:=oI h;refine⟨.func fn (first.map B) (X.map B),rfl,.func (by cases fn<;>first|rfl|exact absurd rfl (y1 _)) (by simp) (by simp) ?_ ?_⟩
   ·intro i a U F J;simp only[Array.getElem?_map,map_eq_some_iff]at F J;obtain⟨p,hp,rfl⟩:=F;obtain⟨q,hq,rfl⟩:=J;rw[hp]at hq;obtain rfl:=oI hq;exact g p
   ·intro i a U F J;simp only[Array.getElem?_map,map_eq_some_iff]at F J;obtain⟨p,hp,rfl⟩:=F;obtain⟨q,hq,rfl⟩:=J;rw[hp]at hq;obtain rfl:=oI hq;exact g p
 ·next s x f A=>
  simp only[A];have m:=g x;split at h
  ·next x0 a G H=>
   rw[H]at m;obtain⟨N,F,hm,hs,C⟩:=m.pM;split at h
   ·next fd hf=>
    split at h
    ·next R=>
     obtain rfl:=oI h
     cases x1:aE P fd.type with
     |none=>simp[x1]at R
     |some n=>
      have h0:n≠0:=by simpa[x1]using R
      refine⟨.pointer (some ((⟨N.b,N.s+a.off,none⟩:Addr).add fd.offset)),gW ?_,?_⟩
      ·simp only[Instr.fieldAt,run_bind,aQ G,andThen_ok,hf,C,Instr.sureAddr,Sem.run_pure,fieldPlace,ey x1,run_ite];rw[if_neg h0];rfl
      ·obtain⟨ab,ao,x3⟩:=a;simp only at hs F;subst hs;rw[dy,dy,Nat.add_assoc];exact .ptr F hm
    ·cases h
   ·cases h
  ·cases h
 ·next t x f A=>
  simp only[A];have m:=g x;split at h
  ·next x0 cs G H=>
   rw[H]at m;obtain⟨y2,C,M⟩:=m.rM;split at h
   ·next fd hf=>
    obtain⟨O,E,I⟩:=JR h M w;refine⟨O,gW ?_,I⟩;simp only[Instr.field,run_bind,aQ G,andThen_ok,hf,C,asAgg,Sem.run_pure,E]
   ·cases h
  ·cases h
 ·next t x i A=>
  simp only[A];have m:=g x;have Q:=g i;split at h
  ·next x5 e a k j G H V=>
   rw[H]at m;rw[V]at Q;obtain⟨N,F,hm,hs,C⟩:=m.pM;split at h
   ·next n R=>
    split at h
    ·next E=>
     obtain rfl:=oI h;refine⟨.pointer (some ((⟨N.b,N.s+a.off,none⟩:Addr).add (j.toNat*n))),gW ?_,?_⟩
     ·simp only[Instr.indexAt,run_bind,Q.dX,asIntOf,Sem.run_pure,andThen_ok,aQ G,C,Instr.sureAddr,ey R,run_ite];rw[if_pos E]
     ·obtain⟨ab,ao,x3⟩:=a;simp only at hs F;subst hs;rw[dy,dy,Nat.add_assoc];exact .ptr F hm
    ·cases h
   ·cases h
  ·next e a x5 c k j G H V=>
   rw[H]at m;rw[V]at Q;obtain⟨ab,ao,x3⟩:=a;split at h
   ·next n R=>
    split at h
    ·next E=>
     obtain rfl:=oI h;have x7:x3=none:=by
      rcases m.wk with⟨k',i',e⟩|⟨_,y8,_⟩
      ·injection e
      ·exact absurd E (by omega)
     subst x7;obtain⟨N,i',c',F,hm,y3,C,x4,y7,L,S,y6⟩:=m.gO
     ·clear y3;have x9:i'=N.s+ao:=by rcases S with S|S;exact S;exact absurd S.1 (by omega)
      subst x9;refine⟨.pointer (some ((⟨N.b,N.s+ao,none⟩:Addr).add (j.toNat*n))),gW ?_,?_⟩
      ·simp only[Instr.indexAt,run_bind,Q.dX,asIntOf,Sem.run_pure,andThen_ok,aQ G,C,ey R,run_ite];rw[if_pos E]
      ·rw[dy,dy,Nat.add_assoc];exact .ptr F hm
    ·cases h
   ·cases h
  ·cases h
 ·next t x i A=>
  simp only[A];have m:=g x;have Q:=g i;split at h
  ·next x5 e cs k j G H V=>
   rw[H]at m;rw[V]at Q;obtain⟨y2,C,M⟩:=m.rM;split at h
   ·next n R=>
    split at h
    ·next E=>
     obtain⟨O,hp,I⟩:=JR h M w;refine⟨O,gW ?_,I⟩;simp only[Instr.index,run_bind,Q.dX,asIntOf,Sem.run_pure,andThen_ok,aQ G,C,ey R,run_ite,hp];rw[if_pos E]
    ·cases h
   ·cases h
  ·next s k j G H V=>
   rw[H]at m;rw[V]at Q;split at h
   ·next E=>
    split at h
    ·next b hb=>
     obtain rfl:=oI h;refine⟨_,gW ?_,.int _ _⟩;have y0:s[j.toNat]?=some b:=by
      rw[getElem?_toList]at hb;exact hb
     simp only[Instr.index,run_bind,Q.dX,asIntOf,Sem.run_pure,andThen_ok,aQ G,m.fM];rw[if_pos E,y0];rfl
    ·cases h
   ·cases h
  ·cases h
 ·next x xt u ok A=>
  simp only[A];have m:=g x;split at h
  ·cases h
  ·cases h
  ·next d L G H=>
   rw[H]at m;split at h
   ·next x2=>
    obtain⟨z,hz,rfl⟩:=map_eq_some_iff.1 h;refine⟨.tuple #[z,.bool false],gW ?_,DL (.qH (fD hz).1) (.bool _)⟩;simp only[Instr.typeAssert,run_bind,aQ G,andThen_ok,m.G7]
    cases d<;>first
     |exact absurd rfl (L _)
     |(rw[if_pos x2];simp[pv hz])
   ·cases h
  ·next d t v1 L G H=>
   rw[H]at m;obtain⟨v2,C,I⟩:=m.Ps;split at h
   ·next Z=>
    obtain rfl:=oI h;refine⟨if ok then .tuple #[v2,.bool true]else v2,gW ?_,?_⟩
    ·simp only[Instr.typeAssert,run_bind,aQ G,andThen_ok,C]
     cases d<;>first
      |exact absurd rfl (L _)
      |(rw[if_pos Z];rfl)
    ·cases ok
     ·exact I
     ·exact DL I (.bool _)
   ·next Z=>
    split at h
    ·next x2=>
     obtain⟨z,hz,rfl⟩:=map_eq_some_iff.1 h;refine⟨.tuple #[z,.bool false],gW ?_,DL (.qH (fD hz).1) (.bool _)⟩;simp only[Instr.typeAssert,run_bind,aQ G,andThen_ok,C]
     cases d<;>first
      |exact absurd rfl (L _)
      |(rw[if_neg Z,if_pos x2];simp[pv hz])
    ·cases h
  ·cases h
 ·next x i A=>
  simp only[A];have m:=g x;split at h
  ·next vs H=>
   rw[H]at m;obtain⟨y5,C,M⟩:=m.zF;obtain⟨O,y4,E⟩:=M.get h;exact⟨O,gW (by simp[Instr.extract,C,y4]),E⟩
  ·cases h
 ·next D x6 A=>
  simp only[A];have T:bp β (D.toList.map ρ) (D.toList.map B):=bp.map _ λx _=>g x;have C:(D.map B).toList=D.toList.map B:=by simp
  revert T h;generalize D.toList.map ρ=l;generalize W:D.toList.map B=l';intro h T
  cases l with
  |nil=>simp[rQ]at h
  |cons x l=>
   obtain⟨x',r,rfl,m,E⟩:=T.dz;rcases Hf true l r x x' v m E h with⟨F,J⟩|⟨rfl,rfl⟩
   ·exact⟨v,by
     simp only[resolve,run_bind,Sem.run_pure,andThen_ok,invoke,builtin,Builtin.max_,C,W];have:=F w;simp only[if_true]at this;rw[this];rfl,J⟩
   ·exact⟨x',by
     rw[E.fw]at W;simp only[resolve,run_bind,Sem.run_pure,andThen_ok,invoke,builtin,Builtin.max_,C,W];rfl,m⟩
 ·next D x6 A=>
  simp only[A];have T:bp β (D.toList.map ρ) (D.toList.map B):=bp.map _ λx _=>g x;have C:(D.map B).toList=D.toList.map B:=by simp
  revert T h;generalize D.toList.map ρ=l;generalize W:D.toList.map B=l';intro h T
  cases l with
  |nil=>simp[rQ]at h
  |cons x l=>
   obtain⟨x',r,rfl,m,E⟩:=T.dz;rcases Hf false l r x x' v m E h with⟨F,J⟩|⟨rfl,rfl⟩
   ·exact⟨v,by
     simp only[resolve,run_bind,Sem.run_pure,andThen_ok,invoke,builtin,Builtin.min_,C,W];have:=F w;simp only[false_eq_true,if_false]at this;rw[this];rfl,J⟩
   ·exact⟨x',by
     rw[E.fw]at W;simp only[resolve,run_bind,Sem.run_pure,andThen_ok,invoke,builtin,Builtin.min_,C,W];rfl,m⟩
 ·next D x6 A=>
  simp only[A];split at h
  ·next x t m ht=>
   split at h
   ·next e a n c G H=>
    split at h
    ·next M=>
     obtain rfl:=oI h;have Y:=g x;rw[H]at Y;have x8:∃U ,B x = .slice U n c:=by
      cases a with
      |none=>obtain⟨rfl,rfl,C⟩:=Y.gj;exact⟨none,C⟩
      |some a=>
       rcases Y.wk with⟨k',i',rfl⟩|⟨rfl,rfl,rfl,U,C⟩
       ·obtain⟨N,i',c',_,_,_,C,x4,_⟩:=Y.gO;rw[x4 M]at C;exact⟨_,C⟩
       ·exact⟨_,C⟩
     obtain⟨U,C⟩:=x8;refine⟨.int .i64 c,?_,.int _ _⟩;have h0:(D.map B)[0]?=some (.slice U n c):=by simp[m,C]
     simp only[resolve,run_bind,Sem.run_pure,andThen_ok,invoke,builtin,Builtin.cap_,ht,h0,aQ G];rfl
    ·cases h
   ·cases h
  ·cases h
 grind
end
variable{J:dH}{I:dS}{G:Slot}{h:ae}{r:Operand->Value}{m:Nat}{p:List Int}
section
variable {β:dH} {P:Program}
def dS.wr:dS->Bool
 |.cells _ _ _ wr=>wr
 |.map _=>true
 |.loop .. =>true
def S5(a:Nat×Nat)(n:Nat):Prop:=∀x,a.1<=x->x<a.2->n<=x
def wN(β:dH)(b:List (Value×Value))(a:List MapEntry):Prop:=
 b.length=a.length/\∀(i:Nat) p e,b[i]?=some p->a[i]?=some e->aD β p.1 e.key/\aD β p.2 e.val
def ga(β:dH)(cs:List Value)(s:Nat)(a:Array Value):Prop:=∀(i:Nat) v,cs[i]?=some v->∃b,a[s+i]?=some b/\aD β v b
def KY:LSt->LoopState->Option Code->Prop
 |.ready,s,j=>s = .ready/\j=none
 |.busy,s,_=>s = .busy
 |.ret,s,j=>s = .done/\j=some .ret
 |.exit a,s,j=>s = .done/\j=some (.exit a)
def A3(β:dH)(B:dS)(a:Slot)(w:World):Prop:=
 match B with
 |.cells cs t g k=>a.isMap=false/\a.t=t/\(a.sz=g/\(g=0->a.s=0))/\∃b h,w.heap[a.b]?=some (.cells b t h)/\b.size=a.n/\ga β cs a.s b/\(k=true->S5 h b.size)
 |.map j=>a.isMap=true/\∃d c,w.heap[a.b]?=some (.map d c)/\wN β j d.toList
 |.loop l i m f e _=>a.isMap=true/\∃r:Loop,w.heap[a.b]?=some (.loop r)/\KY l r.state r.pending/\bp β i r.tmps.toList/\r.params.toList=m/\r.assign=f/\r.body=e
structure ko(β:dH)(h:ae)(w:World):Prop where
 lt:∀k sl,β k=some sl->k<h.next/\sl.b<w.heap.size
 blk:∀k B sl,h.get k=some B->β k=some sl->A3 β B sl w
 own:∀k k' B B' sl sl',k≠k'->h.get k=some B->h.get k'=some B'->β k=some sl->β k'=some sl'->B.wr=true->sl.b≠sl'.b
 wf:∀k B,h.get k=some B->k<h.next
theorem wN.mono{β:dH}(a:β.le J){d:List (Value×Value)}{b:List MapEntry}(h:wN β d b):wN J d b:=
 ⟨h.1,λi p e c f=>⟨(h.2 i p e c f).1.mono a,(h.2 i p e c f).2.mono a⟩⟩
theorem ga.mono{β:dH}(b:β.le J){cs:List Value}{s:Nat}{a:Array Value}(h:ga β cs s a):ga J cs s a:=
 λi v c=>let⟨f,d,e⟩:=h i v c;⟨f,d,e.mono b⟩
theorem A3.mono{β:dH}(a:β.le J){B:dS}{j:Slot}{w:World}(h:A3 β B j w):A3 J B j w:=by
 cases B with
 |cells cs t q v=>
  obtain⟨c,d,b,k,m,f,g,o,n⟩:=h;exact⟨c,d,b,k,m,f,g,o.mono a,n⟩
 |map u=>
  obtain⟨c,i,e,d,b⟩:=h;exact⟨c,i,e,d,b.mono a⟩
 |loop x s y p l z=>
  obtain⟨c,r,d,b,f,g⟩:=h;exact⟨c,r,d,b,f.mono a,g⟩
theorem A3.of_heap{e:World}(h:A3 β I G W)(u:e.heap[G.b]?=W.heap[G.b]?):A3 β I G e:=by
 cases I with
 |cells cs t o s=>
  obtain⟨b,d,a,g,j,v,m,l,k⟩:=h;exact⟨b,d,a,g,j,by grind,m,l,k⟩
 |map q=>
  obtain⟨b,f,c,d,a⟩:=h;exact⟨b,f,c,by grind,a⟩
 |loop w p x n i y=>
  obtain⟨b,r,d,a⟩:=h;exact⟨b,r,by grind,a⟩
theorem nZ{b:Nat}{cs:Array Value}{t:TypeId}{a:Nat×Nat}(h:W.heap[b]?=some (.cells cs t a)):W.cell? ⟨b,i,none⟩=cs[i]?:=by
 simp[World.cell?,h]
theorem ko.row(i:ko β h W){k:Nat}{cs:List Value}{t:TypeId}{c:Nat}{e:Bool}{a:Slot}(n:h.get k=some (.cells cs t c e))(f:β k=some a):
  a.isMap=false/\a.t=t/\a.sz=c/\∃b d,W.heap[a.b]?=some (.cells b t d)/\b.size=a.n/\ga β cs a.s b/\(e=true->S5 d b.size):=
 let⟨j,l,g,m⟩:=i.blk k _ a n f;⟨j,l,g.1,m⟩
theorem ko.aei(d:ko β h W){k:Nat}{cs:List Value}{t:TypeId}{e:Bool}{a:Slot}(f:h.get k=some (.cells cs t 0 e))(b:β k=some a):a.s=0:=
 let⟨_,_,c,_⟩:=d.blk k _ a f b;c.2 rfl
theorem uG{w:World}{b s:Nat}{cs:List Value}{t:TypeId}{p:Nat×Nat}(r:w.heap[b]?=some (.cells V t p))(y:ga β cs s V)(i n:Nat)(o:((cs.drop i).take n).length=n):
  ∃k,(loadCells ⟨b,s+i,none⟩ n).run P w = .ok k.toArray w/\bp β ((cs.drop i).take n) k:=by
 have l:i+n<=cs.length\/n=0:=by
  simp only[List.length_take,List.length_drop]at o;omega
 have e:∀j,j<n->∃v d,cs[i+j]?=some v/\V[s+(i+j)]?=some d/\aD β v d:=by
  intro j f;have g:i+j<cs.length:=by omega
  obtain⟨d,a,c⟩:=y (i+j) _ (gE g);exact⟨_,d,gE g,a,c⟩
 refine⟨(List.range n).map λj=>V.getD (s+(i+j)) undef,?_,?_,?_⟩
 ·refine run_loadCells w ⟨b,s+i,none⟩ n _ λj f=>?_;obtain⟨v,d,_,c,_⟩:=e j f;rw[dy,nZ r,show s+i+j=s+(i+j) by omega,c]
  simp_all
 ·grind
 ·intro j v d a c;simp only[List.getElem?_map,map_eq_some_iff]at c;obtain⟨z,h,rfl⟩:=c;rw[getElem?_take,getElem?_drop]at a;split at a
  ·next f=>
   rw[List.getElem?_range f]at h;obtain rfl:=oI h;obtain⟨u,A,m,x,q⟩:=e j f;rw[m]at a;obtain rfl:=oI a;simpa[Array.getD_eq_getD_getElem?,x]using q
  grind
theorem Jx(w:ko β h W){t:TypeId}{a q v:Value}(b:aj P t h a=some v)(z:aD β a q):
  ∃p,q = .pointer (some p)/\∃c,(loadVar t p).run P W = .ok c W/\aD β v c:=by
 unfold aj at b;split at b
 ·next d k i y=>
  obtain⟨H,u,E,rfl⟩:=z.ux;refine⟨_,rfl,?_⟩;split at b
  ·next cs J F I A=>
   obtain⟨_,_,_,C,G,r,D,s,_⟩:=w.row A u;simp only[loadVar,run_bind,uH y,andThen_ok,run_ite];split at b
   ·next e=>
    rw[if_pos e];split at b
    ·next n o=>
     split at b
     ·next g=>
      obtain rfl:=oI b;obtain⟨x,B,f⟩:=uG (P:=P) r s i n g;refine⟨.agg x.toArray,by simp[ey o,B],.agg (by simpa using f.1) λj v c l m=>f.2 j v c (by simpa using l) (by simpa using m)⟩
     ·cases b
    ·cases b
   ·next e=>
    rw[if_neg e];obtain⟨c,l,m⟩:=s i v b;exact⟨c,by simp[run_load,nZ r,l],m⟩
  ·cases b
 grind
theorem LC(s:ByteArray)(l h:Nat):(⟨((s.data.toList.drop l).take (h-l)).toArray⟩:ByteArray)=s.extract l h:=by
 apply Sv;simp
def ng(β:dH)(x a:Option Value):Prop:=match x,a with|none,none=>True|some v,some b=>aD β v b|_,_=>False
theorem ng.map{ρ:Operand->Value}(a:∀x,aD β (ρ x) (r x))(x:Option Operand):ng β (x.map ρ) (x.map r):=by
 cases x with
 |none=>trivial
 |some x=>exact a x
theorem ng.none_{a:Option Value}(h:ng β none a):a=none:=by cases a with|none=>rfl|some _=>exact h.elim
theorem ng.some_{b:Option Value}(h:ng β (some v) b):∃a,b=some a/\aD β v a:=by cases b with|none=>exact h.elim|some a=>exact⟨a,rfl,h⟩
theorem np{x a:Option Value}(h:eP x n=some z)(b:ng β x a):
  (x=none/\a=none/\z=n)\/ ∃k,x=some (.int k z)/\a=some (.int k z):=by
 cases x with
 |none=>simp only[eP,Option.some.injEq]at h;exact .inl ⟨rfl,b.none_,h.symm⟩
 |some v=>
  obtain⟨d,rfl,c⟩:=b.some_
  cases v with
  |int k m=>simp only[eP,Option.some.injEq]at h;subst h;exact .inr ⟨k,rfl,by rw[c.dX]⟩
  |_=>simp[eP]at h
theorem mM{k:IntKind}{c:BoundsCode}(b:0<=z)(a:z<=n)(w:World):(Instr.sliceBound (.int k z) n c).run P w = .ok z.toNat w:=by simp_all[Instr.sliceBound,asIntOf]
theorem pW{f e a c:Option Value}{r:Int}(h:eP f 0=some z)(i:eP e n=some r)
  (g:ng β f a) (d:ng β e c)
  (p:0<=z) (l:z<=r) (o:r<=m) (w:World):(Instr.sliceBounds b n m a c none).run P w = .ok (z.toNat,r.toNat,m) w:=by
 unfold Instr.sliceBounds;rcases np i d with⟨rfl,rfl,rfl⟩|⟨k,rfl,rfl⟩
 ·grind[np,run_bind,Sem.run_pure,andThen_ok,mM]
 ·rcases np h g with⟨rfl,rfl,rfl⟩|⟨j,rfl,rfl⟩
  all_goals grind[run_bind,Sem.run_pure,andThen_ok,mM]
theorem Kb{f c a b:Option Value}{r h:Int}{k:IntKind}(i:eP f 0=some z)(j:eP c n=some r)(o:c≠none)
  (g:ng β f a) (d:ng β c b)
  (l:0<=z) (s:z<=r) (t:r<=h) (e:h<=m) (w:World):(Instr.sliceBounds true n m a b (some (.int k h))).run P w = .ok (z.toNat,r.toNat,h.toNat) w:=by
 unfold Instr.sliceBounds;rcases np j d with⟨rfl,rfl,rfl⟩|⟨q,rfl,rfl⟩
 ·grind
 ·rcases np i g with⟨rfl,rfl,rfl⟩|⟨p,rfl,rfl⟩
  ·simp only[run_bind];rw[mM (by omega) e];simp only[andThen_ok];rw[mM (by omega) (by omega)];simp
  ·simp only[run_bind];rw[mM (by omega) e];simp only[andThen_ok];rw[mM (by omega) (by omega)];simp only[andThen_ok];rw[mM l (by omega)];simp
theorem Q4(hs:ko β h W){t:TypeId}{x x' v:Value}{lo U mx R S q:Option Value}(a:bG P t x lo U mx h=some v)(Q:aD β x x')
  (A:ng β lo R) (F:ng β U S) (z:ng β mx q):∃v',(Instr.sliceAt t x' R S q).run P W = .ok v' W/\aD β v v':=by
 unfold bG at a;split at a
 ·next s=>
  cases Q.fM
  split at a
  ·next D=>
   split at a
   ·next _ l r B C=>
    split at a
    ·next g=>
     obtain rfl:=oI a;have f:q=none:=z.none_;subst f;refine⟨.string (s.extract l.toNat r.toNat),?_,?_⟩
     ·have j:s.size=s.data.toList.length:=by simp
      simp only[Instr.sliceAt,run_bind,aQ D,andThen_ok,Instr.slice];simp only[Option.isSome_none,false_eq_true,if_false,run_bind,Sem.run_pure];rw[j,pW B C A F g.1 g.2.1 g.2.2];simp
     ·rw[strOf,show(r-l).toNat=r.toNat-l.toNat by omega,LC];exact .string _
    ·cases a
   ·cases a
  ·cases a
 ·split at a
  ·next e D=>
   split at a
   ·next n B C j=>
    obtain rfl:=oI a;obtain⟨_,_,rfl⟩:=Q.gj;have f:q=none:=z.none_;subst f;refine⟨.slice none 0 0,?_,.lU⟩;simp only[Instr.sliceAt,run_bind,aQ D,andThen_ok,Instr.slice];rw[pW B C A F (by omega) (by omega) (by omega)];simp[ey j]
   ·cases a
  ·cases a
 ·next k i x8 b=>
  split at a
  ·next e D=>
   split at a
   ·next l r O cs t' x9 wr B C j V=>
    split at a
    ·next L=>
     obtain⟨d,J,w,u,H,_,rfl,M,E,x7,T,c⟩:=Q.gO;obtain⟨_,_,G,_⟩:=hs.row V u;have x6:bH b<=w:=by
      unfold bH;split
      ·next g=>exact E g
      ·next g=>rw[M (by omega)];exact Nat.le_refl _
     split at a
     ·split at a
      ·next g=>
       obtain rfl:=oI a;have f:q=none:=z.none_;subst f;have x0:l.toNat<=w:=by omega
       refine⟨.slice (if w=l.toNat then some ⟨d.b,J,none⟩else some ⟨d.b,J+l.toNat*O,none⟩) (r-l).toNat (w-l.toNat),?_,?_⟩
       ·simp only[Instr.sliceAt,run_bind,aQ D,andThen_ok,Instr.slice];rw[pW B C A F g.1 g.2.1 (by omega)];simp only[andThen_ok,ey j,Sem.run_pure,map_some,dy];rw[show r.toNat-l.toNat=(r-l).toNat by omega]
       ·by_cases o:w=l.toNat
        ·rw[if_pos o];refine .slice u H ?_ ?_ ?_ (.inr ⟨by omega,by omega⟩) ?_
         ·intro Y;by_cases p:b<dn
          ·have:=M p;omega
          ·have:=E (by omega);have N:bH b=b-dn:=by unfold bH;rw[if_pos (by omega)]
           omega
         ·intro x3;have p:dn<=b:=by omega
          have:=E p;omega
         ·have:(r-l).toNat=0:=by omega
          omega
         ·rcases c with c|c
          ·exact .inl c
          ·right;rw[show w-l.toNat=0 by omega];simp;exact Nat.le_trans (Nat.le_add_right _ _) c
        ·rw[if_neg o];have x4:J=d.s+i:=by rcases T with y|⟨y,I⟩;exact y;exact absurd I (by omega)
         refine .slice u H ?_ ?_ ?_ (.inl (by omega)) ?_
         ·intro Y;by_cases p:b<dn
          ·have:=M p;omega
          ·have:=E (by omega);have N:bH b=b-dn:=by unfold bH;rw[if_pos (by omega)]
           omega
         ·intro x3;have p:dn<=b:=by omega
          have:=E p;omega
         ·by_cases p:b<dn
          ·have N:bH b=b:=by unfold bH;rw[if_neg (by omega)]
           have h6:bH (b-l.toNat)=b-l.toNat:=by unfold bH;rw[if_neg (by omega)]
           omega
          ·have N:bH b=b-dn:=by unfold bH;rw[if_pos (by omega)]
           have h6:bH (b-l.toNat)=b-l.toNat-dn:=by unfold bH;rw[if_pos (by omega)]
           omega
         ·rcases L with K|K
          ·rcases c with c|c
           ·exact .inl c
           ·right;subst K;rw[<-G];rw[Nat.sub_mul];have:l.toNat*d.sz<=w*d.sz:=Nat.mul_le_mul_right _ x0;omega
          ·exact .inl (by omega)
      ·cases a
     ·next k m=>
      split at a
      ·next g=>
       obtain rfl:=oI a;obtain⟨X,y,I,h3,h4,N⟩:=g;obtain⟨vm,rfl,x5⟩:=z.some_
       cases x5.dX
       have x1:U≠none:=by intro e;subst e;cases N
       have Z:m.toNat<=w:=by omega
       refine⟨.slice (if m.toNat=l.toNat then some ⟨d.b,J,none⟩else some ⟨d.b,J+l.toNat*O,none⟩) (r-l).toNat (m.toNat-l.toNat),?_,?_⟩
       ·simp only[Instr.sliceAt,run_bind,aQ D,andThen_ok,Instr.slice];rw[Kb B C x1 A F X y I (by omega)];simp only[andThen_ok,ey j,Sem.run_pure,map_some,dy];rw[show r.toNat-l.toNat=(r-l).toNat by omega]
       ·have x2:bH (m-l).toNat=(m-l).toNat:=by unfold bH;rw[if_neg (by omega)]
        by_cases o:m.toNat=l.toNat
        ·rw[if_pos o];refine .slice u H (by omega) (by omega) (by omega) (.inr ⟨by omega,by omega⟩) ?_;rcases c with c|c
         ·exact .inl c
         ·right;rw[show m.toNat-l.toNat=0 by omega];simp;exact Nat.le_trans (Nat.le_add_right _ _) c
        ·rw[if_neg o];have x4:J=d.s+i:=by rcases T with y|⟨y,I⟩;exact y;exact absurd I (by omega)
         refine .slice u H (by omega) (by omega) (by omega) (.inl (by omega)) ?_;rcases L with K|K
         ·rcases c with c|c
          ·exact .inl c
          ·right;subst K;rw[<-G];have e2:l.toNat*d.sz+(m.toNat-l.toNat)*d.sz=m.toNat*d.sz:=by rw[<-Nat.add_mul];congr 1;omega
           have:m.toNat*d.sz<=w*d.sz:=Nat.mul_le_mul_right _ Z;omega
         ·exact .inl (by omega)
      ·cases a
     ·cases a
    ·cases a
   ·cases a
  ·cases a
 ·next k i=>
  obtain⟨d,u,H,rfl⟩:=Q.ux;split at a
  ·next n e D=>
   split at a
   ·next _ l r O cs t' wr B C j V=>
    split at a
    ·next g=>
     obtain⟨X,y,I,h3⟩:=g;obtain rfl:=oI a;have f:q=none:=z.none_;subst f;obtain⟨_,_,G,_⟩:=hs.row V u;have x2:bH (n-l.toNat)=n-l.toNat:=by unfold bH;rw[if_neg (by omega)]
     refine⟨.slice (some (if n=l.toNat then⟨d.b,d.s+i,none⟩else⟨d.b,d.s+i+l.toNat*O,none⟩)) (r-l).toNat (n-l.toNat),?_,?_⟩
     ·simp only[Instr.sliceAt,run_bind,aQ D,andThen_ok,Instr.sureAddr,Sem.run_pure];rw[pW B C A F X y I];simp only[andThen_ok,ey j,dy];rw[show r.toNat-l.toNat=(r-l).toNat by omega]
     ·by_cases o:n=l.toNat
      ·rw[if_pos o];exact .slice u H (by omega) (by omega) (by omega) (.inr ⟨by omega,by omega⟩) (.inl (by omega))
      ·rw[if_neg o];exact .slice u H (by omega) (by omega) (by omega) (.inl (by omega)) (.inl (by omega))
    ·cases a
   ·cases a
  ·cases a
 grind
theorem Ct:∀{l:List Value}{b:List UInt8},bytesOf l=some b->∃a:List Int,l=a.map (Value.int .u8)/\∀s:ByteArray,a.foldl (λr n=>r.push (UInt8.ofNat n.toNat)) s=⟨s.data++b.toArray⟩
 |[],b,h=>by simp_all[bytesOf]
 | v::l,b,h=>by
  unfold bytesOf at h;split at h
  ·next e=>cases e
  ·next n r e=>
   simp only[List.cons.injEq]at e;obtain⟨rfl,rfl⟩:=e;split at h
   ·obtain⟨f,c,rfl⟩:=map_eq_some_iff.1 h;obtain⟨a,rfl,d⟩:=Ct c;refine⟨n::a,rfl,λs=>?_⟩;rw[foldl_cons,d];apply Sv;simp[ByteArray.push]
   ·cases h
  grind
theorem bp.ints{k:IntKind}(h:bp β (p.map (Value.int k)) c):c=p.map (Value.int k):=by
 apply List.ext_getElem?;intro i;by_cases e:i<p.length
 ·have a:(p.map (Value.int k))[i]?=some (.int k p[i]):=by simp[e]
  obtain⟨f,d,b⟩:=h.get a;rw[a,d,b.dX]
 ·have a:(p.map (Value.int k)).length<=i:=by simp;omega
  rw[getElem?_eq_none a,getElem?_eq_none (h.1▸a)]
theorem EI(z:ko β h W){k i n:Nat}{cs:List Value}{t:TypeId}{x:Nat}{B:Bool}{a:Slot}(D:h.get k=some (.cells cs t x B))(v:β k=some a)
  (y:((cs.drop i).take n).length=n) {o:List UInt8} (g:bytesOf ((cs.drop i).take n)=some o):
  ∃b:List Int,(cs.drop i).take n=b.map (Value.int .u8)/\(loadCells ⟨a.b,a.s+i,none⟩ n).run P W = .ok (b.map (Value.int .u8)).toArray W/\(∀s:ByteArray,b.foldl (λr n=>r.push (UInt8.ofNat n.toNat)) s=⟨s.data++o.toArray⟩)/\
   (∀j u,(b.map (Value.int .u8))[j]?=some u->W.cell? ((⟨a.b,a.s+i,none⟩:Addr).add j)=some u):=by
 obtain⟨b,c,w⟩:=Ct g;obtain⟨_,_,_,E,G,l,F,q,_⟩:=z.row D v;obtain⟨H,p,d⟩:=uG (P:=P) l q i n y;rw[c]at d;rw[d.ints]at p;refine⟨b,c,p,w,λj u e=>?_⟩;have f:((cs.drop i).take n)[j]?=some u:=by rw[c];exact e
 rw[getElem?_take,getElem?_drop]at f;split at f
 ·obtain⟨I,A,C⟩:=q _ _ f;rw[dy,nZ l,show a.s+i+j=a.s+(i+j) by omega,A];simp only[List.getElem?_map,map_eq_some_iff]at e;obtain⟨m,_,rfl⟩:=e;rw[C.dX]
 grind
theorem xd(v:ko β h W){k i n c:Nat}{cs:List Value}{t:TypeId}{s:Nat}{x:Bool}(y:h.get k=some (.cells cs t s x))
  (u:((cs.drop i).take n).length=n) {e:List UInt8} (a:bytesOf ((cs.drop i).take n)=some e) {f:Value} (w:aD β (.slice (some ⟨k,i,none⟩) n c) f):
  (Conv.bytesToString f).run P W = .ok (strOf e) W:=by
 obtain⟨d,z,q,o,G,_,rfl,C,F,D,g,E⟩:=w.gO;by_cases j:n=0
 ·subst j;have:e=[]:=by simp[bytesOf]at a;exact a
  subst this;rfl
 ·have l:z=d.s+i:=by rcases g with b|⟨b,H⟩;exact b;exact absurd b j
  subst l;obtain⟨r,B,A,p,m⟩:=EI (P:=P) v y o u a;rw[run_bytesToString (P:=P) W ⟨d.b,d.s+i,none⟩ n q r A,p];congr 2;simp
end
section
variable {β:dH} {P:Program}
theorem Ke{a b:Value}(h:N6 a b=true):a=b:=by
 unfold N6 at h;split at h
 ·rw[beq_iff_eq.1 h]
 ·simp only[and_eq_true,decide_eq_true_eq]at h;rw[h.1,h.2]
 ·next a b=>
  simp only[decide_eq_true_eq]at h;obtain⟨⟨a⟩⟩:=a;obtain⟨⟨b⟩⟩:=b;simp only at h;rw[h]
 grind
theorem Kf:∀{a b:List Value},F4 a b=true->a=b
 |[],[],_=>rfl
 |[],_::_,h=>by grind[F4]
 |_::_,[],h=>by grind[F4]
 |a::x,b::y,h=>by
  simp only[F4,and_eq_true]at h;rw[Ke h.1,Kf h.2]
theorem U6{a b:Value}(h:U5 a b=true):a=b:=by
 unfold U5 at h
 grind[Array.ext',Kf,Ke]
theorem aD.Kg(a:AV v=true)(h:aD β v w):w=v:=by
 cases h<;>first|rfl|(simp[AV]at a)
theorem aD.JL(a:AV v=true):aD β v v:=by
 cases v<;>first|exact .bool _|exact .int _ _|exact .string _|(simp[AV]at a)
theorem aD.rN(a:CU v=true)(h:aD β v w):w=v:=by
 unfold CU at a;split at a
 ·next cs=>
  obtain⟨b,rfl,c⟩:=h.rM;have:b=cs:=by
   refine Array.ext c.1.symm λi e f=>?_;have d:=c.2 i cs[i] b[i] (getElem?_eq_getElem f) (getElem?_eq_getElem e);exact d.Kg (all_eq_true.1 a _ (by simp))
  grind
 ·exact h.Kg a
theorem aD.NR(a:CU v=true):aD β v v:=by
 unfold CU at a;split at a
 ·next cs=>
  refine .agg rfl λi v d b c=>?_;rw[b]at c;obtain rfl:=oI c;refine .JL (all_eq_true.1 a _ ?_);rw[<-getElem?_toList]at b;exact List.mem_of_getElem? b
 grind[JL]
theorem pq{t:TypeId}{cs:Array Value}(h:partOf P t cs n=some v)(w:World):(part t cs n).run P w = .ok v w:=by
 unfold partOf at h
 cases a:P.underlying t with
 |none=>grind
 |some d=>
 simp only[a]at h;simp only[part,run_bind,uH a,andThen_ok,run_ite];split at h
 ·next c=>
  obtain⟨e,b,rfl⟩:=map_eq_some_iff.1 h;rw[if_pos c];simp only[ey b,andThen_ok,Sem.run_pure]
 simp_all
theorem Jc{e:TypeId->Value->Value->Option Bool}{d:Nat}(w:World)(j:∀t x y b,e t x y=some b->(Op.equalIn d t x y).run P w = .ok b w)(g i:Array Value):∀(a:List Field){b:Bool},SZ P e g i a=some b->
  (Op.eqFields d g i a).run P w = .ok b w
 |[],b,h=>by simp only[SZ]at h;obtain rfl:=oI h;rfl
 | f::a,b,h=>by
  simp only[SZ]at h;split at h
  ·next m=>
   split at h
   ·next p q k l=>
    unfold Op.eqFields;rw[if_pos m];split at h
    ·next c=>
     simp only[run_bind,pq k,pq l,andThen_ok,j _ _ _ _ c];simp only[Bool.not_true,false_eq_true,if_false];exact Jc w j g i a h
    ·next c=>
     obtain rfl:=oI h;simp only[run_bind,pq k,pq l,andThen_ok,j _ _ _ _ c];rfl
    ·cases h
   ·cases h
  grind
theorem we(w:World):∀(d n:Nat)(t:TypeId)(x y:Value)(b:Bool),mA P d t x y=some b->(Op.equalIn (n+d) t x y).run P w = .ok b w
 |0,_,_,_,_,_,h=>by simp[mA]at h
 | d+1,n,t,x,y,b,h=>by
  unfold mA at h;split at h
  ·next g a f e=>
   split at h
   ·next j=>
    have c:P.fieldsOf t=g:=by simp[Program.fieldsOf,e]
    rw[show n+(d+1)=(n+d)+1 from rfl,run_equalIn_struct w (n+d) t a f (by rw[c];exact e) j,c];exact Jc w (λt x y b i=>we w d n t x y b i) a f g.toList h
   ·cases h
  grind[Cy]
theorem Fk{c:TypeId->Value->Bool}{em:Bool}{d:Nat}(w:World)(g:∀t v,c t v=true->(Instr.checkKey em d t v).run P w = .ok () w)(cs:Array Value):∀(a:List Field),Nx P c cs a=true->
  (forIn a PUnit.unit (λf _=>do
   if f.name≠ "_" then Instr.checkKey em d f.type (<-part f.type cs f.offset)
   pure (ForInStep.yield PUnit.unit)):Sem PUnit).run P w = .ok PUnit.unit w
 |[],_=>rfl
 | f::a,h=>by
  simp only[Nx,and_eq_true,decide_eq_true_eq]at h;obtain⟨⟨i,b⟩,j⟩:=h
  cases e:partOf P f.type cs f.offset with
  |none=>grind
  |some p=>
   rw[e]at b;simp only[List.forIn_cons,run_bind,i,ne_eq,not_false_eq_true,if_true,andThen_ok,pq e,g _ _ b,Sem.run_pure];simpa using Fk w g cs a j
theorem CT(b:Bool)(w:World):∀(d n:Nat)(t:TypeId)(v:Value),zG P d t v=true->(Instr.checkKey b (n+d) t v).run P w = .ok () w
 |0,_,_,_,h=>by simp[zG]at h
 | d+1,n,t,v,h=>by
  rw[show n+(d+1)=(n+d)+1 from rfl];unfold zG at h;split at h
  ·next f a e=>
   have:=Fk (em:=b) w (λt v c=>CT b w d n t v c) a f.toList h;rw[Instr.checkKey];simp only[run_bind,aQ e,andThen_ok];rw[<-Array.forIn_toList];simp only[ne_eq,ite_not,bind_pure_comp]at this⊢;simp at this⊢;rw[this];rfl
  all_goals simp_all[aQ,Instr.checkKey]
theorem AL{kt:TypeId}{k:Value}(h:tq P kt k=true)(a:Bool)(w:World):(Instr.checkKey a 10000 kt k).run P w = .ok () w:=by
 unfold tq at h;simp only[and_eq_true]at h;exact CT a w 3 9997 kt k h.2
theorem BG{kt:TypeId}{k:Value}(h:tq P kt k=true):CU k=true:=by simp_all[tq]
theorem uy{kt:TypeId}{a b:Value}{r:Bool}(h:NI P kt a b=some r):CU b=true/\mA P 3 kt a b=some r/\(r=true->a=b):=by
 unfold NI at h
 grind[U6]
theorem Pu{kt:TypeId}{k:Value}(h:tq P kt k=true):(∃e a,P.underlying kt=some (.struct e)/\k = .agg a)\/(∃g,P.underlying kt=some g/\∀b r,mA P 3 kt k b=some r->Instr.sameNow g k b=some r):=by
 unfold tq at h;simp only[and_eq_true]at h;have f:=h.2;unfold zG at f;split at f
 ·next e a d=>exact .inl ⟨e,a,d,rfl⟩
 ·next b d=>
  refine .inr ⟨_,d,λy r c=>?_⟩;simp only[mA,Cx,d]at c
  cases y<;>simp at c
  simp[Instr.sameNow,c]
 ·next j i n d=>
  refine .inr ⟨_,d,λy r c=>?_⟩;simp only[mA,Cx,d]at c
  cases y<;>simp at c
  obtain⟨rfl,rfl⟩:=c;simp[Instr.sameNow]
 ·next b d=>
  refine .inr ⟨_,d,λy r c=>?_⟩;simp only[mA,Cx,d]at c
  cases y with
  |string s=>
   obtain rfl:=oI c;simp only[Instr.sameNow];rw[Fi]
  |_=>simp at c
 grind
theorem wN.Vx{p:Value×Value}{b:List (Value×Value)}{e:MapEntry}{a:List MapEntry}(c:wN β (p::b) (e::a)):wN β b a:=
 ⟨by have:=c.1;grind,λj p e d f=>c.2 (j+1) p e (by grind) (by grind)⟩
structure BV(P:Program)(kt:TypeId)(k:Value){α:Type}(fnd:List MapEntry->Nat->α)(R:Option (Nat×Value)->α):Prop where
 nil:∀i,fnd [] i=R none
 hit:∀(e:MapEntry) es i,mA P 3 kt k e.key=some true->fnd (e::es) i=R (some (i,e.val))
 XX:∀(e:MapEntry) es i,mA P 3 kt k e.key=some false->fnd (e::es) i=fnd es (i+1)
theorem LG{kt:TypeId}{a:TypeDesc}{k:Value}(d:∀b r,mA P 3 kt k b=some r->Instr.sameNow a k b=some r):BV P kt k (Instr.findNow a k) some where
 nil:=λ_=>rfl
 hit:=λe c i h=>by grind[Instr.findNow]
 XX:=λe c i h=>by grind[Instr.findNow]
theorem Ex{kt:TypeId}{k:Value}(w:World):BV P kt k (λa i=>(Instr.findAsking kt k a i).run P w) (λr=> .ok r w) where
 nil:=λ_=>by rfl
 hit:=λe a i h=>by
  have b:(Op.equal kt k e.key).run P w = .ok true w:=we w 3 9997 kt k e.key true h;simp[Instr.findAsking,b]
 XX:=λe a i h=>by
  have b:(Op.equal kt k e.key).run P w = .ok false w:=we w 3 9997 kt k e.key false h;simp[Instr.findAsking,b]
section
variable {kt:TypeId} {k:Value} {α:Type} {fnd:List MapEntry->Nat->α} {R:Option (Nat×Value)->α}
theorem Jg(l:BV P kt k fnd R):∀(f:List (Value×Value))(a:List MapEntry)(i:Nat){r:Option Value},wN β f a->CE P kt k f=some r->
  ∃g,fnd a i=R g/\((r=none/\g=none)\/ ∃v j s,r=some v/\g=some (j,s)/\aD β v s)
 |[],a,i,r,c,h=>by
  have:a=[]:=List.eq_nil_of_length_eq_zero c.1.symm;subst this;simp only[CE,Option.some.injEq]at h;exact⟨none,l.nil i,.inl ⟨h.symm,rfl⟩⟩
 |(q,v)::f,[],i,r,c,h=>by have:=c.1;grind
 | (q,v)::f,e::a,i,r,c,h=>by
  obtain⟨d,m⟩:=c.2 0 (q,v) e rfl rfl;dsimp only at d m;simp only[CE]at h;split at h
  ·next n=>
   obtain⟨o,p,_⟩:=uy n;have b:=d.rN o;obtain rfl:=oI h;exact⟨some (i,e.val),l.hit e a i (by rw[b];exact p),.inr ⟨v,i,e.val,rfl,rfl,m⟩⟩
  ·next n=>
   obtain⟨o,p,_⟩:=uy n;have b:=d.rN o;obtain⟨g,t,u⟩:=Jg l f a (i+1) c.Vx h;exact⟨g,by rw[l.XX e a i (by rw[b];exact p)];exact t,u⟩
  grind
theorem AK(w:BV P kt k fnd R){x z:Value}(B:CU k=true)(y:aD β x z):∀(n:List (Value×Value))(a:List MapEntry){r:List (Value×Value)},wN β n a->rL P kt k x n=some r->∀i b,
  (∃j e,fnd a i=R (some (i+j,e.val))/\a[j]?=some e/\e.key=k/\wN β r (a.modify j λe=>{ e with key:=k,val:=z }))\/
  (fnd a i=R none/\wN β r (a++[{ key:=k,val:=z,born:=b }]))
 |[],a,r,m,h,i,b=>by
  have:a=[]:=List.eq_nil_of_length_eq_zero m.1.symm;subst this;simp only[rL,Option.some.injEq]at h;subst h;refine .inr ⟨w.nil i,rfl,λj p e g l=>?_⟩
  cases j with
  |zero=>simp at g l;subst g;subst l;exact⟨.NR B,y⟩
  |succ j=>grind
 |(F,v)::n,[],r,m,h,i,b=>by have:=m.1;grind
 | (F,v)::n,e::a,r,m,h,i,b=>by
  obtain⟨f,o⟩:=m.2 0 (F,v) e rfl rfl;dsimp only at f o;have d:∀{p:Value×Value}{t:MapEntry}{q:List (Value×Value)}{H:List MapEntry},aD β p.1 t.key->aD β p.2 t.val->wN β q H->wN β (p::q) (t::H):=λg l u=>
   ⟨by simp[u.1],λj p e s E=>by
    cases j with
    |zero=>simp at s E;subst s;subst E;exact⟨g,l⟩
    |succ j=>exact u.2 j p e (by simpa using s) (by simpa using E)⟩
  simp only[rL]at h;split at h
  ·next A=>
   obtain⟨C,D,I⟩:=uy A;have c:=f.rN C;obtain rfl:=oI h;refine .inl ⟨0,e,w.hit e a i (by rw[c];exact D),rfl,by rw[c,I rfl],?_⟩;simp only[List.modify_zero_cons];exact d (.NR B) y m.Vx
  ·next A=>
   obtain⟨C,D,_⟩:=uy A;have c:=f.rN C;obtain⟨K,J,rfl⟩:=map_eq_some_iff.1 h;have G:=w.XX e a i (by rw[c];exact D);rcases AK w B y n a m.Vx J (i+1) b with⟨j,t,g,l,u,s⟩|⟨g,l⟩
   ·refine .inl ⟨j+1,t,?_,by simpa using l,u,?_⟩
    ·rw[G,g];congr 3;omega
    ·simp only[List.modify_succ_cons];exact d f o s
   ·exact .inr ⟨G.trans g,d f o l⟩
  grind
end
theorem CF{kt:TypeId}{k:Value}(g:tq P kt k=true)(w:World)(b:List MapEntry):
  ∃(α:Type)(fnd:List MapEntry->Nat->α)(R:Option (Nat×Value)->α),BV P kt k fnd R/\∀c,fnd b 0=R c->(Instr.findKey kt k b).run P w = .ok c w:=by
 rcases Pu g with⟨j,a,f,rfl⟩|⟨i,f,d⟩
 ·refine⟨_,_,_,Ex w,λc h=>?_⟩
  cases b with
  |nil=>simp_all[aQ,Instr.findAsking,Instr.findKey,Instr.findNow]
  |cons e b=>simp_all[aQ,Instr.findKey,Instr.findNow,Instr.sameNow]
 ·exact⟨_,_,_,LG d,λc h=>by simp_all[aQ,Instr.findKey]⟩
theorem tP(d:Nat){v:Value}(h:AV v=true):Instr.sameBits d v v=true:=by
 cases v<;>first|(simp[AV]at h;done)|(cases d<;>simp[Instr.sameBits];done)|(cases d<;>(simp only[Instr.sameBits];rw[<-Fi];simp))
theorem EN(h:CU v=true)(d:Nat):Instr.sameBits (d+1) v v=true:=by
 unfold CU at h;split at h
 ·next cs=>
  simp only[Instr.sameBits,BEq.rfl,Bool.true_and];rw[all_eq_true]at h⊢;rintro⟨x,y⟩ e;obtain⟨i,c⟩:=List.getElem?_of_mem e;rw[List.getElem?_zip_eq_some]at c;obtain⟨b,a⟩:=c;dsimp only at b a⊢;rw[b]at a;obtain rfl:=oI a;exact tP d (h x (List.mem_of_getElem? b))
 grind[tP]
set_option maxHeartbeats 1000000 in
theorem rW{ρ B:Operand->Value}(D:∀x,aD β (ρ x) (B x)){o:Oper}{v:Value}{h:ae}{w:World}(U:ko β h w)(f:cW P ρ o h=some v):
  ∃G,(execOp B o).run P w = .ok (.value G) w/\aD β v G:=by
 unfold cW at f;unfold execOp;split at f
 ·next t a K=>
  simp only[K];obtain⟨ad,q,G,H,l⟩:=Jx (P:=P) U f (D a);exact⟨G,gW (by simp[Instr.loadAt,q,Instr.sureAddr,H]),l⟩
 ·next t x lo hi mx K=>
  simp only[K];obtain⟨G,H,l⟩:=Q4 (P:=P) U f (D x) (ng.map D lo) (ng.map D hi) (ng.map D mx);exact⟨G,gW H,l⟩
 ·next s d x K=>
  simp only[K];have N:=D x;split at f
  ·next e a n c L O J=>
   rw[J]at N;split at f
   ·next q=>
    obtain rfl:=oI f;obtain⟨_,_,S⟩:=N.gj;refine⟨strOf [],gW ?_,.string _⟩;simp only[convert,run_bind,aQ L,aQ O,andThen_ok,S,aQ q,Conv.bytesToString];rfl
   ·next k i q=>
    split at f
    ·next cs t sz wr hk=>
     split at f
     ·next hl=>
      obtain⟨bs,x5,rfl⟩:=map_eq_some_iff.1 f;refine⟨strOf bs,gW ?_,.string _⟩;have M:=xd (P:=P) U hk hl x5 N;obtain⟨sl,i',c',_,_,_,S,_⟩:=N.gO;rw[S]at M⊢;simp only[convert,run_bind,aQ L,aQ O,andThen_ok,aQ q];exact M
     ·cases f
    ·cases f
   ·cases f
  ·cases f
 ·next t m k F K=>
  simp only[K];have Y:=D m;have hk:=D k;split at f
  ·next kt e E=>
   split at f
   ·next W z I hz=>
    split at f
    ·next V=>
     have x6:=hk.rN (BG V);have Q:∃g,wN β W g.toList/\((B m = .map none/\g = #[])\/ ∃b A,B m = .map (some b)/\(getObj b).run P w = .ok (.map g A) w):=by
      split at I
      ·next T=>
       obtain rfl:=oI I;rw[T]at Y;exact⟨#[],⟨rfl,λi p e L=>by simp at L⟩,.inl ⟨Y.CQ,rfl⟩⟩
      ·next r T=>
       rw[T]at Y;split at I
       ·next y1 H=>
        obtain rfl:=oI I;obtain⟨sl,M,x3,q⟩:=Y.G6;obtain⟨_,g,A,hw,l⟩:=U.blk _ _ _ H M;exact⟨g,l,.inr ⟨sl.b,A,q,by simp[getObj,Sem.run,hw]⟩⟩
       ·cases I
      ·cases I
     obtain⟨g,l,x2⟩:=Q;have y0:∀{v:Value},(∃r,CE P kt (ρ k) W=some r/\v=match r with|some v=>(if F then .tuple #[v,.bool true]else v)|none=>(if F then .tuple #[z,.bool false]else z))->
       ∃G,(Instr.lookup t (B m) (B k) F).run P w = .ok G w/\aD β v G:=by
      rintro v ⟨r,H,rfl⟩;rw[x6];obtain⟨α,fnd,R,hF,Z⟩:=CF V w g.toList;obtain⟨r',L,O⟩:=Jg hF W g.toList 0 l H;have x7:=Z r' L;have hL:(Instr.lookup t (B m) (ρ k) F).run P w=((do
         Instr.checkKey g.isEmpty 10000 kt (ρ k)
         let(v,x8) <-match <-Instr.findKey kt (ρ k) g.toList with
          |some (_,v)=>pure (v,true)
          |none=>pure (<-zeroValue e,false)
         pure (if F then .tuple #[v,.bool x8]else v)):Sem Value).run P w:=by
       rcases x2 with⟨q,rfl⟩|⟨b,A,q,hg⟩
       ·simp only[Instr.lookup,run_bind,aQ E,andThen_ok,q,Sem.run_pure];rfl
       ·simp only[Instr.lookup,run_bind,aQ E,andThen_ok,q,hg,Sem.run_pure];rfl
      rw[hL];have x4:=AL V g.isEmpty w;simp only[run_bind,x4,andThen_ok,x7];rcases O with⟨rfl,rfl⟩|⟨u,j,u',rfl,rfl,x1⟩
      ·refine⟨if F then .tuple #[z,.bool false]else z,by simp[pv hz],?_⟩;have x0:aD β z z:= .qH (fD hz).1
       cases F
       ·exact x0
       ·exact DL x0 (.bool _)
      ·refine⟨if F then .tuple #[u',.bool true]else u',by simp,?_⟩
       cases F
       ·exact x1
       ·exact DL x1 (.bool _)
     have:∃r,CE P kt (ρ k) W=some r/\v=match r with|some v=>(if F then .tuple #[v,.bool true]else v)|none=>(if F then .tuple #[z,.bool false]else z):=by
      split at f
      ·next u hf=>exact⟨some u,hf,(oI f).symm⟩
      ·next hf=>exact⟨none,hf,(oI f).symm⟩
      ·cases f
     obtain⟨G,L,O⟩:=y0 this;exact⟨G,gW L,O⟩
    ·cases f
   ·cases f
  ·cases f
 ·next X x9 K=>
  simp only[K];split at f
  ·next x t N ht=>
   have C:=D x;have h0:(X.map B)[0]?=some (B x):=by simp[N]
   have Q:∃n,v = .int .i64 n/\(Builtin.len_ x9 o.type (X.map B)).run P w = .ok (.int .i64 n) w:=by
    simp only[Builtin.len_,ht,h0];split at f
    ·next s E J=>
     rw[J]at C;obtain rfl:=oI f;refine⟨_,rfl,?_⟩;simp only[run_bind,aQ E,andThen_ok,C.fM,Sem.run_pure,goInt];simp
    ·next n e y E=>
     obtain rfl:=oI f;refine⟨_,rfl,?_⟩;simp only[run_bind,aQ E,andThen_ok,Sem.run_pure,goInt]
    ·next e a n c E J=>
     rw[J]at C;obtain rfl:=oI f;refine⟨_,rfl,?_⟩
     cases a with
     |none=>obtain⟨rfl,rfl,q⟩:=C.gj;simp only[run_bind,aQ E,andThen_ok,q,Sem.run_pure,goInt]
     |some a=>obtain⟨a',c',q⟩:=C.Jr;simp only[run_bind,aQ E,andThen_ok,q,Sem.run_pure,goInt]
    ·next kt e E J=>
     rw[J]at C;obtain rfl:=oI f;refine⟨_,rfl,?_⟩;simp only[run_bind,aQ E,andThen_ok,C.CQ,Sem.run_pure,goInt]
    ·next kt e r E J=>
     rw[J]at C;split at f
     ·next W H=>
      obtain rfl:=oI f;refine⟨_,rfl,?_⟩;obtain⟨sl,M,x3,q⟩:=C.G6;obtain⟨_,g,A,hw,l⟩:=U.blk _ _ _ H M;have hg:(getObj sl.b).run P w = .ok (.map g A) w:=by simp[getObj,Sem.run,hw]
      simp only[run_bind,aQ E,andThen_ok,q,hg,Sem.run_pure,goInt];rw[l.1];simp
     ·cases f
    ·cases f
   obtain⟨n,rfl,H⟩:=Q;refine⟨.int .i64 n,?_,.int _ _⟩;simp only[resolve,run_bind,Sem.run_pure,andThen_ok,invoke,builtin,H]
  ·cases f
 grind
end
variable{g:ae}
section
variable {β:dH} {P:Program}
def Wr(β:dH)(h:ae)(b:Nat):Prop:=∃k B a,h.get k=some B/\B.wr=true/\β k=some a/\a.b=b
def oR(w a:World):Prop:=a.tape=w.tape/\w.drawn<=a.drawn
theorem oR.refl(w:World):oR w w:=⟨rfl,Nat.le_refl _⟩
theorem oR.trans{b a:World}(h:oR W b)(c:oR b a):oR W a:=⟨c.1.trans h.1,Nat.le_trans h.2 c.2⟩
structure Step(β:dH)(h:ae)(w:World)(β':dH)(h':ae)(w':World):Prop where
 le:β.le β'
 next:h.next<=h'.next
 pC:ko β' h' w'
 size:w.heap.size<=w'.heap.size
 os:w'.os=w.os
 tape:oR w w'
 output:w'.output=w.output
 kept:∀b,b<w.heap.size->¬Wr β h b->w'.heap[b]?=w.heap[b]?
 back:∀b,b<w.heap.size->Wr β' h' b->Wr β h b
 fresh:∀k sl,β' k=some sl->β k=some sl\/(h.next<=k/\(w.heap.size<=sl.b\/Wr β h sl.b))
 keys:∀k B,h'.get k=some B->k<h.next->∃B₀,h.get k=some B₀
theorem Step.refl(a:ko β h W):Step β h W β h W:=
 ⟨β.le_refl,Nat.le_refl _,a,Nat.le_refl _,rfl,.refl _,rfl,λ_ _ _=>rfl,λ_ _ h=>h,λ_ _ h=> .inl h,λ_ B h _=>⟨B,h⟩⟩
theorem Step.trans{d:dH}{e:ae}{l j:World}(a:Step β h W J g l)(b:Step J g l d e j):Step β h W d e j where
 le:=dH.le_trans a.le b.le
 next:=Nat.le_trans a.next b.next
 pC:=b.pC
 size:=Nat.le_trans a.size b.size
 os:=b.os.trans a.os
 tape:=a.tape.trans b.tape
 output:=b.output.trans a.output
 kept:=λk c q=>(b.kept k (lt_of_lt_of_le c a.size) λp=>q (a.back k c p)).trans (a.kept k c q)
 back:=λk c p=>a.back k c (b.back k (lt_of_lt_of_le c a.size) p)
 fresh:=λk o c=>by
  rcases b.fresh k o c with f|⟨f,i⟩
  ·exact a.fresh k o f
  ·refine .inr ⟨Nat.le_trans a.next f,?_⟩;rcases i with i|i
   ·exact .inl (Nat.le_trans a.size i)
   ·rcases lt_or_ge o.b W.heap.size with r|r
    ·exact .inr (a.back _ r i)
    omega
 keys:=λk B c m=>by
  obtain⟨n,f⟩:=b.keys k B c (lt_of_lt_of_le m a.next);exact a.keys k n f m
theorem ko.of_heap{c:World}(a:ko β h W)(d:c.heap=W.heap):ko β h c:=
 ⟨λk b g=>by rw[d];exact a.lt k b g,λk B b e f=>(a.blk k B b e f).of_heap (by rw[d]),a.own,a.wf⟩
theorem Step.of_heap{a:World}(d:ko β h W)(b:a.heap=W.heap)(e:a.os=W.os)(f:oR W a)(c:a.output=W.output):Step β h W β h a:=
 ⟨β.le_refl,Nat.le_refl _,d.of_heap b,by grind,e,f,c,λ_ _ _=>by rw[b],λ_ _ h=>h,λ_ _ h=> .inl h,λ_ B h _=>⟨B,h⟩⟩
def dH.ext(β:dH)(k:Nat)(a:Slot):dH:=λj=>if j=k then some a else β j
theorem dH.cE(β:dH)(k:Nat)(a:Slot):β.ext k a k=some a:=by simp[dH.ext]
theorem dH.eN(β:dH){k j:Nat}(a:Slot)(h:j≠k):β.ext k a j=β j:=by simp[dH.ext,h]
theorem dH.CW(a:Slot)(h:β k=none):β.le (β.ext k a):=λj c b=>by
 rw[β.eN a (by rintro rfl;rw[h]at b;cases b)];omega
theorem ko.mI(b:ko β h W){k:Nat}(d:h.next<=k):β k=none:=by
 cases a:β k with
 |none=>rfl
 |some c=>exact absurd (b.lt k c a).1 (by omega)
structure qR(β:dH)(w:World)(B:dS)(f:Nat->Value)(v':Value)(w':World):Prop where
 size:w'.heap.size=w.heap.size+1
 os:w'.os=w.os
 tape:oR w w'
 output:w'.output=w.output
 kept:∀b,b<w.heap.size->w'.heap[b]?=w.heap[b]?
 new:∃sl:Slot,sl.b=w.heap.size/\∀(β':dH)(k:Nat),β.le β'->β' k=some sl->A3 β' B sl w'/\aD β' (f k) v'
theorem ae.ow(c:∀k B,h.get k=some B->k<h.next)(B:dS):∀k b,(h.push B).get k=some b->k<(h.push B).next:=λk b a=>by
 rw[h.bt]at a;split at a
 ·simp_all
 ·have:=c k b a;simp;omega
theorem ae.wf_set(c:∀k B,h.get k=some B->k<h.next){j:Nat}(B:dS)(d:j<h.next):∀k b,(h.set j B).get k=some b->k<(h.set j B).next:=λk b a=>by
 rw[h.aw]at a;split at a
 all_goals simp_all
theorem ae.H0(c:∀k B,h.get k=some B->k<h.next)(j:Nat):∀k a,(h.del j).get k=some a->k<(h.del j).next:=λk a b=>by
 rw[h.dR]at b
 simp_all
theorem qR.step{A:World}(o:ko β h W){B:dS}{f:Nat->Value}{D:Value}(l:qR β W B f D A):
  ∃u,Step β h W u (h.push B) A/\aD u (f h.next) D:=by
 obtain⟨e,E,x⟩:=l.new;have s:=o.mI (Nat.le_refl h.next);have r:β.le (β.ext h.next e):=dH.CW e s;obtain⟨I,G⟩:=x _ h.next r (β.cE _ _);have z:∀k a,β k=some a->a.b<W.heap.size:=λk a d=>(o.lt k a d).2;have y:∀b,b<W.heap.size->Wr (β.ext h.next e) (h.push B) b->Wr β h b:=by
  rintro b t ⟨k,p,a,i,g,j,m⟩;by_cases d:k=h.next
  ·subst d;rw[β.cE]at j
   grind
  ·rw[h.jt k B d]at i;rw[β.eN e d]at j;exact⟨k,p,a,i,g,j,m⟩
 refine⟨β.ext h.next e,⟨r,by simp,⟨?_,?_,?_,ae.ow o.wf B⟩,by rw[l.size];omega,l.os,l.tape,l.output,λb t _=>l.kept b t,y,?_,?_⟩,G⟩
 ·intro k a d;by_cases c:k=h.next
  ·subst c;rw[β.cE]at d;obtain rfl:=oI d;exact⟨by simp,by rw[l.size,E];omega⟩
  ·rw[β.eN e c]at d;have:=o.lt k a d;exact⟨by simp;omega,by rw[l.size];omega⟩
 ·intro k p a i g;by_cases c:k=h.next
  ·subst c;rw[β.cE]at g;obtain rfl:=oI g;rw[h.fA]at i
   grind
  ·rw[h.jt k B c]at i;rw[β.eN e c]at g;exact((o.blk k p a i g).mono r).of_heap (l.kept _ (z k a g))
 ·intro k v p C a w q i g j m H;by_cases c:k=h.next
  ·subst c;rw[β.cE]at j;obtain rfl:=oI j;rw[β.eN e (Ne.symm q)]at m
   grind
  ·by_cases n:v=h.next
   ·subst n;rw[β.cE]at m;obtain rfl:=oI m;rw[β.eN e q]at j
    grind
   ·rw[h.jt k B c]at i;rw[h.jt v B n]at g;rw[β.eN e c]at j;rw[β.eN e n]at m;exact o.own k v p C a w q i g j m H
 ·intro k a d;by_cases c:k=h.next
  ·subst c;rw[β.cE]at d
   grind
  ·rw[β.eN e c]at d
   grind
 ·intro k p d F;rw[h.jt k B (by omega)]at d
  grind
theorem ga.X8{cs:List Value}(h:bp β cs c):ga β cs 0 c.toArray:=λi v a=>by
 obtain⟨e,b,d⟩:=h.get a
 grind
theorem Ft(n:Nat):S5 (0,0) n:=λx _ h=>absurd h (by simp)
theorem kD{w:World}(o:Obj):(w.alloc o).heap[w.heap.size]?=some o:=by
 unfold World.alloc;grind
theorem mW{w:World}(o:Obj){b:Nat}(h:b<w.heap.size):(w.alloc o).heap[b]?=w.heap[b]?:=by
 simp only[World.alloc,getElem?_push]
 grind
theorem rj{cs:List Value}{t:TypeId}{f:Nat->Value}(h:bp β cs c)
  (i:∀(a:dH)(k:Nat)(d:Slot),a k=some d->d.b=W.heap.size->d.s=0->d.n=c.length->d.sz=n->d.isMap=false->aD a (f k) v):
  qR β W (.cells cs t n true) f v (W.alloc (.cells c.toArray t)) where
 size:=by simp
 os:=rfl
 tape:= .refl _
 output:=rfl
 kept:=λb g=>mW _ g
 new:=⟨⟨W.heap.size,0,c.length,t,n,false⟩,rfl,λa k e j=>
  ⟨⟨rfl,rfl,⟨rfl,λ_=>rfl⟩,c.toArray,(0,0),kD _,by simp,ga.X8 (h.mono e),λ_=>Ft _⟩,i a k _ j rfl rfl rfl rfl rfl⟩⟩
theorem bp.r9{z:Value}(h:plain z=true):bp β z.cells.toList z.cells.toList:=jI.toList.1 (jI.tF h)
theorem qa{l a:List Value}(h:bp β l a):∀n,bp β (df l n) (df a n)
 |0=> .nil β
 |n+1=>h.append (qa h n)
theorem jH(l:List Value):∀n,(df l n).length=n*l.length
 |0=>by simp[df]
 |n+1=>by simp[df,jH l n,Nat.add_mul,Nat.add_comm]
theorem A2(l:List Value):∀(n i:Nat),i<n*l.length->(df l n)[i]?=l[i%l.length]?
 |0,i,h=>by omega
 | n+1,i,h=>by
  have b:0<l.length:=by
   rcases Nat.eq_zero_or_pos l.length with a|a
   ·grind
   ·omega
  simp only[df];by_cases c:i<l.length
  ·grind[Nat.mod_eq_of_lt]
  ·rw[getElem?_append_right (by omega),A2 l n (i-l.length) (by rw[Nat.add_mul]at h;omega)]
   grind[Nat.mod_eq_sub_mod]
theorem wM(z:Array Value)(n:Nat)(a:0<z.size):((Array.range (n*z.size)).map (λi=>z[i%z.size]!))=(df z.toList n).toArray:=by
 apply Array.ext';apply List.ext_getElem?
 grind[A2,jH]
end
section
variable {β:dH} {P:Program}
theorem jF(e:TypeId)(cs:Array Value)(w:World):(newRow e cs).run P w = .ok ⟨w.heap.size,0,none⟩ (w.alloc (.cells cs e)):=by rfl
theorem NW(h:J k=some G)(b:G.b=W.heap.size)(c:G.s=0)(a:G.isMap=false):aD J (.pointer (some ⟨k,0,none⟩)) (.pointer (some ⟨W.heap.size,0,none⟩)):=by
 have:=aD.ptr (i:=0) h a
 grind
theorem uK{w:World}{c:Nat}(h:J k=some G)(j:G.b=w.heap.size)(d:G.s=0)(b:G.isMap=false)(e:c<dn->m=c)(f:dn<=c->c-dn<=m)(a:n<=bH c)
  (g:G.sz=0\/m*G.sz<=G.n):aD J (.slice (some ⟨k,0,none⟩) n c) (.slice (some ⟨w.heap.size,0,none⟩) n m):=by
 have:=aD.slice (i:=0) (i':=0) h b e f a (.inl (by rw[d])) (by simpa using g)
 grind
theorem Cu{c:Nat}(h:c<dn):bH c=c:=by simp_all[if_neg,bH]
theorem im(c:Nat):bH (dn+c)=c:=by simp_all[bH]
theorem Bx:dn=36893488147419103232:=rfl
def frz(a:Addr)(n:Nat):Obj->Obj
 |.cells c b (e,d)=> .cells c b (if e==d then(a.off,a.off+n)else(min e a.off,max d (a.off+n)))
 |o=>o
theorem pL(w:World)(a:Addr){n:Nat}(c:n≠0)(b:Nat):(w.freeze a n).heap[b]?=if a.block=b then(w.heap[b]?).map (frz a n)else w.heap[b]?:=by
 unfold World.freeze;rw[if_neg c];simp only[Array.getElem?_modify];rfl
theorem AJ(w:World)(a:Addr)(n:Nat):(w.freeze a n).heap.size=w.heap.size:=by grind[World.freeze]
theorem tp(w:World)(a:Addr)(n:Nat):(w.freeze a n).os=w.os/\oR w (w.freeze a n)/\(w.freeze a n).output=w.output:=by
 unfold World.freeze;split<;>exact⟨rfl,.refl _,rfl⟩
theorem CJ(b:Nat):∀(q:List (Value×Nat))(a:Array Value),(q.foldl (λcs (c,j)=>cs.setIfInBounds (b+j) c) a).size=a.size
 |[],_=>rfl
 |c::q,a=>by simp only[foldl_cons];rw[CJ b q];simp
theorem Fp(b:Nat->Option (Nat×Nat)):∀(l:List (Nat×Value))(a r:Array Value),Instr.fill b a l=some r->r.size=a.size
 |[],a,r,h=>by grind[Instr.fill]
 | (i,v)::l,a,r,h=>by
  simp only[Instr.fill]at h;split at h
  ·cases h
  ·split at h
   ·cases h
   ·rw[Fp b l _ _ h,<-Array.foldl_toList];simp[CJ]
theorem tI(f:Nat->Value)(n:Nat)(h:n=0):(Array.range n).map f = #[]:=by grind
set_option maxHeartbeats 1000000 in
theorem pR{ρ A:Operand->Value}(I:∀x,aD β (ρ x) (A x)){o:Oper}{B:dS}{f:Nat->Value}{w:World}(a:bV P ρ o=some (B,f)):
  ∃v' J,(execOp A o).run P w = .ok (.value v') J/\qR β w B f v' J:=by
 unfold bV at a;unfold execOp;split at a
 ·next t C=>
  simp only[C];split at a
  ·next z M=>
   split at a
   ·next W=>
    simp only[Option.some.injEq,Prod.mk.injEq]at a;obtain⟨rfl,rfl⟩:=a;refine⟨_,_,gW (v:= .pointer (some ⟨w.heap.size,0,none⟩)) (w':=w.alloc (.cells z.cells.toList.toArray t)) ?_,rj (bp.r9 (fD M).1) λL k sl y F Y h4 h5 T=>NW y F Y T⟩;simp[Instr.alloc,pv M,newVar,jF]
   ·cases a
  ·cases a
 ·next t x C=>
  simp only[C];split at a
  ·next W=>
   simp only[Option.some.injEq,Prod.mk.injEq]at a;obtain⟨rfl,rfl⟩:=a;have Z:=I x;have hj:ρ x≠Ab.hH:=by
    intro e;rw[e]at W
    cases W
   have hc:=Z.cells hj;refine⟨_,_,gW (v:= .pointer (some ⟨w.heap.size,0,none⟩)) (w':=w.alloc (.cells (A x).cells.toList.toArray t)) ?_,rj (jI.toList.1 hc) λL k sl y F Y h4 h5 T=>NW y F Y T⟩;simp[Instr.box,newVar,jF]
  ·cases a
 ·next t g u C=>
  simp only[C];split at a
  ·next e hu=>
   split at a
   ·next Q z U M=>
    split at a
    ·next hc=>
     obtain⟨H,S,y9⟩:=hc;split at a
     ·next cs D=>
      split at D
      ·next hj=>
       split at a
       ·next W=>
        simp only[Option.some.injEq,Prod.mk.injEq]at a;obtain⟨rfl,rfl⟩:=a;have R:jI β (df z.cells.toList g).toArray (df z.cells.toList g).toArray:=jI.toList.2 (by simpa using qa (bp.r9 (fD M).1) g);have y4:A7 β (u.toList.map λp=>(p.1,ρ p.2)) (u.toList.map λp=>(p.1,A p.2)):=A7.map u.toList (·.1) λp _=>I p.2;obtain⟨x0,hf,hr⟩:=xl _ _ _ _ _ _ y4 (by
         intro p hp;simp only[List.mem_map]at hp;obtain⟨q,hq,rfl⟩:=hp;exact all_eq_true.1 hj q hq) R D
        have x4:x0.size=g*Q:=by
         rw[Fp _ _ _ _ hf];simp[jH,H]
        refine⟨_,_,gW (v:= .slice (some ⟨w.heap.size,0,none⟩) g g) (w':=w.alloc (.cells x0.toList.toArray e)) ?_,rj (jI.toList.1 hr) λL k sl y F Y h4 h5 T=>
         uK y F Y T (λ_=>rfl) (λh=>absurd h (by rw[Bx];have:g<=g*Q:=Nat.le_mul_of_pos_right _ S;omega))
          (by rw[Cu (by rw[Bx];have:g<=g*Q:=Nat.le_mul_of_pos_right _ S;omega)];exact Nat.le_refl _) (.inr (by rw[h5,h4];simp[x4]))⟩
        have he:(u.map λ(i,x)=>(i,A x)).toList=(u.toList.map λp=>(p.1,A p.2)):=by simp
        have V:((Array.range (g*Q)).map (z.cells[· % z.cells.size]!))=(df z.cells.toList g).toArray:=by
         rw[<-H];exact wM z.cells g (by omega)
        simp only[Instr.buildSlice,run_bind,aQ hu,andThen_ok,ey U,run_ite];rw[if_neg (by omega)];by_cases x1:g*Q=0
        ·rw[if_pos x1];have:g=0:=by rcases Nat.mul_eq_zero.1 x1 with h|h;exact h;omega
         subst this;simp only[df]at hf;simp only[Sem.run_pure,andThen_ok,he];rw[tI _ _ (by simp)];have y7:Instr.fill (λi=>some (i*Q,Q)) #[] (u.toList.map λp=>(p.1,A p.2))=some x0:=hf;rw[y7];simp[jF]
        ·rw[if_neg x1];simp only[run_bind,pv M,Sem.run_pure,andThen_ok,V,he,hf];simp[jF]
       ·cases a
      ·cases D
     ·cases a
    ·cases a
   ·cases a
  ·cases a
 ·next t l c C=>
  simp only[C];have hl:=I l;have hc:=I c;split at a
  ·next e l0 G hu y5 y2=>
   rw[y5]at hl;rw[y2]at hc;split at a
   ·next i z hi M=>
    split at a
    ·next x3=>
     obtain⟨H,S,h0,y,F,Y⟩:=x3;simp only[Option.some.injEq,Prod.mk.injEq]at a;obtain⟨rfl,rfl⟩:=a;have R:bp β (df z.cells.toList G.toNat) (df z.cells.toList G.toNat):=qa (bp.r9 (fD M).1) _;have U:aE P e=some i.size:=by simp[aE,hi]
     refine⟨_,_,gW (v:= .slice (some ⟨w.heap.size,0,none⟩) l0.toNat G.toNat) (w':=w.alloc (.cells (df z.cells.toList G.toNat).toArray e)) ?_,rj R λL k sl y0 x9 y1 h4 h5 T=>
      uK y0 x9 y1 T (λ_=>rfl) (λh=>absurd h (by rw[Bx];omega)) (by rw[Cu (by rw[Bx];omega)];omega) (.inr (by rw[h5,h4,jH];simp[H]))⟩
     have y3:IntKind.i64.wrap l0=l0:=by rw[wrap_i64];omega
     have x8:IntKind.i64.wrap G=G:=by rw[wrap_i64];omega
     simp only[Instr.makeSlice,run_bind,aQ hu,andThen_ok,hl.dX,hc.dX,asInt,asIntOf,Sem.run_pure,tO hi,y3,x8,run_ite];have z0:(i.bytes:Int)*G<=140737488355328:=by rw[Int.mul_comm];exact F
     rw[if_neg (by simp;omega)];simp only[run_askRoom,andThen_ok,ey U];by_cases X:G.toNat*i.size=0
     ·rw[if_pos X];have:G.toNat=0:=by rcases Nat.mul_eq_zero.1 X with h|h;exact h;omega
      rw[tI _ _ X,jF,this];rfl
     ·rw[if_neg X];have V:=wM z.cells G.toNat (by omega);rw[H]at V;simp only[pv M,andThen_ok,H];rw[V,jF];rfl
    ·cases a
   ·cases a
  ·cases a
 ·next t r C=>
  simp only[C];have K:∀v',v'=Value.map (some w.heap.size)->qR β w (.map []) (λk=> .map (some k)) v' (w.alloc (.map #[] 0)):=λv' he=>
   {
    size:=by simp,os:=rfl,tape:= .refl _,output:=rfl,kept:=λb N=>mW _ N
    new:=⟨⟨w.heap.size,0,0,0,0,true⟩,rfl,λL k _ hk=>⟨⟨rfl,#[],0,kD _,rfl,λi p e h=>by simp at h⟩,by rw[he];exact .map (sl:=⟨w.heap.size,0,0,0,0,true⟩) hk rfl⟩⟩ }
  split at a
  ·next kt e hu=>
   split at a
   ·simp only[Option.some.injEq,Prod.mk.injEq]at a;obtain⟨rfl,rfl⟩:=a;refine⟨_,_,gW (v:= .map (some w.heap.size)) (w':=w.alloc (.map #[] 0)) ?_,K _ rfl⟩;simp[Instr.makeMap]
   ·next x=>
    split at a
    ·next k n Z=>
     have x5:=I x;rw[Z]at x5;simp only[Option.some.injEq,Prod.mk.injEq]at a;obtain⟨rfl,rfl⟩:=a;refine⟨_,_,gW (v:= .map (some w.heap.size)) (w':=w.alloc (.map #[] 0)) ?_,K _ rfl⟩;simp[Instr.makeMap,aQ hu,x5.dX,asInt,asIntOf]
    ·cases a
  ·cases a
 ·next s d x C=>
  simp only[C];have Z:=I x;split at a
  ·next ds e E y F ha=>
   rw[ha]at Z;split at a
   ·next he=>
    split at a
    ·next U=>
     simp only[Option.some.injEq,Prod.mk.injEq]at a;obtain⟨rfl,rfl⟩:=a;have x6:(Question.appendCap E.size 0 e).forced=false:=rfl;obtain⟨m,x7,z1⟩:∃m,(Question.appendCap E.size 0 e).cut (w.tape w.drawn (.appendCap E.size 0 e))=m/\E.size<=m:=⟨_,rfl,by simp[Question.cut]⟩
     let j:Array Value:=(E.data.map λb=>Value.int .u8 b.toNat)++Array.replicate (m-E.size) (.int .u8 0)
     have D:j.size=m:=by simp[j];omega
     let O:World:=w.drew.alloc (.cells j e)
     let w2:World:=O.freeze ⟨w.heap.size,m,none⟩ 1
     have K:w2.heap[w.heap.size]?=some (.cells j e (m,m+1)):=by
      have y:O.heap[w.heap.size]?=some (.cells j e):=kD (w:=w.drew) _;simp only[w2,pL _ _ (Nat.succ_ne_zero 0),if_true,y,map_some,frz,BEq.rfl]
     refine⟨_,w2,gW (v:= .slice (some ⟨w.heap.size,0,none⟩) E.size m) (w':=w2) ?_,?_⟩
     ·have y6:O.shape? w.heap.size=some (e,m):=by
       have y:O.heap[w.heap.size]?=some (.cells j e):=kD (w:=w.drew) _;simp[World.shape?,y,D]
      have x2:(convert s d (A x)).run P w=(Conv.stringToBytes e E).run P w:=by
       rw[Z.fM];simp only[convert,run_bind,aQ y,aQ F,andThen_ok]
       cases ds<;>simp only[aQ he,andThen_ok]
      rw[x2];simp only[Conv.stringToBytes,run_bind,run_choose,x6,false_eq_true,if_false,andThen_ok,x7,jF];show(Sem.run P (markStringish ⟨w.heap.size,0,none⟩) O).andThen _=_;simp only[markStringish,run_bind,run_shape,y6,andThen_ok,run_freeze,Sem.run_pure];rfl
     ·refine{ size:= ?_,os:=rfl,tape:=⟨rfl,Nat.le_succ _⟩,output:=rfl,kept:= ?_,new:=⟨⟨w.heap.size,0,m,e,1,false⟩,rfl,?_⟩ }
      ·simp[w2,O,AJ]
      ·intro b N;have:O.heap[b]?=w.heap[b]?:=mW (w:=w.drew) _ N;simp only[w2,pL _ _ (Nat.succ_ne_zero 0)];rw[if_neg (by omega)];exact this
      ·intro L k y8 hk;refine⟨⟨rfl,rfl,⟨rfl,λ_=>rfl⟩,j,(m,m+1),K,D,?_,λ_ x y F=>by rw[D];exact y⟩,?_⟩
       ·intro i v a;simp only[List.getElem?_map,map_eq_some_iff]at a;obtain⟨b,N,rfl⟩:=a;refine⟨_,?_,.int _ _⟩;have hi:i<E.data.size:=by
         have:=(List.getElem?_eq_some_iff.1 N).1;simpa using this
        simp only[j,Nat.zero_add];rw[Array.getElem?_append_left (by simpa using hi)];rw[getElem?_toList]at N;simp[N]
       ·have:E.data.toList.length=E.size:=by simp
        rw[this];exact uK (w:=w) hk rfl rfl rfl (λh=>absurd h (by omega)) (λ_=>by omega) (by rw[im];exact Nat.le_refl _) (.inr (by simp))
    ·cases a
   ·cases a
  ·cases a
 grind
end
variable{d:List Value}
section
variable {β:dH} {P:Program}
structure At(w w':World)(b:Nat):Prop where
 size:w'.heap.size=w.heap.size
 os:w'.os=w.os
 tape:oR w w'
 output:w'.output=w.output
 kept:∀b',b'≠b->w'.heap[b']?=w.heap[b']?
theorem At.refl(w:World)(b:Nat):At w w b:=⟨rfl,rfl,.refl _,rfl,λ_ _=>rfl⟩
theorem At.trans{d c:World}{b:Nat}(h:At W d b)(a:At d c b):At W c b:=
 ⟨a.size.trans h.size,a.os.trans h.os,h.tape.trans a.tape,a.output.trans h.output,λf e=>(a.kept f e).trans (h.kept f e)⟩
theorem Step.at_{v:World}(o:ko β h W){k:Nat}{f B:dS}{m:Slot}(z:h.get k=some f)(u:β k=some m)(y:f.wr=true)(n:At W v m.b)(G:A3 β B m v):Step β h W β (h.set k B) v:=by
 have A:∀a l d,a≠k->h.get a=some l->β a=some d->d.b≠m.b:=λa l d c e g=>(o.own k a f l m d (Ne.symm c) z e u g y).symm;refine⟨β.le_refl,Nat.le_refl _,⟨?_,?_,?_,ae.wf_set o.wf B (o.lt k m u).1⟩,by rw[n.size];omega,n.os,n.tape,n.output,?_,?_,λ_ _ h=> .inl h,?_⟩
 ·intro a d e;rw[n.size];exact o.lt a d e
 ·intro a l d e g;by_cases c:a=k
  ·subst c;rw[h.eu]at e
   grind
  ·rw[h.cV k a B c]at e;exact(o.blk a l d e g).of_heap (n.kept _ (A a l d c e g))
 ·intro i j w x s q c e g p r F;by_cases t:i=k
  ·subst t;rw[h.cV i j B (Ne.symm c)]at g
   grind
  ·rw[h.cV k i B t]at e;by_cases C:j=k
   ·grind
   ·rw[h.cV k j B C]at g;exact o.own i j w x s q c e g p r F
 ·intro b D E;refine n.kept b ?_;rintro rfl;exact E ⟨k,f,m,z,y,u,rfl⟩
 ·rintro b D ⟨a,l,d,e,g,p,r⟩;by_cases c:a=k
  ·subst c;exact⟨a,f,d,z,y,p,r⟩
  ·rw[h.cV k a B c]at e;exact⟨a,l,d,e,g,p,r⟩
 ·intro a l e g;by_cases c:a=k
  ·grind
  ·rw[h.cV k a B c]at e;grind
def la(a:Array Value)(o:Nat)(b:List Value):Array Value:=(a.toList.take o++b++a.toList.drop (o+b.length)).toArray
theorem MT(a:Array Value)(o:Nat):la a o []=a:=by grind[la]
theorem tT{o:Nat}(h:o+c.length<=V.size):(la V o c).size=V.size:=by grind[la]
theorem Ku{o:Nat}(h:o+(c.length+1)<=V.size):la (V.setIfInBounds o v) (o+1) c=la V o (v::c):=by
 have a:o<V.toList.length:=by simp;omega
 have b:(V.toList.set o v).take (o+1)=V.toList.take o++[v]:=by
  rw[List.take_succ_eq_append_getElem (by simpa using a),List.take_set_of_le (Nat.le_refl _)];simp
 have d:(V.toList.set o v).drop (o+1+c.length)=V.toList.drop (o+(c.length+1)):=by
  rw[List.drop_set_of_lt (by omega)];congr 1;omega
 simp_all[la]
theorem MM(w:World){b o:Nat}{a:Array Value}{t:TypeId}{c:Nat×Nat}(v:Value)(e:w.heap[b]?=some (.cells a t c)):
  At w (w.setCell ⟨b,o,none⟩ v) b/\(w.setCell ⟨b,o,none⟩ v).heap[b]?=some (.cells (a.setIfInBounds o v) t c):=by
 refine⟨⟨by simp[World.setCell],rfl,⟨rfl,Nat.le_refl _⟩,rfl,λf d=>?_⟩,?_⟩
 all_goals simp_all[Array.getElem?_modify,Ne.symm,World.setCell]
theorem sf(b o:Nat)(t:TypeId)(e:Nat×Nat):∀(c:List Value)(i:Nat)(a:Array Value)(w:World),w.heap[b]?=some (.cells a t e)->S5 e a.size->o+i+c.length<=a.size->
  (∀v∈c,v.oneCell'=true)->∃d,(storeCells ⟨b,o,none⟩ c i).run P w = .ok () d/\At w d b/\d.heap[b]?=some (.cells (la a (o+i) c) t e)
 |[],i,a,w,f,_,_,_=>⟨w,rfl,At.refl w b,by grind[MT]⟩
 | v::c,i,a,w,f,h,p,j=>by
  simp only[length_cons]at p;have s:w.cell? ⟨b,o+i,none⟩=some a[o+i]:=by rw[nZ f];exact getElem?_eq_getElem (by omega)
  have m:w.frozen? ⟨b,o+i,none⟩=false:=by
   simp only[World.frozen?,f];rw[Bool.and_eq_false_iff];by_cases k:e.1<=o+i
   ·right;simp only[decide_eq_false_iff_not];intro n;have:=h _ k n;omega
   ·left;simpa using k
  have x:(store ((⟨b,o,none⟩:Addr).add i) v).run P w = .ok () (w.setCell ⟨b,o+i,none⟩ v):=by
   rw[dy,run_store P w _ v .plain (j v mem_cons_self),s];simp[m]
  obtain⟨r,g⟩:=MM w (o:=o+i) v f;obtain⟨d,z,l,y⟩:=sf b o t e c (i+1) _ _ g (by simpa using h) (by simp;omega) λu q=>j u (mem_cons_of_mem _ q);refine⟨d,?_,r.trans l,?_⟩
  all_goals grind[run_bind,andThen_ok,Ku,storeCells]
theorem bp.scalars(h:bp β c d)(f:c.all dO=true):∀v∈d,v.oneCell'=true:=λv e=>by
 obtain⟨i,b,rfl⟩:=List.mem_iff_getElem.1 e;have a:i<c.length:=h.1▸b;exact((h.2 i _ _ (gE a) (gE b)).MG (all_eq_true.1 f _ (List.getElem_mem a))).1
theorem ga.la{cs:List Value}{s:Nat}(h:ga β cs s V)(f:bp β c d)(m:i+c.length<=cs.length)(l:s+i+c.length<=V.size):
  ga β (cs.take i++c++cs.drop (i+c.length)) s (Ab.la V (s+i) d):=by
 have k:d.length=c.length:=f.1.symm;intro j v a;have g:∀j,(Ab.la V (s+i) d)[s+j]?=if j<i then V[s+j]? else if j<i+c.length then d[j-i]? else V[s+j]?:=by
  intro j;simp only[Ab.la,List.getElem?_toArray];by_cases b:j<i
  ·grind
  ·rw[if_neg b];by_cases e:j<i+c.length
   ·rw[if_pos e,getElem?_append_left (by simp;omega),getElem?_append_right (by simp;omega)]
    grind
   ·rw[if_neg e,getElem?_append_right (by simp;omega),getElem?_drop,getElem?_toList]
    grind
 rw[g];by_cases b:j<i
 ·rw[if_pos b];rw[List.append_assoc,getElem?_append_left (by grind),getElem?_take,if_pos b]at a;exact h j v a
 ·rw[if_neg b];by_cases e:j<i+c.length
  ·rw[if_pos e];rw[getElem?_append_left (by grind),getElem?_append_right (by grind)]at a;have:j-(cs.take i).length=j-i:=by simp;omega
   rw[this]at a;exact f.get a
  ·rw[if_neg e];rw[getElem?_append_right (by grind),getElem?_drop]at a;have:i+c.length+(j-(cs.take i++c).length)=j:=by simp;omega
   rw[this]at a;exact h j v a
theorem uM(o:ko β h W){k i:Nat}{c:Slot}{d f:List Value}{u:dM}(b:storeAt h k i d=some u)(n:β k=some c)(e:bp β d f):
  ∃m,(storeCells ⟨c.b,c.s+i,none⟩ f).run P W = .ok () m/\Step β h W β (u.app h) m:=by
 unfold storeAt at b;split at b
 ·next cs t H q=>
  split at b
  ·next G=>
   obtain⟨A,z⟩:=G;obtain rfl:=oI b;obtain⟨s,y,x,g,p,v,r,a,j⟩:=o.blk k _ c q n;by_cases w:d=[]
   ·subst w;have:=e.fw;subst this;refine⟨W,rfl,Step.at_ o q n rfl (At.refl W _) ?_⟩;simp only[List.append_nil,List.length_nil,Nat.add_zero,List.take_append_drop];exact⟨s,y,x,g,p,v,r,a,j⟩
   ·have D:0<d.length:=List.length_pos_iff.2 w;have l:c.s+i+d.length<=g.size:=by
     obtain⟨I,C,_⟩:=a (i+d.length-1) _ (gE (by omega));have:=(Array.getElem?_eq_some_iff.1 C).1;omega
    obtain⟨m,F,E,B⟩:=sf (P:=P) c.b (c.s+i) t p f 0 g W v (j rfl) (by rw[<-e.1];omega) (e.scalars z);refine⟨m,F,Step.at_ o q n rfl E ⟨s,y,x,_,p,B,?_,a.la e A l,λ_=>?_⟩⟩
    ·rw[tT (by rw[<-e.1];omega)];exact r
    ·rw[tT (by rw[<-e.1];omega)];exact j rfl
  ·cases b
 grind
end
section
variable {β:dH} {P:Program}
theorem HK{i:TypeInfo}(h:eS P T=some i):P.info? T=some i/\0<i.size/\∃z,i.zero=some z/\z.cells.size=i.size/\zeroOf P T=some z:=by
 unfold eS at h;split at h
 ·next f z b c=>
  split at h
  ·next e=>
   obtain rfl:=oI h;obtain⟨_,j,d,a⟩:=fD c;rw[b]at d;obtain rfl:=oI d;exact⟨b,e.2,z,a,e.1,c⟩
  ·cases h
 grind
theorem sh(O:ko β h W){d:Nat}{x H:Value}{v:List Value}{m:Nat}(e:fQ h d x=some (v,m))(w:aD β x H):
  (∀W,(Builtin.lenOf H).run P W = .ok m W)/\∀j,j<=m->∃l,(∀g,(∀b,b<W.heap.size->g.heap[b]?=W.heap[b]?)->(Builtin.firstCells d j H).run P g = .ok l.toArray g)/\bp β (v.take (j*d)) l:=by
 unfold fQ at e;split at e
 ·simp only[Option.some.injEq,Prod.mk.injEq]at e;obtain⟨rfl,rfl⟩:=e;obtain⟨_,_,rfl⟩:=w.gj;refine⟨λW=>rfl,λj A=>⟨[],λg _=>by simp[Builtin.firstCells],by simp;exact .nil β⟩⟩
 ·simp only[Option.some.injEq,Prod.mk.injEq]at e;obtain⟨rfl,rfl⟩:=e
  cases w
  refine⟨λW=>rfl,λj A=>⟨[],λg _=>?_,by simp;exact .nil β⟩⟩;obtain rfl:j=0:=by omega
  simp[Builtin.firstCells,loadCells,loadCellsFrom]
 ·next k i n c=>
  split at e
  ·next cs t x2 wr hk=>
   split at e
   ·next Z=>
    simp only[Option.some.injEq,Prod.mk.injEq]at e;obtain⟨rfl,rfl⟩:=e;obtain⟨a,i',c',I,hm,_,rfl,x0,x4,x1,R,x3⟩:=w.gO;obtain⟨_,_,_,E,fr,z,hn,f,_⟩:=O.row hk I;refine⟨λW=>rfl,λj A=>?_⟩;by_cases L:j=0
    ·subst L;exact⟨[],λg _=>by simp[Builtin.firstCells,loadCells,loadCellsFrom],by simp;exact .nil β⟩
    ·have T:i'=a.s+i:=by rcases R with r|⟨r,y⟩;exact r;exact absurd r (by omega)
     subst T;have N:j*d<=n*d:=Nat.mul_le_mul_right _ A;have p:((cs.drop i).take (j*d)).length=j*d:=by
      simp only[List.length_take,List.length_drop]at Z⊢;omega
     have B:=(O.lt k a I).2;have J:=uG (P:=P) z f i (j*d) p;obtain⟨l,hr,o⟩:=J;refine⟨l,λg C=>?_,?_⟩
     ·obtain⟨l2,x5,X⟩:=uG (P:=P) (w:=g) (by rw[C _ B];exact z) f i (j*d) p;have:(loadCells ⟨a.b,a.s+i,none⟩ (j*d)).run P g = .ok l.toArray g:=by
       have Y:∀q,q<j*d->W.cell? ((⟨a.b,a.s+i,none⟩:Addr).add q)=some (l.getD q undef):=by
        intro q u;have F:l.length=j*d:=by rw[<-o.1,p]
        have S:q<((cs.drop i).take (j*d)).length:=by omega
        have V:=gE S;rw[getElem?_take,if_pos u,getElem?_drop]at V;obtain⟨v',r,_⟩:=f _ _ V;have y:=run_loadCells (P:=P) W ⟨a.b,a.s+i,none⟩ (j*d) (λq=>E.getD (a.s+(i+q)) undef) (by
         intro G U;have K:G<((cs.drop i).take (j*d)).length:=by omega
         have D:=gE K;rw[getElem?_take,if_pos U,getElem?_drop]at D;obtain⟨v2,M,_⟩:=f _ _ D;rw[dy,nZ z,show a.s+i+G=a.s+(i+G) by omega,M];simp[Array.getD_eq_getD_getElem?,M])
        rw[hr]at y;simp only[Result.ok.injEq,and_true]at y;have h4:l=(List.range (j*d)).map λq=>E.getD (a.s+(i+q)) undef:=by simpa using congrArg Array.toList y
        rw[dy,nZ z,show a.s+i+q=a.s+(i+q) by omega,r,h4];simp[List.getD,u,Array.getD_eq_getD_getElem?,r]
       have F:l.length=j*d:=by rw[<-o.1,p]
       have e2:=run_loadCells (P:=P) g ⟨a.b,a.s+i,none⟩ (j*d) (λq=>l.getD q undef) (by
        intro q u;have:g.cell? ((⟨a.b,a.s+i,none⟩:Addr).add q)=W.cell? ((⟨a.b,a.s+i,none⟩:Addr).add q):=by
         rw[dy];simp[World.cell?,C _ B]
        rw[this];exact Y q u)
       rw[e2];congr 2;apply List.ext_getElem?;intro q;by_cases u:q<j*d
       ·simp[u,List.getD,gE (show q<l.length by omega)]
       ·rw[getElem?_eq_none (by simp;omega),getElem?_eq_none (by omega)]
      exact this
     ·rw[List.take_take,Nat.min_eq_left N];exact o
   ·cases e
  ·cases e
 ·next s=>
  split at e
  ·next Q=>
   subst Q;simp only[Option.some.injEq,Prod.mk.injEq]at e;obtain⟨rfl,rfl⟩:=e
   cases w.fM
   refine⟨λW=>by simp[Builtin.lenOf],λj A=>⟨(s.data.toList.map λb=>Value.int .u8 b.toNat).take j,λg _=>?_,?_⟩⟩
   ·simp only[Builtin.firstCells,Sem.run_pure];congr 1;apply Array.ext';simp[ByteArray.data_extract,Array.toList_extract]
   ·rw[Nat.mul_one,<-List.map_take];exact bp.map _ λb _=> .int _ _
  ·cases e
 grind
theorem tY(h:dW P T=true):P.underlying T=some .string\/ ∃e,P.underlying T=some (.slice e):=by grind[dW]
theorem m6{t p e:TypeId}{i:TypeInfo}(u:P.underlying t=some (.slice e))(z:P.info? e=some i)(f:dW P T=true){base:Option Addr}{n c m:Nat}{b:Value}{d:List Value}{w g:World}
  (l:∀w,(Builtin.lenOf b).run P w = .ok m w) (k:(Builtin.firstCells i.size m b).run P w = .ok d.toArray w) (v:n+m<=c)
  (x:(match base with|some a=>storeCells (a.add (n*i.size)) d|none=>pure ():Sem Unit).run P w = .ok () g):
  (Builtin.append_ #[t,T] p #[.slice base n c,b]).run P w = .ok (.slice base (n+m) c) g:=by
 have s:(#[t,T]:Array TypeId)[0]?=some t:=rfl;have q:(#[t,T]:Array TypeId)[1]?=some T:=rfl;have r:(#[Value.slice base n c,b]:Array Value)[0]?=some (.slice base n c):=rfl;have o:(#[Value.slice base n c,b]:Array Value)[1]?=some b:=rfl;have j:∀w,(sizeOf e).run P w = .ok i.size w:=ey (by grind[aE]);rcases tY f with h|⟨y,h⟩
 all_goals
  simp only[Builtin.append_,s,q,r,o,run_bind,aQ u,andThen_ok,j,aQ h,Sem.run_pure,false_eq_true,if_false,l,run_ite];rw[if_pos v];simp only[Bool.not_false,if_true,k,andThen_ok]
  cases base with
  |none=>simp_all
  |some a=>simp_all
theorem po{t ty e:TypeId}{i:TypeInfo}{z:Value}(y:P.underlying t=some (.slice e))(s:P.info? e=some i)(E:i.zero=some z)(f:dW P T=true){base:Option Addr}{n c m:Nat}{a:Value}
  {olds b:List Value} {w:World} (o:∀w,(Builtin.lenOf a).run P w = .ok m w) (u:(Builtin.firstCells i.size n (.slice base n c)).run P w.drew = .ok olds.toArray w.drew)
  (l:(Builtin.firstCells i.size m a).run P w.drew = .ok b.toArray w.drew) (A:c<n+m) (B:(n+m)*i.bytes<=70368744177664) (D:n+m<=1099511627776):
  (Builtin.append_ #[t,T] ty #[.slice base n c,a]).run P w = .ok (.slice (some ⟨w.heap.size,0,none⟩) (n+m) (grownCap w (n+m) c e))
   (w.drew.alloc (.cells (olds++b++(Builtin.zeroCells z.cells (grownCap w (n+m) c e-(n+m))).toList).toArray e)):=by
 have v:(#[t,T]:Array TypeId)[0]?=some t:=rfl;have q:(#[t,T]:Array TypeId)[1]?=some T:=rfl;have r:(#[Value.slice base n c,a]:Array Value)[0]?=some (.slice base n c):=rfl;have p:(#[Value.slice base n c,a]:Array Value)[1]?=some a:=rfl;have j:∀w,(sizeOf e).run P w = .ok i.size w:=ey (by grind[aE]);have g:∀w,(zeroValue e).run P w = .ok z w:=λw=>by simp_all[tO,zeroValue]
 have k:=growslice_fits (need:=n+m) (old:=c) (bytes:=i.bytes) A (by omega);have d:(Question.appendCap (n+m) c e).forced=false:=rfl;have x:IntKind.i64.max=9223372036854775807:=by decide
 rcases tY f with h|⟨C,h⟩
 all_goals
  simp only[Builtin.append_,v,q,r,p,run_bind,aQ y,andThen_ok,j,aQ h,Sem.run_pure,false_eq_true,if_false,o,run_ite,tO s,false_or,Bool.not_false,if_true];rw[if_neg (by omega),if_neg (by omega),if_neg (by omega)];simp only[run_choose,d,false_eq_true,if_false,andThen_ok,run_askRoom,World.drew_eq,u,l,g,jF];congr 2
  simp_all[grownCap]
theorem Oa(c:ko β h W)(k:Nat):ko β (h.del k) W:=
 ⟨λf l q=>c.lt f l q,λf B l a b=>by
  rw[h.dR]at a;split at a
  ·grind
  ·exact c.blk f B l a b,λj m g i e d n a b o p r=>by
  rw[h.dR]at a b;split at a
  ·grind
  ·split at b
   ·grind
   ·exact c.own j m g i e d n a b o p r,ae.H0 c.wf k⟩
theorem Vp(f:ko β h W)(k:Nat):Step β h W β (h.del k) W:=
 ⟨β.le_refl,Nat.le_refl _,Oa f k,Nat.le_refl _,rfl,.refl _,rfl,λ_ _ _=>rfl,λb j ⟨c,B,g,a,d,e,i⟩=>⟨c,B,g,by
  rw[h.dR]at a;grind,d,e,i⟩,λ_ _ h=> .inl h,λc B a d=>⟨B,by
  rw[h.dR]at a;grind⟩⟩
theorem Ra{I:World}(s:ko β h W){k:Nat}{i B:dS}{o sl':Slot}(F:h.get k=some i)(z:β k=some o)(E:i.wr=true)(v:At W I o.b)(t:sl'.b=o.b)
  (N:A3 (β.ext h.next sl') B sl' I):Step β h W (β.ext h.next sl') ((h.del k).push B) I:=by
 have P:=(s.lt k o z).1;have D:=s.mI (Nat.le_refl h.next);have H:β.le (β.ext h.next sl'):=dH.CW sl' D;have j:∀d,d≠h.next->∀g,((h.del k).push B).get d=some g->d≠k/\h.get d=some g:=by
  intro d a g G;rw[(h.del k).jt d B a,h.dR]at G;split at G
  ·cases G
  ·next m=>exact⟨m,G⟩
 have K:((h.del k).push B).get h.next=some B:=(h.del k).fA B;have w:∀d g e,d≠k->h.get d=some g->β d=some e->e.b≠o.b:=λd g e a c f=>(s.own k d i g o e (Ne.symm a) F c z f E).symm;refine⟨H,by simp,⟨?_,?_,?_,ae.ow (h:=h.del k) (ae.H0 s.wf k) B⟩,by rw[v.size];exact Nat.le_refl _,v.os,v.tape,v.output,?_,?_,?_,?_⟩
 ·intro d e c;rw[v.size];by_cases a:d=h.next
  ·subst a;rw[β.cE]at c;obtain rfl:=oI c;exact⟨by simp,by rw[t];exact(s.lt k o z).2⟩
  ·rw[β.eN sl' a]at c;have:=s.lt d e c;exact⟨by simp;omega,this.2⟩
 ·intro d g e c f;by_cases a:d=h.next
  ·subst a;rw[β.cE]at f;obtain rfl:=oI f;rw[K]at c;obtain rfl:=oI c;exact N
  ·rw[β.eN sl' a]at f;obtain⟨m,c⟩:=j d a g c;exact((s.blk d g e c f).mono H).of_heap (v.kept _ (w d g e m c f))
 ·intro q l u p y x a c f n r O;by_cases C:q=h.next
  ·subst C;rw[β.cE]at n;obtain rfl:=oI n;rw[β.eN _ (Ne.symm a)]at r;obtain⟨m,f⟩:=j l (Ne.symm a) p f;rw[t];exact(w l p x m f r).symm
  ·rw[β.eN _ C]at n;obtain⟨J,c⟩:=j q C u c;by_cases A:l=h.next
   ·subst A;rw[β.cE]at r;obtain rfl:=oI r;rw[t];exact w q u y J c n
   ·rw[β.eN _ A]at r;obtain⟨_,f⟩:=j l A p f;exact s.own q l u p y x a c f n r O
 ·intro b L M;refine v.kept b ?_;rintro rfl;exact M ⟨k,i,o,F,E,z,rfl⟩
 ·rintro b L ⟨d,g,e,c,f,n,r⟩;by_cases a:d=h.next
  ·subst a;rw[β.cE]at n;obtain rfl:=oI n;exact⟨k,i,o,F,E,z,by rw[<-r,t]⟩
  ·rw[β.eN _ a]at n;obtain⟨_,c⟩:=j d a g c;exact⟨d,g,e,c,f,n,r⟩
 ·intro d e c;by_cases a:d=h.next
  ·subst a;rw[β.cE]at c;obtain rfl:=oI c;exact .inr ⟨Nat.le_refl _,.inr ⟨k,i,o,F,E,z,t.symm⟩⟩
  ·rw[β.eN _ a]at c;exact .inl c
 grind
theorem MO(z:Array Value)(n:Nat):(Builtin.zeroCells z n).size=n*z.size:=by simp[Builtin.zeroCells]
theorem ri{w:World}{e:TypeId}{need cap:Nat}{z:Array Value}(a:bp β c d)(l:c.length=need*n)(q:z.size=n)(u:need<=cap):
  qR β w (.cells c e n true) (λk=> .slice (some ⟨k,0,none⟩) need (dn+need)) (.slice (some ⟨w.heap.size,0,none⟩) need cap) (w.drew.alloc (.cells (d++(Builtin.zeroCells z (cap-need)).toList).toArray e)) where
 size:=by simp
 os:=rfl
 tape:=⟨rfl,Nat.le_succ _⟩
 output:=rfl
 kept:=λb j=>mW (w:=w.drew) _ j
 new:=by
  have f:(d++(Builtin.zeroCells z (cap-need)).toList).toArray.size=cap*n:=by
   simp only[List.size_toArray,List.length_append,length_toList,MO,q,<-a.1,l,<-Nat.add_mul];congr 1;omega
  refine⟨⟨w.heap.size,0,cap*n,e,n,false⟩,rfl,λs k g p=>⟨⟨rfl,rfl,⟨rfl,λ_=>rfl⟩,_,(0,0),kD (w:=w.drew) _,f,?_,λ_=>Ft _⟩,?_⟩⟩
  ·intro i v o;obtain⟨r,t,m⟩:=a.get o;refine⟨r,?_,m.mono g⟩
   grind
  ·exact uK (w:=w) p rfl rfl rfl (λh=>absurd h (by omega)) (λ_=>by omega) (by simp[im]) (.inr (Nat.le_refl _))
end
section
variable {β:dH} {P:Program}
theorem ED(h:bp β (c.take n) d)(a:c.length=n):bp β c d:=by grind
theorem rI(w:World)(a b:Nat)(e:TypeId):a<=grownCap w a b e:=by simp[grownCap,Question.cut]
theorem PY(m:ko β h W){k j n c:Nat}{cs:List Value}{e:TypeId}{a:Nat}{p:Bool}{g:Value}(r:h.get k=some (.cells cs e a p))(l:((cs.drop j).take (n*a)).length=n*a)
  (i:aD β (.slice (some ⟨k,j,none⟩) n c) g):∃f,(∀d,(∀b,b<W.heap.size->d.heap[b]?=W.heap[b]?)->(Builtin.firstCells a n g).run P d = .ok f.toArray d)/\bp β ((cs.drop j).take (n*a)) f:=by
 have o:fQ h a (.slice (some ⟨k,j,none⟩) n c)=some ((cs.drop j).take (n*a),n):=by
  simp only[fQ,r];rw[if_pos l]
 obtain⟨_,q⟩:=sh (P:=P) m o i;obtain⟨f,s,t⟩:=q n (Nat.le_refl _)
 grind
set_option maxHeartbeats 1000000 in
theorem Ll{h:ae}{w:World}(r:ko β h w){t t' ty:TypeId}{s x s' x' v:Value}{u:dM}(a:bI P t t' s x h=some (v,u))(T:aD β s s')(z3:aD β x x'):
  ∃v' V p,(Builtin.append_ #[t,t'] ty #[s',x']).run P w = .ok v' V/\Step β h w p (u.app h) V/\aD p v v':=by
 unfold bI at a;split at a
 ·next e O=>
  split at a
  ·next i z6=>
   obtain⟨M,u1,z,hz,x0,u5⟩:=HK z6;split at a
   ·next y=>
    split at a
    ·next X m y7=>
     obtain⟨f,x1⟩:=sh (P:=P) r y7 z3;obtain⟨l,y2,d⟩:=x1 m (Nat.le_refl _);split at a
     ·next z8=>
      obtain⟨u0,Q⟩:=z8;have d:=ED d Q;have K:l.length=m*i.size:=by rw[<-d.1,Q]
      have E:=y2 w λ_ _=>rfl;have N:=y2 w.drew λ_ _=>rfl;split at a
      ·obtain⟨_,_,rfl⟩:=T.gj;split at a
       ·next F=>
        simp only[Option.some.injEq,Prod.mk.injEq]at a;obtain⟨rfl,rfl⟩:=a;subst F;refine⟨_,w,β,m6 O M y f E (Nat.le_refl _) (by simp),Step.refl r,.lU⟩
       ·next F=>
        split at a
        ·next U=>
         simp only[Option.some.injEq,Prod.mk.injEq]at a;obtain⟨rfl,rfl⟩:=a;have o:=po (ty:=ty) (n:=0) (c:=0) (base:=none) (olds:=[]) O M hz y f (by simp[Builtin.firstCells]) N (by omega) (by simpa using U.1) (by omega);have B:=ri (β:=β) (w:=w) (e:=e) (need:=m) (cap:=grownCap w (0+m) 0 e) (z:=z.cells) d Q x0 (by have:=rI w (0+m) 0 e;omega);simp only[Nat.zero_add,List.nil_append]at o B;obtain⟨p,A,H⟩:=B.step r;exact⟨_,_,p,o,A,H⟩
        ·cases a
      ·next k j n c=>
       obtain⟨b,i',I,U,z4,_,rfl,Y,y4,u6,y1,y3⟩:=T.gO;have u3:bH c<=I:=by
        unfold bH;split
        ·next hc=>exact y4 hc
        ·next hc=>rw[Y (by omega)];exact Nat.le_refl _
       split at a
       ·next F=>
        simp only[Option.some.injEq,Prod.mk.injEq]at a;obtain⟨rfl,rfl⟩:=a;subst F;have:l=[]:=List.eq_nil_of_length_eq_zero (by simpa using K);subst this;exact⟨_,w,β,m6 O M y f E (by omega) (by simp[storeCells]),Step.refl r,T⟩
       ·next F=>
        split at a
        ·next D=>
         obtain⟨u',A,he⟩:=map_eq_some_iff.1 a;simp only[Prod.mk.injEq]at he;obtain⟨rfl,rfl⟩:=he;have x4:i'=b.s+j:=by rcases y1 with g|⟨g,L⟩;exact g;exact absurd L (by omega)
         subst x4;obtain⟨V,hr,x7⟩:=uM (P:=P) r A U d;refine⟨_,V,β,m6 O M y f E (by omega) ?_,x7,.slice U z4 Y y4 D (.inl rfl) y3⟩;dsimp only;rw[dy,Nat.add_assoc];exact hr
        ·next D=>
         unfold kY at a;split at a
         ·next R=>
          split at a
          ·next cs C u8 wr hk=>
           split at a
           ·next x6=>
            obtain⟨rfl,rfl,G⟩:=x6;obtain⟨x5,z5,x8⟩:=PY (P:=P) r hk G T;have x2:=z5 w.drew λ_ _=>rfl;have x3:bp β ((cs.drop j).take (n*i.size)++X) (x5++l):=x8.append d;have J:((cs.drop j).take (n*i.size)++X).length=(n+m)*i.size:=by rw[List.length_append,G,Q,Nat.add_mul]
            split at a
            ·next W=>
             simp only[Option.some.injEq,Prod.mk.injEq]at a;obtain⟨rfl,rfl⟩:=a;have z7:I=c:=Y W;subst z7;rw[Cu W]at D;have o:=po (ty:=ty) O M hz y f x2 N (by omega) R.1 R.2;have B:=ri (β:=β) (w:=w) (e:=C) (z:=z.cells) x3 J x0 (rI w (n+m) I C);obtain⟨p,A,H⟩:=B.step r;exact⟨_,_,p,o,A,H⟩
            ·next W=>
             split at a
             ·next z2=>
              obtain⟨rfl,u7⟩:=z2;simp only[Option.some.injEq,Prod.mk.injEq]at a;obtain⟨rfl,rfl⟩:=a;by_cases x9:n+m<=I
              ·have x4:i'=b.s+j:=by rcases y1 with g|⟨g,L⟩;exact g;exact absurd L (by omega)
               subst x4;obtain⟨_,u2,y8,S,fr,hw,hn,z0,y6⟩:=r.row hk U;have y9:b.s+j+I*i.size<=b.n:=by
                rcases y3 with g|g
                ·omega
                ·rw[y8]at g;exact g
               have z1:(n+m)*i.size<=I*i.size:=Nat.mul_le_mul_right _ x9;rw[Nat.add_mul]at z1;obtain⟨V,hr,ha,hh⟩:=sf (P:=P) b.b (b.s+j+n*i.size) C fr l 0 S w hw (y6 rfl) (by rw[K,hn];omega) (d.scalars u0);have Z:(Ab.la S (b.s+j+n*i.size+0) l).size=S.size:=tT (by rw[K,hn];omega);refine⟨_,V,β.ext h.next ⟨b.b,b.s+j,b.n,C,i.size,false⟩,m6 O M y f E x9 ?_,Ra (sl':=⟨b.b,b.s+j,b.n,C,i.size,false⟩) r hk U rfl ha rfl ?_,?_⟩
               ·dsimp only;rw[dy];exact hr
               ·have y5:β.le (β.ext h.next ⟨b.b,b.s+j,b.n,C,i.size,false⟩):=dH.CW _ (r.mI (Nat.le_refl _));refine⟨rfl,rfl,⟨rfl,λh0=>absurd h0 (by omega)⟩,_,fr,hh,by rw[Z];exact hn,?_,λ_=>by rw[Z];exact y6 rfl⟩;intro q u hq;simp only[Ab.la,Nat.add_zero,List.getElem?_toArray];by_cases y0:q<n*i.size
                ·rw[getElem?_append_left (by rw[G];exact y0),getElem?_take,if_pos y0,getElem?_drop]at hq;obtain⟨u',g,L⟩:=z0 _ _ hq;refine⟨u',?_,L.mono y5⟩;have u4:=(Array.getElem?_eq_some_iff.1 g).1;rw[List.append_assoc,getElem?_append_left (by simp;omega),getElem?_take,if_pos (by omega),getElem?_toList,Nat.add_assoc];exact g
                ·have z9:=(List.getElem?_eq_some_iff.1 hq).1;rw[J,Nat.add_mul]at z9;rw[getElem?_append_right (by rw[G];omega),G]at hq;obtain⟨u',g,L⟩:=d.get hq;refine⟨u',?_,L.mono y5⟩;rw[getElem?_append_left (by simp;omega),getElem?_append_right (by simp;omega)];have:b.s+j+q-(S.toList.take (b.s+j+n*i.size)).length=q-n*i.size:=by simp;omega
                 rw[this];exact g
               ·exact .slice (sl:=⟨b.b,b.s+j,b.n,C,i.size,false⟩) (β.cE _ _) rfl (λh=>absurd h (by omega)) (λ_=>by omega) (by rw[im];exact Nat.le_refl _) (.inl rfl) (.inr y9)
              ·have o:=po (ty:=ty) O M hz y f x2 N (by omega) R.1 R.2;have B:=ri (β:=β) (w:=w) (e:=C) (z:=z.cells) x3 J x0 (rI w (n+m) I C);obtain⟨p,A,H⟩:=B.step (Oa r k);exact⟨_,_,p,o,(Vp r k).trans A,H⟩
             ·cases a
           ·cases a
          ·cases a
         ·cases a
      ·cases a
     ·cases a
    ·cases a
   ·cases a
  ·cases a
 grind
end
section
variable {β:dH} {P:Program}
theorem SO(E:ko β h W){t:TypeId}{ts:List TypeId}{ty:TypeId}{d s i p v:Value}{u:dM}(b:copyV P t d s h=some (v,u))(G:aD β d i)(S:aD β s p):
  ∃Q w A,(Builtin.copy_ (t::ts).toArray ty #[i,p]).run P W = .ok Q w/\Step β h W A (u.app h) w/\aD A v Q:=by
 unfold copyV at b;split at b
 ·next e R=>
  split at b
  ·next sz a n c C=>
   split at b
   ·next cs m D=>
    obtain⟨o,r⟩:=sh (P:=P) E D S;have N:(t::ts).toArray[0]?=some t:=rfl;have l:(#[i,p]:Array Value)[0]?=some i:=rfl;have F:(#[i,p]:Array Value)[1]?=some p:=rfl;obtain⟨K,H,f⟩:=r (min m n) (Nat.min_le_left _ _);have g:=H W λ_ _=>rfl;have q:Nat.min m n=min m n:=rfl;have I:∃y x,i = .slice y n x:=by
     cases a with
     |none=>obtain⟨rfl,rfl,rfl⟩:=G.gj;exact⟨_,_,rfl⟩
     |some a=>obtain⟨y,x,rfl⟩:=G.Jr;exact⟨_,_,rfl⟩
    split at b
    ·next V=>
     simp only[Option.some.injEq,Prod.mk.injEq]at b;obtain⟨rfl,rfl⟩:=b;have B:min m n=0:=by omega
     rw[B]at g f;have:K=[]:=by simpa using f.1.symm
     subst this;obtain⟨y,x,rfl⟩:=I;refine⟨.int .i64 0,W,β,?_,Step.refl E,.int _ _⟩;simp only[Builtin.copy_,N,l,F,run_bind,aQ R,andThen_ok,o,ey C,q,B,g,goInt]
     cases y<;>simp[storeCells]
    ·next V=>
     split at b
     ·next k j=>
      obtain⟨u',J,L⟩:=map_eq_some_iff.1 b;simp only[Prod.mk.injEq]at L;obtain⟨rfl,rfl⟩:=L;obtain⟨U,X,x,T,Z,_,rfl,x0,x3,x1,M,x2⟩:=G.gO;have O:X=U.s+j:=by rcases M with l|⟨l,F⟩;exact l;exact absurd l (by omega)
      subst O;obtain⟨w,Y,z⟩:=uM (P:=P) E J T f;refine⟨.int .i64 (min m n:Nat),w,β,?_,z,.int _ _⟩;simp only[Builtin.copy_,N,l,F,run_bind,aQ R,andThen_ok,o,ey C,q,g,Sem.run_pure,goInt,Y]
     ·cases b
   ·cases b
  ·cases b
 grind
theorem H7(z:Array Value):∀n,(Builtin.zeroCells z n).toList=df z.toList n:=by
 intro n;rcases Nat.eq_zero_or_pos z.size with h|h
 all_goals grind[jH,List.eq_nil_of_length_eq_zero,wM,Builtin.zeroCells]
theorem O5(p:ko β h W){t:TypeId}{ty:TypeId}{x r v:Value}{u:dM}(a:zt P t x h=some (v,u))(G:aD β x r):
  ∃D d g,(Builtin.clear_ #[t] ty #[r]).run P W = .ok D d/\Step β h W g (u.app h) d/\aD g v D:=by
 unfold zt at a;split at a
 ·next e k j n c E=>
  split at a
  ·next z B=>
   obtain⟨i,l,o,F,I,_,rfl,J,M,K,y,L⟩:=G.gO;have A:(#[t]:Array TypeId)[0]?=some t:=rfl;have b:(#[Value.slice (some ⟨i.b,l,none⟩) n o]:Array Value)[0]?=some (.slice (some ⟨i.b,l,none⟩) n o):=rfl;split at a
   ·next m=>
    subst m;simp only[Option.some.injEq,Prod.mk.injEq]at a;obtain⟨rfl,rfl⟩:=a;refine⟨undef,W,β,?_,Step.refl p,.undef β⟩;simp only[Builtin.clear_,A,b,run_bind,aQ E,andThen_ok];rfl
   ·next m=>
    obtain⟨O,q,w⟩:=map_eq_some_iff.1 a;simp only[Prod.mk.injEq]at w;obtain⟨rfl,rfl⟩:=w;have C:l=i.s+j:=by rcases y with b|⟨b,N⟩;exact b;exact absurd b (by omega)
    subst C;obtain⟨d,H,f⟩:=uM (P:=P) p q F (qa (bp.r9 (fD B).1) n);refine⟨undef,d,β,?_,f,.undef β⟩;obtain⟨s,rfl⟩:∃s,n=s+1:=⟨n-1,by omega⟩
    simp only[Builtin.clear_,A,b,run_bind,aQ E,andThen_ok,pv B,H7,H];rfl
  ·cases a
 grind
theorem vy(i:ko β h W){t u J:TypeId}{r:Nat}{s m:List (Value×Value)}{k E x l:Value}(V:P.underlying t=some (.map u J))(w:tq P u k=true)
  (A:h.get r=some (.map s)) (z:rL P u k x s=some m) (G:aD β (.map (some r)) E) (H:aD β x l):
  ∃B,(Instr.mapUpdate t E k l).run P W = .ok () B/\Step β h W β (h.set r (.map m)) B:=by
 obtain⟨c,g,f,rfl⟩:=G.G6;obtain⟨_,b,a,I,y⟩:=i.blk _ _ _ A g;have N:c.b<W.heap.size:=(i.lt _ _ g).2;have Y:(getObj c.b).run P W = .ok (.map b a) W:=by simp[getObj,Sem.run,I]
 have L:∀o,(setObj c.b o).run P W = .ok () { W with heap:=W.heap.setIfInBounds c.b o }:=λo=>by grind[setObj,Sem.run]
 have n:∀o,At W { W with heap:=W.heap.setIfInBounds c.b o } c.b/\({ W with heap:=W.heap.setIfInBounds c.b o }:World).heap[c.b]?=some o:=λo=>
  ⟨⟨by simp,rfl,⟨rfl,Nat.le_refl _⟩,rfl,λX O=>by grind⟩,by grind⟩
 have Q:=AL w false W;have F:=BG w;obtain⟨T,S,R,M,d⟩:=CF w W b.toList;rcases AK M F H s b.toList y z 0 a with⟨j,e,q,D,U,K⟩|⟨q,D⟩
 ·have C:=d _ q;obtain⟨v,p⟩:=n (.map (b.modify j λe=>{ e with key:=k,val:=l }) a);refine⟨_,?_,Step.at_ i A g rfl v ⟨f,_,a,p,by simpa using K⟩⟩
  simp_all[EN,aQ,Instr.mapUpdate,Instr.keyThatStays]
 ·have C:=d _ q;obtain⟨v,p⟩:=n (.map (b.push { key:=k,val:=l,born:=a }) (a+1));refine⟨_,?_,Step.at_ i A g rfl v ⟨f,_,a+1,p,by simpa using D⟩⟩
  simp_all[aQ,Instr.mapUpdate]
end
section
variable {β:dH} {P:Program}
theorem CZ{s:Nat}(g:P.cellsOf T=s)(e:0<s)(a b n:Nat)(f:b%s=0)(d:b/s+n<=a):liesAt P P.depth T a b T n=true:=by
 have c:P.depth=(2*(P.types.size+Made.depth)+1)+1:=rfl;rw[c];simp only[liesAt,Bool.or_eq_true]
 grind[rowAt,sameLayout]
theorem Cv(h:aE P T=some n):P.cellsOf T=n:=by
 obtain⟨i,a,rfl⟩:=ot h
 grind[Program.cellsOf]
theorem At.freeze(w:World)(a:Addr)(n:Nat):At w (w.freeze a n) a.block:=
 ⟨AJ w a n,(tp w a n).1,(tp w a n).2.1,(tp w a n).2.2,λb d=>by
  by_cases c:n=0
  ·subst c;rfl
  ·rw[pL w a c,if_neg (Ne.symm d)]⟩
theorem qi:∀{l:List Value}{a:List UInt8},bytesOf l=some a->l=a.map λb=>Value.int .u8 b.toNat
 |[],a,h=>by grind[bytesOf]
 | v::l,a,h=>by
  unfold bytesOf at h;split at h
  ·next e=>cases e
  ·next n r e=>
   simp only[List.cons.injEq]at e;obtain⟨rfl,rfl⟩:=e;split at h
   ·next f=>
    obtain⟨d,c,rfl⟩:=map_eq_some_iff.1 h;rw[List.map_cons,<-qi c];congr 2;have:(UInt8.ofNat n.toNat).toNat=n.toNat:=by
     simp[UInt8.toNat_ofNat'];omega
    omega
   ·cases h
  grind
set_option maxHeartbeats 1000000 in
theorem Ak{h:ae}{w:World}(B:ko β h w){k i:Nat}{n:Int}{kk:IntKind}{f e:TypeId}{cs:List Value}{l:List UInt8}{y:Value}{ats:Array TypeId}{ty:TypeId}(F:h.get k=some (.cells cs e 1 true))(z:ats[0]?=some f)
  (N:P.underlying f=some (.pointer e)) (C:aE P e=some 1) (X:0<n) (V:n<9223372036854775807) (A:((cs.drop i).take n.toNat).length=n.toNat) (t:bytesOf ((cs.drop i).take n.toNat)=some l) (R:aD β (.pointer (some ⟨k,i,none⟩)) y):
  ∃v,(Builtin.unsafeString_ ats ty #[y,.int kk n]).run P w = .ok (strOf l) v/\Step β h w β (h.set k (.cells cs e 1 false)) v:=by
 obtain⟨a,m,Y,rfl⟩:=R.ux;obtain⟨E,U,O,c,L,q,H,b,W⟩:=B.blk _ _ _ F m;refine⟨w.freeze ⟨a.b,a.s+i,none⟩ n.toNat,?_,Step.at_ B F m rfl (At.freeze w _ _) ?_⟩
 ·have o:l.length=n.toNat:=by
   have:=congrArg List.length (qi t);rw[A]at this;simpa using this.symm
  have I:a.s+i+n.toNat<=c.size:=by
   have u:i+n.toNat-1<cs.length:=by simp only[List.length_take,List.length_drop]at A;omega
   obtain⟨T,p,_⟩:=b _ _ (gE u);have:=(Array.getElem?_eq_some_iff.1 p).1;omega
  have G:w.shape? a.b=some (e,c.size):=by simp[World.shape?,q]
  have J:=Cv C;have g:liesAt P P.depth e (c.size/P.cellsOf e) (a.s+i) e n.toNat=true:=CZ J (by omega) _ _ _ (by omega) (by grind);have K:(loadBytes ⟨a.b,a.s+i,none⟩ .empty n.toNat).run P w = .ok (⟨l.toArray⟩:ByteArray) w:=by
   rw[<-o];rw[Lib.run_loadBytes (P:=P) w l ⟨a.b,a.s+i,none⟩ .empty]
   ·simp
   ·intro j x S;have d:((cs.drop i).take n.toNat)[j]?=some (.int .u8 x.toNat):=by rw[qi t];simp[S]
    rw[getElem?_take,getElem?_drop]at d;split at d
    ·obtain⟨T,p,M⟩:=b _ _ d;rw[dy,nZ q,show a.s+i+j=a.s+(i+j) by omega,p,M.dX]
    grind
  have Q:IntKind.i64.max=9223372036854775807:=by decide
  have r:Builtin.unsafeString_ ats ty #[.pointer (some ⟨a.b,a.s+i,none⟩),.int kk n] =
    (do
     let n <-asInt (.int kk n)
     let some f:=ats[0]?|stuck "unsafe.String: no argument types"
     if n<0 then runtimePanic (.error "unsafe.String: len out of range")
     if n>IntKind.i64.max then unsupported (.unsafePointer "String: a length above the largest int")
     if n=0 then pure (.string .empty)
     else if <-variablesAt ⟨a.b,a.s+i,none⟩ (<-elemOf f) n.toNat then do
      let s <-loadBytes ⟨a.b,a.s+i,none⟩ .empty n.toNat
      freeze ⟨a.b,a.s+i,none⟩ n.toNat
      pure (.string s)
     else unsupported (.unsafePointer "String: not so many bytes at ptr")):=rfl
  rw[r];simp only[run_bind,asInt,asIntOf,Sem.run_pure,andThen_ok,z,run_ite];rw[if_neg (by omega),if_neg (by omega),if_neg (by omega)];simp only[elemOf,run_bind,aQ N,Sem.run_pure,andThen_ok,variablesAt,run_program,run_shape,G,g,if_true,K,run_freeze];rfl
 ·have D:(w.freeze ⟨a.b,a.s+i,none⟩ n.toNat).heap[a.b]?=some (frz ⟨a.b,a.s+i,none⟩ n.toNat (.cells c e L)):=by
   rw[pL w _ (by omega)];simp[q]
  exact⟨E,U,O,c,_,D,H,b,λh=>by cases h⟩
end
section
variable {β:dH} {P:Program}
def adv(r:Result Next)(b:Value)(a:World):Prop:=r = .ok (.value b) a\/(r = .ok .skip a/\b=undef)
def bN(o:Oper):Bool:=match o.op with
 |.call { callee:= .value _,.. }=>true
 |_=>false
theorem NK{c:Array Operand}{a b:Operand}(h:c.toList=[a,b]):c.map r = #[r a,r b]:=by
 apply Array.ext';simp[h]
set_option maxHeartbeats 2000000 in
theorem zL{ρ B:Operand->Value}(q:∀x,aD β (ρ x) (B x)){cf:dZ}{o:Oper}(z6:bN o=false){v:Value}{u:dM}{h:ae}{w:World}(I:ko β h w)(b:gp P cf ρ o h=some (v,u)):
  ∃v' G M,adv ((execOp B o).run P w) v' G/\Step β h w M (u.app h) G/\aD M v v':=by
 unfold gp at b;unfold execOp;split at b
 ·next t a x E=>
  simp only[E];have Q:=q a;have hx:=q x;split at b
  ·next k i y7=>
   rw[y7]at Q;obtain⟨D,V,F,U⟩:=Q.ux;split at b
   ·next N=>
    obtain⟨u',S,y3⟩:=map_eq_some_iff.1 b;simp only[Prod.mk.injEq]at y3;obtain⟨rfl,rfl⟩:=y3;have hj:ρ x≠Ab.hH:=by
     intro e;rw[e]at S;unfold storeAt at S;split at S
     ·split at S
      ·next K=>exact absurd K.2 (by simp[Value.cells,dO])
      ·cases S
     ·cases S
    have K:=hx.cells hj;obtain⟨G,L,g⟩:=uM (P:=P) I S V (jI.toList.1 K);refine⟨undef,G,β,.inr ⟨?_,rfl⟩,g,.undef β⟩;have z8:(storeVar t ⟨D.b,D.s+i,none⟩ (B x)).run P w = .ok () G:=by
     simp only[storeVar,run_bind,ey N,andThen_ok,run_ite];rw[if_neg (by simp[K.1])];exact L
    simp only[Instr.storeAt,run_bind,U,Instr.sureAddr,Sem.run_pure,andThen_ok,z8]
   ·cases b
  ·cases b
 ·next t m k x E=>
  simp only[E];have F:=q m;have W:=q k;split at b
  ·next kt et r hu x9=>
   rw[x9]at F;split at b
   ·next es L=>
    split at b
    ·next Z=>
     obtain⟨z1,x3,U⟩:=map_eq_some_iff.1 b;simp only[Prod.mk.injEq]at U;obtain⟨rfl,rfl⟩:=U;obtain⟨G,x1,g⟩:=vy (P:=P) I hu Z L x3 F (q x);exact⟨undef,G,β,.inr ⟨by rw[W.rN (BG Z)];simp[x1],rfl⟩,g,.undef β⟩
    ·cases b
   ·cases b
  ·cases b
 ·next t m k x E=>
  simp only[E];have F:=q m;have W:=q k;split at b
  ·next kt et r hu x9=>
   rw[x9]at F;split at b
   ·next es L=>
    split at b
    ·next Z=>
     obtain⟨z1,x3,U⟩:=map_eq_some_iff.1 b;simp only[Prod.mk.injEq]at U;obtain⟨rfl,rfl⟩:=U;obtain⟨G,x1,g⟩:=vy (P:=P) I hu Z L x3 F (q x);exact⟨undef,G,β,.inr ⟨by rw[W.rN (BG Z)];simp[x1],rfl⟩,g,.undef β⟩
    ·cases b
   ·cases b
  ·cases b
 ·next f p C E=>simp[bN,E]at z6
 ·next p C E=>
  simp only[E];split at b
  ·next s x t t' Q ht=>
   obtain⟨v',G,M,L,g,x0⟩:=Ll (P:=P) (ty:=o.type) I b (q s) (q x);refine⟨v',G,M,.inl ?_,g,x0⟩;have A:C = #[t,t']:=by apply Array.ext';simp[ht]
   simp only[resolve,run_bind,Sem.run_pure,andThen_ok,invoke,builtin,NK Q,A,L]
  ·cases b
 ·next p C E=>
  simp only[E];split at b
  ·next d s t ts Q ht=>
   obtain⟨v',G,M,L,g,x0⟩:=SO (P:=P) (ts:=ts) (ty:=o.type) I b (q d) (q s);refine⟨v',G,M,.inl ?_,g,x0⟩;have A:C=(t::ts).toArray:=by apply Array.ext';simp[ht]
   simp only[resolve,run_bind,Sem.run_pure,andThen_ok,invoke,builtin,NK Q,A,L]
  ·cases b
 ·next p C E=>
  simp only[E];have O:bp β (p.toList.map ρ) (p.toList.map B):=bp.map _ λx _=>q x;split at b
  ·next x t F ht=>
   rw[F]at O;obtain⟨y,r,Y,H,J⟩:=O.dz;have:=J.fw;subst this;obtain⟨v',G,M,L,g,x0⟩:=O5 (P:=P) (ty:=o.type) I b H;refine⟨v',G,M,.inl ?_,g,x0⟩;have A:C = #[t]:=by apply Array.ext';simp[ht]
   have Q:p.map B = #[y]:=by apply Array.ext';simp[Y]
   simp only[resolve,run_bind,Sem.run_pure,andThen_ok,invoke,builtin,Q,A,L]
  ·cases b
 ·next p C E=>
  simp only[E];have O:bp β (p.toList.map ρ) (p.toList.map B):=bp.map _ λx _=>q x;split at b
  ·next n c F=>
   rw[F]at O;obtain⟨y,r,Y,H,J⟩:=O.dz;have:=J.fw;subst this;obtain⟨rfl,rfl,rfl⟩:=H.gj;simp only[Option.some.injEq,Prod.mk.injEq]at b;obtain⟨rfl,rfl⟩:=b;have A:p.map B = #[.slice none 0 0]:=by apply Array.ext';simp[Y]
   refine⟨.pointer none,w,β,.inl ?_,Step.refl I,.nilPtr⟩;simp only[resolve,run_bind,Sem.run_pure,andThen_ok,invoke,builtin,A,Lib.run_unsafeSliceData_nil]
  ·next a n c F=>
   rw[F]at O;obtain⟨y,r,Y,H,J⟩:=O.dz;have:=J.fw;subst this;obtain⟨ab,ao,z3⟩:=a;have R:z3=none\/ ¬0<bH c:=by
    rcases H.wk with⟨k',i',e⟩|⟨_,_,u0,_⟩
    ·injection e with _ _ e;exact .inl e
    ·subst u0;exact .inr (by unfold bH;rw[if_neg (by decide)];decide)
   rcases R with R|R
   rotate_left
   ·rw[if_neg R]at b;cases b
   subst R;obtain⟨D,i',c',V,y9,z5,rfl,z2,z7,u3,z4,u4⟩:=H.gO;clear z5;split at b
   ·next K=>
    simp only[Option.some.injEq,Prod.mk.injEq]at b;obtain⟨rfl,rfl⟩:=b;have u2:bH c<=c':=by
     unfold bH;split
     ·next K=>exact z7 K
     ·next K=>rw[z2 (by omega)];exact Nat.le_refl _
    have z9:i'=D.s+ao:=by rcases z4 with h1|⟨h1,h2⟩;exact h1;exact absurd h2 (by omega)
    subst z9;have A:p.map B = #[.slice (some ⟨D.b,D.s+ao,none⟩) n c']:=by apply Array.ext';simp[Y]
    refine⟨.pointer (some ⟨D.b,D.s+ao,none⟩),w,β,.inl ?_,Step.refl I,.ptr V y9⟩;simp only[resolve,run_bind,Sem.run_pure,andThen_ok,invoke,builtin,A,Lib.run_unsafeSliceData_row (P:=P) w C o.type ⟨D.b,D.s+ao,none⟩ n c' (by omega)]
   ·cases b
  ·cases b
 ·next p C E=>
  simp only[E];have O:bp β (p.toList.map ρ) (p.toList.map B):=bp.map _ λx _=>q x;split at b
  ·next kk pt F x5=>
   rw[F]at O;obtain⟨y,r,Y,H,J⟩:=O.dz;obtain⟨z,r2,rfl,x7,x2⟩:=J.dz;have:=x2.fw;subst this
   cases H.LQ
   cases x7.dX
   simp only[Option.some.injEq,Prod.mk.injEq]at b;obtain⟨rfl,rfl⟩:=b;have A:p.map B = #[.pointer none,.int kk 0]:=by apply Array.ext';simp[Y]
   refine⟨strOf [],w,β,.inl ?_,Step.refl I,.string _⟩;have u1:IntKind.i64.max=9223372036854775807:=by decide
   have y6:Builtin.unsafeString_ C o.type #[.pointer none,.int kk 0] =
     (do
      let n <-asInt (.int kk 0)
      let some pt:=C[0]?|stuck "unsafe.String: no argument types"
      if n<0 then runtimePanic (.error "unsafe.String: len out of range")
      if n>IntKind.i64.max then unsupported (.unsafePointer "String: a length above the largest int")
      if n=0 then pure (.string .empty)
      else runtimePanic (.error "unsafe.String: ptr is nil and len is not zero")):=rfl
   simp only[resolve,run_bind,Sem.run_pure,andThen_ok,invoke,builtin,A,y6,asInt,asIntOf,x5,run_ite];rw[if_neg (by omega),if_neg (by omega)];rfl
  ·next k i kk n pt F x5=>
   rw[F]at O;obtain⟨y,r,Y,H,J⟩:=O.dz;obtain⟨z,r2,rfl,x7,x2⟩:=J.dz;have:=x2.fw;subst this
   cases x7.dX
   have A:p.map B = #[y,.int kk n]:=by apply Array.ext';simp[Y]
   split at b
   ·next cs e e' W hu=>
    split at b
    ·next K=>
     obtain⟨rfl,N,hn,y8,y5⟩:=K;split at b
     ·next l V=>
      simp only[Option.some.injEq,Prod.mk.injEq]at b;obtain⟨rfl,rfl⟩:=b;obtain⟨G,L,g⟩:=Ak (P:=P) (kk:=kk) (ats:=C) (ty:=o.type) I W x5 hu N hn y8 y5 V H;refine⟨strOf l,G,β,.inl ?_,g,.string _⟩;simp only[resolve,run_bind,Sem.run_pure,andThen_ok,invoke,builtin,A,L]
     ·cases b
    ·cases b
   ·cases b
  ·cases b
 ·next s d x E=>
  simp only[E];have hx:=q x;split at b
  ·next t k h1 h2 Q=>
   rw[Q]at hx;split at b
   ·next cs t' wr W=>
    split at b
    ·next K=>
     obtain⟨rfl,N,X⟩:=K;simp only[Option.some.injEq,Prod.mk.injEq]at b;obtain⟨rfl,rfl⟩:=b;obtain⟨D,V,F,U⟩:=hx.ux;obtain⟨_,_,_,x4,fr,hw,hn,T,_⟩:=I.row W V;obtain⟨j,hj,z0⟩:=ot N;obtain⟨v0,x6,_⟩:=T 0 _ (gE X);have y1:=(Array.getElem?_eq_some_iff.1 x6).1;have x8:w.shape? D.b=some (t,x4.size):=by simp[World.shape?,hw]
     refine⟨B x,w,β,.inl ?_,Step.refl I,q x⟩;rw[U];simp only[run_bind,Lib.run_to_unsafe (P:=P) w ⟨D.b,D.s+0,none⟩ h1 h2 hj (by omega) x8 y1,andThen_ok,Sem.run_pure]
    ·cases b
   ·cases b
  ·next t k h1 h2 Q=>
   rw[Q]at hx;split at b
   ·next cs t' wr W=>
    split at b
    ·next K=>
     obtain⟨rfl,N,X⟩:=K;simp only[Option.some.injEq,Prod.mk.injEq]at b;obtain⟨rfl,rfl⟩:=b;obtain⟨D,V,F,U⟩:=hx.ux;have y2:=I.aei W V;obtain⟨_,_,_,x4,fr,hw,hn,T,_⟩:=I.row W V;obtain⟨j,hj,z0⟩:=ot N;have y4:=Cv N;obtain⟨v0,x6,_⟩:=T (cs.length-1) _ (gE (by omega));have y1:=(Array.getElem?_eq_some_iff.1 x6).1;have x8:w.shape? D.b=some (t,x4.size):=by simp[World.shape?,hw]
     have y0:liesAt P P.depth t (x4.size/P.cellsOf t) (D.s+0) t 1=true:=by
      refine CZ y4 X _ _ _ (by rw[y2];simp) ?_;rw[y2,y4];simp only[Nat.add_zero,Nat.zero_div,Nat.zero_add];exact(Nat.le_div_iff_mul_le X).2 (by omega)
     refine⟨B x,w,β,.inl ?_,Step.refl I,q x⟩;rw[U];simp only[run_bind,Lib.run_from_unsafe (P:=P) w ⟨D.b,D.s+0,none⟩ h1 h2 hj x8 y0,andThen_ok,Sem.run_pure]
    ·cases b
   ·cases b
  ·cases b
 grind
end
variable{f:FuncId}
section
variable {β:dH} {P:Program} {gl:Nat->Bool}
def jY(r:Option Nat):Fence:={ Fence.wide with round:=r }
theorem vu{r:Option Nat}{R:Ending->World->Prop}(h:Calls P f V W R):CallsIn (jY r) n P f V W R:=
 (callsIn_wide (n:=n)).2 h
def Gl(gl:Nat->Bool)(β:dH):Prop:=∀g,gl g=true->∃a,β g=some a/\a.b=g/\a.s=0/\a.isMap=false
theorem Gl.mono{β:dH}(h:Gl gl β)(a:β.le J):Gl gl J:=λg e=>let⟨c,b,d⟩:=h g e;⟨c,a _ _ b,d⟩
theorem bp.getD(h:bp β c d)(i:Nat):aD β (c.getD i undef) (d.getD i undef):=by
 by_cases b:i<c.length
 ·have a:i<d.length:=h.1▸b;simp only[List.getD,gE b,gE a,Option.getD_some];exact h.2 i _ _ (gE b) (gE a)
 ·have a:d.length<=i:=by rw[<-h.1];omega
  simp only[List.getD,getElem?_eq_none (Nat.le_of_not_lt b),getElem?_eq_none a,Option.getD_none];exact .undef β
theorem zx{a:Act}(k:Gl gl β)(j:bp β c a.tmps.toList)(x:Operand):aD β (ev gl c x) (a.eval x):=by
 cases x with
 |tmp t=>
  simp only[ev,Act.eval];have:=j.getD t
  simp_all
 |const v=>
  simp only[ev,Act.eval];split
  ·next h=>exact .qH h
  ·exact .hH v
 | global g=>
  simp only[ev,Act.eval];split
  ·next h=>
   obtain⟨m,b,n,l,d⟩:=k g h;have:=aD.ptr (i:=0) b d
   grind
  ·exact .hH _
 |func f=>
  simp only[ev,Act.eval];exact .func rfl rfl rfl (λi v e h=>by grind) (λi v e h=>by grind)
theorem lV{a:Act}(g:bp β c a.tmps.toList)(b:Option Tmp){v h:Value}(l:aD β v h):bp β (jx c b v) (a.put b h).tmps.toList:=by
 cases b with
 |none=>exact g
 | some d=>
  simp only[jx,Act.put,Array.toList_setIfInBounds];refine⟨by simp[g.1],λi u k e f=>?_⟩;rw[List.getElem?_set]at e f;split at e
  ·grind
  ·next j=>
   rw[if_neg j]at f;exact g.2 i u k e f
theorem put_defers(a:Act)(b:Option Tmp)(v:Value):(a.put b v).defers=a.defers:=by cases b<;>rfl
theorem Fv(h:c.getD n undef = .bool b):c[n]?=some (.bool b):=by
 rw[gD]at h
 cases a:c[n]? with
 |none=>rw[a]at h;cases h
 |some v=>grind
theorem CM(h:c.getD n undef = .tuple V):c[n]?=some (.tuple V)\/c[n]?=none:=by grind
theorem mP{ops:Array Oper}{a:Act}(l:bp β c a.tmps.toList){o:Oper}{b:Bool}(h:jh ops c o=some b):Region.wanted o (yielded ops a.tmps)=b:=by
 unfold jh at h;unfold Region.wanted;split at h
 ·grind
 ·next j g p=>
  rw[p];simp only[yielded];split at h
  ·next d k=>
   rw[k];simp only[bind_some];split at h
   ·next m e=>
    obtain⟨n,f,i⟩:=l.get (Fv e);rw[i.kE]at f;rw[getElem?_toList]at f;rw[f];simp only[Option.some.injEq]at h;subst h
    cases m<;>cases g<;>rfl
   ·next r e=>
    simp only[Option.some.injEq]at h;subst h;rcases CM e with e|e
    ·obtain⟨n,f,i⟩:=l.get e;obtain⟨q,rfl,_⟩:=i.zF;rw[getElem?_toList]at f;rw[f];rfl
    ·have k:a.tmps[d]?=none:=by
      rw[<-getElem?_toList];exact getElem?_eq_none (by rw[<-l.1];exact List.getElem?_eq_none_iff.1 e)
     rw[k];rfl
   ·cases h
  grind
def qd(β:dH)(h:ae)(w:World)(v:Value)(d:ae):Ending->World->Prop:=λe c=>∃b a,e = .returned b/\Step β h w a d c/\aD a v b
def adw(P:Program)(gl:Nat->Bool)(j:dZ):Prop:=
 ∀f b h v d,f<YB->j f b h=some (v,d)->∀β w (a:Array Value),ko β h w->Gl gl β->bp β b a.toList->
  ∃g,P.funcs[f]?=some g/\((g.body.isSome=true/\Calls P f a w (qd β h w v d))\/
   (∃i e c,(callFunc f a).run P w = .ok (.value i) e/\Step β h w c d e/\aD c v i))
def adB(P:Program)(gl:Nat->Bool)(j:dZ):Prop:=
 ∀k d h v i,j (YB+k) d h=some (v,i)->∀β w (a:Array Value) e,ko β h w->Gl gl β->bp β d a.toList->β k=some e->
  ∃g b f c,(Instr.yield e.b a).run P w = .ok (.round e.b g b f c) w/\∀(r:Option Nat)(n:Nat),RoundIn (jY r) n P e.b g b f c w (qd β h w v i)
structure sW(P:Program)(gl:Nat->Bool)(cf:dZ):Prop where
 fn:adw P gl cf
 yd:adB P gl cf
def fT(P:Program):Prop:=∀(f:FuncId)(a:Func),P.funcs[f]?=some a->(a.name == "runtime.NumGoroutine")=false
theorem iC(e:fT P){f:FuncId}{a:Func}(c:P.funcs[f]?=some a)(i:a.body.isSome=true)(b:Array Value)(w:World):(callFunc f b).run P w = .ok (.enter f b) w:=by
 have d:=e f a c;have g:a.body.isNone=false:=by cases h:a.body<;>simp_all
 simp only[callFunc,run_bind,run_program,andThen_ok,c];rw[d,g];rfl
theorem aD.Tn{first:Array Value}{x:Value}(c:aD β (.func (.func f) first V) x):∃b a,x = .func (.func f) b a/\jI β first b/\jI β V a:=by
 cases c with
 |func i g h e d=>exact⟨_,_,rfl,⟨g,e⟩,⟨h,d⟩⟩
theorem aD.Fx{first:Array Value}{x:Value}(b:aD β (.func (.yield k) first V) x):∃a,β k=some a/\x = .func (.yield a.b) first V:=by
 cases b with
 |func e c d g f=>cases e
 |yield h c d=>grind
theorem IT(hN:fT P){U:dZ}(F:sW P gl U){r:Option Nat}{n:Nat}{a:Act}{h:ae}{w:World}{o:Oper}{f:Operand}{args:Array Operand}{W:Array TypeId}(V:o.op = .call { callee:= .value f,args:=args,argTypes:=W })
  {ρ:Operand->Value} {v:Value} {u:dM} (O:ko β h w) (Y:Gl gl β) (C:∀x,aD β (ρ x) (a.eval x)) (q:zh U (ρ f) (args.toList.map ρ) h=some (v,u)) (next:Act->World->Prop) (Q:Exit->Act->World->Prop)
  (J:∀p l c,Step β h w c (u.app h) l->aD c v p->next (a.put o.dst p) l):o.uponIn (jY r) n P a next Q ((execOp a.eval o).run P w):=by
 unfold zh at q;have E:=C f;split at q
 ·next g first d D=>
  split at q
  ·next S=>
   rw[D]at E;obtain⟨⟨Z,I⟩,j,B⟩:=map_eq_some_iff.1 q;simp only[Prod.mk.injEq]at B;obtain⟨rfl,rfl⟩:=B;obtain⟨m,b,s,X,T⟩:=E.Tn;have i:bp β (first.toList++args.toList.map ρ++d.toList) (m++args.map a.eval++b).toList:=by
    simp only[Array.toList_append,Array.toList_map];exact((jI.toList.1 X).append (bp.map _ λx _=>C x)).append (jI.toList.1 T)
   have t:(execOp a.eval o).run P w=(callFunc g (m++args.map a.eval++b)).run P w:=by
    unfold execOp;simp only[V,resolve,s,Deferred.ofValue,run_bind,Sem.run_pure,andThen_ok,invoke]
   rw[t];obtain⟨fn,N,L⟩:=F.fn g _ h _ I S j β w _ O Y i;rcases L with⟨G,z⟩|⟨p,l,c,H,A,y⟩
   ·rw[iC hN N G];refine⟨λK=>by simp[jY,Fence.wide]at K,vu (z.mono ?_)⟩;rintro e l ⟨p,c,rfl,A,y⟩;exact J p l c A y
   ·rw[H];exact J p l c A y
  ·cases q
 ·next k first d D=>
  split at q
  ·next hz=>
   rw[D]at E;obtain⟨⟨Z,I⟩,j,B⟩:=map_eq_some_iff.1 q;simp only[Prod.mk.injEq]at B;obtain⟨rfl,rfl⟩:=B;obtain⟨R,G,s⟩:=E.Fx;have M:first = #[]:=Array.eq_empty_of_size_eq_zero hz.1
   have i:bp β (args.toList.map ρ) (args.map a.eval).toList:=by
    simp only[Array.toList_map];exact bp.map _ λx _=>C x
   have t:(execOp a.eval o).run P w=(Instr.yield R.b (args.map a.eval)).run P w:=by
    unfold execOp;simp only[V,resolve,s,Deferred.ofValue,run_bind,Sem.run_pure,andThen_ok,invoke,M,Array.empty_append]
   rw[t];obtain⟨fn,x0,x2,x1,H,A⟩:=F.yd k _ h _ I j β w _ R O Y i G;rw[H];refine⟨λK=>by simp[jY,Fence.wide]at K,(A r (n-1)).mono ?_⟩;rintro e l ⟨p,c,rfl,y,h4⟩;exact J p l c y h4
  ·cases q
 grind
theorem acP(E:fT P){z:dZ}(y:sW P gl z){r:Option Nat}{n:Nat}{x:List Value}{a:Act}{h:ae}{w:World}{o:Oper}{v:Value}{u:dM}(l:ko β h w)(C:Gl gl β)(H:bp β x a.tmps.toList)
  (b:dV P z (ev gl x) o h=some (v,u)) (next:Act->World->Prop) (Q:Exit->Act->World->Prop)
  (m:∀g k d,Step β h w d (u.app h) k->aD d v g->next (a.put o.dst g) k):o.wpIn (jY r) n P a w next Q:=by
 refine⟨λ_ _=>trivial,?_⟩;have j:=zx (β:=β) C H;have t:∀c,o.op≠ .defer c:=by
  intro c q;unfold dV at b;simp[dr,cW,bV,gp,q]at b
 rw[Oper.semAt_eq _ _ _ t];unfold dV at b;split at b
 ·next D p=>
  simp only[Option.some.injEq,Prod.mk.injEq]at b;obtain⟨rfl,rfl⟩:=b;obtain⟨g,e,i⟩:=rV j p w;rw[e];exact m g w β (Step.refl l) i
 ·split at b
  ·next D p=>
   simp only[Option.some.injEq,Prod.mk.injEq]at b;obtain⟨rfl,rfl⟩:=b;obtain⟨g,e,i⟩:=rW j l p;rw[e];exact m g w β (Step.refl l) i
  ·split at b
   ·next B f p=>
    simp only[Option.some.injEq,Prod.mk.injEq]at b;obtain⟨rfl,rfl⟩:=b;obtain⟨g,k,e,i⟩:=pR j (w:=w) p;obtain⟨d,s,F⟩:=i.step l;rw[e];exact m g k d s F
   ·by_cases q:bN o=false
    ·obtain⟨g,k,d,e,i,s⟩:=zL j q l b;rcases e with e|⟨e,rfl⟩
     ·rw[e];exact m g k d i s
     ·rw[e];exact m undef k d i s
    ·unfold bN at q;split at q
     ·next f G I A=>
      simp only[gp,A]at b;exact IT E y A l C j b next Q m
     grind
theorem Me(B:fT P){G:dZ}(k:sW P gl G){r:Option Nat}{n:Nat}{ops:Array Oper}(Q:Exit->Act->World->Prop):∀(b:List Oper)(i:Nat){β:dH}{p f:List Value}{a:Act}{h q:ae}{w:World},
  ops.toList.drop i=b->k4 P gl G ops b p h=some (f,q)->ko β h w->Gl gl β->bp β p a.tmps.toList->
  (∀d y j,Step β h w j q y->bp j f d.tmps.toList->d.defers=a.defers->Q .normal d y)->wpOpsIn (jY r) n P ops Q (List.range' i b.length) a w
 |[],i,β,p,f,a,h,q,w,F,c,m,t,e,s=>by
  simp only[k4,Option.some.injEq,Prod.mk.injEq]at c;obtain⟨rfl,rfl⟩:=c;exact s a w β (Step.refl m) e rfl
 | o::b,i,β,p,f,a,h,q,w,F,c,m,t,e,s=>by
  have J:ops[i]?=some o:=by
   have:(ops.toList.drop i)[0]?=some o:=by rw[F];rfl
   rw[getElem?_drop]at this;rw[<-getElem?_toList];simpa using this
  have x:ops.toList.drop (i+1)=b:=by rw[<-drop_drop,F];rfl
  simp only[length_cons,List.range'_succ,wpOpsIn,J];simp only[k4]at c;split at c
  ·next D=>
   rw[mP e D];simp only[if_true];split at c
   ·next v u H=>
    refine acP B k m t e H _ _ λK y j g I=>?_;refine Me B k Q b (i+1) x c g.pC (t.mono g.le) (lV (e.mono g.le) o.dst I) λd E l A C z=>?_;exact s d E l (g.trans A) C (z.trans (put_defers a o.dst K))
   ·cases c
  ·next D=>
   rw[mP e D];simp only[false_eq_true,if_false];refine⟨λ_ _=>trivial,?_⟩;refine Me B k Q b (i+1) x c m t (lV e o.dst (.undef β)) λd E l A C z=>?_;exact s d E l A C (z.trans (put_defers a o.dst undef))
  grind
theorem QP(m:fT P){i:dZ}(k:sW P gl i){r:Option Nat}{n:Nat}{j:Nat}{ops:Array Oper}(Q:Exit->Act->World->Prop){f b:List Value}{a:Act}{h g:ae}{w:World}
  (q:k4 P gl i ops ops.toList f h=some (b,g)) (l:ko β h w) (s:Gl gl β) (p:bp β f a.tmps.toList)
  (o:∀d e c,Step β h w c g e->bp c b d.tmps.toList->d.defers=a.defers->Q .normal d e):(Code.region j ops false).wpIn (jY r) n P Q a w:=by grind[wpIn_region,Me,List.range_eq_range',length_toList]
theorem H4{F:Fence}{c:Code}{Q:Exit->Act->World->Prop}(I:Nat->Act->World->Prop)(E:∀a w,¬I 0 a w)
  (p:∀j a w,I (j+1) a w->c.wpIn F n P (Exit.then (I j) Q) a w) {j:Nat} {a:Act} {w:World} (s:I j a w):(Code.loop c).wpIn F n P Q a w:=by
 intro b k cs A r y;have z:∀j a w,I j a w->∃e o m,Q e o m/\ArrivesIn (Machine.fenced P F) P (lone (b.atR a (.code c :: .inLoop c::k)) cs w) b k cs e o m:=by
  intro j
  induction j with
  |zero=>grind
  | succ j C=>
   intro a w B;obtain⟨e,f,g,h,d⟩:=p j a w B b (.inLoop c::k) cs A r y
   cases e with
   |normal=>
    obtain⟨v,u,t,q,i⟩:=C f g h;exact⟨v,u,t,q,.of_steps (StepsIn.trans d (.one (fenced_calm r y rfl) stepR_inLoop)) i⟩
   |exit D=>exact⟨_,f,g,h,.pass (x:= .inLoop c) rfl (λ_ _=> .inl (by simp)) d⟩
   |goto l=>exact⟨_,f,g,h,.pass (x:= .inLoop c) rfl (λ_ _=> .inl (by simp)) d⟩
   |ret=>exact⟨_,f,g,h,.pass (x:= .inLoop c) rfl (λ_ _=> .inl (by simp)) d⟩
   |panic G=>exact⟨_,f,g,h,.pass (x:= .inLoop c) rfl (λ_ _=> .inl (by simp)) d⟩
   |outgrown=>exact⟨_,f,g,h,.pass (x:= .inLoop c) rfl (λ_ _=> .inl (by simp)) d⟩
 obtain⟨e,o,m,h,d⟩:=z j a w s;exact⟨e,o,m,h,.of_steps (.one (fenced_calm r y rfl) stepR_loop) d⟩
def mR(P:Program)(gl:Nat->Bool)(k:dZ)(c:Code):Prop:=
 ∀g ops,c = .region g ops true->∀β i b (a:Act) h j (w:World) (r:Option Nat) (n:Nat) (Q:Exit->Act->World->Prop),I0 P gl k ops i h=some (b,j)->ko β h w->Gl gl β->bp β i a.tmps.toList->
  (∀e f d,Step β h w d j f->bp d b e.tmps.toList->e.defers=a.defers->Q .normal e f)->(Code.region g ops true).wpIn (jY r) n P Q a w
inductive Part:Code->Code->Prop where
 |refl (c:Code):Part c c
 |ML {c a b:Code} (h:Part c a):Part c (.seq a b)
 |HM {c a b:Code} (h:Part c b):Part c (.seq a b)
 |Zv {c a b:Code} {o:Operand} (h:Part c a):Part c (.cond o a b)
 |Zt {c a b:Code} {o:Operand} (h:Part c b):Part c (.cond o a b)
 |block {c a:Code} {id:Nat} (h:Part c a):Part c (.block id a)
 |loop {c a:Code} (h:Part c a):Part c (.loop a)
def He(b:Nat):Deferred:={ target:= .collected b,args:= #[] }
def Marks(w:World)(e:List Deferred)(β:dH)(h:ae)(c:World)(d:List Deferred):Prop:=
 ∃a:List Nat,d=a.map He++e/\a.Nodup/\∀b∈a,w.heap.size<=b/\b<c.heap.size/\c.heap[b]?=some (.deferred (some []))/\¬Wr β h b
theorem Marks.same{c:World}{b a:List Deferred}(e:a=b):Marks W b β h c a:=⟨[],by grind,by simp,by simp⟩
theorem Marks.trans{c:dH}{d f:World}{p i j:List Deferred}(m:Marks W p J h d i)(B:W.heap.size<=d.heap.size)(n:Step J h d c g f)(y:Marks d i c g f j):Marks W p c g f j:=by
 obtain⟨u,rfl,t,s⟩:=m;obtain⟨o,rfl,r,z⟩:=y;refine⟨o++u,by simp,List.nodup_append.2 ⟨r,t,λa C b A e=>?_⟩,λb k=>?_⟩
 ·grind
 ·rcases List.mem_append.1 k with k|k
  ·grind
  ·obtain⟨w,l,v,q⟩:=s b k;exact⟨w,lt_of_lt_of_le l n.size,(n.kept b l q).trans v,λx=>q (n.back b l x)⟩
theorem MW(a:ko β h W)(o:Obj):Step β h W β h (W.alloc o):=by
 have d:∀b,b<W.heap.size->(W.alloc o).heap[b]?=W.heap[b]?:=λb e=>by
  show(W.heap.push o)[b]?=_;rw[getElem?_push,if_neg (by omega)]
 refine⟨β.le_refl,Nat.le_refl _,⟨λk c d=>⟨(a.lt k c d).1,?_⟩,λk B c g f=>(a.blk k B c g f).of_heap (d _ (a.lt k c f).2),a.own,a.wf⟩,?_,rfl,⟨rfl,Nat.le_refl _⟩,rfl,λb e _=>d b e,λ_ _ h=>h,λ_ _ h=> .inl h,λ_ B h _=>⟨B,h⟩⟩
 ·have:=(a.lt k c d).2;simp;omega
 simp
theorem Q9(f:ko β h W){tm:List Value}{r:Loop}(n:r.state = .ready)(l:r.pending=none)(m:bp β tm r.tmps.toList)(e:rP r.assign r.body=true):
  ∃a,Step β h W a (h.push (.loop .ready tm r.params.toList r.assign r.body e)) (W.alloc (.loop r))/\∃c,a h.next=some c/\c.b=W.heap.size:=by
 have i:qR β W (.loop .ready tm r.params.toList r.assign r.body e) (λk=> .func (.yield k) #[] #[]) (.func (.yield W.heap.size) #[] #[]) (W.alloc (.loop r)):=by
  refine⟨by simp,rfl,⟨rfl,Nat.le_refl _⟩,rfl,λb o=>?_,⟨W.heap.size,0,0,0,0,true⟩,rfl,λa k d j=>⟨⟨rfl,r,World.alloc_heap_new W _,⟨n,l⟩,m.mono d,rfl,rfl,rfl⟩,?_⟩⟩
  ·show(W.heap.push _)[b]?=_;rw[getElem?_push,if_neg (by omega)]
  ·exact .yield (sl:=⟨W.heap.size,0,0,0,0,true⟩) j rfl rfl
 obtain⟨a,q,g⟩:=i.step f;obtain⟨c,p,s⟩:=g.Fx
 grind
theorem Q8{z:World}(m:ko β h W){k:Nat}{g:dS}{n:Slot}(C:h.get k=some g)(y:β k=some n)(B:g.wr=true)(l:At W z n.b):Step β h W β (h.del k) z:=by
 have i:∀a e,(h.del k).get a=some e->a≠k/\h.get a=some e:=λa e q=>by
  rw[h.dR]at q;split at q
  ·cases q
  ·next f=>exact⟨f,q⟩
 have x:∀a e c,a≠k->h.get a=some e->β a=some c->c.b≠n.b:=λa e c f d j=>(m.own k a g e n c (Ne.symm f) C d y j B).symm;refine⟨β.le_refl,Nat.le_refl _,⟨?_,?_,?_,ae.H0 m.wf k⟩,by rw[l.size];exact Nat.le_refl _,l.os,l.tape,l.output,?_,?_,λ_ _ h=> .inl h,?_⟩
 ·intro a c d;rw[l.size];exact m.lt a c d
 ·intro a e c d j;obtain⟨f,d⟩:=i _ _ d;exact(m.blk a e c d j).of_heap (l.kept _ (x a e c f d j))
 ·intro u v r t p o f d j s w E;exact m.own u v r t p o f (i _ _ d).2 (i _ _ j).2 s w E
 ·intro b A D;refine l.kept b ?_;rintro rfl;exact D ⟨k,g,n,C,B,y,rfl⟩
 ·rintro b A ⟨a,e,c,d,j,s,w⟩;exact⟨a,e,c,(i _ _ d).2,j,s,w⟩
 grind
theorem zi(w:World)(b:Nat)(o:Obj):At w (w.putObj b o) b:=⟨by simp,rfl,.refl _,rfl,λc a=>World.putObj_heap_other a⟩
theorem IQ{P:Program}(h:Cq P f=true):∃a,P.funcs[f]?=some a/\a.body.isSome=true:=by grind[Cq]
theorem Ho{a:Bool}(h:(a&&b)=true):a=true:=by grind
theorem NQ{a:Bool}(h:(a&&b)=true):b=true:=by grind
theorem xg(hN:fT P){cf:dZ}(z9:sW P gl cf){r:Option Nat}{n N:Nat}:∀(c:Code),(r=none\/od c=true)->(∀d,Part d c->mR P gl cf d)->∀{β:dH}{H F:List Value}{a:Act}{h T:ae}{w:World}{e:Exit}(Q:Exit->Act->World->Prop),
  bJ P gl cf N c H h=some (e,F,T)->ko β h w->Gl gl β->bp β H a.tmps.toList->
  (∀a' w' X,Step β h w X T w'->bp X F a'.tmps.toList->Marks w a.defers X T w' a'.defers->Q e a' w')->c.wpIn (jY r) n P Q a w:=by
 intro c
 induction c with
 |skip=>
  intro p q β H F a h T w e Q i v A u C;simp only[bJ,Option.some.injEq,Prod.mk.injEq]at i;obtain⟨rfl,rfl,rfl⟩:=i;exact wpIn_skip (C a w β (Step.refl v) u (.same rfl))
 |region id ops u5=>
  intro p q β H F a h T w e Q i v A u C
  cases u5
  ·simp only[bJ]at i;obtain⟨⟨x1,L⟩,y8,U⟩:=map_eq_some_iff.1 i;simp only[Prod.mk.injEq]at U;obtain⟨rfl,rfl,rfl⟩:=U;exact QP hN z9 Q y8 v A u λa' w' X K L h3=>C a' w' X K L (.same h3)
  ·simp only[bJ]at i;obtain⟨⟨x1,L⟩,y8,U⟩:=map_eq_some_iff.1 i;simp only[Prod.mk.injEq]at U;obtain⟨rfl,rfl,rfl⟩:=U;exact q _ (.refl _) id ops rfl β H x1 a h L w r n Q y8 v A u λa' w' X K L h3=>C a' w' X K L (.same h3)
 | seq x y y0 y6=>
  intro p q β H F a h T w e Q i v A u C;simp only[bJ]at i;refine wpIn_seq ?_;split at i
  ·next x5 K hx=>
   refine y0 (p.imp id Ho) (λd G=>q d (.ML G)) _ hx v A u λa1 Z z m V R=>?_;exact y6 (p.imp id NQ) (λd G=>q d (.HM G)) _ i m.pC (A.mono m.le) V λa2 w2 x3 J x2 x4=>C a2 w2 x3 (m.trans J) x2 (R.trans m.size J x4)
  ·next u0=>
   refine y0 (p.imp id Ho) (λd G=>q d (.ML G)) _ i v A u λa1 Z z m V R=>?_;have:=C a1 Z z m V R
   cases e with
   |normal=>grind
   |_=>exact this
 | cond o x y y0 y6=>
  intro p q β H F a h T w e Q i v A u C;simp only[bJ]at i;split at i
  ·next t v1=>
   have hc:a.eval o = .bool t:=by
    have:=zx (β:=β) A u o;rw[v1]at this;exact this.kE
   cases t
   ·exact wpIn_cond hc (y6 (p.imp id NQ) (λd G=>q d (.Zt G)) Q i v A u C)
   ·exact wpIn_cond hc (y0 (p.imp id Ho) (λd G=>q d (.Zv G)) Q i v A u C)
  grind
 | block id x ih=>
  intro p q β H F a h T w e Q i v A u C;simp only[bJ]at i;refine wpIn_block ?_;split at i
  ·next v8 x5 K hx=>
   refine ih p (λd G=>q d (.block G)) _ hx v A u λa1 Z z m V R=>?_;split at i
   ·next U=>
    simp only[Option.some.injEq,Prod.mk.injEq]at i;obtain⟨rfl,rfl,rfl⟩:=i;simp only[Exit.inBlock,U,if_true]
    grind
   ·next U=>
    simp only[Option.some.injEq,Prod.mk.injEq]at i;obtain⟨rfl,rfl,rfl⟩:=i;simp only[Exit.inBlock,U,if_false]
    grind
  ·next u0=>
   refine ih p (λd G=>q d (.block G)) _ i v A u λa1 Z z m V R=>?_;have:=C a1 Z z m V R
   cases e with
   |exit v8=>grind
   |_=>exact this
 | loop x ih=>
  intro p q β H F a h T w e Q i v A u C;simp only[bJ]at i;refine H4 (λj a1 Z=>∃z x5 K,Step β h w z K Z/\bp z x5 a1.tmps.toList/\Marks w a.defers z K Z a1.defers/\iter (bJ P gl cf N x) j x5 K=some (e,F,T)) ?_ ?_ (j:=N) ⟨β,H,h,Step.refl v,u,.same rfl,i⟩
  ·grind[iter]
  ·rintro j a1 Z ⟨z,x5,K,m,V,R,x8⟩;simp only[iter]at x8;split at x8
   ·next x1 L hx=>
    refine ih p (λd G=>q d (.loop G)) _ hx m.pC (A.mono m.le) V λa2 w2 x3 J x2 x4=>?_;exact⟨x3,x1,L,m.trans J,x2,R.trans m.size J x4,x8⟩
   ·next u0=>
    refine ih p (λd G=>q d (.loop G)) _ x8 m.pC (A.mono m.le) V λa2 w2 x3 J x2 x4=>?_;have:=C a2 w2 x3 (m.trans J) x2 (R.trans m.size J x4)
    cases e with
    |normal=>grind
    |_=>exact this
 |exit id=>
  intro p q β H F a h T w e Q i v A u C;simp only[bJ,Option.some.injEq,Prod.mk.injEq]at i;obtain⟨rfl,rfl,rfl⟩:=i;exact wpIn_exit (C a w β (Step.refl v) u (.same rfl))
 |ret=>
  intro p q β H F a h T w e Q i v A u C;simp only[bJ,Option.some.injEq,Prod.mk.injEq]at i;obtain⟨rfl,rfl,rfl⟩:=i;exact wpIn_ret (C a w β (Step.refl v) u (.same rfl))
 |label l=>
  intro p q β H F a h T w e Q i v A u C;simp only[bJ,Option.some.injEq,Prod.mk.injEq]at i;obtain⟨rfl,rfl,rfl⟩:=i;exact wpIn_label (C a w β (Step.refl v) u (.same rfl))
 | rangeFunc f Y x y _ _=>
  intro p q β H F a h T w e Q i v A u C;rcases p with rfl|p
  ·simp only[bJ]at i;split at i
   ·next g first x7 v6=>
    split at i
    ·next y3=>
     split at i
     ·next u3=>
      split at i
      ·next v2 L z4=>
       obtain⟨e2,E,U⟩:=map_eq_some_iff.1 i;simp only[Prod.mk.injEq]at U;obtain⟨rfl,rfl,rfl⟩:=U;refine wpIn_rangeFunc λO w7=>?_;have z6:Step β h w β h (w.alloc (.deferred (some []))):=MW v _;obtain⟨z,m,sl,u2,u4⟩:=Q9 z6.pC (tm:=H) (r:={ state:= .ready,pending:=none,fn:=O,tmps:=a.tmps,params:=Y,assign:=x,body:=y,defers:=w.heap.size }) rfl rfl u y3;have M:=z6.trans m;have hf:=zx (β:=β) A u f;rw[v6]at hf;obtain⟨S,D,u8,v7,v4⟩:=hf.Tn;have x0:sl.b=w.heap.size+1:=by rw[u4];simp
       have z2:bp z (first.toList++[Value.func (.yield h.next) #[] #[]]++x7.toList) (S ++ #[Value.func (.yield (w.heap.size+1)) #[] #[]]++D).toList:=by
        simp only[Array.toList_append];refine(((jI.toList.1 v7).mono M.le).append ?_).append ((jI.toList.1 v4).mono M.le);exact .cons (by have:=aD.yield u2 (a:= #[]) (c:= #[]) rfl rfl;rwa[x0]at this) (.nil _)
       obtain⟨fn,z7,u6⟩:=z9.fn g _ _ _ L u3.1 z4 z _ _ m.pC (A.mono M.le) z2;obtain⟨w8,y7,z3⟩:=IQ u3.2;rw[y7]at z7;obtain rfl:=oI z7;have y9:=iC hN y7 z3 (S ++ #[Value.func (.yield (w.heap.size+1)) #[] #[]]++D);have y5:Calls P g (S ++ #[Value.func (.yield (w.heap.size+1)) #[] #[]]++D) ((w.alloc (.deferred (some []))).alloc (.loop { state:= .ready,pending:=none,fn:=O,tmps:=a.tmps,params:=Y,assign:=x,body:=y,defers:=w.heap.size })) (qd z (h.push (.loop .ready H Y.toList x y y3)) ((w.alloc (.deferred (some []))).alloc (.loop { state:= .ready,pending:=none,fn:=O,tmps:=a.tmps,params:=Y,assign:=x,body:=y,defers:=w.heap.size })) v2 L):=by
        rcases u6 with⟨_,hc⟩|⟨v',w',X,hc,_⟩
        ·exact hc
        ·rw[y9]at hc;cases hc
       have y1:(Instr.enterLoop O a.tmps Y x y (jY none).round).run P w = .ok (w.heap.size+1,[He w.heap.size]) ((w.alloc (.deferred (some []))).alloc (.loop { state:= .ready,pending:=none,fn:=O,tmps:=a.tmps,params:=Y,assign:=x,body:=y,defers:=w.heap.size })):=run_enterLoop_outer O a.tmps Y x y;have z1:(resolve a.eval (rangeCall f (w.heap.size+1)) 0).run P ((w.alloc (.deferred (some []))).alloc (.loop { state:= .ready,pending:=none,fn:=O,tmps:=a.tmps,params:=Y,assign:=x,body:=y,defers:=w.heap.size })) = .ok { target:= .fn (.func g) D,args:=S ++ #[Value.func (.yield (w.heap.size+1)) #[] #[]] } ((w.alloc (.deferred (some []))).alloc (.loop { state:= .ready,pending:=none,fn:=O,tmps:=a.tmps,params:=Y,assign:=x,body:=y,defers:=w.heap.size })):=by
        have U:resolve a.eval (rangeCall f (w.heap.size+1)) 0=Deferred.ofValue (a.eval f) #[Value.func (.yield (w.heap.size+1)) #[] #[]]:=by
         unfold resolve rangeCall;simp only[List.map_toArray,List.map_cons,List.map_nil];rfl
        rw[U,u8];rfl
       refine⟨_,_,_,_,_,g,_,_,y1,z1,λ_ _=>trivial,y9 _,λG=>by simp[jY,Fence.wide]at G,vu (y5.mono ?_)⟩;rintro e' w3 ⟨v',x9,rfl,I,w4⟩
       cases hB:L.get h.next with
       |none=>rw[hB]at E;cases E
       | some B=>
        rw[hB]at E;have y4:=I.le _ _ u2
        cases B with
        |cells _ _ _ _=>cases E
        |map _=>cases E
        | loop st x1 w5 w0 v9 w6=>
         obtain⟨_,r,z8,x6,_⟩:=I.pC.blk _ _ _ hB y4;rw[x0]at z8;have v3:Marks w a.defers x9 (L.del h.next) (w3.putObj (w.heap.size+1) (.loop { r with state:= .exhausted })) ([He w.heap.size]++a.defers):=by
          have u1:¬Wr z (h.push (.loop .ready H Y.toList x y y3)) w.heap.size:=λhw=>by
           have:=m.back w.heap.size (by simp) hw;obtain⟨k,B,z0,_,_,h3,h4⟩:=this;have:=(v.lt k z0 h3).2;omega
          have y2:w.heap.size<((w.alloc (.deferred (some []))).alloc (.loop { state:= .ready,pending:=none,fn:=O,tmps:=a.tmps,params:=Y,assign:=x,body:=y,defers:=w.heap.size })).heap.size:=by simp;omega
          refine⟨[w.heap.size],rfl,by simp,λb hb=>?_⟩;obtain rfl:=List.mem_singleton.1 hb;refine⟨Nat.le_refl _,?_,?_,λhw=>?_⟩
          ·rw[World.putObj_size];exact lt_of_lt_of_le y2 I.size
          ·rw[World.putObj_heap_other (by omega),I.kept _ y2 u1];show((w.heap.push _).push _)[w.heap.size]?=_;rw[getElem?_push,if_neg (by simp),getElem?_push,if_pos rfl]
          ·obtain⟨k,B,z0,K,u9,h3,h4⟩:=hw;refine u1 (I.back _ y2 ⟨k,B,z0,?_,u9,h3,h4⟩);rw[ae.dR]at K;split at K
           ·cases K
           ·exact K
         have z5:Step x9 L w3 x9 (L.del h.next) (w3.putObj (w.heap.size+1) (.loop { r with state:= .exhausted })):=Q8 I.pC hB y4 rfl (by rw[x0];exact zi _ _ _);have u7:=(M.trans I).trans z5;have v5:=u.mono (M.trans I).le;have W:=C { a with defers:=[He w.heap.size]++a.defers } _ x9 u7 v5 v3;have v0:r.state≠ .busy:=by
          cases st<;>simp only[KY]at x6<;>first|(rw[x6.1];simp;done)|cases E
         refine⟨r.pending,_,run_endLoop z8 v0,?_⟩
         cases st with
         |ready=>
          obtain rfl:=oI E;have hp:r.pending=none:=x6.2;rw[hp]at W⊢;exact W
         |busy=>cases E
         |ret=>
          obtain rfl:=oI E;have hp:r.pending=some .ret:=x6.2;rw[hp]at W⊢;exact wpIn_ret W
         |exit id=>
          obtain rfl:=oI E;have hp:r.pending=some (.exit id):=x6.2;rw[hp]at W⊢;exact wpIn_exit W
      ·cases i
     ·cases i
    ·cases i
   grind
  ·cases p
 |scope x _=>grind[bJ]
 |goto l=>grind[bJ]
 |refuse s=>grind[bJ]
end
section
variable {β:dH} {P:Program} {gl:Nat->Bool}
def J7(a:Array Value):ResultVar->Sem Value
 |.tmp t=>pure (a.getD t undef)
 |.cell x t=>do loadVar t (<-asAddr (a.getD x undef))
theorem ME(c:Func)(a:Array Value):results c a=(do let b <-c.results.mapM (J7 a);pure (if h:b.size=1 then b[0]else .tuple b)):=by rfl
theorem sd{a:Act}{h:ae}{w:World}(i:ko β h w){m:List Value}(f:bp β m a.tmps.toList):∀(l:List ResultVar){d:List Value},dE P m h l=some d->
  ∃b,(l.mapM (J7 a.tmps)).run P w = .ok b w/\bp β d b
 |[],d,h=>by simp only[dE,Option.some.injEq]at h;subst h;exact⟨[],by simp,.nil β⟩
 |.tmp t::l,d,c=>by
  simp only[dE]at c;obtain⟨p,k,rfl⟩:=map_eq_some_iff.1 c;obtain⟨b,n,j⟩:=sd i f l k;have e:=f.getD t;rw[show a.tmps.toList.getD t undef=a.tmps.getD t undef by simp[List.getD,Array.getD_eq_getD_getElem?]]at e;refine⟨a.tmps.getD t undef::b,?_,.cons e j⟩
  grind[run_bind,Sem.run_pure,andThen_ok,J7]
 | .cell x t::l,d,c=>by
  simp only[dE]at c;split at c
  ·next v q=>
   obtain⟨p,k,rfl⟩:=map_eq_some_iff.1 c;obtain⟨b,n,j⟩:=sd i f l k;have e:=f.getD x;rw[show a.tmps.toList.getD x undef=a.tmps.getD x undef by simp[List.getD,Array.getD_eq_getD_getElem?]]at e;obtain⟨u,r,s,g,o⟩:=Jx (P:=P) i q e;refine⟨s::b,?_,.cons o j⟩;rw[List.mapM_cons];simp only[run_bind,J7,r,asAddr,Sem.run_pure,andThen_ok,g,n]
  grind
theorem J8{fn:Func}{a:Act}(m:ko β h W){g:List Value}(p:bp β g a.tmps.toList){d:List Value}(f:dE P g h fn.results.toList=some d):
  ∃e,(results fn a.tmps).run P W = .ok e W/\aD β (dJ d) e:=by
 obtain⟨b,n,c⟩:=sd (P:=P) m p fn.results.toList f;have q:(fn.results.mapM (J7 a.tmps)).run P W = .ok b.toArray W:=by
  rw[Array.mapM_eq_mapM_toList];simp only[Sem.run_map,n,andThen_ok]
 refine⟨if h:b.toArray.size=1 then b.toArray[0]else .tuple b.toArray,?_,?_⟩
 ·grind[ME,run_bind,andThen_ok,Sem.run_pure]
 ·match d,b,c with
  |[],b,c=>rw[c.fw];exact .tuple rfl λi v e h=>by grind
  |[v],b,c=>
   obtain⟨e,r,rfl,k,f⟩:=c.dz;rw[f.fw];exact k
  |v::u::d,b,c=>
   have l:=c.1;have j:¬b.toArray.size=1:=by simp only[List.size_toArray];simp only[length_cons]at l;omega
   rw[dif_neg j];exact .tuple (by omega) λi x o s t=>c.2 i x o (by grind) (by grind)
theorem A3.Hn(h:A3 β I G W){d:Option (List Deferred)}(q:W.heap[G.b]?=some (.deferred d)):False:=by
 cases I with
 |cells cs t i m=>obtain⟨_,_,_,g,k,n,_⟩:=h;grind
 |map l=>obtain⟨_,f,a,c,_⟩:=h;grind
 |loop o j p e b s=>obtain⟨_,r,c,_⟩:=h;grind
theorem Gd{w:World}(a:Step J g W β h w){b:Nat}{d l:Option (List Deferred)}(r:W.heap.size<=b)(j:w.heap[b]?=some (.deferred d)):Step J g W β h (w.putObj b (.deferred l)):=by
 refine⟨a.le,a.next,⟨λk c q=>?_,λk B c m n=>?_,a.pC.own,a.pC.wf⟩,?_,a.os,a.tape,a.output,λp f o=>?_,a.back,a.fresh,a.keys⟩
 ·rw[World.putObj_size];exact a.pC.lt k c q
 ·have i:=a.pC.blk k B c m n;refine i.of_heap (World.putObj_heap_other λe=>?_);rw[<-e]at j;exact i.Hn j
 ·grind[World.putObj_size]
 ·rw[World.putObj_heap_other (by omega)];exact a.kept p f o
theorem rO{F:Fence}{n:Nat}{fn:Func}{d f:dH}{g m:ae}{c:World}{q:List Value}{tmps:Array Value}{o:List Value}(i:dE P q m fn.results.toList=some o)(s:bp f q tmps.toList):
  ∀(h:List Nat)(e:World),h.Nodup->(∀b∈h,c.heap.size<=b/\e.heap[b]?=some (.deferred (some [])))->Step d g c f m e->LeavesInM F n P fn tmps (qd d g c (dJ o) m) (h.map He) .returning e
 |[],e,_,_,k=>by
  obtain⟨r,l,j⟩:=J8 (P:=P) (fn:=fn) (a:={ tmps:=tmps,defers:=[] }) k.pC s i;exact⟨r,l,r,f,rfl,k,j⟩
 |b::h,e,u,t,k=>by
  obtain⟨l,j⟩:=t b (by simp);obtain⟨v,p⟩:=List.nodup_cons.1 u;refine⟨by simp,.inl ⟨b,_,rfl,run_takeDeferred j,?_⟩⟩;refine rO i s h _ p (λx w=>?_) (Gd k l j)
  grind[World.putObj_heap_other]
def oP(P:Program)(gl:Nat->Bool)(f:FuncId)(p:uV):Prop:=
 ∀i,sW P gl i->∀b h v d,p i b h=some (v,d)->∀β w (a:Array Value),ko β h w->Gl gl β->bp β b a.toList->
  ∃g,P.funcs[f]?=some g/\((g.body.isSome=true/\Calls P f a w (qd β h w v d))\/
   (∃j e c,(callFunc f a).run P w = .ok (.value j) e/\Step β h w c d e/\aD c v j))
def rf(P:Program)(gl:Nat->Bool)(a:FuncId->Option uV):Prop:=∀f p,a f=some p->oP P gl f p
def H9(P:Program)(gl:Nat->Bool):Prop:=∀b,sW P gl b->∀(f:FuncId)(a:Func)(c d:Code),P.funcs[f]?=some a->a.body=some c->Part d c->mR P gl b d
theorem Cr(Q:fT P){x:dZ}(G:sW P gl x){N:Nat}{f:FuncId}{l:Func}{c:Code}(L:P.funcs[f]?=some l)(J:l.body=some c)(T:∀d,Part d c->mR P gl x d)
  {j:List Value} {h u:ae} {E:List Value} {e:Exit} {z:List Value} (V:bJ P gl x N c (j++List.replicate (l.ntmps-j.length) undef) h=some (e,E,u)) (R:e = .normal\/e = .ret)
  (y:dE P E u l.results.toList=some z) {w:World} {g:Array Value} (O:ko β h w) (W:Gl gl β) (I:bp β j g.toList):
  Calls P f g w (qd β h w (dJ z) u):=by
 refine(callsIn_wide (n:=0)).1 (callsIn_of_wp_marks (F:=Fence.wide) L J trivial ?_);have q:∀k,bp β (List.replicate k undef) (List.replicate k undef):=λk=>⟨rfl,λi v Y s t=>by
  rw[List.getElem?_replicate]at s t;split at s
  ·next S=>rw[if_pos S]at t;obtain rfl:=oI s;obtain rfl:=oI t;exact .undef β
  grind⟩
 have U:bp β (j++List.replicate (l.ntmps-j.length) undef) (g++Array.replicate (l.ntmps-g.size) undef).toList:=by
  have:g.size=j.length:=by rw[I.1];simp
  rw[this];simp only[Array.toList_append,Array.toList_replicate];exact I.append (q _)
 refine xg (r:=none) Q G c (.inl rfl) T _ V O W U λa K X H A D=>?_;obtain⟨M,p,B,o⟩:=D;simp only[List.append_nil]at p;have m:=rO (P:=P) (F:=Fence.wide) (n:=0) (fn:=l) y A M K B (λb C=>⟨(o b C).1,(o b C).2.2.1⟩) H;rw[<-p]at m;rcases R with rfl|rfl
 ·exact m
 ·exact m
theorem CI:∀(l:List (Tmp×Value))(T:Array Value),(l.foldl (λa (p:Tmp×Value)=>a.setIfInBounds p.1 p.2) T).toList=pX T.toList l
 |[],_=>rfl
 |p::l,T=>by
  simp only[foldl_cons,pX];rw[CI l,pX,Array.toList_setIfInBounds]
theorem bp.set(h:bp β c d)(i:Nat){v e:Value}(k:aD β v e):bp β (c.set i v) (d.set i e):=by
 refine⟨by simp[h.1],λj u g a b=>?_⟩;rw[List.getElem?_set]at a b;split at a
 ·grind
 ·next f=>rw[if_neg f]at b;exact h.2 j u g a b
theorem F6:∀(b:List Tmp){h d c a:List Value},bp β h d->bp β c a->bp β (pX h (b.zip c)) (pX d (b.zip a))
 |[],_,_,_,_,f,_=>by simp_all[pX]
 |p::b,_,_,[],_,f,e=>by rw[e.fw];simp_all[pX]
 |p::b,_,_,v::j,_,f,e=>by
  obtain⟨k,l,rfl,i,g⟩:=e.dz;exact F6 b (f.set p i) g
theorem kQ{a:dZ}(b:∀(d c:Code),Part d c->cP c=true->mR P gl a d){c:Code}(h:cP c=true):∀d,Part d c->mR P gl a d:=λd e=>b d c e h
theorem Wp(hN:fT P){cf:dZ}(M:sW P gl cf)(hD:∀(d c:Code),Part d c->cP c=true->mR P gl cf d){N k:Nat}{s:List Value}{h h':ae}{v:Value}(j:yM (bJ P gl cf N) k s h=some (v,h')){w:World}{i:Array Value}{p:Slot}
  (hs:ko β h w) (hg:Gl gl β) (ha:bp β s i.toList) (hb:β k=some p):
  ∃fn tmps z q,(Instr.yield p.b i).run P w = .ok (.round p.b fn tmps z q) w/\∀(r:Option Nat)(n:Nat),RoundIn (jY r) n P p.b fn tmps z q w (qd β h w v h'):=by
 unfold yM at j;split at j
 ·next tm ps z q ok hk=>
  split at j
  ·next U=>
   split at j
   ·next z5 h1 T=>
    split at j
    ·next x7 y6 x0 F y5 S=>
     split at j
     ·next e x h2 I=>
      split at j
      ·next z3 x9 y0 x4 H y8 b st L f=>
       simp only[Option.some.injEq,Prod.mk.injEq]at j;obtain⟨rfl,rfl⟩:=j;obtain⟨_,o,y1,z6,z0,O,rfl,rfl⟩:=hs.blk _ _ _ hk hb;have y2:i.size=o.params.size:=by
        have:=ha.1;rw[<-length_toList,<-this,U,<-O];simp
       refine⟨o.fn,_,o.assign,o.body,run_yield y1 y2,λr n=>?_⟩;simp only[rP,and_eq_true]at ok;obtain⟨⟨⟨x8,Z⟩,y7⟩,z1⟩:=ok;have x3:bp β (pX tm (ps.zip s)) ((o.params.zip i).foldl (λtmps (t,a)=>tmps.setIfInBounds t a) o.tmps).toList:=by
        rw[<-Array.foldl_toList,Array.toList_zip,O];have:=F6 ps z0 ha;rw[<-CI (ps.zip i.toList) o.tmps]at this;exact this
       refine roundIn_of_wpIn trivial ?_;refine xg (r:=some p.b) hN M o.assign (.inr y7) (kQ hD x8) _ T hs hg (a:={ tmps:=_,defers:=[] }) x3 λa1 w1 R m y9 _=>?_;have u:=m.le _ _ hb;obtain⟨_,Q,x2,X,V,W,G,B⟩:=m.pC.blk _ _ _ S u;have C:Step R h1 w1 R (h1.set k (.loop .busy x7 y6 x0 F y5)) (w1.putObj p.b (.loop { Q with state:= .busy })):=
        Step.at_ m.pC S u rfl (zi _ _ _) ⟨by assumption,{ Q with state:= .busy },World.putObj_heap_same (m.pC.lt _ _ u).2,rfl,V,W,G,B⟩
       refine⟨_,run_beginRound x2 X.1,?_⟩;have y:=m.trans C;refine xg (r:=some p.b) hN M o.body (.inr z1) (kQ hD Z) _ I C.pC (hg.mono y.le) y9 λa2 w2 y4 l z4 _=>?_;have A:=l.le _ _ u;obtain⟨x6,z7,x1,z2,x5,Y,J,D⟩:=l.pC.blk _ _ _ L A;have K:=y.trans l;have E:∀g:Option Code,b=g.isNone->KY st (if g.isNone then .ready else .done) g->
         ∃v w',(Instr.endRound p.b g).run P w2 = .ok v w'/\qd β h w (.bool b) (h2.set k (.loop st x9 y0 x4 H y8)) (.returned v) w':=λg hj y3=>by
        refine⟨_,_,run_endRound g x1,.bool g.isNone,y4,rfl,K.trans (Step.at_ l.pC L A rfl (zi _ _ _) ⟨x6,_,World.putObj_heap_same (l.pC.lt _ _ A).2,y3,x5,Y,J,D⟩),?_⟩;rw[hj];exact .bool _
       cases e with
       |normal=>simp only[AN,Option.some.injEq,Prod.mk.injEq]at f;obtain⟨rfl,rfl⟩:=f;exact E none rfl ⟨rfl,rfl⟩
       |ret=>simp only[AN,Option.some.injEq,Prod.mk.injEq]at f;obtain⟨rfl,rfl⟩:=f;exact E (some .ret) rfl ⟨rfl,rfl⟩
       |exit id=>simp only[AN,Option.some.injEq,Prod.mk.injEq]at f;obtain⟨rfl,rfl⟩:=f;exact E (some (.exit id)) rfl ⟨rfl,rfl⟩
       |_=>cases f
      ·cases j
     ·cases j
    ·cases j
   ·cases j
  ·cases j
 grind
def EV(P:Program)(gl:Nat->Bool):Prop:=∀a,sW P gl a->∀(d c:Code),Part d c->cP c=true->mR P gl a d
theorem Nw(t:fT P){A:FuncId->Option uV}(D:rf P gl A)(y:H9 P gl)(C:EV P gl):∀n,sW P gl (bY P gl A n)
 |0=>⟨λf b h v u _ a=>by grind[bY],λk b h v u a=>by grind[bY]⟩
 | n+1=>by
  have g:=Nw t D y C n;refine⟨λf b h v u H a β w j m s r=>?_,λk b h v u a β w j I m s r e=>?_⟩
  ·simp only[bY]at a;rw[if_neg (by omega)]at a;split at a
   ·next p B=>exact D f p B _ g b h v u a β w j m s r
   ·split at a
    ·next x l=>
     split at a
     ·next c e=>
      refine⟨x,l,.inl ⟨by simp[e],?_⟩⟩;split at a
      ·next F G o=>
       obtain⟨E,i,q⟩:=map_eq_some_iff.1 a;simp only[Prod.mk.injEq]at q;obtain⟨rfl,rfl⟩:=q;exact Cr t g l e (λd z=>y _ g f x c d l e z) o (.inl rfl) i m s r
      ·next F G o=>
       obtain⟨E,i,q⟩:=map_eq_some_iff.1 a;simp only[Prod.mk.injEq]at q;obtain⟨rfl,rfl⟩:=q;exact Cr t g l e (λd z=>y _ g f x c d l e z) o (.inr rfl) i m s r
      ·cases a
     ·cases a
    grind
  ·simp only[bY]at a;rw[if_pos (by omega),Nat.add_sub_cancel_left]at a;exact Wp t g (C _ g) a m s r e
end
section
variable {β:dH} {P:Program}
structure ze(h h':ae):Prop where
 next:h.next=h'.next
 get:∀k,h.get k=h'.get k
theorem ze.refl(h:ae):ze h h:=⟨rfl,λ_=>rfl⟩
theorem ze.symm(e:ze h g):ze g h:=⟨e.next.symm,λk=>(e.get k).symm⟩
theorem ko.same(e:ze h g)(b:ko β h W):ko β g W:=
 ⟨λk a f=>by rw[<-e.next];exact b.lt k a f,λk B a m d=>b.blk k B a (by rw[e.get];omega) d,
  λk j B o a i c m d l n p=>b.own k j B o a i c (by rw[e.get];omega) (by rw[e.get];omega) l n p,
  λk B f=>by rw[<-e.next];exact b.wf k B (by rw[e.get];omega)⟩
theorem Wr.same(e:ze h g){b:Nat}:Wr β h b->Wr β g b:=λ⟨k,B,a,d,c⟩=>⟨k,B,a,by rw[<-e.get];omega,c⟩
theorem Step.same{l a:ae}{j:World}(e:ze h g)(d:ze l a)(s:Step β h W J l j):Step β g W J a j:=
 ⟨s.le,by rw[<-e.next,<-d.next];exact s.next,s.pC.same d,s.size,s.os,s.tape,s.output,λb f n=>s.kept b f λc=>n (c.same e),λb f c=>(s.back b f (c.same d.symm)).same e,
  λk o m=>(s.fresh k o m).imp id λ⟨r,p⟩=>⟨by rw[<-e.next];omega,p.imp id λc=>c.same e⟩,
  λk B m q=>let⟨i,t⟩:=s.keys k B (by rw[d.get];omega) (by rw[e.next];omega);⟨i,by rw[<-e.get];omega⟩⟩
theorem ko.sub(b:ko β h W)(j:g.next=h.next)(c:∀k B,g.get k=some B->h.get k=some B):ko β g W:=
 ⟨λk a f=>by rw[j];exact b.lt k a f,λk B a d e=>b.blk k B a (c k B d) e,λk i B m a n l d e o p q=>b.own k i B m a n l (c k B d) (c i m e) o p q,
  λk B f=>by rw[j];exact b.wf k B (c k B f)⟩
theorem Step.frame{E V V':ae}{F:World}(s:Step β g W J E F)(p:ko β V W)(D:V.next=g.next)(x:V'.next=E.next)(R:Nat->dS->Prop)
  (u:∀k B,R k B->k<g.next/\g.get k=none) (n:∀k B,V.get k=some B↔g.get k=some B\/R k B) (l:∀k B,V'.get k=some B↔E.get k=some B\/R k B):Step β V W J V' F:=by
 have m:∀k a,k<g.next->J k=some a->β k=some a:=λk a f e=>by
  rcases s.fresh k a e with h|⟨h,_⟩
  all_goals omega
 have C:∀k B a,R k B->β k=some a->¬Wr β g a.b:=by
  rintro k B a H e ⟨G,N,I,c,d,q,o⟩;have r:G≠k:=by rintro rfl;rw[(u _ _ H).2]at c;cases c
  exact p.own G k N B I a r ((n _ _).2 (.inl c)) ((n _ _).2 (.inr H)) q e d o
 have A:∀b,Wr β g b->Wr β V b:=λb ⟨k,B,a,c,d⟩=>⟨k,B,a,(n _ _).2 (.inl c),d⟩
 refine⟨s.le,by rw[D,x];exact s.next,⟨?_,?_,?_,?_⟩,s.size,s.os,s.tape,s.output,λb e K=>s.kept b e λh=>K (A b h),?_,?_,?_⟩
 ·intro k a f;rw[x];exact s.pC.lt k a f
 ·intro k B a c d;rcases(l k B).1 c with c|c
  ·exact s.pC.blk k B a c d
  ·have e:=m k a (u _ _ c).1 d;exact((p.blk k B a ((n _ _).2 (.inr c)) e).mono s.le).of_heap (s.kept _ (p.lt k a e).2 (C k B a c e))
 ·intro k j B v a i r c d q o z;rcases(l k B).1 c with c|c
  ·rcases(l j v).1 d with d|d
   ·exact s.pC.own k j B v a i r c d q o z
   ·have e:=m j i (u _ _ d).1 o;intro L;exact C j v i d e (s.back _ (p.lt j i e).2 ⟨k,B,a,c,z,q,L⟩)
  ·have e:=m k a (u _ _ c).1 q;rcases(l j v).1 d with d|d
   ·rcases s.fresh j i o with y|⟨_,y|y⟩
    ·have w:=(p.lt j i y).1;obtain⟨t,M⟩:=s.keys j v d (by rw[<-D];exact w);exact p.own k j B t a i r ((n _ _).2 (.inr c)) ((n _ _).2 (.inl M)) e y z
    ·have:=(p.lt k a e).2;omega
    grind
   ·exact p.own k j B v a i r ((n _ _).2 (.inr c)) ((n _ _).2 (.inr d)) e (m j i (u _ _ d).1 o) z
 ·intro k B f;rw[x];rcases(l k B).1 f with f|f
  ·exact s.pC.wf k B f
  ·exact lt_of_lt_of_le (u _ _ f).1 s.next
 ·rintro b e ⟨k,B,a,c,d,q,o⟩;rcases(l k B).1 c with c|c
  ·exact A b (s.back b e ⟨k,B,a,c,d,q,o⟩)
  ·exact⟨k,B,a,(n _ _).2 (.inr c),d,m k a (u _ _ c).1 q,o⟩
 ·intro k a f;rcases s.fresh k a f with h|⟨c,d⟩
  all_goals grind
 ·intro k B f w;rcases(l k B).1 f with f|f
  ·obtain⟨t,O⟩:=s.keys k B f (by rw[<-D];exact w);exact⟨t,(n _ _).2 (.inl O)⟩
  grind
theorem qR.R7{w M:World}(m:Step J h W β g w){B:dS}{f:Nat->Value}{O:Value}(p:qR β w B f O M){k:Nat}(I:β k=none)(X:h.next<=k)(N:k<g.next):
  ∃t,Step J h W t (g.set k B) M/\aD t (f k) O/\β.le t/\∀j,j≠k->t j=β j:=by
 obtain⟨l,P,K⟩:=p.new;have y:=m.pC;have u:β.le (β.ext k l):=dH.CW l I;obtain⟨V,R⟩:=K _ k u (β.cE _ _);have L:∀a d,β a=some d->d.b<w.heap.size:=λa d I=>(y.lt a d I).2;have U:=m.size;refine⟨β.ext k l,⟨dH.le_trans m.le u,m.next,⟨?_,?_,?_,ae.wf_set y.wf B N⟩,by rw[p.size];omega,p.os.trans m.os,m.tape.trans p.tape,p.output.trans m.output,
  λb x Q=>(p.kept b (by omega)).trans (m.kept b x Q),?_,?_,?_⟩,R,u,λj S=>β.eN l S⟩
 ·intro a d e;by_cases c:a=k
  ·subst c;rw[β.cE]at e;obtain rfl:=oI e;exact⟨N,by rw[p.size,P];omega⟩
  ·rw[β.eN l c]at e;have:=y.lt a d e;exact⟨this.1,by rw[p.size];omega⟩
 ·intro a C d i n;by_cases c:a=k
  ·subst c;rw[β.cE]at n;obtain rfl:=oI n;rw[g.eu]at i
   grind
  ·rw[g.cV k a B c]at i;rw[β.eN l c]at n;exact((y.blk a C d i n).mono u).of_heap (p.kept _ (L a d n))
 ·intro q s F G E D z i n o r T;by_cases A:q=k
  ·subst A;rw[β.cE]at o;obtain rfl:=oI o;rw[β.eN l (Ne.symm z)]at r
   grind
  ·by_cases v:s=k
   ·subst v;rw[β.cE]at r;obtain rfl:=oI r;rw[β.eN l z]at o
    grind
   ·rw[g.cV k q B A]at i;rw[g.cV k s B v]at n;rw[β.eN l A]at o;rw[β.eN l v]at r;exact y.own q s F G E D z i n o r T
 ·rintro b x ⟨a,C,d,i,n,o,r⟩;by_cases c:a=k
  ·subst c;rw[β.cE]at o
   grind
  ·rw[g.cV k a B c]at i;rw[β.eN l c]at o;exact m.back b x ⟨a,C,d,i,n,o,r⟩
 ·intro a d e;by_cases c:a=k
  ·subst c;rw[β.cE]at e
   grind
  ·rw[β.eN l c]at e;exact m.fresh a d e
 ·intro a C i H;rw[g.cV k a B (by omega)]at i;exact m.keys a C i H
end
section
variable {P:Program} {ρ ρ':Operand->Value}
theorem acI{l:List (Nat×Operand)}(h:∀x∈l.map (·.2),ρ x=ρ' x):l.map (λp=>(p.1,ρ p.2))=l.map (λp=>(p.1,ρ' p.2)):=
 map_congr_left λp a=>by grind
theorem ad3{r:Option Operand}(h:∀x∈r.toList,ρ x=ρ' x):r.map ρ=r.map ρ':=by
 cases r with
 |none=>rfl
 |some x=>grind
theorem adH{l:List (Nat×Operand)}(h:∀x∈l.map (·.2),ρ x=ρ' x)(q:Value->Bool):(l.all λp=>q (ρ p.2))=l.all λp=>q (ρ' p.2):=by grind
theorem Hr{o:Oper}(h:∀x∈o.op.operands,ρ x=ρ' x):dr P ρ o=dr P ρ' o:=by
 obtain⟨l,j,n,k,g,f⟩:=o
 cases j
 case call c=>
  obtain⟨d,e,m⟩:=c
  cases d with
  |builtin b=>
   have i:e.toList.map ρ=e.toList.map ρ':=map_congr_left λx a=>h x (by simpa[Op.operands,Call.operands]using a)
   cases b<;>simp only[dr,i]
   split
   ·next x t a q=>rw[h x (by simp[Op.operands,Call.operands];exact Array.mem_of_getElem? a)]
   ·rfl
  |_=>rfl
 all_goals first
  |rfl
  |(simp only[Op.operands,Array.mem_append,List.mem_toArray,mem_cons,List.not_mem_nil,or_false,forall_eq_or_imp,forall_eq]at h;simp only[dr,h];done)
  |skip
 case build t p=>
  simp only[dr];rw[acI λx a=>h x (by simpa[Op.operands]using a)]
 grind[Array.map_congr_left,Op.operands,dr]
theorem Hs{o:Oper}(h:∀x∈o.op.operands,ρ x=ρ' x):cW P ρ o g=cW P ρ' o g:=by
 obtain⟨l,i,n,k,e,d⟩:=o
 cases i
 case call c=>
  obtain⟨a,j,m⟩:=c
  cases a with
  |builtin b=>
   cases b<;>simp only[cW]
   split
   ·next x t f p=>rw[h x (by simp[Op.operands,Call.operands];exact Array.mem_of_getElem? f)]
   ·rfl
  |_=>rfl
 all_goals first
  |rfl
  |(simp only[Op.operands,Array.mem_append,List.mem_toArray,mem_cons,List.not_mem_nil,or_false,forall_eq_or_imp,forall_eq]at h;simp only[cW,h];done)
  |skip
 grind[ad3,Op.operands,cW]
theorem EH{o:Oper}(h:∀x∈o.op.operands,ρ x=ρ' x):bV P ρ o=bV P ρ' o:=by
 obtain⟨i,e,k,g,c,b⟩:=o
 cases e
 all_goals first
  |rfl
  |(simp only[Op.operands,List.mem_toArray,mem_cons,List.not_mem_nil,or_false,forall_eq_or_imp,forall_eq]at h;simp only[bV,h];done)
  |skip
 case buildSlice t j f=>
  have a:∀x∈f.toList.map (·.2),ρ x=ρ' x:=λx d=>h x (by simpa[Op.operands]using d);simp only[bV];rw[acI a,adH a]
 grind[bV,Op.operands]
theorem JN{k:dZ}{o:Oper}(h:∀x∈o.op.operands,ρ x=ρ' x):gp P k ρ o g=gp P k ρ' o g:=by
 obtain⟨r,n,v,q,m,l⟩:=o
 cases n
 case call c=>
  obtain⟨e,a,u⟩:=c
  cases e with
  | builtin b=>
   have j:a.toList.map ρ=a.toList.map ρ':=map_congr_left λx d=>h x (by simpa[Op.operands,Call.operands]using d)
   cases b<;>simp only[gp,j]
   all_goals
    split
    ·next s x t w d z=>
     have i:∀y∈a.toList,ρ y=ρ' y:=λy p=>h y (by simpa[Op.operands,Call.operands]using p);rw[d]at i;rw[i s (by simp),i x (by simp)]
    ·rfl
  |value f=>
   have j:a.toList.map ρ=a.toList.map ρ':=map_congr_left λx d=>h x (by simp[Op.operands,Call.operands];right;simpa using d);simp only[gp,j,h f (by simp[Op.operands,Call.operands])]
  |_=>rfl
 all_goals simp_all[Op.operands,gp]
end
end Go.Ab
end
section
namespace Go.Ab
open Go Region
variable{i:Nat}{j:Nat}
structure GL(ops:Array Oper)(L:List Nat):Prop where
 mem:∀i,i∈L↔i<ops.size
 nodup:L.Nodup
 adY:∀pre i suf,L=pre++i::suf->∀o,ops[i]?=some o->∀e∈o.after,binds .any e=true->e.on∈pre
theorem O1{m:Region.Mode}{e:Edge}(h:binds .any e=true):binds m e=true:=by grind[binds]
def may(m:Region.Mode)(ops:Array Oper)(a:Array Bool)(i:Nat):Prop:=
 a.getD i true=false/\∃o,ops[i]?=some o/\∀e∈o.after,binds m e=true->a.getD e.on false=true
theorem wm{m:Region.Mode}{ops:Array Oper}{a:Array Bool}:
  i∈(List.range ops.size).filter (λi=> !a.getD i true&&((ops[i]?).map (·.after.all λe=> !binds m e||a.getD e.on false)).getD false)↔i<ops.size/\may m ops a i:=by
 simp only[mem_filter,mem_range,and_eq_true,Bool.not_eq_true',may]
 grind[Array.all_eq_true']
def left(ops:Array Oper)(a:Array Bool):List Nat:=(List.range ops.size).filter λi=> !a.getD i true
theorem CL{l:Array Bool}(d:Bool)(a:i<l.size):(l.setIfInBounds i true).getD j d=if j=i then true else l.getD j d:=by
 simp only[Array.getD_eq_getD_getElem?,Array.getElem?_setIfInBounds]
 grind
theorem Jn(m:Region.Mode)(ops:Array Oper):
  ∀(p t:Nat)(c:Array Bool)(d:List Nat),c.size=ops.size->(∀i,i∈d↔i<ops.size/\c.getD i true=true)->d.Nodup->
   (∀g i q,d.reverse=g++i::q->∀o,ops[i]?=some o->∀e∈o.after,binds m e=true->e.on∈g)->
   let L:=linearise.go m ops p t c d
   (∀i,i∈L->i<ops.size)/\L.Nodup/\∀g i q,L=g++i::q->∀o,ops[i]?=some o->∀e∈o.after,binds m e=true->e.on∈g
 |0,t,c,d,G,v,E,J=>by grind[linearise.go]
 | p+1,t,c,d,G,v,E,J=>by
  simp only[linearise.go];split
  ·next i A=>
   have A:=List.mem_of_getElem? A;obtain⟨H,u,o,I,z⟩:=wm.1 A;have y:i<c.size:=by omega
   have K:i∉d:=λh=>by have:=((v i).1 h).2;rw[u]at this;cases this
   have r:∀e∈o.after,binds m e=true->e.on∈d.reverse:=λe n s=>by
    rw[List.mem_reverse,v];have x:=z e n s;have:e.on<c.size:=by
     rcases lt_or_ge e.on c.size with C|C
     ·exact C
     ·simp[Array.getD_eq_getD_getElem?,Array.getElem?_eq_none C]at x
    exact⟨by omega,by simp only[Array.getD_eq_getD_getElem?,getElem?_eq_getElem this]at x⊢;exact x⟩
   refine Jn m ops p (t/_) (c.setIfInBounds i true) (i::d) (by simpa using G) ?_ (List.nodup_cons.2 ⟨K,E⟩) ?_
   ·intro j;rw[mem_cons,v,CL _ y];constructor
    ·rintro(rfl|⟨k,f⟩)
     ·exact⟨H,by simp⟩
     ·exact⟨k,by split<;>simp_all⟩
    ·rintro⟨k,f⟩;split at f
     ·next n=>exact .inl n
     ·exact .inr ⟨k,f⟩
   ·intro g j q w M l e n s;rw[List.reverse_cons]at w;rcases List.append_eq_append_iff.1 w with⟨D,k,f⟩|⟨B,k,f⟩
    ·cases D with
     |nil=>
      simp only[List.nil_append,List.cons.injEq]at f;obtain⟨rfl,rfl⟩:=f;rw[I]at l;obtain rfl:=oI l;rw[k,List.append_nil];exact r e n s
     |cons a D=>
      simp only[List.cons_append,List.cons.injEq]at f;obtain⟨_,f⟩:=f;have:=congrArg List.length f;simp at this
    ·cases B with
     |nil=>
      simp only[List.nil_append,List.cons.injEq]at f;obtain⟨rfl,rfl⟩:=f;rw[I]at l;obtain rfl:=oI l;have F:g=d.reverse:=by simpa using k.symm
      rw[F];exact r e n s
     |cons b B=>
      simp only[List.cons_append,List.cons.injEq]at f;obtain⟨rfl,_⟩:=f;exact J g j B k M l e n s
  grind
theorem Tb(m:Region.Mode)(ops:Array Oper)(e:∀a:Array Bool,a.size=ops.size->(∃i,i<ops.size/\a.getD i true=false)->∃i,i<ops.size/\may m ops a i):
  ∀(b t:Nat)(a:Array Bool)(c:List Nat),a.size=ops.size->(left ops a).length<=b->(∀i,i<ops.size->a.getD i true=true->i∈c)->
   ∀i,i<ops.size->i∈linearise.go m ops b t a c
 |0,t,a,c,p,w,z=>λi h=>by simp_all[linearise.go,left]
 | b+1,t,a,c,p,w,z=>by
  simp only[linearise.go];split
  ·next i g=>
   have g:=List.mem_of_getElem? g;obtain⟨r,k,_⟩:=wm.1 g;have f:i<a.size:=by omega
   refine Tb m ops e b (t/_) (a.setIfInBounds i true) (i::c) (by grind) ?_ ?_
   ·have n:∀j,j∈left ops (a.setIfInBounds i true)->j∈left ops a/\j≠i:=by
     intro j d;simp only[left,mem_filter,mem_range,Bool.not_eq_true',CL _ f]at d⊢;split at d
     ·exact absurd d.2 (by simp)
     ·next q=>exact⟨d,q⟩
    have B:i∈left ops a:=mem_filter.2 ⟨mem_range.2 r,by rw[k];rfl⟩;have o:(left ops (a.setIfInBounds i true)).Nodup:=List.Pairwise.filter _ List.nodup_range;have:(left ops (a.setIfInBounds i true)).length<=((left ops a).erase i).length:=by
     refine List.Nodup.length_le_of_subset o λj d=>?_;obtain⟨v,A⟩:=n j d;exact(List.mem_erase_of_ne A).2 v
    grind
   ·intro j d l;rw[CL _ f]at l
    grind
  ·next s=>
   intro i g;rw[List.mem_reverse]
   cases l:a.getD i true with
   |true=>grind
   |false=>
    obtain⟨C,x,y⟩:=e a p ⟨i,g,l⟩;have u:=wm.2 ⟨x,y⟩
    grind[Nat.mod_lt]
theorem Jv(ops:Array Oper)(a:Array Bool):(left ops a).length<=ops.size:=by grind[left]
theorem Fz(m:Region.Mode)(ops:Array Oper)(t:Nat):
  (∀i,i∈linearise m ops t->i<ops.size)/\(linearise m ops t).Nodup/\∀a i b,linearise m ops t=a++i::b->∀o,ops[i]?=some o->∀e∈o.after,binds m e=true->e.on∈a:=by
 refine Jn m ops ops.size t _ [] (by simp) (λi=>?_) List.nodup_nil (λa i b h=>by simp at h)
 simp_all
theorem XU(m:Region.Mode)(ops:Array Oper)(t:Nat)(b:∀a:Array Bool,a.size=ops.size->(∃i,i<ops.size/\a.getD i true=false)->∃i,i<ops.size/\may m ops a i):
  ∀i,i<ops.size->i∈linearise m ops t:=by
 refine Tb m ops b ops.size t _ [] (by simp) (Jv _ _) λi c d=>?_
 simp_all
def KW(ops:Array Oper):Prop:=∀i o,ops[i]?=some o->∀e∈o.after,e.on<i\/binds .any e=false/\binds .text e=false
theorem ZD{p:Nat->Prop}[DecidablePred p]:∀(n:Nat),(∃i,i<n/\p i)->∃i,i<n/\p i/\∀j,j<i->¬p j
 |0,⟨_,h,_⟩=>absurd h (by omega)
 |n+1,h=>by
  by_cases c:∃i,i<n/\p i
  ·obtain⟨i,d,b,a⟩:=ZD n c;exact⟨i,by omega,b,a⟩
  grind
theorem FL{m:Region.Mode}{ops:Array Oper}(g:∀i o,ops[i]?=some o->∀e∈o.after,binds m e=true->e.on<i):
  ∀a:Array Bool,a.size=ops.size->(∃i,i<ops.size/\a.getD i true=false)->∃i,i<ops.size/\may m ops a i:=by
 intro a j b;obtain⟨i,c,d,h⟩:=ZD ops.size b;refine⟨i,c,d,ops[i],getElem?_eq_getElem c,λe k f=>?_⟩
 grind
theorem Jh{p:Nat->Prop}[DecidablePred p]:∀(L:List Nat),(∃i∈L,p i)->∃a i b,L=a++i::b/\p i/\∀j∈a,¬p j
 |[],⟨_,h,_⟩=>by cases h
 | x::L,h=>by
  by_cases d:p x
  ·exact⟨[],x,L,rfl,d,λj k=>by grind⟩
  ·obtain⟨i,c,e⟩:=h;rcases mem_cons.1 c with rfl|c
   ·grind
   ·obtain⟨a,j,b,rfl,f,g⟩:=Jh L ⟨i,c,e⟩
    grind
theorem Qa{m:Region.Mode}{ops:Array Oper}(z:(linearise m ops 0).length=ops.size):
  ∀a:Array Bool,a.size=ops.size->(∃i,i<ops.size/\a.getD i true=false)->∃i,i<ops.size/\may m ops a i:=by
 intro a x k;obtain⟨n,t,s⟩:=Fz m ops 0;have f:∀i,i<ops.size->i∈linearise m ops 0:=by
  intro i d;refine Classical.byContradiction λq=>?_;have g:(i::linearise m ops 0).Nodup:=List.nodup_cons.2 ⟨q,t⟩;have:=List.Nodup.length_le_of_subset (l₂:=List.range ops.size) g λj b=>by
   rcases mem_cons.1 b with rfl|b
   ·exact mem_range.2 d
   ·exact mem_range.2 (n j b)
  simp at this;omega
 obtain⟨i,d,r⟩:=k;obtain⟨o,j,h,c,v,y⟩:=Jh (p:=λi=>a.getD i true=false) _ ⟨i,f i d,r⟩;have b:j<ops.size:=n j (by rw[c];simp);refine⟨j,b,v,ops[j],getElem?_eq_getElem b,λe u l=>?_⟩;have w:=s o j h c _ (getElem?_eq_getElem b) e u l
 grind
theorem vL{ops:Array Oper}(l:KW ops)(v:departs ops=true->(linearise .gc ops 0).length=ops.size)(g:Bool)(t:Nat):GL ops (schedule g ops t):=by
 have b:∀(m:Region.Mode)(t:Nat),(∀a:Array Bool,a.size=ops.size->(∃i,i<ops.size/\a.getD i true=false)->∃i,i<ops.size/\may m ops a i)->GL ops (linearise m ops t):=by
  intro m t u;obtain⟨r,s,q⟩:=Fz m ops t;exact⟨λi=>⟨r i,XU m ops t u i⟩,s,λp i n h o f e d c=>q p i n h o f e d (O1 c)⟩
 have k:∀i o,ops[i]?=some o->∀e∈o.after,binds .any e=true->e.on<i:=λi o f e d c=>by
  rcases l i o f e d with h|⟨h,_⟩
  all_goals grind
 have j:∀i o,ops[i]?=some o->∀e∈o.after,binds .text e=true->e.on<i:=λi o f e d c=>by
  rcases l i o f e d with h|⟨_,h⟩
  all_goals grind
 unfold schedule;split
 ·exact b _ _ (FL k)
 ·next w=>
  split
  ·exact b _ _ (FL j)
  ·refine b _ _ (Qa (v ?_))
   grind
end Go.Ab
end
section
namespace Go.Ab
open Go
variable{j:Nat}{c:List Value}{v:Value}{h:ae}
section
variable {P:Program} {gl:Nat->Bool}
theorem ur{e:Value->Value->Bool}(c:∀a b,e a b=true->a=b):∀{x y:List Value},Ry e x y=true->x=y
 |[],[],_=>rfl
 |[],_::_,h=>by grind[Ry]
 |_::_,[],h=>by grind[Ry]
 |a::x,b::y,h=>by
  simp only[Ry,and_eq_true]at h;rw[c a b h.1,ur c h.2]
theorem oB:∀(d:Nat)(a b:Value),dG d a b=true->a=b
 |0,_,_,h=>by grind[dG]
 | d+1,a,b,h=>by
  have e:=oB d;have f:∀{x y:Array Value},Ry (dG d) x.toList y.toList=true->x=y:=λc=>Array.ext' (ur e c);unfold dG at h;split at h
  ·simpa using h
  ·simp only[and_eq_true,decide_eq_true_eq]at h;rw[h.1,h.2]
  ·next x y=>
   simp only[decide_eq_true_eq]at h;have:x=y:=by
    obtain⟨x⟩:=x;obtain⟨y⟩:=y;congr 1;exact Array.ext' h
   rw[this]
  all_goals grind
structure Ci(ops:Array Oper)(bf:Nat->Nat->Bool):Prop where
 lt:∀j i,bf j i=true->i<j
 trans:∀k j i,bf k j=true->bf j i=true->bf k i=true
 Rj:∀L,GL ops L->∀pre j suf,L=pre++j::suf->∀i,bf j i=true->i∈pre
 names:∀(j:Nat)(o:Oper)(t:Tmp),ops[j]?=some o->Operand.tmp t∈o.op.operands->∀(i:Nat)(o':Oper),ops[i]?=some o'->o'.dst=some t->i=j\/bf j i=true\/bf i j=true
 guards:∀(j:Nat)(o:Oper)(i:Nat)(b:Bool),ops[j]?=some o->o.guard=some (i,b)->bf j i=true
 uniq:∀(i j:Nat)(o o':Oper)(t:Tmp),ops[i]?=some o->ops[j]?=some o'->o.dst=some t->o'.dst=some t->i=j
abbrev KX:=List Value×ae×List (Nat×dS)
def One(P:Program)(gl:Nat->Bool)(cf:dZ)(ops:Array Oper)(bf:Nat->Nat->Bool)(base j:Nat)(o:Oper)(s:KX)(e:sD)(a:KX):Prop:=
 match e with
 |.skip=>jh ops s.1 o=some false/\a=(jx s.1 o.dst undef,s.2.1,s.2.2)
 |.pure v=>jh ops s.1 o=some true/\dr P (ev gl s.1) o=some v/\a=(jx s.1 o.dst v,s.2.1,s.2.2)
 |.read v=>jh ops s.1 o=some true/\cW P (ev gl s.1) o s.2.1=some v/\a=(jx s.1 o.dst v,s.2.1,s.2.2)
 |.alloc B v=>jh ops s.1 o=some true/\(∃f,bV P (ev gl s.1) o=some (B,f)/\v=f (base+j))/\a=(jx s.1 o.dst v,s.2.1,(j,B)::s.2.2)
 | .BE v b=>jh ops s.1 o=some true/\(∃u,gp P cf (ev gl s.1) o (cj s.2.1 base (s.2.2.filter λp=>bf j p.1))=some (v,u)/\b=u.app (cj s.2.1 base (s.2.2.filter λp=>bf j p.1)))/\
   a=(jx s.1 o.dst v,b,s.2.2.filter λp=> !bf j p.1)
theorem tj{cf:dZ}{ops:Array Oper}{bf:Nat->Nat->Bool}{base:Nat}:∀(a:List Oper)(j:Nat)(s:KX)(b:List (List Value×sD))(d:KX),
  fu P gl cf ops bf base a j s.1 s.2.1 s.2.2=some (b,d)->∃(st:Nat->KX)(en:Nat->sD),st j=s/\st (j+a.length)=d/\b.length=a.length/\
   ∀i o,a[i]?=some o->One P gl cf ops bf base (j+i) o (st (j+i)) (en (j+i)) (st (j+i+1))/\b[i]?=some ((st (j+i)).1,en (j+i))
 |[],j,s,b,d,h=>by
  simp only[fu,Option.some.injEq,Prod.mk.injEq]at h;obtain⟨rfl,rfl⟩:=h;exact⟨λ_=>s,λ_=> .skip,rfl,rfl,rfl,λi o A=>by grind⟩
 | o::a,j,s,b,d,h=>by
  have k:∀(e:sD)(m:KX)(r:List (List Value×sD)×KX),One P gl cf ops bf base j o s e m->fu P gl cf ops bf base a (j+1) m.1 m.2.1 m.2.2=some r->((s.1,e)::r.1,r.2)=(b,d)->
    ∃(st:Nat->KX)(en:Nat->sD),st j=s/\st (j+(o::a).length)=d/\b.length=(o::a).length/\
     ∀i q,(o::a)[i]?=some q->One P gl cf ops bf base (j+i) q (st (j+i)) (en (j+i)) (st (j+i+1))/\b[i]?=some ((st (j+i)).1,en (j+i)):=by
   intro e m r t c p;obtain⟨st,en,x,y,w,z⟩:=tj a (j+1) m r.1 r.2 c;simp only[Prod.mk.injEq]at p;obtain⟨rfl,rfl⟩:=p;refine⟨λi=>if i=j then s else st i,λi=>if i=j then e else en i,by simp,?_,by grind,?_⟩
   ·grind
   ·grind
  simp only[fu]at h;split at h
  ·cases h
  ·next n=>
   obtain⟨r,c,g⟩:=map_eq_some_iff.1 h;exact k .skip (jx s.1 o.dst undef,s.2.1,s.2.2) r ⟨n,rfl⟩ c g
  ·next n=>
   split at h
   ·next v l=>
    obtain⟨r,c,g⟩:=map_eq_some_iff.1 h;exact k (.pure v) (jx s.1 o.dst v,s.2.1,s.2.2) r ⟨n,l,rfl⟩ c g
   ·split at h
    ·next v l=>
     obtain⟨r,c,g⟩:=map_eq_some_iff.1 h;exact k (.read v) (jx s.1 o.dst v,s.2.1,s.2.2) r ⟨n,l,rfl⟩ c g
    ·split at h
     ·next B f l=>
      obtain⟨r,c,g⟩:=map_eq_some_iff.1 h;exact k (.alloc B (f (base+j))) (jx s.1 o.dst (f (base+j)),s.2.1,(j,B)::s.2.2) r ⟨n,⟨f,l,rfl⟩,rfl⟩ c g
     ·split at h
      ·next v u l=>
       obtain⟨r,c,g⟩:=map_eq_some_iff.1 h;exact k (.BE v _) (jx s.1 o.dst v,_,_) r ⟨n,⟨u,l,rfl⟩,rfl⟩ c g
      grind
def sD.fB:sD->Bool
 |.BE .. =>true
 |_=>false
structure Np(P:Program)(gl:Nat->Bool)(cf:dZ)(ops:Array Oper)(bf:Nat->Nat->Bool)(base:Nat)(st:Nat->KX)(en:Nat->sD):Prop where
 one:∀i o,ops[i]?=some o->One P gl cf ops bf base i o (st i) (en i) (st (i+1))
 chain:∀e₁ e₂,e₁<e₂->e₂<ops.size->(en e₁).fB=true->(en e₂).fB=true->bf e₂ e₁=true
 reads:∀j o v,ops[j]?=some o->en j = .read v->∀c,c<=ops.size->(∀e,e<c->(en e).fB=true->bf e j=false)->(∀e,c<=e->e<ops.size->(en e).fB=true->bf j e=false)->
  cW P (ev gl (st j).1) o (st c).2.1=some v
section
variable {cf:dZ} {ops:Array Oper} {bf:Nat->Nat->Bool} {base:Nat} {st:Nat->KX} {en:Nat->sD}
theorem One.heap{o:Oper}{s a:KX}{e:sD}(h:One P gl cf ops bf base j o s e a):(∀v b,e = .BE v b->a.2.1=b)/\(e.fB=false->a.2.1=s.2.1):=by
 cases e<;>simp only[One]at h
 all_goals grind[sD.fB]
theorem One.tm{o:Oper}{s a:KX}{e:sD}(h:One P gl cf ops bf base j o s e a):a.1=jx s.1 o.dst e.val:=by
 cases e<;>simp only[One]at h
 ·rw[h.2];rfl
 ·rw[h.2.2];rfl
 ·rw[h.2.2];rfl
 ·rw[h.2.2];rfl
 ·rw[h.2.2];rfl
theorem rB(b:∀k j i,bf k j=true->bf j i=true->bf k i=true):∀(a:List (List Value×sD))(i x:Nat)(c:ae),jQ bf ((x,c)::ir a i)=true->
  ∀k r,a[k]?=some r->r.2.fB=true->bf (i+k) x=true
 |[],i,x,c,h,k,r,f,d=>by grind
 | (l,e)::a,i,x,c,h,k,r,f,d=>by
  cases e with
  | BE v g=>
   simp only[ir,jQ,and_eq_true]at h
   cases k with
   |zero=>grind
   |succ k=>
    have:=rB b a (i+1) i g h.2 k r (by simpa using f) d
    grind
  | _=>
   simp only[ir]at h
   cases k with
   |zero=>grind[sD.fB]
   |succ k=>
    have:=rB b a (i+1) x c h k r (by simpa using f) d
    grind
theorem GQ{x:Nat×ae}{l:List (Nat×ae)}(h:jQ bf (x::l)=true):jQ bf l=true:=by
 cases l with
 |nil=>rfl
 |cons y l=>simp_all[jQ]
theorem vw(g:∀k j i,bf k j=true->bf j i=true->bf k i=true):∀(c:List (List Value×sD))(i:Nat),jQ bf (ir c i)=true->
  ∀b a f d,b<a->c[b]?=some f->c[a]?=some d->f.2.fB=true->d.2.fB=true->bf (i+a) (i+b)=true
 |[],i,h,b,a,f,d,m,l,p,o,q=>by grind
 | (t,e)::c,i,h,b,a,f,d,m,l,p,o,q=>by
  cases a with
  |zero=>omega
  | succ a=>
   have n:c[a]?=some d:=by simpa using p
   cases b with
   |zero=>
    simp only[List.getElem?_cons_zero,Option.some.injEq]at l;subst l
    cases e with
    |BE v r=>grind[rB,ir]
    |_=>grind[sD.fB]
   | succ b=>
    have s:jQ bf (ir c (i+1))=true:=by
     cases e with
     |BE v r=>simp only[ir]at h;exact GQ h
     |_=>simpa only[ir]using h
    have:=vw g c (i+1) s b a f d (by omega) (by simpa using l) n o q
    grind
theorem tQ{o:Oper}(a:qM P gl o c v h=true):cW P (ev gl c) o h=some v:=by grind[oB,qM]
theorem oj{j:Nat}{o:Oper}{w:List Value}{v:Value}{N:Nat}(C:j<N)(m:∀c,c<=N->(∀e,j<=e->e<c->(en e).fB=false)->(∀e,c<=e->e<j->(en e).fB=false)->cW P (ev gl w) o (st c).2.1=some v):
  ∀(a:List (List Value×sD))(i:Nat)(b:Bool),(∀k r,a[k]?=some r->r.2=en (i+k))->i+a.length=N->
  (∀k,i<=k->k<i+a.length->(∀v s,en k = .BE v s->(st (k+1)).2.1=s)/\((en k).fB=false->(st (k+1)).2.1=(st k).2.1))->
  (b=true->∀e,j<=e->e<i->(en e).fB=false)->
  qn P gl bf j o w v (st i).2.1 (ir a i) b=true->∀c,i<=c->c<=i+a.length->(∀e,i<=e->e<c->(en e).fB=true->bf e j=false)->
  (∀e,c<=e->e<i+a.length->(en e).fB=true->bf j e=false)->cW P (ev gl w) o (st c).2.1=some v
 |[],i,b,q,A,g,H,h,c,F,B,z,t=>by
  simp only[ir,qn,Bool.or_eq_true]at h;simp only[List.length_nil]at B A
  grind[tQ]
 | (D,e)::a,i,b,q,A,g,H,h,c,F,B,z,t=>by
  simp only[length_cons]at B t g A;have G:e=en i:=q 0 (D,e) rfl;have n:∀k r,a[k]?=some r->r.2=en (i+1+k):=λk r O=>by
   rw[show i+1+k=i+(k+1) by omega];exact q (k+1) r (by grind)
  have l:∀k,i+1<=k->k<i+1+a.length->_:=λk K I=>g k (by omega) (by omega)
  cases J:e.fB with
  | true=>
   cases e with
   | BE u s=>
    simp only[ir,qn,and_eq_true,Bool.or_eq_true]at h;have x:=(g i (by omega) (by omega)).1 u s G.symm;by_cases E:c=i
    ·grind[Nat.blt_eq,tQ]
    ·rcases h.2 with p|p
     ·grind
     ·rw[<-x]at p;refine oj C m a (i+1) _ n (by omega) l ?_ p c (by omega) (by omega) (λe f d=>z e (by omega) d) (λe f d=>t e f (by omega))
      grind[Nat.blt_eq]
   |_=>grind[sD.fB]
  | false=>
   have x:=(g i (by omega) (by omega)).2 (by grind);have p:qn P gl bf j o w v (st (i+1)).2.1 (ir a (i+1)) b=true:=by
    rw[x]
    cases e with
    |BE u s=>grind[sD.fB]
    |_=>grind[ir]
   have y:b=true->∀e,j<=e->e<i+1->(en e).fB=false:=λM L f d=>by grind
   by_cases E:c=i
   ·subst E;rw[<-x];exact oj C m a (c+1) b n (by omega) l y p (c+1) (by omega) (by omega) (λe f d=>by omega) (λe f d=>t e (by omega) (by omega))
   ·exact oj C m a (i+1) b n (by omega) l y p c (by omega) (by omega) (λe f d=>z e (by omega) d) (λe f d=>t e f (by omega))
theorem vJ{f:ae}{d:List (Nat×ae)}:∀(c:List Oper)(a:List (List Value×sD))(j:Nat),oq P gl bf f d c a j=true->
  ∀(i:Nat)(o:Oper)(b:List Value)(v:Value),c[i]?=some o->a[i]?=some (b,.read v)->qn P gl bf (j+i) o b v f d true=true
 |[],_,_,_,i,o,b,v,g,_=>by grind
 |_::_,[],_,_,i,o,b,v,_,k=>by grind
 | n::c,(m,e)::a,j,h,i,o,b,v,g,k=>by
  have l:oq P gl bf f d c a (j+1)=true:=by
   cases e<;>simp only[oq,and_eq_true]at h<;>first|exact h|grind
  cases i with
  |zero=>simp_all[oq]
  |succ i=>
   have:=vJ c a (j+1) l i o b v (by simpa using g) (by simpa using k)
   grind
theorem IZ(S:Ci ops bf){B z:List Value}{h N:ae}(p:BD P gl cf ops bf B h=some (z,N)):
  ∃st en,Np P gl cf ops bf h.next st en/\st 0=(B,{ h with next:=h.next+ops.size },[])/\(st ops.size).1=z/\N=cj (st ops.size).2.1 h.next (st ops.size).2.2:=by
 unfold BD at p;split at p
 ·next f F T pd V=>
  split at p
  ·next s=>
   simp only[and_eq_true]at s;simp only[Option.some.injEq,Prod.mk.injEq]at p;obtain⟨rfl,rfl⟩:=p;obtain⟨st,en,L,q,H,g⟩:=tj (P:=P) (gl:=gl) (cf:=cf) ops.toList 0 (B,{ h with next:=h.next+ops.size },[]) f (F,T,pd) V;simp only[Nat.zero_add,length_toList,getElem?_toList]at q H g;refine⟨st,en,⟨λi o n=>(g i o n).1,?_,?_⟩,L,by rw[q],by rw[q]⟩
   ·intro x w b K O Q;have:=vw S.trans f 0 s.1 x w _ _ b (g x _ (getElem?_eq_getElem (by omega))).2 (g w _ (getElem?_eq_getElem K)).2 O Q;simpa using this
   ·intro j o v n A c W J G;have u:=(g j o n).2;rw[A]at u;have C:=vJ ops.toList f 0 s.2 j o _ v (by simpa using n) u;rw[Nat.zero_add]at C;have U:(st 0).2.1={ h with next:=h.next+ops.size }:=by rw[L]
    rw[<-U]at C;have m:∀c d,c+d<=ops.size->(∀e,c<=e->e<c+d->(en e).fB=false)->(st (c+d)).2.1=(st c).2.1:=by
     intro c d
     induction d with
     |zero=>intros;rfl
     |succ d R=>
      intro Y D;have:=((g (c+d) _ (getElem?_eq_getElem (by omega))).1).heap.2 (D (c+d) (by omega) (by omega));rw[show c+(d+1)=c+d+1 by omega,this];exact R (by omega) λe a t=>D e a (by omega)
    have I:j<ops.size:=(Array.getElem?_eq_some_iff.1 n).1;have l:=(g j o n).1;rw[A]at l;simp only[One]at l;refine oj (st:=st) (en:=en) I ?_ f 0 true (λk r y=>by
      have b:k<ops.size:=by rw[<-H];exact(List.getElem?_eq_some_iff.1 y).1
      have:=(g k _ (getElem?_eq_getElem b)).2;rw[this]at y;obtain rfl:=oI y;simp) (by omega)
     (λk _ y=>by
      have b:k<ops.size:=by omega
      exact((g k _ (getElem?_eq_getElem b)).1).heap) (λ_ e _ Z=>by omega) C c (by omega) (by omega) (λe _=>J e) (λe a t=>G e a (by omega))
    intro c W M E;rcases lt_or_ge j c with b|X
    ·have:=m j (c-j) (by omega) λe a t=>M e a (by omega);rw[show j+(c-j)=c by omega]at this;rw[this];exact l.2.1
    ·have:=m c (j-c) (by omega) λe a t=>E e a (by omega);rw[show c+(j-c)=j by omega]at this;rw[<-this];exact l.2.1
  ·cases p
 grind
end
end
variable{x:List Nat}{J:dH}
section
variable {P:Program} {gl:Nat->Bool}
theorem oV{h:ae}{base:Nat}:∀(R:List (Nat×dS)),(∀i B a,(i,B)∈R->(i,a)∈R->B=a)->(∀i B,(i,B)∈R->h.get (base+i)=none)->
  ∀k B,(cj h base R).get k=some B↔h.get k=some B\/ ∃i,k=base+i/\(i,B)∈R
 |[],_,_,k,B=>by simp[cj]
 |(j,c)::R,e,d,k,B=>by
  have g:=oV R (λi B a b f=>e i B a (mem_cons_of_mem _ b) (mem_cons_of_mem _ f)) (λi B b=>d i B (mem_cons_of_mem _ b)) k B;simp only[cj,ae.aw]
  grind
theorem hK{h:ae}{base:Nat}:∀(R:List (Nat×dS)),(cj h base R).next=h.next
 |[]=>rfl
 |_::R=>hK R
theorem nq(a:List Value)(d:Option Tmp)(v:Value):(jx a d v).length=a.length:=by cases d<;>simp[jx]
theorem NY{d:Option Tmp}{t:Tmp}(h:d≠some t):(jx c d v)[t]?=c[t]?:=by
 cases d with
 |none=>rfl
 |some d=>simp_all[jx]
theorem Qc{t:Tmp}(h:t<c.length):(jx c (some t) v)[t]?=some v:=by grind[jx]
section
variable {cf:dZ} {ops:Array Oper} {bf:Nat->Nat->Bool} {base:Nat} {st:Nat->KX} {en:Nat->sD}
theorem Np.mO(a:Np P gl cf ops bf base st en):∀i,i<=ops.size->(st i).1.length=(st 0).1.length
 |0,_=>rfl
 |i+1,h=>by
  rw[(a.one i _ (getElem?_eq_getElem (by omega))).tm,nq];exact a.mO i (by omega)
theorem Np.M3(e:Np P gl cf ops bf base st en)(t:Tmp):∀i,i<=ops.size->(∀(b:Nat)(a:Oper),b<i->ops[b]?=some a->a.dst≠some t)->(st i).1[t]?=(st 0).1[t]?
 |0,_,_=>rfl
 |i+1,h,c=>by
  have d:=getElem?_eq_getElem (xs:=ops) (i:=i) (by omega);rw[(e.one i _ d).tm,NY (c i _ (by omega) d)];exact e.M3 t i (by omega) λb a g f=>c b a (by omega) f
theorem Np.HR(j:Ci ops bf)(e:Np P gl cf ops bf base st en){t:Tmp}(l:t<(st 0).1.length){b:Nat}{d:Oper}(a:ops[b]?=some d)(f:d.dst=some t):∀i,i<=ops.size->b<i->(st i).1[t]?=some (en b).val
 |0,_,h=>absurd h (by omega)
 |i+1,h,m=>by
  have c:=getElem?_eq_getElem (xs:=ops) (i:=i) (by omega);rw[(e.one i _ c).tm];by_cases k:b=i
  ·subst k;rw[a]at c;obtain rfl:=oI c;rw[f,Qc (by rw[e.mO _ (by omega)];omega)]
  ·rw[NY λg=>k (j.uniq b i d _ t a c f g)];exact e.HR j l a f i (by omega) (by omega)
theorem Np.zX(b:Np P gl cf ops bf base st en){c:Nat}:∀(d:Nat),c+d<=ops.size->(∀e,c<=e->e<c+d->(en e).fB=false)->(st (c+d)).2.1=(st c).2.1
 |0,_,_=>rfl
 |d+1,h,a=>by
  rw[show c+(d+1)=c+d+1 by omega,(b.one (c+d) _ (getElem?_eq_getElem (by omega))).heap.2 (a _ (by omega) (by omega))];exact b.zX d (by omega) λe f g=>a e f (by omega)
def A8(bf:Nat->Nat->Bool)(en:Nat->sD)(c i:Nat)(B:dS):Prop:=(∃v,en i = .alloc B v)/\∀e,e<c->(en e).fB=true->bf e i=false
theorem Np.aaP(q:Ci ops bf)(r:Np P gl cf ops bf base st en)(u:(st 0).2.2=[]):∀m,m<=ops.size->∀i B,(i,B)∈(st m).2.2↔i<m/\A8 bf en m i B
 |0,_,i,B=>by grind
 | m+1,h,i,B=>by
  have l:=r.aaP q u m (by omega) i B;have a:=r.one m _ (getElem?_eq_getElem (by omega));have f:(en m).fB=false->(∀B v,en m≠ .alloc B v)->(i<m+1/\A8 bf en (m+1) i B↔i<m/\A8 bf en m i B):=λy x=>by
   constructor
   ·rintro⟨k,⟨v,c⟩,d⟩;refine⟨?_,⟨v,c⟩,λe j=>d e (by omega)⟩
    grind
   ·rintro⟨k,c,d⟩;refine⟨by omega,c,λe j g=>?_⟩
    grind
  cases b:en m with
  |skip=>
   rw[b]at a;simp only[One]at a;rw[a.2,l,f (by rw[b];rfl) (by grind)]
  |pure v=>
   rw[b]at a;simp only[One]at a;rw[a.2.2,l,f (by rw[b];rfl) (by grind)]
  |read v=>
   rw[b]at a;simp only[One]at a;rw[a.2.2,l,f (by rw[b];rfl) (by grind)]
  | alloc t v=>
   rw[b]at a;simp only[One]at a;rw[a.2.2];simp only[mem_cons,Prod.mk.injEq];rw[l];constructor
   ·rintro(⟨rfl,rfl⟩|⟨k,c,d⟩)
    ·refine⟨by omega,⟨v,b⟩,λe j _=>?_⟩
     cases s:bf e i with
     |false=>rfl
     |true=>have:=q.lt _ _ s;omega
    ·refine⟨by omega,c,λe j g=>?_⟩;rcases lt_or_ge e m with n|n
     ·grind
     ·obtain rfl:e=m:=by omega
      rw[b]at g;cases g
   ·rintro⟨k,⟨o,c⟩,d⟩;rcases lt_or_ge i m with n|n
    ·exact .inr ⟨n,⟨o,c⟩,λe j=>d e (by omega)⟩
    grind
  | BE v z=>
   rw[b]at a;simp only[One]at a;rw[a.2.2];simp only[mem_filter,Bool.not_eq_true'];rw[l];constructor
   ·rintro⟨⟨k,c,d⟩,n⟩;refine⟨by omega,c,λe j g=>?_⟩
    grind
   ·rintro⟨k,⟨o,c⟩,d⟩;have p:i<m:=by
     rcases lt_or_ge i m with w|w
     ·omega
     ·grind
    exact⟨⟨p,⟨o,c⟩,λe j=>d e (by omega)⟩,d m (by omega) (by rw[b];rfl)⟩
def RU(ops:Array Oper)(en:Nat->sD)(b:List Value)(S:List Nat)(d:dH)(a:Act):Prop:=
 a.tmps.size=b.length/\∀(t:Tmp)(c:Value),a.tmps[t]?=some c->(∀(i:Nat)(o:Oper),i∈S->ops[i]?=some o->o.dst=some t->aD d (en i).val c)/\
  ((∀(i:Nat)(o:Oper),i∈S->ops[i]?=some o->o.dst≠some t)->∀v,b[t]?=some v->aD d v c)
theorem RU.mono{b:dH}{a:Act}(h:RU ops en c x J a)(d:J.le b):RU ops en c x b a:=
 ⟨h.1,λt j g=>⟨λi o e f k=>((h.2 t j g).1 i o e f k).mono d,λe v f=>((h.2 t j g).2 e v f).mono d⟩⟩
theorem RU.put(r:Ci ops bf){c:List Value}{S:List Nat}{g:dH}{a:Act}(h:RU ops en c S g a){j:Nat}{o:Oper}(p:ops[j]?=some o){v':Value}(v:aD g (en j).val v'):RU ops en c (S++[j]) g (a.put o.dst v'):=by
 refine⟨by cases e:o.dst<;>simp[Act.put,h.1],λt u b=>?_⟩;by_cases e:o.dst=some t
 ·have k:u=v':=by
   rw[e]at b;simp only[Act.put,Array.getElem?_setIfInBounds,if_true]at b;split at b
   ·exact(oI b).symm
   ·cases b
  subst k;refine⟨λi s _ n q=>?_,λl=>absurd e (l j o (by simp) p)⟩;obtain rfl:=r.uniq i j s o t n p q e;omega
 ·have m:a.tmps[t]?=some u:=by
   cases f:o.dst with
   |none=>rw[f]at b;exact b
   |some d=>
    rw[f]at b e;simp only[Act.put,Array.getElem?_setIfInBounds]at b;rw[if_neg (by rintro rfl;exact e rfl)]at b;exact b
  obtain⟨w,n⟩:=h.2 t u m
  grind
theorem RU.aem(d:Ci ops bf)(y:Np P gl cf ops bf base st en){L l m:List Nat}{j:Nat}(p:GL ops L)(q:L=l++j::m){r:dH}{a:Act}(h:RU ops en (st 0).1 l r a)(N:Gl gl r){o:Oper}(w:ops[j]?=some o):
  ∀x∈o.op.operands,aD r (ev gl (st j).1 x) (a.eval x):=by
 have O:j<ops.size:=(Array.getElem?_eq_some_iff.1 w).1;intro x C
 cases x with
 | tmp t=>
  simp only[ev,Act.eval];by_cases B:t<(st 0).1.length
  ·have k:t<a.tmps.size:=by rw[h.1];exact B
   obtain⟨D,I⟩:=h.2 t _ (getElem?_eq_getElem k);rw[Array.getD_eq_getD_getElem?,getElem?_eq_getElem k,Option.getD_some];by_cases E:∃(i:Nat)(e:Oper),i∈l/\ops[i]?=some e/\e.dst=some t
   ·obtain⟨i,e,F,b,n⟩:=E;have s:i<j:=by
     rcases d.names j o t w C i e b n with rfl|c|c
     ·have:=p.nodup;rw[q]at this;exact absurd rfl (List.nodup_append.1 this |>.2.2 i F i mem_cons_self)
     ·exact d.lt _ _ c
     ·obtain⟨K,G,rfl⟩:=List.append_of_mem F;have:=d.Rj L p K i (G++j::m) (by rw[q];simp) j c;have u:=p.nodup;rw[q]at u;exact absurd rfl ((List.nodup_append.1 u).2.2 j (List.mem_append_left _ this) j mem_cons_self)
    rw[gD,y.HR d B b n j (by omega) s]
    grind
   ·have H:=y.M3 t j (by omega) λA e s b n=>by
     rcases d.names j o t w C A e b n with rfl|c|c
     ·omega
     ·exact E ⟨A,e,d.Rj L p l j m q A c,b,n⟩
     ·have:=d.lt _ _ c;omega
    grind
  ·have k:¬t<a.tmps.size:=by rw[h.1];exact B
   rw[gD,getElem?_eq_none (by rw[y.mO j (by omega)];grind),Array.getD_eq_getD_getElem?,Array.getElem?_eq_none (Nat.le_of_not_lt k)];exact .undef r
 |const v=>
  simp only[ev,Act.eval];split
  ·next z=>exact .qH z
  ·exact .hH v
 | global g=>
  simp only[ev,Act.eval];split
  ·next z=>
   obtain⟨R,D,I,Q,J⟩:=N g z;have:=aD.ptr (i:=0) D J
   grind
  ·exact .hH _
 |func f=>
  simp only[ev,Act.eval];exact .func rfl rfl rfl (λi v M h=>by grind) (λi v M h=>by grind)
theorem RU.wanted(m:Ci ops bf)(x:Np P gl cf ops bf base st en){L k r:List Nat}{j:Nat}(F:GL ops L)(G:L=k++j::r){D:dH}{a:Act}(h:RU ops en (st 0).1 k D a){o:Oper}(A:ops[j]?=some o){b:Bool}
  (e:jh ops (st j).1 o=some b):Region.wanted o (yielded ops a.tmps)=b:=by
 have J:j<ops.size:=(Array.getElem?_eq_some_iff.1 A).1;unfold jh at e;unfold Region.wanted;split at e
 ·grind
 ·next i f C=>
  rw[C];simp only[yielded];have y:=m.guards j o i f A C;have I:=m.Rj L F k j r G i y;split at e
  ·next d B=>
   rw[B];simp only[bind_some];obtain⟨E,q,p⟩:=Option.bind_eq_some_iff.1 B;have g:∀v,(st j).1[d]?=some v->v=(en i).val/\∃n,a.tmps[d]?=some n/\aD D v n:=by
    intro v u;have s:d<(st 0).1.length:=by rw[<-x.mO j (by omega)];exact(List.getElem?_eq_some_iff.1 u).1
    have t:d<a.tmps.size:=by rw[h.1];exact s
    have:=x.HR m s q p j (by omega) (m.lt _ _ y);rw[this]at u;obtain rfl:=oI u;exact⟨rfl,_,getElem?_eq_getElem t,(h.2 d _ (getElem?_eq_getElem t)).1 i E I q p⟩
   split at e
   ·next H c=>
    obtain⟨_,n,l,w⟩:=g _ (Fv c);rw[w.kE]at l;rw[l];simp only[Option.some.injEq]at e;subst e
    cases H<;>cases f<;>rfl
   ·next M c=>
    simp only[Option.some.injEq]at e;subst e;rcases CM c with c|c
    ·obtain⟨_,n,l,w⟩:=g _ c;obtain⟨K,rfl,_⟩:=w.zF;rw[l];rfl
    ·have z:a.tmps[d]?=none:=Array.getElem?_eq_none (by rw[h.1,<-x.mO j (by omega)];exact List.getElem?_eq_none_iff.1 c);rw[z];rfl
   ·cases e
  grind
end
end
end Go.Ab
end
