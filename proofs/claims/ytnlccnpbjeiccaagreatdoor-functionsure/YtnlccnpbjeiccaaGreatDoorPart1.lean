/- Laws and walks that the proof leans on (part 1): AbEval; AbEnv; AbFast; AbRel; AbPure; AbPure2 and others. No condition. -/
import GoSem.Dispatch
import GoSem.Machine.Frame
import GoSem.Machine.Return
import Derived.CallsIn
import Derived.Laws.Tables
import Derived.KernelRfl
import Derived.Laws.Sem
import Derived.Laws.World
import Derived.Laws.Cells
import Derived.Laws.Entries
import Derived.Laws.Strings
import Derived.Laws.StructEq
import Derived.Laws.Small
import Derived.Laws.BytesString
import Derived.Laws.BitsLemmas
import Derived.Laws.Append
import Derived.Lib.UnsafeStr
import Derived.Lib.Builder
import Derived.RangeFuncLeaves
import Derived.RangeFuncNested
set_option linter.unusedVariables false
set_option linter.unusedSimpArgs false
set_option maxRecDepth 100000
open List (all_eq_true drop_drop getElem?_append_left getElem?_append_right getElem?_drop getElem?_eq_none getElem?_take)
open Nat (add_assoc add_mul lt_of_lt_of_le)
open Option (map_eq_some_iff map_some)
open Array (getElem?_eq_getElem getElem?_push getElem?_toList)
open Bool (and_eq_true false_eq_true)
open Go.Result (andThen_ok)
open Go.Sem (run_bind run_ite)
open Go.IntKind (wrap_i64)
section
namespace Go
theorem dT{p:Prop} [Decidable p] (h:decide p=true):p:=of_decide_eq_true h
theorem dF{p:Prop} [Decidable p] (h:decide p=false):¬p:=of_decide_eq_false h
theorem oI{α:Type} {a b:α} (h:some a=some b):a=b:=Option.some.inj h
theorem gE{α:Type} {l:List α} {i:Nat} (h:i<l.length):l[i]? =some l[i]:=List.getElem?_eq_getElem h
theorem gD{α:Type} {l:List α} {i:Nat} {a:α}:l.getD i a=l[i]?.getD a:=List.getD_eq_getElem?_getD
theorem lM{α β:Type} {as:List α} (f:α→β):(as.map f).length=as.length:=List.length_map f
end Go
namespace Go.Ab
noncomputable section
def cD(a:List Nat)(j i:Nat):Bool:=(a.getD j 0).testBit i
def fk(ops:Array Oper):List Nat:=(Region.before ops).toList
def Fo:List Oper->Nat->Bool
 |[],_=>true
 |o::r,j=>(o.after.toList.all λe=>decide (e.on<j)||(!Region.binds .any e && !Region.binds .text e))&&Fo r (j+1)
def rG(a:List Nat)(j:Nat)(t:Tmp):List Oper->Nat->Bool
 |[],_=>true
 |o::r,i=>(match o.dst with|some d=>decide (d≠t)||decide (i=j)||cD a j i||cD a i j|none=>true)&&rG a j t r (i+1)
def GC(a:List Nat)(all:List Oper):List Oper->Nat->Bool
 |[],_=>true
 |o::r,j=>(o.op.operands.toList.all fun|.tmp t=>rG a j t all 0|_=>true)&&(match o.guard with|some (i,_)=>cD a j i|none=>true)&&GC a all r (j+1)
def yp:List Oper->Nat->Bool
 |[],_=>true
 |o::r,m=>match o.dst with
  |some d=> !m.testBit d&&yp r (m|||2^d)
  |none=>yp r m
def Le(ops:Array Oper):Bool:=
 Fo ops.toList 0&&yp ops.toList 0&&(!Region.departs ops||(Region.linearise .gc ops 0).length==ops.size)&&GC (fk ops) ops.toList ops.toList 0
def bV:Code->Bool
 |.region _ ops true=>Le ops
 |.seq a b=>bV a&&bV b
 |.cond _ a b=>bV a&&bV b
 |.block _ a=>bV a
 |.loop a=>bV a
 |_=>true
def lW:Code->Bool
 |.seq a b=>lW a&&lW b
 |.cond _ a b=>lW a&&lW b
 |.block _ a=>lW a
 |.loop a=>lW a
 |.rangeFunc .. =>false
 |_=>true
def jP(b a:Code):Bool:=bV b&&bV a&&lW b&&lW a
inductive WC where
 |ready
 |busy
 |ret
 |exit (id:Nat)
def YB:Nat:=4611686018427387904
inductive bu where
 |cells (cs:List Value) (t:TypeId) (sz:Nat) (wr:Bool)
 |map (es:List (Value×Value))
 |loop (st:WC) (tm:List Value) (ps:List Tmp) (asg body:Code) (ok:jP asg body=true)
 deriving Inhabited
inductive HT where
 |nil
 |node (v:Option bu) (l r:HT)
 deriving Inhabited
inductive Fg where
 |e
 |l (p:Fg)
 |r (p:Fg)
noncomputable def BZ(f:Nat):Nat->Fg:=
 Nat.rec (motive:=λ_=>Nat->Fg) (λ_=> .e) (λ_ a n=>Nat.rec (motive:=λ_=>Fg) .e (λk _=>Nat.rec (motive:=λ_=>Fg) (.l (a (k/2))) (λ_ _=> .r (a (k/2))) (k%2)) n) f
noncomputable def pathOf(n:Nat):Fg:=BZ (n+1) n
noncomputable def HT.abk(t:HT):Option bu:=HT.rec (motive:=λ_=>Option bu) none (λv _ _ _ _=>v) t
noncomputable def HT.aeI(a:HT->Option bu)(t:HT):Option bu:=HT.rec (motive:=λ_=>Option bu) none (λ_ l _ _ _=>a l) t
noncomputable def HT.aeJ(a:HT->Option bu)(t:HT):Option bu:=HT.rec (motive:=λ_=>Option bu) none (λ_ _ r _ _=>a r) t
noncomputable def HT.get(p:Fg):HT->Option bu:=Fg.rec (motive:=λ_=>HT->Option bu) HT.abk (λ_=>HT.aeI) (λ_=>HT.aeJ) p
noncomputable def HT.ae7(b:Option bu)(t:HT):HT:=HT.rec (motive:=λ_=>HT) (.node b .nil .nil) (λ_ l r _ _=> .node b l r) t
noncomputable def HT.ae8(a:HT->HT)(t:HT):HT:=HT.rec (motive:=λ_=>HT) (.node none (a .nil) .nil) (λv l r _ _=> .node v (a l) r) t
noncomputable def HT.ae9(a:HT->HT)(t:HT):HT:=HT.rec (motive:=λ_=>HT) (.node none .nil (a .nil)) (λv l r _ _=> .node v l (a r)) t
noncomputable def HT.set(b:Option bu)(p:Fg):HT->HT:=Fg.rec (motive:=λ_=>HT->HT) (HT.ae7 b) (λ_=>HT.ae8) (λ_=>HT.ae9) p
structure aa where
 next:Nat
 t:HT
 deriving Inhabited
noncomputable def aa.get(h:aa)(k:Nat):Option bu:=h.t.get (pathOf k)
noncomputable def aa.set(h:aa)(k:Nat)(b:bu):aa:={ h with t:=h.t.set (some b) (pathOf k) }
noncomputable def aa.del(h:aa)(k:Nat):aa:={ h with t:=h.t.set none (pathOf k) }
noncomputable def aa.push(h:aa)(b:bu):aa:={ next:=h.next+1,t:=h.t.set (some b) (pathOf h.next) }
def cj:Nat:=36893488147419103232
def aW(c:Nat):Nat:=if cj<=c then c-cj else c
abbrev fs:Value:= .chan (some 0)
def bw:Value->Bool
 |.agg _|.tuple _|.chan _=>false
 |_=>true
def bare:Value->Bool
 |.bool _|.int _ _|.float _ _|.complex _ _ _|.string _|.pointer none|.slice none 0 0|.map none|.nilFunc|.nilIface=>true
 |_=>false
def plain:Value->Bool
 |.agg cs=>cs.toList.all bare
 |.tuple cs=>cs.toList.all fun|.agg a=>a.toList.all bare|v=>bare v
 |v=>bare v
def ev(gl:Nat->Bool)(a:List Value):Operand->Value
 |.tmp t=>a.getD t undef
 |.const v=>if plain v then v else fs
 |.global g=>if gl g then .pointer (some ⟨g,0,none⟩)else fs
 |.func f=> .func (.func f) #[] #[]
def isAgg(P:Program)(t:TypeId):Bool:=match P.underlying t with|some (.struct _)|some (.array ..)=>true|_=>false
def zeroOf(P:Program)(t:TypeId):Option Value:=match P.info? t with|some i=>(match i.zero with|some z=>if plain z then some z else none|none=>none)|none=>none
def au(P:Program)(t:TypeId):Option Nat:=(P.info? t).map (·.size)
def partOf(P:Program)(t:TypeId)(cs:Array Value)(a:Nat):Option Value:=
 match P.underlying t with
 |none=>none
 |some _=>if isAgg P t then(au P t).map λn=> .agg (cs.extract a (a+n))else cs[a]?
def strOf(l:List UInt8):Value:= .string ⟨l.toArray⟩
def intCmp(a:BinOp)(x y:Int):Option Bool:=
 match a with
 |.eql=>some (x==y)|.neq=>some (x !=y)|.lss=>some (decide (x<y))|.leq=>some (decide (x<=y))|.gtr=>some (decide (x>y))|.geq=>some (decide (x>=y))
 |_=>none
def oZ:List UInt8->List UInt8->Bool
 |_,[]=>false
 |[],_::_=>true
 |a::x,b::y=>a<b||(a==b&&oZ x y)
def Oz(a:BinOp)(x y:List UInt8):Option Value:=
 match a with
 |.add=>if x.length+y.length<=4611686018427387904 then some (strOf (x++y))else none
 |.eql=>some (.bool (x==y))|.neq=>some (.bool !(x==y))
 |.lss=>some (.bool (oZ x y))|.leq=>some (.bool (oZ x y||x==y))
 |.gtr=>some (.bool !(oZ x y||x==y))|.geq=>some (.bool !(oZ x y))
 |_=>none
def ac4:Value->Value->Option Bool
 |.bool a,.bool b=>some (a==b)
 |.int k a,.int c b=>if k=c then some (a==b)else none
 |.string a,.string b=>some (a.data.toList==b.data.toList)
 |_,_=>none
def A9(P:Program)(t:TypeId)(x y:Value):Option Bool:=
 match P.underlying t,x,y with
 |some .bool,.bool a,.bool b=>some (a==b)
 |some (.int _),.int k a,.int c b=>if k=c then some (a==b)else none
 |some .string,.string a,.string b=>some (a.data.toList==b.data.toList)
 |_,_,_=>none
def jL(P:Program):List Field->Nat->List Value->List Value->Option Bool
 |[],_,_,_=>some true
 |f::c,i,x::a,y::b=>
  if f.offset=i/\f.name≠ "_" then
   match A9 P f.type x y with
   |some true=>jL P c (i+1) a b
   |some false=>some false
   |none=>none
  else none
 |_::_,_,_,_=>none
def pf(P:Program)(t:TypeId)(x y:Value):Option Bool:=
 match x,y with
 |.bool a,.bool b=>match P.underlying t with|some .bool=>some (a==b)|_=>none
 |.pointer none,.pointer b=>match P.underlying t with|some (.pointer _)=>some b.isNone|_=>none
 |.pointer a,.pointer none=>match P.underlying t with|some (.pointer _)=>some a.isNone|_=>none
 |.pointer (some a),.pointer (some b)=>match P.underlying t with|some (.pointer e)=>if a=b/\(au P e).any (· ≠0)then some true else none|_=>none
 |.slice none _ _,.slice b _ _=>match P.underlying t with|some (.slice _)=>some b.isNone|_=>none
 |.slice a _ _,.slice none _ _=>match P.underlying t with|some (.slice _)=>some a.isNone|_=>none
 |.map none,.map b=>match P.underlying t with|some (.map ..)=>some b.isNone|_=>none
 |.map a,.map none=>match P.underlying t with|some (.map ..)=>some a.isNone|_=>none
 |.nilFunc,.nilFunc=>match P.underlying t with|some (.func ..)=>some true|_=>none
 |.nilFunc,.func .. =>match P.underlying t with|some (.func ..)=>some false|_=>none
 |.func ..,.nilFunc=>match P.underlying t with|some (.func ..)=>some false|_=>none
 |.nilIface,.iface .. =>match P.underlying t with|some (.interface _)=>some false|_=>none
 |.iface ..,.nilIface=>match P.underlying t with|some (.interface _)=>some false|_=>none
 |.agg a,.agg b=>match P.underlying t with
  |some (.struct c)=>if P.stoodInHeld t=false/\P.eqGuardType P.depth t=false then jL P c.toList 0 a.toList b.toList else none
  |_=>none
 |_,_=>none
def ax(P:Program)(c:BinOp)(t:TypeId)(x y:Value):Option Value:=
 match x,y with
 | .int k a,.int d b=>
  match c with
  |.shl=>if 0<=b then some (.int k (k.wrap (a*2^(min b.toNat k.bits))))else none
  |.shr=>if 0<=b then some (.int k (a.fdiv (2^(min b.toNat k.bits))))else none
  | _=>
   if k=d then
    match c with
    |.add=>some (.int k (k.wrap (a+b)))
    |.sub=>some (.int k (k.wrap (a-b)))
    |.mul=>some (.int k (k.wrap (a*b)))
    |.quo=>if b=0 then none else some (.int k (k.wrap (a.tdiv b)))
    |.rem=>if b=0 then none else some (.int k (a.tmod b))
    |.and=>some (.int k (k.wrap (BitVec.ofInt k.bits a&&&BitVec.ofInt k.bits b).toNat))
    |.or=>some (.int k (k.wrap (BitVec.ofInt k.bits a|||BitVec.ofInt k.bits b).toNat))
    |.xor=>some (.int k (k.wrap (BitVec.ofInt k.bits a^^^BitVec.ofInt k.bits b).toNat))
    |.andNot=>some (.int k (k.wrap (BitVec.ofInt k.bits a &&& ~~~BitVec.ofInt k.bits b).toNat))
    |c=>(intCmp c a b).map .bool
   else none
 |.string a,.string b=>Oz c a.data.toList b.data.toList
 |x,y=>match c with
  |.eql=>(pf P t x y).map .bool
  |.neq=>(pf P t x y).map λb=> .bool !b
  |_=>none
def E2(a:UnOp)(x:Value):Option Value:=
 match a,x with
 |.neg,.int k n=>some (.int k (k.wrap (0-n)))
 |.xor,.int k n=>some (.int k (k.wrap (BitVec.ofInt k.bits (if k.signed then -1 else k.max)^^^BitVec.ofInt k.bits n).toNat))
 |.not,.bool b=>some (.bool !b)
 |_,_=>none
def dH:Option Value->Nat->Option Int
 |none,d=>some d
 |some (.int _ n),_=>some n
 |some _,_=>none
def bE(P:Program)(t:TypeId)(x:Value)(f c d:Option Value)(h:aa):Option Value:=
 match x with
 | .string s=>
  match P.underlying t with
  |some .string=>match d,dH f 0,dH c s.data.toList.length with
   |none,some l,some r=>if 0<=l/\l<=r/\r<=(s.data.toList.length:Int)then some (strOf ((s.data.toList.drop l.toNat).take (r-l).toNat))else none
   |_,_,_=>none
  |_=>none
 | .slice none 0 0=>
  match P.underlying t with
  |some (.slice e)=>match d,dH f 0,dH c 0,au P e with
   |none,some 0,some 0,some _=>some (.slice none 0 0)
   |_,_,_,_=>none
  |_=>none
 | .slice (some ⟨k,i,none⟩) j a=>
  match P.underlying t with
  | some (.slice e)=>match dH f 0,dH c j,au P e,h.get k with
   | some l,some r,some b,some (.cells _ _ g _)=>
    if g=b\/g=0 then
     match d with
     |none=>if 0<=l/\l<=r/\r<=(aW a:Int)then some (.slice (some ⟨k,i+l.toNat*b,none⟩) (r-l).toNat (a-l.toNat))else none
     |some (.int _ m)=>if 0<=l/\l<=r/\r<=m/\m<=(aW a:Int)/\m<cj/\c.isSome=true then some (.slice (some ⟨k,i+l.toNat*b,none⟩) (r-l).toNat (m-l).toNat)else none
     |some _=>none
    else none
   |_,_,_,_=>none
  |_=>none
 | .pointer (some ⟨k,i,none⟩)=>
  match P.underlying t with
  | some (.array n e)=>match d,dH f 0,dH c n,au P e,h.get k with
   |none,some l,some r,some b,some (.cells _ _ 0 _)=>
    if 0<=l/\l<=r/\r<=(n:Int)/\n<cj then some (.slice (some ⟨k,i+l.toNat*b,none⟩) (r-l).toNat (n-l.toNat))else none
   |_,_,_,_,_=>none
  |_=>none
 |_=>none
def BK:Value->Bool
 |.chan _=>false
 |_=>true
def aD(P:Program)(t:TypeId)(a:List (Nat×Value)):Option Value:=
 match zeroOf P t with
 |some _=>if a.all λp=>BK p.2 then(P.built t a).map .agg else none
 |none=>none
def eP(P:Program)(b a:TypeId)(x:Value):Option Value:=
 match P.underlying b,P.underlying a,x with
 |some _,some (.int k),.int _ n=>some (.int k (k.wrap n))
 |some _,some .string,.string s=>some (.string s)
 |some (.pointer _),some .unsafePointer,.pointer none=>some x
 |some .unsafePointer,some (.pointer _),.pointer none=>some x
 |_,_,_=>none
def qq(c:Bool):List Value->Option Value
 |[]=>none
 |x::a=>a.foldlM (λx y=>match x,y with
  |.int k x,.int b y=>if k=b then some (.int k (if c then(if y>x then y else x)else(if y<x then y else x)))else none
  |_,_=>none) x
def ba(P:Program)(ρ:Operand->Value)(o:Oper):Option Value:=
 match o.op with
 |.move x|.assign x=>some (ρ x)
 |.pick c a b=>match ρ c with|.bool t=>some (if t then ρ a else ρ b)|_=>none
 |.build t m=>aD P t (m.toList.map λp=>(p.1,ρ p.2))
 |.nilCheck x=>match ρ x with
  |.pointer none|.nilIface|.nilFunc=>none
  |.func (.method _) _ _=>none
  |.chan _=>none
  |v=>some v
 |.binOp r t x y _=>ax P r t (ρ x) (ρ y)
 |.unOp r _ x=>E2 r (ρ x)
 |.convert s d x=>eP P s d (ρ x)
 |.makeInterface t x=>match P.underlying t with|some (.interface _)|none=>none|some _=>some (.iface t (ρ x))
 |.makeFunc q first k=>match q with
  |.yield _=>none
  |q=>some (.func q (first.map ρ) (k.map ρ))
 | .fieldAddr s x f=>match P.underlying s,ρ x with
  |some (.struct g),.pointer (some a)=>match g[f]? with
   |some l=>if(au P l.type).any (· ≠0)then some (.pointer (some (a.add l.offset)))else none
   |none=>none
  |_,_=>none
 | .field t x f=>match P.underlying t,ρ x with
  |some (.struct g),.agg cs=>match g[f]? with
   |some l=>partOf P l.type cs l.offset
   |none=>none
  |_,_=>none
 | .indexAddr t x i=>match P.underlying t,ρ x,ρ i with
  |some (.array h e),.pointer (some a),.int _ j=>match au P e with
   |some n=>if 0<=j/\j<(h:Int)then some (.pointer (some (a.add (j.toNat*n))))else none
   |none=>none
  |some (.slice e),.slice (some a) h _,.int _ j=>match au P e with
   |some n=>if 0<=j/\j<(h:Int)then some (.pointer (some (a.add (j.toNat*n))))else none
   |none=>none
  |_,_,_=>none
 | .index t x i=>match P.underlying t,ρ x,ρ i with
  |some (.array h e),.agg cs,.int _ j=>match au P e with
   |some n=>if 0<=j/\j<(h:Int)then partOf P e cs (j.toNat*n)else none
   |none=>none
  |some .string,.string s,.int _ j=>if 0<=j then match s.data.toList[j.toNat]? with|some b=>some (.int .u8 b.toNat)|none=>none else none
  |_,_,_=>none
 |.typeAssert x _ u w=>match P.underlying u,ρ x with
  |some (.interface _),_|none,_=>none
  |some _,.nilIface=>if w then(zeroOf P u).map λz=> .tuple #[z,.bool false]else none
  |some _,.iface t v=>if t=u then some (if w then .tuple #[v,.bool true]else v)else if w then(zeroOf P u).map λz=> .tuple #[z,.bool false]else none
  |_,_=>none
 |.extract x i=>match ρ x with|.tuple A=>A[i]?|_=>none
 |.call { callee:= .builtin .max,args,.. }=>qq true (args.toList.map ρ)
 |.call { callee:= .builtin .min,args,.. }=>qq false (args.toList.map ρ)
 | .call { callee:= .builtin .cap,args,argTypes }=>match args[0]?,argTypes[0]? with
  |some x,some t=>match P.underlying t,ρ x with
   |some (.slice _),.slice _ _ c=>if c<cj then some (.int .i64 c)else none
   |_,_=>none
  |_,_=>none
 |_=>none
def bytesOf:List Value->Option (List UInt8)
 |[]=>some []
 |.int .u8 n::r=>if 0<=n/\n<256 then(bytesOf r).map (UInt8.ofNat n.toNat::·)else none
 |_=>none
def ae(P:Program)(t:TypeId)(h:aa)(a:Value):Option Value:=
 match P.underlying t,a with
 | some _,.pointer (some ⟨k,i,none⟩)=>match h.get k with
  | some (.cells cs ..)=>
   if isAgg P t then
    match au P t with
    |some n=>if((cs.drop i).take n).length=n then some (.agg ((cs.drop i).take n).toArray)else none
    |none=>none
   else cs[i]?
  |_=>none
 |_,_=>none
def zi:Value->Bool
 |.bool _|.int _ _|.string _=>true
 |_=>false
def xJ:Value->Bool
 |.agg cs=>cs.toList.all zi
 |v=>zi v
def EK:Value->Value->Bool
 |.bool a,.bool b=>a==b
 |.int k a,.int c b=>decide (k=c)&&decide (a=b)
 |.string a,.string b=>decide (a.data.toList=b.data.toList)
 |_,_=>false
def zh:List Value->List Value->Bool
 |[],[]=>true
 |a::x,b::y=>EK a b&&zh x y
 |_,_=>false
def JP:Value->Value->Bool
 |.agg a,.agg b=>zh a.toList b.toList
 |a,b=>EK a b
def S7(P:Program)(e:TypeId->Value->Value->Option Bool)(a b:Array Value):List Field->Option Bool
 |[]=>some true
 |f::c=>if f.name≠ "_" then(match partOf P f.type a f.offset,partOf P f.type b f.offset with
  |some p,some q=>(match e f.type p q with
   |some true=>S7 P e a b c
   |some false=>some false
   |none=>none)
  |_,_=>none)else none
def eI(P:Program):Nat->TypeId->Value->Value->Option Bool
 |0,_,_,_=>none
 |d+1,t,x,y=>match P.underlying t,x,y with
  |some (.struct c),.agg a,.agg b=>if P.stoodInHeld t=false then S7 P (eI P d) a b c.toList else none
  |_,x,y=>A9 P t x y
def NF(P:Program)(c:TypeId->Value->Bool)(a:Array Value):List Field->Bool
 |[]=>true
 |f::b=>decide (f.name≠ "_")&&(match partOf P f.type a f.offset with|some p=>c f.type p|none=>false)&&NF P c a b
def xH(P:Program):Nat->TypeId->Value->Bool
 |0,_,_=>false
 |d+1,t,v=>match P.underlying t,v with
  |some (.struct b),.agg a=>NF P (xH P d) a b.toList
  |some .bool,.bool _=>true
  |some (.int _),.int _ _=>true
  |some .string,.string _=>true
  |_,_=>false
def kW(P:Program)(a:TypeId)(k:Value):Bool:=xJ k&&xH P 3 a k
def qi(P:Program)(c:TypeId)(a b:Value):Option Bool:=
 if xJ b then match eI P 3 c a b with
  |some true=>if JP a b then some true else none
  |r=>r
 else none
def oz(P:Program)(a:TypeId)(k:Value):List (Value×Value)->Option (Option Value)
 |[]=>some none
 |(b,v)::c=>match qi P a k b with
  |some true=>some (some v)
  |some false=>oz P a k c
  |none=>none
def bj(P:Program)(ρ:Operand->Value)(o:Oper)(h:aa):Option Value:=
 match o.op with
 |.load t a=>ae P t h (ρ a)
 |.slice t x p l j=>bE P t (ρ x) (p.map ρ) (l.map ρ) (j.map ρ) h
 | .convert s d x=>match P.underlying s,P.underlying d,ρ x with
  | some (.slice e),some .string,.slice a c _=>match P.underlying e,a with
   |some (.int .u8),none=>some (strOf [])
   | some (.int .u8),some ⟨k,i,none⟩=>match h.get k with
    | some (.cells cs ..)=>
     if((cs.drop i).take c).length=c then
      (bytesOf ((cs.drop i).take c)).map strOf
     else none
    |_=>none
   |_,_=>none
  |_,_,_=>none
 | .lookup t m k g=>match P.underlying t with
  | some (.map f e)=>match (match ρ m with|.map none=>some []|.map (some r)=>(match h.get r with|some (.map b)=>some b|_=>none)|_=>none),zeroOf P e with
   | some b,some z=>
    if kW P f (ρ k)then match oz P f (ρ k) b with
     |some (some v)=>some (if g then .tuple #[v,.bool true]else v)
     |some none=>some (if g then .tuple #[z,.bool false]else z)
     |none=>none
    else none
   |_,_=>none
  |_=>none
 | .call { callee:= .builtin .len,args,argTypes }=>match args[0]?,argTypes[0]? with
  | some x,some t=>match P.underlying t,ρ x with
   |some .string,.string s=>some (.int .i64 s.data.toList.length)
   |some (.array n _),_=>some (.int .i64 n)
   |some (.slice _),.slice _ n _=>some (.int .i64 n)
   |some (.map ..),.map none=>some (.int .i64 0)
   |some (.map ..),.map (some r)=>match h.get r with
    |some (.map b)=>some (.int .i64 b.length)
    |_=>none
   |_,_=>none
  |_,_=>none
 |_=>none
def bO(z:List Value):Nat->List Value
 |0=>[]
 |n+1=>z++bO z n
def aT(P:Program)(ρ:Operand->Value)(o:Oper):Option (bu×(Nat->Value)):=
 match o.op with
 |.alloc t=>match zeroOf P t with
  |some z=>if z.cells.toList.all bw then some (.cells z.cells.toList t 0 true,λk=> .pointer (some ⟨k,0,none⟩))else none
  |none=>none
 |.box t x=>if(ρ x).cells.toList.all bw then some (.cells (ρ x).cells.toList t 0 true,λk=> .pointer (some ⟨k,0,none⟩))else none
 | .buildSlice t f a=>match P.underlying t with
  | some (.slice e)=>match au P e,zeroOf P e with
   | some g,some z=>
    if z.cells.size=g/\0<g/\f*g<=65536 then
     match (if a.toList.all λp=>BK (ρ p.2)then Instr.fill (λi=>some (i*g,g)) (bO z.cells.toList f).toArray (a.toList.map λp=>(p.1,ρ p.2))else none)with
     |some cs=>if cs.toList.all bw then some (.cells cs.toList e g true,λk=> .slice (some ⟨k,0,none⟩) f f)else none
     |none=>none
    else none
   |_,_=>none
  |_=>none
 | .makeSlice t l c=>match P.underlying t,ρ l,ρ c with
  | some (.slice e),.int .i64 l,.int .i64 c=>match P.info? e,zeroOf P e with
   | some i,some z=>
    if z.cells.size=i.size/\0<i.size/\0<=l/\l<=c/\c*i.bytes<=140737488355328/\c<=1099511627776 then
     some (.cells (bO z.cells.toList c.toNat) e i.size true,λk=> .slice (some ⟨k,0,none⟩) l.toNat c.toNat)
    else none
   |_,_=>none
  |_,_,_=>none
 | .makeMap t r=>match P.underlying t with
  |some (.map ..)=>match r with
   |none=>some (.map [],λk=> .map (some k))
   |some x=>match ρ x with|.int _ _=>some (.map [],λk=> .map (some k))|_=>none
  |_=>none
 | .convert s d x=>match P.underlying s,P.underlying d,ρ x with
  | some _,some (.slice e),.string s=>match P.underlying e with
   |some (.int .u8)=>match au P e with
    |some 1=>some (.cells (s.data.toList.map λb=> .int .u8 b.toNat) e 1 true,λk=> .slice (some ⟨k,0,none⟩) s.data.toList.length (cj+s.data.toList.length))
    |_=>none
   |_=>none
  |_,_,_=>none
 |_=>none
inductive bp where
 |no
 |set (k:Nat) (b:bu)
 |push (b:bu)
 |move (k:Nat) (b:bu)
 |all (h:aa)
 deriving Inhabited
def bp.app(u:bp)(h:aa):aa:=
 match u with
 |.no=>h
 |.set k b=>h.set k b
 |.push b=>h.push b
 |.move k b=>(h.del k).push b
 |.all a=>a
def storeAt(h:aa)(k i:Nat)(a:List Value):Option bp:=
 match h.get k with
 |some (.cells cs t b true)=>if i+a.length<=cs.length/\a.all bw then some (.set k (.cells (cs.take i++a++cs.drop (i+a.length)) t b true))else none
 |_=>none
def cQ(h:aa)(a:Nat)(x:Value):Option (List Value×Nat):=
 match x with
 |.slice none 0 _=>some ([],0)
 |.slice (some ⟨_,_,some _⟩) 0 0=>some ([],0)
 |.slice (some ⟨k,i,none⟩) n _=>match h.get k with
  |some (.cells cs ..)=>if((cs.drop i).take (n*a)).length=n*a then some ((cs.drop i).take (n*a),n)else none
  |_=>none
 |.string s=>if a=1 then some (s.data.toList.map λb=> .int .u8 b.toNat,s.data.toList.length)else none
 |_=>none
def dC(P:Program)(e:TypeId):Option TypeInfo:=
 match P.info? e,zeroOf P e with
 |some i,some z=>if z.cells.size=i.size/\0<i.size then some i else none
 |_,_=>none
def ch(P:Program)(t:TypeId):Bool:=match P.underlying t with|some (.slice _)|some .string=>true|_=>false
def gU(h:aa)(e:TypeId)(a d:Nat)(k j n c m:Nat)(b:List Value):Option (Value×bp):=
 if(n+m)*d<=70368744177664/\n+m<=1099511627776 then
  match h.get k with
  | some (.cells cs g f i)=>
   if g=e/\f=a/\((cs.drop j).take (n*a)).length=n*a then
    if c<cj then some (.slice (some ⟨h.next,0,none⟩) (n+m) (cj+(n+m)),.push (.cells ((cs.drop j).take (n*a)++b) e a true))
    else if i=true/\cs.length=j+n*a then some (.slice (some ⟨h.next,0,none⟩) (n+m) (cj+(n+m)),.move k (.cells ((cs.drop j).take (n*a)++b) e a true))
    else none
   else none
  |_=>none
 else none
def aJ (P:Program)(t b:TypeId)(s x:Value)(h:aa):Option (Value×bp):=
 match P.underlying t with
 | some (.slice e)=>match dC P e with
  | some i=>
   if ch P b=true then
    match cQ h i.size x with
    | some (a,m)=>
     if a.all bw/\a.length=m*i.size then
      match s with
      | .slice none 0 0=>if m=0 then some (s,.no)else
        if m*i.bytes<=70368744177664/\m<=1099511627776 then some (.slice (some ⟨h.next,0,none⟩) m (cj+m),.push (.cells a e i.size true))else none
      | .slice (some ⟨k,j,none⟩) n c=>
       if m=0 then some (s,.no)else
       if n+m<=aW c then
        (storeAt h k (j+n*i.size) a).map λu=>(.slice (some ⟨k,j,none⟩) (n+m) c,u)
       else gU h e i.size i.bytes k j n c m a
      |_=>none
     else none
    |none=>none
   else none
  |none=>none
 |_=>none
def copyV(P:Program)(t:TypeId)(d s:Value)(h:aa):Option (Value×bp):=
 match P.underlying t with
 | some (.slice e)=>match au P e,d with
  | some b,.slice a n _=>
   match cQ h b s with
   |some (cs,m)=>
    if n=0\/m=0 then some (.int .i64 0,.no)else
    match a with
    |some ⟨k,j,none⟩=>(storeAt h k j (cs.take (min m n*b))).map λu=>(.int .i64 (min m n:Nat),u)
    |_=>none
   |none=>none
  |_,_=>none
 |_=>none
def K5(P:Program)(t:TypeId)(x:Value)(h:aa):Option (Value×bp):=
 match P.underlying t,x with
 |some (.slice e),.slice (some ⟨k,j,none⟩) n _=>match zeroOf P e with
  |some z=>if n=0 then some (undef,.no)else(storeAt h k j (bO z.cells.toList n)).map λu=>(undef,u)
  |none=>none
 |_,_=>none
abbrev bY:=FuncId->List Value->aa->Option (Value×aa)
def qG(c:bY)(f:Value)(b:List Value)(h:aa):Option (Value×bp):=
 match f with
 |.func (.func g) first a=>if g<YB then(c g (first.toList++b++a.toList) h).map λr=>(r.1,.all r.2)else none
 |.func (.yield k) first a=>if first.size=0/\a.size=0 then(c (YB+k) b h).map λr=>(r.1,.all r.2)else none
 |_=>none
def jv(P:Program)(b:TypeId)(k v:Value):List (Value×Value)->Option (List (Value×Value))
 |[]=>some [(k,v)]
 |(a,c)::r=>match qi P b k a with
  |some true=>some ((k,v)::r)
  |some false=>(jv P b k v r).map ((a,c)::·)
  |none=>none
def cJ(P:Program)(v:bY)(ρ:Operand->Value)(o:Oper)(h:aa):Option (Value×bp):=
 match o.op with
 |.store t a x=>match ρ a with
  |.pointer (some ⟨k,i,none⟩)=>if au P t=some (ρ x).cells.size then(storeAt h k i (ρ x).cells.toList).map λu=>(undef,u)else none
  |_=>none
 | .mapUpdate t m k x|.insert t m k x=>match P.underlying t,ρ m with
  |some (.map j _),.map (some r)=>match h.get r with
   |some (.map q)=>if kW P j (ρ k)then(jv P j (ρ k) (ρ x) q).map λg=>(undef,.set r (.map g))else none
   |_=>none
  |_,_=>none
 |.call { callee:= .value f,args,.. }=>qG v (ρ f) (args.toList.map ρ) h
 |.call { callee:= .builtin .append,args,argTypes }=>match args.toList,argTypes.toList with
  |[s,x],[t,b]=>aJ P t b (ρ s) (ρ x) h
  |_,_=>none
 |.call { callee:= .builtin .copy,args,argTypes }=>match args.toList,argTypes.toList with
  |[d,s],t::_=>copyV P t (ρ d) (ρ s) h
  |_,_=>none
 |.call { callee:= .builtin .clear,args,argTypes }=>match args.toList.map ρ,argTypes.toList with
  |[x],[t]=>K5 P t x h
  |_,_=>none
 |.call { callee:= .builtin .unsafeSliceData,args,.. }=>match args.toList.map ρ with
  |[.slice none _ _]=>some (.pointer none,.no)
  |[.slice (some a) _ c]=>if 0<aW c then some (.pointer (some a),.no)else none
  |_=>none
 | .call { callee:= .builtin .unsafeString,args,argTypes,.. }=>match args.toList.map ρ,argTypes[0]? with
  |[.pointer none,.int _ 0],some _=>some (strOf [],.no)
  | [.pointer (some ⟨k,i,none⟩),.int _ n],some w=>match h.get k,P.underlying w with
   | some (.cells cs e 1 true),some (.pointer p)=>
    if e=p/\au P e=some 1/\0<n/\n<9223372036854775807/\((cs.drop i).take n.toNat).length=n.toNat then
     match bytesOf ((cs.drop i).take n.toNat)with
     |some l=>some (strOf l,.set k (.cells cs e 1 false))
     |none=>none
    else none
   |_,_=>none
  |_,_=>none
 | .convert s d x=>match P.underlying s,P.underlying d,ρ x with
  |some (.pointer t),some .unsafePointer,.pointer (some ⟨k,0,none⟩)=>match h.get k with
   |some (.cells cs b 0 _)=>if t=b/\au P t=some cs.length/\0<cs.length then some (ρ x,.no)else none
   |_=>none
  |some .unsafePointer,some (.pointer t),.pointer (some ⟨k,0,none⟩)=>match h.get k with
   |some (.cells cs b 0 _)=>if t=b/\au P t=some cs.length/\0<cs.length then some (ρ x,.no)else none
   |_=>none
  |_,_,_=>none
 |_=>none
def bm(P:Program)(a:bY)(ρ:Operand->Value)(o:Oper)(h:aa):Option (Value×bp):=
 match ba P ρ o with
 |some v=>some (v,.no)
 | none=>match bj P ρ o h with
  |some v=>some (v,.no)
  |none=>match aT P ρ o with
   |some (b,f)=>some (f h.next,.push b)
   |none=>cJ P a ρ o h
def fe(a:List Value)(b:Option Tmp)(v:Value):List Value:=
 match b with
 |some d=>a.set d v
 |none=>a
def ef(ops:Array Oper)(c:List Value)(o:Oper):Option Bool:=
 match o.guard with
 |none=>some true
 | some (j,a)=>match (ops[j]?).bind (·.dst)with
  |some d=>match c.getD d undef with
   |.bool b=>some (b==a)
   |.tuple _=>some false
   |_=>none
  |none=>none
def fP(P:Program)(gl:Nat->Bool)(c:bY)(ops:Array Oper):List Oper->List Value->aa->Option (List Value×aa)
 |[],a,h=>some (a,h)
 | o::b,a,h=>
  match ef ops a o with
  |some true=>match bm P c (ev gl a) o h with
   |some (v,u)=>fP P gl c ops b (fe a o.dst v) (u.app h)
   |none=>none
  |some false=>fP P gl c ops b (fe a o.dst undef) h
  |none=>none
def wN(e:Value->Value->Bool):List Value->List Value->Bool
 |[],[]=>true
 |a::x,b::y=>e a b&&wN e x y
 |_,_=>false
def df:Nat->Value->Value->Bool
 |0,_,_=>false
 |d+1,v,h=>match v,h with
  |.bool a,.bool b=>a==b
  |.int k a,.int l b=>decide (k=l)&&decide (a=b)
  |.string a,.string b=>decide (a.data.toList=b.data.toList)
  |.pointer none,.pointer none=>true
  |.pointer (some ⟨a,i,none⟩),.pointer (some ⟨b,j,none⟩)=>decide (a=b)&&decide (i=j)
  |.slice none n c,.slice none g e=>decide (n=g)&&decide (c=e)
  |.slice (some ⟨a,i,none⟩) n c,.slice (some ⟨b,j,none⟩) g e=>decide (a=b)&&decide (i=j)&&decide (n=g)&&decide (c=e)
  |.map none,.map none=>true
  |.map (some a),.map (some b)=>decide (a=b)
  |.nilFunc,.nilFunc=>true
  |.nilIface,.nilIface=>true
  |.func (.func f) a c,.func (.func o) m e=>decide (f=o)&&wN (df d) a.toList m.toList&&wN (df d) c.toList e.toList
  |.iface t v,.iface p h=>decide (t=p)&&df d v h
  |.agg a,.agg b=>wN (df d) a.toList b.toList
  |.tuple a,.tuple b=>wN (df d) a.toList b.toList
  |_,_=>false
inductive lE where
 |skip
 |pure (v:Value)
 |read (v:Value)
 |alloc (B:bu) (v:Value)
 |qh (v:Value) (h:aa)
 deriving Inhabited
def lE.val:lE->Value
 |.skip=>undef
 |.pure v|.read v|.alloc _ v|.qh v _=>v
def aw(h:aa)(base:Nat):List (Nat×bu)->aa
 |[]=>h
 |(i,B)::r=>(aw h base r).set (base+i) B
def cU (P:Program)(gl:Nat->Bool)(c:bY)(ops:Array Oper)(bf:Nat->Nat->Bool)(base:Nat):List Oper->Nat->List Value->aa->List (Nat×bu)->Option (List (List Value×lE)×List Value×aa×List (Nat×bu))
 |[],_,a,h,pd=>some ([],a,h,pd)
 | o::b,j,a,h,pd=>
  match ef ops a o with
  |none=>none
  |some false=>(cU P gl c ops bf base b (j+1) (fe a o.dst undef) h pd).map λr=>((a,.skip)::r.1,r.2)
  | some true=>
   match ba P (ev gl a) o with
   |some v=>(cU P gl c ops bf base b (j+1) (fe a o.dst v) h pd).map λr=>((a,.pure v)::r.1,r.2)
   | none=>
    match bj P (ev gl a) o h with
    |some v=>(cU P gl c ops bf base b (j+1) (fe a o.dst v) h pd).map λr=>((a,.read v)::r.1,r.2)
    | none=>
     match aT P (ev gl a) o with
     |some (B,f)=>(cU P gl c ops bf base b (j+1) (fe a o.dst (f (base+j))) h ((j,B)::pd)).map λr=>((a,.alloc B (f (base+j)))::r.1,r.2)
     | none=>
      match cJ P c (ev gl a) o (aw h base (pd.filter λp=>bf j p.1))with
      | some (v,u)=>
       (cU P gl c ops bf base b (j+1) (fe a o.dst v) (u.app (aw h base (pd.filter λp=>bf j p.1))) (pd.filter λp=> !bf j p.1)).map λr=>
        ((a,.qh v (u.app (aw h base (pd.filter λp=>bf j p.1))))::r.1,r.2)
      |none=>none
def dE{a:Type}:List (a×lE)->Nat->List (Nat×aa)
 |[],_=>[]
 |(_,.qh _ h)::r,j=>(j,h)::dE r (j+1)
 |_::r,j=>dE r (j+1)
def chained(bf:Nat->Nat->Bool):List (Nat×aa)->Bool
 |(i,_)::(j,h)::r=>bf j i&&chained bf ((j,h)::r)
 |_=>true
def hO(P:Program)(gl:Nat->Bool)(o:Oper)(a:List Value)(v:Value)(h:aa):Bool:=
 match bj P (ev gl a) o h with
 |some b=>df 4 v b
 |none=>false
def jz(P:Program)(gl:Nat->Bool)(bf:Nat->Nat->Bool)(j:Nat)(o:Oper)(b:List Value)(v:Value):aa->List (Nat×aa)->Bool->Bool
 |h,[],a=>a||hO P gl o b v h
 |h,(e,c)::r,a=>((a&&Nat.blt j e)||bf j e||hO P gl o b v h)&&(bf e j||jz P gl bf j o b v c r (Nat.blt e j))
def fQ(P:Program)(gl:Nat->Bool)(bf:Nat->Nat->Bool)(h:aa)(b:List (Nat×aa)):List Oper->List (List Value×lE)->Nat->Bool
 |o::a,(c,.read v)::r,j=>jz P gl bf j o c v h b true&&fQ P gl bf h b a r (j+1)
 |_::a,_::r,j=>fQ P gl bf h b a r (j+1)
 |_,_,_=>true
def rO(P:Program)(gl:Nat->Bool)(e:bY)(ops:Array Oper)(bf:Nat->Nat->Bool)(c:List Value)(h:aa):Option (List Value×aa):=
 match cU P gl e ops bf h.next ops.toList 0 c { h with next:=h.next+ops.size } []with
 |some (a,b,d,pd)=>
  if chained bf (dE a 0)&&fQ P gl bf { h with next:=h.next+ops.size } (dE a 0) ops.toList a 0 then some (b,aw d h.next pd)else none
 |none=>none
def aal(o:Oper):Bool:=match o.op with|.insert .. =>true|_=>false
def adk(o:Oper):Bool:=match o.op with|.store .. =>true|_=>false
def tE(ops:Array Oper):Bool:=
 ops.toList.any aal&&(List.range ops.size).any λj=>(match ops[j]? with|some o=>adk o|none=>false)&&(List.range j).any λi=>(match ops[i]? with|some o=>aal o|none=>false) && !cD (fk ops) j i
def fb:FuncId->List Value->aa->Option (Value×aa):=λ_ _ _=>none
def Gz(P:Program)(ρ:Operand->Value)(o:Oper)(k:Nat)(h:aa):Option (Value×Option (Nat×bu)):=
 match ba P ρ o with
 |some v=>some (v,none)
 | none=>match bj P ρ o h with
  |some v=>some (v,none)
  | none=>match aT P ρ o with
   |some (b,f)=>some (f k,some (k,b))
   |none=>match cJ P fb ρ o h with
    |some (v,.no)=>some (v,none)
    |some (v,.set i b)=>some (v,some (i,b))
    |_=>none
abbrev yw:=List Value×aa×List Nat
def BC(s:yw)(a:Option Tmp)(v:Value):Option (Nat×bu)->yw
 |none=>(fe s.1 a v,s.2.1,s.2.2)
 |some (k,b)=>(fe s.1 a v,s.2.1.set k b,k::s.2.2)
def wz(P:Program)(gl:Nat->Bool)(ops:Array Oper)(base j:Nat)(s:yw):Option yw:=
 match ops[j]? with
 | some o=>match ef ops s.1 o with
  |some true=>match Gz P (ev gl s.1) o (base+j) s.2.1 with
   |some (v,u)=>some (BC s o.dst v u)
   |none=>none
  |some false=>some (BC s o.dst undef none)
  |none=>none
 |none=>none
def zm(P:Program)(gl:Nat->Bool)(ops:Array Oper)(base:Nat):Nat->Nat->yw->Option yw
 |0,_,s=>some s
 |n+1,j,s=>match wz P gl ops base j s with
  |some a=>zm P gl ops base n (j+1) a
  |none=>none
def tL:List (Value×Value)->List (Value×Value)->Bool
 |[],[]=>true
 |(a,b)::x,(c,d)::y=>df 4 a c&&df 4 b d&&tL x y
 |_,_=>false
def yJ:bu->bu->Bool
 |.cells cs t e g,.cells b h d c=>wN (df 4) cs b&&Nat.beq t h&&Nat.beq e d&&(g==c)
 |.map f,.map a=>tL f a
 |_,_=>false
def O4(h a:aa)(k:Nat):Bool:=match h.get k,a.get k with
 |some B,some C=>yJ B C
 |none,none=>true
 |_,_=>false
def D8(s a:yw):Bool:=wN (df 4) s.1 a.1&&s.2.2.all (O4 s.2.1 a.2.1)&&a.2.2.all (O4 s.2.1 a.2.1)
def HQ(P:Program)(gl:Nat->Bool)(ops:Array Oper)(bf:Nat->Nat->Bool)(base:Nat)(fin:yw):Nat->List Nat->yw->Bool
 |0,_,s=>D8 fin s
 |n+1,a,s=>(List.range ops.size).all λj=>a.contains j||((List.range j).any λi=>bf j i && !a.contains i)||(match wz P gl ops base j s with|some b=>HQ P gl ops bf base fin n (j::a) b|none=>false)
def vj(P:Program)(gl:Nat->Bool)(ops:Array Oper)(bf:Nat->Nat->Bool)(a:List Value)(h:aa):Option (List Value×aa):=
 match zm P gl ops h.next ops.size 0 (a,{ h with next:=h.next+ops.size },[])with
 |some fin=>if HQ P gl ops bf h.next fin ops.size [] (a,{ h with next:=h.next+ops.size },[])then some (fin.1,fin.2.1)else none
 |none=>none
def yN(P:Program)(gl:Nat->Bool)(b:bY)(ops:Array Oper)(a:List Value)(h:aa):Option (List Value×aa):=
 if tE ops then vj P gl ops (cD (fk ops)) a h else rO P gl b ops (cD (fk ops)) a h
def iter(a:List Value->aa->Option (Exit×List Value×aa)):Nat->List Value->aa->Option (Exit×List Value×aa)
 |0,_,_=>none
 |n+1,c,h=>match a c h with
  |some (.normal,b,d)=>iter a n b d
  |r=>r
def qH(P:Program)(g:FuncId):Bool:=match P.funcs[g]? with|some a=>a.body.isSome|none=>false
def N3:Option bu->Option Exit
 |some (.loop .ready ..)=>some .normal
 |some (.loop .ret ..)=>some .ret
 |some (.loop (.exit a) ..)=>some (.exit a)
 |_=>none
def aQ(P:Program)(gl:Nat->Bool)(i:bY)(N:Nat):Code->List Value->aa->Option (Exit×List Value×aa)
 |.skip,d,h=>some (.normal,d,h)
 |.region _ ops false,d,h=>(fP P gl i ops ops.toList d h).map λr=>(.normal,r.1,r.2)
 |.region _ ops true,d,h=>(yN P gl i ops d h).map λr=>(.normal,r.1,r.2)
 |.seq a b,d,h=>match aQ P gl i N a d h with
  |some (.normal,k,m)=>aQ P gl i N b k m
  |r=>r
 |.cond c a b,d,h=>match ev gl d c with
  |.bool t=>if t then aQ P gl i N a d h else aQ P gl i N b d h
  |_=>none
 |.block p c,d,h=>match aQ P gl i N c d h with
  |some (.exit o,k,m)=>if o=p then some (.normal,k,m)else some (.exit o,k,m)
  |r=>r
 |.loop c,d,h=>iter (aQ P gl i N c) N d h
 |.exit p,d,h=>some (.exit p,d,h)
 |.ret,d,h=>some (.ret,d,h)
 |.label _,d,h=>some (.normal,d,h)
 | .rangeFunc f s n l,d,h=>match ev gl d f with
  | .func (.func g) first j=>
   if u:jP n l=true then
    if g<YB/\qH P g=true then
     match i g (first.toList++[.func (.yield h.next) #[] #[]]++j.toList) (h.push (.loop .ready d s.toList n l u))with
     |some (_,q)=>(N3 (q.get h.next)).map λe=>(e,d,q.del h.next)
     |none=>none
    else none
   else none
  |_=>none
 |_,_,_=>none
def ry(a:List Value)(b:List (Tmp×Value)):List Value:=b.foldl (λa p=>a.set p.1 p.2) a
def I3:Exit->Option (Bool×WC)
 |.normal=>some (true,.ready)
 |.ret=>some (false,.ret)
 |.exit a=>some (false,.exit a)
 |_=>none
def oO(f:Code->List Value->aa->Option (Exit×List Value×aa))(k:Nat)(a:List Value)(h:aa):Option (Value×aa):=
 match h.get k with
 | some (.loop .ready w v m g _)=>
  if a.length=v.length then
   match f m (ry w (v.zip a)) h with
   | some (.normal,t,p)=>match p.get k with
    | some (.loop .ready l s i c q)=>match f g t (p.set k (.loop .busy l s i c q))with
     |some (e,_,r)=>match r.get k,I3 e with
      |some (.loop _ n o j d u),some (b,x)=>some (.bool b,r.set k (.loop x n o j d u))
      |_,_=>none
     |none=>none
    |_=>none
   |_=>none
  else none
 |_=>none
def cn(P:Program)(b:List Value)(h:aa):List ResultVar->Option (List Value)
 |[]=>some []
 |.tmp t::r=>(cn P b h r).map (b.getD t undef::·)
 |.cell a t::r=>match ae P t h (b.getD a undef)with
  |some v=>(cn P b h r).map (v::·)
  |none=>none
def bh:List Value->Value
 |[v]=>v
 |a=> .tuple a.toArray
abbrev kS:=bY->List Value->aa->Option (Value×aa)
def bn(P:Program)(gl:Nat->Bool)(e:FuncId->Option kS):Nat->bY
 |0,_,_,_=>none
 | n+1,f,a,h=>if YB<=f then oO (aQ P gl (bn P gl e n) n) (f-YB) a h else match e f with
  |some p=>p (bn P gl e n) a h
  | none=>match P.funcs[f]? with
   | some d=>match d.body with
    |some c=>match aQ P gl (bn P gl e n) n c (a++List.replicate (d.ntmps-a.length) undef) h with
     |some (.normal,i,b)=>(cn P i b d.results.toList).map λg=>(bh g,b)
     |some (.ret,i,b)=>(cn P i b d.results.toList).map λg=>(bh g,b)
     |_=>none
    |none=>none
   |none=>none
end
end Go.Ab
end
section
namespace Go.Ab
variable{n:Nat}{v:Value}
noncomputable section
structure Row where
 c0:Value
 c1:Value
 c2:Value
 c3:Value
 c4:Value
 c5:Value
 c6:Value
 c7:Value
 c8:Value
 c9:Value
 c10:Value
 c11:Value
 c12:Value
 c13:Value
 c14:Value
 c15:Value
structure Env where
 c0:Row
 c1:Row
 c2:Row
 c3:Row
 c4:Row
 c5:Row
 c6:Row
 c7:Row
 c8:Row
 c9:Row
 c10:Row
 c11:Row
 c12:Row
 c13:Row
 c14:Row
 c15:Row
inductive qm where
 |d0|d1|d2|d3|d4|d5|d6|d7|d8|d9|d10|d11|d12|d13|d14|d15|x
 deriving DecidableEq
def nZ:Row:=Row.mk undef undef undef undef undef undef undef undef undef undef undef undef undef undef undef undef
def xq:Env:=Env.mk nZ nZ nZ nZ nZ nZ nZ nZ nZ nZ nZ nZ nZ nZ nZ nZ
def Row.g0(t:Row):Value:=Row.rec (motive:=λ_=>Value) (λa _ _ _ _ _ _ _ _ _ _ _ _ _ _ _=>a) t
def Row.g1(t:Row):Value:=Row.rec (motive:=λ_=>Value) (λ_ a _ _ _ _ _ _ _ _ _ _ _ _ _ _=>a) t
def Row.g2(t:Row):Value:=Row.rec (motive:=λ_=>Value) (λ_ _ a _ _ _ _ _ _ _ _ _ _ _ _ _=>a) t
def Row.g3(t:Row):Value:=Row.rec (motive:=λ_=>Value) (λ_ _ _ a _ _ _ _ _ _ _ _ _ _ _ _=>a) t
def Row.g4(t:Row):Value:=Row.rec (motive:=λ_=>Value) (λ_ _ _ _ a _ _ _ _ _ _ _ _ _ _ _=>a) t
def Row.g5(t:Row):Value:=Row.rec (motive:=λ_=>Value) (λ_ _ _ _ _ a _ _ _ _ _ _ _ _ _ _=>a) t
def Row.g6(t:Row):Value:=Row.rec (motive:=λ_=>Value) (λ_ _ _ _ _ _ a _ _ _ _ _ _ _ _ _=>a) t
def Row.g7(t:Row):Value:=Row.rec (motive:=λ_=>Value) (λ_ _ _ _ _ _ _ a _ _ _ _ _ _ _ _=>a) t
def Row.g8(t:Row):Value:=Row.rec (motive:=λ_=>Value) (λ_ _ _ _ _ _ _ _ a _ _ _ _ _ _ _=>a) t
def Row.g9(t:Row):Value:=Row.rec (motive:=λ_=>Value) (λ_ _ _ _ _ _ _ _ _ a _ _ _ _ _ _=>a) t
def Row.g10(t:Row):Value:=Row.rec (motive:=λ_=>Value) (λ_ _ _ _ _ _ _ _ _ _ a _ _ _ _ _=>a) t
def Row.g11(t:Row):Value:=Row.rec (motive:=λ_=>Value) (λ_ _ _ _ _ _ _ _ _ _ _ a _ _ _ _=>a) t
def Row.g12(t:Row):Value:=Row.rec (motive:=λ_=>Value) (λ_ _ _ _ _ _ _ _ _ _ _ _ a _ _ _=>a) t
def Row.g13(t:Row):Value:=Row.rec (motive:=λ_=>Value) (λ_ _ _ _ _ _ _ _ _ _ _ _ _ a _ _=>a) t
def Row.g14(t:Row):Value:=Row.rec (motive:=λ_=>Value) (λ_ _ _ _ _ _ _ _ _ _ _ _ _ _ a _=>a) t
def Row.g15(t:Row):Value:=Row.rec (motive:=λ_=>Value) (λ_ _ _ _ _ _ _ _ _ _ _ _ _ _ _ a=>a) t
def Row.s0(t:Row)(x:Value)(K:Row->Bool):Bool:=Row.rec (motive:=λ_=>Bool) (λ_ k m l i o n h j g f d e a b c=>K (Row.mk x k m l i o n h j g f d e a b c)) t
def Row.s1(t:Row)(x:Value)(K:Row->Bool):Bool:=Row.rec (motive:=λ_=>Bool) (λo _ l k i n m h j g f d e a b c=>K (Row.mk o x l k i n m h j g f d e a b c)) t
def Row.s2(t:Row)(x:Value)(K:Row->Bool):Bool:=Row.rec (motive:=λ_=>Bool) (λo k _ l i n m h j g f d e a b c=>K (Row.mk o k x l i n m h j g f d e a b c)) t
def Row.s3(t:Row)(x:Value)(K:Row->Bool):Bool:=Row.rec (motive:=λ_=>Bool) (λo k l _ i n m h j g f d e a b c=>K (Row.mk o k l x i n m h j g f d e a b c)) t
def Row.s4(t:Row)(x:Value)(K:Row->Bool):Bool:=Row.rec (motive:=λ_=>Bool) (λo j l k _ n m h i g f d e a b c=>K (Row.mk o j l k x n m h i g f d e a b c)) t
def Row.s5(t:Row)(x:Value)(K:Row->Bool):Bool:=Row.rec (motive:=λ_=>Bool) (λo k m l i _ n h j g f d e a b c=>K (Row.mk o k m l i x n h j g f d e a b c)) t
def Row.s6(t:Row)(x:Value)(K:Row->Bool):Bool:=Row.rec (motive:=λ_=>Bool) (λo k m l i n _ h j g f d e a b c=>K (Row.mk o k m l i n x h j g f d e a b c)) t
def Row.s7(t:Row)(x:Value)(K:Row->Bool):Bool:=Row.rec (motive:=λ_=>Bool) (λo j l k h n m _ i g f d e a b c=>K (Row.mk o j l k h n m x i g f d e a b c)) t
def Row.s8(t:Row)(x:Value)(K:Row->Bool):Bool:=Row.rec (motive:=λ_=>Bool) (λo j l k i n m h _ g f d e a b c=>K (Row.mk o j l k i n m h x g f d e a b c)) t
def Row.s9(t:Row)(x:Value)(K:Row->Bool):Bool:=Row.rec (motive:=λ_=>Bool) (λo j l k h n m g i _ f d e a b c=>K (Row.mk o j l k h n m g i x f d e a b c)) t
def Row.s10(t:Row)(x:Value)(K:Row->Bool):Bool:=Row.rec (motive:=λ_=>Bool) (λo j l k h n m g i f _ d e a b c=>K (Row.mk o j l k h n m g i f x d e a b c)) t
def Row.s11(t:Row)(x:Value)(K:Row->Bool):Bool:=Row.rec (motive:=λ_=>Bool) (λo j l k h n m g i f e _ d a b c=>K (Row.mk o j l k h n m g i f e x d a b c)) t
def Row.s12(t:Row)(x:Value)(K:Row->Bool):Bool:=Row.rec (motive:=λ_=>Bool) (λo j l k h n m g i f e d _ a b c=>K (Row.mk o j l k h n m g i f e d x a b c)) t
def Row.s13(t:Row)(x:Value)(K:Row->Bool):Bool:=Row.rec (motive:=λ_=>Bool) (λo j l k h n m g i f e c d _ a b=>K (Row.mk o j l k h n m g i f e c d x a b)) t
def Row.s14(t:Row)(x:Value)(K:Row->Bool):Bool:=Row.rec (motive:=λ_=>Bool) (λo j l k h n m g i f e c d a _ b=>K (Row.mk o j l k h n m g i f e c d a x b)) t
def Row.s15(t:Row)(x:Value)(K:Row->Bool):Bool:=Row.rec (motive:=λ_=>Bool) (λo j l k h n m g i f e c d a b _=>K (Row.mk o j l k h n m g i f e c d a b x)) t
def Row.u0(t:Row)(x:Value):Row:=Row.rec (motive:=λ_=>Row) (λ_ k m l i o n h j g f d e a b c=>Row.mk x k m l i o n h j g f d e a b c) t
def Row.u1(t:Row)(x:Value):Row:=Row.rec (motive:=λ_=>Row) (λo _ l k i n m h j g f d e a b c=>Row.mk o x l k i n m h j g f d e a b c) t
def Row.u2(t:Row)(x:Value):Row:=Row.rec (motive:=λ_=>Row) (λo k _ l i n m h j g f d e a b c=>Row.mk o k x l i n m h j g f d e a b c) t
def Row.u3(t:Row)(x:Value):Row:=Row.rec (motive:=λ_=>Row) (λo k l _ i n m h j g f d e a b c=>Row.mk o k l x i n m h j g f d e a b c) t
def Row.u4(t:Row)(x:Value):Row:=Row.rec (motive:=λ_=>Row) (λo j l k _ n m h i g f d e a b c=>Row.mk o j l k x n m h i g f d e a b c) t
def Row.u5(t:Row)(x:Value):Row:=Row.rec (motive:=λ_=>Row) (λo k m l i _ n h j g f d e a b c=>Row.mk o k m l i x n h j g f d e a b c) t
def Row.u6(t:Row)(x:Value):Row:=Row.rec (motive:=λ_=>Row) (λo k m l i n _ h j g f d e a b c=>Row.mk o k m l i n x h j g f d e a b c) t
def Row.u7(t:Row)(x:Value):Row:=Row.rec (motive:=λ_=>Row) (λo j l k h n m _ i g f d e a b c=>Row.mk o j l k h n m x i g f d e a b c) t
def Row.u8(t:Row)(x:Value):Row:=Row.rec (motive:=λ_=>Row) (λo j l k i n m h _ g f d e a b c=>Row.mk o j l k i n m h x g f d e a b c) t
def Row.u9(t:Row)(x:Value):Row:=Row.rec (motive:=λ_=>Row) (λo j l k h n m g i _ f d e a b c=>Row.mk o j l k h n m g i x f d e a b c) t
def Row.u10(t:Row)(x:Value):Row:=Row.rec (motive:=λ_=>Row) (λo j l k h n m g i f _ d e a b c=>Row.mk o j l k h n m g i f x d e a b c) t
def Row.u11(t:Row)(x:Value):Row:=Row.rec (motive:=λ_=>Row) (λo j l k h n m g i f e _ d a b c=>Row.mk o j l k h n m g i f e x d a b c) t
def Row.u12(t:Row)(x:Value):Row:=Row.rec (motive:=λ_=>Row) (λo j l k h n m g i f e d _ a b c=>Row.mk o j l k h n m g i f e d x a b c) t
def Row.u13(t:Row)(x:Value):Row:=Row.rec (motive:=λ_=>Row) (λo j l k h n m g i f e c d _ a b=>Row.mk o j l k h n m g i f e c d x a b) t
def Row.u14(t:Row)(x:Value):Row:=Row.rec (motive:=λ_=>Row) (λo j l k h n m g i f e c d a _ b=>Row.mk o j l k h n m g i f e c d a x b) t
def Row.u15(t:Row)(x:Value):Row:=Row.rec (motive:=λ_=>Row) (λo j l k h n m g i f e c d a b _=>Row.mk o j l k h n m g i f e c d a b x) t
def Row.sx(t:Row)(_:Value)(K:Row->Bool):Bool:=K t
def Row.ux(t:Row)(_:Value):Row:=t
def Row.gx(_:Row):Value:=undef
def Row.at(d:qm):Row->Value:=qm.rec (motive:=λ_=>Row->Value) Row.g0 Row.g1 Row.g2 Row.g3 Row.g4 Row.g5 Row.g6 Row.g7 Row.g8 Row.g9 Row.g10 Row.g11 Row.g12 Row.g13 Row.g14 Row.g15 Row.gx d
def Row.set(d:qm):Row->Value->(Row->Bool)->Bool:=qm.rec (motive:=λ_=>Row->Value->(Row->Bool)->Bool) Row.s0 Row.s1 Row.s2 Row.s3 Row.s4 Row.s5 Row.s6 Row.s7 Row.s8 Row.s9 Row.s10 Row.s11 Row.s12 Row.s13 Row.s14 Row.s15 Row.sx d
def Row.kJ(d:qm):Row->Value->Row:=qm.rec (motive:=λ_=>Row->Value->Row) Row.u0 Row.u1 Row.u2 Row.u3 Row.u4 Row.u5 Row.u6 Row.u7 Row.u8 Row.u9 Row.u10 Row.u11 Row.u12 Row.u13 Row.u14 Row.u15 Row.ux d
theorem Row.ME(d:qm)(t:Row)(x:Value)(K:Row->Bool):Row.set d t x K=K (Row.kJ d t x):=by cases d<;>rfl
theorem Row.KP(d e:qm)(t:Row)(x:Value)(a:d≠ .x):Row.at e (Row.kJ d t x)=if e=d then x else Row.at e t:=by
 cases d<;>first|exact absurd rfl a|(cases e<;>rfl)
def Env.g0(t:Env):Row:=Env.rec (motive:=λ_=>Row) (λa _ _ _ _ _ _ _ _ _ _ _ _ _ _ _=>a) t
def Env.g1(t:Env):Row:=Env.rec (motive:=λ_=>Row) (λ_ a _ _ _ _ _ _ _ _ _ _ _ _ _ _=>a) t
def Env.g2(t:Env):Row:=Env.rec (motive:=λ_=>Row) (λ_ _ a _ _ _ _ _ _ _ _ _ _ _ _ _=>a) t
def Env.g3(t:Env):Row:=Env.rec (motive:=λ_=>Row) (λ_ _ _ a _ _ _ _ _ _ _ _ _ _ _ _=>a) t
def Env.g4(t:Env):Row:=Env.rec (motive:=λ_=>Row) (λ_ _ _ _ a _ _ _ _ _ _ _ _ _ _ _=>a) t
def Env.g5(t:Env):Row:=Env.rec (motive:=λ_=>Row) (λ_ _ _ _ _ a _ _ _ _ _ _ _ _ _ _=>a) t
def Env.g6(t:Env):Row:=Env.rec (motive:=λ_=>Row) (λ_ _ _ _ _ _ a _ _ _ _ _ _ _ _ _=>a) t
def Env.g7(t:Env):Row:=Env.rec (motive:=λ_=>Row) (λ_ _ _ _ _ _ _ a _ _ _ _ _ _ _ _=>a) t
def Env.g8(t:Env):Row:=Env.rec (motive:=λ_=>Row) (λ_ _ _ _ _ _ _ _ a _ _ _ _ _ _ _=>a) t
def Env.g9(t:Env):Row:=Env.rec (motive:=λ_=>Row) (λ_ _ _ _ _ _ _ _ _ a _ _ _ _ _ _=>a) t
def Env.g10(t:Env):Row:=Env.rec (motive:=λ_=>Row) (λ_ _ _ _ _ _ _ _ _ _ a _ _ _ _ _=>a) t
def Env.g11(t:Env):Row:=Env.rec (motive:=λ_=>Row) (λ_ _ _ _ _ _ _ _ _ _ _ a _ _ _ _=>a) t
def Env.g12(t:Env):Row:=Env.rec (motive:=λ_=>Row) (λ_ _ _ _ _ _ _ _ _ _ _ _ a _ _ _=>a) t
def Env.g13(t:Env):Row:=Env.rec (motive:=λ_=>Row) (λ_ _ _ _ _ _ _ _ _ _ _ _ _ a _ _=>a) t
def Env.g14(t:Env):Row:=Env.rec (motive:=λ_=>Row) (λ_ _ _ _ _ _ _ _ _ _ _ _ _ _ a _=>a) t
def Env.g15(t:Env):Row:=Env.rec (motive:=λ_=>Row) (λ_ _ _ _ _ _ _ _ _ _ _ _ _ _ _ a=>a) t
def Env.s0(t:Env)(x:Row)(K:Env->Bool):Bool:=Env.rec (motive:=λ_=>Bool) (λ_ k m l i o n h j g f d e a b c=>K (Env.mk x k m l i o n h j g f d e a b c)) t
def Env.s1(t:Env)(x:Row)(K:Env->Bool):Bool:=Env.rec (motive:=λ_=>Bool) (λo _ l k i n m h j g f d e a b c=>K (Env.mk o x l k i n m h j g f d e a b c)) t
def Env.s2(t:Env)(x:Row)(K:Env->Bool):Bool:=Env.rec (motive:=λ_=>Bool) (λo k _ l i n m h j g f d e a b c=>K (Env.mk o k x l i n m h j g f d e a b c)) t
def Env.s3(t:Env)(x:Row)(K:Env->Bool):Bool:=Env.rec (motive:=λ_=>Bool) (λo k l _ i n m h j g f d e a b c=>K (Env.mk o k l x i n m h j g f d e a b c)) t
def Env.s4(t:Env)(x:Row)(K:Env->Bool):Bool:=Env.rec (motive:=λ_=>Bool) (λo j l k _ n m h i g f d e a b c=>K (Env.mk o j l k x n m h i g f d e a b c)) t
def Env.s5(t:Env)(x:Row)(K:Env->Bool):Bool:=Env.rec (motive:=λ_=>Bool) (λo k m l i _ n h j g f d e a b c=>K (Env.mk o k m l i x n h j g f d e a b c)) t
def Env.s6(t:Env)(x:Row)(K:Env->Bool):Bool:=Env.rec (motive:=λ_=>Bool) (λo k m l i n _ h j g f d e a b c=>K (Env.mk o k m l i n x h j g f d e a b c)) t
def Env.s7(t:Env)(x:Row)(K:Env->Bool):Bool:=Env.rec (motive:=λ_=>Bool) (λo j l k h n m _ i g f d e a b c=>K (Env.mk o j l k h n m x i g f d e a b c)) t
def Env.s8(t:Env)(x:Row)(K:Env->Bool):Bool:=Env.rec (motive:=λ_=>Bool) (λo j l k i n m h _ g f d e a b c=>K (Env.mk o j l k i n m h x g f d e a b c)) t
def Env.s9(t:Env)(x:Row)(K:Env->Bool):Bool:=Env.rec (motive:=λ_=>Bool) (λo j l k h n m g i _ f d e a b c=>K (Env.mk o j l k h n m g i x f d e a b c)) t
def Env.s10(t:Env)(x:Row)(K:Env->Bool):Bool:=Env.rec (motive:=λ_=>Bool) (λo j l k h n m g i f _ d e a b c=>K (Env.mk o j l k h n m g i f x d e a b c)) t
def Env.s11(t:Env)(x:Row)(K:Env->Bool):Bool:=Env.rec (motive:=λ_=>Bool) (λo j l k h n m g i f e _ d a b c=>K (Env.mk o j l k h n m g i f e x d a b c)) t
def Env.s12(t:Env)(x:Row)(K:Env->Bool):Bool:=Env.rec (motive:=λ_=>Bool) (λo j l k h n m g i f e d _ a b c=>K (Env.mk o j l k h n m g i f e d x a b c)) t
def Env.s13(t:Env)(x:Row)(K:Env->Bool):Bool:=Env.rec (motive:=λ_=>Bool) (λo j l k h n m g i f e c d _ a b=>K (Env.mk o j l k h n m g i f e c d x a b)) t
def Env.s14(t:Env)(x:Row)(K:Env->Bool):Bool:=Env.rec (motive:=λ_=>Bool) (λo j l k h n m g i f e c d a _ b=>K (Env.mk o j l k h n m g i f e c d a x b)) t
def Env.s15(t:Env)(x:Row)(K:Env->Bool):Bool:=Env.rec (motive:=λ_=>Bool) (λo j l k h n m g i f e c d a b _=>K (Env.mk o j l k h n m g i f e c d a b x)) t
def Env.u0(t:Env)(x:Row):Env:=Env.rec (motive:=λ_=>Env) (λ_ k m l i o n h j g f d e a b c=>Env.mk x k m l i o n h j g f d e a b c) t
def Env.u1(t:Env)(x:Row):Env:=Env.rec (motive:=λ_=>Env) (λo _ l k i n m h j g f d e a b c=>Env.mk o x l k i n m h j g f d e a b c) t
def Env.u2(t:Env)(x:Row):Env:=Env.rec (motive:=λ_=>Env) (λo k _ l i n m h j g f d e a b c=>Env.mk o k x l i n m h j g f d e a b c) t
def Env.u3(t:Env)(x:Row):Env:=Env.rec (motive:=λ_=>Env) (λo k l _ i n m h j g f d e a b c=>Env.mk o k l x i n m h j g f d e a b c) t
def Env.u4(t:Env)(x:Row):Env:=Env.rec (motive:=λ_=>Env) (λo j l k _ n m h i g f d e a b c=>Env.mk o j l k x n m h i g f d e a b c) t
def Env.u5(t:Env)(x:Row):Env:=Env.rec (motive:=λ_=>Env) (λo k m l i _ n h j g f d e a b c=>Env.mk o k m l i x n h j g f d e a b c) t
def Env.u6(t:Env)(x:Row):Env:=Env.rec (motive:=λ_=>Env) (λo k m l i n _ h j g f d e a b c=>Env.mk o k m l i n x h j g f d e a b c) t
def Env.u7(t:Env)(x:Row):Env:=Env.rec (motive:=λ_=>Env) (λo j l k h n m _ i g f d e a b c=>Env.mk o j l k h n m x i g f d e a b c) t
def Env.u8(t:Env)(x:Row):Env:=Env.rec (motive:=λ_=>Env) (λo j l k i n m h _ g f d e a b c=>Env.mk o j l k i n m h x g f d e a b c) t
def Env.u9(t:Env)(x:Row):Env:=Env.rec (motive:=λ_=>Env) (λo j l k h n m g i _ f d e a b c=>Env.mk o j l k h n m g i x f d e a b c) t
def Env.u10(t:Env)(x:Row):Env:=Env.rec (motive:=λ_=>Env) (λo j l k h n m g i f _ d e a b c=>Env.mk o j l k h n m g i f x d e a b c) t
def Env.u11(t:Env)(x:Row):Env:=Env.rec (motive:=λ_=>Env) (λo j l k h n m g i f e _ d a b c=>Env.mk o j l k h n m g i f e x d a b c) t
def Env.u12(t:Env)(x:Row):Env:=Env.rec (motive:=λ_=>Env) (λo j l k h n m g i f e d _ a b c=>Env.mk o j l k h n m g i f e d x a b c) t
def Env.u13(t:Env)(x:Row):Env:=Env.rec (motive:=λ_=>Env) (λo j l k h n m g i f e c d _ a b=>Env.mk o j l k h n m g i f e c d x a b) t
def Env.u14(t:Env)(x:Row):Env:=Env.rec (motive:=λ_=>Env) (λo j l k h n m g i f e c d a _ b=>Env.mk o j l k h n m g i f e c d a x b) t
def Env.u15(t:Env)(x:Row):Env:=Env.rec (motive:=λ_=>Env) (λo j l k h n m g i f e c d a b _=>Env.mk o j l k h n m g i f e c d a b x) t
def Env.sx(t:Env)(_:Row)(K:Env->Bool):Bool:=K t
def Env.ux(t:Env)(_:Row):Env:=t
def Env.gx(_:Env):Row:=nZ
def Env.at(d:qm):Env->Row:=qm.rec (motive:=λ_=>Env->Row) Env.g0 Env.g1 Env.g2 Env.g3 Env.g4 Env.g5 Env.g6 Env.g7 Env.g8 Env.g9 Env.g10 Env.g11 Env.g12 Env.g13 Env.g14 Env.g15 Env.gx d
def Env.set(d:qm):Env->Row->(Env->Bool)->Bool:=qm.rec (motive:=λ_=>Env->Row->(Env->Bool)->Bool) Env.s0 Env.s1 Env.s2 Env.s3 Env.s4 Env.s5 Env.s6 Env.s7 Env.s8 Env.s9 Env.s10 Env.s11 Env.s12 Env.s13 Env.s14 Env.s15 Env.sx d
def Env.kJ(d:qm):Env->Row->Env:=qm.rec (motive:=λ_=>Env->Row->Env) Env.u0 Env.u1 Env.u2 Env.u3 Env.u4 Env.u5 Env.u6 Env.u7 Env.u8 Env.u9 Env.u10 Env.u11 Env.u12 Env.u13 Env.u14 Env.u15 Env.ux d
theorem Env.ME(d:qm)(t:Env)(x:Row)(K:Env->Bool):Env.set d t x K=K (Env.kJ d t x):=by cases d<;>rfl
theorem Env.KP(d e:qm)(t:Env)(x:Row)(a:d≠ .x):Env.at e (Env.kJ d t x)=if e=d then x else Env.at e t:=by
 cases d<;>first|exact absurd rfl a|(cases e<;>rfl)
def Ht(n:Nat):qm:=Nat.rec (motive:=λ_=>qm) .d0 (λp _=>Nat.rec (motive:=λ_=>qm) .d1 (λi _=>Nat.rec (motive:=λ_=>qm) .d2 (λj _=>Nat.rec (motive:=λ_=>qm) .d3 (λg _=>Nat.rec (motive:=λ_=>qm) .d4 (λo _=>Nat.rec (motive:=λ_=>qm) .d5 (λf _=>Nat.rec (motive:=λ_=>qm) .d6 (λk _=>Nat.rec (motive:=λ_=>qm) .d7 (λl _=>Nat.rec (motive:=λ_=>qm) .d8 (λm _=>Nat.rec (motive:=λ_=>qm) .d9 (λh _=>Nat.rec (motive:=λ_=>qm) .d10 (λc _=>Nat.rec (motive:=λ_=>qm) .d11 (λd _=>Nat.rec (motive:=λ_=>qm) .d12 (λe _=>Nat.rec (motive:=λ_=>qm) .d13 (λb _=>Nat.rec (motive:=λ_=>qm) .d14 (λa _=>Nat.rec (motive:=λ_=>qm) .d15 (λ_ _=> .x) a) b) e) d) c) h) m) l) k) f) o) g) j) i) p) n
def qm.num:qm->Nat
 |.d0=>0
 |.d1=>1
 |.d2=>2
 |.d3=>3
 |.d4=>4
 |.d5=>5
 |.d6=>6
 |.d7=>7
 |.d8=>8
 |.d9=>9
 |.d10=>10
 |.d11=>11
 |.d12=>12
 |.d13=>13
 |.d14=>14
 |.d15=>15
 |.x=>16
theorem Gy:∀n,(Ht n).num=min n 16
 |0=>rfl
 |1=>rfl
 |2=>rfl
 |3=>rfl
 |4=>rfl
 |5=>rfl
 |6=>rfl
 |7=>rfl
 |8=>rfl
 |9=>rfl
 |10=>rfl
 |11=>rfl
 |12=>rfl
 |13=>rfl
 |14=>rfl
 |15=>rfl
 |n+16=>by show 16=min (n+16) 16;omega
theorem SX{a b:Nat}(e:a<16)(h:Ht b=Ht a):b=a:=by
 have d:=Gy a;have c:=Gy b;rw[h]at c;omega
theorem aah{a:Nat}(b:a<16):Ht a≠ .x:=λh=>by
 have:=Gy a;rw[h]at this;simp only[qm.num]at this;omega
def Env.get(t:Nat)(e:Env):Value:=Row.at (Ht (t%16)) (Env.at (Ht (t/16)) e)
def Env.put(t:Nat)(e:Env)(v:Value)(K:Env->Bool):Bool:=Row.set (Ht (t%16)) (Env.at (Ht (t/16)) e) v λr=>Env.set (Ht (t/16)) e r K
def Env.new(t:Nat)(e:Env)(v:Value):Env:=Env.kJ (Ht (t/16)) e (Row.kJ (Ht (t%16)) (Env.at (Ht (t/16)) e) v)
theorem Env.put_eq(t:Nat)(e:Env)(v:Value)(K:Env->Bool):Env.put t e v K=K (Env.new t e v):=by
 unfold Env.put Env.new;rw[Row.ME,Env.ME]
theorem U3(d:qm):Row.at d nZ=undef:=by cases d<;>rfl
theorem vv(t:Nat):Env.get t xq=undef:=by
 unfold Env.get;have:Env.at (Ht (t/16)) xq=nZ:=by cases Ht (t/16)<;>rfl
 rw[this,U3]
theorem Env.FQ{t:Nat}{e:Env}(i:t<256):Env.get n (Env.new t e v)=if n=t then v else Env.get n e:=by
 have c:t/16<16:=by omega
 have d:t%16<16:=Nat.mod_lt _ (by omega);unfold Env.get Env.new;rw[Env.KP _ _ _ _ (aah c)];by_cases a:Ht (n/16)=Ht (t/16)
 ·have f:=SX c a;rw[if_pos a,Row.KP _ _ _ _ (aah d)];by_cases b:Ht (n%16)=Ht (t%16)
  ·have g:=SX d b;rw[if_pos b,if_pos (by omega)]
  ·rw[if_neg b,if_neg (λh=>b (by rw[h])),a]
 ·rw[if_neg a,if_neg (λh=>a (by rw[h]))]
end
end Go.Ab
end
section
namespace Go.Ab
open Go
variable{u:IntKind}
section
noncomputable section
variable {α:Type}
def iX(n:Nat)(c:Nat->Bool):Bool:=Nat.rec (motive:=λ_=>Bool) (c 0) (λm _=>c (m+1)) n
def Tb(n:Int)(c:Int->Bool):Bool:=Int.rec (motive:=λ_=>Bool) (λn=>iX n λn=>c (.ofNat n)) (λn=>iX n λn=>c (.negSucc n)) n
def C7(bad:Bool)(x:Option α)(K:α->Bool):Bool:=Option.rec (motive:=λ_=>Bool) bad K x
def fE(b:Bool)(x y:Bool):Bool:=Bool.rec (motive:=λ_=>Bool) y x b
def NL(a:Option Addr)(K:Option Addr->Bool):Bool:=Option.rec (motive:=λ_=>Bool) (K none) (λc=>Addr.rec (motive:=λ_=>Bool) (λb o s=>iX b λb=>iX o λo=>K (some ⟨b,o,s⟩)) c) a
def ac9(k:IntKind)(n:Int)(K:Value->Bool):Bool:=Tb n λn=>K (.int k n)
def ada(a:Option Addr)(K:Value->Bool):Bool:=NL a λa=>K (.pointer a)
def Yg(a:Option Addr)(n c:Nat)(K:Value->Bool):Bool:=NL a λa=>iX n λn=>iX c λc=>K (.slice a n c)
def jM(v:Value):(Value->Bool)->Bool:=Value.rec (motive_1:=λ_=>(Value->Bool)->Bool) (motive_2:=λ_=>Unit) (motive_3:=λ_=>Unit) (λb K=>K (.bool b)) ac9 (λk n K=>K (.float k n)) (λk m n K=>K (.complex k m n)) (λs K=>K (.string s)) ada Yg (λr K=>K (.map r)) (λr K=>K (.chan r)) (λf a c _ _=>(λf a c K=>K (.func f a c)) f a c) (λK=>K .nilFunc) (λt v _=>(λt v K=>K (.iface t v)) t v) (λK=>K .nilIface) (λa _=>(λa K=>K (.agg a)) a) (λa _=>(λa K=>K (.tuple a)) a) (λ_ _=>()) () (λ_ _ _ _=>()) v
def yM(v:Value):Bool->(Bool->Bool)->Bool:=Value.rec (motive_1:=λ_=>Bool->(Bool->Bool)->Bool) (motive_2:=λ_=>Unit) (motive_3:=λ_=>Unit) (λb _ K=>K b) (λ_ _ bad _=>bad) (λ_ _ bad _=>bad) (λ_ _ _ bad _=>bad) (λ_ bad _=>bad) (λ_ bad _=>bad) (λ_ _ _ bad _=>bad) (λ_ bad _=>bad) (λ_ bad _=>bad) (λf a c _ _=>(λ_ _ _ bad _=>bad) f a c) (λbad _=>bad) (λt v _=>(λ_ _ bad _=>bad) t v) (λbad _=>bad) (λa _=>(λ_ bad _=>bad) a) (λa _=>(λ_ bad _=>bad) a) (λ_ _=>()) () (λ_ _ _ _=>()) v
theorem H0(v:Value)(bad:Bool)(K:Bool->Bool):(yM v bad K=bad/\∀b,v≠ .bool b)\/ ∃b,v = .bool b/\yM v bad K=K b:=by
 cases v<;>first|exact .inr ⟨_,rfl,rfl⟩|exact .inl ⟨rfl,by intros;simp⟩
def Dh(v:Value):Bool->(IntKind->Int->Bool)->Bool:=Value.rec (motive_1:=λ_=>Bool->(IntKind->Int->Bool)->Bool) (motive_2:=λ_=>Unit) (motive_3:=λ_=>Unit) (λ_ bad _=>bad) (λk n _ K=>K k n) (λ_ _ bad _=>bad) (λ_ _ _ bad _=>bad) (λ_ bad _=>bad) (λ_ bad _=>bad) (λ_ _ _ bad _=>bad) (λ_ bad _=>bad) (λ_ bad _=>bad) (λf a c _ _=>(λ_ _ _ bad _=>bad) f a c) (λbad _=>bad) (λt v _=>(λ_ _ bad _=>bad) t v) (λbad _=>bad) (λa _=>(λ_ bad _=>bad) a) (λa _=>(λ_ bad _=>bad) a) (λ_ _=>()) () (λ_ _ _ _=>()) v
theorem Yn(v:Value)(bad:Bool)(K:IntKind->Int->Bool):(Dh v bad K=bad/\∀k n,v≠ .int k n)\/ ∃k n,v = .int k n/\Dh v bad K=K k n:=by
 cases v<;>first|exact .inr ⟨_,_,rfl,rfl⟩|exact .inl ⟨rfl,by intros;simp⟩
def Ap(v:Value):Bool->(ByteArray->Bool)->Bool:=Value.rec (motive_1:=λ_=>Bool->(ByteArray->Bool)->Bool) (motive_2:=λ_=>Unit) (motive_3:=λ_=>Unit) (λ_ bad _=>bad) (λ_ _ bad _=>bad) (λ_ _ bad _=>bad) (λ_ _ _ bad _=>bad) (λs _ K=>K s) (λ_ bad _=>bad) (λ_ _ _ bad _=>bad) (λ_ bad _=>bad) (λ_ bad _=>bad) (λf a c _ _=>(λ_ _ _ bad _=>bad) f a c) (λbad _=>bad) (λt v _=>(λ_ _ bad _=>bad) t v) (λbad _=>bad) (λa _=>(λ_ bad _=>bad) a) (λa _=>(λ_ bad _=>bad) a) (λ_ _=>()) () (λ_ _ _ _=>()) v
theorem MO(v:Value)(bad:Bool)(K:ByteArray->Bool):(Ap v bad K=bad/\∀s,v≠ .string s)\/ ∃s,v = .string s/\Ap v bad K=K s:=by
 cases v<;>first|exact .inr ⟨_,rfl,rfl⟩|exact .inl ⟨rfl,by intros;simp⟩
def Jx(v:Value):Bool->(Option Addr->Bool)->Bool:=Value.rec (motive_1:=λ_=>Bool->(Option Addr->Bool)->Bool) (motive_2:=λ_=>Unit) (motive_3:=λ_=>Unit) (λ_ bad _=>bad) (λ_ _ bad _=>bad) (λ_ _ bad _=>bad) (λ_ _ _ bad _=>bad) (λ_ bad _=>bad) (λa _ K=>K a) (λ_ _ _ bad _=>bad) (λ_ bad _=>bad) (λ_ bad _=>bad) (λf a c _ _=>(λ_ _ _ bad _=>bad) f a c) (λbad _=>bad) (λt v _=>(λ_ _ bad _=>bad) t v) (λbad _=>bad) (λa _=>(λ_ bad _=>bad) a) (λa _=>(λ_ bad _=>bad) a) (λ_ _=>()) () (λ_ _ _ _=>()) v
theorem Za(v:Value)(bad:Bool)(K:Option Addr->Bool):(Jx v bad K=bad/\∀a,v≠ .pointer a)\/ ∃a,v = .pointer a/\Jx v bad K=K a:=by
 cases v<;>first|exact .inr ⟨_,rfl,rfl⟩|exact .inl ⟨rfl,by intros;simp⟩
def Cp(v:Value):Bool->(Option Addr->Nat->Nat->Bool)->Bool:=Value.rec (motive_1:=λ_=>Bool->(Option Addr->Nat->Nat->Bool)->Bool) (motive_2:=λ_=>Unit) (motive_3:=λ_=>Unit) (λ_ bad _=>bad) (λ_ _ bad _=>bad) (λ_ _ bad _=>bad) (λ_ _ _ bad _=>bad) (λ_ bad _=>bad) (λ_ bad _=>bad) (λa n c _ K=>K a n c) (λ_ bad _=>bad) (λ_ bad _=>bad) (λf a c _ _=>(λ_ _ _ bad _=>bad) f a c) (λbad _=>bad) (λt v _=>(λ_ _ bad _=>bad) t v) (λbad _=>bad) (λa _=>(λ_ bad _=>bad) a) (λa _=>(λ_ bad _=>bad) a) (λ_ _=>()) () (λ_ _ _ _=>()) v
theorem Rb(v:Value)(bad:Bool)(K:Option Addr->Nat->Nat->Bool):(Cp v bad K=bad/\∀a n c,v≠ .slice a n c)\/ ∃a n c,v = .slice a n c/\Cp v bad K=K a n c:=by
 cases v<;>first|exact .inr ⟨_,_,_,rfl,rfl⟩|exact .inl ⟨rfl,by intros;simp⟩
def funcF(v:Value):Bool->(Fn->Array Value->Array Value->Bool)->Bool:=Value.rec (motive_1:=λ_=>Bool->(Fn->Array Value->Array Value->Bool)->Bool) (motive_2:=λ_=>Unit) (motive_3:=λ_=>Unit) (λ_ bad _=>bad) (λ_ _ bad _=>bad) (λ_ _ bad _=>bad) (λ_ _ _ bad _=>bad) (λ_ bad _=>bad) (λ_ bad _=>bad) (λ_ _ _ bad _=>bad) (λ_ bad _=>bad) (λ_ bad _=>bad) (λf a c _ _=>(λf a c _ K=>K f a c) f a c) (λbad _=>bad) (λt v _=>(λ_ _ bad _=>bad) t v) (λbad _=>bad) (λa _=>(λ_ bad _=>bad) a) (λa _=>(λ_ bad _=>bad) a) (λ_ _=>()) () (λ_ _ _ _=>()) v
theorem IJ(v:Value)(bad:Bool)(K:Fn->Array Value->Array Value->Bool):(funcF v bad K=bad/\∀f a c,v≠ .func f a c)\/ ∃f a c,v = .func f a c/\funcF v bad K=K f a c:=by
 cases v<;>first|exact .inr ⟨_,_,_,rfl,rfl⟩|exact .inl ⟨rfl,by intros;simp⟩
def WW(v:Value):Bool->(Array Value->Bool)->Bool:=Value.rec (motive_1:=λ_=>Bool->(Array Value->Bool)->Bool) (motive_2:=λ_=>Unit) (motive_3:=λ_=>Unit) (λ_ bad _=>bad) (λ_ _ bad _=>bad) (λ_ _ bad _=>bad) (λ_ _ _ bad _=>bad) (λ_ bad _=>bad) (λ_ bad _=>bad) (λ_ _ _ bad _=>bad) (λ_ bad _=>bad) (λ_ bad _=>bad) (λf a c _ _=>(λ_ _ _ bad _=>bad) f a c) (λbad _=>bad) (λt v _=>(λ_ _ bad _=>bad) t v) (λbad _=>bad) (λa _=>(λa _ K=>K a) a) (λa _=>(λ_ bad _=>bad) a) (λ_ _=>()) () (λ_ _ _ _=>()) v
theorem WX(v:Value)(bad:Bool)(K:Array Value->Bool):(WW v bad K=bad/\∀a,v≠ .agg a)\/ ∃a,v = .agg a/\WW v bad K=K a:=by
 cases v<;>first|exact .inr ⟨_,rfl,rfl⟩|exact .inl ⟨rfl,by intros;simp⟩
def Hc(v:Value):Bool->(Array Value->Bool)->Bool:=Value.rec (motive_1:=λ_=>Bool->(Array Value->Bool)->Bool) (motive_2:=λ_=>Unit) (motive_3:=λ_=>Unit) (λ_ bad _=>bad) (λ_ _ bad _=>bad) (λ_ _ bad _=>bad) (λ_ _ _ bad _=>bad) (λ_ bad _=>bad) (λ_ bad _=>bad) (λ_ _ _ bad _=>bad) (λ_ bad _=>bad) (λ_ bad _=>bad) (λf a c _ _=>(λ_ _ _ bad _=>bad) f a c) (λbad _=>bad) (λt v _=>(λ_ _ bad _=>bad) t v) (λbad _=>bad) (λa _=>(λ_ bad _=>bad) a) (λa _=>(λa _ K=>K a) a) (λ_ _=>()) () (λ_ _ _ _=>()) v
theorem Rs(v:Value)(bad:Bool)(K:Array Value->Bool):(Hc v bad K=bad/\∀a,v≠ .tuple a)\/ ∃a,v = .tuple a/\Hc v bad K=K a:=by
 cases v<;>first|exact .inr ⟨_,rfl,rfl⟩|exact .inl ⟨rfl,by intros;simp⟩
def Vf(v:Value):Bool:=Value.rec (motive_1:=λ_=>Bool) (motive_2:=λ_=>Unit) (motive_3:=λ_=>Unit) (λ_=>true) (λ_ _=>true) (λ_ _=>true) (λ_ _ _=>true) (λ_=>true) (λ_=>true) (λ_ _ _=>true) (λ_=>true) (λ_=>false) (λf a c _ _=>(λ_ _ _=>true) f a c) true (λt v _=>(λ_ _=>true) t v) true (λa _=>(λ_=>false) a) (λa _=>(λ_=>false) a) (λ_ _=>()) () (λ_ _ _ _=>()) v
theorem JT(v:Value):Vf v=bw v:=by cases v<;>rfl
def Yl(k:IntKind):IntKind->Bool:=IntKind.rec (motive:=λ_=>IntKind->Bool) (IntKind.rec (motive:=λ_=>Bool) true false false false false false false false) (IntKind.rec (motive:=λ_=>Bool) false true false false false false false false) (IntKind.rec (motive:=λ_=>Bool) false false true false false false false false) (IntKind.rec (motive:=λ_=>Bool) false false false true false false false false) (IntKind.rec (motive:=λ_=>Bool) false false false false true false false false) (IntKind.rec (motive:=λ_=>Bool) false false false false false true false false) (IntKind.rec (motive:=λ_=>Bool) false false false false false false true false) (IntKind.rec (motive:=λ_=>Bool) false false false false false false false true) k
theorem FV{k:IntKind}(h:Yl k u=true):k=u:=by cases k<;>cases u<;>first|rfl|cases h
def lim(k:IntKind):Nat:=IntKind.rec (motive:=λ_=>Nat) 128 32768 2147483648 9223372036854775808 256 65536 4294967296 18446744073709551616 k
def abw(j:Int)(bad:Bool)(K:Nat->Bool):Bool:=Int.rec (motive:=λ_=>Bool) K (λ_=>bad) j
def IS(a b:Int):Bool:=Int.rec (motive:=λ_=>Bool) (λm=>Int.rec (motive:=λ_=>Bool) (λn=>Nat.blt m n) (λ_=>false) b) (λm=>Int.rec (motive:=λ_=>Bool) (λ_=>true) (λn=>Nat.blt n m) b) a
def NX(a b:Int):Bool:=Int.rec (motive:=λ_=>Bool) (λm=>Int.rec (motive:=λ_=>Bool) (λn=>Nat.beq m n) (λ_=>false) b) (λm=>Int.rec (motive:=λ_=>Bool) (λ_=>false) (λn=>Nat.beq n m) b) a
def Wz(k:IntKind)(n:Int)(K:Int->Bool):Bool:=
 Int.rec (motive:=λ_=>Bool) (λm=>fE (Nat.blt m (lim k)) (iX m λm=>K (.ofNat m)) (Tb (k.wrap (.ofNat m)) K)) (λm=>Tb (k.wrap (.negSucc m)) K) n
def xv(l:List Value):(List Value->Bool)->Bool:=List.rec (motive:=λ_=>(List Value->Bool)->Bool) (λK=>K []) (λa _ b K=>b λr=>K (a::r)) l
def nth(l:List α):Nat->Option α:=List.rec (motive:=λ_=>Nat->Option α) (λ_=>none) (λa _ b i=>Nat.rec (motive:=λ_=>Option α) (some a) (λj _=>b j) i) l
def GW(v:Value)(bad:Bool)(l:List Value):Nat->(List Value->Bool)->Bool:=
 List.rec (motive:=λ_=>Nat->(List Value->Bool)->Bool) (λ_ _=>bad) (λa r b i K=>Nat.rec (motive:=λ_=>Bool) (K (v::r)) (λj _=>b j λr=>K (a::r)) i) l
def HT.kE(b:Option bu)(t:HT)(K:HT->Bool):Bool:=HT.rec (motive:=λ_=>Bool) (K (.node b .nil .nil)) (λ_ l r _ _=>K (.node b l r)) t
def HT.kL(a:HT->(HT->Bool)->Bool)(t:HT)(K:HT->Bool):Bool:=HT.rec (motive:=λ_=>Bool) (a .nil λl=>K (.node none l .nil)) (λv l r _ _=>a l λl=>K (.node v l r)) t
def HT.kR(a:HT->(HT->Bool)->Bool)(t:HT)(K:HT->Bool):Bool:=HT.rec (motive:=λ_=>Bool) (a .nil λr=>K (.node none .nil r)) (λv l r _ _=>a r λr=>K (.node v l r)) t
def HT.np(b:Option bu)(p:Fg):HT->(HT->Bool)->Bool:=Fg.rec (motive:=λ_=>HT->(HT->Bool)->Bool) (HT.kE b) (λ_=>HT.kL) (λ_=>HT.kR) p
def Iz(b:bu)(K:bu->Bool):Bool:=bu.rec (motive:=λ_=>Bool) (λcs t d g=>xv cs λcs=>K (.cells cs t d g)) (λf=>K (.map f)) (λh e i c a j=>K (.loop h e i c a j)) b
def We(k:Nat)(b:bu)(h:aa)(K:aa->Bool):Bool:=Iz b λb=>HT.np (some b) (pathOf k) h.t λt=>K ⟨h.next,t⟩
def uy(b:bu)(h:aa)(K:aa->Bool):Bool:=Iz b λb=>HT.np (some b) (pathOf h.next) h.t λt=>iX h.next λn=>K ⟨n+1,t⟩
def Nb(k:Nat)(b:bu)(h:aa)(K:aa->Bool):Bool:=Iz b λb=>HT.np none (pathOf k) h.t λt=>HT.np (some b) (pathOf h.next) t λt=>iX h.next λn=>K ⟨n+1,t⟩
def Xa(u:bp):aa->(aa->Bool)->Bool:=bp.rec (motive:=λ_=>aa->(aa->Bool)->Bool) (λh K=>K h) We uy Nb (λh _ K=>K h) u
structure Cx where
 P:Program
 gl:Nat->Bool
 cf:FuncId->List Value->aa->(Value->aa->Bool)->Bool
 N:Nat
 n:Nat
 bad:Bool
abbrev qo:=Cx->Oper->(Operand->Value)->aa->(Value->aa->Bool)->Bool
def Mb(bad:Bool)(r:Option (Value×bp))(h:aa)(K:Value->aa->Bool):Bool:=C7 bad r λr=>Prod.rec (motive:=λ_=>Bool) (λv u=>Xa u h λh=>jM v λv=>K v h) r
def gen:qo:=λa o ρ h K=>Mb a.bad (bm a.P fb ρ o h) h K
def K1:qo:=λa _ _ _ _=>a.bad
def ND(x:Operand):qo:=λ_ _ ρ h K=>jM (ρ x) λv=>K v h
def Sz(c a b:Operand):qo:=λd _ ρ h K=>yM (ρ c) d.bad λt=>fE t (jM (ρ a) λv=>K v h) (jM (ρ b) λv=>K v h)
def Sa(P:Program)(t:TypeId):Option bu:=match zeroOf P t with
 |some z=>if z.cells.toList.all bw then some (.cells z.cells.toList t 0 true)else none
 |none=>none
def YP(b:bu)(h:aa)(K:Value->aa->Bool):Bool:=iX h.next λk=>uy b h λh=>K (.pointer (some ⟨k,0,none⟩)) h
def K0(t:TypeId):qo:=λa _ _ h K=>C7 a.bad (Sa a.P t) λb=>YP b h K
def aa4(t:TypeId)(x:Operand):qo:=λa o ρ h K=>fE (Vf (ρ x)) (jM (ρ x) λv=>YP (.cells [v] t 0 true) h K) (gen a o ρ h K)
def HL(a:Option Addr)(bad:Bool)(K:Nat->Nat->Bool):Bool:=Option.rec (motive:=λ_=>Bool) bad (λc=>Addr.rec (motive:=λ_=>Bool) (λb i s=>Option.rec (motive:=λ_=>Bool) (K b i) (λ_=>bad) s) c) a
def Zk(h:aa)(k:Nat)(bad:Bool)(K:List Value->TypeId->Nat->Bool->Bool):Bool:=C7 bad (h.get k) λB=>bu.rec (motive:=λ_=>Bool) K (λ_=>bad) (λ_ _ _ _ _ _=>bad) B
def GJ(P:Program)(t:TypeId):Bool:=(P.underlying t).isSome && !isAgg P t
def aax(P:Program)(t:TypeId):Bool:=decide (au P t=some 1)
def Sy(t:TypeId)(a:Operand):qo:=λc _ ρ h K=>
 fE (GJ c.P t) (Jx (ρ a) c.bad λd=>HL d c.bad λb i=>Zk h b c.bad λcs _ _ _=>C7 c.bad (nth cs i) λv=>K v h) (C7 c.bad (ae c.P t h (ρ a)) λv=>K v h)
def aj(P:Program)(t:TypeId)(a x:Value)(h:aa):Option (Value×bp):=match a with
 |.pointer (some ⟨k,i,none⟩)=>if au P t=some x.cells.size then(storeAt h k i x.cells.toList).map λu=>(undef,u)else none
 |_=>none
def K4(t:TypeId)(a x:Operand):qo:=λc _ ρ h K=>
 fE (aax c.P t&&Vf (ρ x)) (Jx (ρ a) c.bad λf=>HL f c.bad λb i=>Zk h b c.bad λcs e d g=>fE g (jM (ρ x) λv=>GW v c.bad cs i λcs=>
   HT.np (some (.cells cs e d true)) (pathOf b) h.t λt=>K undef ⟨h.next,t⟩) c.bad) (Mb c.bad (aj c.P t (ρ a) (ρ x) h) h K)
def xk(x:Operand):qo:=λb o ρ h K=>Jx (ρ x) (gen b o ρ h K) λa=>C7 b.bad a λa=>K (.pointer (some a)) h
def AL(f:Int->Int->Int)(x y:Operand):qo:=λc o ρ h K=>Dh (ρ x) (gen c o ρ h K) λk a=>Dh (ρ y) c.bad λd b=>fE (Yl k d) (Wz k (f a b) λn=>K (.int k n) h) c.bad
def HU(f:Int->Int->Bool)(x y:Operand):qo:=λc o ρ h K=>Dh (ρ x) (gen c o ρ h K) λk a=>Dh (ρ y) c.bad λd b=>fE (Yl k d) (fE (f a b) (K (.bool true) h) (K (.bool false) h)) c.bad
def HV(_ _:Operand):qo:=gen
def adg(a b:Int):Int:=a+b
def adi(a b:Int):Int:=a-b
def adh(a b:Int):Int:=a*b
def iNe(a b:Int):Bool:= !NX a b
def iLe(a b:Int):Bool:= !IS b a
def iGt(a b:Int):Bool:=IS b a
def iGe(a b:Int):Bool:= !IS a b
def acV(a:BinOp)(_:TypeId)(x y:Operand)(_:TypeId):qo:=
 BinOp.rec (motive:=λ_=>Operand->Operand->qo) (AL adg) (AL adi) (AL adh) HV HV HV HV HV HV HV HV (HU NX) (HU iNe) (HU IS) (HU iLe) (HU iGt) (HU iGe) a x y
def aca(_:Operand):qo:=gen
def acb(x:Operand):qo:=λa _ ρ h K=>yM (ρ x) a.bad λb=>fE b (K (.bool false) h) (K (.bool true) h)
def cUn(a:UnOp)(_:TypeId)(x:Operand):qo:=UnOp.rec (motive:=λ_=>Operand->qo) aca aca acb aca a x
def kOf(P:Program)(s d:TypeId):Option IntKind:=match P.underlying s,P.underlying d with
 |some _,some (.int k)=>some k
 |_,_=>none
def AT(s d:TypeId)(x:Operand):qo:=λa o ρ h K=>Option.rec (motive:=λ_=>Bool) (gen a o ρ h K) (λk=>Dh (ρ x) a.bad λ_ n=>Wz k n λn=>K (.int k n) h) (kOf a.P s d)
def ac6(P:Program)(s:TypeId)(f:Nat):Option Nat:=match P.underlying s with
 |some (.struct a)=>match a[f]? with
  |some b=>if(au P b.type).any (· ≠0)then some b.offset else none
  |none=>none
 |_=>none
def tH(s:TypeId)(x:Operand)(f:Nat):qo:=λa _ ρ h K=>C7 a.bad (ac6 a.P s f) λc=>Jx (ρ x) a.bad λd=>HL d a.bad λb i=>iX (i+c) λi=>K (.pointer (some ⟨b,i,none⟩)) h
def Lr(P:Program)(s:TypeId)(f:Nat):Option Nat:=match P.underlying s with
 |some (.struct a)=>match a[f]? with
  |some b=>if GJ P b.type then some b.offset else none
  |none=>none
 |_=>none
def K2(s:TypeId)(x:Operand)(f:Nat):qo:=λa o ρ h K=>Option.rec (motive:=λ_=>Bool) (gen a o ρ h K) (λb=>WW (ρ x) a.bad λcs=>C7 a.bad (nth cs.toList b) λv=>jM v λv=>K v h) (Lr a.P s f)
def aak(P:Program)(t:TypeId):Option (Option Nat×Nat):=match P.underlying t with
 |some (.array a e)=>(au P e).map λn=>(some a,n)
 |some (.slice e)=>(au P e).map λn=>(none,n)
 |_=>none
def elemAt(bad:Bool)(a:Option Addr)(j n c:Nat)(h:aa)(K:Value->aa->Bool):Bool:=fE (Nat.blt j c) (HL a bad λb o=>iX (o+j*n) λo=>K (.pointer (some ⟨b,o,none⟩)) h) bad
def tJ(t:TypeId)(x i:Operand):qo:=λb _ ρ h K=>C7 b.bad (aak b.P t) λd=>Prod.rec (motive:=λ_=>Bool) (λc n=>Dh (ρ i) b.bad λ_ j=>abw j b.bad λj=>
 Option.rec (motive:=λ_=>Bool) (Cp (ρ x) b.bad λa l _=>elemAt b.bad a j n l h K) (λc=>Jx (ρ x) b.bad λa=>elemAt b.bad a j n c h K) c) d
def isStr(P:Program)(t:TypeId):Bool:=match P.underlying t with|some .string=>true|_=>false
def K3(t:TypeId)(x i:Operand):qo:=λa o ρ h K=>fE (isStr a.P t) (Ap (ρ x) a.bad λs=>Dh (ρ i) a.bad λ_ j=>abw j a.bad λj=>C7 a.bad (nth s.data.toList j) λb=>iX b.toNat λb=>K (.int .u8 (.ofNat b)) h) (gen a o ρ h K)
def AU(x:Operand)(i:Nat):qo:=λa _ ρ h K=>Hc (ρ x) a.bad λb=>C7 a.bad (nth b.toList i) λv=>jM v λv=>K v h
def fArgs(ρ:Operand->Value)(l:List Operand):(List Value->Bool)->Bool:=List.rec (motive:=λ_=>(List Value->Bool)->Bool) (λK=>K []) (λx _ a K=>jM (ρ x) λv=>a λr=>K (v::r)) l
def fnF(a:Fn)(bad:Bool)(K:FuncId->Bool)(Y:Nat->Bool):Bool:=Fn.rec (motive:=λ_=>Bool) K (λ_=>bad) (λ_ _=>bad) (λ_ _ _ _=>bad) Y a
def xp(a:Array Value):Bool:=List.rec (motive:=λ_=>Bool) true (λ_ _ _=>false) a.toList
def Ft(f:Operand)(d:Array Operand)(_:Array TypeId):qo:=λb _ ρ h K=>funcF (ρ f) b.bad λe first a=>fnF e b.bad
 (λg=>fE (Nat.blt g YB) (fArgs ρ d.toList λc=>xv (first.toList++c++a.toList) λc=>b.cf g c h K) b.bad)
 (λk=>fE (xp first) (fE (xp a) (fArgs ρ d.toList λc=>iX (YB+k) λi=>b.cf i c h K) b.bad) b.bad)
def aam(P:Program)(t:TypeId):Bool:=match P.underlying t with|some (.slice _)=>true|_=>false
def Ga(P:Program)(a:Array Operand)(b:Array TypeId):Option Operand:=match a[0]?,b[0]? with
 |some x,some t=>if aam P t then some x else none
 |_,_=>none
def SE(b:Array Operand)(c:Array TypeId):qo:=λa o ρ h K=>Option.rec (motive:=λ_=>Bool) (gen a o ρ h K) (λx=>Cp (ρ x) a.bad λ_ n _=>K (.int .i64 (.ofNat n)) h) (Ga a.P b c)
def AW(a:Array Operand)(c:Array TypeId):qo:=λb _ ρ h K=>Mb b.bad (match a.toList,c.toList with
  |[s,x],[t,d]=>aJ b.P t d (ρ s) (ρ x) h
  |_,_=>none) h K
def gw(_:Array Operand)(_:Array TypeId):qo:=gen
def Pc(b:Builtin):Array Operand->Array TypeId->qo:=
 Builtin.rec (motive:=λ_=>Array Operand->Array TypeId->qo) AW gw gw gw gw gw gw gw SE gw gw gw gw gw gw gw gw gw gw gw gw gw gw gw gw gw b
def SF(_:Operand)(_:String)(_:Array Operand)(_:Array TypeId):qo:=K1
def aa5(a:Callee)(b:Array Operand)(c:Array TypeId):qo:=Callee.rec (motive:=λ_=>Array Operand->Array TypeId->qo) Ft SF Pc a b c
def Sw(c:Call):qo:=Call.rec (motive:=λ_=>qo) aa5 c
def opF(a:Op):qo:=Op.rec (motive:=λ_=>qo) ND ND Sz K0 aa4 (λ_ _=>gen) (λ_ _ _=>gen) (λ_ _ _ _=>gen) Sy K4 (λ_=>gen) (λ_=>gen) xk acV cUn AT (λ_ _=>gen) (λ_ _=>gen) (λ_ _ _=>gen) (λ_ _=>gen) (λ_ _=>gen) (λ_ _ _=>gen) (λ_ _ _ _ _=>gen) tH K2 tJ K3 (λ_ _ _ _=>gen) (λ_ _ _ _=>gen) (λ_ _ _=>gen) (λ_ _ _ _=>gen) (λ_ _=>gen) (λ_ _=>gen) (λ_=>gen) (λ_ _ _ _=>gen) AU Sw (λ_=>K1) (λ_=>K1) (λ_=>K1) (λ_ _=>K1) (λ_ _ _=>K1) (λ_ _=>K1) a
def XB(b:Bool)(x y:Value):Value:=Bool.rec (motive:=λ_=>Value) y x b
def ac5(t:Tmp)(_:Nat->Bool)(e:Env):Value:=Env.get t e
def XZ(v:Value)(_:Nat->Bool)(_:Env):Value:=XB (plain v) v fs
def S9(g:Nat)(gl:Nat->Bool)(_:Env):Value:=XB (gl g) (.pointer (some ⟨g,0,none⟩)) fs
def abg(f:FuncId)(_:Nat->Bool)(_:Env):Value:= .func (.func f) #[] #[]
def NI(gl:Nat->Bool)(e:Env)(x:Operand):Value:=Operand.rec (motive:=λ_=>(Nat->Bool)->Env->Value) ac5 XZ S9 abg x gl e
def Tp(ops:Array Oper)(j:Nat):Option Tmp:=(ops[j]?).bind (·.dst)
def Br(v:Value):Bool->(Bool->Bool)->Bool->Bool:=Value.rec (motive_1:=λ_=>Bool->(Bool->Bool)->Bool->Bool) (motive_2:=λ_=>Unit) (motive_3:=λ_=>Unit) (λb _ K _=>K b) (λ_ _ bad _ _=>bad) (λ_ _ bad _ _=>bad) (λ_ _ _ bad _ _=>bad) (λ_ bad _ _=>bad) (λ_ bad _ _=>bad) (λ_ _ _ bad _ _=>bad) (λ_ bad _ _=>bad) (λ_ bad _ _=>bad) (λf a c _ _=>(λ_ _ _ bad _ _=>bad) f a c) (fun  bad _ _=>bad) (λt v _=>(λ_ _ bad _ _=>bad) t v) (fun  bad _ _=>bad) (λa _=>(λ_ bad _ _=>bad) a) (λa _=>(λ_ _ _ d=>d) a) (λ_ _=>()) () (λ_ _ _ _=>()) v
def pI(n:Nat)(a:Option Tmp)(e:Env)(v:Value)(K:Env->Bool):Bool:=Option.rec (motive:=λ_=>Bool) (K e) (λd=>fE (Nat.blt d n) (Env.put d e v K) (K e)) a
def CE(ops:Array Oper)(e:Env)(bad:Bool)(h:Option (Nat×Bool))(f:Bool)(a:Bool):Bool:=
 Option.rec (motive:=λ_=>Bool) f (λg=>Prod.rec (motive:=λ_=>Bool) (λj c=>C7 bad (Tp ops j) λd=>Br (Env.get d e) bad (λb=>Bool.rec (motive:=λ_=>Bool) (fE c a f) (fE c f a) b) a) g) h
def abD(a:Cx)(ops:Array Oper)(o:Oper)(e:Env)(h:aa)(K:Env->aa->Bool):Bool:=
 CE ops e a.bad o.guard (opF o.op a o (NI a.gl e) h λv h=>pI a.n o.dst e v λe=>K e h) (pI a.n o.dst e undef λe=>K e h)
def Jp(a:Cx)(ops:Array Oper)(l:List Oper):Env->aa->(Env->aa->Bool)->Bool:=
 List.rec (motive:=λ_=>Env->aa->(Env->aa->Bool)->Bool) (λe h K=>K e h) (λo _ b e h K=>abD a ops o e h λe h=>b e h K) l
inductive ZV where
 |p|r|e|d
def acW(a:Callee)(_:Array Operand)(_:Array TypeId):ZV:=Callee.rec (motive:=λ_=>ZV) (λ_=> .e) (λ_ _=> .d)
 (λb=>Builtin.rec (motive:=λ_=>ZV) .e .d .d .d .d .d .d .d .r .d .d .d .d .d .d .d .d .d .d .d .d .d .d .d .d .d b) a
def aeD(c:Call):ZV:=Call.rec (motive:=λ_=>ZV) acW c
def Pj(a:Op):ZV:=Op.rec (motive:=λ_=>ZV) (λ_=> .p) (λ_=> .p) (λ_ _ _=> .p) (λ_=> .d) (λ_ _=> .d) (λ_ _=> .d) (λ_ _ _=> .d) (λ_ _ _ _=> .d) (λ_ _=> .r) (λ_ _ _=> .e) (λ_=> .d) (λ_=> .d) (λ_=> .p) (λ_ _ _ _ _=> .p) (λ_ _ _=> .p) (λ_ _ _=> .d) (λ_ _=> .d) (λ_ _=> .d) (λ_ _ _=> .d) (λ_ _=> .d) (λ_ _=> .d) (λ_ _ _=> .d) (λ_ _ _ _ _=> .d) (λ_ _ _=> .p) (λ_ _ _=> .p) (λ_ _ _=> .p) (λ_ _ _=> .p) (λ_ _ _ _=> .d) (λ_ _ _ _=> .d) (λ_ _ _=> .d) (λ_ _ _ _=> .d) (λ_ _=> .d) (λ_ _=> .d) (λ_=> .d) (λ_ _ _ _=> .d) (λ_ _=> .p) aeD (λ_=> .d) (λ_=> .d) (λ_=> .d) (λ_ _=> .d) (λ_ _ _=> .d) (λ_ _=> .d) a
def nN(base:Nat)(l:List (Nat×bu))(h:aa)(K:aa->Bool):Bool:=
 List.rec (motive:=λ_=>(aa->Bool)->Bool) (λK=>K h) (λx _ a K=>Prod.rec (motive:=λ_=>Bool) (λi b=>a λh=>HT.np (some b) (pathOf (base+i)) h.t λt=>K ⟨h.next,t⟩) x) l K
abbrev aaE:=lE->Value->aa->List (Nat×bu)->Bool
def abd(a:Cx)(bf:Nat->Nat->Bool)(base j:Nat)(o:Oper)(ρ:Operand->Value)(h:aa)(pd:List (Nat×bu))(K:aaE):Bool:=
 Option.rec (motive:=λ_=>Bool) (Option.rec (motive:=λ_=>Bool) (Option.rec (motive:=λ_=>Bool)
   (nN base (pd.filter λp=>bf j p.1) h λh=>Mb a.bad (cJ a.P fb ρ o h) h λv b=>K (.qh v b) v b (pd.filter λp=> !bf j p.1))
   (λbf=>Prod.rec (motive:=λ_=>Bool) (λB f=>Iz B λB=>jM (f (base+j)) λv=>K (.alloc B v) v h ((j,B)::pd)) bf) (aT a.P ρ o))
  (λv=>jM v λv=>K (.read v) v h pd) (bj a.P ρ o h)) (λv=>jM v λv=>K (.pure v) v h pd) (ba a.P ρ o)
def SQ(a:Cx)(bf:Nat->Nat->Bool)(base j:Nat)(o:Oper)(ρ:Operand->Value)(h:aa)(pd:List (Nat×bu))(K:aaE):Bool:=
 ZV.rec (motive:=λ_=>Bool) (opF o.op a o ρ h λv _=>K (.pure v) v h pd) (opF o.op a o ρ h λv _=>K (.read v) v h pd)
  (nN base (pd.filter λp=>bf j p.1) h λh=>opF o.op a o ρ h λv b=>K (.qh v b) v b (pd.filter λp=> !bf j p.1))
  (abd a bf base j o ρ h pd K) (Pj o.op)
abbrev Fh:=Oper×Env×lE
def jr(b:Cx)(ops:Array Oper)(bf:Nat->Nat->Bool)(base:Nat)(l:List Oper):Nat->Env->aa->List (Nat×bu)->(List Fh->Env->aa->List (Nat×bu)->Bool)->Bool:=
 List.rec (motive:=λ_=>Nat->Env->aa->List (Nat×bu)->(List Fh->Env->aa->List (Nat×bu)->Bool)->Bool) (λ_ e h pd K=>K [] e h pd)
  (λo _ k j e h pd K=>CE ops e b.bad o.guard
   (SQ b bf base j o (NI b.gl e) h pd λi v h pd=>pI b.n o.dst e v λd=>k (j+1) d h pd λa g f c=>K ((o,e,i)::a) g f c)
   (pI b.n o.dst e undef λd=>k (j+1) d h pd λa g f c=>K ((o,e,.skip)::a) g f c)) l
def ac1(a:lE)(j:Nat)(r:List (Nat×aa)):List (Nat×aa):=lE.rec (motive:=λ_=>List (Nat×aa)) r (λ_=>r) (λ_=>r) (λ_ _=>r) (λ_ h=>(j,h)::r) a
def D6(l:List Fh):Nat->List (Nat×aa):=List.rec (motive:=λ_=>Nat->List (Nat×aa)) (λ_=>[]) (λx _ a j=>ac1 x.2.2 j (a (j+1))) l
def xl(bf:Nat->Nat->Bool)(l:List (Nat×aa)):Option Nat->Bool:=
 List.rec (motive:=λ_=>Option Nat->Bool) (λ_=>true) (λx _ a p=>Option.rec (motive:=λ_=>Bool) (a (some x.1)) (λp=>fE (bf x.1 p) (a (some x.1)) false) p) l
def EM(P:Program)(o:Oper)(ρ:Operand->Value)(v:Value)(h:aa):Bool:=Option.rec (motive:=λ_=>Bool) false (λa=>df 4 v a) (bj P ρ o h)
def Al(P:Program)(bf:Nat->Nat->Bool)(j:Nat)(o:Oper)(ρ:Operand->Value)(v:Value)(c:List (Nat×aa)):aa->Bool->Bool:=
 List.rec (motive:=λ_=>aa->Bool->Bool) (λh a=>fE a true (EM P o ρ v h))
  (λx _ b h a=>fE (fE (fE a (Nat.blt j x.1) false) true (fE (bf j x.1) true (EM P o ρ v h))) (fE (bf x.1 j) true (b x.2 (Nat.blt x.1 j))) false) c
def aav(b:Cx)(bf:Nat->Nat->Bool)(h:aa)(c:List (Nat×aa))(j:Nat)(o:Oper)(e:Env)(a:lE)(r:Bool):Bool:=
 lE.rec (motive:=λ_=>Bool) r (λ_=>r) (λv=>fE (Al b.P bf j o (NI b.gl e) v c h true) r false) (λ_ _=>r) (λ_ _=>r) a
def GN(a:Cx)(bf:Nat->Nat->Bool)(h:aa)(c:List (Nat×aa))(l:List Fh):Nat->Bool:=
 List.rec (motive:=λ_=>Nat->Bool) (λ_=>true) (λx _ b j=>aav a bf h c j x.1 x.2.1 x.2.2 (b (j+1))) l
def Ih(b:Cx)(ops:Array Oper)(bf:Nat->Nat->Bool)(e:Env)(h:aa)(K:Env->aa->Bool):Bool:=
 iX (h.next+ops.size) λd=>jr b ops bf h.next ops.toList 0 e ⟨d,h.t⟩ [] λa f c pd=>
  fE (fE (xl bf (D6 a 0) none) (GN b bf ⟨d,h.t⟩ (D6 a 0) a 0) false) (nN h.next pd c λc=>K f c) b.bad
abbrev kM:=Cx->Env->aa->(Exit->Env->aa->Bool)->Bool
def ig(e:Exit)(b:Bool)(c:Nat->Bool)(a:Bool):Bool:=Exit.rec (motive:=λ_=>Bool) b c (λ_=>a) a (λ_=>a) a e
def aan:kM:=λ_ e h K=>K .normal e h
def aeN(a b:kM):kM:=λc e h K=>a c e h λx e h=>ig x (b c e h K) (λd=>K (.exit d) e h) (K x e h)
def adl(c:Operand)(a b:kM):kM:=λd e h K=>yM (NI d.gl e c) d.bad λt=>fE t (a d e h K) (b d e h K)
def abm(d:Nat)(a:kM):kM:=λc e h K=>a c e h λx e h=>ig x (K .normal e h) (λb=>fE (Nat.beq b d) (K .normal e h) (K (.exit b) e h)) (K x e h)
def adn(a:kM):kM:=λb e h K=>
 Nat.rec (motive:=λ_=>Env->aa->Bool) (λ_ _=>b.bad) (λ_ d e h=>a b e h λx e h=>ig x (d e h) (λc=>K (.exit c) e h) (K x e h)) b.N e h
def adm(a:Nat):kM:=λ_ e h K=>K (.exit a) e h
def aeM:kM:=λ_ e h K=>K .ret e h
def abl:kM:=λa _ _ _=>a.bad
def tmF(e:Env)(n:Nat):Nat->(List Value->Bool)->Bool:=Nat.rec (motive:=λ_=>Nat->(List Value->Bool)->Bool) (λ_ K=>K []) (λ_ a i K=>jM (Env.get i e) λv=>a (i+1) λl=>K (v::l)) n
def vG(l:List Value):Nat->Env->(Env->Bool)->Bool:=List.rec (motive:=λ_=>Nat->Env->(Env->Bool)->Bool) (λ_ e K=>K e) (λv _ a i e K=>jM v λv=>Env.put i e v λe=>a (i+1) e K) l
def fHT(t:HT):(HT->Bool)->Bool:=HT.rec (motive:=λ_=>(HT->Bool)->Bool) (λK=>K .nil) (λv _ _ b a K=>b λl=>a λr=>Option.rec (motive:=λ_=>Bool) (K (.node none l r)) (λB=>Iz B λB=>K (.node (some B) l r)) v) t
def W0(a:Cx)(ops:Array Oper)(e:Env)(h:aa)(K:Env->aa->Bool):Bool:=
 tmF e a.n 0 λl=>Option.rec (motive:=λ_=>Bool) a.bad (λr=>fE (Nat.beq r.1.length a.n) (vG r.1 0 xq λe=>iX r.2.next λb=>fHT r.2.t λt=>K e ⟨b,t⟩) a.bad) (vj a.P a.gl ops (cD (fk ops)) l h)
def Ys(_:Nat)(ops:Array Oper)(b:Bool):kM:=λa e h K=>fE b (fE (tE ops) (W0 a ops e h λe h=>K .normal e h) (Ih a ops (cD (fk ops)) e h λe h=>K .normal e h)) (Jp a ops ops.toList e h λe h=>K .normal e h)
def okF(c a:Code)(bad:Bool)(K:jP c a=true->Bool):Bool:=Bool.rec (motive:=λb=>jP c a=b->Bool) (λ_=>bad) K (jP c a) rfl
def qj(b:Option bu)(bad:Bool)(K:WC->List Value->List Tmp->(c a:Code)->jP c a=true->Bool):Bool:=
 Option.rec (motive:=λ_=>Bool) bad (λb=>bu.rec (motive:=λ_=>Bool) (λ_ _ _ _=>bad) (λ_=>bad) K b) b
def N0(b:WC)(bad:Bool)(K:Exit->Bool):Bool:=WC.rec (motive:=λ_=>Bool) (K .normal) bad (K .ret) (λa=>K (.exit a)) b
def Ci(a:WC)(bad x:Bool):Bool:=WC.rec (motive:=λ_=>Bool) x bad bad (λ_=>bad) a
def TQ(x:Exit)(bad:Bool)(K:Bool->WC->Bool):Bool:=Exit.rec (motive:=λ_=>Bool) (K true .ready) (λa=>K false (.exit a)) (λ_=>bad) (K false .ret) (λ_=>bad) bad x
def UL(n:Nat)(l:List (Tmp×Value)):Env->(Env->Bool)->Bool:=List.rec (motive:=λ_=>Env->(Env->Bool)->Bool) (λe K=>K e) (λp _ a e K=>pI n (some p.1) e p.2 λe=>a e K) l
def LC(f:Operand)(o:Array Tmp)(d c:Code):kM:=λa e h K=>funcF (NI a.gl e f) a.bad λk first b=>fnF k a.bad (λg=>okF d c a.bad λp=>fE (Nat.blt g YB) (fE (qH a.P g)
 (tmF e a.n 0 λl=>xv (first.toList++[.func (.yield h.next) #[] #[]]++b.toList) λj=>uy (.loop .ready l o.toList d c p) h λm=>a.cf g j m λ_ i=>
  qj (i.get h.next) a.bad λn _ _ _ _ _=>N0 n a.bad λx=>HT.np none (pathOf h.next) i.t λt=>K x e ⟨i.next,t⟩) a.bad) a.bad) (λ_=>a.bad)
def codeF(c:Code):kM:=
 Code.rec (motive:=λ_=>kM) aan Ys (λ_ _=>aeN) (λc _ _=>adl c) (λd _=>abm d) (λ_=>adn) (λf e b a _ _=>LC f e b a) adm (λ_ _=>abl) (λ_=>aan) (λ_=>abl) aeM (λ_=>abl) c
def zQ(P:Program)(e:Env)(h:aa)(bad:Bool)(l:List ResultVar):(List Value->Bool)->Bool:=
 List.rec (motive:=λ_=>(List Value->Bool)->Bool) (λK=>K []) (λr _ c K=>ResultVar.rec (motive:=λ_=>Bool) (λt=>jM (Env.get t e) λv=>c λb=>K (v::b)) (λa t=>C7 bad (ae P t h (Env.get a e)) λv=>c λb=>K (v::b)) r) l
def Zi(x:Exit)(bad r:Bool):Bool:=Exit.rec (motive:=λ_=>Bool) r (λ_=>bad) (λ_=>bad) r (λ_=>bad) bad x
def Hn(y:Nat->Cx)(bad:Bool)(k:Nat)(a:List Value)(h:aa)(K:Value->aa->Bool):Bool:=
 qj (h.get k) bad λB s A p f _=>Ci B bad (fE (Nat.beq a.length A.length) (iX s.length λn=>fE (Nat.ble n 256)
  (vG s 0 xq λe=>UL n (A.zip a) e λe=>codeF p (y n) e h λx e g=>ig x
   (qj (g.get k) bad λw o v j c u=>Ci w bad (HT.np (some (.loop .busy o v j c u)) (pathOf k) g.t λt=>codeF f (y n) e ⟨g.next,t⟩ λx _ i=>
    qj (i.get k) bad λ_ q r l d z=>TQ x bad λb m=>HT.np (some (.loop m q r l d z)) (pathOf k) i.t λt=>K (.bool b) ⟨i.next,t⟩))
   (λ_=>bad) bad) bad) bad)
abbrev nz:=(FuncId->List Value->aa->(Value->aa->Bool)->Bool)->List Value->aa->(Value->aa->Bool)->Bool
def sS(P:Program)(gl:Nat->Bool)(l:FuncId->Option (nz))(bad:Bool)(g:Nat):FuncId->List Value->aa->(Value->aa->Bool)->Bool:=
 Nat.rec (motive:=λ_=>FuncId->List Value->aa->(Value->aa->Bool)->Bool) (λ_ _ _ _=>bad)
  (λn d f a h K=>fE (Nat.ble YB f) (iX (f-YB) λk=>Hn (λj=>⟨P,gl,d,n,j,bad⟩) bad k a h K) (Option.rec (motive:=λ_=>Bool)
   (C7 bad (P.funcs[f]?) λb=>C7 bad b.body λc=>fE (Nat.ble b.ntmps 256&&Nat.ble a.length b.ntmps)
    (vG a 0 xq λe=>codeF c ⟨P,gl,d,n,b.ntmps,bad⟩ e h λx e h=>Zi x bad (zQ P e h bad b.results.toList λi=>K (bh i) h)) bad)
   (λp=>p d a h K) (l f))) g
end
end
end Go.Ab
end
section
namespace Go.Ab
variable{v:Value}{V:Array Value}{w:Value}{A:Type}
section
theorem HT.get_nil:∀p,HT.get p .nil=none
 |.e=>rfl
 |.l _=>rfl
 |.r _=>rfl
theorem HT.db(b:Option bu):∀(p:Fg)(t:HT),HT.get p (HT.set b p t)=b
 |.e,.nil=>rfl
 |.e,.node .. =>rfl
 |.l p,.nil=>HT.db b p .nil
 |.l p,.node _ l _=>HT.db b p l
 |.r p,.nil=>HT.db b p .nil
 |.r p,.node _ _ r=>HT.db b p r
theorem HT.bW(b:Option bu):∀(p q:Fg)(t:HT),q≠p->HT.get q (HT.set b p t)=HT.get q t
 |.e,.e,_,h=>absurd rfl h
 |.e,.l q,.nil,_=>HT.get_nil q
 |.e,.r q,.nil,_=>HT.get_nil q
 |.e,.l _,.node ..,_=>rfl
 |.e,.r _,.node ..,_=>rfl
 |.l p,.e,.nil,_=>rfl
 |.l p,.e,.node ..,_=>rfl
 |.l p,.l q,.nil,h=>(HT.bW b p q .nil (λe=>h (by rw[e]))).trans (HT.get_nil q)
 |.l p,.l q,.node _ l _,h=>HT.bW b p q l (λe=>h (by rw[e]))
 |.l p,.r q,.nil,_=>HT.get_nil q
 |.l p,.r q,.node ..,_=>rfl
 |.r p,.e,.nil,_=>rfl
 |.r p,.e,.node ..,_=>rfl
 |.r p,.r q,.nil,h=>(HT.bW b p q .nil (λe=>h (by rw[e]))).trans (HT.get_nil q)
 |.r p,.r q,.node _ _ r,h=>HT.bW b p q r (λe=>h (by rw[e]))
 |.r p,.l q,.nil,_=>HT.get_nil q
 |.r p,.l q,.node ..,_=>rfl
def Fg.num:Fg->Nat
 |.e=>0
 |.l p=>2*p.num+1
 |.r p=>2*p.num+2
theorem Ew:∀(f n:Nat),n<f->(BZ f n).num=n
 |0,_,h=>absurd h (by omega)
 |f+1,0,_=>rfl
 |f+1,k+1,h=>by
  have c:=Ew f (k/2) (by omega);have b:BZ (f+1) (k+1)=Nat.rec (motive:=λ_=>Fg) (.l (BZ f (k/2))) (λ_ _=> .r (BZ f (k/2))) (k%2):=rfl;rw[b];rcases Nat.mod_two_eq_zero_or_one k with a|a
  ·rw[a];show 2*(BZ f (k/2)).num+1=k+1;omega
  ·rw[a];show 2*(BZ f (k/2)).num+2=k+1;omega
theorem L0(n:Nat):(pathOf n).num=n:=Ew (n+1) n (by omega)
theorem xW{k j:Nat}(h:j≠k):pathOf j≠pathOf k:=λe=>h (by grind[L0])
section
variable (h:aa) (k j:Nat) (b:bu)
theorem aa.db:(h.set k b).get k=some b:=HT.db _ _ _
theorem aa.bW(a:j≠k):(h.set k b).get j=h.get j:=HT.bW _ _ _ _ (xW a)
theorem aa.FP:(h.del k).get k=none:=HT.db _ _ _
theorem aa.Lu(a:j≠k):(h.del k).get j=h.get j:=HT.bW _ _ _ _ (xW a)
theorem aa.gb:(h.push b).get h.next=some b:=HT.db _ _ _
theorem aa.gX(a:j≠h.next):(h.push b).get j=h.get j:=HT.bW _ _ _ _ (xW a)
@[simp] theorem aa.adC:(h.set k b).next=h.next:=rfl
@[simp] theorem aa.adB:(h.del k).next=h.next:=rfl
@[simp] theorem aa.acq:(h.push b).next=h.next+1:=rfl
theorem aa.ay:(h.set k b).get j=if j=k then some b else h.get j:=by
 split
 ·next e=>subst e;exact h.db j b
 ·next e=>exact h.bW k j b e
theorem aa.dt:(h.del k).get j=if j=k then none else h.get j:=by
 split
 ·next e=>subst e;exact h.FP j
 ·next e=>exact h.Lu k j e
theorem aa.aN:(h.push b).get j=if j=h.next then some b else h.get j:=by
 split
 ·next e=>subst e;exact h.gb b
 ·next e=>exact h.gX j b e
end
structure Slot where
 b:Nat
 s:Nat
 n:Nat
 t:TypeId
 sz:Nat
 isMap:Bool
abbrev cI:=Nat->Option Slot
def cI.le(c a:cI):Prop:=∀k b,c k=some b->a k=some b
theorem cI.le_refl(a:cI):a.le a:=λ_ _ h=>h
theorem cI.le_trans{a b c:cI}(h:a.le b)(e:b.le c):a.le c:=λk d f=>e k d (h k d f)
def Yo:Fn->Bool
 |.yield _=>true
 |_=>false
inductive aB(β:cI):Value->Value->Prop where
 |fs (v:Value):aB β (.chan (some 0)) v
 |bool (b:Bool):aB β (.bool b) (.bool b)
 |int (k:IntKind) (n:Int):aB β (.int k n) (.int k n)
 |float (k:FloatKind) (n:Nat):aB β (.float k n) (.float k n)
 |complex (k:FloatKind) (m n:Nat):aB β (.complex k m n) (.complex k m n)
 |string (s:ByteArray):aB β (.string s) (.string s)
 |nilPtr:aB β (.pointer none) (.pointer none)
 |ptr {k i:Nat} {sl:Slot} (h:β k=some sl) (hm:sl.isMap=false):aB β (.pointer (some ⟨k,i,none⟩)) (.pointer (some ⟨sl.b,sl.s+i,none⟩))
 |kZ:aB β (.slice none 0 0) (.slice none 0 0)
 | slice {k i n c i' c':Nat} {sl:Slot} (h:β k=some sl) (hm:sl.isMap=false) (hx:c<cj->c'=c) (ho:cj<=c->c-cj<=c') (hn:n<=aW c)
   (hi:i'=sl.s+i\/(n=0/\c'=0)) (hz:sl.sz=0\/i'+c'*sl.sz<=sl.n):aB β (.slice (some ⟨k,i,none⟩) n c) (.slice (some ⟨sl.b,i',none⟩) n c')
 |dead (a:Addr):aB β (.slice (some ⟨0,0,some 0⟩) 0 0) (.slice (some a) 0 0)
 |LX:aB β (.map none) (.map none)
 |map {k:Nat} {sl:Slot} (h:β k=some sl) (hm:sl.isMap=true):aB β (.map (some k)) (.map (some sl.b))
 | func {fn:Fn} {a a' c c':Array Value} (hy:Yo fn=false) (ha:a.size=a'.size) (hc:c.size=c'.size) (ra:∀(i:Nat) v v',a[i]?=some v->a'[i]?=some v'->aB β v v')
   (rc:∀(i:Nat) v v',c[i]?=some v->c'[i]?=some v'->aB β v v'):aB β (.func fn a c) (.func fn a' c')
 |yield {k:Nat} {sl:Slot} (h:β k=some sl) {a c:Array Value} (ha:a.size=0) (hc:c.size=0):aB β (.func (.yield k) a c) (.func (.yield sl.b) a c)
 |nilFunc:aB β .nilFunc .nilFunc
 |iface (t:TypeId) {v v':Value} (h:aB β v v'):aB β (.iface t v) (.iface t v')
 |nilIface:aB β .nilIface .nilIface
 |agg {a a':Array Value} (hs:a.size=a'.size) (h:∀(i:Nat) v v',a[i]?=some v->a'[i]?=some v'->aB β v v'):aB β (.agg a) (.agg a')
 |tuple {a a':Array Value} (hs:a.size=a'.size) (h:∀(i:Nat) v v',a[i]?=some v->a'[i]?=some v'->aB β v v'):aB β (.tuple a) (.tuple a')
theorem aB.mono{q j:cI}(e:q.le j){v c:Value}(h:aB q v c):aB j v c:=by
 induction h with
 |fs v=>exact .fs v
 |bool b=>exact .bool b
 |int k n=>exact .int k n
 |float k n=>exact .float k n
 |complex k m n=>exact .complex k m n
 |string s=>exact .string s
 |nilPtr=>exact .nilPtr
 |ptr h f=>exact .ptr (e _ _ h) f
 |kZ=>exact .kZ
 |slice h f u z r y A=>exact .slice (e _ _ h) f u z r y A
 |dead a=>exact .dead a
 |LX=>exact .LX
 |map h f=>exact .map (e _ _ h) f
 |yield h o p=>exact .yield (e _ _ h) o p
 |func B o p _ _ x w=>exact .func B o p (λi v c h d=>x i v c h d) (λi v c h d=>w i v c h d)
 |nilFunc=>exact .nilFunc
 |iface t _ g=>exact .iface t g
 |nilIface=>exact .nilIface
 |agg l _ g=>exact .agg l λi v c h d=>g i v c h d
 |tuple l _ g=>exact .tuple l λi v c h d=>g i v c h d
theorem aB.undef(a:cI):aB a undef undef:= .tuple rfl (λi v b h=>by grind)
theorem aB.vV{a:cI}(h:bare v=true):aB a v v:=by
 unfold bare at h;split at h<;>first
  |exact .bool _|exact .int _ _|exact .float _ _|exact .complex _ _ _|exact .string _|exact .nilPtr|exact .kZ|exact .LX|exact .nilFunc|exact .nilIface
  |cases h
theorem aB.qX{b:cI}{cs:Array Value}(h:cs.toList.all bare=true)(i:Nat)(v a:Value)(c:cs[i]?=some v)(d:cs[i]?=some a):aB b v a:=by grind[vV]
theorem aB.mK{c:cI}(h:plain v=true):aB c v v:=by
 unfold plain at h;split at h
 ·exact .agg rfl (aB.qX h)
 ·refine .tuple rfl λi v d a b=>?_;rw[a]at b;obtain rfl:=oI b;rw[<-getElem?_toList]at a;have:=all_eq_true.1 h v (List.mem_of_getElem? a);split at this
  ·exact .agg rfl (aB.qX this)
  ·exact .vV this
 grind[vV]
def gN(d:cI)(a b:Array Value):Prop:=a.size=b.size/\∀(i:Nat) v c,a[i]?=some v->b[i]?=some c->aB d v c
def aU(b:cI)(l l':List Value):Prop:=l.length=l'.length/\∀(i:Nat) v a,l[i]?=some v->l'[i]?=some a->aB b v a
theorem gN.toList{b:cI}{a:Array Value}:gN b a V↔aU b a.toList V.toList:=by simp[gN,aU]
theorem aU.nil(a:cI):aU a [] []:=⟨rfl,λi v b h=>by grind⟩
theorem aU.cons{b:cI}{v d:Value}{l l':List Value}(h:aB b v d)(c:aU b l l'):aU b (v::l) (d::l'):=
 ⟨by simp[c.1],λi a e f g=>by
  cases i with
  |zero=>grind
  |succ i=>exact c.2 i a e (by grind) (by grind)⟩
theorem aU.head{a:cI}{l l':List Value}(h:aU a (v::l) (w::l')):aB a v w:=h.2 0 v w rfl rfl
theorem aU.tail{b:cI}{l l':List Value}(h:aU b (v::l) (w::l')):aU b l l':=
 ⟨by have:=h.1;grind,λi a c d e=>h.2 (i+1) a c (by grind) (by grind)⟩
theorem aU.dL{a:cI}{l:List Value}(h:aU a [] l):l=[]:=List.eq_nil_of_length_eq_zero h.1.symm
theorem aU.cz{b:cI}{l l':List Value}(h:aU b (v::l) l'):∃a r,l'=a::r/\aB b v a/\aU b l r:=by
 cases l' with
 |nil=>have:=h.1;grind
 |cons a r=>exact⟨a,r,rfl,h.head,h.tail⟩
theorem aU.mono{c a:cI}(b:c.le a){l l':List Value}(h:aU c l l'):aU a l l':=⟨h.1,λi v f d e=>(h.2 i v f d e).mono b⟩
theorem aU.append{e:cI}:∀{a c b d:List Value},aU e a c->aU e b d->aU e (a++b) (c++d)
 |[],c,b,d,h,f=>by rw[h.dL];grind
 |v::a,c,b,d,h,f=>by
  obtain⟨j,r,rfl,g,i⟩:=h.cz;exact .cons g (i.append f)
theorem aU.map{b:cI}(l:List A){f a:A->Value}(h:∀x∈l,aB b (f x) (a x)):aU b (l.map f) (l.map a):=
 ⟨by simp,λi v e c d=>by grind⟩
theorem aB.Mx{b:cI}(h:aB b v w)(a:bw v=true):w.oneCell'=true/\v.cells = #[v]/\w.cells = #[w]:=by
 cases h<;>first|(simp[bw]at a;done)|exact⟨rfl,rfl,rfl⟩
theorem aB.cells{d:cI}(h:aB d v w)(g:v≠Ab.fs):gN d v.cells w.cells:=by
 cases h with
 |fs=>grind
 |agg e h=>exact⟨e,h⟩
 |_=>
  refine⟨rfl,λi a f b c=>?_⟩
  cases i with
  |zero=>simp[Value.cells]at b c;subst b;subst c;constructor<;>assumption
  |succ i=>simp[Value.cells]at b
end
end Go.Ab
end
section
namespace Go.Ab
open Go
variable{z:Int}{v:Value}{b:Bool}{k:Nat}{i:Nat}{w:Value}{n:Nat}{V:Array Value}{c:List Value}{u:IntKind}{T:TypeId}
section
variable {β:cI} {P:Program}
theorem aB.cV{k:IntKind}(h:aB β (.int k z) v):v = .int k z:=by cases h;rfl
theorem aB.iF(h:aB β (.bool b) v):v = .bool b:=by cases h;rfl
theorem aB.ez{s:ByteArray}(h:aB β (.string s) v):v = .string s:=by cases h;rfl
theorem aB.rT(h:aB β (.pointer (some ⟨k,i,none⟩)) v):∃a,β k=some a/\a.isMap=false/\v = .pointer (some ⟨a.b,a.s+i,none⟩):=by
  cases h with
  |ptr h b=>grind
theorem aB.nF{a:Addr}(h:aB β (.pointer (some a)) v):∃b,β a.block=some b/\b.isMap=false/\a.spot=none/\v = .pointer (some ⟨b.b,b.s+a.off,none⟩):=by
  cases h with
  |ptr h c=>grind
theorem aB.lR{a:Array Value}(h:aB β (.agg a) v):∃b,v = .agg b/\gN β a b:=by
  cases h with
  |agg c h=>exact⟨_,rfl,c,h⟩
theorem aB.rU{a:Array Value}(h:aB β (.tuple a) v):∃b,v = .tuple b/\gN β a b:=by
  cases h with
  |tuple c h=>exact⟨_,rfl,c,h⟩
theorem aB.PS{t:TypeId}(h:aB β (.iface t v) w):∃u,w = .iface t u/\aB β v u:=by
  cases h with
  |iface _ h=>grind
theorem aB.FZ(h:aB β .nilIface v):v = .nilIface:=by cases h;rfl
theorem aB.eQ{c:Nat}(h:aB β (.slice none n c) v):n=0/\c=0/\v = .slice none 0 0:=by cases h;grind
theorem aB.FY(h:aB β (.map (some k)) v):∃a,β k=some a/\a.isMap=true/\v = .map (some a.b):=by
  cases h with
  |map h b=>grind
theorem aB.Bw(h:aB β (.map none) v):v = .map none:=by cases h;rfl
theorem aB.Lz(h:aB β (.pointer none) v):v = .pointer none:=by cases h;rfl
theorem aB.fo{c:Nat}(h:aB β (.slice (some ⟨k,i,none⟩) n c) v):∃a d b,β k=some a/\a.isMap=false/\(none:Option Nat)=none/\v = .slice (some ⟨a.b,d,none⟩) n b/\
    (c<cj->b=c)/\(cj<=c->c-cj<=b)/\n<=aW c/\(d=a.s+i\/(n=0/\b=0))/\(a.sz=0\/d+b*a.sz<=a.n):=by
  cases h with
  |slice h f g l e j m=>grind
theorem aB.tQ{a:Addr}{c:Nat}(h:aB β (.slice (some a) n c) v):(∃k i,a=⟨k,i,none⟩)\/(a=⟨0,0,some 0⟩/\n=0/\c=0/\∃b,v = .slice (some b) 0 0):=by
  cases h with
  |slice h e f j d g l=>grind
  |dead a=>grind
theorem aB.IT{a:Addr}{c:Nat}(h:aB β (.slice (some a) n c) v):∃d b,v = .slice (some d) n b:=by
  cases h with
  |slice h f g j e i k=>grind
  |dead a=>grind
theorem gN.get{a:Array Value}(h:gN β a V){i:Nat}{v:Value}(c:a[i]?=some v):∃d,V[i]?=some d/\aB β v d:=by
  have e:i<a.size:=(Array.getElem?_eq_some_iff.1 c).1;have b:i<V.size:=h.1▸e;exact⟨V[i],getElem?_eq_getElem b,h.2 i v _ c (getElem?_eq_getElem b)⟩
theorem aU.get{a:List Value}(h:aU β a c){i:Nat}{v:Value}(d:a[i]?=some v):∃e,c[i]?=some e/\aB β v e:=by
  have f:i<a.length:=(List.getElem?_eq_some_iff.1 d).1;have b:i<c.length:=h.1▸f;exact⟨c[i],gE b,h.2 i v _ d (gE b)⟩
theorem aE{t:TypeId}{d:TypeDesc}(h:P.underlying t=some d)(w:World):(underlying t).run P w = .ok d w:=run_underlying h w
theorem rm{t:TypeId}{i:TypeInfo}(h:P.info? t=some i)(w:World):(typeInfo t).run P w = .ok i w:=by simp[typeInfo,h]
theorem lZ{t:TypeId}(h:au P t=some n):∃i,P.info? t=some i/\i.size=n:=by simp_all[au]
theorem dd{t:TypeId}(h:au P t=some n)(w:World):(sizeOf t).run P w = .ok n w:=by
  obtain⟨i,a,rfl⟩:=lZ h;simp[sizeOf,rm a]
theorem eu{t:TypeId}{z:Value}(h:zeroOf P t=some z):plain z=true/\∃i,P.info? t=some i/\i.zero=some z:=by
  unfold zeroOf at h
  grind
theorem mS{t:TypeId}{z:Value}(h:zeroOf P t=some z)(w:World):(zeroValue t).run P w = .ok z w:=by
  obtain⟨_,i,a,b⟩:=eu h
  simp_all[rm,zeroValue]
theorem se{t:TypeId}{d:TypeDesc}(h:P.underlying t=some d)(w:World):(Go.isAgg t).run P w = .ok (Ab.isAgg P t) w:=by
  simp only[Go.isAgg,run_bind,aE h,andThen_ok,Ab.isAgg,h]
  cases d<;>rfl
theorem AQ:∀x y:List UInt8,oZ x y=Op.bytesLess x y
  |[],[]=>rfl
  |_::_,[]=>rfl
  |[],_::_=>rfl
  |a::x,b::y=>by simp[oZ,Op.bytesLess,AQ x y]
theorem Sm{a b:ByteArray}(h:a.data.toList=b.data.toList):a=b:=by
  cases a;simp_all
theorem Qd(a b:ByteArray):(⟨(a.data.toList++b.data.toList).toArray⟩:ByteArray)=a++b:=by rfl
theorem Rj{a:BinOp}{x y:ByteArray}(h:Oz a x.data.toList y.data.toList=some v)(w:World):(Op.stringOp a x y).run P w = .ok v w:=by
  unfold Oz at h;unfold Op.stringOp;simp only[ByteArray.toList_eq]
  cases a<;>simp only[]at h<;>first
    |(simp only[Option.some.injEq]at h;subst h;simp[AQ];done)
    |(cases h;done)
    |skip
  split at h
  · next b=>
    obtain rfl:=oI h;simp only[run_ite,run_unsupported,Sem.run_pure];rw[if_neg]
    · simp only[strOf,Qd]
    · have c:x.data.toList.length=x.size:=by simp
      have d:y.data.toList.length=y.size:=by simp
      rw[c,d]at b;have:IntKind.i64.max=9223372036854775807:=by decide
      omega
  grind
theorem PQ{c:BinOp}{t:TypeId}{k:IntKind}{a b:Int}(h:ax P c t (.int k a) (.int u b)=some v)(w:World):(binOp c t (.int k a) (.int u b)).run P w = .ok v w:=by
  simp only[ax]at h;unfold binOp
  cases c<;>simp only[]at h<;>first
    | (split at h
       · next d=>
         obtain rfl:=oI h;simp only[Op.shift,run_ite];rw[if_neg (by omega)];rfl
       grind)
    | (split at h
       · next e=>
         subst e;simp only[ne_eq,not_true_eq_false,if_false]
         first
           |(obtain rfl:=oI h;rfl)
           | (split at h
              · cases h
              · next d=>obtain rfl:=oI h;simp[Op.intDiv,d])
           |(obtain⟨r,hr,rfl⟩:=map_eq_some_iff.1 h;exact intCmp_sim hr w)
       · cases h)
theorem DX(a b:ByteArray):(a.data.toList==b.data.toList)=(a==b):=by grind[beq_toListBytes,ByteArray.toList_eq]
theorem Ba{x:Value}{t:TypeId}(a:A9 P t x v=some b)(d:Nat)(w:World):(Op.equalIn (d+1) t x v).run P w = .ok b w:=by
  unfold A9 at a
  grind[run_equalIn_bool',run_equalIn_int,run_equalIn_string,ByteArray.toList_eq]
theorem yO{x:Value}{t:TypeId}(a:A9 P t x v=some b):∃d,P.underlying t=some d/\isAgg P t=false:=by
  unfold A9 at a
  grind[isAgg]
theorem wm{t:TypeId}{d:TypeDesc}(c:P.underlying t=some d)(e:isAgg P t=false){cs:Array Value}{a:Nat}{v:Value}(b:cs[a]?=some v)(w:World):(part t cs a).run P w = .ok v w:=by simp_all[se,part]
theorem Bc{c e:Array Value}(d:Nat)(w:World):∀(a:List Field)(i:Nat)(l m:List Value){b:Bool},c.toList.drop i=l->e.toList.drop i=m->jL P a i l m=some b->
    (Op.eqFields (d+1) c e a).run P w = .ok b w
  |[],_,_,_,b,_,_,h=>by simp only[jL]at h;obtain rfl:=oI h;rfl
  |f::a,i,[],_,b,_,_,h=>by grind[jL]
  |f::a,i,_::_,[],b,_,_,h=>by grind[jL]
  | f::a,i,x::l,y::m,b,o,n,h=>by
    simp only[jL]at h;split at h
    · next z=>
      obtain⟨s,u⟩:=z;have p:c[f.offset]?=some x:=by
        have:(c.toList.drop i)[0]?=some x:=by rw[o];rfl
        rw[getElem?_drop]at this;rw[s,<-getElem?_toList];simpa using this
      have t:e[f.offset]?=some y:=by
        have:(e.toList.drop i)[0]?=some y:=by rw[n];rfl
        rw[getElem?_drop]at this;rw[s,<-getElem?_toList];simpa using this
      have q:c.toList.drop (i+1)=l:=by rw[<-drop_drop,o];rfl
      have r:e.toList.drop (i+1)=m:=by rw[<-drop_drop,n];rfl
      unfold Op.eqFields;rw[if_pos u];split at h
      · next j=>
        obtain⟨v,g,k⟩:=yO j;simp only[run_bind,wm g k p,wm g k t,andThen_ok,Ba j d];simp only[Bool.not_true,false_eq_true,if_false];exact Bc d w a (i+1) l m q r h
      · next j=>
        obtain⟨v,g,k⟩:=yO j;obtain rfl:=oI h;simp only[run_bind,wm g k p,wm g k t,andThen_ok,Ba j d];rfl
      · cases h
    grind
theorem Is{x d:Value}{t:TypeId}(h:A9 P t x v=some b)(a:aB β x w)(c:aB β v d):w=x/\d=v:=by
  unfold A9 at h;split at h
  · exact⟨a.iF,c.iF⟩
  · exact⟨a.cV,c.cV⟩
  · exact⟨a.ez,c.ez⟩
  grind
theorem Bb:∀(a:List Field)(i:Nat){l m l' d:List Value}{b:Bool},jL P a i l m=some b->aU β l l'->aU β m d->jL P a i l' d=some b
  |[],_,_,_,_,_,_,h,_,_=>by grind[jL]
  |f::a,i,[],_,_,_,b,h,_,_=>by grind[jL]
  |f::a,i,_::_,[],_,_,b,h,_,_=>by grind[jL]
  | f::a,i,x::l,y::m,l',d,b,h,o,n=>by
    obtain⟨r,l',rfl,e,g⟩:=o.cz;obtain⟨q,d,rfl,k,j⟩:=n.cz;simp only[jL]at h⊢;split at h
    · next p=>
      rw[if_pos p];split at h
      · next c=>
        obtain⟨rfl,rfl⟩:=Is c e k;rw[c];exact Bb a (i+1) h g j
      · next c=>
        obtain⟨rfl,rfl⟩:=Is c e k;rw[c];exact h
      · cases h
    grind
theorem yf{t:TypeId}(d:Nat)(c:P.underlying t=some (.pointer T)){n:Nat}(b:au P T=some n)(e:n≠0)(a:Addr)(w:World):
    (Op.equalIn (d+1) t (.pointer (some a)) (.pointer (some a))).run P w = .ok true w:=by
  simp only[Op.equalIn,run_bind,aE c,andThen_ok,dd b,run_ite]
  simp_all[sameAddr]
set_option maxHeartbeats 4000000 in
theorem Iu{t:TypeId}{x y p l:Value}{b:Bool}(h:pf P t x y=some b)(f:aB β x p)(g:aB β y l)(w:World)(d:Nat):(Op.equalIn (d+1+1) t p l).run P w = .ok b w:=by
  unfold pf at h;split at h
  · cases f.iF;cases g.iF
    split at h
    · next c=>obtain rfl:=oI h;exact run_equalIn_bool' w (d+1) t _ _ c
    · cases h
  · cases f
    split at h
    · next c=>obtain rfl:=oI h;cases g<;>simp only[Op.equalIn,run_bind,aE c,andThen_ok,Sem.run_pure]<;>rfl
    · cases h
  · cases g
    split at h
    · next c=>obtain rfl:=oI h;cases f<;>simp only[Op.equalIn,run_bind,aE c,andThen_ok,Sem.run_pure]<;>rfl
    · cases h
  · next a r=>
    split at h
    · next e c=>
      split at h
      · next k=>
        obtain rfl:=oI h;obtain⟨rfl,o⟩:=k;obtain⟨B,u,_,_,rfl⟩:=f.nF;obtain⟨A,q,_,_,rfl⟩:=g.nF;rw[u]at q;obtain rfl:=oI q
        cases i:au P e with
        |none=>simp[i]at o
        |some n=>exact yf (d+1) c i (by simpa[i]using o) _ w
      · cases h
    · cases h
  · cases f
    split at h
    · next c=>obtain rfl:=oI h;cases g<;>simp only[Op.equalIn,run_bind,aE c,andThen_ok,Sem.run_pure]<;>rfl
    · cases h
  · cases g
    split at h
    · next c=>obtain rfl:=oI h;cases f<;>simp only[Op.equalIn,run_bind,aE c,andThen_ok,Sem.run_pure]<;>rfl
    · cases h
  · cases f
    split at h
    · next c=>obtain rfl:=oI h;cases g<;>simp only[Op.equalIn,run_bind,aE c,andThen_ok,Sem.run_pure]<;>rfl
    · cases h
  · cases g
    split at h
    · next c=>obtain rfl:=oI h;cases f<;>simp only[Op.equalIn,run_bind,aE c,andThen_ok,Sem.run_pure]<;>rfl
    · cases h
  all_goals first
    | (cases f<;>cases g <;>
       (split at h
        · next c=>obtain rfl:=oI h;simp only[Op.equalIn,run_bind,aE c,andThen_ok,Sem.run_pure]
        · cases h)
       done)
    |skip
  · obtain⟨v,rfl,z⟩:=f.lR
    obtain⟨r,rfl,s⟩:=g.lR;split at h
    · next j c=>
      split at h
      · next k=>
        have m:P.fieldsOf t=j:=by simp[Program.fieldsOf,c]
        rw[run_equalIn_struct w (d+1) t v r (by rw[m];exact c) k.1,m];exact Bc d w j.toList 0 _ _ (by simp) (by simp) (Bb j.toList 0 h (gN.toList.1 z) (gN.toList.1 s))
      · cases h
    · cases h
  grind
theorem Pw{t:TypeId}{x a:Value}(h:pf P t x v=some b)(c:aB β x w)(e:aB β v a)(d:World):(Op.equal t w a).run P d = .ok b d:=
  Iu h c e d 9998
theorem Be{t:TypeId}{x a:Value}(h:pf P t x v=some b)(c:aB β x w)(e:aB β v a)(f:BinOp)(j g:Operand)(d:World):
    (eqGuard f t j g w a).run P d = .ok () d/\(binOp .eql t w a).run P d = .ok (.bool b) d/\(binOp .neq t w a).run P d = .ok (.bool !b) d:=by
  have i:=Pw h c e d;unfold pf at h;split at h
  all_goals first
    |(cases h;done)
    | (obtain⟨l,rfl,n⟩:=c.lR
       obtain⟨m,rfl,k⟩:=e.lR;split at h
       all_goals simp_all[run_eqGuard_agg,binOp])
    |(cases c<;>cases e<;>(refine⟨?_,?_,?_⟩<;>first|(simp only[binOp,run_bind,i,andThen_ok,Sem.run_pure];done)|(cases f<;>rfl)))
theorem O8{c:BinOp}{t:TypeId}{xo yo:Operand}{x g:Value}{m:Value}(h:ax P c t x v=some m)(d:aB β x w)(e:aB β v g)(j:World):
    (do eqGuard c t xo yo w g;binOp c t w g:Sem Value).run P j = .ok m j/\aB β m m:=by
  have o:=h;unfold ax at h;split at h
  · next k a p b=>
    cases d.cV;cases e.cV
    refine⟨?_,?_⟩
    · simp_all[PQ,eqGuard]
    · clear o
      cases c<;>simp only[]at h<;>first
        | (split at h
           · first
             |(obtain rfl:=oI h;exact .int _ _)
             |(obtain⟨r,q,rfl⟩:=map_eq_some_iff.1 h;exact .bool _)
             | (split at h
                · cases h
                · obtain rfl:=oI h;exact .int _ _)
           · cases h
           done)
  · next a b=>
    cases d.ez;cases e.ez
    refine⟨?_,?_⟩
    · have i:(eqGuard c t xo yo (.string a) (.string b)).run P j = .ok () j:=by cases c<;>rfl
      grind[run_bind,andThen_ok,Rj,binOp]
    · unfold Oz at h
      cases c<;>simp only[]at h<;>first
        |(obtain rfl:=oI h;exact .bool _)
        | (split at h
           · obtain rfl:=oI h;exact .string _
           grind)
        |(cases h;done)
  · cases c<;>simp only[]at h<;>first
      |(cases h;done)
      | (obtain⟨b,f,rfl⟩:=map_eq_some_iff.1 h
         obtain⟨i,l,n⟩:=Be f d e .eql xo yo j;exact⟨by simp only[run_bind,i,andThen_ok];exact l,.bool _⟩)
      | (obtain⟨b,f,rfl⟩:=map_eq_some_iff.1 h
         obtain⟨i,l,n⟩:=Be f d e .neq xo yo j;exact⟨by simp_all,.bool _⟩)
theorem Wb{b:UnOp}{x:Value}(h:E2 b x=some w)(a:aB β x v)(c:World):(Op.unary b v).run P c = .ok w c/\aB β w w:=by
  unfold E2 at h;split at h
  · cases a.cV;obtain rfl:=oI h;exact⟨rfl,.int _ _⟩
  · cases a.cV;obtain rfl:=oI h;exact⟨rfl,.int _ _⟩
  · cases a.iF;obtain rfl:=oI h;exact⟨rfl,.bool _⟩
  grind
end
variable{A:Type}{W:World}
section
variable {β:cI} {P:Program}
def zD(β:cI)(l l':List (Nat×Value)):Prop:=l.map (·.1)=l'.map (·.1)/\aU β (l.map (·.2)) (l'.map (·.2))
theorem zD.cz{p:Nat×Value}{l l':List (Nat×Value)}(h:zD β (p::l) l'):∃c r,l'=(p.1,c)::r/\aB β p.2 c/\zD β l r:=by
 cases l' with
 |nil=>have:=h.1;grind
 |cons q r=>
  obtain⟨b,a⟩:=h;simp only[List.map_cons,List.cons.injEq]at b a;exact⟨q.2,r,by grind,a.head,b.2,a.tail⟩
theorem zD.dL{l':List (Nat×Value)}(h:zD β [] l'):l'=[]:=by
 have:=h.1;simp_all
theorem zD.map(l:List A)(n:A->Nat){f a:A->Value}(h:∀x∈l,aB β (f x) (a x)):zD β (l.map λx=>(n x,f x)) (l.map λx=>(n x,a x)):=
 ⟨by simp,by grind[aU.map]⟩
theorem Qt(h:BK v=true):v≠Ab.fs:=by rintro rfl;cases h
theorem Cm(d:Nat):∀(l l':List Value)(j:Nat)(cs b:Array Value),aU β l l'->gN β cs b->
  gN β ((l.zipIdx j).foldl (λcs (c,j)=>cs.setIfInBounds (d+j) c) cs) ((l'.zipIdx j).foldl (λcs (c,j)=>cs.setIfInBounds (d+j) c) b)
 |[],l',j,cs,b,h,e=>by rw[h.dL];exact e
 | v::l,l',j,cs,b,h,e=>by
  obtain⟨p,r,rfl,o,n⟩:=h.cz;simp only[List.zipIdx_cons,List.foldl_cons];refine Cm d l r (j+1) _ _ n ⟨by simp[e.1],λi a k f g=>?_⟩;rw[Array.getElem?_setIfInBounds]at f g;split at f
  ·grind
  ·next m=>
   rw[if_neg m]at g;exact e.2 i a k f g
theorem vy(a:Nat->Option (Nat×Nat)):∀(l l':List (Nat×Value))(cs c r:Array Value),zD β l l'->(∀p∈l,BK p.2=true)->gN β cs c->Instr.fill a cs l=some r->
  ∃m,Instr.fill a c l'=some m/\gN β r m
 |[],l',cs,c,r,h,_,f,d=>by
  rw[h.dL];simp only[Instr.fill]at d⊢
  grind
 | p::l,l',cs,c,r,h,k,f,d=>by
  obtain⟨s,t,rfl,g,u⟩:=h.cz;obtain⟨i,v⟩:=p;have b:=g.cells (Qt (k _ List.mem_cons_self));simp only[Instr.fill]at d⊢
  cases e:a i with
  |none=>grind
  | some q=>
   obtain⟨j,o⟩:=q;simp only[e]at d⊢;dsimp only at g b;rw[<-b.1,<-f.1];split at d
   ·grind
   ·next n=>
    rw[if_neg n];refine vy a l t _ _ r u (λp e=>k p (List.mem_cons_of_mem _ e)) ?_ d;have:=Cm (β:=β) j v.cells.toList s.cells.toList 0 cs c (gN.toList.1 b) f
    grind[Array.toList_zipIdx]
theorem gN.qY{z:Value}(h:plain z=true):gN β z.cells z.cells:=by
 have b:aB β z z:= .mK h;by_cases a:z=Ab.fs
 ·subst a;cases h
 ·exact b.cells a
theorem Pa{t:TypeId}{b parts':List (Nat×Value)}(h:aD P t b=some v)(u:zD β b parts')(w:World):
  ∃x,(Instr.build t parts'.toArray).run P w = .ok x w/\aB β v x:=by
 unfold aD at h;split at h
 ·next z B=>
  obtain⟨r,i,A,g⟩:=eu B;split at h
  ·next C=>
   obtain⟨cs,a,rfl⟩:=map_eq_some_iff.1 h;have j:∀p∈b,BK p.2=true:=all_eq_true.1 C;have k:=gN.qY (β:=β) r;have m:∃c,P.built t parts'=some c/\gN β cs c:=by
    unfold Program.built at a⊢;simp only[A]at a⊢
    cases s:P.underlying t with
    |none=>simp[s]at a
    | some d=>
     cases d<;>simp only[s]at a⊢<;>try (cases a;done)
     ·next n e=>
      split at a
      ·next l D f q=>
       obtain rfl:z=l:=oI (g.symm.trans f);exact vy _ _ _ _ _ _ u j k a
      ·cases a
     ·next F=>
      split at a
      ·next l E f q=>
       obtain rfl:z=l:=oI (g.symm.trans f);exact vy _ _ _ _ _ _ u j k a
      ·cases a
   obtain⟨c,o,y⟩:=m;exact⟨.agg c,run_build w t parts'.toArray c o,.agg y.1 y.2⟩
  ·cases h
 grind
theorem Jt{t:TypeId}{cs:Array Value}(h:partOf P t cs n=some v)(c:gN β cs V)(w:World):
  ∃a,(part t V n).run P w = .ok a w/\aB β v a:=by
 unfold partOf at h
 cases g:P.underlying t with
 |none=>grind
 |some d=>
 simp only[g]at h;simp only[part,run_bind,se g,andThen_ok,run_ite];split at h
 ·next f=>
  obtain⟨o,j,rfl⟩:=map_eq_some_iff.1 h;rw[if_pos f];simp only[dd j,andThen_ok,Sem.run_pure];refine⟨_,rfl,.agg (by simp[c.1]) λi v a b e=>?_⟩;simp only[Array.getElem?_extract]at b e;rw[c.1]at b;split at b
  ·next k=>
   rw[if_pos k]at e;exact c.2 _ v a b e
  grind
 ·next f=>
  rw[if_neg f];obtain⟨a,l,m⟩:=c.get h
  simp_all
theorem Ia{d:TypeId}{x:Value}(h:eP P T d x=some w)(c:aB β x v)(g:World):(convert T d v).run P g = .ok w g/\aB β w w:=by
 unfold eP at h;split at h
 ·next f k i n a b=>
  cases c.cV
  obtain rfl:=oI h;refine⟨?_,.int _ _⟩;simp only[convert,run_bind,aE a,aE b,andThen_ok]
  cases f<;>rfl
 ·next f s a b=>
  cases c.ez
  obtain rfl:=oI h;refine⟨?_,.string _⟩;simp only[convert,run_bind,aE a,aE b,andThen_ok]
  cases f<;>rfl
 ·next e a b=>
  cases c
  obtain rfl:=oI h;refine⟨?_,.nilPtr⟩;simp only[convert,run_bind,aE a,aE b,andThen_ok,Conv.unsafePointer];rfl
 ·next e a b=>
  cases c
  obtain rfl:=oI h;refine⟨?_,.nilPtr⟩;simp only[convert,run_bind,aE a,aE b,andThen_ok,Conv.unsafePointer];rfl
 grind
theorem Gf(c:Bool):∀(l l':List Value)(x e v:Value),aB β x e->aU β l l'->qq c (x::l)=some v->(∀w:World,((l'.foldlM (if c then Builtin.max2 else Builtin.min2) e:Sem Value)).run P w = .ok v w)/\aB β v v\/(l=[]/\v=x)
 |[],l',x,e,v,g,f,h=>by simp_all[qq]
 | y::l,l',x,e,v,g,f,h=>by
  left;obtain⟨p,r,rfl,n,i⟩:=f.cz;simp only[qq,List.foldlM_cons,Option.bind_eq_bind]at h;split at h
  ·next k a o b=>
   cases g.cV;cases n.cV
   split at h
   ·next m=>
    subst m;simp only[Option.bind_some]at h;have d:=Gf c l r (.int k (if c then if b>a then b else a else if b<a then b else a)) _ v (.int _ _) i (by simpa[qq]using h);refine⟨λw=>?_,?_⟩
    ·rw[List.foldlM_cons,run_bind];have j:((if c then Builtin.max2 else Builtin.min2) (.int k a) (.int k b)).run P w = .ok (.int k (if c then if b>a then b else a else if b<a then b else a)) w:=by
      cases c<;>rfl
     rw[j,andThen_ok];rcases d with⟨d,_⟩|⟨rfl,rfl⟩
     ·exact d w
     ·rw[i.dL];rfl
    ·rcases d with⟨_,d⟩|⟨rfl,rfl⟩
     ·exact d
     ·exact .int _ _
   ·simp at h
  grind
theorem fB{s:Sem A}{f:A->Next}{w':World}{v:A}(h:s.run P W = .ok v w'):(do pure (f (<-s)):Sem Next).run P W = .ok (f v) w':=by
 simp[h]
theorem cF(b i n:Nat):(⟨b,i,none⟩:Addr).add n=⟨b,i+n,none⟩:=by grind[Addr.add]
theorem Cz{a b:Value}(h:aB β a v)(e:aB β b w):aB β (.tuple #[a,b]) (.tuple #[v,w]):=
 .tuple rfl λi g f c d=>by grind
set_option maxHeartbeats 4000000 in
theorem pE{ρ B:Operand->Value}(g:∀x,aB β (ρ x) (B x)){o:Oper}{v:Value}(h:ba P ρ o=some v)(w:World):
  ∃O,(execOp B o).run P w = .ok (.value O) w/\aB β v O:=by
 unfold ba at h;unfold execOp;split at h
 ·next x A=>obtain rfl:=oI h;simp only[A];exact⟨_,rfl,g _⟩
 ·next x A=>obtain rfl:=oI h;simp only[A];exact⟨_,rfl,g _⟩
 ·next c a b A=>
  simp only[A];split at h
  ·next t ht=>
   have M:=g c;rw[ht]at M;obtain rfl:=oI h;refine⟨if t then B a else B b,?_,?_⟩
   ·simp[M.iF,asBool]
   ·cases t
    ·exact g b
    ·exact g a
  ·cases h
 ·next t K A=>
  simp only[A];obtain⟨O,E,I⟩:=Pa (parts':=K.toList.map λp=>(p.1,B p.2)) h (zD.map K.toList (·.1) λp _=>g p.2) w;refine⟨O,?_,I⟩;have C:(K.toList.map λp=>(p.1,B p.2)).toArray=K.map λ(i,x)=>(i,B x):=by
   apply Array.ext';simp
  rw[C]at E;exact fB E
 ·next x A=>
  simp only[A];have m:=g x;split at h
  ·cases h
  ·cases h
  ·cases h
  ·cases h
  ·cases h
  ·next v0 F J h3 h4 h5=>
   obtain rfl:=oI h;refine⟨B x,?_,m⟩;revert m F J h3 h4 h5;generalize ρ x=a;generalize B x=b;intro m F J h3 h4 h5
   cases m with
   |fs v=>exact absurd rfl (h5 _)
   |nilPtr=>exact absurd rfl F
   |nilIface=>exact absurd rfl J
   |nilFunc=>exact absurd rfl h3
   |@func fn a U c c' H M ra rc=>cases fn<;>first|rfl|exact absurd rfl (h4 _ _ _)
   |_=>rfl
 ·next op t x y yt A=>
  simp only[A];obtain⟨E,I⟩:=O8 (xo:=x) (yo:=y) h (g x) (g y) w;exact⟨v,fB E,I⟩
 ·next op t x A=>
  simp only[A];obtain⟨E,I⟩:=Wb h (g x) w;exact⟨v,fB E,I⟩
 ·next s d x A=>
  simp only[A];obtain⟨E,I⟩:=Ia h (g x) w;exact⟨v,fB E,I⟩
 ·next t x A=>
  simp only[A];split at h
  ·cases h
  ·cases h
  ·next d L G=>
   obtain rfl:=oI h;refine⟨.iface t (B x),fB ?_,.iface t (g x)⟩;simp only[Instr.makeInterface,run_bind,aE G,andThen_ok]
   cases d<;>first|rfl|exact absurd rfl (L _)
 ·next fn first X A=>
  simp only[A];split at h
  ·cases h
  ·next y1=>
   obtain rfl:=oI h;refine⟨.func fn (first.map B) (X.map B),rfl,.func (by cases fn<;>first|rfl|exact absurd rfl (y1 _)) (by simp) (by simp) ?_ ?_⟩
   ·intro i a U F J;simp only[Array.getElem?_map,map_eq_some_iff]at F J;obtain⟨p,hp,rfl⟩:=F;obtain⟨q,hq,rfl⟩:=J;rw[hp]at hq;obtain rfl:=oI hq;exact g p
   ·intro i a U F J;simp only[Array.getElem?_map,map_eq_some_iff]at F J;obtain⟨p,hp,rfl⟩:=F;obtain⟨q,hq,rfl⟩:=J;rw[hp]at hq;obtain rfl:=oI hq;exact g p
 ·next s x f A=>
  simp only[A];have m:=g x;split at h
  ·next x0 a G H=>
   rw[H]at m;obtain⟨N,F,hm,hs,C⟩:=m.nF;split at h
   ·next fd hf=>
    split at h
    ·next R=>
     obtain rfl:=oI h
     cases x1:au P fd.type with
     |none=>simp[x1]at R
     |some n=>
      have h0:n≠0:=by simpa[x1]using R
      refine⟨.pointer (some ((⟨N.b,N.s+a.off,none⟩:Addr).add fd.offset)),fB ?_,?_⟩
      ·simp only[Instr.fieldAt,run_bind,aE G,andThen_ok,hf,C,Instr.sureAddr,Sem.run_pure,fieldPlace,dd x1,run_ite];rw[if_neg h0];rfl
      ·obtain⟨ab,ao,x3⟩:=a;simp only at hs F;subst hs;rw[cF,cF,add_assoc];exact .ptr F hm
    ·cases h
   ·cases h
  ·cases h
 ·next t x f A=>
  simp only[A];have m:=g x;split at h
  ·next x0 cs G H=>
   rw[H]at m;obtain⟨y2,C,M⟩:=m.lR;split at h
   ·next fd hf=>
    obtain⟨O,E,I⟩:=Jt h M w;refine⟨O,fB ?_,I⟩;simp only[Instr.field,run_bind,aE G,andThen_ok,hf,C,asAgg,Sem.run_pure,E]
   ·cases h
  ·cases h
 ·next t x i A=>
  simp only[A];have m:=g x;have Q:=g i;split at h
  ·next x5 e a k j G H V=>
   rw[H]at m;rw[V]at Q;obtain⟨N,F,hm,hs,C⟩:=m.nF;split at h
   ·next n R=>
    split at h
    ·next E=>
     obtain rfl:=oI h;refine⟨.pointer (some ((⟨N.b,N.s+a.off,none⟩:Addr).add (j.toNat*n))),fB ?_,?_⟩
     ·simp only[Instr.indexAt,run_bind,Q.cV,asIntOf,Sem.run_pure,andThen_ok,aE G,C,Instr.sureAddr,dd R,run_ite];rw[if_pos E]
     ·obtain⟨ab,ao,x3⟩:=a;simp only at hs F;subst hs;rw[cF,cF,add_assoc];exact .ptr F hm
    ·cases h
   ·cases h
  ·next e a x5 c k j G H V=>
   rw[H]at m;rw[V]at Q;obtain⟨ab,ao,x3⟩:=a;split at h
   ·next n R=>
    split at h
    ·next E=>
     obtain rfl:=oI h;have x7:x3=none:=by
      rcases m.tQ with⟨k',i',e⟩|⟨_,y8,_⟩
      ·injection e
      ·exact absurd E (by omega)
     subst x7;obtain⟨N,i',c',F,hm,y3,C,x4,y7,L,S,y6⟩:=m.fo
     ·clear y3;have x9:i'=N.s+ao:=by rcases S with S|S;exact S;exact absurd S.1 (by omega)
      subst x9;refine⟨.pointer (some ((⟨N.b,N.s+ao,none⟩:Addr).add (j.toNat*n))),fB ?_,?_⟩
      ·simp only[Instr.indexAt,run_bind,Q.cV,asIntOf,Sem.run_pure,andThen_ok,aE G,C,dd R,run_ite];rw[if_pos E]
      ·rw[cF,cF,add_assoc];exact .ptr F hm
    ·cases h
   ·cases h
  ·cases h
 ·next t x i A=>
  simp only[A];have m:=g x;have Q:=g i;split at h
  ·next x5 e cs k j G H V=>
   rw[H]at m;rw[V]at Q;obtain⟨y2,C,M⟩:=m.lR;split at h
   ·next n R=>
    split at h
    ·next E=>
     obtain⟨O,hp,I⟩:=Jt h M w;refine⟨O,fB ?_,I⟩;simp only[Instr.index,run_bind,Q.cV,asIntOf,Sem.run_pure,andThen_ok,aE G,C,dd R,run_ite,hp];rw[if_pos E]
    ·cases h
   ·cases h
  ·next s k j G H V=>
   rw[H]at m;rw[V]at Q;split at h
   ·next E=>
    split at h
    ·next b hb=>
     obtain rfl:=oI h;refine⟨_,fB ?_,.int _ _⟩;have y0:s[j.toNat]?=some b:=by
      rw[getElem?_toList]at hb;exact hb
     simp only[Instr.index,run_bind,Q.cV,asIntOf,Sem.run_pure,andThen_ok,aE G,m.ez];rw[if_pos E,y0];rfl
    ·cases h
   ·cases h
  ·cases h
 ·next x xt u ok A=>
  simp only[A];have m:=g x;split at h
  ·cases h
  ·cases h
  ·next d L G H=>
   rw[H]at m;split at h
   ·next x2=>
    obtain⟨z,hz,rfl⟩:=map_eq_some_iff.1 h;refine⟨.tuple #[z,.bool false],fB ?_,Cz (.mK (eu hz).1) (.bool _)⟩;simp only[Instr.typeAssert,run_bind,aE G,andThen_ok,m.FZ]
    cases d<;>first
     |exact absurd rfl (L _)
     |(rw[if_pos x2];simp[mS hz])
   ·cases h
  ·next d t v1 L G H=>
   rw[H]at m;obtain⟨v2,C,I⟩:=m.PS;split at h
   ·next Z=>
    obtain rfl:=oI h;refine⟨if ok then .tuple #[v2,.bool true]else v2,fB ?_,?_⟩
    ·simp only[Instr.typeAssert,run_bind,aE G,andThen_ok,C]
     cases d<;>first
      |exact absurd rfl (L _)
      |(rw[if_pos Z];rfl)
    ·cases ok
     ·exact I
     ·exact Cz I (.bool _)
   ·next Z=>
    split at h
    ·next x2=>
     obtain⟨z,hz,rfl⟩:=map_eq_some_iff.1 h;refine⟨.tuple #[z,.bool false],fB ?_,Cz (.mK (eu hz).1) (.bool _)⟩;simp only[Instr.typeAssert,run_bind,aE G,andThen_ok,C]
     cases d<;>first
      |exact absurd rfl (L _)
      |(rw[if_neg Z,if_pos x2];simp[mS hz])
    ·cases h
  ·cases h
 ·next x i A=>
  simp only[A];have m:=g x;split at h
  ·next vs H=>
   rw[H]at m;obtain⟨y5,C,M⟩:=m.rU;obtain⟨O,y4,E⟩:=M.get h;exact⟨O,fB (by simp[Instr.extract,C,y4]),E⟩
  ·cases h
 ·next D x6 A=>
  simp only[A];have T:aU β (D.toList.map ρ) (D.toList.map B):=aU.map _ λx _=>g x;have C:(D.map B).toList=D.toList.map B:=by simp
  revert T h;generalize D.toList.map ρ=l;generalize W:D.toList.map B=l';intro h T
  cases l with
  |nil=>simp[qq]at h
  |cons x l=>
   obtain⟨x',r,rfl,m,E⟩:=T.cz;rcases Gf true l r x x' v m E h with⟨F,J⟩|⟨rfl,rfl⟩
   ·exact⟨v,by
     simp only[resolve,run_bind,Sem.run_pure,andThen_ok,invoke,builtin,Builtin.max_,C,W];have:=F w;simp only[if_true]at this;rw[this];rfl,J⟩
   ·exact⟨x',by
     rw[E.dL]at W;simp only[resolve,run_bind,Sem.run_pure,andThen_ok,invoke,builtin,Builtin.max_,C,W];rfl,m⟩
 ·next D x6 A=>
  simp only[A];have T:aU β (D.toList.map ρ) (D.toList.map B):=aU.map _ λx _=>g x;have C:(D.map B).toList=D.toList.map B:=by simp
  revert T h;generalize D.toList.map ρ=l;generalize W:D.toList.map B=l';intro h T
  cases l with
  |nil=>simp[qq]at h
  |cons x l=>
   obtain⟨x',r,rfl,m,E⟩:=T.cz;rcases Gf false l r x x' v m E h with⟨F,J⟩|⟨rfl,rfl⟩
   ·exact⟨v,by
     simp only[resolve,run_bind,Sem.run_pure,andThen_ok,invoke,builtin,Builtin.min_,C,W];have:=F w;simp only[false_eq_true,if_false]at this;rw[this];rfl,J⟩
   ·exact⟨x',by
     rw[E.dL]at W;simp only[resolve,run_bind,Sem.run_pure,andThen_ok,invoke,builtin,Builtin.min_,C,W];rfl,m⟩
 ·next D x6 A=>
  simp only[A];split at h
  ·next x t m ht=>
   split at h
   ·next e a n c G H=>
    split at h
    ·next M=>
     obtain rfl:=oI h;have Y:=g x;rw[H]at Y;have x8:∃U ,B x = .slice U n c:=by
      cases a with
      |none=>obtain⟨rfl,rfl,C⟩:=Y.eQ;exact⟨none,C⟩
      |some a=>
       rcases Y.tQ with⟨k',i',rfl⟩|⟨rfl,rfl,rfl,U,C⟩
       ·obtain⟨N,i',c',_,_,_,C,x4,_⟩:=Y.fo;rw[x4 M]at C;exact⟨_,C⟩
       ·exact⟨_,C⟩
     obtain⟨U,C⟩:=x8;refine⟨.int .i64 c,?_,.int _ _⟩;have h0:(D.map B)[0]?=some (.slice U n c):=by simp[m,C]
     simp only[resolve,run_bind,Sem.run_pure,andThen_ok,invoke,builtin,Builtin.cap_,ht,h0,aE G];rfl
    ·cases h
   ·cases h
  ·cases h
 grind
end
variable{J:cI}{I:bu}{G:Slot}{h:aa}{r:Operand->Value}{m:Nat}{p:List Int}
section
variable {β:cI} {P:Program}
def bu.wr:bu->Bool
 |.cells _ _ _ wr=>wr
 |.map _=>true
 |.loop .. =>true
def Tm(a:Nat×Nat)(n:Nat):Prop:=∀x,a.1<=x->x<a.2->n<=x
def uD(β:cI)(b:List (Value×Value))(a:List MapEntry):Prop:=
 b.length=a.length/\∀(i:Nat) p e,b[i]?=some p->a[i]?=some e->aB β p.1 e.key/\aB β p.2 e.val
def ff(β:cI)(cs:List Value)(s:Nat)(a:Array Value):Prop:=∀(i:Nat) v,cs[i]?=some v->∃b,a[s+i]?=some b/\aB β v b
def Ky:WC->LoopState->Option Code->Prop
 |.ready,s,j=>s = .ready/\j=none
 |.busy,s,_=>s = .busy
 |.ret,s,j=>s = .done/\j=some .ret
 |.exit a,s,j=>s = .done/\j=some (.exit a)
def zw(β:cI)(B:bu)(a:Slot)(w:World):Prop:=
 match B with
 |.cells cs t g k=>a.isMap=false/\a.t=t/\(a.sz=g/\(g=0->a.s=0))/\∃b h,w.heap[a.b]?=some (.cells b t h)/\b.size=a.n/\ff β cs a.s b/\(k=true->Tm h b.size)
 |.map j=>a.isMap=true/\∃d c,w.heap[a.b]?=some (.map d c)/\uD β j d.toList
 |.loop l i m f e _=>a.isMap=true/\∃r:Loop,w.heap[a.b]?=some (.loop r)/\Ky l r.state r.pending/\aU β i r.tmps.toList/\r.params.toList=m/\r.assign=f/\r.body=e
structure iC(β:cI)(h:aa)(w:World):Prop where
 lt:∀k sl,β k=some sl->k<h.next/\sl.b<w.heap.size
 blk:∀k B sl,h.get k=some B->β k=some sl->zw β B sl w
 own:∀k k' B B' sl sl',k≠k'->h.get k=some B->h.get k'=some B'->β k=some sl->β k'=some sl'->B.wr=true->sl.b≠sl'.b
 wf:∀k B,h.get k=some B->k<h.next
theorem uD.mono{β:cI}(a:β.le J){d:List (Value×Value)}{b:List MapEntry}(h:uD β d b):uD J d b:=
 ⟨h.1,λi p e c f=>⟨(h.2 i p e c f).1.mono a,(h.2 i p e c f).2.mono a⟩⟩
theorem ff.mono{β:cI}(b:β.le J){cs:List Value}{s:Nat}{a:Array Value}(h:ff β cs s a):ff J cs s a:=
 λi v c=>let⟨f,d,e⟩:=h i v c;⟨f,d,e.mono b⟩
theorem zw.mono{β:cI}(a:β.le J){B:bu}{j:Slot}{w:World}(h:zw β B j w):zw J B j w:=by
 cases B with
 |cells cs t q v=>
  obtain⟨c,d,b,k,m,f,g,o,n⟩:=h;exact⟨c,d,b,k,m,f,g,o.mono a,n⟩
 |map u=>
  obtain⟨c,i,e,d,b⟩:=h;exact⟨c,i,e,d,b.mono a⟩
 |loop x s y p l z=>
  obtain⟨c,r,d,b,f,g⟩:=h;exact⟨c,r,d,b,f.mono a,g⟩
theorem zw.of_heap{e:World}(h:zw β I G W)(u:e.heap[G.b]?=W.heap[G.b]?):zw β I G e:=by
 cases I with
 |cells cs t o s=>
  obtain⟨b,d,a,g,j,v,m,l,k⟩:=h;exact⟨b,d,a,g,j,by grind,m,l,k⟩
 |map q=>
  obtain⟨b,f,c,d,a⟩:=h;exact⟨b,f,c,by grind,a⟩
 |loop w p x n i y=>
  obtain⟨b,r,d,a⟩:=h;exact⟨b,r,by grind,a⟩
theorem lL{b:Nat}{cs:Array Value}{t:TypeId}{a:Nat×Nat}(h:W.heap[b]?=some (.cells cs t a)):W.cell? ⟨b,i,none⟩=cs[i]?:=by
 simp[World.cell?,h]
theorem iC.row(i:iC β h W){k:Nat}{cs:List Value}{t:TypeId}{c:Nat}{e:Bool}{a:Slot}(n:h.get k=some (.cells cs t c e))(f:β k=some a):
  a.isMap=false/\a.t=t/\a.sz=c/\∃b d,W.heap[a.b]?=some (.cells b t d)/\b.size=a.n/\ff β cs a.s b/\(e=true->Tm d b.size):=
 let⟨j,l,g,m⟩:=i.blk k _ a n f;⟨j,l,g.1,m⟩
theorem iC.nZ(d:iC β h W){k:Nat}{cs:List Value}{t:TypeId}{e:Bool}{a:Slot}(f:h.get k=some (.cells cs t 0 e))(b:β k=some a):a.s=0:=
 let⟨_,_,c,_⟩:=d.blk k _ a f b;c.2 rfl
theorem sd{w:World}{b s:Nat}{cs:List Value}{t:TypeId}{o:Nat×Nat}(q:w.heap[b]?=some (.cells V t o))(x:ff β cs s V)(i n:Nat)(m:((cs.drop i).take n).length=n):
  ∃l',(loadCells ⟨b,s+i,none⟩ n).run P w = .ok l'.toArray w/\aU β ((cs.drop i).take n) l':=by
 have k:i+n<=cs.length\/n=0:=by
  simp only[List.length_take,List.length_drop]at m;omega
 have e:∀j,j<n->∃v d,cs[i+j]?=some v/\V[s+(i+j)]?=some d/\aB β v d:=by
  intro j f;have g:i+j<cs.length:=by omega
  obtain⟨d,a,c⟩:=x (i+j) _ (gE g);exact⟨_,d,gE g,a,c⟩
 refine⟨(List.range n).map λj=>V.getD (s+(i+j)) undef,?_,?_,?_⟩
 ·refine run_loadCells w ⟨b,s+i,none⟩ n _ λj f=>?_;obtain⟨v,d,_,c,_⟩:=e j f;rw[cF,lL q,show s+i+j=s+(i+j) by omega,c]
  simp_all
 ·grind
 ·intro j v d a c;simp only[List.getElem?_map,map_eq_some_iff]at c;obtain⟨y,h,rfl⟩:=c;rw[getElem?_take,getElem?_drop]at a;split at a
  ·next f=>
   rw[List.getElem?_range f]at h;obtain rfl:=oI h;obtain⟨u,z,l,r,p⟩:=e j f;rw[l]at a;obtain rfl:=oI a;simpa[Array.getD_eq_getD_getElem?,r]using p
  grind
theorem IZ(w:iC β h W){t:TypeId}{a q v:Value}(b:ae P t h a=some v)(y:aB β a q):
  ∃p,q = .pointer (some p)/\∃c,(loadVar t p).run P W = .ok c W/\aB β v c:=by
 unfold ae at b;split at b
 ·next d k i x=>
  obtain⟨G,u,D,rfl⟩:=y.rT;refine⟨_,rfl,?_⟩;split at b
  ·next cs I E H z=>
   obtain⟨_,_,_,B,F,r,C,s,_⟩:=w.row z u;simp only[loadVar,run_bind,se x,andThen_ok,run_ite];split at b
   ·next e=>
    rw[if_pos e];split at b
    ·next n o=>
     split at b
     ·next g=>
      obtain rfl:=oI b;obtain⟨l',A,f⟩:=sd (P:=P) r s i n g;refine⟨.agg l'.toArray,by simp[dd o,A],.agg (by simpa using f.1) λj v c l m=>f.2 j v c (by simpa using l) (by simpa using m)⟩
     ·cases b
    ·cases b
   ·next e=>
    rw[if_neg e];obtain⟨c,l,m⟩:=s i v b;exact⟨c,by simp[run_load,lL r,l],m⟩
  ·cases b
 grind
theorem Lg(s:ByteArray)(l h:Nat):(⟨((s.data.toList.drop l).take (h-l)).toArray⟩:ByteArray)=s.extract l h:=by
 apply Sm;simp
def kQ(β:cI)(x a:Option Value):Prop:=match x,a with|none,none=>True|some v,some b=>aB β v b|_,_=>False
theorem kQ.map{ρ:Operand->Value}(a:∀x,aB β (ρ x) (r x))(x:Option Operand):kQ β (x.map ρ) (x.map r):=by
 cases x with
 |none=>trivial
 |some x=>exact a x
theorem kQ.none_{a:Option Value}(h:kQ β none a):a=none:=by cases a with|none=>rfl|some _=>exact h.elim
theorem kQ.some_{b:Option Value}(h:kQ β (some v) b):∃a,b=some a/\aB β v a:=by cases b with|none=>exact h.elim|some a=>exact⟨a,rfl,h⟩
theorem lf{x a:Option Value}(h:dH x n=some z)(b:kQ β x a):
  (x=none/\a=none/\z=n)\/ ∃k,x=some (.int k z)/\a=some (.int k z):=by
 cases x with
 |none=>simp only[dH,Option.some.injEq]at h;exact .inl ⟨rfl,b.none_,h.symm⟩
 |some v=>
  obtain⟨d,rfl,c⟩:=b.some_
  cases v with
  |int k m=>simp only[dH,Option.some.injEq]at h;subst h;exact .inr ⟨k,rfl,by rw[c.cV]⟩
  |_=>simp[dH]at h
theorem jW{k:IntKind}{c:BoundsCode}(b:0<=z)(a:z<=n)(w:World):(Instr.sliceBound (.int k z) n c).run P w = .ok z.toNat w:=by simp_all[Instr.sliceBound,asIntOf]
theorem nM{f e a c:Option Value}{l:Int}(h:dH f 0=some l)(i:dH e n=some z)
  (g:kQ β f a) (d:kQ β e c)
  (q:0<=l) (o:l<=z) (p:z<=m) (w:World):(Instr.sliceBounds b n m a c none).run P w = .ok (l.toNat,z.toNat,m) w:=by
 unfold Instr.sliceBounds;rcases lf i d with⟨rfl,rfl,rfl⟩|⟨k,rfl,rfl⟩
 ·grind[lf,run_bind,Sem.run_pure,andThen_ok,jW]
 ·rcases lf h g with⟨rfl,rfl,rfl⟩|⟨j,rfl,rfl⟩
  all_goals grind[run_bind,Sem.run_pure,andThen_ok,jW]
theorem JM{f c a b:Option Value}{l h:Int}{k:IntKind}(i:dH f 0=some l)(j:dH c n=some z)(p:c≠none)
  (g:kQ β f a) (d:kQ β c b)
  (o:0<=l) (s:l<=z) (t:z<=h) (e:h<=m) (w:World):(Instr.sliceBounds true n m a b (some (.int k h))).run P w = .ok (l.toNat,z.toNat,h.toNat) w:=by
 unfold Instr.sliceBounds;rcases lf j d with⟨rfl,rfl,rfl⟩|⟨r,rfl,rfl⟩
 ·grind
 ·rcases lf i g with⟨rfl,rfl,rfl⟩|⟨q,rfl,rfl⟩
  ·simp only[run_bind];rw[jW (by omega) e];simp only[andThen_ok];rw[jW (by omega) (by omega)];simp
  ·simp only[run_bind];rw[jW (by omega) e];simp only[andThen_ok];rw[jW (by omega) (by omega)];simp only[andThen_ok];rw[jW o (by omega)];simp
theorem Rc(hs:iC β h W){t:TypeId}{x x' v:Value}{lo U mx R S q:Option Value}(a:bE P t x lo U mx h=some v)(Q:aB β x x')
  (A:kQ β lo R) (F:kQ β U S) (z:kQ β mx q):∃v',(Instr.sliceAt t x' R S q).run P W = .ok v' W/\aB β v v':=by
 unfold bE at a;split at a
 ·next s=>
  cases Q.ez
  split at a
  ·next D=>
   split at a
   ·next _ l r B C=>
    split at a
    ·next g=>
     obtain rfl:=oI a;have f:q=none:=z.none_;subst f;refine⟨.string (s.extract l.toNat r.toNat),?_,?_⟩
     ·have j:s.size=s.data.toList.length:=by simp
      simp only[Instr.sliceAt,run_bind,aE D,andThen_ok,Instr.slice];simp only[Option.isSome_none,false_eq_true,if_false,run_bind,Sem.run_pure];rw[j,nM B C A F g.1 g.2.1 g.2.2];simp
     ·rw[strOf,show(r-l).toNat=r.toNat-l.toNat by omega,Lg];exact .string _
    ·cases a
   ·cases a
  ·cases a
 ·split at a
  ·next e D=>
   split at a
   ·next n B C j=>
    obtain rfl:=oI a;obtain⟨_,_,rfl⟩:=Q.eQ;have f:q=none:=z.none_;subst f;refine⟨.slice none 0 0,?_,.kZ⟩;simp only[Instr.sliceAt,run_bind,aE D,andThen_ok,Instr.slice];rw[nM B C A F (by omega) (by omega) (by omega)];simp[dd j]
   ·cases a
  ·cases a
 ·next k i x8 b=>
  split at a
  ·next e D=>
   split at a
   ·next l r O cs t' x9 wr B C j V=>
    split at a
    ·next L=>
     obtain⟨d,J,w,u,H,_,rfl,M,E,x7,T,c⟩:=Q.fo;obtain⟨_,_,G,_⟩:=hs.row V u;have x6:aW b<=w:=by
      unfold aW;split
      ·next g=>exact E g
      ·next g=>rw[M (by omega)];exact Nat.le_refl _
     split at a
     ·split at a
      ·next g=>
       obtain rfl:=oI a;have f:q=none:=z.none_;subst f;have x0:l.toNat<=w:=by omega
       refine⟨.slice (if w=l.toNat then some ⟨d.b,J,none⟩else some ⟨d.b,J+l.toNat*O,none⟩) (r-l).toNat (w-l.toNat),?_,?_⟩
       ·simp only[Instr.sliceAt,run_bind,aE D,andThen_ok,Instr.slice];rw[nM B C A F g.1 g.2.1 (by omega)];simp only[andThen_ok,dd j,Sem.run_pure,map_some,cF];rw[show r.toNat-l.toNat=(r-l).toNat by omega]
       ·by_cases o:w=l.toNat
        ·rw[if_pos o];refine .slice u H ?_ ?_ ?_ (.inr ⟨by omega,by omega⟩) ?_
         ·intro Y;by_cases p:b<cj
          ·have:=M p;omega
          ·have:=E (by omega);have N:aW b=b-cj:=by unfold aW;rw[if_pos (by omega)]
           omega
         ·intro x3;have p:cj<=b:=by omega
          have:=E p;omega
         ·have:(r-l).toNat=0:=by omega
          omega
         ·rcases c with c|c
          ·exact .inl c
          ·right;rw[show w-l.toNat=0 by omega];simp;exact Nat.le_trans (Nat.le_add_right _ _) c
        ·rw[if_neg o];have x4:J=d.s+i:=by rcases T with y|⟨y,I⟩;exact y;exact absurd I (by omega)
         refine .slice u H ?_ ?_ ?_ (.inl (by omega)) ?_
         ·intro Y;by_cases p:b<cj
          ·have:=M p;omega
          ·have:=E (by omega);have N:aW b=b-cj:=by unfold aW;rw[if_pos (by omega)]
           omega
         ·intro x3;have p:cj<=b:=by omega
          have:=E p;omega
         ·by_cases p:b<cj
          ·have N:aW b=b:=by unfold aW;rw[if_neg (by omega)]
           have h6:aW (b-l.toNat)=b-l.toNat:=by unfold aW;rw[if_neg (by omega)]
           omega
          ·have N:aW b=b-cj:=by unfold aW;rw[if_pos (by omega)]
           have h6:aW (b-l.toNat)=b-l.toNat-cj:=by unfold aW;rw[if_pos (by omega)]
           omega
         ·rcases L with K|K
          ·rcases c with c|c
           ·exact .inl c
           ·right;subst K;rw[<-G];rw[Nat.sub_mul];have:l.toNat*d.sz<=w*d.sz:=Nat.mul_le_mul_right _ x0;omega
          ·exact .inl (by omega)
      ·cases a
     ·next k m=>
      split at a
      ·next g=>
       obtain rfl:=oI a;obtain⟨X,y,I,h3,h4,N⟩:=g;obtain⟨vm,rfl,x5⟩:=z.some_
       cases x5.cV
       have x1:U≠none:=by intro e;subst e;cases N
       have Z:m.toNat<=w:=by omega
       refine⟨.slice (if m.toNat=l.toNat then some ⟨d.b,J,none⟩else some ⟨d.b,J+l.toNat*O,none⟩) (r-l).toNat (m.toNat-l.toNat),?_,?_⟩
       ·simp only[Instr.sliceAt,run_bind,aE D,andThen_ok,Instr.slice];rw[JM B C x1 A F X y I (by omega)];simp only[andThen_ok,dd j,Sem.run_pure,map_some,cF];rw[show r.toNat-l.toNat=(r-l).toNat by omega]
       ·have x2:aW (m-l).toNat=(m-l).toNat:=by unfold aW;rw[if_neg (by omega)]
        by_cases o:m.toNat=l.toNat
        ·rw[if_pos o];refine .slice u H (by omega) (by omega) (by omega) (.inr ⟨by omega,by omega⟩) ?_;rcases c with c|c
         ·exact .inl c
         ·right;rw[show m.toNat-l.toNat=0 by omega];simp;exact Nat.le_trans (Nat.le_add_right _ _) c
        ·rw[if_neg o];have x4:J=d.s+i:=by rcases T with y|⟨y,I⟩;exact y;exact absurd I (by omega)
         refine .slice u H (by omega) (by omega) (by omega) (.inl (by omega)) ?_;rcases L with K|K
         ·rcases c with c|c
          ·exact .inl c
          ·right;subst K;rw[<-G];have e2:l.toNat*d.sz+(m.toNat-l.toNat)*d.sz=m.toNat*d.sz:=by rw[<-add_mul];congr 1;omega
           have:m.toNat*d.sz<=w*d.sz:=Nat.mul_le_mul_right _ Z;omega
         ·exact .inl (by omega)
      ·cases a
     ·cases a
    ·cases a
   ·cases a
  ·cases a
 ·next k i=>
  obtain⟨d,u,H,rfl⟩:=Q.rT;split at a
  ·next n e D=>
   split at a
   ·next _ l r O cs t' wr B C j V=>
    split at a
    ·next g=>
     obtain⟨X,y,I,h3⟩:=g;obtain rfl:=oI a;have f:q=none:=z.none_;subst f;obtain⟨_,_,G,_⟩:=hs.row V u;have x2:aW (n-l.toNat)=n-l.toNat:=by unfold aW;rw[if_neg (by omega)]
     refine⟨.slice (some (if n=l.toNat then⟨d.b,d.s+i,none⟩else⟨d.b,d.s+i+l.toNat*O,none⟩)) (r-l).toNat (n-l.toNat),?_,?_⟩
     ·simp only[Instr.sliceAt,run_bind,aE D,andThen_ok,Instr.sureAddr,Sem.run_pure];rw[nM B C A F X y I];simp only[andThen_ok,dd j,cF];rw[show r.toNat-l.toNat=(r-l).toNat by omega]
     ·by_cases o:n=l.toNat
      ·rw[if_pos o];exact .slice u H (by omega) (by omega) (by omega) (.inr ⟨by omega,by omega⟩) (.inl (by omega))
      ·rw[if_neg o];exact .slice u H (by omega) (by omega) (by omega) (.inl (by omega)) (.inl (by omega))
    ·cases a
   ·cases a
  ·cases a
 grind
theorem AR:∀{l:List Value}{b:List UInt8},bytesOf l=some b->∃a:List Int,l=a.map (Value.int .u8)/\∀s:ByteArray,a.foldl (λr n=>r.push (UInt8.ofNat n.toNat)) s=⟨s.data++b.toArray⟩
 |[],b,h=>by simp_all[bytesOf]
 | v::l,b,h=>by
  unfold bytesOf at h;split at h
  ·next e=>cases e
  ·next n r e=>
   simp only[List.cons.injEq]at e;obtain⟨rfl,rfl⟩:=e;split at h
   ·obtain⟨f,c,rfl⟩:=map_eq_some_iff.1 h;obtain⟨a,rfl,d⟩:=AR c;refine⟨n::a,rfl,λs=>?_⟩;rw[List.foldl_cons,d];apply Sm;simp[ByteArray.push]
   ·cases h
  grind
theorem aU.ints{k:IntKind}{l':List Value}(h:aU β (p.map (Value.int k)) l'):l'=p.map (Value.int k):=by
 apply List.ext_getElem?;intro i;by_cases d:i<p.length
 ·have a:(p.map (Value.int k))[i]?=some (.int k p[i]):=by simp[d]
  obtain⟨e,c,b⟩:=h.get a;rw[a,c,b.cV]
 ·have a:(p.map (Value.int k)).length<=i:=by simp;omega
  rw[getElem?_eq_none a,getElem?_eq_none (h.1▸a)]
theorem Dt(z:iC β h W){k i n:Nat}{cs:List Value}{t:TypeId}{x:Nat}{B:Bool}{a:Slot}(D:h.get k=some (.cells cs t x B))(v:β k=some a)
  (y:((cs.drop i).take n).length=n) {o:List UInt8} (g:bytesOf ((cs.drop i).take n)=some o):
  ∃b:List Int,(cs.drop i).take n=b.map (Value.int .u8)/\(loadCells ⟨a.b,a.s+i,none⟩ n).run P W = .ok (b.map (Value.int .u8)).toArray W/\(∀s:ByteArray,b.foldl (λr n=>r.push (UInt8.ofNat n.toNat)) s=⟨s.data++o.toArray⟩)/\
   (∀j u,(b.map (Value.int .u8))[j]?=some u->W.cell? ((⟨a.b,a.s+i,none⟩:Addr).add j)=some u):=by
 obtain⟨b,c,w⟩:=AR g;obtain⟨_,_,_,E,G,l,F,q,_⟩:=z.row D v;obtain⟨l',p,d⟩:=sd (P:=P) l q i n y;rw[c]at d;rw[d.ints]at p;refine⟨b,c,p,w,λj u e=>?_⟩;have f:((cs.drop i).take n)[j]?=some u:=by rw[c];exact e
 rw[getElem?_take,getElem?_drop]at f;split at f
 ·obtain⟨H,A,C⟩:=q _ _ f;rw[cF,lL l,show a.s+i+j=a.s+(i+j) by omega,A];simp only[List.getElem?_map,map_eq_some_iff]at e;obtain⟨m,_,rfl⟩:=e;rw[C.cV]
 grind
theorem uZ(v:iC β h W){k i n c:Nat}{cs:List Value}{t:TypeId}{s:Nat}{x:Bool}(y:h.get k=some (.cells cs t s x))
  (u:((cs.drop i).take n).length=n) {e:List UInt8} (a:bytesOf ((cs.drop i).take n)=some e) {f:Value} (w:aB β (.slice (some ⟨k,i,none⟩) n c) f):
  (Conv.bytesToString f).run P W = .ok (strOf e) W:=by
 obtain⟨d,z,q,o,G,_,rfl,C,F,D,g,E⟩:=w.fo;by_cases j:n=0
 ·subst j;have:e=[]:=by simp[bytesOf]at a;exact a
  subst this;rfl
 ·have l:z=d.s+i:=by rcases g with b|⟨b,H⟩;exact b;exact absurd b j
  subst l;obtain⟨r,B,A,p,m⟩:=Dt (P:=P) v y o u a;rw[run_bytesToString (P:=P) W ⟨d.b,d.s+i,none⟩ n q r A,p];congr 2;simp
end
section
variable {β:cI} {P:Program}
theorem JN{a b:Value}(h:EK a b=true):a=b:=by
 unfold EK at h;split at h
 ·rw[beq_iff_eq.1 h]
 ·simp only[and_eq_true,decide_eq_true_eq]at h;rw[h.1,h.2]
 ·next a b=>
  simp only[decide_eq_true_eq]at h;obtain⟨⟨a⟩⟩:=a;obtain⟨⟨b⟩⟩:=b;simp only at h;rw[h]
 grind
theorem JQ:∀{a b:List Value},zh a b=true->a=b
 |[],[],_=>rfl
 |[],_::_,h=>by grind[zh]
 |_::_,[],h=>by grind[zh]
 |a::x,b::y,h=>by
  simp only[zh,and_eq_true]at h;rw[JN h.1,JQ h.2]
theorem Ve{a b:Value}(h:JP a b=true):a=b:=by
 unfold JP at h
 grind[Array.ext',JQ,JN]
theorem aB.JS(a:zi v=true)(h:aB β v w):w=v:=by
 cases h<;>first|rfl|(simp[zi]at a)
theorem aB.Jm(a:zi v=true):aB β v v:=by
 cases v<;>first|exact .bool _|exact .int _ _|exact .string _|(simp[zi]at a)
theorem aB.px(a:xJ v=true)(h:aB β v w):w=v:=by
 unfold xJ at a;split at a
 ·next cs=>
  obtain⟨b,rfl,c⟩:=h.lR;have:b=cs:=by
   refine Array.ext c.1.symm λi e f=>?_;have d:=c.2 i cs[i] b[i] (getElem?_eq_getElem f) (getElem?_eq_getElem e);exact d.JS (all_eq_true.1 a _ (by simp))
  grind
 ·exact h.JS a
theorem aB.Oc(a:xJ v=true):aB β v v:=by
 unfold xJ at a;split at a
 ·next cs=>
  refine .agg rfl λi v d b c=>?_;rw[b]at c;obtain rfl:=oI c;refine .Jm (all_eq_true.1 a _ ?_);rw[<-getElem?_toList]at b;exact List.mem_of_getElem? b
 grind[Jm]
theorem mQ{t:TypeId}{cs:Array Value}(h:partOf P t cs n=some v)(w:World):(part t cs n).run P w = .ok v w:=by
 unfold partOf at h
 cases a:P.underlying t with
 |none=>grind
 |some d=>
 simp only[a]at h;simp only[part,run_bind,se a,andThen_ok,run_ite];split at h
 ·next c=>
  obtain⟨e,b,rfl⟩:=map_eq_some_iff.1 h;rw[if_pos c];simp only[dd b,andThen_ok,Sem.run_pure]
 simp_all
theorem It{e:TypeId->Value->Value->Option Bool}{d:Nat}(w:World)(j:∀t x y b,e t x y=some b->(Op.equalIn d t x y).run P w = .ok b w)(g i:Array Value):∀(a:List Field){b:Bool},S7 P e g i a=some b->
  (Op.eqFields d g i a).run P w = .ok b w
 |[],b,h=>by simp only[S7]at h;obtain rfl:=oI h;rfl
 | f::a,b,h=>by
  simp only[S7]at h;split at h
  ·next m=>
   split at h
   ·next p q k l=>
    unfold Op.eqFields;rw[if_pos m];split at h
    ·next c=>
     simp only[run_bind,mQ k,mQ l,andThen_ok,j _ _ _ _ c];simp only[Bool.not_true,false_eq_true,if_false];exact It w j g i a h
    ·next c=>
     obtain rfl:=oI h;simp only[run_bind,mQ k,mQ l,andThen_ok,j _ _ _ _ c];rfl
    ·cases h
   ·cases h
  grind
theorem tM(w:World):∀(d n:Nat)(t:TypeId)(x y:Value)(b:Bool),eI P d t x y=some b->(Op.equalIn (n+d) t x y).run P w = .ok b w
 |0,_,_,_,_,_,h=>by simp[eI]at h
 | d+1,n,t,x,y,b,h=>by
  unfold eI at h;split at h
  ·next g a f e=>
   split at h
   ·next j=>
    have c:P.fieldsOf t=g:=by simp[Program.fieldsOf,e]
    rw[show n+(d+1)=(n+d)+1 from rfl,run_equalIn_struct w (n+d) t a f (by rw[c];exact e) j,c];exact It w (λt x y b i=>tM w d n t x y b i) a f g.toList h
   ·cases h
  grind[Ba]
theorem D4{c:TypeId->Value->Bool}{em:Bool}{d:Nat}(w:World)(g:∀t v,c t v=true->(Instr.checkKey em d t v).run P w = .ok () w)(cs:Array Value):∀(a:List Field),NF P c cs a=true->
  (forIn a PUnit.unit (λf _=>do
   if f.name≠ "_" then Instr.checkKey em d f.type (<-part f.type cs f.offset)
   pure (ForInStep.yield PUnit.unit)):Sem PUnit).run P w = .ok PUnit.unit w
 |[],_=>rfl
 | f::a,h=>by
  simp only[NF,and_eq_true,decide_eq_true_eq]at h;obtain⟨⟨i,b⟩,j⟩:=h
  cases e:partOf P f.type cs f.offset with
  |none=>grind
  |some p=>
   rw[e]at b;simp only[List.forIn_cons,run_bind,i,ne_eq,not_false_eq_true,if_true,andThen_ok,mQ e,g _ _ b,Sem.run_pure];simpa using D4 w g cs a j
theorem By(b:Bool)(w:World):∀(d n:Nat)(t:TypeId)(v:Value),xH P d t v=true->(Instr.checkKey b (n+d) t v).run P w = .ok () w
 |0,_,_,_,h=>by simp[xH]at h
 | d+1,n,t,v,h=>by
  rw[show n+(d+1)=(n+d)+1 from rfl];unfold xH at h;split at h
  ·next f a e=>
   have:=D4 (em:=b) w (λt v c=>By b w d n t v c) a f.toList h;rw[Instr.checkKey];simp only[run_bind,aE e,andThen_ok];rw[<-Array.forIn_toList];simp only[ne_eq,ite_not,bind_pure_comp]at this⊢;simp at this⊢;rw[this];rfl
  all_goals simp_all[aE,Instr.checkKey]
theorem yT{kt:TypeId}{k:Value}(h:kW P kt k=true)(a:Bool)(w:World):(Instr.checkKey a 10000 kt k).run P w = .ok () w:=by
 unfold kW at h;simp only[and_eq_true]at h;exact By a w 3 9997 kt k h.2
theorem Aa{kt:TypeId}{k:Value}(h:kW P kt k=true):xJ k=true:=by simp_all[kW]
theorem rV{kt:TypeId}{a b:Value}{r:Bool}(h:qi P kt a b=some r):xJ b=true/\eI P 3 kt a b=some r/\(r=true->a=b):=by
 unfold qi at h
 grind[Ve]
theorem PU{kt:TypeId}{k:Value}(h:kW P kt k=true):(∃e a,P.underlying kt=some (.struct e)/\k = .agg a)\/(∃g,P.underlying kt=some g/\∀b r,eI P 3 kt k b=some r->Instr.sameNow g k b=some r):=by
 unfold kW at h;simp only[and_eq_true]at h;have f:=h.2;unfold xH at f;split at f
 ·next e a d=>exact .inl ⟨e,a,d,rfl⟩
 ·next b d=>
  refine .inr ⟨_,d,λy r c=>?_⟩;simp only[eI,A9,d]at c
  cases y<;>simp at c
  simp[Instr.sameNow,c]
 ·next j i n d=>
  refine .inr ⟨_,d,λy r c=>?_⟩;simp only[eI,A9,d]at c
  cases y<;>simp at c
  obtain⟨rfl,rfl⟩:=c;simp[Instr.sameNow]
 ·next b d=>
  refine .inr ⟨_,d,λy r c=>?_⟩;simp only[eI,A9,d]at c
  cases y with
  |string s=>
   obtain rfl:=oI c;simp only[Instr.sameNow];rw[DX]
  |_=>simp at c
 grind
theorem uD.VM{p:Value×Value}{b:List (Value×Value)}{e:MapEntry}{a:List MapEntry}(c:uD β (p::b) (e::a)):uD β b a:=
 ⟨by have:=c.1;grind,λj p e d f=>c.2 (j+1) p e (by grind) (by grind)⟩
structure As(P:Program)(kt:TypeId)(k:Value){α:Type}(Ec:List MapEntry->Nat->α)(R:Option (Nat×Value)->α):Prop where
 nil:∀i,Ec [] i=R none
 hit:∀(e:MapEntry) es i,eI P 3 kt k e.key=some true->Ec (e::es) i=R (some (i,e.val))
 YK:∀(e:MapEntry) es i,eI P 3 kt k e.key=some false->Ec (e::es) i=Ec es (i+1)
theorem Lm{kt:TypeId}{a:TypeDesc}{k:Value}(d:∀b r,eI P 3 kt k b=some r->Instr.sameNow a k b=some r):As P kt k (Instr.findNow a k) some where
 nil:=λ_=>rfl
 hit:=λe c i h=>by grind[Instr.findNow]
 YK:=λe c i h=>by grind[Instr.findNow]
theorem Df{kt:TypeId}{k:Value}(w:World):As P kt k (λa i=>(Instr.findAsking kt k a i).run P w) (λr=> .ok r w) where
 nil:=λ_=>by rfl
 hit:=λe a i h=>by
  have b:(Op.equal kt k e.key).run P w = .ok true w:=tM w 3 9997 kt k e.key true h;simp[Instr.findAsking,b]
 YK:=λe a i h=>by
  have b:(Op.equal kt k e.key).run P w = .ok false w:=tM w 3 9997 kt k e.key false h;simp[Instr.findAsking,b]
section
variable {kt:TypeId} {k:Value} {α:Type} {Ec:List MapEntry->Nat->α} {R:Option (Nat×Value)->α}
theorem IC(l:As P kt k Ec R):∀(f:List (Value×Value))(a:List MapEntry)(i:Nat){r:Option Value},uD β f a->oz P kt k f=some r->
  ∃g,Ec a i=R g/\((r=none/\g=none)\/ ∃v j s,r=some v/\g=some (j,s)/\aB β v s)
 |[],a,i,r,c,h=>by
  have:a=[]:=List.eq_nil_of_length_eq_zero c.1.symm;subst this;simp only[oz,Option.some.injEq]at h;exact⟨none,l.nil i,.inl ⟨h.symm,rfl⟩⟩
 |(q,v)::f,[],i,r,c,h=>by have:=c.1;grind
 | (q,v)::f,e::a,i,r,c,h=>by
  obtain⟨d,m⟩:=c.2 0 (q,v) e rfl rfl;dsimp only at d m;simp only[oz]at h;split at h
  ·next n=>
   obtain⟨o,p,_⟩:=rV n;have b:=d.px o;obtain rfl:=oI h;exact⟨some (i,e.val),l.hit e a i (by rw[b];exact p),.inr ⟨v,i,e.val,rfl,rfl,m⟩⟩
  ·next n=>
   obtain⟨o,p,_⟩:=rV n;have b:=d.px o;obtain⟨g,t,u⟩:=IC l f a (i+1) c.VM h;exact⟨g,by rw[l.YK e a i (by rw[b];exact p)];exact t,u⟩
  grind
theorem yR(w:As P kt k Ec R){x z:Value}(B:xJ k=true)(y:aB β x z):∀(n:List (Value×Value))(a:List MapEntry){r:List (Value×Value)},uD β n a->jv P kt k x n=some r->∀i b,
  (∃j e,Ec a i=R (some (i+j,e.val))/\a[j]?=some e/\e.key=k/\uD β r (a.modify j λe=>{ e with key:=k,val:=z }))\/
  (Ec a i=R none/\uD β r (a++[{ key:=k,val:=z,born:=b }]))
 |[],a,r,m,h,i,b=>by
  have:a=[]:=List.eq_nil_of_length_eq_zero m.1.symm;subst this;simp only[jv,Option.some.injEq]at h;subst h;refine .inr ⟨w.nil i,rfl,λj p e g l=>?_⟩
  cases j with
  |zero=>simp at g l;subst g;subst l;exact⟨.Oc B,y⟩
  |succ j=>grind
 |(F,v)::n,[],r,m,h,i,b=>by have:=m.1;grind
 | (F,v)::n,e::a,r,m,h,i,b=>by
  obtain⟨f,o⟩:=m.2 0 (F,v) e rfl rfl;dsimp only at f o;have d:∀{p:Value×Value}{t:MapEntry}{q:List (Value×Value)}{H:List MapEntry},aB β p.1 t.key->aB β p.2 t.val->uD β q H->uD β (p::q) (t::H):=λg l u=>
   ⟨by simp[u.1],λj p e s E=>by
    cases j with
    |zero=>simp at s E;subst s;subst E;exact⟨g,l⟩
    |succ j=>exact u.2 j p e (by simpa using s) (by simpa using E)⟩
  simp only[jv]at h;split at h
  ·next A=>
   obtain⟨C,D,I⟩:=rV A;have c:=f.px C;obtain rfl:=oI h;refine .inl ⟨0,e,w.hit e a i (by rw[c];exact D),rfl,by rw[c,I rfl],?_⟩;simp only[List.modify_zero_cons];exact d (.Oc B) y m.VM
  ·next A=>
   obtain⟨C,D,_⟩:=rV A;have c:=f.px C;obtain⟨K,J,rfl⟩:=map_eq_some_iff.1 h;have G:=w.YK e a i (by rw[c];exact D);rcases yR w B y n a m.VM J (i+1) b with⟨j,t,g,l,u,s⟩|⟨g,l⟩
   ·refine .inl ⟨j+1,t,?_,by simpa using l,u,?_⟩
    ·rw[G,g];congr 3;omega
    ·simp only[List.modify_succ_cons];exact d f o s
   ·exact .inr ⟨G.trans g,d f o l⟩
  grind
end
theorem Bk{kt:TypeId}{k:Value}(g:kW P kt k=true)(w:World)(b:List MapEntry):
  ∃(α:Type)(Ec:List MapEntry->Nat->α)(R:Option (Nat×Value)->α),As P kt k Ec R/\∀c,Ec b 0=R c->(Instr.findKey kt k b).run P w = .ok c w:=by
 rcases PU g with⟨j,a,f,rfl⟩|⟨i,f,d⟩
 ·refine⟨_,_,_,Df w,λc h=>?_⟩
  cases b with
  |nil=>simp_all[aE,Instr.findAsking,Instr.findKey,Instr.findNow]
  |cons e b=>simp_all[aE,Instr.findKey,Instr.findNow,Instr.sameNow]
 ·exact⟨_,_,_,Lm d,λc h=>by simp_all[aE,Instr.findKey]⟩
theorem rn(d:Nat){v:Value}(h:zi v=true):Instr.sameBits d v v=true:=by
 cases v<;>first|(simp[zi]at h;done)|(cases d<;>simp[Instr.sameBits];done)|(cases d<;>(simp only[Instr.sameBits];rw[<-DX];simp))
theorem Dv(h:xJ v=true)(d:Nat):Instr.sameBits (d+1) v v=true:=by
 unfold xJ at h;split at h
 ·next cs=>
  simp only[Instr.sameBits,BEq.rfl,Bool.true_and];rw[all_eq_true]at h⊢;rintro⟨x,y⟩ e;obtain⟨i,c⟩:=List.getElem?_of_mem e;rw[List.getElem?_zip_eq_some]at c;obtain⟨b,a⟩:=c;dsimp only at b a⊢;rw[b]at a;obtain rfl:=oI a;exact rn d (h x (List.mem_of_getElem? b))
 grind[rn]
set_option maxHeartbeats 1000000 in
theorem pF{ρ B:Operand->Value}(D:∀x,aB β (ρ x) (B x)){o:Oper}{v:Value}{h:aa}{w:World}(U:iC β h w)(f:bj P ρ o h=some v):
  ∃G,(execOp B o).run P w = .ok (.value G) w/\aB β v G:=by
 unfold bj at f;unfold execOp;split at f
 ·next t a K=>
  simp only[K];obtain⟨ad,q,G,H,l⟩:=IZ (P:=P) U f (D a);exact⟨G,fB (by simp[Instr.loadAt,q,Instr.sureAddr,H]),l⟩
 ·next t x lo hi mx K=>
  simp only[K];obtain⟨G,H,l⟩:=Rc (P:=P) U f (D x) (kQ.map D lo) (kQ.map D hi) (kQ.map D mx);exact⟨G,fB H,l⟩
 ·next s d x K=>
  simp only[K];have N:=D x;split at f
  ·next e a n c L O J=>
   rw[J]at N;split at f
   ·next q=>
    obtain rfl:=oI f;obtain⟨_,_,S⟩:=N.eQ;refine⟨strOf [],fB ?_,.string _⟩;simp only[convert,run_bind,aE L,aE O,andThen_ok,S,aE q,Conv.bytesToString];rfl
   ·next k i q=>
    split at f
    ·next cs t sz wr hk=>
     split at f
     ·next hl=>
      obtain⟨bs,x5,rfl⟩:=map_eq_some_iff.1 f;refine⟨strOf bs,fB ?_,.string _⟩;have M:=uZ (P:=P) U hk hl x5 N;obtain⟨sl,i',c',_,_,_,S,_⟩:=N.fo;rw[S]at M⊢;simp only[convert,run_bind,aE L,aE O,andThen_ok,aE q];exact M
     ·cases f
    ·cases f
   ·cases f
  ·cases f
 ·next t m k F K=>
  simp only[K];have Y:=D m;have hk:=D k;split at f
  ·next kt e E=>
   split at f
   ·next W z I hz=>
    split at f
    ·next V=>
     have x6:=hk.px (Aa V);have Q:∃g,uD β W g.toList/\((B m = .map none/\g = #[])\/ ∃b A,B m = .map (some b)/\(getObj b).run P w = .ok (.map g A) w):=by
      split at I
      ·next T=>
       obtain rfl:=oI I;rw[T]at Y;exact⟨#[],⟨rfl,λi p e L=>by simp at L⟩,.inl ⟨Y.Bw,rfl⟩⟩
      ·next r T=>
       rw[T]at Y;split at I
       ·next y1 H=>
        obtain rfl:=oI I;obtain⟨sl,M,x3,q⟩:=Y.FY;obtain⟨_,g,A,hw,l⟩:=U.blk _ _ _ H M;exact⟨g,l,.inr ⟨sl.b,A,q,by simp[getObj,Sem.run,hw]⟩⟩
       ·cases I
      ·cases I
     obtain⟨g,l,x2⟩:=Q;have y0:∀{v:Value},(∃r,oz P kt (ρ k) W=some r/\v=match r with|some v=>(if F then .tuple #[v,.bool true]else v)|none=>(if F then .tuple #[z,.bool false]else z))->
       ∃G,(Instr.lookup t (B m) (B k) F).run P w = .ok G w/\aB β v G:=by
      rintro v ⟨r,H,rfl⟩;rw[x6];obtain⟨α,Ec,R,hF,Z⟩:=Bk V w g.toList;obtain⟨r',L,O⟩:=IC hF W g.toList 0 l H;have x7:=Z r' L;have hL:(Instr.lookup t (B m) (ρ k) F).run P w=((do
         Instr.checkKey g.isEmpty 10000 kt (ρ k)
         let(v,x8) <-match <-Instr.findKey kt (ρ k) g.toList with
          |some (_,v)=>pure (v,true)
          |none=>pure (<-zeroValue e,false)
         pure (if F then .tuple #[v,.bool x8]else v)):Sem Value).run P w:=by
       rcases x2 with⟨q,rfl⟩|⟨b,A,q,hg⟩
       ·simp only[Instr.lookup,run_bind,aE E,andThen_ok,q,Sem.run_pure];rfl
       ·simp only[Instr.lookup,run_bind,aE E,andThen_ok,q,hg,Sem.run_pure];rfl
      rw[hL];have x4:=yT V g.isEmpty w;simp only[run_bind,x4,andThen_ok,x7];rcases O with⟨rfl,rfl⟩|⟨u,j,u',rfl,rfl,x1⟩
      ·refine⟨if F then .tuple #[z,.bool false]else z,by simp[mS hz],?_⟩;have x0:aB β z z:= .mK (eu hz).1
       cases F
       ·exact x0
       ·exact Cz x0 (.bool _)
      ·refine⟨if F then .tuple #[u',.bool true]else u',by simp,?_⟩
       cases F
       ·exact x1
       ·exact Cz x1 (.bool _)
     have:∃r,oz P kt (ρ k) W=some r/\v=match r with|some v=>(if F then .tuple #[v,.bool true]else v)|none=>(if F then .tuple #[z,.bool false]else z):=by
      split at f
      ·next u hf=>exact⟨some u,hf,(oI f).symm⟩
      ·next hf=>exact⟨none,hf,(oI f).symm⟩
      ·cases f
     obtain⟨G,L,O⟩:=y0 this;exact⟨G,fB L,O⟩
    ·cases f
   ·cases f
  ·cases f
 ·next X x9 K=>
  simp only[K];split at f
  ·next x t N ht=>
   have C:=D x;have h0:(X.map B)[0]?=some (B x):=by simp[N]
   have Q:∃n,v = .int .i64 n/\(Builtin.len_ x9 o.type (X.map B)).run P w = .ok (.int .i64 n) w:=by
    simp only[Builtin.len_,ht,h0];split at f
    ·next s E J=>
     rw[J]at C;obtain rfl:=oI f;refine⟨_,rfl,?_⟩;simp only[run_bind,aE E,andThen_ok,C.ez,Sem.run_pure,goInt];simp
    ·next n e y E=>
     obtain rfl:=oI f;refine⟨_,rfl,?_⟩;simp only[run_bind,aE E,andThen_ok,Sem.run_pure,goInt]
    ·next e a n c E J=>
     rw[J]at C;obtain rfl:=oI f;refine⟨_,rfl,?_⟩
     cases a with
     |none=>obtain⟨rfl,rfl,q⟩:=C.eQ;simp only[run_bind,aE E,andThen_ok,q,Sem.run_pure,goInt]
     |some a=>obtain⟨a',c',q⟩:=C.IT;simp only[run_bind,aE E,andThen_ok,q,Sem.run_pure,goInt]
    ·next kt e E J=>
     rw[J]at C;obtain rfl:=oI f;refine⟨_,rfl,?_⟩;simp only[run_bind,aE E,andThen_ok,C.Bw,Sem.run_pure,goInt]
    ·next kt e r E J=>
     rw[J]at C;split at f
     ·next W H=>
      obtain rfl:=oI f;refine⟨_,rfl,?_⟩;obtain⟨sl,M,x3,q⟩:=C.FY;obtain⟨_,g,A,hw,l⟩:=U.blk _ _ _ H M;have hg:(getObj sl.b).run P w = .ok (.map g A) w:=by simp[getObj,Sem.run,hw]
      simp only[run_bind,aE E,andThen_ok,q,hg,Sem.run_pure,goInt];rw[l.1];simp
     ·cases f
    ·cases f
   obtain⟨n,rfl,H⟩:=Q;refine⟨.int .i64 n,?_,.int _ _⟩;simp only[resolve,run_bind,Sem.run_pure,andThen_ok,invoke,builtin,H]
  ·cases f
 grind
end
variable{g:aa}
section
variable {β:cI} {P:Program}
def Wr(β:cI)(h:aa)(b:Nat):Prop:=∃k B a,h.get k=some B/\B.wr=true/\β k=some a/\a.b=b
def mw(w a:World):Prop:=a.tape=w.tape/\w.drawn<=a.drawn
theorem mw.refl(w:World):mw w w:=⟨rfl,Nat.le_refl _⟩
theorem mw.trans{b a:World}(h:mw W b)(c:mw b a):mw W a:=⟨c.1.trans h.1,Nat.le_trans h.2 c.2⟩
structure Step(β:cI)(h:aa)(w:World)(β':cI)(h':aa)(w':World):Prop where
 le:β.le β'
 next:h.next<=h'.next
 na:iC β' h' w'
 size:w.heap.size<=w'.heap.size
 os:w'.os=w.os
 tape:mw w w'
 output:w'.output=w.output
 kept:∀b,b<w.heap.size->¬Wr β h b->w'.heap[b]?=w.heap[b]?
 back:∀b,b<w.heap.size->Wr β' h' b->Wr β h b
 fresh:∀k sl,β' k=some sl->β k=some sl\/(h.next<=k/\(w.heap.size<=sl.b\/Wr β h sl.b))
 keys:∀k B,h'.get k=some B->k<h.next->∃B₀,h.get k=some B₀
theorem Step.refl(a:iC β h W):Step β h W β h W:=
 ⟨β.le_refl,Nat.le_refl _,a,Nat.le_refl _,rfl,.refl _,rfl,λ_ _ _=>rfl,λ_ _ h=>h,λ_ _ h=> .inl h,λ_ B h _=>⟨B,h⟩⟩
theorem Step.trans{d:cI}{e:aa}{l j:World}(a:Step β h W J g l)(b:Step J g l d e j):Step β h W d e j where
 le:=cI.le_trans a.le b.le
 next:=Nat.le_trans a.next b.next
 na:=b.na
 size:=Nat.le_trans a.size b.size
 os:=b.os.trans a.os
 tape:=a.tape.trans b.tape
 output:=b.output.trans a.output
 kept:=λk c q=>(b.kept k (lt_of_lt_of_le c a.size) λp=>q (a.back k c p)).trans (a.kept k c q)
 back:=λk c p=>a.back k c (b.back k (lt_of_lt_of_le c a.size) p)
 fresh:=λk o c=>by
  rcases b.fresh k o c with f|⟨f,i⟩
  ·exact a.fresh k o f
  ·refine .inr ⟨Nat.le_trans a.next f,?_⟩;rcases i with i|i
   ·exact .inl (Nat.le_trans a.size i)
   ·rcases Nat.lt_or_ge o.b W.heap.size with r|r
    ·exact .inr (a.back _ r i)
    omega
 keys:=λk B c m=>by
  obtain⟨n,f⟩:=b.keys k B c (lt_of_lt_of_le m a.next);exact a.keys k n f m
theorem iC.of_heap{c:World}(a:iC β h W)(d:c.heap=W.heap):iC β h c:=
 ⟨λk b g=>by rw[d];exact a.lt k b g,λk B b e f=>(a.blk k B b e f).of_heap (by rw[d]),a.own,a.wf⟩
theorem Step.of_heap{a:World}(d:iC β h W)(b:a.heap=W.heap)(e:a.os=W.os)(f:mw W a)(c:a.output=W.output):Step β h W β h a:=
 ⟨β.le_refl,Nat.le_refl _,d.of_heap b,by grind,e,f,c,λ_ _ _=>by rw[b],λ_ _ h=>h,λ_ _ h=> .inl h,λ_ B h _=>⟨B,h⟩⟩
def cI.ext(β:cI)(k:Nat)(a:Slot):cI:=λj=>if j=k then some a else β j
theorem cI.ca(β:cI)(k:Nat)(a:Slot):β.ext k a k=some a:=by simp[cI.ext]
theorem cI.dz(β:cI){k j:Nat}(a:Slot)(h:j≠k):β.ext k a j=β j:=by simp[cI.ext,h]
theorem cI.BD(a:Slot)(h:β k=none):β.le (β.ext k a):=λj c b=>by
 rw[β.dz a (by rintro rfl;rw[h]at b;cases b)];omega
theorem iC.jT(b:iC β h W){k:Nat}(d:h.next<=k):β k=none:=by
 cases a:β k with
 |none=>rfl
 |some c=>exact absurd (b.lt k c a).1 (by omega)
structure oQ(β:cI)(w:World)(B:bu)(f:Nat->Value)(v':Value)(w':World):Prop where
 size:w'.heap.size=w.heap.size+1
 os:w'.os=w.os
 tape:mw w w'
 output:w'.output=w.output
 kept:∀b,b<w.heap.size->w'.heap[b]?=w.heap[b]?
 new:∃sl:Slot,sl.b=w.heap.size/\∀(β':cI)(k:Nat),β.le β'->β' k=some sl->zw β' B sl w'/\aB β' (f k) v'
theorem aa.l5(c:∀k B,h.get k=some B->k<h.next)(B:bu):∀k b,(h.push B).get k=some b->k<(h.push B).next:=λk b a=>by
 rw[h.aN]at a;split at a
 ·simp_all
 ·have:=c k b a;simp;omega
theorem aa.wf_set(c:∀k B,h.get k=some B->k<h.next){j:Nat}(B:bu)(d:j<h.next):∀k b,(h.set j B).get k=some b->k<(h.set j B).next:=λk b a=>by
 rw[h.ay]at a;split at a
 all_goals simp_all
theorem aa.Ni(c:∀k B,h.get k=some B->k<h.next)(j:Nat):∀k a,(h.del j).get k=some a->k<(h.del j).next:=λk a b=>by
 rw[h.dt]at b
 simp_all
theorem oQ.step{A:World}(o:iC β h W){B:bu}{f:Nat->Value}{D:Value}(l:oQ β W B f D A):
  ∃u,Step β h W u (h.push B) A/\aB u (f h.next) D:=by
 obtain⟨e,E,x⟩:=l.new;have s:=o.jT (Nat.le_refl h.next);have r:β.le (β.ext h.next e):=cI.BD e s;obtain⟨I,G⟩:=x _ h.next r (β.ca _ _);have z:∀k a,β k=some a->a.b<W.heap.size:=λk a d=>(o.lt k a d).2;have y:∀b,b<W.heap.size->Wr (β.ext h.next e) (h.push B) b->Wr β h b:=by
  rintro b t ⟨k,p,a,i,g,j,m⟩;by_cases d:k=h.next
  ·subst d;rw[β.ca]at j
   grind
  ·rw[h.gX k B d]at i;rw[β.dz e d]at j;exact⟨k,p,a,i,g,j,m⟩
 refine⟨β.ext h.next e,⟨r,by simp,⟨?_,?_,?_,aa.l5 o.wf B⟩,by rw[l.size];omega,l.os,l.tape,l.output,λb t _=>l.kept b t,y,?_,?_⟩,G⟩
 ·intro k a d;by_cases c:k=h.next
  ·subst c;rw[β.ca]at d;obtain rfl:=oI d;exact⟨by simp,by rw[l.size,E];omega⟩
  ·rw[β.dz e c]at d;have:=o.lt k a d;exact⟨by simp;omega,by rw[l.size];omega⟩
 ·intro k p a i g;by_cases c:k=h.next
  ·subst c;rw[β.ca]at g;obtain rfl:=oI g;rw[h.gb]at i
   grind
  ·rw[h.gX k B c]at i;rw[β.dz e c]at g;exact((o.blk k p a i g).mono r).of_heap (l.kept _ (z k a g))
 ·intro k v p C a w q i g j m H;by_cases c:k=h.next
  ·subst c;rw[β.ca]at j;obtain rfl:=oI j;rw[β.dz e (Ne.symm q)]at m
   grind
  ·by_cases n:v=h.next
   ·subst n;rw[β.ca]at m;obtain rfl:=oI m;rw[β.dz e q]at j
    grind
   ·rw[h.gX k B c]at i;rw[h.gX v B n]at g;rw[β.dz e c]at j;rw[β.dz e n]at m;exact o.own k v p C a w q i g j m H
 ·intro k a d;by_cases c:k=h.next
  ·subst c;rw[β.ca]at d
   grind
  ·rw[β.dz e c]at d
   grind
 ·intro k p d F;rw[h.gX k B (by omega)]at d
  grind
theorem ff.YT{cs:List Value}{l':List Value}(h:aU β cs l'):ff β cs 0 l'.toArray:=λi v a=>by
 obtain⟨d,b,c⟩:=h.get a
 grind
theorem Ee(n:Nat):Tm (0,0) n:=λx _ h=>absurd h (by simp)
theorem iE{w:World}(o:Obj):(w.alloc o).heap[w.heap.size]?=some o:=by
 unfold World.alloc;grind
theorem kA{w:World}(o:Obj){b:Nat}(h:b<w.heap.size):(w.alloc o).heap[b]?=w.heap[b]?:=by
 simp only[World.alloc,getElem?_push]
 grind
theorem oW{cs l':List Value}{t:TypeId}{f:Nat->Value}(h:aU β cs l')
  (g:∀(a:cI)(k:Nat)(c:Slot),a k=some c->c.b=W.heap.size->c.s=0->c.n=l'.length->c.sz=n->c.isMap=false->aB a (f k) v):
  oQ β W (.cells cs t n true) f v (W.alloc (.cells l'.toArray t)) where
 size:=by simp
 os:=rfl
 tape:= .refl _
 output:=rfl
 kept:=λb e=>kA _ e
 new:=⟨⟨W.heap.size,0,l'.length,t,n,false⟩,rfl,λa k d i=>
  ⟨⟨rfl,rfl,⟨rfl,λ_=>rfl⟩,l'.toArray,(0,0),iE _,by simp,ff.YT (h.mono d),λ_=>Ee _⟩,g a k _ i rfl rfl rfl rfl rfl⟩⟩
theorem aU.pL{z:Value}(h:plain z=true):aU β z.cells.toList z.cells.toList:=gN.toList.1 (gN.qY h)
theorem nP{l l':List Value}(h:aU β l l'):∀n,aU β (bO l n) (bO l' n)
 |0=> .nil β
 |n+1=>h.append (nP h n)
theorem ib(l:List Value):∀n,(bO l n).length=n*l.length
 |0=>by simp[bO]
 |n+1=>by simp[bO,ib l n,add_mul,Nat.add_comm]
theorem zu(l:List Value):∀(n i:Nat),i<n*l.length->(bO l n)[i]?=l[i%l.length]?
 |0,i,h=>by omega
 | n+1,i,h=>by
  have b:0<l.length:=by
   rcases Nat.eq_zero_or_pos l.length with a|a
   ·grind
   ·omega
  simp only[bO];by_cases c:i<l.length
  ·grind[Nat.mod_eq_of_lt]
  ·rw[getElem?_append_right (by omega),zu l n (i-l.length) (by rw[add_mul]at h;omega)]
   grind[Nat.mod_eq_sub_mod]
theorem uA(z:Array Value)(n:Nat)(a:0<z.size):((Array.range (n*z.size)).map (λi=>z[i%z.size]!))=(bO z.toList n).toArray:=by
 apply Array.ext';apply List.ext_getElem?
 grind[zu,ib]
end
section
variable {β:cI} {P:Program}
theorem hI(e:TypeId)(cs:Array Value)(w:World):(newRow e cs).run P w = .ok ⟨w.heap.size,0,none⟩ (w.alloc (.cells cs e)):=by rfl
theorem Og(h:J k=some G)(b:G.b=W.heap.size)(c:G.s=0)(a:G.isMap=false):aB J (.pointer (some ⟨k,0,none⟩)) (.pointer (some ⟨W.heap.size,0,none⟩)):=by
 have:=aB.ptr (i:=0) h a
 grind
theorem sf{w:World}{c:Nat}(h:J k=some G)(j:G.b=w.heap.size)(d:G.s=0)(b:G.isMap=false)(e:c<cj->m=c)(f:cj<=c->c-cj<=m)(a:n<=aW c)
  (g:G.sz=0\/m*G.sz<=G.n):aB J (.slice (some ⟨k,0,none⟩) n c) (.slice (some ⟨w.heap.size,0,none⟩) n m):=by
 have:=aB.slice (i:=0) (i':=0) h b e f a (.inl (by rw[d])) (by simpa using g)
 grind
theorem AV{c:Nat}(h:c<cj):aW c=c:=by simp_all[if_neg,aW]
theorem cw(c:Nat):aW (cj+c)=c:=by simp_all[aW]
theorem zU:cj=36893488147419103232:=rfl
def frz(a:Addr)(n:Nat):Obj->Obj
 |.cells c b (e,d)=> .cells c b (if e==d then(a.off,a.off+n)else(min e a.off,max d (a.off+n)))
 |o=>o
theorem nE(w:World)(a:Addr){n:Nat}(c:n≠0)(b:Nat):(w.freeze a n).heap[b]?=if a.block=b then(w.heap[b]?).map (frz a n)else w.heap[b]?:=by
 unfold World.freeze;rw[if_neg c];simp only[Array.getElem?_modify];rfl
theorem yQ(w:World)(a:Addr)(n:Nat):(w.freeze a n).heap.size=w.heap.size:=by grind[World.freeze]
theorem qN(w:World)(a:Addr)(n:Nat):(w.freeze a n).os=w.os/\mw w (w.freeze a n)/\(w.freeze a n).output=w.output:=by
 unfold World.freeze;split<;>exact⟨rfl,.refl _,rfl⟩
theorem Bn(b:Nat):∀(q:List (Value×Nat))(a:Array Value),(q.foldl (λcs (c,j)=>cs.setIfInBounds (b+j) c) a).size=a.size
 |[],_=>rfl
 |c::q,a=>by simp only[List.foldl_cons];rw[Bn b q];simp
theorem Ea(b:Nat->Option (Nat×Nat)):∀(l:List (Nat×Value))(a r:Array Value),Instr.fill b a l=some r->r.size=a.size
 |[],a,r,h=>by grind[Instr.fill]
 | (i,v)::l,a,r,h=>by
  simp only[Instr.fill]at h;split at h
  ·cases h
  ·split at h
   ·cases h
   ·rw[Ea b l _ _ h,<-Array.foldl_toList];simp[Bn]
theorem rh(f:Nat->Value)(n:Nat)(h:n=0):(Array.range n).map f = #[]:=by grind
set_option maxHeartbeats 1000000 in
theorem nJ{ρ A:Operand->Value}(I:∀x,aB β (ρ x) (A x)){o:Oper}{B:bu}{f:Nat->Value}{w:World}(a:aT P ρ o=some (B,f)):
  ∃v' J,(execOp A o).run P w = .ok (.value v') J/\oQ β w B f v' J:=by
 unfold aT at a;unfold execOp;split at a
 ·next t C=>
  simp only[C];split at a
  ·next z M=>
   split at a
   ·next W=>
    simp only[Option.some.injEq,Prod.mk.injEq]at a;obtain⟨rfl,rfl⟩:=a;refine⟨_,_,fB (v:= .pointer (some ⟨w.heap.size,0,none⟩)) (w':=w.alloc (.cells z.cells.toList.toArray t)) ?_,oW (aU.pL (eu M).1) λL k sl y F Y h4 h5 T=>Og y F Y T⟩;simp[Instr.alloc,mS M,newVar,hI]
   ·cases a
  ·cases a
 ·next t x C=>
  simp only[C];split at a
  ·next W=>
   simp only[Option.some.injEq,Prod.mk.injEq]at a;obtain⟨rfl,rfl⟩:=a;have Z:=I x;have hj:ρ x≠Ab.fs:=by
    intro e;rw[e]at W
    cases W
   have hc:=Z.cells hj;refine⟨_,_,fB (v:= .pointer (some ⟨w.heap.size,0,none⟩)) (w':=w.alloc (.cells (A x).cells.toList.toArray t)) ?_,oW (gN.toList.1 hc) λL k sl y F Y h4 h5 T=>Og y F Y T⟩;simp[Instr.box,newVar,hI]
  ·cases a
 ·next t g u C=>
  simp only[C];split at a
  ·next e hu=>
   split at a
   ·next Q z U M=>
    split at a
    ·next hc=>
     obtain⟨H,S,y9⟩:=hc;split at a
     ·next cs D=>
      split at D
      ·next hj=>
       split at a
       ·next W=>
        simp only[Option.some.injEq,Prod.mk.injEq]at a;obtain⟨rfl,rfl⟩:=a;have R:gN β (bO z.cells.toList g).toArray (bO z.cells.toList g).toArray:=gN.toList.2 (by simpa using nP (aU.pL (eu M).1) g);have y4:zD β (u.toList.map λp=>(p.1,ρ p.2)) (u.toList.map λp=>(p.1,A p.2)):=zD.map u.toList (·.1) λp _=>I p.2;obtain⟨x0,hf,hr⟩:=vy _ _ _ _ _ _ y4 (by
         intro p hp;simp only[List.mem_map]at hp;obtain⟨q,hq,rfl⟩:=hp;exact all_eq_true.1 hj q hq) R D
        have x4:x0.size=g*Q:=by
         rw[Ea _ _ _ _ hf];simp[ib,H]
        refine⟨_,_,fB (v:= .slice (some ⟨w.heap.size,0,none⟩) g g) (w':=w.alloc (.cells x0.toList.toArray e)) ?_,oW (gN.toList.1 hr) λL k sl y F Y h4 h5 T=>
         sf y F Y T (λ_=>rfl) (λh=>absurd h (by rw[zU];have:g<=g*Q:=Nat.le_mul_of_pos_right _ S;omega))
          (by rw[AV (by rw[zU];have:g<=g*Q:=Nat.le_mul_of_pos_right _ S;omega)];exact Nat.le_refl _) (.inr (by rw[h5,h4];simp[x4]))⟩
        have he:(u.map λ(i,x)=>(i,A x)).toList=(u.toList.map λp=>(p.1,A p.2)):=by simp
        have V:((Array.range (g*Q)).map (z.cells[· % z.cells.size]!))=(bO z.cells.toList g).toArray:=by
         rw[<-H];exact uA z.cells g (by omega)
        simp only[Instr.buildSlice,run_bind,aE hu,andThen_ok,dd U,run_ite];rw[if_neg (by omega)];by_cases x1:g*Q=0
        ·rw[if_pos x1];have:g=0:=by rcases Nat.mul_eq_zero.1 x1 with h|h;exact h;omega
         subst this;simp only[bO]at hf;simp only[Sem.run_pure,andThen_ok,he];rw[rh _ _ (by simp)];have y7:Instr.fill (λi=>some (i*Q,Q)) #[] (u.toList.map λp=>(p.1,A p.2))=some x0:=hf;rw[y7];simp[hI]
        ·rw[if_neg x1];simp only[run_bind,mS M,Sem.run_pure,andThen_ok,V,he,hf];simp[hI]
       ·cases a
      ·cases D
     ·cases a
    ·cases a
   ·cases a
  ·cases a
 ·next t l c C=>
  simp only[C];have hl:=I l;have hc:=I c;split at a
  ·next e l0 G hu y5 y2=>
   rw[y5]at hl;rw[y2]at hc;split at a
   ·next i z hi M=>
    split at a
    ·next x3=>
     obtain⟨H,S,h0,y,F,Y⟩:=x3;simp only[Option.some.injEq,Prod.mk.injEq]at a;obtain⟨rfl,rfl⟩:=a;have R:aU β (bO z.cells.toList G.toNat) (bO z.cells.toList G.toNat):=nP (aU.pL (eu M).1) _;have U:au P e=some i.size:=by simp[au,hi]
     refine⟨_,_,fB (v:= .slice (some ⟨w.heap.size,0,none⟩) l0.toNat G.toNat) (w':=w.alloc (.cells (bO z.cells.toList G.toNat).toArray e)) ?_,oW R λL k sl y0 x9 y1 h4 h5 T=>
      sf y0 x9 y1 T (λ_=>rfl) (λh=>absurd h (by rw[zU];omega)) (by rw[AV (by rw[zU];omega)];omega) (.inr (by rw[h5,h4,ib];simp[H]))⟩
     have y3:IntKind.i64.wrap l0=l0:=by rw[wrap_i64];omega
     have x8:IntKind.i64.wrap G=G:=by rw[wrap_i64];omega
     simp only[Instr.makeSlice,run_bind,aE hu,andThen_ok,hl.cV,hc.cV,asInt,asIntOf,Sem.run_pure,rm hi,y3,x8,run_ite];have z0:(i.bytes:Int)*G<=140737488355328:=by rw[Int.mul_comm];exact F
     rw[if_neg (by simp;omega)];simp only[run_askRoom,andThen_ok,dd U];by_cases X:G.toNat*i.size=0
     ·rw[if_pos X];have:G.toNat=0:=by rcases Nat.mul_eq_zero.1 X with h|h;exact h;omega
      rw[rh _ _ X,hI,this];rfl
     ·rw[if_neg X];have V:=uA z.cells G.toNat (by omega);rw[H]at V;simp only[mS M,andThen_ok,H];rw[V,hI];rfl
    ·cases a
   ·cases a
  ·cases a
 ·next t r C=>
  simp only[C];have K:∀v',v'=Value.map (some w.heap.size)->oQ β w (.map []) (λk=> .map (some k)) v' (w.alloc (.map #[] 0)):=λv' he=>
   {
    size:=by simp,os:=rfl,tape:= .refl _,output:=rfl,kept:=λb N=>kA _ N
    new:=⟨⟨w.heap.size,0,0,0,0,true⟩,rfl,λL k _ hk=>⟨⟨rfl,#[],0,iE _,rfl,λi p e h=>by simp at h⟩,by rw[he];exact .map (sl:=⟨w.heap.size,0,0,0,0,true⟩) hk rfl⟩⟩ }
  split at a
  ·next kt e hu=>
   split at a
   ·simp only[Option.some.injEq,Prod.mk.injEq]at a;obtain⟨rfl,rfl⟩:=a;refine⟨_,_,fB (v:= .map (some w.heap.size)) (w':=w.alloc (.map #[] 0)) ?_,K _ rfl⟩;simp[Instr.makeMap]
   ·next x=>
    split at a
    ·next k n Z=>
     have x5:=I x;rw[Z]at x5;simp only[Option.some.injEq,Prod.mk.injEq]at a;obtain⟨rfl,rfl⟩:=a;refine⟨_,_,fB (v:= .map (some w.heap.size)) (w':=w.alloc (.map #[] 0)) ?_,K _ rfl⟩;simp[Instr.makeMap,aE hu,x5.cV,asInt,asIntOf]
    ·cases a
  ·cases a
 ·next s d x C=>
  simp only[C];have Z:=I x;split at a
  ·next ds e E y F ha=>
   rw[ha]at Z;split at a
   ·next he=>
    split at a
    ·next U=>
     simp only[Option.some.injEq,Prod.mk.injEq]at a;obtain⟨rfl,rfl⟩:=a;have x6:(Question.appendCap E.size 0 e).forced=false:=rfl;obtain⟨m,x7,z1⟩:∃m,(Question.appendCap E.size 0 e).cut (w.tape w.drawn (.appendCap E.size 0 e))=m/\E.size<=m:=⟨_,rfl,by simp[Question.cut]⟩
     let j:Array Value:=(E.data.map λb=>Value.int .u8 b.toNat)++Array.replicate (m-E.size) (.int .u8 0)
     have D:j.size=m:=by simp[j];omega
     let O:World:=w.drew.alloc (.cells j e)
     let w2:World:=O.freeze ⟨w.heap.size,m,none⟩ 1
     have K:w2.heap[w.heap.size]?=some (.cells j e (m,m+1)):=by
      have y:O.heap[w.heap.size]?=some (.cells j e):=iE (w:=w.drew) _;simp only[w2,nE _ _ (Nat.succ_ne_zero 0),if_true,y,map_some,frz,BEq.rfl]
     refine⟨_,w2,fB (v:= .slice (some ⟨w.heap.size,0,none⟩) E.size m) (w':=w2) ?_,?_⟩
     ·have y6:O.shape? w.heap.size=some (e,m):=by
       have y:O.heap[w.heap.size]?=some (.cells j e):=iE (w:=w.drew) _;simp[World.shape?,y,D]
      have x2:(convert s d (A x)).run P w=(Conv.stringToBytes e E).run P w:=by
       rw[Z.ez];simp only[convert,run_bind,aE y,aE F,andThen_ok]
       cases ds<;>simp only[aE he,andThen_ok]
      rw[x2];simp only[Conv.stringToBytes,run_bind,run_choose,x6,false_eq_true,if_false,andThen_ok,x7,hI];show(Sem.run P (markStringish ⟨w.heap.size,0,none⟩) O).andThen _=_;simp only[markStringish,run_bind,run_shape,y6,andThen_ok,run_freeze,Sem.run_pure];rfl
     ·refine{ size:= ?_,os:=rfl,tape:=⟨rfl,Nat.le_succ _⟩,output:=rfl,kept:= ?_,new:=⟨⟨w.heap.size,0,m,e,1,false⟩,rfl,?_⟩ }
      ·simp[w2,O,yQ]
      ·intro b N;have:O.heap[b]?=w.heap[b]?:=kA (w:=w.drew) _ N;simp only[w2,nE _ _ (Nat.succ_ne_zero 0)];rw[if_neg (by omega)];exact this
      ·intro L k y8 hk;refine⟨⟨rfl,rfl,⟨rfl,λ_=>rfl⟩,j,(m,m+1),K,D,?_,λ_ x y F=>by rw[D];exact y⟩,?_⟩
       ·intro i v a;simp only[List.getElem?_map,map_eq_some_iff]at a;obtain⟨b,N,rfl⟩:=a;refine⟨_,?_,.int _ _⟩;have hi:i<E.data.size:=by
         have:=(List.getElem?_eq_some_iff.1 N).1;simpa using this
        simp only[j,Nat.zero_add];rw[Array.getElem?_append_left (by simpa using hi)];rw[getElem?_toList]at N;simp[N]
       ·have:E.data.toList.length=E.size:=by simp
        rw[this];exact sf (w:=w) hk rfl rfl rfl (λh=>absurd h (by omega)) (λ_=>by omega) (by rw[cw];exact Nat.le_refl _) (.inr (by simp))
    ·cases a
   ·cases a
  ·cases a
 grind
end
variable{d:List Value}
section
variable {β:cI} {P:Program}
structure At(w w':World)(b:Nat):Prop where
 size:w'.heap.size=w.heap.size
 os:w'.os=w.os
 tape:mw w w'
 output:w'.output=w.output
 kept:∀b',b'≠b->w'.heap[b']?=w.heap[b']?
theorem At.refl(w:World)(b:Nat):At w w b:=⟨rfl,rfl,.refl _,rfl,λ_ _=>rfl⟩
theorem At.trans{d c:World}{b:Nat}(h:At W d b)(a:At d c b):At W c b:=
 ⟨a.size.trans h.size,a.os.trans h.os,h.tape.trans a.tape,a.output.trans h.output,λf e=>(a.kept f e).trans (h.kept f e)⟩
theorem Step.at_{v:World}(o:iC β h W){k:Nat}{f B:bu}{m:Slot}(z:h.get k=some f)(u:β k=some m)(y:f.wr=true)(n:At W v m.b)(G:zw β B m v):Step β h W β (h.set k B) v:=by
 have A:∀a l d,a≠k->h.get a=some l->β a=some d->d.b≠m.b:=λa l d c e g=>(o.own k a f l m d (Ne.symm c) z e u g y).symm;refine⟨β.le_refl,Nat.le_refl _,⟨?_,?_,?_,aa.wf_set o.wf B (o.lt k m u).1⟩,by rw[n.size];omega,n.os,n.tape,n.output,?_,?_,λ_ _ h=> .inl h,?_⟩
 ·intro a d e;rw[n.size];exact o.lt a d e
 ·intro a l d e g;by_cases c:a=k
  ·subst c;rw[h.db]at e
   grind
  ·rw[h.bW k a B c]at e;exact(o.blk a l d e g).of_heap (n.kept _ (A a l d c e g))
 ·intro i j w x s q c e g p r F;by_cases t:i=k
  ·subst t;rw[h.bW i j B (Ne.symm c)]at g
   grind
  ·rw[h.bW k i B t]at e;by_cases C:j=k
   ·grind
   ·rw[h.bW k j B C]at g;exact o.own i j w x s q c e g p r F
 ·intro b D E;refine n.kept b ?_;rintro rfl;exact E ⟨k,f,m,z,y,u,rfl⟩
 ·rintro b D ⟨a,l,d,e,g,p,r⟩;by_cases c:a=k
  ·subst c;exact⟨a,f,d,z,y,p,r⟩
  ·rw[h.bW k a B c]at e;exact⟨a,l,d,e,g,p,r⟩
 ·intro a l e g;by_cases c:a=k
  ·grind
  ·rw[h.bW k a B c]at e;grind
def iZ(a:Array Value)(o:Nat)(b:List Value):Array Value:=(a.toList.take o++b++a.toList.drop (o+b.length)).toArray
theorem MJ(a:Array Value)(o:Nat):iZ a o []=a:=by grind[iZ]
theorem rz{o:Nat}(h:o+c.length<=V.size):(iZ V o c).size=V.size:=by grind[iZ]
theorem J0{o:Nat}(h:o+(c.length+1)<=V.size):iZ (V.setIfInBounds o v) (o+1) c=iZ V o (v::c):=by
 have a:o<V.toList.length:=by simp;omega
 have b:(V.toList.set o v).take (o+1)=V.toList.take o++[v]:=by
  rw[List.take_succ_eq_append_getElem (by simpa using a),List.take_set_of_le (Nat.le_refl _)];simp
 have d:(V.toList.set o v).drop (o+1+c.length)=V.toList.drop (o+(c.length+1)):=by
  rw[List.drop_set_of_lt (by omega)];congr 1;omega
 simp_all[iZ]
theorem MD(w:World){b o:Nat}{a:Array Value}{t:TypeId}{c:Nat×Nat}(v:Value)(e:w.heap[b]?=some (.cells a t c)):
  At w (w.setCell ⟨b,o,none⟩ v) b/\(w.setCell ⟨b,o,none⟩ v).heap[b]?=some (.cells (a.setIfInBounds o v) t c):=by
 refine⟨⟨by simp[World.setCell],rfl,⟨rfl,Nat.le_refl _⟩,rfl,λf d=>?_⟩,?_⟩
 all_goals simp_all[Array.getElem?_modify,Ne.symm,World.setCell]
theorem pN(b o:Nat)(t:TypeId)(e:Nat×Nat):∀(c:List Value)(i:Nat)(a:Array Value)(w:World),w.heap[b]?=some (.cells a t e)->Tm e a.size->o+i+c.length<=a.size->
  (∀v∈c,v.oneCell'=true)->∃d,(storeCells ⟨b,o,none⟩ c i).run P w = .ok () d/\At w d b/\d.heap[b]?=some (.cells (iZ a (o+i) c) t e)
 |[],i,a,w,f,_,_,_=>⟨w,rfl,At.refl w b,by grind[MJ]⟩
 | v::c,i,a,w,f,h,p,j=>by
  simp only[List.length_cons]at p;have s:w.cell? ⟨b,o+i,none⟩=some a[o+i]:=by rw[lL f];exact getElem?_eq_getElem (by omega)
  have m:w.frozen? ⟨b,o+i,none⟩=false:=by
   simp only[World.frozen?,f];rw[Bool.and_eq_false_iff];by_cases k:e.1<=o+i
   ·right;simp only[decide_eq_false_iff_not];intro n;have:=h _ k n;omega
   ·left;simpa using k
  have x:(store ((⟨b,o,none⟩:Addr).add i) v).run P w = .ok () (w.setCell ⟨b,o+i,none⟩ v):=by
   rw[cF,run_store P w _ v .plain (j v List.mem_cons_self),s];simp[m]
  obtain⟨r,g⟩:=MD w (o:=o+i) v f;obtain⟨d,z,l,y⟩:=pN b o t e c (i+1) _ _ g (by simpa using h) (by simp;omega) λu q=>j u (List.mem_cons_of_mem _ q);refine⟨d,?_,r.trans l,?_⟩
  all_goals grind[run_bind,andThen_ok,J0,storeCells]
theorem aU.scalars{l l':List Value}(h:aU β l l')(d:l.all bw=true):∀v∈l',v.oneCell'=true:=λv c=>by
 obtain⟨i,b,rfl⟩:=List.mem_iff_getElem.1 c;have a:i<l.length:=h.1▸b;exact((h.2 i _ _ (gE a) (gE b)).Mx (all_eq_true.1 d _ (List.getElem_mem a))).1
theorem ff.iZ{cs:List Value}{s:Nat}(h:ff β cs s V)(f:aU β c d)(m:i+c.length<=cs.length)(l:s+i+c.length<=V.size):
  ff β (cs.take i++c++cs.drop (i+c.length)) s (Ab.iZ V (s+i) d):=by
 have k:d.length=c.length:=f.1.symm;intro j v a;have g:∀j,(Ab.iZ V (s+i) d)[s+j]?=if j<i then V[s+j]? else if j<i+c.length then d[j-i]? else V[s+j]?:=by
  intro j;simp only[Ab.iZ,List.getElem?_toArray];by_cases b:j<i
  ·grind
  ·rw[if_neg b];by_cases e:j<i+c.length
   ·rw[if_pos e,getElem?_append_left (by simp;omega),getElem?_append_right (by simp;omega)]
    grind
   ·rw[if_neg e,getElem?_append_right (by simp;omega),getElem?_drop,getElem?_toList]
    grind
 rw[g];by_cases b:j<i
 ·rw[if_pos b];rw[List.append_assoc,getElem?_append_left (by grind),getElem?_take,if_pos b]at a;exact h j v a
 ·rw[if_neg b];by_cases e:j<i+c.length
  ·rw[if_pos e];rw[getElem?_append_left (by grind),getElem?_append_right (by grind)]at a;have:j-(cs.take i).length=j-i:=by simp;omega
   rw[this]at a;exact f.get a
  ·rw[if_neg e];rw[getElem?_append_right (by grind),getElem?_drop]at a;have:i+c.length+(j-(cs.take i++c).length)=j:=by simp;omega
   rw[this]at a;exact h j v a
theorem sh(o:iC β h W){k i:Nat}{c:Slot}{d f:List Value}{u:bp}(b:storeAt h k i d=some u)(n:β k=some c)(e:aU β d f):
  ∃m,(storeCells ⟨c.b,c.s+i,none⟩ f).run P W = .ok () m/\Step β h W β (u.app h) m:=by
 unfold storeAt at b;split at b
 ·next cs t H q=>
  split at b
  ·next G=>
   obtain⟨A,z⟩:=G;obtain rfl:=oI b;obtain⟨s,y,x,g,p,v,r,a,j⟩:=o.blk k _ c q n;by_cases w:d=[]
   ·subst w;have:=e.dL;subst this;refine⟨W,rfl,Step.at_ o q n rfl (At.refl W _) ?_⟩;simp only[List.append_nil,List.length_nil,Nat.add_zero,List.take_append_drop];exact⟨s,y,x,g,p,v,r,a,j⟩
   ·have D:0<d.length:=List.length_pos_iff.2 w;have l:c.s+i+d.length<=g.size:=by
     obtain⟨I,C,_⟩:=a (i+d.length-1) _ (gE (by omega));have:=(Array.getElem?_eq_some_iff.1 C).1;omega
    obtain⟨m,F,E,B⟩:=pN (P:=P) c.b (c.s+i) t p f 0 g W v (j rfl) (by rw[<-e.1];omega) (e.scalars z);refine⟨m,F,Step.at_ o q n rfl E ⟨s,y,x,_,p,B,?_,a.iZ e A l,λ_=>?_⟩⟩
    ·rw[rz (by rw[<-e.1];omega)];exact r
    ·rw[rz (by rw[<-e.1];omega)];exact j rfl
  ·cases b
 grind
end
section
variable {β:cI} {P:Program}
theorem GR{i:TypeInfo}(h:dC P T=some i):P.info? T=some i/\0<i.size/\∃z,i.zero=some z/\z.cells.size=i.size/\zeroOf P T=some z:=by
 unfold dC at h;split at h
 ·next f z b c=>
  split at h
  ·next e=>
   obtain rfl:=oI h;obtain⟨_,j,d,a⟩:=eu c;rw[b]at d;obtain rfl:=oI d;exact⟨b,e.2,z,a,e.1,c⟩
  ·cases h
 grind
theorem pR(N:iC β h W){d:Nat}{x G:Value}{u:List Value}{m:Nat}(e:cQ h d x=some (u,m))(v:aB β x G):
  (∀W,(Builtin.lenOf G).run P W = .ok m W)/\∀j,j<=m->∃l',(∀g,(∀b,b<W.heap.size->g.heap[b]?=W.heap[b]?)->(Builtin.firstCells d j G).run P g = .ok l'.toArray g)/\aU β (u.take (j*d)) l':=by
 unfold cQ at e;split at e
 ·simp only[Option.some.injEq,Prod.mk.injEq]at e;obtain⟨rfl,rfl⟩:=e;obtain⟨_,_,rfl⟩:=v.eQ;refine⟨λW=>rfl,λj z=>⟨[],λg _=>by simp[Builtin.firstCells],by simp;exact .nil β⟩⟩
 ·simp only[Option.some.injEq,Prod.mk.injEq]at e;obtain⟨rfl,rfl⟩:=e
  cases v
  refine⟨λW=>rfl,λj z=>⟨[],λg _=>?_,by simp;exact .nil β⟩⟩;obtain rfl:j=0:=by omega
  simp[Builtin.firstCells,loadCells,loadCellsFrom]
 ·next k i n c=>
  split at e
  ·next cs t x2 wr hk=>
   split at e
   ·next Y=>
    simp only[Option.some.injEq,Prod.mk.injEq]at e;obtain⟨rfl,rfl⟩:=e;obtain⟨a,i',c',H,hm,_,rfl,x0,x4,x1,Q,x3⟩:=v.fo;obtain⟨_,_,_,D,fr,y,hn,f,_⟩:=N.row hk H;refine⟨λW=>rfl,λj z=>?_⟩;by_cases K:j=0
    ·subst K;exact⟨[],λg _=>by simp[Builtin.firstCells,loadCells,loadCellsFrom],by simp;exact .nil β⟩
    ·have S:i'=a.s+i:=by rcases Q with p|⟨p,w⟩;exact p;exact absurd p (by omega)
     subst S;have M:j*d<=n*d:=Nat.mul_le_mul_right _ z;have o:((cs.drop i).take (j*d)).length=j*d:=by
      simp only[List.length_take,List.length_drop]at Y⊢;omega
     have A:=(N.lt k a H).2;have I:=sd (P:=P) y f i (j*d) o;obtain⟨l',hr,l⟩:=I;refine⟨l',λg B=>?_,?_⟩
     ·obtain⟨l2,x5,V⟩:=sd (P:=P) (w:=g) (by rw[B _ A];exact y) f i (j*d) o;have:(loadCells ⟨a.b,a.s+i,none⟩ (j*d)).run P g = .ok l'.toArray g:=by
       have X:∀q,q<j*d->W.cell? ((⟨a.b,a.s+i,none⟩:Addr).add q)=some (l'.getD q undef):=by
        intro q r;have E:l'.length=j*d:=by rw[<-l.1,o]
        have R:q<((cs.drop i).take (j*d)).length:=by omega
        have U:=gE R;rw[getElem?_take,if_pos r,getElem?_drop]at U;obtain⟨v',p,_⟩:=f _ _ U;have w:=run_loadCells (P:=P) W ⟨a.b,a.s+i,none⟩ (j*d) (λq=>D.getD (a.s+(i+q)) undef) (by
         intro F T;have J:F<((cs.drop i).take (j*d)).length:=by omega
         have C:=gE J;rw[getElem?_take,if_pos T,getElem?_drop]at C;obtain⟨v2,L,_⟩:=f _ _ C;rw[cF,lL y,show a.s+i+F=a.s+(i+F) by omega,L];simp[Array.getD_eq_getD_getElem?,L])
        rw[hr]at w;simp only[Result.ok.injEq,and_true]at w;have Z:l'=(List.range (j*d)).map λq=>D.getD (a.s+(i+q)) undef:=by simpa using congrArg Array.toList w
        rw[cF,lL y,show a.s+i+q=a.s+(i+q) by omega,p,Z];simp[List.getD,r,Array.getD_eq_getD_getElem?,p]
       have E:l'.length=j*d:=by rw[<-l.1,o]
       have e2:=run_loadCells (P:=P) g ⟨a.b,a.s+i,none⟩ (j*d) (λq=>l'.getD q undef) (by
        intro q r;have:g.cell? ((⟨a.b,a.s+i,none⟩:Addr).add q)=W.cell? ((⟨a.b,a.s+i,none⟩:Addr).add q):=by
         rw[cF];simp[World.cell?,B _ A]
        rw[this];exact X q r)
       rw[e2];congr 2;apply List.ext_getElem?;intro q;by_cases r:q<j*d
       ·simp[r,List.getD,gE (show q<l'.length by omega)]
       ·rw[getElem?_eq_none (by simp;omega),getElem?_eq_none (by omega)]
      exact this
     ·rw[List.take_take,Nat.min_eq_left M];exact l
   ·cases e
  ·cases e
 ·next s=>
  split at e
  ·next O=>
   subst O;simp only[Option.some.injEq,Prod.mk.injEq]at e;obtain⟨rfl,rfl⟩:=e
   cases v.ez
   refine⟨λW=>by simp[Builtin.lenOf],λj z=>⟨(s.data.toList.map λb=>Value.int .u8 b.toNat).take j,λg _=>?_,?_⟩⟩
   ·simp only[Builtin.firstCells,Sem.run_pure];congr 1;apply Array.ext';simp[ByteArray.data_extract,Array.toList_extract]
   ·rw[Nat.mul_one,<-List.map_take];exact aU.map _ λb _=> .int _ _
  ·cases e
 grind
theorem rC(h:ch P T=true):P.underlying T=some .string\/ ∃e,P.underlying T=some (.slice e):=by grind[ch]
theorem kF{t p e:TypeId}{i:TypeInfo}(u:P.underlying t=some (.slice e))(z:P.info? e=some i)(f:ch P T=true){base:Option Addr}{n c m:Nat}{b:Value}{d:List Value}{w g:World}
  (l:∀w,(Builtin.lenOf b).run P w = .ok m w) (k:(Builtin.firstCells i.size m b).run P w = .ok d.toArray w) (v:n+m<=c)
  (x:(match base with|some a=>storeCells (a.add (n*i.size)) d|none=>pure ():Sem Unit).run P w = .ok () g):
  (Builtin.append_ #[t,T] p #[.slice base n c,b]).run P w = .ok (.slice base (n+m) c) g:=by
 have s:(#[t,T]:Array TypeId)[0]?=some t:=rfl;have q:(#[t,T]:Array TypeId)[1]?=some T:=rfl;have r:(#[Value.slice base n c,b]:Array Value)[0]?=some (.slice base n c):=rfl;have o:(#[Value.slice base n c,b]:Array Value)[1]?=some b:=rfl;have j:∀w,(sizeOf e).run P w = .ok i.size w:=dd (by grind[au]);rcases rC f with h|⟨y,h⟩
 all_goals
  simp only[Builtin.append_,s,q,r,o,run_bind,aE u,andThen_ok,j,aE h,Sem.run_pure,false_eq_true,if_false,l,run_ite];rw[if_pos v];simp only[Bool.not_false,if_true,k,andThen_ok]
  cases base with
  |none=>simp_all
  |some a=>simp_all
theorem mP{t ty e:TypeId}{i:TypeInfo}{z:Value}(y:P.underlying t=some (.slice e))(s:P.info? e=some i)(E:i.zero=some z)(f:ch P T=true){base:Option Addr}{n c m:Nat}{a:Value}
  {olds b:List Value} {w:World} (o:∀w,(Builtin.lenOf a).run P w = .ok m w) (u:(Builtin.firstCells i.size n (.slice base n c)).run P w.drew = .ok olds.toArray w.drew)
  (l:(Builtin.firstCells i.size m a).run P w.drew = .ok b.toArray w.drew) (A:c<n+m) (B:(n+m)*i.bytes<=70368744177664) (D:n+m<=1099511627776):
  (Builtin.append_ #[t,T] ty #[.slice base n c,a]).run P w = .ok (.slice (some ⟨w.heap.size,0,none⟩) (n+m) (grownCap w (n+m) c e))
   (w.drew.alloc (.cells (olds++b++(Builtin.zeroCells z.cells (grownCap w (n+m) c e-(n+m))).toList).toArray e)):=by
 have v:(#[t,T]:Array TypeId)[0]?=some t:=rfl;have q:(#[t,T]:Array TypeId)[1]?=some T:=rfl;have r:(#[Value.slice base n c,a]:Array Value)[0]?=some (.slice base n c):=rfl;have p:(#[Value.slice base n c,a]:Array Value)[1]?=some a:=rfl;have j:∀w,(sizeOf e).run P w = .ok i.size w:=dd (by grind[au]);have g:∀w,(zeroValue e).run P w = .ok z w:=λw=>by simp_all[rm,zeroValue]
 have k:=growslice_fits (need:=n+m) (old:=c) (bytes:=i.bytes) A (by omega);have d:(Question.appendCap (n+m) c e).forced=false:=rfl;have x:IntKind.i64.max=9223372036854775807:=by decide
 rcases rC f with h|⟨C,h⟩
 all_goals
  simp only[Builtin.append_,v,q,r,p,run_bind,aE y,andThen_ok,j,aE h,Sem.run_pure,false_eq_true,if_false,o,run_ite,rm s,false_or,Bool.not_false,if_true];rw[if_neg (by omega),if_neg (by omega),if_neg (by omega)];simp only[run_choose,d,false_eq_true,if_false,andThen_ok,run_askRoom,World.drew_eq,u,l,g,hI];congr 2
  simp_all[grownCap]
theorem Ov(c:iC β h W)(k:Nat):iC β (h.del k) W:=
 ⟨λf l q=>c.lt f l q,λf B l a b=>by
  rw[h.dt]at a;split at a
  ·grind
  ·exact c.blk f B l a b,λj m g i e d n a b o p r=>by
  rw[h.dt]at a b;split at a
  ·grind
  ·split at b
   ·grind
   ·exact c.own j m g i e d n a b o p r,aa.Ni c.wf k⟩
theorem Vv(f:iC β h W)(k:Nat):Step β h W β (h.del k) W:=
 ⟨β.le_refl,Nat.le_refl _,Ov f k,Nat.le_refl _,rfl,.refl _,rfl,λ_ _ _=>rfl,λb j ⟨c,B,g,a,d,e,i⟩=>⟨c,B,g,by
  rw[h.dt]at a;grind,d,e,i⟩,λ_ _ h=> .inl h,λc B a d=>⟨B,by
  rw[h.dt]at a;grind⟩⟩
theorem Rh{I:World}(s:iC β h W){k:Nat}{i B:bu}{o sl':Slot}(F:h.get k=some i)(z:β k=some o)(E:i.wr=true)(v:At W I o.b)(t:sl'.b=o.b)
  (N:zw (β.ext h.next sl') B sl' I):Step β h W (β.ext h.next sl') ((h.del k).push B) I:=by
 have P:=(s.lt k o z).1;have D:=s.jT (Nat.le_refl h.next);have H:β.le (β.ext h.next sl'):=cI.BD sl' D;have j:∀d,d≠h.next->∀g,((h.del k).push B).get d=some g->d≠k/\h.get d=some g:=by
  intro d a g G;rw[(h.del k).gX d B a,h.dt]at G;split at G
  ·cases G
  ·next m=>exact⟨m,G⟩
 have K:((h.del k).push B).get h.next=some B:=(h.del k).gb B;have w:∀d g e,d≠k->h.get d=some g->β d=some e->e.b≠o.b:=λd g e a c f=>(s.own k d i g o e (Ne.symm a) F c z f E).symm;refine⟨H,by simp,⟨?_,?_,?_,aa.l5 (h:=h.del k) (aa.Ni s.wf k) B⟩,by rw[v.size];exact Nat.le_refl _,v.os,v.tape,v.output,?_,?_,?_,?_⟩
 ·intro d e c;rw[v.size];by_cases a:d=h.next
  ·subst a;rw[β.ca]at c;obtain rfl:=oI c;exact⟨by simp,by rw[t];exact(s.lt k o z).2⟩
  ·rw[β.dz sl' a]at c;have:=s.lt d e c;exact⟨by simp;omega,this.2⟩
 ·intro d g e c f;by_cases a:d=h.next
  ·subst a;rw[β.ca]at f;obtain rfl:=oI f;rw[K]at c;obtain rfl:=oI c;exact N
  ·rw[β.dz sl' a]at f;obtain⟨m,c⟩:=j d a g c;exact((s.blk d g e c f).mono H).of_heap (v.kept _ (w d g e m c f))
 ·intro q l u p y x a c f n r O;by_cases C:q=h.next
  ·subst C;rw[β.ca]at n;obtain rfl:=oI n;rw[β.dz _ (Ne.symm a)]at r;obtain⟨m,f⟩:=j l (Ne.symm a) p f;rw[t];exact(w l p x m f r).symm
  ·rw[β.dz _ C]at n;obtain⟨J,c⟩:=j q C u c;by_cases A:l=h.next
   ·subst A;rw[β.ca]at r;obtain rfl:=oI r;rw[t];exact w q u y J c n
   ·rw[β.dz _ A]at r;obtain⟨_,f⟩:=j l A p f;exact s.own q l u p y x a c f n r O
 ·intro b L M;refine v.kept b ?_;rintro rfl;exact M ⟨k,i,o,F,E,z,rfl⟩
 ·rintro b L ⟨d,g,e,c,f,n,r⟩;by_cases a:d=h.next
  ·subst a;rw[β.ca]at n;obtain rfl:=oI n;exact⟨k,i,o,F,E,z,by rw[<-r,t]⟩
  ·rw[β.dz _ a]at n;obtain⟨_,c⟩:=j d a g c;exact⟨d,g,e,c,f,n,r⟩
 ·intro d e c;by_cases a:d=h.next
  ·subst a;rw[β.ca]at c;obtain rfl:=oI c;exact .inr ⟨Nat.le_refl _,.inr ⟨k,i,o,F,E,z,t.symm⟩⟩
  ·rw[β.dz _ a]at c;exact .inl c
 grind
theorem MG(z:Array Value)(n:Nat):(Builtin.zeroCells z n).size=n*z.size:=by simp[Builtin.zeroCells]
theorem oV{w:World}{e:TypeId}{need cap:Nat}{z:Array Value}(a:aU β c d)(l:c.length=need*n)(q:z.size=n)(u:need<=cap):
  oQ β w (.cells c e n true) (λk=> .slice (some ⟨k,0,none⟩) need (cj+need)) (.slice (some ⟨w.heap.size,0,none⟩) need cap) (w.drew.alloc (.cells (d++(Builtin.zeroCells z (cap-need)).toList).toArray e)) where
 size:=by simp
 os:=rfl
 tape:=⟨rfl,Nat.le_succ _⟩
 output:=rfl
 kept:=λb j=>kA (w:=w.drew) _ j
 new:=by
  have f:(d++(Builtin.zeroCells z (cap-need)).toList).toArray.size=cap*n:=by
   simp only[List.size_toArray,List.length_append,Array.length_toList,MG,q,<-a.1,l,<-add_mul];congr 1;omega
  refine⟨⟨w.heap.size,0,cap*n,e,n,false⟩,rfl,λs k g p=>⟨⟨rfl,rfl,⟨rfl,λ_=>rfl⟩,_,(0,0),iE (w:=w.drew) _,f,?_,λ_=>Ee _⟩,?_⟩⟩
  ·intro i v o;obtain⟨r,t,m⟩:=a.get o;refine⟨r,?_,m.mono g⟩
   grind
  ·exact sf (w:=w) p rfl rfl rfl (λh=>absurd h (by omega)) (λ_=>by omega) (by simp[cw]) (.inr (Nat.le_refl _))
end
section
variable {β:cI} {P:Program}
theorem Dj{l l':List Value}(h:aU β (l.take n) l')(a:l.length=n):aU β l l':=by grind
theorem pq(w:World)(a b:Nat)(e:TypeId):a<=grownCap w a b e:=by simp[grownCap,Question.cut]
theorem Qz(l:iC β h W){k j n c:Nat}{cs:List Value}{e:TypeId}{a:Nat}{o:Bool}{f:Value}(q:h.get k=some (.cells cs e a o))(i:((cs.drop j).take (n*a)).length=n*a)
  (g:aB β (.slice (some ⟨k,j,none⟩) n c) f):∃l',(∀d,(∀b,b<W.heap.size->d.heap[b]?=W.heap[b]?)->(Builtin.firstCells a n f).run P d = .ok l'.toArray d)/\aU β ((cs.drop j).take (n*a)) l':=by
 have m:cQ h a (.slice (some ⟨k,j,none⟩) n c)=some ((cs.drop j).take (n*a),n):=by
  simp only[cQ,q];rw[if_pos i]
 obtain⟨_,p⟩:=pR (P:=P) l m g;obtain⟨l',r,s⟩:=p n (Nat.le_refl _)
 grind
set_option maxHeartbeats 1000000 in
theorem KN{h:aa}{w:World}(r:iC β h w){t t' ty:TypeId}{s x s' x' v:Value}{u:bp}(a:aJ P t t' s x h=some (v,u))(T:aB β s s')(z3:aB β x x'):
  ∃v' V p,(Builtin.append_ #[t,t'] ty #[s',x']).run P w = .ok v' V/\Step β h w p (u.app h) V/\aB p v v':=by
 unfold aJ at a;split at a
 ·next e O=>
  split at a
  ·next i z6=>
   obtain⟨M,u1,z,hz,x0,u5⟩:=GR z6;split at a
   ·next y=>
    split at a
    ·next X m y7=>
     obtain⟨f,x1⟩:=pR (P:=P) r y7 z3;obtain⟨l,y2,d⟩:=x1 m (Nat.le_refl _);split at a
     ·next z8=>
      obtain⟨u0,Q⟩:=z8;have d:=Dj d Q;have K:l.length=m*i.size:=by rw[<-d.1,Q]
      have E:=y2 w λ_ _=>rfl;have N:=y2 w.drew λ_ _=>rfl;split at a
      ·obtain⟨_,_,rfl⟩:=T.eQ;split at a
       ·next F=>
        simp only[Option.some.injEq,Prod.mk.injEq]at a;obtain⟨rfl,rfl⟩:=a;subst F;refine⟨_,w,β,kF O M y f E (Nat.le_refl _) (by simp),Step.refl r,.kZ⟩
       ·next F=>
        split at a
        ·next U=>
         simp only[Option.some.injEq,Prod.mk.injEq]at a;obtain⟨rfl,rfl⟩:=a;have o:=mP (ty:=ty) (n:=0) (c:=0) (base:=none) (olds:=[]) O M hz y f (by simp[Builtin.firstCells]) N (by omega) (by simpa using U.1) (by omega);have B:=oV (β:=β) (w:=w) (e:=e) (need:=m) (cap:=grownCap w (0+m) 0 e) (z:=z.cells) d Q x0 (by have:=pq w (0+m) 0 e;omega);simp only[Nat.zero_add,List.nil_append]at o B;obtain⟨p,A,H⟩:=B.step r;exact⟨_,_,p,o,A,H⟩
        ·cases a
      ·next k j n c=>
       obtain⟨b,i',I,U,z4,_,rfl,Y,y4,u6,y1,y3⟩:=T.fo;have u3:aW c<=I:=by
        unfold aW;split
        ·next hc=>exact y4 hc
        ·next hc=>rw[Y (by omega)];exact Nat.le_refl _
       split at a
       ·next F=>
        simp only[Option.some.injEq,Prod.mk.injEq]at a;obtain⟨rfl,rfl⟩:=a;subst F;have:l=[]:=List.eq_nil_of_length_eq_zero (by simpa using K);subst this;exact⟨_,w,β,kF O M y f E (by omega) (by simp[storeCells]),Step.refl r,T⟩
       ·next F=>
        split at a
        ·next D=>
         obtain⟨u',A,he⟩:=map_eq_some_iff.1 a;simp only[Prod.mk.injEq]at he;obtain⟨rfl,rfl⟩:=he;have x4:i'=b.s+j:=by rcases y1 with g|⟨g,L⟩;exact g;exact absurd L (by omega)
         subst x4;obtain⟨V,hr,x7⟩:=sh (P:=P) r A U d;refine⟨_,V,β,kF O M y f E (by omega) ?_,x7,.slice U z4 Y y4 D (.inl rfl) y3⟩;dsimp only;rw[cF,add_assoc];exact hr
        ·next D=>
         unfold gU at a;split at a
         ·next R=>
          split at a
          ·next cs C u8 wr hk=>
           split at a
           ·next x6=>
            obtain⟨rfl,rfl,G⟩:=x6;obtain⟨x5,z5,x8⟩:=Qz (P:=P) r hk G T;have x2:=z5 w.drew λ_ _=>rfl;have x3:aU β ((cs.drop j).take (n*i.size)++X) (x5++l):=x8.append d;have J:((cs.drop j).take (n*i.size)++X).length=(n+m)*i.size:=by rw[List.length_append,G,Q,add_mul]
            split at a
            ·next W=>
             simp only[Option.some.injEq,Prod.mk.injEq]at a;obtain⟨rfl,rfl⟩:=a;have z7:I=c:=Y W;subst z7;rw[AV W]at D;have o:=mP (ty:=ty) O M hz y f x2 N (by omega) R.1 R.2;have B:=oV (β:=β) (w:=w) (e:=C) (z:=z.cells) x3 J x0 (pq w (n+m) I C);obtain⟨p,A,H⟩:=B.step r;exact⟨_,_,p,o,A,H⟩
            ·next W=>
             split at a
             ·next z2=>
              obtain⟨rfl,u7⟩:=z2;simp only[Option.some.injEq,Prod.mk.injEq]at a;obtain⟨rfl,rfl⟩:=a;by_cases x9:n+m<=I
              ·have x4:i'=b.s+j:=by rcases y1 with g|⟨g,L⟩;exact g;exact absurd L (by omega)
               subst x4;obtain⟨_,u2,y8,S,fr,hw,hn,z0,y6⟩:=r.row hk U;have y9:b.s+j+I*i.size<=b.n:=by
                rcases y3 with g|g
                ·omega
                ·rw[y8]at g;exact g
               have z1:(n+m)*i.size<=I*i.size:=Nat.mul_le_mul_right _ x9;rw[add_mul]at z1;obtain⟨V,hr,ha,hh⟩:=pN (P:=P) b.b (b.s+j+n*i.size) C fr l 0 S w hw (y6 rfl) (by rw[K,hn];omega) (d.scalars u0);have Z:(Ab.iZ S (b.s+j+n*i.size+0) l).size=S.size:=rz (by rw[K,hn];omega);refine⟨_,V,β.ext h.next ⟨b.b,b.s+j,b.n,C,i.size,false⟩,kF O M y f E x9 ?_,Rh (sl':=⟨b.b,b.s+j,b.n,C,i.size,false⟩) r hk U rfl ha rfl ?_,?_⟩
               ·dsimp only;rw[cF];exact hr
               ·have y5:β.le (β.ext h.next ⟨b.b,b.s+j,b.n,C,i.size,false⟩):=cI.BD _ (r.jT (Nat.le_refl _));refine⟨rfl,rfl,⟨rfl,λh0=>absurd h0 (by omega)⟩,_,fr,hh,by rw[Z];exact hn,?_,λ_=>by rw[Z];exact y6 rfl⟩;intro q u hq;simp only[Ab.iZ,Nat.add_zero,List.getElem?_toArray];by_cases y0:q<n*i.size
                ·rw[getElem?_append_left (by rw[G];exact y0),getElem?_take,if_pos y0,getElem?_drop]at hq;obtain⟨u',g,L⟩:=z0 _ _ hq;refine⟨u',?_,L.mono y5⟩;have u4:=(Array.getElem?_eq_some_iff.1 g).1;rw[List.append_assoc,getElem?_append_left (by simp;omega),getElem?_take,if_pos (by omega),getElem?_toList,add_assoc];exact g
                ·have z9:=(List.getElem?_eq_some_iff.1 hq).1;rw[J,add_mul]at z9;rw[getElem?_append_right (by rw[G];omega),G]at hq;obtain⟨u',g,L⟩:=d.get hq;refine⟨u',?_,L.mono y5⟩;rw[getElem?_append_left (by simp;omega),getElem?_append_right (by simp;omega)];have:b.s+j+q-(S.toList.take (b.s+j+n*i.size)).length=q-n*i.size:=by simp;omega
                 rw[this];exact g
               ·exact .slice (sl:=⟨b.b,b.s+j,b.n,C,i.size,false⟩) (β.ca _ _) rfl (λh=>absurd h (by omega)) (λ_=>by omega) (by rw[cw];exact Nat.le_refl _) (.inl rfl) (.inr y9)
              ·have o:=mP (ty:=ty) O M hz y f x2 N (by omega) R.1 R.2;have B:=oV (β:=β) (w:=w) (e:=C) (z:=z.cells) x3 J x0 (pq w (n+m) I C);obtain⟨p,A,H⟩:=B.step (Ov r k);exact⟨_,_,p,o,(Vv r k).trans A,H⟩
             ·cases a
           ·cases a
          ·cases a
         ·cases a
      ·cases a
     ·cases a
    ·cases a
   ·cases a
  ·cases a
 grind
end
section
variable {β:cI} {P:Program}
theorem SO(E:iC β h W){t:TypeId}{ts:List TypeId}{ty:TypeId}{d s i p v:Value}{u:bp}(b:copyV P t d s h=some (v,u))(G:aB β d i)(S:aB β s p):
  ∃Q w A,(Builtin.copy_ (t::ts).toArray ty #[i,p]).run P W = .ok Q w/\Step β h W A (u.app h) w/\aB A v Q:=by
 unfold copyV at b;split at b
 ·next e R=>
  split at b
  ·next sz a n c C=>
   split at b
   ·next cs m D=>
    obtain⟨o,r⟩:=pR (P:=P) E D S;have N:(t::ts).toArray[0]?=some t:=rfl;have l:(#[i,p]:Array Value)[0]?=some i:=rfl;have F:(#[i,p]:Array Value)[1]?=some p:=rfl;obtain⟨K,H,f⟩:=r (min m n) (Nat.min_le_left _ _);have g:=H W λ_ _=>rfl;have q:Nat.min m n=min m n:=rfl;have I:∃y x,i = .slice y n x:=by
     cases a with
     |none=>obtain⟨rfl,rfl,rfl⟩:=G.eQ;exact⟨_,_,rfl⟩
     |some a=>obtain⟨y,x,rfl⟩:=G.IT;exact⟨_,_,rfl⟩
    split at b
    ·next V=>
     simp only[Option.some.injEq,Prod.mk.injEq]at b;obtain⟨rfl,rfl⟩:=b;have B:min m n=0:=by omega
     rw[B]at g f;have:K=[]:=by simpa using f.1.symm
     subst this;obtain⟨y,x,rfl⟩:=I;refine⟨.int .i64 0,W,β,?_,Step.refl E,.int _ _⟩;simp only[Builtin.copy_,N,l,F,run_bind,aE R,andThen_ok,o,dd C,q,B,g,goInt]
     cases y<;>simp[storeCells]
    ·next V=>
     split at b
     ·next k j=>
      obtain⟨u',J,L⟩:=map_eq_some_iff.1 b;simp only[Prod.mk.injEq]at L;obtain⟨rfl,rfl⟩:=L;obtain⟨U,X,x,T,Z,_,rfl,x0,x3,x1,M,x2⟩:=G.fo;have O:X=U.s+j:=by rcases M with l|⟨l,F⟩;exact l;exact absurd l (by omega)
      subst O;obtain⟨w,Y,z⟩:=sh (P:=P) E J T f;refine⟨.int .i64 (min m n:Nat),w,β,?_,z,.int _ _⟩;simp only[Builtin.copy_,N,l,F,run_bind,aE R,andThen_ok,o,dd C,q,g,Sem.run_pure,goInt,Y]
     ·cases b
   ·cases b
  ·cases b
 grind
theorem Hp(z:Array Value):∀n,(Builtin.zeroCells z n).toList=bO z.toList n:=by
 intro n;rcases Nat.eq_zero_or_pos z.size with h|h
 all_goals grind[ib,List.eq_nil_of_length_eq_zero,uA,Builtin.zeroCells]
theorem Pf(p:iC β h W){t:TypeId}{ty:TypeId}{x r v:Value}{u:bp}(a:K5 P t x h=some (v,u))(G:aB β x r):
  ∃D d g,(Builtin.clear_ #[t] ty #[r]).run P W = .ok D d/\Step β h W g (u.app h) d/\aB g v D:=by
 unfold K5 at a;split at a
 ·next e k j n c E=>
  split at a
  ·next z B=>
   obtain⟨i,l,o,F,I,_,rfl,J,M,K,y,L⟩:=G.fo;have A:(#[t]:Array TypeId)[0]?=some t:=rfl;have b:(#[Value.slice (some ⟨i.b,l,none⟩) n o]:Array Value)[0]?=some (.slice (some ⟨i.b,l,none⟩) n o):=rfl;split at a
   ·next m=>
    subst m;simp only[Option.some.injEq,Prod.mk.injEq]at a;obtain⟨rfl,rfl⟩:=a;refine⟨undef,W,β,?_,Step.refl p,.undef β⟩;simp only[Builtin.clear_,A,b,run_bind,aE E,andThen_ok];rfl
   ·next m=>
    obtain⟨O,q,w⟩:=map_eq_some_iff.1 a;simp only[Prod.mk.injEq]at w;obtain⟨rfl,rfl⟩:=w;have C:l=i.s+j:=by rcases y with b|⟨b,N⟩;exact b;exact absurd b (by omega)
    subst C;obtain⟨d,H,f⟩:=sh (P:=P) p q F (nP (aU.pL (eu B).1) n);refine⟨undef,d,β,?_,f,.undef β⟩;obtain⟨s,rfl⟩:∃s,n=s+1:=⟨n-1,by omega⟩
    simp only[Builtin.clear_,A,b,run_bind,aE E,andThen_ok,mS B,Hp,H];rfl
  ·cases a
 grind
theorem sX(i:iC β h W){t u J:TypeId}{r:Nat}{s m:List (Value×Value)}{k E x l:Value}(V:P.underlying t=some (.map u J))(w:kW P u k=true)
  (A:h.get r=some (.map s)) (z:jv P u k x s=some m) (G:aB β (.map (some r)) E) (H:aB β x l):
  ∃B,(Instr.mapUpdate t E k l).run P W = .ok () B/\Step β h W β (h.set r (.map m)) B:=by
 obtain⟨c,g,f,rfl⟩:=G.FY;obtain⟨_,b,a,I,y⟩:=i.blk _ _ _ A g;have N:c.b<W.heap.size:=(i.lt _ _ g).2;have Y:(getObj c.b).run P W = .ok (.map b a) W:=by simp[getObj,Sem.run,I]
 have L:∀o,(setObj c.b o).run P W = .ok () { W with heap:=W.heap.setIfInBounds c.b o }:=λo=>by grind[setObj,Sem.run]
 have n:∀o,At W { W with heap:=W.heap.setIfInBounds c.b o } c.b/\({ W with heap:=W.heap.setIfInBounds c.b o }:World).heap[c.b]?=some o:=λo=>
  ⟨⟨by simp,rfl,⟨rfl,Nat.le_refl _⟩,rfl,λX O=>by grind⟩,by grind⟩
 have Q:=yT w false W;have F:=Aa w;obtain⟨T,S,R,M,d⟩:=Bk w W b.toList;rcases yR M F H s b.toList y z 0 a with⟨j,e,q,D,U,K⟩|⟨q,D⟩
 ·have C:=d _ q;obtain⟨v,p⟩:=n (.map (b.modify j λe=>{ e with key:=k,val:=l }) a);refine⟨_,?_,Step.at_ i A g rfl v ⟨f,_,a,p,by simpa using K⟩⟩
  simp_all[Dv,aE,Instr.mapUpdate,Instr.keyThatStays]
 ·have C:=d _ q;obtain⟨v,p⟩:=n (.map (b.push { key:=k,val:=l,born:=a }) (a+1));refine⟨_,?_,Step.at_ i A g rfl v ⟨f,_,a+1,p,by simpa using D⟩⟩
  simp_all[aE,Instr.mapUpdate]
end
section
variable {β:cI} {P:Program}
theorem BF{s:Nat}(g:P.cellsOf T=s)(e:0<s)(a b n:Nat)(f:b%s=0)(d:b/s+n<=a):liesAt P P.depth T a b T n=true:=by
 have c:P.depth=(2*(P.types.size+Made.depth)+1)+1:=rfl;rw[c];simp only[liesAt,Bool.or_eq_true]
 grind[rowAt,sameLayout]
theorem AX(h:au P T=some n):P.cellsOf T=n:=by
 obtain⟨i,a,rfl⟩:=lZ h
 grind[Program.cellsOf]
theorem At.freeze(w:World)(a:Addr)(n:Nat):At w (w.freeze a n) a.block:=
 ⟨yQ w a n,(qN w a n).1,(qN w a n).2.1,(qN w a n).2.2,λb d=>by
  by_cases c:n=0
  ·subst c;rfl
  ·rw[nE w a c,if_neg (Ne.symm d)]⟩
theorem nV:∀{l:List Value}{a:List UInt8},bytesOf l=some a->l=a.map λb=>Value.int .u8 b.toNat
 |[],a,h=>by grind[bytesOf]
 | v::l,a,h=>by
  unfold bytesOf at h;split at h
  ·next e=>cases e
  ·next n r e=>
   simp only[List.cons.injEq]at e;obtain⟨rfl,rfl⟩:=e;split at h
   ·next f=>
    obtain⟨d,c,rfl⟩:=map_eq_some_iff.1 h;rw[List.map_cons,<-nV c];congr 2;have:(UInt8.ofNat n.toNat).toNat=n.toNat:=by
     simp[UInt8.toNat_ofNat'];omega
    omega
   ·cases h
  grind
set_option maxHeartbeats 1000000 in
theorem yq{h:aa}{w:World}(B:iC β h w){k i:Nat}{n:Int}{kk:IntKind}{f e:TypeId}{cs:List Value}{l:List UInt8}{y:Value}{ats:Array TypeId}{ty:TypeId}(F:h.get k=some (.cells cs e 1 true))(z:ats[0]?=some f)
  (N:P.underlying f=some (.pointer e)) (C:au P e=some 1) (X:0<n) (V:n<9223372036854775807) (A:((cs.drop i).take n.toNat).length=n.toNat) (t:bytesOf ((cs.drop i).take n.toNat)=some l) (R:aB β (.pointer (some ⟨k,i,none⟩)) y):
  ∃v,(Builtin.unsafeString_ ats ty #[y,.int kk n]).run P w = .ok (strOf l) v/\Step β h w β (h.set k (.cells cs e 1 false)) v:=by
 obtain⟨a,m,Y,rfl⟩:=R.rT;obtain⟨E,U,O,c,L,q,H,b,W⟩:=B.blk _ _ _ F m;refine⟨w.freeze ⟨a.b,a.s+i,none⟩ n.toNat,?_,Step.at_ B F m rfl (At.freeze w _ _) ?_⟩
 ·have o:l.length=n.toNat:=by
   have:=congrArg List.length (nV t);rw[A]at this;simpa using this.symm
  have I:a.s+i+n.toNat<=c.size:=by
   have u:i+n.toNat-1<cs.length:=by simp only[List.length_take,List.length_drop]at A;omega
   obtain⟨T,p,_⟩:=b _ _ (gE u);have:=(Array.getElem?_eq_some_iff.1 p).1;omega
  have G:w.shape? a.b=some (e,c.size):=by simp[World.shape?,q]
  have J:=AX C;have g:liesAt P P.depth e (c.size/P.cellsOf e) (a.s+i) e n.toNat=true:=BF J (by omega) _ _ _ (by omega) (by grind);have K:(loadBytes ⟨a.b,a.s+i,none⟩ .empty n.toNat).run P w = .ok (⟨l.toArray⟩:ByteArray) w:=by
   rw[<-o];rw[Lib.run_loadBytes (P:=P) w l ⟨a.b,a.s+i,none⟩ .empty]
   ·simp
   ·intro j x S;have d:((cs.drop i).take n.toNat)[j]?=some (.int .u8 x.toNat):=by rw[nV t];simp[S]
    rw[getElem?_take,getElem?_drop]at d;split at d
    ·obtain⟨T,p,M⟩:=b _ _ d;rw[cF,lL q,show a.s+i+j=a.s+(i+j) by omega,p,M.cV]
    grind
  have Q:IntKind.i64.max=9223372036854775807:=by decide
  have r:Builtin.unsafeString_ ats ty #[.pointer (some ⟨a.b,a.s+i,none⟩),.int kk n] =
    (do
     let n <-asInt (.int kk n)
     let some f:=ats[0]?|stuck "unsafe.String: no argument types"
     if n<0 then runtimePanic (.error "unsafe.String: len out of range")
     if n>IntKind.i64.max then unsupported (.unsafePointer "String: a length above the largest int")
     if n=0 then pure (.string .empty)
     else if <-variablesAt ⟨a.b,a.s+i,none⟩ (<-elemOf f) n.toNat then do
      let s <-loadBytes ⟨a.b,a.s+i,none⟩ .empty n.toNat
      freeze ⟨a.b,a.s+i,none⟩ n.toNat
      pure (.string s)
     else unsupported (.unsafePointer "String: not so many bytes at ptr")):=rfl
  rw[r];simp only[run_bind,asInt,asIntOf,Sem.run_pure,andThen_ok,z,run_ite];rw[if_neg (by omega),if_neg (by omega),if_neg (by omega)];simp only[elemOf,run_bind,aE N,Sem.run_pure,andThen_ok,variablesAt,run_program,run_shape,G,g,if_true,K,run_freeze];rfl
 ·have D:(w.freeze ⟨a.b,a.s+i,none⟩ n.toNat).heap[a.b]?=some (frz ⟨a.b,a.s+i,none⟩ n.toNat (.cells c e L)):=by
   rw[nE w _ (by omega)];simp[q]
  exact⟨E,U,O,c,_,D,H,b,λh=>by cases h⟩
end
section
variable {β:cI} {P:Program}
def aes(r:Result Next)(b:Value)(a:World):Prop:=r = .ok (.value b) a\/(r = .ok .skip a/\b=undef)
def aZ(o:Oper):Bool:=match o.op with
 |.call { callee:= .value _,.. }=>true
 |_=>false
theorem N4{c:Array Operand}{a b:Operand}(h:c.toList=[a,b]):c.map r = #[r a,r b]:=by
 apply Array.ext';simp[h]
set_option maxHeartbeats 2000000 in
theorem xT{ρ B:Operand->Value}(q:∀x,aB β (ρ x) (B x)){cf:bY}{o:Oper}(z6:aZ o=false){v:Value}{u:bp}{h:aa}{w:World}(I:iC β h w)(b:cJ P cf ρ o h=some (v,u)):
  ∃v' G M,aes ((execOp B o).run P w) v' G/\Step β h w M (u.app h) G/\aB M v v':=by
 unfold cJ at b;unfold execOp;split at b
 ·next t a x E=>
  simp only[E];have Q:=q a;have hx:=q x;split at b
  ·next k i y7=>
   rw[y7]at Q;obtain⟨D,V,F,U⟩:=Q.rT;split at b
   ·next N=>
    obtain⟨u',S,y3⟩:=map_eq_some_iff.1 b;simp only[Prod.mk.injEq]at y3;obtain⟨rfl,rfl⟩:=y3;have hj:ρ x≠Ab.fs:=by
     intro e;rw[e]at S;unfold storeAt at S;split at S
     ·split at S
      ·next K=>exact absurd K.2 (by simp[Value.cells,bw])
      ·cases S
     ·cases S
    have K:=hx.cells hj;obtain⟨G,L,g⟩:=sh (P:=P) I S V (gN.toList.1 K);refine⟨undef,G,β,.inr ⟨?_,rfl⟩,g,.undef β⟩;have z8:(storeVar t ⟨D.b,D.s+i,none⟩ (B x)).run P w = .ok () G:=by
     simp only[storeVar,run_bind,dd N,andThen_ok,run_ite];rw[if_neg (by simp[K.1])];exact L
    simp only[Instr.storeAt,run_bind,U,Instr.sureAddr,Sem.run_pure,andThen_ok,z8]
   ·cases b
  ·cases b
 ·next t m k x E=>
  simp only[E];have F:=q m;have W:=q k;split at b
  ·next kt et r hu x9=>
   rw[x9]at F;split at b
   ·next es L=>
    split at b
    ·next Z=>
     obtain⟨z1,x3,U⟩:=map_eq_some_iff.1 b;simp only[Prod.mk.injEq]at U;obtain⟨rfl,rfl⟩:=U;obtain⟨G,x1,g⟩:=sX (P:=P) I hu Z L x3 F (q x);exact⟨undef,G,β,.inr ⟨by rw[W.px (Aa Z)];simp[x1],rfl⟩,g,.undef β⟩
    ·cases b
   ·cases b
  ·cases b
 ·next t m k x E=>
  simp only[E];have F:=q m;have W:=q k;split at b
  ·next kt et r hu x9=>
   rw[x9]at F;split at b
   ·next es L=>
    split at b
    ·next Z=>
     obtain⟨z1,x3,U⟩:=map_eq_some_iff.1 b;simp only[Prod.mk.injEq]at U;obtain⟨rfl,rfl⟩:=U;obtain⟨G,x1,g⟩:=sX (P:=P) I hu Z L x3 F (q x);exact⟨undef,G,β,.inr ⟨by rw[W.px (Aa Z)];simp[x1],rfl⟩,g,.undef β⟩
    ·cases b
   ·cases b
  ·cases b
 ·next f p C E=>simp[aZ,E]at z6
 ·next p C E=>
  simp only[E];split at b
  ·next s x t t' Q ht=>
   obtain⟨v',G,M,L,g,x0⟩:=KN (P:=P) (ty:=o.type) I b (q s) (q x);refine⟨v',G,M,.inl ?_,g,x0⟩;have A:C = #[t,t']:=by apply Array.ext';simp[ht]
   simp only[resolve,run_bind,Sem.run_pure,andThen_ok,invoke,builtin,N4 Q,A,L]
  ·cases b
 ·next p C E=>
  simp only[E];split at b
  ·next d s t ts Q ht=>
   obtain⟨v',G,M,L,g,x0⟩:=SO (P:=P) (ts:=ts) (ty:=o.type) I b (q d) (q s);refine⟨v',G,M,.inl ?_,g,x0⟩;have A:C=(t::ts).toArray:=by apply Array.ext';simp[ht]
   simp only[resolve,run_bind,Sem.run_pure,andThen_ok,invoke,builtin,N4 Q,A,L]
  ·cases b
 ·next p C E=>
  simp only[E];have O:aU β (p.toList.map ρ) (p.toList.map B):=aU.map _ λx _=>q x;split at b
  ·next x t F ht=>
   rw[F]at O;obtain⟨y,r,Y,H,J⟩:=O.cz;have:=J.dL;subst this;obtain⟨v',G,M,L,g,x0⟩:=Pf (P:=P) (ty:=o.type) I b H;refine⟨v',G,M,.inl ?_,g,x0⟩;have A:C = #[t]:=by apply Array.ext';simp[ht]
   have Q:p.map B = #[y]:=by apply Array.ext';simp[Y]
   simp only[resolve,run_bind,Sem.run_pure,andThen_ok,invoke,builtin,Q,A,L]
  ·cases b
 ·next p C E=>
  simp only[E];have O:aU β (p.toList.map ρ) (p.toList.map B):=aU.map _ λx _=>q x;split at b
  ·next n c F=>
   rw[F]at O;obtain⟨y,r,Y,H,J⟩:=O.cz;have:=J.dL;subst this;obtain⟨rfl,rfl,rfl⟩:=H.eQ;simp only[Option.some.injEq,Prod.mk.injEq]at b;obtain⟨rfl,rfl⟩:=b;have A:p.map B = #[.slice none 0 0]:=by apply Array.ext';simp[Y]
   refine⟨.pointer none,w,β,.inl ?_,Step.refl I,.nilPtr⟩;simp only[resolve,run_bind,Sem.run_pure,andThen_ok,invoke,builtin,A,Lib.run_unsafeSliceData_nil]
  ·next a n c F=>
   rw[F]at O;obtain⟨y,r,Y,H,J⟩:=O.cz;have:=J.dL;subst this;obtain⟨ab,ao,z3⟩:=a;have R:z3=none\/ ¬0<aW c:=by
    rcases H.tQ with⟨k',i',e⟩|⟨_,_,u0,_⟩
    ·injection e with _ _ e;exact .inl e
    ·subst u0;exact .inr (by unfold aW;rw[if_neg (by decide)];decide)
   rcases R with R|R
   rotate_left
   ·rw[if_neg R]at b;cases b
   subst R;obtain⟨D,i',c',V,y9,z5,rfl,z2,z7,u3,z4,u4⟩:=H.fo;clear z5;split at b
   ·next K=>
    simp only[Option.some.injEq,Prod.mk.injEq]at b;obtain⟨rfl,rfl⟩:=b;have u2:aW c<=c':=by
     unfold aW;split
     ·next K=>exact z7 K
     ·next K=>rw[z2 (by omega)];exact Nat.le_refl _
    have z9:i'=D.s+ao:=by rcases z4 with h1|⟨h1,h2⟩;exact h1;exact absurd h2 (by omega)
    subst z9;have A:p.map B = #[.slice (some ⟨D.b,D.s+ao,none⟩) n c']:=by apply Array.ext';simp[Y]
    refine⟨.pointer (some ⟨D.b,D.s+ao,none⟩),w,β,.inl ?_,Step.refl I,.ptr V y9⟩;simp only[resolve,run_bind,Sem.run_pure,andThen_ok,invoke,builtin,A,Lib.run_unsafeSliceData_row (P:=P) w C o.type ⟨D.b,D.s+ao,none⟩ n c' (by omega)]
   ·cases b
  ·cases b
 ·next p C E=>
  simp only[E];have O:aU β (p.toList.map ρ) (p.toList.map B):=aU.map _ λx _=>q x;split at b
  ·next kk pt F x5=>
   rw[F]at O;obtain⟨y,r,Y,H,J⟩:=O.cz;obtain⟨z,r2,rfl,x7,x2⟩:=J.cz;have:=x2.dL;subst this
   cases H.Lz
   cases x7.cV
   simp only[Option.some.injEq,Prod.mk.injEq]at b;obtain⟨rfl,rfl⟩:=b;have A:p.map B = #[.pointer none,.int kk 0]:=by apply Array.ext';simp[Y]
   refine⟨strOf [],w,β,.inl ?_,Step.refl I,.string _⟩;have u1:IntKind.i64.max=9223372036854775807:=by decide
   have y6:Builtin.unsafeString_ C o.type #[.pointer none,.int kk 0] =
     (do
      let n <-asInt (.int kk 0)
      let some pt:=C[0]?|stuck "unsafe.String: no argument types"
      if n<0 then runtimePanic (.error "unsafe.String: len out of range")
      if n>IntKind.i64.max then unsupported (.unsafePointer "String: a length above the largest int")
      if n=0 then pure (.string .empty)
      else runtimePanic (.error "unsafe.String: ptr is nil and len is not zero")):=rfl
   simp only[resolve,run_bind,Sem.run_pure,andThen_ok,invoke,builtin,A,y6,asInt,asIntOf,x5,run_ite];rw[if_neg (by omega),if_neg (by omega)];rfl
  ·next k i kk n pt F x5=>
   rw[F]at O;obtain⟨y,r,Y,H,J⟩:=O.cz;obtain⟨z,r2,rfl,x7,x2⟩:=J.cz;have:=x2.dL;subst this
   cases x7.cV
   have A:p.map B = #[y,.int kk n]:=by apply Array.ext';simp[Y]
   split at b
   ·next cs e e' W hu=>
    split at b
    ·next K=>
     obtain⟨rfl,N,hn,y8,y5⟩:=K;split at b
     ·next l V=>
      simp only[Option.some.injEq,Prod.mk.injEq]at b;obtain⟨rfl,rfl⟩:=b;obtain⟨G,L,g⟩:=yq (P:=P) (kk:=kk) (ats:=C) (ty:=o.type) I W x5 hu N hn y8 y5 V H;refine⟨strOf l,G,β,.inl ?_,g,.string _⟩;simp only[resolve,run_bind,Sem.run_pure,andThen_ok,invoke,builtin,A,L]
     ·cases b
    ·cases b
   ·cases b
  ·cases b
 ·next s d x E=>
  simp only[E];have hx:=q x;split at b
  ·next t k h1 h2 Q=>
   rw[Q]at hx;split at b
   ·next cs t' wr W=>
    split at b
    ·next K=>
     obtain⟨rfl,N,X⟩:=K;simp only[Option.some.injEq,Prod.mk.injEq]at b;obtain⟨rfl,rfl⟩:=b;obtain⟨D,V,F,U⟩:=hx.rT;obtain⟨_,_,_,x4,fr,hw,hn,T,_⟩:=I.row W V;obtain⟨j,hj,z0⟩:=lZ N;obtain⟨v0,x6,_⟩:=T 0 _ (gE X);have y1:=(Array.getElem?_eq_some_iff.1 x6).1;have x8:w.shape? D.b=some (t,x4.size):=by simp[World.shape?,hw]
     refine⟨B x,w,β,.inl ?_,Step.refl I,q x⟩;rw[U];simp only[run_bind,Lib.run_to_unsafe (P:=P) w ⟨D.b,D.s+0,none⟩ h1 h2 hj (by omega) x8 y1,andThen_ok,Sem.run_pure]
    ·cases b
   ·cases b
  ·next t k h1 h2 Q=>
   rw[Q]at hx;split at b
   ·next cs t' wr W=>
    split at b
    ·next K=>
     obtain⟨rfl,N,X⟩:=K;simp only[Option.some.injEq,Prod.mk.injEq]at b;obtain⟨rfl,rfl⟩:=b;obtain⟨D,V,F,U⟩:=hx.rT;have y2:=I.nZ W V;obtain⟨_,_,_,x4,fr,hw,hn,T,_⟩:=I.row W V;obtain⟨j,hj,z0⟩:=lZ N;have y4:=AX N;obtain⟨v0,x6,_⟩:=T (cs.length-1) _ (gE (by omega));have y1:=(Array.getElem?_eq_some_iff.1 x6).1;have x8:w.shape? D.b=some (t,x4.size):=by simp[World.shape?,hw]
     have y0:liesAt P P.depth t (x4.size/P.cellsOf t) (D.s+0) t 1=true:=by
      refine BF y4 X _ _ _ (by rw[y2];simp) ?_;rw[y2,y4];simp only[Nat.add_zero,Nat.zero_div,Nat.zero_add];exact(Nat.le_div_iff_mul_le X).2 (by omega)
     refine⟨B x,w,β,.inl ?_,Step.refl I,q x⟩;rw[U];simp only[run_bind,Lib.run_from_unsafe (P:=P) w ⟨D.b,D.s+0,none⟩ h1 h2 hj x8 y0,andThen_ok,Sem.run_pure]
    ·cases b
   ·cases b
  ·cases b
 grind
end
variable{f:FuncId}
section
variable {β:cI} {P:Program} {gl:Nat->Bool}
def ij(r:Option Nat):Fence:={ Fence.wide with round:=r }
theorem sT{r:Option Nat}{R:Ending->World->Prop}(h:Calls P f V W R):CallsIn (ij r) n P f V W R:=
 (callsIn_wide (n:=n)).2 h
def Gl(gl:Nat->Bool)(β:cI):Prop:=∀g,gl g=true->∃a,β g=some a/\a.b=g/\a.s=0/\a.isMap=false
theorem Gl.mono{β:cI}(h:Gl gl β)(a:β.le J):Gl gl J:=λg e=>let⟨c,b,d⟩:=h g e;⟨c,a _ _ b,d⟩
theorem aU.getD{l l':List Value}(h:aU β l l')(i:Nat):aB β (l.getD i undef) (l'.getD i undef):=by
 by_cases b:i<l.length
 ·have a:i<l'.length:=h.1▸b;simp only[List.getD,gE b,gE a,Option.getD_some];exact h.2 i _ _ (gE b) (gE a)
 ·have a:l'.length<=i:=by rw[<-h.1];omega
  simp only[List.getD,getElem?_eq_none (Nat.le_of_not_lt b),getElem?_eq_none a,Option.getD_none];exact .undef β
theorem xu{a:Act}(k:Gl gl β)(j:aU β c a.tmps.toList)(x:Operand):aB β (ev gl c x) (a.eval x):=by
 cases x with
 |tmp t=>
  simp only[ev,Act.eval];have:=j.getD t
  simp_all
 |const v=>
  simp only[ev,Act.eval];split
  ·next h=>exact .mK h
  ·exact .fs v
 | global g=>
  simp only[ev,Act.eval];split
  ·next h=>
   obtain⟨m,b,n,l,d⟩:=k g h;have:=aB.ptr (i:=0) b d
   grind
  ·exact .fs _
 |func f=>
  simp only[ev,Act.eval];exact .func rfl rfl rfl (λi v e h=>by grind) (λi v e h=>by grind)
theorem jy{a:Act}(g:aU β c a.tmps.toList)(b:Option Tmp){v h:Value}(l:aB β v h):aU β (fe c b v) (a.put b h).tmps.toList:=by
 cases b with
 |none=>exact g
 | some d=>
  simp only[fe,Act.put,Array.toList_setIfInBounds];refine⟨by simp[g.1],λi u k e f=>?_⟩;rw[List.getElem?_set]at e f;split at e
  ·grind
  ·next j=>
   rw[if_neg j]at f;exact g.2 i u k e f
theorem put_defers(a:Act)(b:Option Tmp)(v:Value):(a.put b v).defers=a.defers:=by cases b<;>rfl
theorem Eg{l:List Value}(h:l.getD n undef = .bool b):l[n]?=some (.bool b):=by
 rw[gD]at h
 cases a:l[n]? with
 |none=>rw[a]at h;cases h
 |some v=>grind
theorem Bp{l:List Value}(h:l.getD n undef = .tuple V):l[n]?=some (.tuple V)\/l[n]?=none:=by grind
theorem kc{ops:Array Oper}{a:Act}(l:aU β c a.tmps.toList){o:Oper}{b:Bool}(h:ef ops c o=some b):Region.wanted o (yielded ops a.tmps)=b:=by
 unfold ef at h;unfold Region.wanted;split at h
 ·grind
 ·next j g p=>
  rw[p];simp only[yielded];split at h
  ·next d k=>
   rw[k];simp only[Option.bind_some];split at h
   ·next m e=>
    obtain⟨n,f,i⟩:=l.get (Eg e);rw[i.iF]at f;rw[getElem?_toList]at f;rw[f];simp only[Option.some.injEq]at h;subst h
    cases m<;>cases g<;>rfl
   ·next r e=>
    simp only[Option.some.injEq]at h;subst h;rcases Bp e with e|e
    ·obtain⟨n,f,i⟩:=l.get e;obtain⟨q,rfl,_⟩:=i.rU;rw[getElem?_toList]at f;rw[f];rfl
    ·have k:a.tmps[d]?=none:=by
      rw[<-getElem?_toList];exact getElem?_eq_none (by rw[<-l.1];exact List.getElem?_eq_none_iff.1 e)
     rw[k];rfl
   ·cases h
  grind
def nS(β:cI)(h:aa)(w:World)(v:Value)(d:aa):Ending->World->Prop:=λe c=>∃b a,e = .returned b/\Step β h w a d c/\aB a v b
def aet(P:Program)(gl:Nat->Bool)(j:bY):Prop:=
 ∀f b h v d,f<YB->j f b h=some (v,d)->∀β w (a:Array Value),iC β h w->Gl gl β->aU β b a.toList->
  ∃g,P.funcs[f]?=some g/\((g.body.isSome=true/\Calls P f a w (nS β h w v d))\/
   (∃i e c,(callFunc f a).run P w = .ok (.value i) e/\Step β h w c d e/\aB c v i))
def aew(P:Program)(gl:Nat->Bool)(j:bY):Prop:=
 ∀k d h v i,j (YB+k) d h=some (v,i)->∀β w (a:Array Value) e,iC β h w->Gl gl β->aU β d a.toList->β k=some e->
  ∃g b f c,(Instr.yield e.b a).run P w = .ok (.round e.b g b f c) w/\∀(r:Option Nat)(n:Nat),RoundIn (ij r) n P e.b g b f c w (nS β h w v i)
structure oe(P:Program)(gl:Nat->Bool)(cf:bY):Prop where
 fn:aet P gl cf
 yd:aew P gl cf
def dI(P:Program):Prop:=∀(f:FuncId)(a:Func),P.funcs[f]?=some a->(a.name == "runtime.NumGoroutine")=false
theorem eB(e:dI P){f:FuncId}{a:Func}(c:P.funcs[f]?=some a)(i:a.body.isSome=true)(b:Array Value)(w:World):(callFunc f b).run P w = .ok (.enter f b) w:=by
 have d:=e f a c;have g:a.body.isNone=false:=by cases h:a.body<;>simp_all
 simp only[callFunc,run_bind,run_program,andThen_ok,c];rw[d,g];rfl
theorem aB.Tx{first:Array Value}{x:Value}(c:aB β (.func (.func f) first V) x):∃b a,x = .func (.func f) b a/\gN β first b/\gN β V a:=by
 cases c with
 |func i g h e d=>exact⟨_,_,rfl,⟨g,e⟩,⟨h,d⟩⟩
theorem aB.Ei{first:Array Value}{x:Value}(b:aB β (.func (.yield k) first V) x):∃a,β k=some a/\x = .func (.yield a.b) first V:=by
 cases b with
 |func e c d g f=>cases e
 |yield h c d=>grind
theorem H4(hN:dI P){U:bY}(F:oe P gl U){r:Option Nat}{n:Nat}{a:Act}{h:aa}{w:World}{o:Oper}{f:Operand}{args:Array Operand}{W:Array TypeId}(V:o.op = .call { callee:= .value f,args:=args,argTypes:=W })
  {ρ:Operand->Value} {v:Value} {u:bp} (O:iC β h w) (Y:Gl gl β) (C:∀x,aB β (ρ x) (a.eval x)) (q:qG U (ρ f) (args.toList.map ρ) h=some (v,u)) (next:Act->World->Prop) (Q:Exit->Act->World->Prop)
  (J:∀p l c,Step β h w c (u.app h) l->aB c v p->next (a.put o.dst p) l):o.uponIn (ij r) n P a next Q ((execOp a.eval o).run P w):=by
 unfold qG at q;have E:=C f;split at q
 ·next g first d D=>
  split at q
  ·next S=>
   rw[D]at E;obtain⟨⟨Z,I⟩,j,B⟩:=map_eq_some_iff.1 q;simp only[Prod.mk.injEq]at B;obtain⟨rfl,rfl⟩:=B;obtain⟨m,b,s,X,T⟩:=E.Tx;have i:aU β (first.toList++args.toList.map ρ++d.toList) (m++args.map a.eval++b).toList:=by
    simp only[Array.toList_append,Array.toList_map];exact((gN.toList.1 X).append (aU.map _ λx _=>C x)).append (gN.toList.1 T)
   have t:(execOp a.eval o).run P w=(callFunc g (m++args.map a.eval++b)).run P w:=by
    unfold execOp;simp only[V,resolve,s,Deferred.ofValue,run_bind,Sem.run_pure,andThen_ok,invoke]
   rw[t];obtain⟨fn,N,L⟩:=F.fn g _ h _ I S j β w _ O Y i;rcases L with⟨G,z⟩|⟨p,l,c,H,A,y⟩
   ·rw[eB hN N G];refine⟨λK=>by simp[ij,Fence.wide]at K,sT (z.mono ?_)⟩;rintro e l ⟨p,c,rfl,A,y⟩;exact J p l c A y
   ·rw[H];exact J p l c A y
  ·cases q
 ·next k first d D=>
  split at q
  ·next hz=>
   rw[D]at E;obtain⟨⟨Z,I⟩,j,B⟩:=map_eq_some_iff.1 q;simp only[Prod.mk.injEq]at B;obtain⟨rfl,rfl⟩:=B;obtain⟨R,G,s⟩:=E.Ei;have M:first = #[]:=Array.eq_empty_of_size_eq_zero hz.1
   have i:aU β (args.toList.map ρ) (args.map a.eval).toList:=by
    simp only[Array.toList_map];exact aU.map _ λx _=>C x
   have t:(execOp a.eval o).run P w=(Instr.yield R.b (args.map a.eval)).run P w:=by
    unfold execOp;simp only[V,resolve,s,Deferred.ofValue,run_bind,Sem.run_pure,andThen_ok,invoke,M,Array.empty_append]
   rw[t];obtain⟨fn,x0,x2,x1,H,A⟩:=F.yd k _ h _ I j β w _ R O Y i G;rw[H];refine⟨λK=>by simp[ij,Fence.wide]at K,(A r (n-1)).mono ?_⟩;rintro e l ⟨p,c,rfl,y,h4⟩;exact J p l c y h4
  ·cases q
 grind
theorem adE(E:dI P){z:bY}(y:oe P gl z){r:Option Nat}{n:Nat}{x:List Value}{a:Act}{h:aa}{w:World}{o:Oper}{v:Value}{u:bp}(l:iC β h w)(C:Gl gl β)(H:aU β x a.tmps.toList)
  (b:bm P z (ev gl x) o h=some (v,u)) (next:Act->World->Prop) (Q:Exit->Act->World->Prop)
  (m:∀g k d,Step β h w d (u.app h) k->aB d v g->next (a.put o.dst g) k):o.wpIn (ij r) n P a w next Q:=by
 refine⟨λ_ _=>trivial,?_⟩;have j:=xu (β:=β) C H;have t:∀c,o.op≠ .defer c:=by
  intro c q;unfold bm at b;simp[ba,bj,aT,cJ,q]at b
 rw[Oper.semAt_eq _ _ _ t];unfold bm at b;split at b
 ·next D p=>
  simp only[Option.some.injEq,Prod.mk.injEq]at b;obtain⟨rfl,rfl⟩:=b;obtain⟨g,e,i⟩:=pE j p w;rw[e];exact m g w β (Step.refl l) i
 ·split at b
  ·next D p=>
   simp only[Option.some.injEq,Prod.mk.injEq]at b;obtain⟨rfl,rfl⟩:=b;obtain⟨g,e,i⟩:=pF j l p;rw[e];exact m g w β (Step.refl l) i
  ·split at b
   ·next B f p=>
    simp only[Option.some.injEq,Prod.mk.injEq]at b;obtain⟨rfl,rfl⟩:=b;obtain⟨g,k,e,i⟩:=nJ j (w:=w) p;obtain⟨d,s,F⟩:=i.step l;rw[e];exact m g k d s F
   ·by_cases q:aZ o=false
    ·obtain⟨g,k,d,e,i,s⟩:=xT j q l b;rcases e with e|⟨e,rfl⟩
     ·rw[e];exact m g k d i s
     ·rw[e];exact m undef k d i s
    ·unfold aZ at q;split at q
     ·next f G I A=>
      simp only[cJ,A]at b;exact H4 E y A l C j b next Q m
     grind
theorem Ma(B:dI P){G:bY}(k:oe P gl G){r:Option Nat}{n:Nat}{ops:Array Oper}(Q:Exit->Act->World->Prop):∀(b:List Oper)(i:Nat){β:cI}{p f:List Value}{a:Act}{h q:aa}{w:World},
  ops.toList.drop i=b->fP P gl G ops b p h=some (f,q)->iC β h w->Gl gl β->aU β p a.tmps.toList->
  (∀d y j,Step β h w j q y->aU j f d.tmps.toList->d.defers=a.defers->Q .normal d y)->wpOpsIn (ij r) n P ops Q (List.range' i b.length) a w
 |[],i,β,p,f,a,h,q,w,F,c,m,t,e,s=>by
  simp only[fP,Option.some.injEq,Prod.mk.injEq]at c;obtain⟨rfl,rfl⟩:=c;exact s a w β (Step.refl m) e rfl
 | o::b,i,β,p,f,a,h,q,w,F,c,m,t,e,s=>by
  have J:ops[i]?=some o:=by
   have:(ops.toList.drop i)[0]?=some o:=by rw[F];rfl
   rw[getElem?_drop]at this;rw[<-getElem?_toList];simpa using this
  have x:ops.toList.drop (i+1)=b:=by rw[<-drop_drop,F];rfl
  simp only[List.length_cons,List.range'_succ,wpOpsIn,J];simp only[fP]at c;split at c
  ·next D=>
   rw[kc e D];simp only[if_true];split at c
   ·next v u H=>
    refine adE B k m t e H _ _ λK y j g I=>?_;refine Ma B k Q b (i+1) x c g.na (t.mono g.le) (jy (e.mono g.le) o.dst I) λd E l A C z=>?_;exact s d E l (g.trans A) C (z.trans (put_defers a o.dst K))
   ·cases c
  ·next D=>
   rw[kc e D];simp only[false_eq_true,if_false];refine⟨λ_ _=>trivial,?_⟩;refine Ma B k Q b (i+1) x c m t (jy e o.dst (.undef β)) λd E l A C z=>?_;exact s d E l A C (z.trans (put_defers a o.dst undef))
  grind
theorem QV(m:dI P){i:bY}(k:oe P gl i){r:Option Nat}{n:Nat}{j:Nat}{ops:Array Oper}(Q:Exit->Act->World->Prop){f b:List Value}{a:Act}{h g:aa}{w:World}
  (q:fP P gl i ops ops.toList f h=some (b,g)) (l:iC β h w) (s:Gl gl β) (p:aU β f a.tmps.toList)
  (o:∀d e c,Step β h w c g e->aU c b d.tmps.toList->d.defers=a.defers->Q .normal d e):(Code.region j ops false).wpIn (ij r) n P Q a w:=by grind[wpIn_region,Ma,List.range_eq_range',Array.length_toList]
theorem Hk{F:Fence}{c:Code}{Q:Exit->Act->World->Prop}(I:Nat->Act->World->Prop)(E:∀a w,¬I 0 a w)
  (p:∀j a w,I (j+1) a w->c.wpIn F n P (Exit.then (I j) Q) a w) {j:Nat} {a:Act} {w:World} (s:I j a w):(Code.loop c).wpIn F n P Q a w:=by
 intro b k cs A r y;have z:∀j a w,I j a w->∃e o m,Q e o m/\ArrivesIn (Machine.fenced P F) P (lone (b.atR a (.code c :: .inLoop c::k)) cs w) b k cs e o m:=by
  intro j
  induction j with
  |zero=>grind
  | succ j C=>
   intro a w B;obtain⟨e,f,g,h,d⟩:=p j a w B b (.inLoop c::k) cs A r y
   cases e with
   |normal=>
    obtain⟨v,u,t,q,i⟩:=C f g h;exact⟨v,u,t,q,.of_steps (StepsIn.trans d (.one (fenced_calm r y rfl) stepR_inLoop)) i⟩
   |exit D=>exact⟨_,f,g,h,.pass (x:= .inLoop c) rfl (λ_ _=> .inl (by simp)) d⟩
   |goto l=>exact⟨_,f,g,h,.pass (x:= .inLoop c) rfl (λ_ _=> .inl (by simp)) d⟩
   |ret=>exact⟨_,f,g,h,.pass (x:= .inLoop c) rfl (λ_ _=> .inl (by simp)) d⟩
   |panic G=>exact⟨_,f,g,h,.pass (x:= .inLoop c) rfl (λ_ _=> .inl (by simp)) d⟩
   |outgrown=>exact⟨_,f,g,h,.pass (x:= .inLoop c) rfl (λ_ _=> .inl (by simp)) d⟩
 obtain⟨e,o,m,h,d⟩:=z j a w s;exact⟨e,o,m,h,.of_steps (.one (fenced_calm r y rfl) stepR_loop) d⟩
def kh(P:Program)(gl:Nat->Bool)(k:bY)(c:Code):Prop:=
 ∀g ops,c = .region g ops true->∀β i b (a:Act) h j (w:World) (r:Option Nat) (n:Nat) (Q:Exit->Act->World->Prop),yN P gl k ops i h=some (b,j)->iC β h w->Gl gl β->aU β i a.tmps.toList->
  (∀e f d,Step β h w d j f->aU d b e.tmps.toList->e.defers=a.defers->Q .normal e f)->(Code.region g ops true).wpIn (ij r) n P Q a w
inductive Part:Code->Code->Prop where
 |refl (c:Code):Part c c
 |MC {c a b:Code} (h:Part c a):Part c (.seq a b)
 |GV {c a b:Code} (h:Part c b):Part c (.seq a b)
 |aag {c a b:Code} {o:Operand} (h:Part c a):Part c (.cond o a b)
 |aae {c a b:Code} {o:Operand} (h:Part c b):Part c (.cond o a b)
 |block {c a:Code} {id:Nat} (h:Part c a):Part c (.block id a)
 |loop {c a:Code} (h:Part c a):Part c (.loop a)
def Ge(b:Nat):Deferred:={ target:= .collected b,args:= #[] }
def Marks(w:World)(e:List Deferred)(β:cI)(h:aa)(c:World)(d:List Deferred):Prop:=
 ∃a:List Nat,d=a.map Ge++e/\a.Nodup/\∀b∈a,w.heap.size<=b/\b<c.heap.size/\c.heap[b]?=some (.deferred (some []))/\¬Wr β h b
theorem Marks.same{w c:World}{b a:List Deferred}{h:aa}(e:a=b):Marks w b β h c a:=⟨[],by grind,by simp,by simp⟩
theorem Marks.trans{c:cI}{d f:World}{p i j:List Deferred}(m:Marks W p J h d i)(B:W.heap.size<=d.heap.size)(n:Step J h d c g f)(y:Marks d i c g f j):Marks W p c g f j:=by
 obtain⟨u,rfl,t,s⟩:=m;obtain⟨o,rfl,r,z⟩:=y;refine⟨o++u,by simp,List.nodup_append.2 ⟨r,t,λa C b A e=>?_⟩,λb k=>?_⟩
 ·grind
 ·rcases List.mem_append.1 k with k|k
  ·grind
  ·obtain⟨w,l,v,q⟩:=s b k;exact⟨w,lt_of_lt_of_le l n.size,(n.kept b l q).trans v,λx=>q (n.back b l x)⟩
theorem ML(a:iC β h W)(o:Obj):Step β h W β h (W.alloc o):=by
 have d:∀b,b<W.heap.size->(W.alloc o).heap[b]?=W.heap[b]?:=λb e=>by
  show(W.heap.push o)[b]?=_;rw[getElem?_push,if_neg (by omega)]
 refine⟨β.le_refl,Nat.le_refl _,⟨λk c d=>⟨(a.lt k c d).1,?_⟩,λk B c g f=>(a.blk k B c g f).of_heap (d _ (a.lt k c f).2),a.own,a.wf⟩,?_,rfl,⟨rfl,Nat.le_refl _⟩,rfl,λb e _=>d b e,λ_ _ h=>h,λ_ _ h=> .inl h,λ_ B h _=>⟨B,h⟩⟩
 ·have:=(a.lt k c d).2;simp;omega
 simp
theorem Rg(f:iC β h W){tm:List Value}{r:Loop}(n:r.state = .ready)(l:r.pending=none)(m:aU β tm r.tmps.toList)(e:jP r.assign r.body=true):
  ∃a,Step β h W a (h.push (.loop .ready tm r.params.toList r.assign r.body e)) (W.alloc (.loop r))/\∃c,a h.next=some c/\c.b=W.heap.size:=by
 have i:oQ β W (.loop .ready tm r.params.toList r.assign r.body e) (λk=> .func (.yield k) #[] #[]) (.func (.yield W.heap.size) #[] #[]) (W.alloc (.loop r)):=by
  refine⟨by simp,rfl,⟨rfl,Nat.le_refl _⟩,rfl,λb o=>?_,⟨W.heap.size,0,0,0,0,true⟩,rfl,λa k d j=>⟨⟨rfl,r,World.alloc_heap_new W _,⟨n,l⟩,m.mono d,rfl,rfl,rfl⟩,?_⟩⟩
  ·show(W.heap.push _)[b]?=_;rw[getElem?_push,if_neg (by omega)]
  ·exact .yield (sl:=⟨W.heap.size,0,0,0,0,true⟩) j rfl rfl
 obtain⟨a,q,g⟩:=i.step f;obtain⟨c,p,s⟩:=g.Ei
 grind
theorem Rf{z:World}(m:iC β h W){k:Nat}{g:bu}{n:Slot}(C:h.get k=some g)(y:β k=some n)(B:g.wr=true)(l:At W z n.b):Step β h W β (h.del k) z:=by
 have i:∀a e,(h.del k).get a=some e->a≠k/\h.get a=some e:=λa e q=>by
  rw[h.dt]at q;split at q
  ·cases q
  ·next f=>exact⟨f,q⟩
 have x:∀a e c,a≠k->h.get a=some e->β a=some c->c.b≠n.b:=λa e c f d j=>(m.own k a g e n c (Ne.symm f) C d y j B).symm;refine⟨β.le_refl,Nat.le_refl _,⟨?_,?_,?_,aa.Ni m.wf k⟩,by rw[l.size];exact Nat.le_refl _,l.os,l.tape,l.output,?_,?_,λ_ _ h=> .inl h,?_⟩
 ·intro a c d;rw[l.size];exact m.lt a c d
 ·intro a e c d j;obtain⟨f,d⟩:=i _ _ d;exact(m.blk a e c d j).of_heap (l.kept _ (x a e c f d j))
 ·intro u v r t p o f d j s w E;exact m.own u v r t p o f (i _ _ d).2 (i _ _ j).2 s w E
 ·intro b A D;refine l.kept b ?_;rintro rfl;exact D ⟨k,g,n,C,B,y,rfl⟩
 ·rintro b A ⟨a,e,c,d,j,s,w⟩;exact⟨a,e,c,(i _ _ d).2,j,s,w⟩
 grind
theorem xd(w:World)(b:Nat)(o:Obj):At w (w.putObj b o) b:=⟨by simp,rfl,.refl _,rfl,λc a=>World.putObj_heap_other a⟩
theorem yK{P:Program}(h:qH P f=true):∃a,P.funcs[f]?=some a/\a.body.isSome=true:=by grind[qH]
theorem Gu{a:Bool}(h:(a&&b)=true):a=true:=by grind
theorem Ob{a:Bool}(h:(a&&b)=true):b=true:=by grind
theorem vf(hN:dI P){cf:bY}(z9:oe P gl cf){r:Option Nat}{n N:Nat}:∀(c:Code),(r=none\/lW c=true)->(∀d,Part d c->kh P gl cf d)->∀{β:cI}{H F:List Value}{a:Act}{h T:aa}{w:World}{e:Exit}(Q:Exit->Act->World->Prop),
  aQ P gl cf N c H h=some (e,F,T)->iC β h w->Gl gl β->aU β H a.tmps.toList->
  (∀a' w' X,Step β h w X T w'->aU X F a'.tmps.toList->Marks w a.defers X T w' a'.defers->Q e a' w')->c.wpIn (ij r) n P Q a w:=by
 intro c
 induction c with
 |skip=>
  intro p q β H F a h T w e Q i v A u C;simp only[aQ,Option.some.injEq,Prod.mk.injEq]at i;obtain⟨rfl,rfl,rfl⟩:=i;exact wpIn_skip (C a w β (Step.refl v) u (.same rfl))
 |region id ops u5=>
  intro p q β H F a h T w e Q i v A u C
  cases u5
  ·simp only[aQ]at i;obtain⟨⟨x1,L⟩,y8,U⟩:=map_eq_some_iff.1 i;simp only[Prod.mk.injEq]at U;obtain⟨rfl,rfl,rfl⟩:=U;exact QV hN z9 Q y8 v A u λa' w' X K L h3=>C a' w' X K L (.same h3)
  ·simp only[aQ]at i;obtain⟨⟨x1,L⟩,y8,U⟩:=map_eq_some_iff.1 i;simp only[Prod.mk.injEq]at U;obtain⟨rfl,rfl,rfl⟩:=U;exact q _ (.refl _) id ops rfl β H x1 a h L w r n Q y8 v A u λa' w' X K L h3=>C a' w' X K L (.same h3)
 | seq x y y0 y6=>
  intro p q β H F a h T w e Q i v A u C;simp only[aQ]at i;refine wpIn_seq ?_;split at i
  ·next x5 K hx=>
   refine y0 (p.imp id Gu) (λd G=>q d (.MC G)) _ hx v A u λa1 Z z m V R=>?_;exact y6 (p.imp id Ob) (λd G=>q d (.GV G)) _ i m.na (A.mono m.le) V λa2 w2 x3 J x2 x4=>C a2 w2 x3 (m.trans J) x2 (R.trans m.size J x4)
  ·next u0=>
   refine y0 (p.imp id Gu) (λd G=>q d (.MC G)) _ i v A u λa1 Z z m V R=>?_;have:=C a1 Z z m V R
   cases e with
   |normal=>grind
   |_=>exact this
 | cond o x y y0 y6=>
  intro p q β H F a h T w e Q i v A u C;simp only[aQ]at i;split at i
  ·next t v1=>
   have hc:a.eval o = .bool t:=by
    have:=xu (β:=β) A u o;rw[v1]at this;exact this.iF
   cases t
   ·exact wpIn_cond hc (y6 (p.imp id Ob) (λd G=>q d (.aae G)) Q i v A u C)
   ·exact wpIn_cond hc (y0 (p.imp id Gu) (λd G=>q d (.aag G)) Q i v A u C)
  grind
 | block id x ih=>
  intro p q β H F a h T w e Q i v A u C;simp only[aQ]at i;refine wpIn_block ?_;split at i
  ·next v8 x5 K hx=>
   refine ih p (λd G=>q d (.block G)) _ hx v A u λa1 Z z m V R=>?_;split at i
   ·next U=>
    simp only[Option.some.injEq,Prod.mk.injEq]at i;obtain⟨rfl,rfl,rfl⟩:=i;simp only[Exit.inBlock,U,if_true]
    grind
   ·next U=>
    simp only[Option.some.injEq,Prod.mk.injEq]at i;obtain⟨rfl,rfl,rfl⟩:=i;simp only[Exit.inBlock,U,if_false]
    grind
  ·next u0=>
   refine ih p (λd G=>q d (.block G)) _ i v A u λa1 Z z m V R=>?_;have:=C a1 Z z m V R
   cases e with
   |exit v8=>grind
   |_=>exact this
 | loop x ih=>
  intro p q β H F a h T w e Q i v A u C;simp only[aQ]at i;refine Hk (λj a1 Z=>∃z x5 K,Step β h w z K Z/\aU z x5 a1.tmps.toList/\Marks w a.defers z K Z a1.defers/\iter (aQ P gl cf N x) j x5 K=some (e,F,T)) ?_ ?_ (j:=N) ⟨β,H,h,Step.refl v,u,.same rfl,i⟩
  ·grind[iter]
  ·rintro j a1 Z ⟨z,x5,K,m,V,R,x8⟩;simp only[iter]at x8;split at x8
   ·next x1 L hx=>
    refine ih p (λd G=>q d (.loop G)) _ hx m.na (A.mono m.le) V λa2 w2 x3 J x2 x4=>?_;exact⟨x3,x1,L,m.trans J,x2,R.trans m.size J x4,x8⟩
   ·next u0=>
    refine ih p (λd G=>q d (.loop G)) _ x8 m.na (A.mono m.le) V λa2 w2 x3 J x2 x4=>?_;have:=C a2 w2 x3 (m.trans J) x2 (R.trans m.size J x4)
    cases e with
    |normal=>grind
    |_=>exact this
 |exit id=>
  intro p q β H F a h T w e Q i v A u C;simp only[aQ,Option.some.injEq,Prod.mk.injEq]at i;obtain⟨rfl,rfl,rfl⟩:=i;exact wpIn_exit (C a w β (Step.refl v) u (.same rfl))
 |ret=>
  intro p q β H F a h T w e Q i v A u C;simp only[aQ,Option.some.injEq,Prod.mk.injEq]at i;obtain⟨rfl,rfl,rfl⟩:=i;exact wpIn_ret (C a w β (Step.refl v) u (.same rfl))
 |label l=>
  intro p q β H F a h T w e Q i v A u C;simp only[aQ,Option.some.injEq,Prod.mk.injEq]at i;obtain⟨rfl,rfl,rfl⟩:=i;exact wpIn_label (C a w β (Step.refl v) u (.same rfl))
 | rangeFunc f Y x y _ _=>
  intro p q β H F a h T w e Q i v A u C;rcases p with rfl|p
  ·simp only[aQ]at i;split at i
   ·next g first x7 v6=>
    split at i
    ·next y3=>
     split at i
     ·next u3=>
      split at i
      ·next v2 L z4=>
       obtain⟨e2,E,U⟩:=map_eq_some_iff.1 i;simp only[Prod.mk.injEq]at U;obtain⟨rfl,rfl,rfl⟩:=U;refine wpIn_rangeFunc λO w7=>?_;have z6:Step β h w β h (w.alloc (.deferred (some []))):=ML v _;obtain⟨z,m,sl,u2,u4⟩:=Rg z6.na (tm:=H) (r:={ state:= .ready,pending:=none,fn:=O,tmps:=a.tmps,params:=Y,assign:=x,body:=y,defers:=w.heap.size }) rfl rfl u y3;have M:=z6.trans m;have hf:=xu (β:=β) A u f;rw[v6]at hf;obtain⟨S,D,u8,v7,v4⟩:=hf.Tx;have x0:sl.b=w.heap.size+1:=by rw[u4];simp
       have z2:aU z (first.toList++[Value.func (.yield h.next) #[] #[]]++x7.toList) (S ++ #[Value.func (.yield (w.heap.size+1)) #[] #[]]++D).toList:=by
        simp only[Array.toList_append];refine(((gN.toList.1 v7).mono M.le).append ?_).append ((gN.toList.1 v4).mono M.le);exact .cons (by have:=aB.yield u2 (a:= #[]) (c:= #[]) rfl rfl;rwa[x0]at this) (.nil _)
       obtain⟨fn,z7,u6⟩:=z9.fn g _ _ _ L u3.1 z4 z _ _ m.na (A.mono M.le) z2;obtain⟨w8,y7,z3⟩:=yK u3.2;rw[y7]at z7;obtain rfl:=oI z7;have y9:=eB hN y7 z3 (S ++ #[Value.func (.yield (w.heap.size+1)) #[] #[]]++D);have y5:Calls P g (S ++ #[Value.func (.yield (w.heap.size+1)) #[] #[]]++D) ((w.alloc (.deferred (some []))).alloc (.loop { state:= .ready,pending:=none,fn:=O,tmps:=a.tmps,params:=Y,assign:=x,body:=y,defers:=w.heap.size })) (nS z (h.push (.loop .ready H Y.toList x y y3)) ((w.alloc (.deferred (some []))).alloc (.loop { state:= .ready,pending:=none,fn:=O,tmps:=a.tmps,params:=Y,assign:=x,body:=y,defers:=w.heap.size })) v2 L):=by
        rcases u6 with⟨_,hc⟩|⟨v',w',X,hc,_⟩
        ·exact hc
        ·rw[y9]at hc;cases hc
       have y1:(Instr.enterLoop O a.tmps Y x y (ij none).round).run P w = .ok (w.heap.size+1,[Ge w.heap.size]) ((w.alloc (.deferred (some []))).alloc (.loop { state:= .ready,pending:=none,fn:=O,tmps:=a.tmps,params:=Y,assign:=x,body:=y,defers:=w.heap.size })):=run_enterLoop_outer O a.tmps Y x y;have z1:(resolve a.eval (rangeCall f (w.heap.size+1)) 0).run P ((w.alloc (.deferred (some []))).alloc (.loop { state:= .ready,pending:=none,fn:=O,tmps:=a.tmps,params:=Y,assign:=x,body:=y,defers:=w.heap.size })) = .ok { target:= .fn (.func g) D,args:=S ++ #[Value.func (.yield (w.heap.size+1)) #[] #[]] } ((w.alloc (.deferred (some []))).alloc (.loop { state:= .ready,pending:=none,fn:=O,tmps:=a.tmps,params:=Y,assign:=x,body:=y,defers:=w.heap.size })):=by
        have U:resolve a.eval (rangeCall f (w.heap.size+1)) 0=Deferred.ofValue (a.eval f) #[Value.func (.yield (w.heap.size+1)) #[] #[]]:=by
         unfold resolve rangeCall;simp only[List.map_toArray,List.map_cons,List.map_nil];rfl
        rw[U,u8];rfl
       refine⟨_,_,_,_,_,g,_,_,y1,z1,λ_ _=>trivial,y9 _,λG=>by simp[ij,Fence.wide]at G,sT (y5.mono ?_)⟩;rintro e' w3 ⟨v',x9,rfl,I,w4⟩
       cases hB:L.get h.next with
       |none=>rw[hB]at E;cases E
       | some B=>
        rw[hB]at E;have y4:=I.le _ _ u2
        cases B with
        |cells _ _ _ _=>cases E
        |map _=>cases E
        | loop st x1 w5 w0 v9 w6=>
         obtain⟨_,r,z8,x6,_⟩:=I.na.blk _ _ _ hB y4;rw[x0]at z8;have v3:Marks w a.defers x9 (L.del h.next) (w3.putObj (w.heap.size+1) (.loop { r with state:= .exhausted })) ([Ge w.heap.size]++a.defers):=by
          have u1:¬Wr z (h.push (.loop .ready H Y.toList x y y3)) w.heap.size:=λhw=>by
           have:=m.back w.heap.size (by simp) hw;obtain⟨k,B,z0,_,_,h3,h4⟩:=this;have:=(v.lt k z0 h3).2;omega
          have y2:w.heap.size<((w.alloc (.deferred (some []))).alloc (.loop { state:= .ready,pending:=none,fn:=O,tmps:=a.tmps,params:=Y,assign:=x,body:=y,defers:=w.heap.size })).heap.size:=by simp;omega
          refine⟨[w.heap.size],rfl,by simp,λb hb=>?_⟩;obtain rfl:=List.mem_singleton.1 hb;refine⟨Nat.le_refl _,?_,?_,λhw=>?_⟩
          ·rw[World.putObj_size];exact lt_of_lt_of_le y2 I.size
          ·rw[World.putObj_heap_other (by omega),I.kept _ y2 u1];show((w.heap.push _).push _)[w.heap.size]?=_;rw[getElem?_push,if_neg (by simp),getElem?_push,if_pos rfl]
          ·obtain⟨k,B,z0,K,u9,h3,h4⟩:=hw;refine u1 (I.back _ y2 ⟨k,B,z0,?_,u9,h3,h4⟩);rw[aa.dt]at K;split at K
           ·cases K
           ·exact K
         have z5:Step x9 L w3 x9 (L.del h.next) (w3.putObj (w.heap.size+1) (.loop { r with state:= .exhausted })):=Rf I.na hB y4 rfl (by rw[x0];exact xd _ _ _);have u7:=(M.trans I).trans z5;have v5:=u.mono (M.trans I).le;have W:=C { a with defers:=[Ge w.heap.size]++a.defers } _ x9 u7 v5 v3;have v0:r.state≠ .busy:=by
          cases st<;>simp only[Ky]at x6<;>first|(rw[x6.1];simp;done)|cases E
         refine⟨r.pending,_,run_endLoop z8 v0,?_⟩
         cases st with
         |ready=>
          obtain rfl:=oI E;have hp:r.pending=none:=x6.2;rw[hp]at W⊢;exact W
         |busy=>cases E
         |ret=>
          obtain rfl:=oI E;have hp:r.pending=some .ret:=x6.2;rw[hp]at W⊢;exact wpIn_ret W
         |exit id=>
          obtain rfl:=oI E;have hp:r.pending=some (.exit id):=x6.2;rw[hp]at W⊢;exact wpIn_exit W
      ·cases i
     ·cases i
    ·cases i
   grind
  ·cases p
 |scope x _=>grind[aQ]
 |goto l=>grind[aQ]
 |refuse s=>grind[aQ]
end
end Go.Ab
end
