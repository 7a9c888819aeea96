/- Laws and walks that the proof leans on (part 1): AbEval; AbEnv; AbFast; AbRel; AbPure; AbPure2 and others. No condition. -/
import GoSem.Dispatch
import GoSem.Machine.Frame
import GoSem.Machine.Return
import Derived.CallsIn
import Derived.Laws.Tables
import Derived.KernelRfl
import Derived.Laws.Sem
import Derived.Laws.World
import Derived.Laws.Cells
import Derived.Laws.Entries
import Derived.Laws.Strings
import Derived.Laws.StructEq
import Derived.Laws.Small
import Derived.Laws.BytesString
import Derived.Laws.BitsLemmas
import Derived.Laws.Append
import Derived.Lib.UnsafeStr
import Derived.Lib.Builder
set_option linter.unusedVariables false
set_option linter.unusedSimpArgs false
set_option maxRecDepth 100000
open List (all_eq_true getElem?_append_left getElem?_append_right getElem?_drop getElem?_take)
open Nat (add_assoc add_mul)
open Option (map_eq_some_iff map_some)
open Array (getElem?_eq_getElem getElem?_toList)
open Bool (and_eq_true false_eq_true)
open Go.Result (andThen_ok)
open Go.Sem (run_bind run_ite)
open Go.IntKind (wrap_i64)
section
namespace Go
theorem dT{p:Prop} [Decidable p] (h:decide p=true):p:=of_decide_eq_true h
theorem dF{p:Prop} [Decidable p] (h:decide p=false):¬p:=of_decide_eq_false h
theorem oI{α:Type} {a b:α} (h:some a=some b):a=b:=Option.some.inj h
theorem gE{α:Type} {l:List α} {i:Nat} (h:i<l.length):l[i]? =some l[i]:=List.getElem?_eq_getElem h
theorem gD{α:Type} {l:List α} {i:Nat} {a:α}:l.getD i a=l[i]?.getD a:=List.getD_eq_getElem?_getD
theorem lM{α β:Type} {as:List α} (f:α→β):(as.map f).length=as.length:=List.length_map f
end Go
namespace Go.Ab
noncomputable section
def cj(bs:List Nat)(j i:Nat):Bool:=(bs.getD j 0).testBit i
def eL(ops:Array Oper):List Nat:=(Region.before ops).toList
def yf:List Oper->Nat->Bool
 |[],_=>true
 |o::r,j=>(o.after.toList.all λe=>decide (e.on<j)||(!Region.binds .any e && !Region.binds .text e))&&yf r (j+1)
def m6(bs:List Nat)(j:Nat)(t:Tmp):List Oper->Nat->Bool
 |[],_=>true
 |o::r,i=>(match o.dst with|some d=>decide (d≠t)||decide (i=j)||cj bs j i||cj bs i j|none=>true)&&m6 bs j t r (i+1)
def zb(bs:List Nat)(all:List Oper):List Oper->Nat->Bool
 |[],_=>true
 |o::r,j=>(o.op.operands.toList.all fun|.tmp t=>m6 bs j t all 0|_=>true)&&(match o.guard with|some (i,_)=>cj bs j i|none=>true)&&zb bs all r (j+1)
def qV:List Oper->Nat->Bool
 |[],_=>true
 |o::r,m=>match o.dst with
  |some d=> !m.testBit d&&qV r (m|||2^d)
  |none=>qV r m
def C0(ops:Array Oper):Bool:=
 yf ops.toList 0&&qV ops.toList 0&&(!Region.departs ops||(Region.linearise .gc ops 0).length==ops.size)&&zb (eL ops) ops.toList ops.toList 0
def bp:Code->Bool
 |.region _ ops true=>C0 ops
 |.seq a b=>bp a&&bp b
 |.cond _ a b=>bp a&&bp b
 |.block _ a=>bp a
 |.loop a=>bp a
 |_=>true
def iY:Code->Bool
 |.seq a b=>iY a&&iY b
 |.cond _ a b=>iY a&&iY b
 |.block _ a=>iY a
 |.loop a=>iY a
 |.rangeFunc .. =>false
 |_=>true
def gV(asg body:Code):Bool:=bp asg&&bp body&&iY asg&&iY body
inductive Kh where
 |ready
 |busy
 |ret
 |exit (id:Nat)
def YB:Nat:=4611686018427387904
inductive bt where
 |cells (cs:List Value) (t:TypeId) (sz:Nat) (wr:Bool)
 |map (es:List (Value×Value))
 |loop (st:Kh) (tm:List Value) (ps:List Tmp) (asg body:Code) (ok:gV asg body=true)
 deriving Inhabited
inductive HT where
 |nil
 |node (v:Option bt) (l r:HT)
 deriving Inhabited
inductive yb where
 |e
 |l (p:yb)
 |r (p:yb)
noncomputable def uA(f:Nat):Nat->yb:=
 Nat.rec (motive:=λ_=>Nat->yb) (λ_=> .e) (λ_ ih n=>Nat.rec (motive:=λ_=>yb) .e (λk _=>Nat.rec (motive:=λ_=>yb) (.l (ih (k/2))) (λ_ _=> .r (ih (k/2))) (k%2)) n) f
noncomputable def pathOf(n:Nat):yb:=uA (n+1) n
noncomputable def HT.NM(t:HT):Option bt:=HT.rec (motive:=λ_=>Option bt) none (λv _ _ _ _=>v) t
noncomputable def HT.SG(ih:HT->Option bt)(t:HT):Option bt:=HT.rec (motive:=λ_=>Option bt) none (λ_ l _ _ _=>ih l) t
noncomputable def HT.SH(ih:HT->Option bt)(t:HT):Option bt:=HT.rec (motive:=λ_=>Option bt) none (λ_ _ r _ _=>ih r) t
noncomputable def HT.get(p:yb):HT->Option bt:=yb.rec (motive:=λ_=>HT->Option bt) HT.NM (λ_=>HT.SG) (λ_=>HT.SH) p
noncomputable def HT.Tj(b:Option bt)(t:HT):HT:=HT.rec (motive:=λ_=>HT) (.node b .nil .nil) (λ_ l r _ _=> .node b l r) t
noncomputable def HT.Tl(ih:HT->HT)(t:HT):HT:=HT.rec (motive:=λ_=>HT) (.node none (ih .nil) .nil) (λv l r _ _=> .node v (ih l) r) t
noncomputable def HT.Tm(ih:HT->HT)(t:HT):HT:=HT.rec (motive:=λ_=>HT) (.node none .nil (ih .nil)) (λv l r _ _=> .node v l (ih r)) t
noncomputable def HT.set(b:Option bt)(p:yb):HT->HT:=yb.rec (motive:=λ_=>HT->HT) (HT.Tj b) (λ_=>HT.Tl) (λ_=>HT.Tm) p
structure aa where
 next:Nat
 t:HT
 deriving Inhabited
noncomputable def aa.get(h:aa)(k:Nat):Option bt:=h.t.get (pathOf k)
noncomputable def aa.set(h:aa)(k:Nat)(b:bt):aa:={ h with t:=h.t.set (some b) (pathOf k) }
noncomputable def aa.del(h:aa)(k:Nat):aa:={ h with t:=h.t.set none (pathOf k) }
noncomputable def aa.push(h:aa)(b:bt):aa:={ next:=h.next+1,t:=h.t.set (some b) (pathOf h.next) }
def bR:Nat:=36893488147419103232
def aX(c:Nat):Nat:=if bR<=c then c-bR else c
abbrev eu:Value:= .chan (some 0)
def cH:Value->Bool
 |.agg _|.tuple _|.chan _=>false
 |_=>true
def bare:Value->Bool
 |.bool _|.int _ _|.float _ _|.complex _ _ _|.string _|.pointer none|.slice none 0 0|.map none|.nilFunc|.nilIface=>true
 |_=>false
def plain:Value->Bool
 |.agg cs=>cs.toList.all bare
 |.tuple cs=>cs.toList.all fun|.agg ds=>ds.toList.all bare|v=>bare v
 |v=>bare v
def ev(gl:Nat->Bool)(tm:List Value):Operand->Value
 |.tmp t=>tm.getD t undef
 |.const v=>if plain v then v else eu
 |.global g=>if gl g then .pointer (some ⟨g,0,none⟩)else eu
 |.func f=> .func (.func f) #[] #[]
def isAgg(P:Program)(t:TypeId):Bool:=match P.underlying t with|some (.struct _)|some (.array ..)=>true|_=>false
def zeroOf(P:Program)(t:TypeId):Option Value:=match P.info? t with|some i=>(match i.zero with|some z=>if plain z then some z else none|none=>none)|none=>none
def aw(P:Program)(t:TypeId):Option Nat:=(P.info? t).map (·.size)
def partOf(P:Program)(t:TypeId)(cs:Array Value)(off:Nat):Option Value:=
 match P.underlying t with
 |none=>none
 |some _=>if isAgg P t then(aw P t).map λn=> .agg (cs.extract off (off+n))else cs[off]?
def strOf(l:List UInt8):Value:= .string ⟨l.toArray⟩
def intCmp(op:BinOp)(x y:Int):Option Bool:=
 match op with
 |.eql=>some (x==y)|.neq=>some (x !=y)|.lss=>some (decide (x<y))|.leq=>some (decide (x<=y))|.gtr=>some (decide (x>y))|.geq=>some (decide (x>=y))
 |_=>none
def kI:List UInt8->List UInt8->Bool
 |_,[]=>false
 |[],_::_=>true
 |a::x,b::y=>a<b||(a==b&&kI x y)
def Fe(op:BinOp)(x y:List UInt8):Option Value:=
 match op with
 |.add=>if x.length+y.length<=4611686018427387904 then some (strOf (x++y))else none
 |.eql=>some (.bool (x==y))|.neq=>some (.bool !(x==y))
 |.lss=>some (.bool (kI x y))|.leq=>some (.bool (kI x y||x==y))
 |.gtr=>some (.bool !(kI x y||x==y))|.geq=>some (.bool !(kI x y))
 |_=>none
def Qj:Value->Value->Option Bool
 |.bool a,.bool b=>some (a==b)
 |.int k a,.int k' b=>if k=k' then some (a==b)else none
 |.string a,.string b=>some (a.data.toList==b.data.toList)
 |_,_=>none
def tA(P:Program)(t:TypeId)(x y:Value):Option Bool:=
 match P.underlying t,x,y with
 |some .bool,.bool a,.bool b=>some (a==b)
 |some (.int _),.int k a,.int k' b=>if k=k' then some (a==b)else none
 |some .string,.string a,.string b=>some (a.data.toList==b.data.toList)
 |_,_,_=>none
def gR(P:Program):List Field->Nat->List Value->List Value->Option Bool
 |[],_,_,_=>some true
 |f::fs,i,x::xs,y::ys=>
  if f.offset=i/\f.name≠ "_" then
   match tA P f.type x y with
   |some true=>gR P fs (i+1) xs ys
   |some false=>some false
   |none=>none
  else none
 |_::_,_,_,_=>none
def kO(P:Program)(t:TypeId)(x y:Value):Option Bool:=
 match x,y with
 |.bool a,.bool b=>match P.underlying t with|some .bool=>some (a==b)|_=>none
 |.pointer none,.pointer b=>match P.underlying t with|some (.pointer _)=>some b.isNone|_=>none
 |.pointer a,.pointer none=>match P.underlying t with|some (.pointer _)=>some a.isNone|_=>none
 |.pointer (some a),.pointer (some b)=>match P.underlying t with|some (.pointer e)=>if a=b/\(aw P e).any (· ≠0)then some true else none|_=>none
 |.slice none _ _,.slice b _ _=>match P.underlying t with|some (.slice _)=>some b.isNone|_=>none
 |.slice a _ _,.slice none _ _=>match P.underlying t with|some (.slice _)=>some a.isNone|_=>none
 |.map none,.map b=>match P.underlying t with|some (.map ..)=>some b.isNone|_=>none
 |.map a,.map none=>match P.underlying t with|some (.map ..)=>some a.isNone|_=>none
 |.nilFunc,.nilFunc=>match P.underlying t with|some (.func ..)=>some true|_=>none
 |.nilFunc,.func .. =>match P.underlying t with|some (.func ..)=>some false|_=>none
 |.func ..,.nilFunc=>match P.underlying t with|some (.func ..)=>some false|_=>none
 |.nilIface,.iface .. =>match P.underlying t with|some (.interface _)=>some false|_=>none
 |.iface ..,.nilIface=>match P.underlying t with|some (.interface _)=>some false|_=>none
 |.agg a,.agg b=>match P.underlying t with
  |some (.struct fs)=>if P.stoodInHeld t=false/\P.eqGuardType P.depth t=false then gR P fs.toList 0 a.toList b.toList else none
  |_=>none
 |_,_=>none
def aq(P:Program)(op:BinOp)(t:TypeId)(x y:Value):Option Value:=
 match x,y with
 | .int k a,.int k' b=>
  match op with
  |.shl=>if 0<=b then some (.int k (k.wrap (a*2^(min b.toNat k.bits))))else none
  |.shr=>if 0<=b then some (.int k (a.fdiv (2^(min b.toNat k.bits))))else none
  | _=>
   if k=k' then
    match op with
    |.add=>some (.int k (k.wrap (a+b)))
    |.sub=>some (.int k (k.wrap (a-b)))
    |.mul=>some (.int k (k.wrap (a*b)))
    |.quo=>if b=0 then none else some (.int k (k.wrap (a.tdiv b)))
    |.rem=>if b=0 then none else some (.int k (a.tmod b))
    |.and=>some (.int k (k.wrap (BitVec.ofInt k.bits a&&&BitVec.ofInt k.bits b).toNat))
    |.or=>some (.int k (k.wrap (BitVec.ofInt k.bits a|||BitVec.ofInt k.bits b).toNat))
    |.xor=>some (.int k (k.wrap (BitVec.ofInt k.bits a^^^BitVec.ofInt k.bits b).toNat))
    |.andNot=>some (.int k (k.wrap (BitVec.ofInt k.bits a &&& ~~~BitVec.ofInt k.bits b).toNat))
    |op=>(intCmp op a b).map .bool
   else none
 |.string a,.string b=>Fe op a.data.toList b.data.toList
 |x,y=>match op with
  |.eql=>(kO P t x y).map .bool
  |.neq=>(kO P t x y).map λb=> .bool !b
  |_=>none
def xM(op:UnOp)(x:Value):Option Value:=
 match op,x with
 |.neg,.int k n=>some (.int k (k.wrap (0-n)))
 |.xor,.int k n=>some (.int k (k.wrap (BitVec.ofInt k.bits (if k.signed then -1 else k.max)^^^BitVec.ofInt k.bits n).toNat))
 |.not,.bool b=>some (.bool !b)
 |_,_=>none
def dy:Option Value->Nat->Option Int
 |none,d=>some d
 |some (.int _ n),_=>some n
 |some _,_=>none
def cA(P:Program)(t:TypeId)(x:Value)(lo hi mx:Option Value)(h:aa):Option Value:=
 match x with
 | .string s=>
  match P.underlying t with
  |some .string=>match mx,dy lo 0,dy hi s.data.toList.length with
   |none,some l,some r=>if 0<=l/\l<=r/\r<=(s.data.toList.length:Int)then some (strOf ((s.data.toList.drop l.toNat).take (r-l).toNat))else none
   |_,_,_=>none
  |_=>none
 | .slice none 0 0=>
  match P.underlying t with
  |some (.slice e)=>match mx,dy lo 0,dy hi 0,aw P e with
   |none,some 0,some 0,some _=>some (.slice none 0 0)
   |_,_,_,_=>none
  |_=>none
 | .slice (some ⟨k,i,none⟩) len cap=>
  match P.underlying t with
  | some (.slice e)=>match dy lo 0,dy hi len,aw P e,h.get k with
   | some l,some r,some sz,some (.cells _ _ sz' _)=>
    if sz'=sz\/sz'=0 then
     match mx with
     |none=>if 0<=l/\l<=r/\r<=(aX cap:Int)then some (.slice (some ⟨k,i+l.toNat*sz,none⟩) (r-l).toNat (cap-l.toNat))else none
     |some (.int _ m)=>if 0<=l/\l<=r/\r<=m/\m<=(aX cap:Int)/\m<bR/\hi.isSome=true then some (.slice (some ⟨k,i+l.toNat*sz,none⟩) (r-l).toNat (m-l).toNat)else none
     |some _=>none
    else none
   |_,_,_,_=>none
  |_=>none
 | .pointer (some ⟨k,i,none⟩)=>
  match P.underlying t with
  | some (.array n e)=>match mx,dy lo 0,dy hi n,aw P e,h.get k with
   |none,some l,some r,some sz,some (.cells _ _ 0 _)=>
    if 0<=l/\l<=r/\r<=(n:Int)/\n<bR then some (.slice (some ⟨k,i+l.toNat*sz,none⟩) (r-l).toNat (n-l.toNat))else none
   |_,_,_,_,_=>none
  |_=>none
 |_=>none
def uk:Value->Bool
 |.chan _=>false
 |_=>true
def bL(P:Program)(t:TypeId)(parts:List (Nat×Value)):Option Value:=
 match zeroOf P t with
 |some _=>if parts.all λp=>uk p.2 then(P.built t parts).map .agg else none
 |none=>none
def dC(P:Program)(src dst:TypeId)(x:Value):Option Value:=
 match P.underlying src,P.underlying dst,x with
 |some _,some (.int k),.int _ n=>some (.int k (k.wrap n))
 |some _,some .string,.string s=>some (.string s)
 |some (.pointer _),some .unsafePointer,.pointer none=>some x
 |some .unsafePointer,some (.pointer _),.pointer none=>some x
 |_,_,_=>none
def mc(mx:Bool):List Value->Option Value
 |[]=>none
 |x::rest=>rest.foldlM (λx y=>match x,y with
  |.int k x,.int k' y=>if k=k' then some (.int k (if mx then(if y>x then y else x)else(if y<x then y else x)))else none
  |_,_=>none) x
def aK(P:Program)(ρ:Operand->Value)(o:Oper):Option Value:=
 match o.op with
 |.move x|.assign x=>some (ρ x)
 |.pick c a b=>match ρ c with|.bool t=>some (if t then ρ a else ρ b)|_=>none
 |.build t parts=>bL P t (parts.toList.map λp=>(p.1,ρ p.2))
 |.nilCheck x=>match ρ x with
  |.pointer none|.nilIface|.nilFunc=>none
  |.func (.method _) _ _=>none
  |.chan _=>none
  |v=>some v
 |.binOp op t x y _=>aq P op t (ρ x) (ρ y)
 |.unOp op _ x=>xM op (ρ x)
 |.convert s d x=>dC P s d (ρ x)
 |.makeInterface t x=>match P.underlying t with|some (.interface _)|none=>none|some _=>some (.iface t (ρ x))
 |.makeFunc fn first captured=>match fn with
  |.yield _=>none
  |fn=>some (.func fn (first.map ρ) (captured.map ρ))
 | .fieldAddr s x f=>match P.underlying s,ρ x with
  |some (.struct fields),.pointer (some a)=>match fields[f]? with
   |some fd=>if(aw P fd.type).any (· ≠0)then some (.pointer (some (a.add fd.offset)))else none
   |none=>none
  |_,_=>none
 | .field t x f=>match P.underlying t,ρ x with
  |some (.struct fields),.agg cs=>match fields[f]? with
   |some fd=>partOf P fd.type cs fd.offset
   |none=>none
  |_,_=>none
 | .indexAddr t x i=>match P.underlying t,ρ x,ρ i with
  |some (.array len e),.pointer (some a),.int _ j=>match aw P e with
   |some n=>if 0<=j/\j<(len:Int)then some (.pointer (some (a.add (j.toNat*n))))else none
   |none=>none
  |some (.slice e),.slice (some a) len _,.int _ j=>match aw P e with
   |some n=>if 0<=j/\j<(len:Int)then some (.pointer (some (a.add (j.toNat*n))))else none
   |none=>none
  |_,_,_=>none
 | .index t x i=>match P.underlying t,ρ x,ρ i with
  |some (.array len e),.agg cs,.int _ j=>match aw P e with
   |some n=>if 0<=j/\j<(len:Int)then partOf P e cs (j.toNat*n)else none
   |none=>none
  |some .string,.string s,.int _ j=>if 0<=j then match s.data.toList[j.toNat]? with|some b=>some (.int .u8 b.toNat)|none=>none else none
  |_,_,_=>none
 |.typeAssert x _ u ok=>match P.underlying u,ρ x with
  |some (.interface _),_|none,_=>none
  |some _,.nilIface=>if ok then(zeroOf P u).map λz=> .tuple #[z,.bool false]else none
  |some _,.iface t v=>if t=u then some (if ok then .tuple #[v,.bool true]else v)else if ok then(zeroOf P u).map λz=> .tuple #[z,.bool false]else none
  |_,_=>none
 |.extract x i=>match ρ x with|.tuple vs=>vs[i]?|_=>none
 |.call { callee:= .builtin .max,args,.. }=>mc true (args.toList.map ρ)
 |.call { callee:= .builtin .min,args,.. }=>mc false (args.toList.map ρ)
 | .call { callee:= .builtin .cap,args,argTypes }=>match args[0]?,argTypes[0]? with
  |some x,some t=>match P.underlying t,ρ x with
   |some (.slice _),.slice _ _ c=>if c<bR then some (.int .i64 c)else none
   |_,_=>none
  |_,_=>none
 |_=>none
def bytesOf:List Value->Option (List UInt8)
 |[]=>some []
 |.int .u8 n::r=>if 0<=n/\n<256 then(bytesOf r).map (UInt8.ofNat n.toNat::·)else none
 |_=>none
def ag(P:Program)(t:TypeId)(h:aa)(a:Value):Option Value:=
 match P.underlying t,a with
 | some _,.pointer (some ⟨k,i,none⟩)=>match h.get k with
  | some (.cells cs ..)=>
   if isAgg P t then
    match aw P t with
    |some n=>if((cs.drop i).take n).length=n then some (.agg ((cs.drop i).take n).toArray)else none
    |none=>none
   else cs[i]?
  |_=>none
 |_,_=>none
def rH:Value->Bool
 |.bool _|.int _ _|.string _=>true
 |_=>false
def qL:Value->Bool
 |.agg cs=>cs.toList.all rH
 |v=>rH v
def BL:Value->Value->Bool
 |.bool a,.bool b=>a==b
 |.int k a,.int k' b=>decide (k=k')&&decide (a=b)
 |.string a,.string b=>decide (a.data.toList=b.data.toList)
 |_,_=>false
def xl:List Value->List Value->Bool
 |[],[]=>true
 |a::x,b::y=>BL a b&&xl x y
 |_,_=>false
def E8:Value->Value->Bool
 |.agg a,.agg b=>xl a.toList b.toList
 |a,b=>BL a b
def Ih(P:Program)(e:TypeId->Value->Value->Option Bool)(a b:Array Value):List Field->Option Bool
 |[]=>some true
 |f::fs=>if f.name≠ "_" then(match partOf P f.type a f.offset,partOf P f.type b f.offset with
  |some p,some q=>(match e f.type p q with
   |some true=>Ih P e a b fs
   |some false=>some false
   |none=>none)
  |_,_=>none)else none
def fX(P:Program):Nat->TypeId->Value->Value->Option Bool
 |0,_,_,_=>none
 |d+1,t,x,y=>match P.underlying t,x,y with
  |some (.struct fs),.agg a,.agg b=>if P.stoodInHeld t=false then Ih P (fX P d) a b fs.toList else none
  |_,x,y=>tA P t x y
def Ez(P:Program)(c:TypeId->Value->Bool)(a:Array Value):List Field->Bool
 |[]=>true
 |f::fs=>decide (f.name≠ "_")&&(match partOf P f.type a f.offset with|some p=>c f.type p|none=>false)&&Ez P c a fs
def qK(P:Program):Nat->TypeId->Value->Bool
 |0,_,_=>false
 |d+1,t,v=>match P.underlying t,v with
  |some (.struct fs),.agg a=>Ez P (qK P d) a fs.toList
  |some .bool,.bool _=>true
  |some (.int _),.int _ _=>true
  |some .string,.string _=>true
  |_,_=>false
def lU(P:Program)(kt:TypeId)(k:Value):Bool:=qL k&&qK P 3 kt k
def rA(P:Program)(kt:TypeId)(a b:Value):Option Bool:=
 if qL b then match fX P 3 kt a b with
  |some true=>if E8 a b then some true else none
  |r=>r
 else none
def tK(P:Program)(kt:TypeId)(k:Value):List (Value×Value)->Option (Option Value)
 |[]=>some none
 |(k',v)::es=>match rA P kt k k' with
  |some true=>some (some v)
  |some false=>tK P kt k es
  |none=>none
def aT(P:Program)(ρ:Operand->Value)(o:Oper)(h:aa):Option Value:=
 match o.op with
 |.load t a=>ag P t h (ρ a)
 |.slice t x lo hi mx=>cA P t (ρ x) (lo.map ρ) (hi.map ρ) (mx.map ρ) h
 | .convert s d x=>match P.underlying s,P.underlying d,ρ x with
  | some (.slice e),some .string,.slice a len _=>match P.underlying e,a with
   |some (.int .u8),none=>some (strOf [])
   | some (.int .u8),some ⟨k,i,none⟩=>match h.get k with
    | some (.cells cs ..)=>
     if((cs.drop i).take len).length=len then
      (bytesOf ((cs.drop i).take len)).map strOf
     else none
    |_=>none
   |_,_=>none
  |_,_,_=>none
 | .lookup t m k ok=>match P.underlying t with
  | some (.map kt e)=>match (match ρ m with|.map none=>some []|.map (some r)=>(match h.get r with|some (.map es)=>some es|_=>none)|_=>none),zeroOf P e with
   | some es,some z=>
    if lU P kt (ρ k)then match tK P kt (ρ k) es with
     |some (some v)=>some (if ok then .tuple #[v,.bool true]else v)
     |some none=>some (if ok then .tuple #[z,.bool false]else z)
     |none=>none
    else none
   |_,_=>none
  |_=>none
 | .call { callee:= .builtin .len,args,argTypes }=>match args[0]?,argTypes[0]? with
  | some x,some t=>match P.underlying t,ρ x with
   |some .string,.string s=>some (.int .i64 s.data.toList.length)
   |some (.array n _),_=>some (.int .i64 n)
   |some (.slice _),.slice _ n _=>some (.int .i64 n)
   |some (.map ..),.map none=>some (.int .i64 0)
   |some (.map ..),.map (some r)=>match h.get r with
    |some (.map es)=>some (.int .i64 es.length)
    |_=>none
   |_,_=>none
  |_,_=>none
 |_=>none
def bC(z:List Value):Nat->List Value
 |0=>[]
 |n+1=>z++bC z n
def aJ(P:Program)(ρ:Operand->Value)(o:Oper):Option (bt×(Nat->Value)):=
 match o.op with
 |.alloc t=>match zeroOf P t with
  |some z=>if z.cells.toList.all cH then some (.cells z.cells.toList t 0 true,λk=> .pointer (some ⟨k,0,none⟩))else none
  |none=>none
 |.box t x=>if(ρ x).cells.toList.all cH then some (.cells (ρ x).cells.toList t 0 true,λk=> .pointer (some ⟨k,0,none⟩))else none
 | .buildSlice t len parts=>match P.underlying t with
  | some (.slice e)=>match aw P e,zeroOf P e with
   | some sz,some z=>
    if z.cells.size=sz/\0<sz/\len*sz<=65536 then
     match (if parts.toList.all λp=>uk (ρ p.2)then Instr.fill (λi=>some (i*sz,sz)) (bC z.cells.toList len).toArray (parts.toList.map λp=>(p.1,ρ p.2))else none)with
     |some cs=>if cs.toList.all cH then some (.cells cs.toList e sz true,λk=> .slice (some ⟨k,0,none⟩) len len)else none
     |none=>none
    else none
   |_,_=>none
  |_=>none
 | .makeSlice t l c=>match P.underlying t,ρ l,ρ c with
  | some (.slice e),.int .i64 l,.int .i64 c=>match P.info? e,zeroOf P e with
   | some i,some z=>
    if z.cells.size=i.size/\0<i.size/\0<=l/\l<=c/\c*i.bytes<=140737488355328/\c<=1099511627776 then
     some (.cells (bC z.cells.toList c.toNat) e i.size true,λk=> .slice (some ⟨k,0,none⟩) l.toNat c.toNat)
    else none
   |_,_=>none
  |_,_,_=>none
 | .makeMap t r=>match P.underlying t with
  |some (.map ..)=>match r with
   |none=>some (.map [],λk=> .map (some k))
   |some x=>match ρ x with|.int _ _=>some (.map [],λk=> .map (some k))|_=>none
  |_=>none
 | .convert s d x=>match P.underlying s,P.underlying d,ρ x with
  | some _,some (.slice e),.string s=>match P.underlying e with
   |some (.int .u8)=>match aw P e with
    |some 1=>some (.cells (s.data.toList.map λb=> .int .u8 b.toNat) e 1 true,λk=> .slice (some ⟨k,0,none⟩) s.data.toList.length (bR+s.data.toList.length))
    |_=>none
   |_=>none
  |_,_,_=>none
 |_=>none
inductive cL where
 |no
 |set (k:Nat) (b:bt)
 |push (b:bt)
 |move (k:Nat) (b:bt)
 |all (h:aa)
 deriving Inhabited
def cL.app(u:cL)(h:aa):aa:=
 match u with
 |.no=>h
 |.set k b=>h.set k b
 |.push b=>h.push b
 |.move k b=>(h.del k).push b
 |.all h'=>h'
def storeAt(h:aa)(k i:Nat)(vs:List Value):Option cL:=
 match h.get k with
 |some (.cells cs t sz true)=>if i+vs.length<=cs.length/\vs.all cH then some (.set k (.cells (cs.take i++vs++cs.drop (i+vs.length)) t sz true))else none
 |_=>none
def fw(h:aa)(sz:Nat)(x:Value):Option (List Value×Nat):=
 match x with
 |.slice none 0 _=>some ([],0)
 |.slice (some ⟨_,_,some _⟩) 0 0=>some ([],0)
 |.slice (some ⟨k,i,none⟩) n _=>match h.get k with
  |some (.cells cs ..)=>if((cs.drop i).take (n*sz)).length=n*sz then some ((cs.drop i).take (n*sz),n)else none
  |_=>none
 |.string s=>if sz=1 then some (s.data.toList.map λb=> .int .u8 b.toNat,s.data.toList.length)else none
 |_=>none
def e9(P:Program)(e:TypeId):Option TypeInfo:=
 match P.info? e,zeroOf P e with
 |some i,some z=>if z.cells.size=i.size/\0<i.size then some i else none
 |_,_=>none
def dm(P:Program)(t:TypeId):Bool:=match P.underlying t with|some (.slice _)|some .string=>true|_=>false
def gQ(h:aa)(e:TypeId)(sz bytes:Nat)(k j n c m:Nat)(news:List Value):Option (Value×cL):=
 if(n+m)*bytes<=70368744177664/\n+m<=1099511627776 then
  match h.get k with
  | some (.cells cs e' sz' wr)=>
   if e'=e/\sz'=sz/\((cs.drop j).take (n*sz)).length=n*sz then
    if c<bR then some (.slice (some ⟨h.next,0,none⟩) (n+m) (bR+(n+m)),.push (.cells ((cs.drop j).take (n*sz)++news) e sz true))
    else if wr=true/\cs.length=j+n*sz then some (.slice (some ⟨h.next,0,none⟩) (n+m) (bR+(n+m)),.move k (.cells ((cs.drop j).take (n*sz)++news) e sz true))
    else none
   else none
  |_=>none
 else none
def aY (P:Program)(t t':TypeId)(s x:Value)(h:aa):Option (Value×cL):=
 match P.underlying t with
 | some (.slice e)=>match e9 P e with
  | some i=>
   if dm P t'=true then
    match fw h i.size x with
    | some (news,m)=>
     if news.all cH/\news.length=m*i.size then
      match s with
      | .slice none 0 0=>if m=0 then some (s,.no)else
        if m*i.bytes<=70368744177664/\m<=1099511627776 then some (.slice (some ⟨h.next,0,none⟩) m (bR+m),.push (.cells news e i.size true))else none
      | .slice (some ⟨k,j,none⟩) n c=>
       if m=0 then some (s,.no)else
       if n+m<=aX c then
        (storeAt h k (j+n*i.size) news).map λu=>(.slice (some ⟨k,j,none⟩) (n+m) c,u)
       else gQ h e i.size i.bytes k j n c m news
      |_=>none
     else none
    |none=>none
   else none
  |none=>none
 |_=>none
def copyV(P:Program)(t:TypeId)(d s:Value)(h:aa):Option (Value×cL):=
 match P.underlying t with
 | some (.slice e)=>match aw P e,d with
  | some sz,.slice a n _=>
   match fw h sz s with
   |some (cs,m)=>
    if n=0\/m=0 then some (.int .i64 0,.no)else
    match a with
    |some ⟨k,j,none⟩=>(storeAt h k j (cs.take (min m n*sz))).map λu=>(.int .i64 (min m n:Nat),u)
    |_=>none
   |none=>none
  |_,_=>none
 |_=>none
def CU(P:Program)(t:TypeId)(x:Value)(h:aa):Option (Value×cL):=
 match P.underlying t,x with
 |some (.slice e),.slice (some ⟨k,j,none⟩) n _=>match zeroOf P e with
  |some z=>if n=0 then some (undef,.no)else(storeAt h k j (bC z.cells.toList n)).map λu=>(undef,u)
  |none=>none
 |_,_=>none
abbrev br:=FuncId->List Value->aa->Option (Value×aa)
def mo(cf:br)(f:Value)(args:List Value)(h:aa):Option (Value×cL):=
 match f with
 |.func (.func g) first captured=>if g<YB then(cf g (first.toList++args++captured.toList) h).map λr=>(r.1,.all r.2)else none
 |.func (.yield k) first captured=>if first.size=0/\captured.size=0 then(cf (YB+k) args h).map λr=>(r.1,.all r.2)else none
 |_=>none
def iQ(P:Program)(kt:TypeId)(k v:Value):List (Value×Value)->Option (List (Value×Value))
 |[]=>some [(k,v)]
 |(k',v')::r=>match rA P kt k k' with
  |some true=>some ((k,v)::r)
  |some false=>(iQ P kt k v r).map ((k',v')::·)
  |none=>none
def cB(P:Program)(cf:br)(ρ:Operand->Value)(o:Oper)(h:aa):Option (Value×cL):=
 match o.op with
 |.store t a x=>match ρ a with
  |.pointer (some ⟨k,i,none⟩)=>if aw P t=some (ρ x).cells.size then(storeAt h k i (ρ x).cells.toList).map λu=>(undef,u)else none
  |_=>none
 | .mapUpdate t m k x|.insert t m k x=>match P.underlying t,ρ m with
  |some (.map kt _),.map (some r)=>match h.get r with
   |some (.map es)=>if lU P kt (ρ k)then(iQ P kt (ρ k) (ρ x) es).map λes'=>(undef,.set r (.map es'))else none
   |_=>none
  |_,_=>none
 |.call { callee:= .value f,args,.. }=>mo cf (ρ f) (args.toList.map ρ) h
 |.call { callee:= .builtin .append,args,argTypes }=>match args.toList,argTypes.toList with
  |[s,x],[t,t']=>aY P t t' (ρ s) (ρ x) h
  |_,_=>none
 |.call { callee:= .builtin .copy,args,argTypes }=>match args.toList,argTypes.toList with
  |[d,s],t::_=>copyV P t (ρ d) (ρ s) h
  |_,_=>none
 |.call { callee:= .builtin .clear,args,argTypes }=>match args.toList.map ρ,argTypes.toList with
  |[x],[t]=>CU P t x h
  |_,_=>none
 |.call { callee:= .builtin .unsafeSliceData,args,.. }=>match args.toList.map ρ with
  |[.slice none _ _]=>some (.pointer none,.no)
  |[.slice (some a) _ c]=>if 0<aX c then some (.pointer (some a),.no)else none
  |_=>none
 | .call { callee:= .builtin .unsafeString,args,argTypes,.. }=>match args.toList.map ρ,argTypes[0]? with
  |[.pointer none,.int _ 0],some _=>some (strOf [],.no)
  | [.pointer (some ⟨k,i,none⟩),.int _ n],some pt=>match h.get k,P.underlying pt with
   | some (.cells cs e 1 true),some (.pointer e')=>
    if e=e'/\aw P e=some 1/\0<n/\n<9223372036854775807/\((cs.drop i).take n.toNat).length=n.toNat then
     match bytesOf ((cs.drop i).take n.toNat)with
     |some l=>some (strOf l,.set k (.cells cs e 1 false))
     |none=>none
    else none
   |_,_=>none
  |_,_=>none
 | .convert s d x=>match P.underlying s,P.underlying d,ρ x with
  |some (.pointer t),some .unsafePointer,.pointer (some ⟨k,0,none⟩)=>match h.get k with
   |some (.cells cs t' 0 _)=>if t=t'/\aw P t=some cs.length/\0<cs.length then some (ρ x,.no)else none
   |_=>none
  |some .unsafePointer,some (.pointer t),.pointer (some ⟨k,0,none⟩)=>match h.get k with
   |some (.cells cs t' 0 _)=>if t=t'/\aw P t=some cs.length/\0<cs.length then some (ρ x,.no)else none
   |_=>none
  |_,_,_=>none
 |_=>none
def aP(P:Program)(cf:br)(ρ:Operand->Value)(o:Oper)(h:aa):Option (Value×cL):=
 match aK P ρ o with
 |some v=>some (v,.no)
 | none=>match aT P ρ o h with
  |some v=>some (v,.no)
  |none=>match aJ P ρ o with
   |some (b,f)=>some (f h.next,.push b)
   |none=>cB P cf ρ o h
def eB(tm:List Value)(dst:Option Tmp)(v:Value):List Value:=
 match dst with
 |some d=>tm.set d v
 |none=>tm
def du(ops:Array Oper)(tm:List Value)(o:Oper):Option Bool:=
 match o.guard with
 |none=>some true
 | some (j,want)=>match (ops[j]?).bind (·.dst)with
  |some d=>match tm.getD d undef with
   |.bool b=>some (b==want)
   |.tuple _=>some false
   |_=>none
  |none=>none
def eA(P:Program)(gl:Nat->Bool)(cf:br)(ops:Array Oper):List Oper->List Value->aa->Option (List Value×aa)
 |[],tm,h=>some (tm,h)
 | o::rest,tm,h=>
  match du ops tm o with
  |some true=>match aP P cf (ev gl tm) o h with
   |some (v,u)=>eA P gl cf ops rest (eB tm o.dst v) (u.app h)
   |none=>none
  |some false=>eA P gl cf ops rest (eB tm o.dst undef) h
  |none=>none
def EA(e:Value->Value->Bool):List Value->List Value->Bool
 |[],[]=>true
 |a::x,b::y=>e a b&&EA e x y
 |_,_=>false
def jB:Nat->Value->Value->Bool
 |0,_,_=>false
 |d+1,v,v'=>match v,v' with
  |.bool a,.bool b=>a==b
  |.int k a,.int k' b=>decide (k=k')&&decide (a=b)
  |.string a,.string b=>decide (a.data.toList=b.data.toList)
  |.pointer none,.pointer none=>true
  |.pointer (some ⟨a,i,none⟩),.pointer (some ⟨b,j,none⟩)=>decide (a=b)&&decide (i=j)
  |.slice none n c,.slice none n' c'=>decide (n=n')&&decide (c=c')
  |.slice (some ⟨a,i,none⟩) n c,.slice (some ⟨b,j,none⟩) n' c'=>decide (a=b)&&decide (i=j)&&decide (n=n')&&decide (c=c')
  |.map none,.map none=>true
  |.map (some a),.map (some b)=>decide (a=b)
  |.nilFunc,.nilFunc=>true
  |.nilIface,.nilIface=>true
  |.func (.func f) a c,.func (.func f') a' c'=>decide (f=f')&&EA (jB d) a.toList a'.toList&&EA (jB d) c.toList c'.toList
  |.iface t v,.iface t' v'=>decide (t=t')&&jB d v v'
  |.agg a,.agg b=>EA (jB d) a.toList b.toList
  |.tuple a,.tuple b=>EA (jB d) a.toList b.toList
  |_,_=>false
inductive iF where
 |skip
 |pure (v:Value)
 |read (v:Value)
 |alloc (B:bt) (v:Value)
 |nR (v:Value) (h:aa)
 deriving Inhabited
def iF.val:iF->Value
 |.skip=>undef
 |.pure v|.read v|.alloc _ v|.nR v _=>v
def aV(h:aa)(base:Nat):List (Nat×bt)->aa
 |[]=>h
 |(i,B)::r=>(aV h base r).set (base+i) B
def cw (P:Program)(gl:Nat->Bool)(cf:br)(ops:Array Oper)(bf:Nat->Nat->Bool)(base:Nat):List Oper->Nat->List Value->aa->List (Nat×bt)->Option (List (List Value×iF)×List Value×aa×List (Nat×bt))
 |[],_,tm,h,pd=>some ([],tm,h,pd)
 | o::rest,j,tm,h,pd=>
  match du ops tm o with
  |none=>none
  |some false=>(cw P gl cf ops bf base rest (j+1) (eB tm o.dst undef) h pd).map λr=>((tm,.skip)::r.1,r.2)
  | some true=>
   match aK P (ev gl tm) o with
   |some v=>(cw P gl cf ops bf base rest (j+1) (eB tm o.dst v) h pd).map λr=>((tm,.pure v)::r.1,r.2)
   | none=>
    match aT P (ev gl tm) o h with
    |some v=>(cw P gl cf ops bf base rest (j+1) (eB tm o.dst v) h pd).map λr=>((tm,.read v)::r.1,r.2)
    | none=>
     match aJ P (ev gl tm) o with
     |some (B,f)=>(cw P gl cf ops bf base rest (j+1) (eB tm o.dst (f (base+j))) h ((j,B)::pd)).map λr=>((tm,.alloc B (f (base+j)))::r.1,r.2)
     | none=>
      match cB P cf (ev gl tm) o (aV h base (pd.filter λp=>bf j p.1))with
      | some (v,u)=>
       (cw P gl cf ops bf base rest (j+1) (eB tm o.dst v) (u.app (aV h base (pd.filter λp=>bf j p.1))) (pd.filter λp=> !bf j p.1)).map λr=>
        ((tm,.nR v (u.app (aV h base (pd.filter λp=>bf j p.1))))::r.1,r.2)
      |none=>none
def cT{τ:Type}:List (τ×iF)->Nat->List (Nat×aa)
 |[],_=>[]
 |(_,.nR _ h)::r,j=>(j,h)::cT r (j+1)
 |_::r,j=>cT r (j+1)
def chained(bf:Nat->Nat->Bool):List (Nat×aa)->Bool
 |(i,_)::(j,h)::r=>bf j i&&chained bf ((j,h)::r)
 |_=>true
def fu(P:Program)(gl:Nat->Bool)(o:Oper)(tm:List Value)(v:Value)(h:aa):Bool:=
 match aT P (ev gl tm) o h with
 |some v'=>jB 4 v v'
 |none=>false
def gG(P:Program)(gl:Nat->Bool)(bf:Nat->Nat->Bool)(j:Nat)(o:Oper)(tm:List Value)(v:Value):aa->List (Nat×aa)->Bool->Bool
 |h,[],own=>own||fu P gl o tm v h
 |h,(e,h')::r,own=>((own&&Nat.blt j e)||bf j e||fu P gl o tm v h)&&(bf e j||gG P gl bf j o tm v h' r (Nat.blt e j))
def eC(P:Program)(gl:Nat->Bool)(bf:Nat->Nat->Bool)(h:aa)(es:List (Nat×aa)):List Oper->List (List Value×iF)->Nat->Bool
 |o::os,(tm,.read v)::r,j=>gG P gl bf j o tm v h es true&&eC P gl bf h es os r (j+1)
 |_::os,_::r,j=>eC P gl bf h es os r (j+1)
 |_,_,_=>true
def nf(P:Program)(gl:Nat->Bool)(cf:br)(ops:Array Oper)(bf:Nat->Nat->Bool)(tm:List Value)(h:aa):Option (List Value×aa):=
 match cw P gl cf ops bf h.next ops.toList 0 tm { h with next:=h.next+ops.size } []with
 |some (recs,tm',h',pd)=>
  if chained bf (cT recs 0)&&eC P gl bf { h with next:=h.next+ops.size } (cT recs 0) ops.toList recs 0 then some (tm',aV h' h.next pd)else none
 |none=>none
def MN(o:Oper):Bool:=match o.op with|.insert .. =>true|_=>false
def Qy(o:Oper):Bool:=match o.op with|.store .. =>true|_=>false
def qm(ops:Array Oper):Bool:=
 ops.toList.any MN&&(List.range ops.size).any λj=>(match ops[j]? with|some o=>Qy o|none=>false)&&(List.range j).any λi=>(match ops[i]? with|some o=>MN o|none=>false) && !cj (eL ops) j i
def eJ:FuncId->List Value->aa->Option (Value×aa):=λ_ _ _=>none
def QQ(P:Program)(ρ:Operand->Value)(o:Oper)(k:Nat)(h:aa):Option (Value×Option (Nat×bt)):=
 match aK P ρ o with
 |some v=>some (v,none)
 | none=>match aT P ρ o h with
  |some v=>some (v,none)
  | none=>match aJ P ρ o with
   |some (b,f)=>some (f k,some (k,b))
   |none=>match cB P eJ ρ o h with
    |some (v,.no)=>some (v,none)
    |some (v,.set i b)=>some (v,some (i,b))
    |_=>none
abbrev Ck:=List Value×aa×List Nat
def A4(s:Ck)(dst:Option Tmp)(v:Value):Option (Nat×bt)->Ck
 |none=>(eB s.1 dst v,s.2.1,s.2.2)
 |some (k,b)=>(eB s.1 dst v,s.2.1.set k b,k::s.2.2)
def BY(P:Program)(gl:Nat->Bool)(ops:Array Oper)(base j:Nat)(s:Ck):Option Ck:=
 match ops[j]? with
 | some o=>match du ops s.1 o with
  |some true=>match QQ P (ev gl s.1) o (base+j) s.2.1 with
   |some (v,u)=>some (A4 s o.dst v u)
   |none=>none
  |some false=>some (A4 s o.dst undef none)
  |none=>none
 |none=>none
def Cb(P:Program)(gl:Nat->Bool)(ops:Array Oper)(base:Nat):Nat->Nat->Ck->Option Ck
 |0,_,s=>some s
 |n+1,j,s=>match BY P gl ops base j s with
  |some s'=>Cb P gl ops base n (j+1) s'
  |none=>none
def qD:List (Value×Value)->List (Value×Value)->Bool
 |[],[]=>true
 |(a,b)::x,(c,d)::y=>jB 4 a c&&jB 4 b d&&qD x y
 |_,_=>false
def HI:bt->bt->Bool
 |.cells cs t sz wr,.cells cs' t' sz' wr'=>EA (jB 4) cs cs'&&Nat.beq t t'&&Nat.beq sz sz'&&(wr==wr')
 |.map es,.map es'=>qD es es'
 |_,_=>false
def KC(h h':aa)(k:Nat):Bool:=match h.get k,h'.get k with
 |some B,some C=>HI B C
 |none,none=>true
 |_,_=>false
def Ig(s s':Ck):Bool:=EA (jB 4) s.1 s'.1&&s.2.2.all (KC s.2.1 s'.2.1)&&s'.2.2.all (KC s.2.1 s'.2.1)
def Hx(P:Program)(gl:Nat->Bool)(ops:Array Oper)(bf:Nat->Nat->Bool)(base:Nat)(fin:Ck):Nat->List Nat->Ck->Bool
 |0,_,s=>Ig fin s
 |n+1,done,s=>(List.range ops.size).all λj=>done.contains j||((List.range j).any λi=>bf j i && !done.contains i)||(match BY P gl ops base j s with|some s'=>Hx P gl ops bf base fin n (j::done) s'|none=>false)
def Aq(P:Program)(gl:Nat->Bool)(ops:Array Oper)(bf:Nat->Nat->Bool)(tm:List Value)(h:aa):Option (List Value×aa):=
 match Cb P gl ops h.next ops.size 0 (tm,{ h with next:=h.next+ops.size },[])with
 |some fin=>if Hx P gl ops bf h.next fin ops.size [] (tm,{ h with next:=h.next+ops.size },[])then some (fin.1,fin.2.1)else none
 |none=>none
def tz(P:Program)(gl:Nat->Bool)(cf:br)(ops:Array Oper)(tm:List Value)(h:aa):Option (List Value×aa):=
 if qm ops then Aq P gl ops (cj (eL ops)) tm h else nf P gl cf ops (cj (eL ops)) tm h
def iter(body:List Value->aa->Option (Exit×List Value×aa)):Nat->List Value->aa->Option (Exit×List Value×aa)
 |0,_,_=>none
 |n+1,tm,h=>match body tm h with
  |some (.normal,tm',h')=>iter body n tm' h'
  |r=>r
def mq(P:Program)(g:FuncId):Bool:=match P.funcs[g]? with|some fn=>fn.body.isSome|none=>false
def ET:Option bt->Option Exit
 |some (.loop .ready ..)=>some .normal
 |some (.loop .ret ..)=>some .ret
 |some (.loop (.exit id) ..)=>some (.exit id)
 |_=>none
def aE(P:Program)(gl:Nat->Bool)(cf:br)(N:Nat):Code->List Value->aa->Option (Exit×List Value×aa)
 |.skip,tm,h=>some (.normal,tm,h)
 |.region _ ops false,tm,h=>(eA P gl cf ops ops.toList tm h).map λr=>(.normal,r.1,r.2)
 |.region _ ops true,tm,h=>(tz P gl cf ops tm h).map λr=>(.normal,r.1,r.2)
 |.seq a b,tm,h=>match aE P gl cf N a tm h with
  |some (.normal,tm',h')=>aE P gl cf N b tm' h'
  |r=>r
 |.cond c a b,tm,h=>match ev gl tm c with
  |.bool t=>if t then aE P gl cf N a tm h else aE P gl cf N b tm h
  |_=>none
 |.block id c,tm,h=>match aE P gl cf N c tm h with
  |some (.exit id',tm',h')=>if id'=id then some (.normal,tm',h')else some (.exit id',tm',h')
  |r=>r
 |.loop c,tm,h=>iter (aE P gl cf N c) N tm h
 |.exit id,tm,h=>some (.exit id,tm,h)
 |.ret,tm,h=>some (.ret,tm,h)
 |.label _,tm,h=>some (.normal,tm,h)
 | .rangeFunc f ps asg body,tm,h=>match ev gl tm f with
  | .func (.func g) first captured=>
   if hc:gV asg body=true then
    if g<YB/\mq P g=true then
     match cf g (first.toList++[.func (.yield h.next) #[] #[]]++captured.toList) (h.push (.loop .ready tm ps.toList asg body hc))with
     |some (_,h2)=>(ET (h2.get h.next)).map λe=>(e,tm,h2.del h.next)
     |none=>none
    else none
   else none
  |_=>none
 |_,_,_=>none
def mZ(tm:List Value)(pa:List (Tmp×Value)):List Value:=pa.foldl (λtm p=>tm.set p.1 p.2) tm
def Bb:Exit->Option (Bool×Kh)
 |.normal=>some (true,.ready)
 |.ret=>some (false,.ret)
 |.exit id=>some (false,.exit id)
 |_=>none
def ko(run:Code->List Value->aa->Option (Exit×List Value×aa))(k:Nat)(args:List Value)(h:aa):Option (Value×aa):=
 match h.get k with
 | some (.loop .ready tm ps asg body _)=>
  if args.length=ps.length then
   match run asg (mZ tm (ps.zip args)) h with
   | some (.normal,tm1,h1)=>match h1.get k with
    | some (.loop .ready tm' ps' asg' body' ok')=>match run body tm1 (h1.set k (.loop .busy tm' ps' asg' body' ok'))with
     |some (e,_,h2)=>match h2.get k,Bb e with
      |some (.loop _ tm2 ps2 asg2 body2 ok2),some (b,st)=>some (.bool b,h2.set k (.loop st tm2 ps2 asg2 body2 ok2))
      |_,_=>none
     |none=>none
    |_=>none
   |_=>none
  else none
 |_=>none
def bF(P:Program)(tm:List Value)(h:aa):List ResultVar->Option (List Value)
 |[]=>some []
 |.tmp t::r=>(bF P tm h r).map (tm.getD t undef::·)
 |.cell a t::r=>match ag P t h (tm.getD a undef)with
  |some v=>(bF P tm h r).map (v::·)
  |none=>none
def aO:List Value->Value
 |[v]=>v
 |vs=> .tuple vs.toArray
abbrev jD:=br->List Value->aa->Option (Value×aa)
def aQ(P:Program)(gl:Nat->Bool)(pr:FuncId->Option jD):Nat->br
 |0,_,_,_=>none
 | n+1,f,args,h=>if YB<=f then ko (aE P gl (aQ P gl pr n) n) (f-YB) args h else match pr f with
  |some p=>p (aQ P gl pr n) args h
  | none=>match P.funcs[f]? with
   | some fn=>match fn.body with
    |some c=>match aE P gl (aQ P gl pr n) n c (args++List.replicate (fn.ntmps-args.length) undef) h with
     |some (.normal,tm,h')=>(bF P tm h' fn.results.toList).map λvs=>(aO vs,h')
     |some (.ret,tm,h')=>(bF P tm h' fn.results.toList).map λvs=>(aO vs,h')
     |_=>none
    |none=>none
   |none=>none
end
end Go.Ab
end
section
namespace Go.Ab
noncomputable section
structure Row where
 c0:Value
 c1:Value
 c2:Value
 c3:Value
 c4:Value
 c5:Value
 c6:Value
 c7:Value
 c8:Value
 c9:Value
 bU:Value
 bE:Value
 bO:Value
 cg:Value
 bV:Value
 cq:Value
structure Env where
 c0:Row
 c1:Row
 c2:Row
 c3:Row
 c4:Row
 c5:Row
 c6:Row
 c7:Row
 c8:Row
 c9:Row
 bU:Row
 bE:Row
 bO:Row
 cg:Row
 bV:Row
 cq:Row
inductive lW where
 |d0|d1|d2|d3|d4|d5|d6|d7|d8|d9|d10|d11|d12|d13|d14|d15|x
 deriving DecidableEq
def kc:Row:=Row.mk undef undef undef undef undef undef undef undef undef undef undef undef undef undef undef undef
def qE:Env:=Env.mk kc kc kc kc kc kc kc kc kc kc kc kc kc kc kc kc
def Row.g0(t:Row):Value:=Row.rec (motive:=λ_=>Value) (λc0 _ _ _ _ _ _ _ _ _ _ _ _ _ _ _=>c0) t
def Row.g1(t:Row):Value:=Row.rec (motive:=λ_=>Value) (λ_ c1 _ _ _ _ _ _ _ _ _ _ _ _ _ _=>c1) t
def Row.g2(t:Row):Value:=Row.rec (motive:=λ_=>Value) (λ_ _ c2 _ _ _ _ _ _ _ _ _ _ _ _ _=>c2) t
def Row.g3(t:Row):Value:=Row.rec (motive:=λ_=>Value) (λ_ _ _ c3 _ _ _ _ _ _ _ _ _ _ _ _=>c3) t
def Row.g4(t:Row):Value:=Row.rec (motive:=λ_=>Value) (λ_ _ _ _ c4 _ _ _ _ _ _ _ _ _ _ _=>c4) t
def Row.g5(t:Row):Value:=Row.rec (motive:=λ_=>Value) (λ_ _ _ _ _ c5 _ _ _ _ _ _ _ _ _ _=>c5) t
def Row.g6(t:Row):Value:=Row.rec (motive:=λ_=>Value) (λ_ _ _ _ _ _ c6 _ _ _ _ _ _ _ _ _=>c6) t
def Row.g7(t:Row):Value:=Row.rec (motive:=λ_=>Value) (λ_ _ _ _ _ _ _ c7 _ _ _ _ _ _ _ _=>c7) t
def Row.g8(t:Row):Value:=Row.rec (motive:=λ_=>Value) (λ_ _ _ _ _ _ _ _ c8 _ _ _ _ _ _ _=>c8) t
def Row.g9(t:Row):Value:=Row.rec (motive:=λ_=>Value) (λ_ _ _ _ _ _ _ _ _ c9 _ _ _ _ _ _=>c9) t
def Row.zG(t:Row):Value:=Row.rec (motive:=λ_=>Value) (λ_ _ _ _ _ _ _ _ _ _ bU _ _ _ _ _=>bU) t
def Row.Dc(t:Row):Value:=Row.rec (motive:=λ_=>Value) (λ_ _ _ _ _ _ _ _ _ _ _ bE _ _ _ _=>bE) t
def Row.Kk(t:Row):Value:=Row.rec (motive:=λ_=>Value) (λ_ _ _ _ _ _ _ _ _ _ _ _ bO _ _ _=>bO) t
def Row.zH(t:Row):Value:=Row.rec (motive:=λ_=>Value) (λ_ _ _ _ _ _ _ _ _ _ _ _ _ cg _ _=>cg) t
def Row.Hj(t:Row):Value:=Row.rec (motive:=λ_=>Value) (λ_ _ _ _ _ _ _ _ _ _ _ _ _ _ bV _=>bV) t
def Row.Iu(t:Row):Value:=Row.rec (motive:=λ_=>Value) (λ_ _ _ _ _ _ _ _ _ _ _ _ _ _ _ cq=>cq) t
def Row.s0(t:Row)(x:Value)(K:Row->Bool):Bool:=Row.rec (motive:=λ_=>Bool) (λ_ c1 c2 c3 c4 c5 c6 c7 c8 c9 bU bE bO cg bV cq=>K (Row.mk x c1 c2 c3 c4 c5 c6 c7 c8 c9 bU bE bO cg bV cq)) t
def Row.s1(t:Row)(x:Value)(K:Row->Bool):Bool:=Row.rec (motive:=λ_=>Bool) (λc0 _ c2 c3 c4 c5 c6 c7 c8 c9 bU bE bO cg bV cq=>K (Row.mk c0 x c2 c3 c4 c5 c6 c7 c8 c9 bU bE bO cg bV cq)) t
def Row.s2(t:Row)(x:Value)(K:Row->Bool):Bool:=Row.rec (motive:=λ_=>Bool) (λc0 c1 _ c3 c4 c5 c6 c7 c8 c9 bU bE bO cg bV cq=>K (Row.mk c0 c1 x c3 c4 c5 c6 c7 c8 c9 bU bE bO cg bV cq)) t
def Row.s3(t:Row)(x:Value)(K:Row->Bool):Bool:=Row.rec (motive:=λ_=>Bool) (λc0 c1 c2 _ c4 c5 c6 c7 c8 c9 bU bE bO cg bV cq=>K (Row.mk c0 c1 c2 x c4 c5 c6 c7 c8 c9 bU bE bO cg bV cq)) t
def Row.s4(t:Row)(x:Value)(K:Row->Bool):Bool:=Row.rec (motive:=λ_=>Bool) (λc0 c1 c2 c3 _ c5 c6 c7 c8 c9 bU bE bO cg bV cq=>K (Row.mk c0 c1 c2 c3 x c5 c6 c7 c8 c9 bU bE bO cg bV cq)) t
def Row.s5(t:Row)(x:Value)(K:Row->Bool):Bool:=Row.rec (motive:=λ_=>Bool) (λc0 c1 c2 c3 c4 _ c6 c7 c8 c9 bU bE bO cg bV cq=>K (Row.mk c0 c1 c2 c3 c4 x c6 c7 c8 c9 bU bE bO cg bV cq)) t
def Row.s6(t:Row)(x:Value)(K:Row->Bool):Bool:=Row.rec (motive:=λ_=>Bool) (λc0 c1 c2 c3 c4 c5 _ c7 c8 c9 bU bE bO cg bV cq=>K (Row.mk c0 c1 c2 c3 c4 c5 x c7 c8 c9 bU bE bO cg bV cq)) t
def Row.s7(t:Row)(x:Value)(K:Row->Bool):Bool:=Row.rec (motive:=λ_=>Bool) (λc0 c1 c2 c3 c4 c5 c6 _ c8 c9 bU bE bO cg bV cq=>K (Row.mk c0 c1 c2 c3 c4 c5 c6 x c8 c9 bU bE bO cg bV cq)) t
def Row.s8(t:Row)(x:Value)(K:Row->Bool):Bool:=Row.rec (motive:=λ_=>Bool) (λc0 c1 c2 c3 c4 c5 c6 c7 _ c9 bU bE bO cg bV cq=>K (Row.mk c0 c1 c2 c3 c4 c5 c6 c7 x c9 bU bE bO cg bV cq)) t
def Row.s9(t:Row)(x:Value)(K:Row->Bool):Bool:=Row.rec (motive:=λ_=>Bool) (λc0 c1 c2 c3 c4 c5 c6 c7 c8 _ bU bE bO cg bV cq=>K (Row.mk c0 c1 c2 c3 c4 c5 c6 c7 c8 x bU bE bO cg bV cq)) t
def Row.Tb(t:Row)(x:Value)(K:Row->Bool):Bool:=Row.rec (motive:=λ_=>Bool) (λc0 c1 c2 c3 c4 c5 c6 c7 c8 c9 _ bE bO cg bV cq=>K (Row.mk c0 c1 c2 c3 c4 c5 c6 c7 c8 c9 x bE bO cg bV cq)) t
def Row.Tc(t:Row)(x:Value)(K:Row->Bool):Bool:=Row.rec (motive:=λ_=>Bool) (λc0 c1 c2 c3 c4 c5 c6 c7 c8 c9 bU _ bO cg bV cq=>K (Row.mk c0 c1 c2 c3 c4 c5 c6 c7 c8 c9 bU x bO cg bV cq)) t
def Row.Td(t:Row)(x:Value)(K:Row->Bool):Bool:=Row.rec (motive:=λ_=>Bool) (λc0 c1 c2 c3 c4 c5 c6 c7 c8 c9 bU bE _ cg bV cq=>K (Row.mk c0 c1 c2 c3 c4 c5 c6 c7 c8 c9 bU bE x cg bV cq)) t
def Row.Te(t:Row)(x:Value)(K:Row->Bool):Bool:=Row.rec (motive:=λ_=>Bool) (λc0 c1 c2 c3 c4 c5 c6 c7 c8 c9 bU bE bO _ bV cq=>K (Row.mk c0 c1 c2 c3 c4 c5 c6 c7 c8 c9 bU bE bO x bV cq)) t
def Row.Tf(t:Row)(x:Value)(K:Row->Bool):Bool:=Row.rec (motive:=λ_=>Bool) (λc0 c1 c2 c3 c4 c5 c6 c7 c8 c9 bU bE bO cg _ cq=>K (Row.mk c0 c1 c2 c3 c4 c5 c6 c7 c8 c9 bU bE bO cg x cq)) t
def Row.Tg(t:Row)(x:Value)(K:Row->Bool):Bool:=Row.rec (motive:=λ_=>Bool) (λc0 c1 c2 c3 c4 c5 c6 c7 c8 c9 bU bE bO cg bV _=>K (Row.mk c0 c1 c2 c3 c4 c5 c6 c7 c8 c9 bU bE bO cg bV x)) t
def Row.u0(t:Row)(x:Value):Row:=Row.rec (motive:=λ_=>Row) (λ_ c1 c2 c3 c4 c5 c6 c7 c8 c9 bU bE bO cg bV cq=>Row.mk x c1 c2 c3 c4 c5 c6 c7 c8 c9 bU bE bO cg bV cq) t
def Row.u1(t:Row)(x:Value):Row:=Row.rec (motive:=λ_=>Row) (λc0 _ c2 c3 c4 c5 c6 c7 c8 c9 bU bE bO cg bV cq=>Row.mk c0 x c2 c3 c4 c5 c6 c7 c8 c9 bU bE bO cg bV cq) t
def Row.u2(t:Row)(x:Value):Row:=Row.rec (motive:=λ_=>Row) (λc0 c1 _ c3 c4 c5 c6 c7 c8 c9 bU bE bO cg bV cq=>Row.mk c0 c1 x c3 c4 c5 c6 c7 c8 c9 bU bE bO cg bV cq) t
def Row.u3(t:Row)(x:Value):Row:=Row.rec (motive:=λ_=>Row) (λc0 c1 c2 _ c4 c5 c6 c7 c8 c9 bU bE bO cg bV cq=>Row.mk c0 c1 c2 x c4 c5 c6 c7 c8 c9 bU bE bO cg bV cq) t
def Row.u4(t:Row)(x:Value):Row:=Row.rec (motive:=λ_=>Row) (λc0 c1 c2 c3 _ c5 c6 c7 c8 c9 bU bE bO cg bV cq=>Row.mk c0 c1 c2 c3 x c5 c6 c7 c8 c9 bU bE bO cg bV cq) t
def Row.u5(t:Row)(x:Value):Row:=Row.rec (motive:=λ_=>Row) (λc0 c1 c2 c3 c4 _ c6 c7 c8 c9 bU bE bO cg bV cq=>Row.mk c0 c1 c2 c3 c4 x c6 c7 c8 c9 bU bE bO cg bV cq) t
def Row.u6(t:Row)(x:Value):Row:=Row.rec (motive:=λ_=>Row) (λc0 c1 c2 c3 c4 c5 _ c7 c8 c9 bU bE bO cg bV cq=>Row.mk c0 c1 c2 c3 c4 c5 x c7 c8 c9 bU bE bO cg bV cq) t
def Row.u7(t:Row)(x:Value):Row:=Row.rec (motive:=λ_=>Row) (λc0 c1 c2 c3 c4 c5 c6 _ c8 c9 bU bE bO cg bV cq=>Row.mk c0 c1 c2 c3 c4 c5 c6 x c8 c9 bU bE bO cg bV cq) t
def Row.u8(t:Row)(x:Value):Row:=Row.rec (motive:=λ_=>Row) (λc0 c1 c2 c3 c4 c5 c6 c7 _ c9 bU bE bO cg bV cq=>Row.mk c0 c1 c2 c3 c4 c5 c6 c7 x c9 bU bE bO cg bV cq) t
def Row.u9(t:Row)(x:Value):Row:=Row.rec (motive:=λ_=>Row) (λc0 c1 c2 c3 c4 c5 c6 c7 c8 _ bU bE bO cg bV cq=>Row.mk c0 c1 c2 c3 c4 c5 c6 c7 c8 x bU bE bO cg bV cq) t
def Row.Kl(t:Row)(x:Value):Row:=Row.rec (motive:=λ_=>Row) (λc0 c1 c2 c3 c4 c5 c6 c7 c8 c9 _ bE bO cg bV cq=>Row.mk c0 c1 c2 c3 c4 c5 c6 c7 c8 c9 x bE bO cg bV cq) t
def Row.PD(t:Row)(x:Value):Row:=Row.rec (motive:=λ_=>Row) (λc0 c1 c2 c3 c4 c5 c6 c7 c8 c9 bU _ bO cg bV cq=>Row.mk c0 c1 c2 c3 c4 c5 c6 c7 c8 c9 bU x bO cg bV cq) t
def Row.M4(t:Row)(x:Value):Row:=Row.rec (motive:=λ_=>Row) (λc0 c1 c2 c3 c4 c5 c6 c7 c8 c9 bU bE _ cg bV cq=>Row.mk c0 c1 c2 c3 c4 c5 c6 c7 c8 c9 bU bE x cg bV cq) t
def Row.PE(t:Row)(x:Value):Row:=Row.rec (motive:=λ_=>Row) (λc0 c1 c2 c3 c4 c5 c6 c7 c8 c9 bU bE bO _ bV cq=>Row.mk c0 c1 c2 c3 c4 c5 c6 c7 c8 c9 bU bE bO x bV cq) t
def Row.Km(t:Row)(x:Value):Row:=Row.rec (motive:=λ_=>Row) (λc0 c1 c2 c3 c4 c5 c6 c7 c8 c9 bU bE bO cg _ cq=>Row.mk c0 c1 c2 c3 c4 c5 c6 c7 c8 c9 bU bE bO cg x cq) t
def Row.PF(t:Row)(x:Value):Row:=Row.rec (motive:=λ_=>Row) (λc0 c1 c2 c3 c4 c5 c6 c7 c8 c9 bU bE bO cg bV _=>Row.mk c0 c1 c2 c3 c4 c5 c6 c7 c8 c9 bU bE bO cg bV x) t
def Row.sx(t:Row)(_:Value)(K:Row->Bool):Bool:=K t
def Row.ux(t:Row)(_:Value):Row:=t
def Row.gx(_:Row):Value:=undef
def Row.at(d:lW):Row->Value:=lW.rec (motive:=λ_=>Row->Value) Row.g0 Row.g1 Row.g2 Row.g3 Row.g4 Row.g5 Row.g6 Row.g7 Row.g8 Row.g9 Row.zG Row.Dc Row.Kk Row.zH Row.Hj Row.Iu Row.gx d
def Row.set(d:lW):Row->Value->(Row->Bool)->Bool:=lW.rec (motive:=λ_=>Row->Value->(Row->Bool)->Bool) Row.s0 Row.s1 Row.s2 Row.s3 Row.s4 Row.s5 Row.s6 Row.s7 Row.s8 Row.s9 Row.Tb Row.Tc Row.Td Row.Te Row.Tf Row.Tg Row.sx d
def Row.Kn(d:lW):Row->Value->Row:=lW.rec (motive:=λ_=>Row->Value->Row) Row.u0 Row.u1 Row.u2 Row.u3 Row.u4 Row.u5 Row.u6 Row.u7 Row.u8 Row.u9 Row.Kl Row.PD Row.M4 Row.PE Row.Km Row.PF Row.ux d
theorem Row.DS(d:lW)(t:Row)(x:Value)(K:Row->Bool):Row.set d t x K=K (Row.Kn d t x):=by cases d<;>rfl
theorem Row.CK(d e:lW)(t:Row)(x:Value)(hd:d≠ .x):Row.at e (Row.Kn d t x)=if e=d then x else Row.at e t:=by
 cases d<;>first|exact absurd rfl hd|(cases e<;>rfl)
def Env.g0(t:Env):Row:=Env.rec (motive:=λ_=>Row) (λc0 _ _ _ _ _ _ _ _ _ _ _ _ _ _ _=>c0) t
def Env.g1(t:Env):Row:=Env.rec (motive:=λ_=>Row) (λ_ c1 _ _ _ _ _ _ _ _ _ _ _ _ _ _=>c1) t
def Env.g2(t:Env):Row:=Env.rec (motive:=λ_=>Row) (λ_ _ c2 _ _ _ _ _ _ _ _ _ _ _ _ _=>c2) t
def Env.g3(t:Env):Row:=Env.rec (motive:=λ_=>Row) (λ_ _ _ c3 _ _ _ _ _ _ _ _ _ _ _ _=>c3) t
def Env.g4(t:Env):Row:=Env.rec (motive:=λ_=>Row) (λ_ _ _ _ c4 _ _ _ _ _ _ _ _ _ _ _=>c4) t
def Env.g5(t:Env):Row:=Env.rec (motive:=λ_=>Row) (λ_ _ _ _ _ c5 _ _ _ _ _ _ _ _ _ _=>c5) t
def Env.g6(t:Env):Row:=Env.rec (motive:=λ_=>Row) (λ_ _ _ _ _ _ c6 _ _ _ _ _ _ _ _ _=>c6) t
def Env.g7(t:Env):Row:=Env.rec (motive:=λ_=>Row) (λ_ _ _ _ _ _ _ c7 _ _ _ _ _ _ _ _=>c7) t
def Env.g8(t:Env):Row:=Env.rec (motive:=λ_=>Row) (λ_ _ _ _ _ _ _ _ c8 _ _ _ _ _ _ _=>c8) t
def Env.g9(t:Env):Row:=Env.rec (motive:=λ_=>Row) (λ_ _ _ _ _ _ _ _ _ c9 _ _ _ _ _ _=>c9) t
def Env.zG(t:Env):Row:=Env.rec (motive:=λ_=>Row) (λ_ _ _ _ _ _ _ _ _ _ bU _ _ _ _ _=>bU) t
def Env.Dc(t:Env):Row:=Env.rec (motive:=λ_=>Row) (λ_ _ _ _ _ _ _ _ _ _ _ bE _ _ _ _=>bE) t
def Env.Kk(t:Env):Row:=Env.rec (motive:=λ_=>Row) (λ_ _ _ _ _ _ _ _ _ _ _ _ bO _ _ _=>bO) t
def Env.zH(t:Env):Row:=Env.rec (motive:=λ_=>Row) (λ_ _ _ _ _ _ _ _ _ _ _ _ _ cg _ _=>cg) t
def Env.Hj(t:Env):Row:=Env.rec (motive:=λ_=>Row) (λ_ _ _ _ _ _ _ _ _ _ _ _ _ _ bV _=>bV) t
def Env.Iu(t:Env):Row:=Env.rec (motive:=λ_=>Row) (λ_ _ _ _ _ _ _ _ _ _ _ _ _ _ _ cq=>cq) t
def Env.s0(t:Env)(x:Row)(K:Env->Bool):Bool:=Env.rec (motive:=λ_=>Bool) (λ_ c1 c2 c3 c4 c5 c6 c7 c8 c9 bU bE bO cg bV cq=>K (Env.mk x c1 c2 c3 c4 c5 c6 c7 c8 c9 bU bE bO cg bV cq)) t
def Env.s1(t:Env)(x:Row)(K:Env->Bool):Bool:=Env.rec (motive:=λ_=>Bool) (λc0 _ c2 c3 c4 c5 c6 c7 c8 c9 bU bE bO cg bV cq=>K (Env.mk c0 x c2 c3 c4 c5 c6 c7 c8 c9 bU bE bO cg bV cq)) t
def Env.s2(t:Env)(x:Row)(K:Env->Bool):Bool:=Env.rec (motive:=λ_=>Bool) (λc0 c1 _ c3 c4 c5 c6 c7 c8 c9 bU bE bO cg bV cq=>K (Env.mk c0 c1 x c3 c4 c5 c6 c7 c8 c9 bU bE bO cg bV cq)) t
def Env.s3(t:Env)(x:Row)(K:Env->Bool):Bool:=Env.rec (motive:=λ_=>Bool) (λc0 c1 c2 _ c4 c5 c6 c7 c8 c9 bU bE bO cg bV cq=>K (Env.mk c0 c1 c2 x c4 c5 c6 c7 c8 c9 bU bE bO cg bV cq)) t
def Env.s4(t:Env)(x:Row)(K:Env->Bool):Bool:=Env.rec (motive:=λ_=>Bool) (λc0 c1 c2 c3 _ c5 c6 c7 c8 c9 bU bE bO cg bV cq=>K (Env.mk c0 c1 c2 c3 x c5 c6 c7 c8 c9 bU bE bO cg bV cq)) t
def Env.s5(t:Env)(x:Row)(K:Env->Bool):Bool:=Env.rec (motive:=λ_=>Bool) (λc0 c1 c2 c3 c4 _ c6 c7 c8 c9 bU bE bO cg bV cq=>K (Env.mk c0 c1 c2 c3 c4 x c6 c7 c8 c9 bU bE bO cg bV cq)) t
def Env.s6(t:Env)(x:Row)(K:Env->Bool):Bool:=Env.rec (motive:=λ_=>Bool) (λc0 c1 c2 c3 c4 c5 _ c7 c8 c9 bU bE bO cg bV cq=>K (Env.mk c0 c1 c2 c3 c4 c5 x c7 c8 c9 bU bE bO cg bV cq)) t
def Env.s7(t:Env)(x:Row)(K:Env->Bool):Bool:=Env.rec (motive:=λ_=>Bool) (λc0 c1 c2 c3 c4 c5 c6 _ c8 c9 bU bE bO cg bV cq=>K (Env.mk c0 c1 c2 c3 c4 c5 c6 x c8 c9 bU bE bO cg bV cq)) t
def Env.s8(t:Env)(x:Row)(K:Env->Bool):Bool:=Env.rec (motive:=λ_=>Bool) (λc0 c1 c2 c3 c4 c5 c6 c7 _ c9 bU bE bO cg bV cq=>K (Env.mk c0 c1 c2 c3 c4 c5 c6 c7 x c9 bU bE bO cg bV cq)) t
def Env.s9(t:Env)(x:Row)(K:Env->Bool):Bool:=Env.rec (motive:=λ_=>Bool) (λc0 c1 c2 c3 c4 c5 c6 c7 c8 _ bU bE bO cg bV cq=>K (Env.mk c0 c1 c2 c3 c4 c5 c6 c7 c8 x bU bE bO cg bV cq)) t
def Env.Tb(t:Env)(x:Row)(K:Env->Bool):Bool:=Env.rec (motive:=λ_=>Bool) (λc0 c1 c2 c3 c4 c5 c6 c7 c8 c9 _ bE bO cg bV cq=>K (Env.mk c0 c1 c2 c3 c4 c5 c6 c7 c8 c9 x bE bO cg bV cq)) t
def Env.Tc(t:Env)(x:Row)(K:Env->Bool):Bool:=Env.rec (motive:=λ_=>Bool) (λc0 c1 c2 c3 c4 c5 c6 c7 c8 c9 bU _ bO cg bV cq=>K (Env.mk c0 c1 c2 c3 c4 c5 c6 c7 c8 c9 bU x bO cg bV cq)) t
def Env.Td(t:Env)(x:Row)(K:Env->Bool):Bool:=Env.rec (motive:=λ_=>Bool) (λc0 c1 c2 c3 c4 c5 c6 c7 c8 c9 bU bE _ cg bV cq=>K (Env.mk c0 c1 c2 c3 c4 c5 c6 c7 c8 c9 bU bE x cg bV cq)) t
def Env.Te(t:Env)(x:Row)(K:Env->Bool):Bool:=Env.rec (motive:=λ_=>Bool) (λc0 c1 c2 c3 c4 c5 c6 c7 c8 c9 bU bE bO _ bV cq=>K (Env.mk c0 c1 c2 c3 c4 c5 c6 c7 c8 c9 bU bE bO x bV cq)) t
def Env.Tf(t:Env)(x:Row)(K:Env->Bool):Bool:=Env.rec (motive:=λ_=>Bool) (λc0 c1 c2 c3 c4 c5 c6 c7 c8 c9 bU bE bO cg _ cq=>K (Env.mk c0 c1 c2 c3 c4 c5 c6 c7 c8 c9 bU bE bO cg x cq)) t
def Env.Tg(t:Env)(x:Row)(K:Env->Bool):Bool:=Env.rec (motive:=λ_=>Bool) (λc0 c1 c2 c3 c4 c5 c6 c7 c8 c9 bU bE bO cg bV _=>K (Env.mk c0 c1 c2 c3 c4 c5 c6 c7 c8 c9 bU bE bO cg bV x)) t
def Env.u0(t:Env)(x:Row):Env:=Env.rec (motive:=λ_=>Env) (λ_ c1 c2 c3 c4 c5 c6 c7 c8 c9 bU bE bO cg bV cq=>Env.mk x c1 c2 c3 c4 c5 c6 c7 c8 c9 bU bE bO cg bV cq) t
def Env.u1(t:Env)(x:Row):Env:=Env.rec (motive:=λ_=>Env) (λc0 _ c2 c3 c4 c5 c6 c7 c8 c9 bU bE bO cg bV cq=>Env.mk c0 x c2 c3 c4 c5 c6 c7 c8 c9 bU bE bO cg bV cq) t
def Env.u2(t:Env)(x:Row):Env:=Env.rec (motive:=λ_=>Env) (λc0 c1 _ c3 c4 c5 c6 c7 c8 c9 bU bE bO cg bV cq=>Env.mk c0 c1 x c3 c4 c5 c6 c7 c8 c9 bU bE bO cg bV cq) t
def Env.u3(t:Env)(x:Row):Env:=Env.rec (motive:=λ_=>Env) (λc0 c1 c2 _ c4 c5 c6 c7 c8 c9 bU bE bO cg bV cq=>Env.mk c0 c1 c2 x c4 c5 c6 c7 c8 c9 bU bE bO cg bV cq) t
def Env.u4(t:Env)(x:Row):Env:=Env.rec (motive:=λ_=>Env) (λc0 c1 c2 c3 _ c5 c6 c7 c8 c9 bU bE bO cg bV cq=>Env.mk c0 c1 c2 c3 x c5 c6 c7 c8 c9 bU bE bO cg bV cq) t
def Env.u5(t:Env)(x:Row):Env:=Env.rec (motive:=λ_=>Env) (λc0 c1 c2 c3 c4 _ c6 c7 c8 c9 bU bE bO cg bV cq=>Env.mk c0 c1 c2 c3 c4 x c6 c7 c8 c9 bU bE bO cg bV cq) t
def Env.u6(t:Env)(x:Row):Env:=Env.rec (motive:=λ_=>Env) (λc0 c1 c2 c3 c4 c5 _ c7 c8 c9 bU bE bO cg bV cq=>Env.mk c0 c1 c2 c3 c4 c5 x c7 c8 c9 bU bE bO cg bV cq) t
def Env.u7(t:Env)(x:Row):Env:=Env.rec (motive:=λ_=>Env) (λc0 c1 c2 c3 c4 c5 c6 _ c8 c9 bU bE bO cg bV cq=>Env.mk c0 c1 c2 c3 c4 c5 c6 x c8 c9 bU bE bO cg bV cq) t
def Env.u8(t:Env)(x:Row):Env:=Env.rec (motive:=λ_=>Env) (λc0 c1 c2 c3 c4 c5 c6 c7 _ c9 bU bE bO cg bV cq=>Env.mk c0 c1 c2 c3 c4 c5 c6 c7 x c9 bU bE bO cg bV cq) t
def Env.u9(t:Env)(x:Row):Env:=Env.rec (motive:=λ_=>Env) (λc0 c1 c2 c3 c4 c5 c6 c7 c8 _ bU bE bO cg bV cq=>Env.mk c0 c1 c2 c3 c4 c5 c6 c7 c8 x bU bE bO cg bV cq) t
def Env.Kl(t:Env)(x:Row):Env:=Env.rec (motive:=λ_=>Env) (λc0 c1 c2 c3 c4 c5 c6 c7 c8 c9 _ bE bO cg bV cq=>Env.mk c0 c1 c2 c3 c4 c5 c6 c7 c8 c9 x bE bO cg bV cq) t
def Env.PD(t:Env)(x:Row):Env:=Env.rec (motive:=λ_=>Env) (λc0 c1 c2 c3 c4 c5 c6 c7 c8 c9 bU _ bO cg bV cq=>Env.mk c0 c1 c2 c3 c4 c5 c6 c7 c8 c9 bU x bO cg bV cq) t
def Env.M4(t:Env)(x:Row):Env:=Env.rec (motive:=λ_=>Env) (λc0 c1 c2 c3 c4 c5 c6 c7 c8 c9 bU bE _ cg bV cq=>Env.mk c0 c1 c2 c3 c4 c5 c6 c7 c8 c9 bU bE x cg bV cq) t
def Env.PE(t:Env)(x:Row):Env:=Env.rec (motive:=λ_=>Env) (λc0 c1 c2 c3 c4 c5 c6 c7 c8 c9 bU bE bO _ bV cq=>Env.mk c0 c1 c2 c3 c4 c5 c6 c7 c8 c9 bU bE bO x bV cq) t
def Env.Km(t:Env)(x:Row):Env:=Env.rec (motive:=λ_=>Env) (λc0 c1 c2 c3 c4 c5 c6 c7 c8 c9 bU bE bO cg _ cq=>Env.mk c0 c1 c2 c3 c4 c5 c6 c7 c8 c9 bU bE bO cg x cq) t
def Env.PF(t:Env)(x:Row):Env:=Env.rec (motive:=λ_=>Env) (λc0 c1 c2 c3 c4 c5 c6 c7 c8 c9 bU bE bO cg bV _=>Env.mk c0 c1 c2 c3 c4 c5 c6 c7 c8 c9 bU bE bO cg bV x) t
def Env.sx(t:Env)(_:Row)(K:Env->Bool):Bool:=K t
def Env.ux(t:Env)(_:Row):Env:=t
def Env.gx(_:Env):Row:=kc
def Env.at(d:lW):Env->Row:=lW.rec (motive:=λ_=>Env->Row) Env.g0 Env.g1 Env.g2 Env.g3 Env.g4 Env.g5 Env.g6 Env.g7 Env.g8 Env.g9 Env.zG Env.Dc Env.Kk Env.zH Env.Hj Env.Iu Env.gx d
def Env.set(d:lW):Env->Row->(Env->Bool)->Bool:=lW.rec (motive:=λ_=>Env->Row->(Env->Bool)->Bool) Env.s0 Env.s1 Env.s2 Env.s3 Env.s4 Env.s5 Env.s6 Env.s7 Env.s8 Env.s9 Env.Tb Env.Tc Env.Td Env.Te Env.Tf Env.Tg Env.sx d
def Env.Kn(d:lW):Env->Row->Env:=lW.rec (motive:=λ_=>Env->Row->Env) Env.u0 Env.u1 Env.u2 Env.u3 Env.u4 Env.u5 Env.u6 Env.u7 Env.u8 Env.u9 Env.Kl Env.PD Env.M4 Env.PE Env.Km Env.PF Env.ux d
theorem Env.DS(d:lW)(t:Env)(x:Row)(K:Env->Bool):Env.set d t x K=K (Env.Kn d t x):=by cases d<;>rfl
theorem Env.CK(d e:lW)(t:Env)(x:Row)(hd:d≠ .x):Env.at e (Env.Kn d t x)=if e=d then x else Env.at e t:=by
 cases d<;>first|exact absurd rfl hd|(cases e<;>rfl)
def zF(n:Nat):lW:=Nat.rec (motive:=λ_=>lW) .d0 (λn0 _=>Nat.rec (motive:=λ_=>lW) .d1 (λn1 _=>Nat.rec (motive:=λ_=>lW) .d2 (λn2 _=>Nat.rec (motive:=λ_=>lW) .d3 (λn3 _=>Nat.rec (motive:=λ_=>lW) .d4 (λn4 _=>Nat.rec (motive:=λ_=>lW) .d5 (λn5 _=>Nat.rec (motive:=λ_=>lW) .d6 (λn6 _=>Nat.rec (motive:=λ_=>lW) .d7 (λn7 _=>Nat.rec (motive:=λ_=>lW) .d8 (λn8 _=>Nat.rec (motive:=λ_=>lW) .d9 (λn9 _=>Nat.rec (motive:=λ_=>lW) .d10 (λn10 _=>Nat.rec (motive:=λ_=>lW) .d11 (λn11 _=>Nat.rec (motive:=λ_=>lW) .d12 (λn12 _=>Nat.rec (motive:=λ_=>lW) .d13 (λn13 _=>Nat.rec (motive:=λ_=>lW) .d14 (λn14 _=>Nat.rec (motive:=λ_=>lW) .d15 (λ_ _=> .x) n14) n13) n12) n11) n10) n9) n8) n7) n6) n5) n4) n3) n2) n1) n0) n
def lW.num:lW->Nat
 |.d0=>0
 |.d1=>1
 |.d2=>2
 |.d3=>3
 |.d4=>4
 |.d5=>5
 |.d6=>6
 |.d7=>7
 |.d8=>8
 |.d9=>9
 |.d10=>10
 |.d11=>11
 |.d12=>12
 |.d13=>13
 |.d14=>14
 |.d15=>15
 |.x=>16
theorem y8:∀n,(zF n).num=min n 16
 |0=>rfl
 |1=>rfl
 |2=>rfl
 |3=>rfl
 |4=>rfl
 |5=>rfl
 |6=>rfl
 |7=>rfl
 |8=>rfl
 |9=>rfl
 |10=>rfl
 |11=>rfl
 |12=>rfl
 |13=>rfl
 |14=>rfl
 |15=>rfl
 |n+16=>by show 16=min (n+16) 16;omega
theorem H7{a b:Nat}(ha:a<16)(h:zF b=zF a):b=a:=by
 have h1:=y8 a;have h2:=y8 b;rw[h]at h2;omega
theorem MK{a:Nat}(ha:a<16):zF a≠ .x:=λh=>by
 have:=y8 a;rw[h]at this;simp only[lW.num]at this;omega
def Env.get(t:Nat)(e:Env):Value:=Row.at (zF (t%16)) (Env.at (zF (t/16)) e)
def Env.put(t:Nat)(e:Env)(v:Value)(K:Env->Bool):Bool:=Row.set (zF (t%16)) (Env.at (zF (t/16)) e) v λr=>Env.set (zF (t/16)) e r K
def Env.new(t:Nat)(e:Env)(v:Value):Env:=Env.Kn (zF (t/16)) e (Row.Kn (zF (t%16)) (Env.at (zF (t/16)) e) v)
theorem Env.put_eq(t:Nat)(e:Env)(v:Value)(K:Env->Bool):Env.put t e v K=K (Env.new t e v):=by
 unfold Env.put Env.new;rw[Row.DS,Env.DS]
theorem Jx(d:lW):Row.at d kc=undef:=by cases d<;>rfl
theorem pz(t:Nat):Env.get t qE=undef:=by
 unfold Env.get;have:Env.at (zF (t/16)) qE=kc:=by cases zF (t/16)<;>rfl
 rw[this,Jx]
theorem Env.yG{t u:Nat}{e:Env}{v:Value}(ht:t<256):Env.get u (Env.new t e v)=if u=t then v else Env.get u e:=by
 have h1:t/16<16:=by omega
 have h2:t%16<16:=Nat.mod_lt _ (by omega);unfold Env.get Env.new;rw[Env.CK _ _ _ _ (MK h1)];by_cases hq:zF (u/16)=zF (t/16)
 ·have hq':=H7 h1 hq;rw[if_pos hq,Row.CK _ _ _ _ (MK h2)];by_cases hr:zF (u%16)=zF (t%16)
  ·have hr':=H7 h2 hr;rw[if_pos hr,if_pos (by omega)]
  ·rw[if_neg hr,if_neg (λh=>hr (by rw[h])),hq]
 ·rw[if_neg hq,if_neg (λh=>hq (by rw[h]))]
end
end Go.Ab
end
section
namespace Go.Ab
open Go
section
noncomputable section
variable {α:Type}
def fY(n:Nat)(c:Nat->Bool):Bool:=Nat.rec (motive:=λ_=>Bool) (c 0) (λm _=>c (m+1)) n
def Ik(n:Int)(c:Int->Bool):Bool:=Int.rec (motive:=λ_=>Bool) (λn=>fY n λn=>c (.ofNat n)) (λn=>fY n λn=>c (.negSucc n)) n
def vH(bad:Bool)(x:Option α)(K:α->Bool):Bool:=Option.rec (motive:=λ_=>Bool) bad K x
def dW(b:Bool)(x y:Bool):Bool:=Bool.rec (motive:=λ_=>Bool) y x b
def ED(a:Option Addr)(K:Option Addr->Bool):Bool:=Option.rec (motive:=λ_=>Bool) (K none) (λad=>Addr.rec (motive:=λ_=>Bool) (λb o s=>fY b λb=>fY o λo=>K (some ⟨b,o,s⟩)) ad) a
def Qq(k:IntKind)(n:Int)(K:Value->Bool):Bool:=Ik n λn=>K (.int k n)
def Qr(a:Option Addr)(K:Value->Bool):Bool:=ED a λa=>K (.pointer a)
def Lc(a:Option Addr)(n c:Nat)(K:Value->Bool):Bool:=ED a λa=>fY n λn=>fY c λc=>K (.slice a n c)
def gT(v:Value):(Value->Bool)->Bool:=Value.rec (motive_1:=λ_=>(Value->Bool)->Bool) (motive_2:=λ_=>Unit) (motive_3:=λ_=>Unit) (λb K=>K (.bool b)) Qq (λk n K=>K (.float k n)) (λk m n K=>K (.complex k m n)) (λs K=>K (.string s)) Qr Lc (λr K=>K (.map r)) (λr K=>K (.chan r)) (λf a c _ _=>(λf a c K=>K (.func f a c)) f a c) (λK=>K .nilFunc) (λt v _=>(λt v K=>K (.iface t v)) t v) (λK=>K .nilIface) (λa _=>(λa K=>K (.agg a)) a) (λa _=>(λa K=>K (.tuple a)) a) (λ_ _=>()) () (λ_ _ _ _=>()) v
def ri(v:Value):Bool->(Bool->Bool)->Bool:=Value.rec (motive_1:=λ_=>Bool->(Bool->Bool)->Bool) (motive_2:=λ_=>Unit) (motive_3:=λ_=>Unit) (λb _ K=>K b) (λ_ _ bad _=>bad) (λ_ _ bad _=>bad) (λ_ _ _ bad _=>bad) (λ_ bad _=>bad) (λ_ bad _=>bad) (λ_ _ _ bad _=>bad) (λ_ bad _=>bad) (λ_ bad _=>bad) (λf a c _ _=>(λ_ _ _ bad _=>bad) f a c) (λbad _=>bad) (λt v _=>(λ_ _ bad _=>bad) t v) (λbad _=>bad) (λa _=>(λ_ bad _=>bad) a) (λa _=>(λ_ bad _=>bad) a) (λ_ _=>()) () (λ_ _ _ _=>()) v
theorem Ag(v:Value)(bad:Bool)(K:Bool->Bool):(ri v bad K=bad/\∀b,v≠ .bool b)\/ ∃b,v = .bool b/\ri v bad K=K b:=by
 cases v<;>first|exact .inr ⟨_,rfl,rfl⟩|exact .inl ⟨rfl,by intros;simp⟩
def vR(v:Value):Bool->(IntKind->Int->Bool)->Bool:=Value.rec (motive_1:=λ_=>Bool->(IntKind->Int->Bool)->Bool) (motive_2:=λ_=>Unit) (motive_3:=λ_=>Unit) (λ_ bad _=>bad) (λk n _ K=>K k n) (λ_ _ bad _=>bad) (λ_ _ _ bad _=>bad) (λ_ bad _=>bad) (λ_ bad _=>bad) (λ_ _ _ bad _=>bad) (λ_ bad _=>bad) (λ_ bad _=>bad) (λf a c _ _=>(λ_ _ _ bad _=>bad) f a c) (λbad _=>bad) (λt v _=>(λ_ _ bad _=>bad) t v) (λbad _=>bad) (λa _=>(λ_ bad _=>bad) a) (λa _=>(λ_ bad _=>bad) a) (λ_ _=>()) () (λ_ _ _ _=>()) v
theorem Li(v:Value)(bad:Bool)(K:IntKind->Int->Bool):(vR v bad K=bad/\∀k n,v≠ .int k n)\/ ∃k n,v = .int k n/\vR v bad K=K k n:=by
 cases v<;>first|exact .inr ⟨_,_,rfl,rfl⟩|exact .inl ⟨rfl,by intros;simp⟩
def sM(v:Value):Bool->(ByteArray->Bool)->Bool:=Value.rec (motive_1:=λ_=>Bool->(ByteArray->Bool)->Bool) (motive_2:=λ_=>Unit) (motive_3:=λ_=>Unit) (λ_ bad _=>bad) (λ_ _ bad _=>bad) (λ_ _ bad _=>bad) (λ_ _ _ bad _=>bad) (λs _ K=>K s) (λ_ bad _=>bad) (λ_ _ _ bad _=>bad) (λ_ bad _=>bad) (λ_ bad _=>bad) (λf a c _ _=>(λ_ _ _ bad _=>bad) f a c) (λbad _=>bad) (λt v _=>(λ_ _ bad _=>bad) t v) (λbad _=>bad) (λa _=>(λ_ bad _=>bad) a) (λa _=>(λ_ bad _=>bad) a) (λ_ _=>()) () (λ_ _ _ _=>()) v
theorem DZ(v:Value)(bad:Bool)(K:ByteArray->Bool):(sM v bad K=bad/\∀s,v≠ .string s)\/ ∃s,v = .string s/\sM v bad K=K s:=by
 cases v<;>first|exact .inr ⟨_,rfl,rfl⟩|exact .inl ⟨rfl,by intros;simp⟩
def BA(v:Value):Bool->(Option Addr->Bool)->Bool:=Value.rec (motive_1:=λ_=>Bool->(Option Addr->Bool)->Bool) (motive_2:=λ_=>Unit) (motive_3:=λ_=>Unit) (λ_ bad _=>bad) (λ_ _ bad _=>bad) (λ_ _ bad _=>bad) (λ_ _ _ bad _=>bad) (λ_ bad _=>bad) (λa _ K=>K a) (λ_ _ _ bad _=>bad) (λ_ bad _=>bad) (λ_ bad _=>bad) (λf a c _ _=>(λ_ _ _ bad _=>bad) f a c) (λbad _=>bad) (λt v _=>(λ_ _ bad _=>bad) t v) (λbad _=>bad) (λa _=>(λ_ bad _=>bad) a) (λa _=>(λ_ bad _=>bad) a) (λ_ _=>()) () (λ_ _ _ _=>()) v
theorem LY(v:Value)(bad:Bool)(K:Option Addr->Bool):(BA v bad K=bad/\∀a,v≠ .pointer a)\/ ∃a,v = .pointer a/\BA v bad K=K a:=by
 cases v<;>first|exact .inr ⟨_,rfl,rfl⟩|exact .inl ⟨rfl,by intros;simp⟩
def uV(v:Value):Bool->(Option Addr->Nat->Nat->Bool)->Bool:=Value.rec (motive_1:=λ_=>Bool->(Option Addr->Nat->Nat->Bool)->Bool) (motive_2:=λ_=>Unit) (motive_3:=λ_=>Unit) (λ_ bad _=>bad) (λ_ _ bad _=>bad) (λ_ _ bad _=>bad) (λ_ _ _ bad _=>bad) (λ_ bad _=>bad) (λ_ bad _=>bad) (λa n c _ K=>K a n c) (λ_ bad _=>bad) (λ_ bad _=>bad) (λf a c _ _=>(λ_ _ _ bad _=>bad) f a c) (λbad _=>bad) (λt v _=>(λ_ _ bad _=>bad) t v) (λbad _=>bad) (λa _=>(λ_ bad _=>bad) a) (λa _=>(λ_ bad _=>bad) a) (λ_ _=>()) () (λ_ _ _ _=>()) v
theorem GX(v:Value)(bad:Bool)(K:Option Addr->Nat->Nat->Bool):(uV v bad K=bad/\∀a n c,v≠ .slice a n c)\/ ∃a n c,v = .slice a n c/\uV v bad K=K a n c:=by
 cases v<;>first|exact .inr ⟨_,_,_,rfl,rfl⟩|exact .inl ⟨rfl,by intros;simp⟩
def funcF(v:Value):Bool->(Fn->Array Value->Array Value->Bool)->Bool:=Value.rec (motive_1:=λ_=>Bool->(Fn->Array Value->Array Value->Bool)->Bool) (motive_2:=λ_=>Unit) (motive_3:=λ_=>Unit) (λ_ bad _=>bad) (λ_ _ bad _=>bad) (λ_ _ bad _=>bad) (λ_ _ _ bad _=>bad) (λ_ bad _=>bad) (λ_ bad _=>bad) (λ_ _ _ bad _=>bad) (λ_ bad _=>bad) (λ_ bad _=>bad) (λf a c _ _=>(λf a c _ K=>K f a c) f a c) (λbad _=>bad) (λt v _=>(λ_ _ bad _=>bad) t v) (λbad _=>bad) (λa _=>(λ_ bad _=>bad) a) (λa _=>(λ_ bad _=>bad) a) (λ_ _=>()) () (λ_ _ _ _=>()) v
theorem AS(v:Value)(bad:Bool)(K:Fn->Array Value->Array Value->Bool):(funcF v bad K=bad/\∀f a c,v≠ .func f a c)\/ ∃f a c,v = .func f a c/\funcF v bad K=K f a c:=by
 cases v<;>first|exact .inr ⟨_,_,_,rfl,rfl⟩|exact .inl ⟨rfl,by intros;simp⟩
def Kv(v:Value):Bool->(Array Value->Bool)->Bool:=Value.rec (motive_1:=λ_=>Bool->(Array Value->Bool)->Bool) (motive_2:=λ_=>Unit) (motive_3:=λ_=>Unit) (λ_ bad _=>bad) (λ_ _ bad _=>bad) (λ_ _ bad _=>bad) (λ_ _ _ bad _=>bad) (λ_ bad _=>bad) (λ_ bad _=>bad) (λ_ _ _ bad _=>bad) (λ_ bad _=>bad) (λ_ bad _=>bad) (λf a c _ _=>(λ_ _ _ bad _=>bad) f a c) (λbad _=>bad) (λt v _=>(λ_ _ bad _=>bad) t v) (λbad _=>bad) (λa _=>(λa _ K=>K a) a) (λa _=>(λ_ bad _=>bad) a) (λ_ _=>()) () (λ_ _ _ _=>()) v
theorem Kw(v:Value)(bad:Bool)(K:Array Value->Bool):(Kv v bad K=bad/\∀a,v≠ .agg a)\/ ∃a,v = .agg a/\Kv v bad K=K a:=by
 cases v<;>first|exact .inr ⟨_,rfl,rfl⟩|exact .inl ⟨rfl,by intros;simp⟩
def zt(v:Value):Bool->(Array Value->Bool)->Bool:=Value.rec (motive_1:=λ_=>Bool->(Array Value->Bool)->Bool) (motive_2:=λ_=>Unit) (motive_3:=λ_=>Unit) (λ_ bad _=>bad) (λ_ _ bad _=>bad) (λ_ _ bad _=>bad) (λ_ _ _ bad _=>bad) (λ_ bad _=>bad) (λ_ bad _=>bad) (λ_ _ _ bad _=>bad) (λ_ bad _=>bad) (λ_ bad _=>bad) (λf a c _ _=>(λ_ _ _ bad _=>bad) f a c) (λbad _=>bad) (λt v _=>(λ_ _ bad _=>bad) t v) (λbad _=>bad) (λa _=>(λ_ bad _=>bad) a) (λa _=>(λa _ K=>K a) a) (λ_ _=>()) () (λ_ _ _ _=>()) v
theorem Hb(v:Value)(bad:Bool)(K:Array Value->Bool):(zt v bad K=bad/\∀a,v≠ .tuple a)\/ ∃a,v = .tuple a/\zt v bad K=K a:=by
 cases v<;>first|exact .inr ⟨_,rfl,rfl⟩|exact .inl ⟨rfl,by intros;simp⟩
def JD(v:Value):Bool:=Value.rec (motive_1:=λ_=>Bool) (motive_2:=λ_=>Unit) (motive_3:=λ_=>Unit) (λ_=>true) (λ_ _=>true) (λ_ _=>true) (λ_ _ _=>true) (λ_=>true) (λ_=>true) (λ_ _ _=>true) (λ_=>true) (λ_=>false) (λf a c _ _=>(λ_ _ _=>true) f a c) true (λt v _=>(λ_ _=>true) t v) true (λa _=>(λ_=>false) a) (λa _=>(λ_=>false) a) (λ_ _=>()) () (λ_ _ _ _=>()) v
theorem BQ(v:Value):JD v=cH v:=by cases v<;>rfl
def Lg(k:IntKind):IntKind->Bool:=IntKind.rec (motive:=λ_=>IntKind->Bool) (IntKind.rec (motive:=λ_=>Bool) true false false false false false false false) (IntKind.rec (motive:=λ_=>Bool) false true false false false false false false) (IntKind.rec (motive:=λ_=>Bool) false false true false false false false false) (IntKind.rec (motive:=λ_=>Bool) false false false true false false false false) (IntKind.rec (motive:=λ_=>Bool) false false false false true false false false) (IntKind.rec (motive:=λ_=>Bool) false false false false false true false false) (IntKind.rec (motive:=λ_=>Bool) false false false false false false true false) (IntKind.rec (motive:=λ_=>Bool) false false false false false false false true) k
theorem yJ{k k':IntKind}(h:Lg k k'=true):k=k':=by cases k<;>cases k'<;>first|rfl|cases h
def lim(k:IntKind):Nat:=IntKind.rec (motive:=λ_=>Nat) 128 32768 2147483648 9223372036854775808 256 65536 4294967296 18446744073709551616 k
def N3(j:Int)(bad:Bool)(K:Nat->Bool):Bool:=Int.rec (motive:=λ_=>Bool) K (λ_=>bad) j
def AZ(a b:Int):Bool:=Int.rec (motive:=λ_=>Bool) (λm=>Int.rec (motive:=λ_=>Bool) (λn=>Nat.blt m n) (λ_=>false) b) (λm=>Int.rec (motive:=λ_=>Bool) (λ_=>true) (λn=>Nat.blt n m) b) a
def EL(a b:Int):Bool:=Int.rec (motive:=λ_=>Bool) (λm=>Int.rec (motive:=λ_=>Bool) (λn=>Nat.beq m n) (λ_=>false) b) (λm=>Int.rec (motive:=λ_=>Bool) (λ_=>false) (λn=>Nat.beq n m) b) a
def Ke(k:IntKind)(n:Int)(K:Int->Bool):Bool:=
 Int.rec (motive:=λ_=>Bool) (λm=>dW (Nat.blt m (lim k)) (fY m λm=>K (.ofNat m)) (Ik (k.wrap (.ofNat m)) K)) (λm=>Ik (k.wrap (.negSucc m)) K) n
def qG(l:List Value):(List Value->Bool)->Bool:=List.rec (motive:=λ_=>(List Value->Bool)->Bool) (λK=>K []) (λa _ ih K=>ih λr=>K (a::r)) l
def nth(l:List α):Nat->Option α:=List.rec (motive:=λ_=>Nat->Option α) (λ_=>none) (λa _ ih i=>Nat.rec (motive:=λ_=>Option α) (some a) (λj _=>ih j) i) l
def zo(v:Value)(bad:Bool)(l:List Value):Nat->(List Value->Bool)->Bool:=
 List.rec (motive:=λ_=>Nat->(List Value->Bool)->Bool) (λ_ _=>bad) (λa r ih i K=>Nat.rec (motive:=λ_=>Bool) (K (v::r)) (λj _=>ih j λr=>K (a::r)) i) l
def HT.kE(b:Option bt)(t:HT)(K:HT->Bool):Bool:=HT.rec (motive:=λ_=>Bool) (K (.node b .nil .nil)) (λ_ l r _ _=>K (.node b l r)) t
def HT.kL(ih:HT->(HT->Bool)->Bool)(t:HT)(K:HT->Bool):Bool:=HT.rec (motive:=λ_=>Bool) (ih .nil λl=>K (.node none l .nil)) (λv l r _ _=>ih l λl=>K (.node v l r)) t
def HT.kR(ih:HT->(HT->Bool)->Bool)(t:HT)(K:HT->Bool):Bool:=HT.rec (motive:=λ_=>Bool) (ih .nil λr=>K (.node none .nil r)) (λv l r _ _=>ih r λr=>K (.node v l r)) t
def HT.jF(b:Option bt)(p:yb):HT->(HT->Bool)->Bool:=yb.rec (motive:=λ_=>HT->(HT->Bool)->Bool) (HT.kE b) (λ_=>HT.kL) (λ_=>HT.kR) p
def AK(b:bt)(K:bt->Bool):Bool:=bt.rec (motive:=λ_=>Bool) (λcs t sz wr=>qG cs λcs=>K (.cells cs t sz wr)) (λes=>K (.map es)) (λst tm ps asg body ok=>K (.loop st tm ps asg body ok)) b
def J4(k:Nat)(b:bt)(h:aa)(K:aa->Bool):Bool:=AK b λb=>HT.jF (some b) (pathOf k) h.t λt=>K ⟨h.next,t⟩
def oU(b:bt)(h:aa)(K:aa->Bool):Bool:=AK b λb=>HT.jF (some b) (pathOf h.next) h.t λt=>fY h.next λn=>K ⟨n+1,t⟩
def D6(k:Nat)(b:bt)(h:aa)(K:aa->Bool):Bool:=AK b λb=>HT.jF none (pathOf k) h.t λt=>HT.jF (some b) (pathOf h.next) t λt=>fY h.next λn=>K ⟨n+1,t⟩
def KA(u:cL):aa->(aa->Bool)->Bool:=cL.rec (motive:=λ_=>aa->(aa->Bool)->Bool) (λh K=>K h) J4 oU D6 (λh _ K=>K h) u
structure Cx where
 P:Program
 gl:Nat->Bool
 cf:FuncId->List Value->aa->(Value->aa->Bool)->Bool
 N:Nat
 n:Nat
 bad:Bool
abbrev l6:=Cx->Oper->(Operand->Value)->aa->(Value->aa->Bool)->Bool
def Dy(bad:Bool)(r:Option (Value×cL))(h:aa)(K:Value->aa->Bool):Bool:=vH bad r λr=>Prod.rec (motive:=λ_=>Bool) (λv u=>KA u h λh=>gT v λv=>K v h) r
def gen:l6:=λcx o ρ h K=>Dy cx.bad (aP cx.P eJ ρ o h) h K
def CQ:l6:=λcx _ _ _ _=>cx.bad
def Eu(x:Operand):l6:=λ_ _ ρ h K=>gT (ρ x) λv=>K v h
def HO(c a b:Operand):l6:=λcx _ ρ h K=>ri (ρ c) cx.bad λt=>dW t (gT (ρ a) λv=>K v h) (gT (ρ b) λv=>K v h)
def Hz(P:Program)(t:TypeId):Option bt:=match zeroOf P t with
 |some z=>if z.cells.toList.all cH then some (.cells z.cells.toList t 0 true)else none
 |none=>none
def LN(b:bt)(h:aa)(K:Value->aa->Bool):Bool:=fY h.next λk=>oU b h λh=>K (.pointer (some ⟨k,0,none⟩)) h
def CP(t:TypeId):l6:=λcx _ _ h K=>vH cx.bad (Hz cx.P t) λb=>LN b h K
def Nu(t:TypeId)(x:Operand):l6:=λcx o ρ h K=>dW (JD (ρ x)) (gT (ρ x) λv=>LN (.cells [v] t 0 true) h K) (gen cx o ρ h K)
def z6(a:Option Addr)(bad:Bool)(K:Nat->Nat->Bool):Bool:=Option.rec (motive:=λ_=>Bool) bad (λad=>Addr.rec (motive:=λ_=>Bool) (λb i s=>Option.rec (motive:=λ_=>Bool) (K b i) (λ_=>bad) s) ad) a
def L7(h:aa)(k:Nat)(bad:Bool)(K:List Value->TypeId->Nat->Bool->Bool):Bool:=vH bad (h.get k) λB=>bt.rec (motive:=λ_=>Bool) K (λ_=>bad) (λ_ _ _ _ _ _=>bad) B
def zf(P:Program)(t:TypeId):Bool:=(P.underlying t).isSome && !isAgg P t
def MZ(P:Program)(t:TypeId):Bool:=decide (aw P t=some 1)
def HN(t:TypeId)(a:Operand):l6:=λcx _ ρ h K=>
 dW (zf cx.P t) (BA (ρ a) cx.bad λad=>z6 ad cx.bad λb i=>L7 h b cx.bad λcs _ _ _=>vH cx.bad (nth cs i) λv=>K v h) (vH cx.bad (ag cx.P t h (ρ a)) λv=>K v h)
def an(P:Program)(t:TypeId)(a x:Value)(h:aa):Option (Value×cL):=match a with
 |.pointer (some ⟨k,i,none⟩)=>if aw P t=some x.cells.size then(storeAt h k i x.cells.toList).map λu=>(undef,u)else none
 |_=>none
def CT(t:TypeId)(a x:Operand):l6:=λcx _ ρ h K=>
 dW (MZ cx.P t&&JD (ρ x)) (BA (ρ a) cx.bad λad=>z6 ad cx.bad λb i=>L7 h b cx.bad λcs te sz wr=>dW wr (gT (ρ x) λv=>zo v cx.bad cs i λcs=>
   HT.jF (some (.cells cs te sz true)) (pathOf b) h.t λt=>K undef ⟨h.next,t⟩) cx.bad) (Dy cx.bad (an cx.P t (ρ a) (ρ x) h) h K)
def qx(x:Operand):l6:=λcx o ρ h K=>BA (ρ x) (gen cx o ρ h K) λad=>vH cx.bad ad λad=>K (.pointer (some ad)) h
def td(f:Int->Int->Int)(x y:Operand):l6:=λcx o ρ h K=>vR (ρ x) (gen cx o ρ h K) λk a=>vR (ρ y) cx.bad λk' b=>dW (Lg k k') (Ke k (f a b) λn=>K (.int k n) h) cx.bad
def z7(f:Int->Int->Bool)(x y:Operand):l6:=λcx o ρ h K=>vR (ρ x) (gen cx o ρ h K) λk a=>vR (ρ y) cx.bad λk' b=>dW (Lg k k') (dW (f a b) (K (.bool true) h) (K (.bool false) h)) cx.bad
def z8(_ _:Operand):l6:=gen
def Qv(a b:Int):Int:=a+b
def Qx(a b:Int):Int:=a-b
def Qw(a b:Int):Int:=a*b
def TJ(a b:Int):Bool:= !EL a b
def TI(a b:Int):Bool:= !AZ b a
def TG(a b:Int):Bool:=AZ b a
def TF(a b:Int):Bool:= !AZ a b
def PX(op:BinOp)(_:TypeId)(x y:Operand)(_:TypeId):l6:=
 BinOp.rec (motive:=λ_=>Operand->Operand->l6) (td Qv) (td Qx) (td Qw) z8 z8 z8 z8 z8 z8 z8 z8 (z7 EL) (z7 TJ) (z7 AZ) (z7 TI) (z7 TG) (z7 TF) op x y
def Pp(_:Operand):l6:=gen
def Pq(x:Operand):l6:=λcx _ ρ h K=>ri (ρ x) cx.bad λb=>dW b (K (.bool false) h) (K (.bool true) h)
def PY(op:UnOp)(_:TypeId)(x:Operand):l6:=UnOp.rec (motive:=λ_=>Operand->l6) Pp Pp Pq Pp op x
def SK(P:Program)(s d:TypeId):Option IntKind:=match P.underlying s,P.underlying d with
 |some _,some (.int k)=>some k
 |_,_=>none
def tp(s d:TypeId)(x:Operand):l6:=λcx o ρ h K=>Option.rec (motive:=λ_=>Bool) (gen cx o ρ h K) (λk=>vR (ρ x) cx.bad λ_ n=>Ke k n λn=>K (.int k n) h) (SK cx.P s d)
def Qn(P:Program)(s:TypeId)(f:Nat):Option Nat:=match P.underlying s with
 |some (.struct fields)=>match fields[f]? with
  |some fd=>if(aw P fd.type).any (· ≠0)then some fd.offset else none
  |none=>none
 |_=>none
def ot(s:TypeId)(x:Operand)(f:Nat):l6:=λcx _ ρ h K=>vH cx.bad (Qn cx.P s f) λoff=>BA (ρ x) cx.bad λad=>z6 ad cx.bad λb i=>fY (i+off) λi=>K (.pointer (some ⟨b,i,none⟩)) h
def Db(P:Program)(s:TypeId)(f:Nat):Option Nat:=match P.underlying s with
 |some (.struct fields)=>match fields[f]? with
  |some fd=>if zf P fd.type then some fd.offset else none
  |none=>none
 |_=>none
def CR(s:TypeId)(x:Operand)(f:Nat):l6:=λcx o ρ h K=>Option.rec (motive:=λ_=>Bool) (gen cx o ρ h K) (λoff=>Kv (ρ x) cx.bad λcs=>vH cx.bad (nth cs.toList off) λv=>gT v λv=>K v h) (Db cx.P s f)
def MM(P:Program)(t:TypeId):Option (Option Nat×Nat):=match P.underlying t with
 |some (.array len e)=>(aw P e).map λn=>(some len,n)
 |some (.slice e)=>(aw P e).map λn=>(none,n)
 |_=>none
def elemAt(bad:Bool)(a:Option Addr)(j n len:Nat)(h:aa)(K:Value->aa->Bool):Bool:=dW (Nat.blt j len) (z6 a bad λb o=>fY (o+j*n) λo=>K (.pointer (some ⟨b,o,none⟩)) h) bad
def oy(t:TypeId)(x i:Operand):l6:=λcx _ ρ h K=>vH cx.bad (MM cx.P t) λinf=>Prod.rec (motive:=λ_=>Bool) (λlen n=>vR (ρ i) cx.bad λ_ j=>N3 j cx.bad λj=>
 Option.rec (motive:=λ_=>Bool) (uV (ρ x) cx.bad λa l _=>elemAt cx.bad a j n l h K) (λlen=>BA (ρ x) cx.bad λa=>elemAt cx.bad a j n len h K) len) inf
def isStr(P:Program)(t:TypeId):Bool:=match P.underlying t with|some .string=>true|_=>false
def CS(t:TypeId)(x i:Operand):l6:=λcx o ρ h K=>dW (isStr cx.P t) (sM (ρ x) cx.bad λs=>vR (ρ i) cx.bad λ_ j=>N3 j cx.bad λj=>vH cx.bad (nth s.data.toList j) λb=>fY b.toNat λb=>K (.int .u8 (.ofNat b)) h) (gen cx o ρ h K)
def tq(x:Operand)(i:Nat):l6:=λcx _ ρ h K=>zt (ρ x) cx.bad λvs=>vH cx.bad (nth vs.toList i) λv=>gT v λv=>K v h
def fArgs(ρ:Operand->Value)(l:List Operand):(List Value->Bool)->Bool:=List.rec (motive:=λ_=>(List Value->Bool)->Bool) (λK=>K []) (λx _ ih K=>gT (ρ x) λv=>ih λr=>K (v::r)) l
def SE(fn:Fn)(bad:Bool)(K:FuncId->Bool)(Y:Nat->Bool):Bool:=Fn.rec (motive:=λ_=>Bool) K (λ_=>bad) (λ_ _=>bad) (λ_ _ _ _=>bad) Y fn
def qC(a:Array Value):Bool:=List.rec (motive:=λ_=>Bool) true (λ_ _ _=>false) a.toList
def yh(f:Operand)(args:Array Operand)(_:Array TypeId):l6:=λcx _ ρ h K=>funcF (ρ f) cx.bad λfn first captured=>SE fn cx.bad
 (λg=>dW (Nat.blt g YB) (fArgs ρ args.toList λvs=>qG (first.toList++vs++captured.toList) λvs=>cx.cf g vs h K) cx.bad)
 (λk=>dW (qC first) (dW (qC captured) (fArgs ρ args.toList λvs=>fY (YB+k) λid=>cx.cf id vs h K) cx.bad) cx.bad)
def MO(P:Program)(t:TypeId):Bool:=match P.underlying t with|some (.slice _)=>true|_=>false
def yO(P:Program)(args:Array Operand)(ats:Array TypeId):Option Operand:=match args[0]?,ats[0]? with
 |some x,some t=>if MO P t then some x else none
 |_,_=>none
def HS(args:Array Operand)(ats:Array TypeId):l6:=λcx o ρ h K=>Option.rec (motive:=λ_=>Bool) (gen cx o ρ h K) (λx=>uV (ρ x) cx.bad λ_ n _=>K (.int .i64 (.ofNat n)) h) (yO cx.P args ats)
def tt(args:Array Operand)(ats:Array TypeId):l6:=λcx _ ρ h K=>Dy cx.bad (match args.toList,ats.toList with
  |[s,x],[t,t']=>aY cx.P t t' (ρ s) (ρ x) h
  |_,_=>none) h K
def eS(_:Array Operand)(_:Array TypeId):l6:=gen
def FF(b:Builtin):Array Operand->Array TypeId->l6:=
 Builtin.rec (motive:=λ_=>Array Operand->Array TypeId->l6) tt eS eS eS eS eS eS eS HS eS eS eS eS eS eS eS eS eS eS eS eS eS eS eS eS eS b
def HU(_:Operand)(_:String)(_:Array Operand)(_:Array TypeId):l6:=CQ
def Nv(callee:Callee)(args:Array Operand)(ats:Array TypeId):l6:=Callee.rec (motive:=λ_=>Array Operand->Array TypeId->l6) yh HU FF callee args ats
def HM(c:Call):l6:=Call.rec (motive:=λ_=>l6) Nv c
def N9(op:Op):l6:=Op.rec (motive:=λ_=>l6) Eu Eu HO CP Nu (λ_ _=>gen) (λ_ _ _=>gen) (λ_ _ _ _=>gen) HN CT (λ_=>gen) (λ_=>gen) qx PX PY tp (λ_ _=>gen) (λ_ _=>gen) (λ_ _ _=>gen) (λ_ _=>gen) (λ_ _=>gen) (λ_ _ _=>gen) (λ_ _ _ _ _=>gen) ot CR oy CS (λ_ _ _ _=>gen) (λ_ _ _ _=>gen) (λ_ _ _=>gen) (λ_ _ _ _=>gen) (λ_ _=>gen) (λ_ _=>gen) (λ_=>gen) (λ_ _ _ _=>gen) tq HM (λ_=>CQ) (λ_=>CQ) (λ_=>CQ) (λ_ _=>CQ) (λ_ _ _=>CQ) (λ_ _=>CQ) op
def KT(b:Bool)(x y:Value):Value:=Bool.rec (motive:=λ_=>Value) y x b
def Qk(t:Tmp)(_:Nat->Bool)(e:Env):Value:=Env.get t e
def K8(v:Value)(_:Nat->Bool)(_:Env):Value:=KT (plain v) v eu
def Ii(g:Nat)(gl:Nat->Bool)(_:Env):Value:=KT (gl g) (.pointer (some ⟨g,0,none⟩)) eu
def NI(f:FuncId)(_:Nat->Bool)(_:Env):Value:= .func (.func f) #[] #[]
def EB(gl:Nat->Bool)(e:Env)(x:Operand):Value:=Operand.rec (motive:=λ_=>(Nat->Bool)->Env->Value) Qk K8 Ii NI x gl e
def Ix(ops:Array Oper)(j:Nat):Option Tmp:=(ops[j]?).bind (·.dst)
def tR(v:Value):Bool->(Bool->Bool)->Bool->Bool:=Value.rec (motive_1:=λ_=>Bool->(Bool->Bool)->Bool->Bool) (motive_2:=λ_=>Unit) (motive_3:=λ_=>Unit) (λb _ K _=>K b) (λ_ _ bad _ _=>bad) (λ_ _ bad _ _=>bad) (λ_ _ _ bad _ _=>bad) (λ_ bad _ _=>bad) (λ_ bad _ _=>bad) (λ_ _ _ bad _ _=>bad) (λ_ bad _ _=>bad) (λ_ bad _ _=>bad) (λf a c _ _=>(λ_ _ _ bad _ _=>bad) f a c) (fun  bad _ _=>bad) (λt v _=>(λ_ _ bad _ _=>bad) t v) (fun  bad _ _=>bad) (λa _=>(λ_ bad _ _=>bad) a) (λa _=>(λ_ _ _ sk=>sk) a) (λ_ _=>()) () (λ_ _ _ _=>()) v
def lj(n:Nat)(dst:Option Tmp)(e:Env)(v:Value)(K:Env->Bool):Bool:=Option.rec (motive:=λ_=>Bool) (K e) (λd=>dW (Nat.blt d n) (Env.put d e v K) (K e)) dst
def vd(ops:Array Oper)(e:Env)(bad:Bool)(guard:Option (Nat×Bool))(run:Bool)(skip:Bool):Bool:=
 Option.rec (motive:=λ_=>Bool) run (λg=>Prod.rec (motive:=λ_=>Bool) (λj want=>vH bad (Ix ops j) λd=>tR (Env.get d e) bad (λb=>Bool.rec (motive:=λ_=>Bool) (dW want skip run) (dW want run skip) b) skip) g) guard
def N8(cx:Cx)(ops:Array Oper)(o:Oper)(e:Env)(h:aa)(K:Env->aa->Bool):Bool:=
 vd ops e cx.bad o.guard (N9 o.op cx o (EB cx.gl e) h λv h=>lj cx.n o.dst e v λe=>K e h) (lj cx.n o.dst e undef λe=>K e h)
def By(cx:Cx)(ops:Array Oper)(l:List Oper):Env->aa->(Env->aa->Bool)->Bool:=
 List.rec (motive:=λ_=>Env->aa->(Env->aa->Bool)->Bool) (λe h K=>K e h) (λo _ ih e h K=>N8 cx ops o e h λe h=>ih e h K) l
inductive MA where
 |p|r|e|d
def Qb(callee:Callee)(_:Array Operand)(_:Array TypeId):MA:=Callee.rec (motive:=λ_=>MA) (λ_=> .e) (λ_ _=> .d)
 (λb=>Builtin.rec (motive:=λ_=>MA) .e .d .d .d .d .d .d .d .r .d .d .d .d .d .d .d .d .d .d .d .d .d .d .d .d .d b) callee
def Sv(c:Call):MA:=Call.rec (motive:=λ_=>MA) Qb c
def FI(op:Op):MA:=Op.rec (motive:=λ_=>MA) (λ_=> .p) (λ_=> .p) (λ_ _ _=> .p) (λ_=> .d) (λ_ _=> .d) (λ_ _=> .d) (λ_ _ _=> .d) (λ_ _ _ _=> .d) (λ_ _=> .r) (λ_ _ _=> .e) (λ_=> .d) (λ_=> .d) (λ_=> .p) (λ_ _ _ _ _=> .p) (λ_ _ _=> .p) (λ_ _ _=> .d) (λ_ _=> .d) (λ_ _=> .d) (λ_ _ _=> .d) (λ_ _=> .d) (λ_ _=> .d) (λ_ _ _=> .d) (λ_ _ _ _ _=> .d) (λ_ _ _=> .p) (λ_ _ _=> .p) (λ_ _ _=> .p) (λ_ _ _=> .p) (λ_ _ _ _=> .d) (λ_ _ _ _=> .d) (λ_ _ _=> .d) (λ_ _ _ _=> .d) (λ_ _=> .d) (λ_ _=> .d) (λ_=> .d) (λ_ _ _ _=> .d) (λ_ _=> .p) Sv (λ_=> .d) (λ_=> .d) (λ_=> .d) (λ_ _=> .d) (λ_ _ _=> .d) (λ_ _=> .d) op
def jY(base:Nat)(l:List (Nat×bt))(h:aa)(K:aa->Bool):Bool:=
 List.rec (motive:=λ_=>(aa->Bool)->Bool) (λK=>K h) (λx _ ih K=>Prod.rec (motive:=λ_=>Bool) (λi b=>ih λh=>HT.jF (some b) (pathOf (base+i)) h.t λt=>K ⟨h.next,t⟩) x) l K
abbrev Na:=iF->Value->aa->List (Nat×bt)->Bool
def NF(cx:Cx)(bf:Nat->Nat->Bool)(base j:Nat)(o:Oper)(ρ:Operand->Value)(h:aa)(pd:List (Nat×bt))(K:Na):Bool:=
 Option.rec (motive:=λ_=>Bool) (Option.rec (motive:=λ_=>Bool) (Option.rec (motive:=λ_=>Bool)
   (jY base (pd.filter λp=>bf j p.1) h λh=>Dy cx.bad (cB cx.P eJ ρ o h) h λv h'=>K (.nR v h') v h' (pd.filter λp=> !bf j p.1))
   (λbf=>Prod.rec (motive:=λ_=>Bool) (λB f=>AK B λB=>gT (f (base+j)) λv=>K (.alloc B v) v h ((j,B)::pd)) bf) (aJ cx.P ρ o))
  (λv=>gT v λv=>K (.read v) v h pd) (aT cx.P ρ o h)) (λv=>gT v λv=>K (.pure v) v h pd) (aK cx.P ρ o)
def H5(cx:Cx)(bf:Nat->Nat->Bool)(base j:Nat)(o:Oper)(ρ:Operand->Value)(h:aa)(pd:List (Nat×bt))(K:Na):Bool:=
 MA.rec (motive:=λ_=>Bool) (N9 o.op cx o ρ h λv _=>K (.pure v) v h pd) (N9 o.op cx o ρ h λv _=>K (.read v) v h pd)
  (jY base (pd.filter λp=>bf j p.1) h λh=>N9 o.op cx o ρ h λv h'=>K (.nR v h') v h' (pd.filter λp=> !bf j p.1))
  (NF cx bf base j o ρ h pd K) (FI o.op)
abbrev yc:=Oper×Env×iF
def gy(cx:Cx)(ops:Array Oper)(bf:Nat->Nat->Bool)(base:Nat)(l:List Oper):Nat->Env->aa->List (Nat×bt)->(List yc->Env->aa->List (Nat×bt)->Bool)->Bool:=
 List.rec (motive:=λ_=>Nat->Env->aa->List (Nat×bt)->(List yc->Env->aa->List (Nat×bt)->Bool)->Bool) (λ_ e h pd K=>K [] e h pd)
  (λo _ ih j e h pd K=>vd ops e cx.bad o.guard
   (H5 cx bf base j o (EB cx.gl e) h pd λent v h pd=>lj cx.n o.dst e v λe'=>ih (j+1) e' h pd λrecs e2 h2 pd2=>K ((o,e,ent)::recs) e2 h2 pd2)
   (lj cx.n o.dst e undef λe'=>ih (j+1) e' h pd λrecs e2 h2 pd2=>K ((o,e,.skip)::recs) e2 h2 pd2)) l
def Qg(ent:iF)(j:Nat)(r:List (Nat×aa)):List (Nat×aa):=iF.rec (motive:=λ_=>List (Nat×aa)) r (λ_=>r) (λ_=>r) (λ_ _=>r) (λ_ h=>(j,h)::r) ent
def wJ(l:List yc):Nat->List (Nat×aa):=List.rec (motive:=λ_=>Nat->List (Nat×aa)) (λ_=>[]) (λx _ ih j=>Qg x.2.2 j (ih (j+1))) l
def qB(bf:Nat->Nat->Bool)(l:List (Nat×aa)):Option Nat->Bool:=
 List.rec (motive:=λ_=>Option Nat->Bool) (λ_=>true) (λx _ ih p=>Option.rec (motive:=λ_=>Bool) (ih (some x.1)) (λp=>dW (bf x.1 p) (ih (some x.1)) false) p) l
def xk(P:Program)(o:Oper)(ρ:Operand->Value)(v:Value)(h:aa):Bool:=Option.rec (motive:=λ_=>Bool) false (λv'=>jB 4 v v') (aT P ρ o h)
def sH(P:Program)(bf:Nat->Nat->Bool)(j:Nat)(o:Oper)(ρ:Operand->Value)(v:Value)(es:List (Nat×aa)):aa->Bool->Bool:=
 List.rec (motive:=λ_=>aa->Bool->Bool) (λh own=>dW own true (xk P o ρ v h))
  (λx _ ih h own=>dW (dW (dW own (Nat.blt j x.1) false) true (dW (bf j x.1) true (xk P o ρ v h))) (dW (bf x.1 j) true (ih x.2 (Nat.blt x.1 j))) false) es
def MX(cx:Cx)(bf:Nat->Nat->Bool)(h:aa)(es:List (Nat×aa))(j:Nat)(o:Oper)(e:Env)(ent:iF)(r:Bool):Bool:=
 iF.rec (motive:=λ_=>Bool) r (λ_=>r) (λv=>dW (sH cx.P bf j o (EB cx.gl e) v es h true) r false) (λ_ _=>r) (λ_ _=>r) ent
def zj(cx:Cx)(bf:Nat->Nat->Bool)(h:aa)(es:List (Nat×aa))(l:List yc):Nat->Bool:=
 List.rec (motive:=λ_=>Nat->Bool) (λ_=>true) (λx _ ih j=>MX cx bf h es j x.1 x.2.1 x.2.2 (ih (j+1))) l
def Ar(cx:Cx)(ops:Array Oper)(bf:Nat->Nat->Bool)(e:Env)(h:aa)(K:Env->aa->Bool):Bool:=
 fY (h.next+ops.size) λnx=>gy cx ops bf h.next ops.toList 0 e ⟨nx,h.t⟩ [] λrecs e' h' pd=>
  dW (dW (qB bf (wJ recs 0) none) (zj cx bf ⟨nx,h.t⟩ (wJ recs 0) recs 0) false) (jY h.next pd h' λh'=>K e' h') cx.bad
abbrev iu:=Cx->Env->aa->(Exit->Env->aa->Bool)->Bool
def fF(e:Exit)(norm:Bool)(ex:Nat->Bool)(els:Bool):Bool:=Exit.rec (motive:=λ_=>Bool) norm ex (λ_=>els) els (λ_=>els) els e
def MP:iu:=λ_ e h K=>K .normal e h
def SN(a b:iu):iu:=λcx e h K=>a cx e h λx e h=>fF x (b cx e h K) (λid=>K (.exit id) e h) (K x e h)
def Qz(c:Operand)(a b:iu):iu:=λcx e h K=>ri (EB cx.gl e c) cx.bad λt=>dW t (a cx e h K) (b cx e h K)
def NP(id:Nat)(a:iu):iu:=λcx e h K=>a cx e h λx e h=>fF x (K .normal e h) (λid'=>dW (Nat.beq id' id) (K .normal e h) (K (.exit id') e h)) (K x e h)
def QB(a:iu):iu:=λcx e h K=>
 Nat.rec (motive:=λ_=>Env->aa->Bool) (λ_ _=>cx.bad) (λ_ ih e h=>a cx e h λx e h=>fF x (ih e h) (λid=>K (.exit id) e h) (K x e h)) cx.N e h
def QA(id:Nat):iu:=λ_ e h K=>K (.exit id) e h
def SL:iu:=λ_ e h K=>K .ret e h
def NO:iu:=λcx _ _ _=>cx.bad
def PC(e:Env)(n:Nat):Nat->(List Value->Bool)->Bool:=Nat.rec (motive:=λ_=>Nat->(List Value->Bool)->Bool) (λ_ K=>K []) (λ_ ih i K=>gT (Env.get i e) λv=>ih (i+1) λl=>K (v::l)) n
def pG(l:List Value):Nat->Env->(Env->Bool)->Bool:=List.rec (motive:=λ_=>Nat->Env->(Env->Bool)->Bool) (λ_ e K=>K e) (λv _ ih i e K=>gT v λv=>Env.put i e v λe=>ih (i+1) e K) l
def Pw(t:HT):(HT->Bool)->Bool:=HT.rec (motive:=λ_=>(HT->Bool)->Bool) (λK=>K .nil) (λv _ _ ihl ihr K=>ihl λl=>ihr λr=>Option.rec (motive:=λ_=>Bool) (K (.node none l r)) (λB=>AK B λB=>K (.node (some B) l r)) v) t
def Kz(cx:Cx)(ops:Array Oper)(e:Env)(h:aa)(K:Env->aa->Bool):Bool:=
 PC e cx.n 0 λl=>Option.rec (motive:=λ_=>Bool) cx.bad (λr=>dW (Nat.beq r.1.length cx.n) (pG r.1 0 qE λe=>fY r.2.next λnx=>Pw r.2.t λt=>K e ⟨nx,t⟩) cx.bad) (Aq cx.P cx.gl ops (cj (eL ops)) l h)
def Lk(_:Nat)(ops:Array Oper)(draw:Bool):iu:=λcx e h K=>dW draw (dW (qm ops) (Kz cx ops e h λe h=>K .normal e h) (Ar cx ops (cj (eL ops)) e h λe h=>K .normal e h)) (By cx ops ops.toList e h λe h=>K .normal e h)
def okF(asg body:Code)(bad:Bool)(K:gV asg body=true->Bool):Bool:=Bool.rec (motive:=λb=>gV asg body=b->Bool) (λ_=>bad) K (gV asg body) rfl
def lV(b:Option bt)(bad:Bool)(K:Kh->List Value->List Tmp->(asg body:Code)->gV asg body=true->Bool):Bool:=
 Option.rec (motive:=λ_=>Bool) bad (λb=>bt.rec (motive:=λ_=>Bool) (λ_ _ _ _=>bad) (λ_=>bad) K b) b
def EN(st:Kh)(bad:Bool)(K:Exit->Bool):Bool:=Kh.rec (motive:=λ_=>Bool) (K .normal) bad (K .ret) (λid=>K (.exit id)) st
def uM(st:Kh)(bad x:Bool):Bool:=Kh.rec (motive:=λ_=>Bool) x bad bad (λ_=>bad) st
def IS(x:Exit)(bad:Bool)(K:Bool->Kh->Bool):Bool:=Exit.rec (motive:=λ_=>Bool) (K true .ready) (λid=>K false (.exit id)) (λ_=>bad) (K false .ret) (λ_=>bad) bad x
def Jm(n:Nat)(l:List (Tmp×Value)):Env->(Env->Bool)->Bool:=List.rec (motive:=λ_=>Env->(Env->Bool)->Bool) (λe K=>K e) (λp _ ih e K=>lj n (some p.1) e p.2 λe=>ih e K) l
def Dk(f:Operand)(ps:Array Tmp)(asg body:Code):iu:=λcx e h K=>funcF (EB cx.gl e f) cx.bad λfn first captured=>SE fn cx.bad (λg=>okF asg body cx.bad λok=>dW (Nat.blt g YB) (dW (mq cx.P g)
 (PC e cx.n 0 λtm=>qG (first.toList++[.func (.yield h.next) #[] #[]]++captured.toList) λvs=>oU (.loop .ready tm ps.toList asg body ok) h λh1=>cx.cf g vs h1 λ_ h2=>
  lV (h2.get h.next) cx.bad λst _ _ _ _ _=>EN st cx.bad λx=>HT.jF none (pathOf h.next) h2.t λt=>K x e ⟨h2.next,t⟩) cx.bad) cx.bad) (λ_=>cx.bad)
def codeF(c:Code):iu:=
 Code.rec (motive:=λ_=>iu) MP Lk (λ_ _=>SN) (λc _ _=>Qz c) (λid _=>NP id) (λ_=>QB) (λf ps asg body _ _=>Dk f ps asg body) QA (λ_ _=>NO) (λ_=>MP) (λ_=>NO) SL (λ_=>NO) c
def so(P:Program)(e:Env)(h:aa)(bad:Bool)(l:List ResultVar):(List Value->Bool)->Bool:=
 List.rec (motive:=λ_=>(List Value->Bool)->Bool) (λK=>K []) (λr _ ih K=>ResultVar.rec (motive:=λ_=>Bool) (λt=>gT (Env.get t e) λv=>ih λvs=>K (v::vs)) (λa t=>vH bad (ag P t h (Env.get a e)) λv=>ih λvs=>K (v::vs)) r) l
def L5(x:Exit)(bad r:Bool):Bool:=Exit.rec (motive:=λ_=>Bool) r (λ_=>bad) (λ_=>bad) r (λ_=>bad) bad x
def zA(mk:Nat->Cx)(bad:Bool)(k:Nat)(args:List Value)(h:aa)(K:Value->aa->Bool):Bool:=
 lV (h.get k) bad λst tm ps asg body _=>uM st bad (dW (Nat.beq args.length ps.length) (fY tm.length λn=>dW (Nat.ble n 256)
  (pG tm 0 qE λe=>Jm n (ps.zip args) e λe=>codeF asg (mk n) e h λx e h1=>fF x
   (lV (h1.get k) bad λst' tm' ps' asg' body' ok'=>uM st' bad (HT.jF (some (.loop .busy tm' ps' asg' body' ok')) (pathOf k) h1.t λt=>codeF body (mk n) e ⟨h1.next,t⟩ λx _ h2=>
    lV (h2.get k) bad λ_ tm2 ps2 asg2 body2 ok2=>IS x bad λb st2=>HT.jF (some (.loop st2 tm2 ps2 asg2 body2 ok2)) (pathOf k) h2.t λt=>K (.bool b) ⟨h2.next,t⟩))
   (λ_=>bad) bad) bad) bad)
abbrev jM:=(FuncId->List Value->aa->(Value->aa->Bool)->Bool)->List Value->aa->(Value->aa->Bool)->Bool
def nO(P:Program)(gl:Nat->Bool)(pr:FuncId->Option (jM))(bad:Bool)(fuel:Nat):FuncId->List Value->aa->(Value->aa->Bool)->Bool:=
 Nat.rec (motive:=λ_=>FuncId->List Value->aa->(Value->aa->Bool)->Bool) (λ_ _ _ _=>bad)
  (λn ih f args h K=>dW (Nat.ble YB f) (fY (f-YB) λk=>zA (λnt=>⟨P,gl,ih,n,nt,bad⟩) bad k args h K) (Option.rec (motive:=λ_=>Bool)
   (vH bad (P.funcs[f]?) λfn=>vH bad fn.body λc=>dW (Nat.ble fn.ntmps 256&&Nat.ble args.length fn.ntmps)
    (pG args 0 qE λe=>codeF c ⟨P,gl,ih,n,fn.ntmps,bad⟩ e h λx e h=>L5 x bad (so P e h bad fn.results.toList λvs=>K (aO vs) h)) bad)
   (λp=>p ih args h K) (pr f))) fuel
end
end
end Go.Ab
end
section
namespace Go.Ab
section
theorem HT.get_nil:∀p,HT.get p .nil=none
 |.e=>rfl
 |.l _=>rfl
 |.r _=>rfl
theorem HT.cF(b:Option bt):∀(p:yb)(t:HT),HT.get p (HT.set b p t)=b
 |.e,.nil=>rfl
 |.e,.node .. =>rfl
 |.l p,.nil=>HT.cF b p .nil
 |.l p,.node _ l _=>HT.cF b p l
 |.r p,.nil=>HT.cF b p .nil
 |.r p,.node _ _ r=>HT.cF b p r
theorem HT.bq(b:Option bt):∀(p q:yb)(t:HT),q≠p->HT.get q (HT.set b p t)=HT.get q t
 |.e,.e,_,h=>absurd rfl h
 |.e,.l q,.nil,_=>HT.get_nil q
 |.e,.r q,.nil,_=>HT.get_nil q
 |.e,.l _,.node ..,_=>rfl
 |.e,.r _,.node ..,_=>rfl
 |.l p,.e,.nil,_=>rfl
 |.l p,.e,.node ..,_=>rfl
 |.l p,.l q,.nil,h=>(HT.bq b p q .nil (λe=>h (by rw[e]))).trans (HT.get_nil q)
 |.l p,.l q,.node _ l _,h=>HT.bq b p q l (λe=>h (by rw[e]))
 |.l p,.r q,.nil,_=>HT.get_nil q
 |.l p,.r q,.node ..,_=>rfl
 |.r p,.e,.nil,_=>rfl
 |.r p,.e,.node ..,_=>rfl
 |.r p,.r q,.nil,h=>(HT.bq b p q .nil (λe=>h (by rw[e]))).trans (HT.get_nil q)
 |.r p,.r q,.node _ _ r,h=>HT.bq b p q r (λe=>h (by rw[e]))
 |.r p,.l q,.nil,_=>HT.get_nil q
 |.r p,.l q,.node ..,_=>rfl
def yb.num:yb->Nat
 |.e=>0
 |.l p=>2*p.num+1
 |.r p=>2*p.num+2
theorem w6:∀(f n:Nat),n<f->(uA f n).num=n
 |0,_,h=>absurd h (by omega)
 |f+1,0,_=>rfl
 |f+1,k+1,h=>by
  have ih:=w6 f (k/2) (by omega);have hu:uA (f+1) (k+1)=Nat.rec (motive:=λ_=>yb) (.l (uA f (k/2))) (λ_ _=> .r (uA f (k/2))) (k%2):=rfl;rw[hu];rcases Nat.mod_two_eq_zero_or_one k with hk|hk
  ·rw[hk];show 2*(uA f (k/2)).num+1=k+1;omega
  ·rw[hk];show 2*(uA f (k/2)).num+2=k+1;omega
theorem Dw(n:Nat):(pathOf n).num=n:=w6 (n+1) n (by omega)
theorem qO{k j:Nat}(h:j≠k):pathOf j≠pathOf k:=λe=>h (by grind[Dw])
section
variable (h:aa) (k j:Nat) (b:bt)
theorem aa.cF:(h.set k b).get k=some b:=HT.cF _ _ _
theorem aa.bq(hne:j≠k):(h.set k b).get j=h.get j:=HT.bq _ _ _ _ (qO hne)
theorem aa.yF:(h.del k).get k=none:=HT.cF _ _ _
theorem aa.De(hne:j≠k):(h.del k).get j=h.get j:=HT.bq _ _ _ _ (qO hne)
theorem aa.ig:(h.push b).get h.next=some b:=HT.cF _ _ _
theorem aa.fh(hne:j≠h.next):(h.push b).get j=h.get j:=HT.bq _ _ _ _ (qO hne)
@[simp] theorem aa.QP:(h.set k b).next=h.next:=rfl
@[simp] theorem aa.QO:(h.del k).next=h.next:=rfl
@[simp] theorem aa.Pz:(h.push b).next=h.next+1:=rfl
theorem aa.aR:(h.set k b).get j=if j=k then some b else h.get j:=by
 split
 ·next e=>subst e;exact h.cF j b
 ·next e=>exact h.bq k j b e
theorem aa.de:(h.del k).get j=if j=k then none else h.get j:=by
 split
 ·next e=>subst e;exact h.yF j
 ·next e=>exact h.De k j e
theorem aa.aM:(h.push b).get j=if j=h.next then some b else h.get j:=by
 split
 ·next e=>subst e;exact h.ig b
 ·next e=>exact h.fh j b e
end
structure Slot where
 b:Nat
 s:Nat
 n:Nat
 t:TypeId
 sz:Nat
 isMap:Bool
abbrev cp:=Nat->Option Slot
def cp.le(β β':cp):Prop:=∀k sl,β k=some sl->β' k=some sl
theorem cp.le_refl(β:cp):β.le β:=λ_ _ h=>h
theorem cp.le_trans{a b c:cp}(h:a.le b)(h':b.le c):a.le c:=λk sl hk=>h' k sl (h k sl hk)
def Lj:Fn->Bool
 |.yield _=>true
 |_=>false
inductive au(β:cp):Value->Value->Prop where
 |eu (v:Value):au β (.chan (some 0)) v
 |bool (b:Bool):au β (.bool b) (.bool b)
 |int (k:IntKind) (n:Int):au β (.int k n) (.int k n)
 |float (k:FloatKind) (n:Nat):au β (.float k n) (.float k n)
 |complex (k:FloatKind) (m n:Nat):au β (.complex k m n) (.complex k m n)
 |string (s:ByteArray):au β (.string s) (.string s)
 |nilPtr:au β (.pointer none) (.pointer none)
 |ptr {k i:Nat} {sl:Slot} (h:β k=some sl) (hm:sl.isMap=false):au β (.pointer (some ⟨k,i,none⟩)) (.pointer (some ⟨sl.b,sl.s+i,none⟩))
 |mO:au β (.slice none 0 0) (.slice none 0 0)
 | slice {k i n c i' c':Nat} {sl:Slot} (h:β k=some sl) (hm:sl.isMap=false) (hx:c<bR->c'=c) (ho:bR<=c->c-bR<=c') (hn:n<=aX c)
   (hi:i'=sl.s+i\/(n=0/\c'=0)) (hz:sl.sz=0\/i'+c'*sl.sz<=sl.n):au β (.slice (some ⟨k,i,none⟩) n c) (.slice (some ⟨sl.b,i',none⟩) n c')
 |dead (a:Addr):au β (.slice (some ⟨0,0,some 0⟩) 0 0) (.slice (some a) 0 0)
 |Dv:au β (.map none) (.map none)
 |map {k:Nat} {sl:Slot} (h:β k=some sl) (hm:sl.isMap=true):au β (.map (some k)) (.map (some sl.b))
 | func {fn:Fn} {a a' c c':Array Value} (hy:Lj fn=false) (ha:a.size=a'.size) (hc:c.size=c'.size) (ra:∀(i:Nat) v v',a[i]?=some v->a'[i]?=some v'->au β v v')
   (rc:∀(i:Nat) v v',c[i]?=some v->c'[i]?=some v'->au β v v'):au β (.func fn a c) (.func fn a' c')
 |yield {k:Nat} {sl:Slot} (h:β k=some sl) {a c:Array Value} (ha:a.size=0) (hc:c.size=0):au β (.func (.yield k) a c) (.func (.yield sl.b) a c)
 |nilFunc:au β .nilFunc .nilFunc
 |iface (t:TypeId) {v v':Value} (h:au β v v'):au β (.iface t v) (.iface t v')
 |nilIface:au β .nilIface .nilIface
 |agg {a a':Array Value} (hs:a.size=a'.size) (h:∀(i:Nat) v v',a[i]?=some v->a'[i]?=some v'->au β v v'):au β (.agg a) (.agg a')
 |tuple {a a':Array Value} (hs:a.size=a'.size) (h:∀(i:Nat) v v',a[i]?=some v->a'[i]?=some v'->au β v v'):au β (.tuple a) (.tuple a')
theorem au.mono{β β':cp}(hβ:β.le β'){v v':Value}(h:au β v v'):au β' v v':=by
 induction h with
 |eu v=>exact .eu v
 |bool b=>exact .bool b
 |int k n=>exact .int k n
 |float k n=>exact .float k n
 |complex k m n=>exact .complex k m n
 |string s=>exact .string s
 |nilPtr=>exact .nilPtr
 |ptr h hm=>exact .ptr (hβ _ _ h) hm
 |mO=>exact .mO
 |slice h hm hx ho hn hi hz=>exact .slice (hβ _ _ h) hm hx ho hn hi hz
 |dead a=>exact .dead a
 |Dv=>exact .Dv
 |map h hm=>exact .map (hβ _ _ h) hm
 |yield h ha hc=>exact .yield (hβ _ _ h) ha hc
 |func hy ha hc _ _ ra rc=>exact .func hy ha hc (λi v v' h h'=>ra i v v' h h') (λi v v' h h'=>rc i v v' h h')
 |nilFunc=>exact .nilFunc
 |iface t _ ih=>exact .iface t ih
 |nilIface=>exact .nilIface
 |agg hs _ ih=>exact .agg hs λi v v' h h'=>ih i v v' h h'
 |tuple hs _ ih=>exact .tuple hs λi v v' h h'=>ih i v v' h h'
theorem au.undef(β:cp):au β undef undef:= .tuple rfl (λi v v' h=>by grind)
theorem au.sC{β:cp}{v:Value}(h:bare v=true):au β v v:=by
 unfold bare at h;split at h<;>first
  |exact .bool _|exact .int _ _|exact .float _ _|exact .complex _ _ _|exact .string _|exact .nilPtr|exact .mO|exact .Dv|exact .nilFunc|exact .nilIface
  |cases h
theorem au.pT{β:cp}{cs:Array Value}(h:cs.toList.all bare=true)(i:Nat)(v v':Value)(h1:cs[i]?=some v)(h2:cs[i]?=some v'):au β v v':=by grind[sC]
theorem au.jv{β:cp}{v:Value}(h:plain v=true):au β v v:=by
 unfold plain at h;split at h
 ·exact .agg rfl (au.pT h)
 ·refine .tuple rfl λi v v' h1 h2=>?_;rw[h1]at h2;obtain rfl:=oI h2;rw[<-getElem?_toList]at h1;have:=all_eq_true.1 h v (List.mem_of_getElem? h1);split at this
  ·exact .agg rfl (au.pT this)
  ·exact .sC this
 grind[sC]
def fz(β:cp)(a a':Array Value):Prop:=a.size=a'.size/\∀(i:Nat) v v',a[i]?=some v->a'[i]?=some v'->au β v v'
def aG(β:cp)(l l':List Value):Prop:=l.length=l'.length/\∀(i:Nat) v v',l[i]?=some v->l'[i]?=some v'->au β v v'
theorem fz.toList{β:cp}{a a':Array Value}:fz β a a'↔aG β a.toList a'.toList:=by simp[fz,aG]
theorem aG.nil(β:cp):aG β [] []:=⟨rfl,λi v v' h=>by grind⟩
theorem aG.cons{β:cp}{v v':Value}{l l':List Value}(h:au β v v')(hl:aG β l l'):aG β (v::l) (v'::l'):=
 ⟨by simp[hl.1],λi a a' h1 h2=>by
  cases i with
  |zero=>grind
  |succ i=>exact hl.2 i a a' (by grind) (by grind)⟩
theorem aG.head{β:cp}{v v':Value}{l l':List Value}(h:aG β (v::l) (v'::l')):au β v v':=h.2 0 v v' rfl rfl
theorem aG.tail{β:cp}{v v':Value}{l l':List Value}(h:aG β (v::l) (v'::l')):aG β l l':=
 ⟨by have:=h.1;grind,λi a a' h1 h2=>h.2 (i+1) a a' (by grind) (by grind)⟩
theorem aG.dg{β:cp}{l:List Value}(h:aG β [] l):l=[]:=List.eq_nil_of_length_eq_zero h.1.symm
theorem aG.bS{β:cp}{v:Value}{l l':List Value}(h:aG β (v::l) l'):∃v' r,l'=v'::r/\au β v v'/\aG β l r:=by
 cases l' with
 |nil=>have:=h.1;grind
 |cons v' r=>exact⟨v',r,rfl,h.head,h.tail⟩
theorem aG.mono{β β':cp}(hβ:β.le β'){l l':List Value}(h:aG β l l'):aG β' l l':=⟨h.1,λi v v' h1 h2=>(h.2 i v v' h1 h2).mono hβ⟩
theorem aG.append{β:cp}:∀{a a' b b':List Value},aG β a a'->aG β b b'->aG β (a++b) (a'++b')
 |[],a',b,b',h,h'=>by rw[h.dg];grind
 |v::a,a',b,b',h,h'=>by
  obtain⟨v',r,rfl,hv,hr⟩:=h.bS;exact .cons hv (hr.append h')
theorem aG.map{β:cp}{α:Type}(l:List α){f f':α->Value}(h:∀x∈l,au β (f x) (f' x)):aG β (l.map f) (l.map f'):=
 ⟨by simp,λi v v' h1 h2=>by grind⟩
theorem au.DM{β:cp}{v v':Value}(h:au β v v')(hs:cH v=true):v'.oneCell'=true/\v.cells = #[v]/\v'.cells = #[v']:=by
 cases h<;>first|(simp[cH]at hs;done)|exact⟨rfl,rfl,rfl⟩
theorem au.cells{β:cp}{v v':Value}(h:au β v v')(hj:v≠Ab.eu):fz β v.cells v'.cells:=by
 cases h with
 |eu=>grind
 |agg hs h=>exact⟨hs,h⟩
 |_=>
  refine⟨rfl,λi a a' h1 h2=>?_⟩
  cases i with
  |zero=>simp[Value.cells]at h1 h2;subst h1;subst h2;constructor<;>assumption
  |succ i=>simp[Value.cells]at h1
end
end Go.Ab
end
section
namespace Go.Ab
open Go
section
variable {β:cp} {P:Program}
theorem au.cz{k:IntKind}{n:Int}{v':Value}(h:au β (.int k n) v'):v' = .int k n:=by cases h;rfl
theorem au.fM{b:Bool}{v':Value}(h:au β (.bool b) v'):v' = .bool b:=by cases h;rfl
theorem au.dp{s:ByteArray}{v':Value}(h:au β (.string s) v'):v' = .string s:=by cases h;rfl
theorem au.ni{k i:Nat}{v':Value}(h:au β (.pointer (some ⟨k,i,none⟩)) v'):∃sl,β k=some sl/\sl.isMap=false/\v' = .pointer (some ⟨sl.b,sl.s+i,none⟩):=by
  cases h with
  |ptr h hm=>grind
theorem au.jQ{a:Addr}{v':Value}(h:au β (.pointer (some a)) v'):∃sl,β a.block=some sl/\sl.isMap=false/\a.spot=none/\v' = .pointer (some ⟨sl.b,sl.s+a.off,none⟩):=by
  cases h with
  |ptr h hm=>grind
theorem au.iR{a:Array Value}{v':Value}(h:au β (.agg a) v'):∃a',v' = .agg a'/\fz β a a':=by
  cases h with
  |agg hs h=>exact⟨_,rfl,hs,h⟩
theorem au.nj{a:Array Value}{v':Value}(h:au β (.tuple a) v'):∃a',v' = .tuple a'/\fz β a a':=by
  cases h with
  |tuple hs h=>exact⟨_,rfl,hs,h⟩
theorem au.Ga{t:TypeId}{v v':Value}(h:au β (.iface t v) v'):∃u,v' = .iface t u/\au β v u:=by
  cases h with
  |iface _ h=>grind
theorem au.yM{v':Value}(h:au β .nilIface v'):v' = .nilIface:=by cases h;rfl
theorem au.dD{n c:Nat}{v':Value}(h:au β (.slice none n c) v'):n=0/\c=0/\v' = .slice none 0 0:=by cases h;grind
theorem au.yK{k:Nat}{v':Value}(h:au β (.map (some k)) v'):∃sl,β k=some sl/\sl.isMap=true/\v' = .map (some sl.b):=by
  cases h with
  |map h hm=>grind
theorem au.tV{v':Value}(h:au β (.map none) v'):v' = .map none:=by cases h;rfl
theorem au.Di{v':Value}(h:au β (.pointer none) v'):v' = .pointer none:=by cases h;rfl
theorem au.eK{k i n c:Nat}{v':Value}(h:au β (.slice (some ⟨k,i,none⟩) n c) v'):∃sl i' c',β k=some sl/\sl.isMap=false/\(none:Option Nat)=none/\v' = .slice (some ⟨sl.b,i',none⟩) n c'/\
    (c<bR->c'=c)/\(bR<=c->c-bR<=c')/\n<=aX c/\(i'=sl.s+i\/(n=0/\c'=0))/\(sl.sz=0\/i'+c'*sl.sz<=sl.n):=by
  cases h with
  |slice h hm hx ho hn hi hz=>grind
theorem au.oE{a:Addr}{n c:Nat}{v':Value}(h:au β (.slice (some a) n c) v'):(∃k i,a=⟨k,i,none⟩)\/(a=⟨0,0,some 0⟩/\n=0/\c=0/\∃a',v' = .slice (some a') 0 0):=by
  cases h with
  |slice h hm hx ho hn hi hz=>grind
  |dead a=>grind
theorem au.A0{a:Addr}{n c:Nat}{v':Value}(h:au β (.slice (some a) n c) v'):∃a' c',v' = .slice (some a') n c':=by
  cases h with
  |slice h hm hx ho hn hi hz=>grind
  |dead a=>grind
theorem fz.get{a a':Array Value}(h:fz β a a'){i:Nat}{v:Value}(hv:a[i]?=some v):∃v',a'[i]?=some v'/\au β v v':=by
  have hi:i<a.size:=(Array.getElem?_eq_some_iff.1 hv).1;have hi':i<a'.size:=h.1▸hi;exact⟨a'[i],getElem?_eq_getElem hi',h.2 i v _ hv (getElem?_eq_getElem hi')⟩
theorem aG.get{a a':List Value}(h:aG β a a'){i:Nat}{v:Value}(hv:a[i]?=some v):∃v',a'[i]?=some v'/\au β v v':=by
  have hi:i<a.length:=(List.getElem?_eq_some_iff.1 hv).1;have hi':i<a'.length:=h.1▸hi;exact⟨a'[i],gE hi',h.2 i v _ hv (gE hi')⟩
theorem ax{t:TypeId}{d:TypeDesc}(h:P.underlying t=some d)(w:World):(underlying t).run P w = .ok d w:=run_underlying h w
theorem mU{t:TypeId}{i:TypeInfo}(h:P.info? t=some i)(w:World):(typeInfo t).run P w = .ok i w:=by simp[typeInfo,h]
theorem ja{t:TypeId}{n:Nat}(h:aw P t=some n):∃i,P.info? t=some i/\i.size=n:=by simp_all[aw]
theorem cG{t:TypeId}{n:Nat}(h:aw P t=some n)(w:World):(sizeOf t).run P w = .ok n w:=by
  obtain⟨i,hi,rfl⟩:=ja h;simp[sizeOf,mU hi]
theorem di{t:TypeId}{z:Value}(h:zeroOf P t=some z):plain z=true/\∃i,P.info? t=some i/\i.zero=some z:=by
  unfold zeroOf at h
  grind
theorem jz{t:TypeId}{z:Value}(h:zeroOf P t=some z)(w:World):(zeroValue t).run P w = .ok z w:=by
  obtain⟨_,i,hi,hz⟩:=di h
  simp_all[mU,zeroValue]
theorem nv{t:TypeId}{d:TypeDesc}(h:P.underlying t=some d)(w:World):(Go.isAgg t).run P w = .ok (Ab.isAgg P t) w:=by
  simp only[Go.isAgg,run_bind,ax h,andThen_ok,Ab.isAgg,h]
  cases d<;>rfl
theorem ti:∀x y:List UInt8,kI x y=Op.bytesLess x y
  |[],[]=>rfl
  |_::_,[]=>rfl
  |[],_::_=>rfl
  |a::x,b::y=>by simp[kI,Op.bytesLess,ti x y]
theorem HG{a b:ByteArray}(h:a.data.toList=b.data.toList):a=b:=by
  cases a;simp_all
theorem Gm(a b:ByteArray):(⟨(a.data.toList++b.data.toList).toArray⟩:ByteArray)=a++b:=by rfl
theorem G3{op:BinOp}{x y:ByteArray}{v:Value}(h:Fe op x.data.toList y.data.toList=some v)(w:World):(Op.stringOp op x y).run P w = .ok v w:=by
  unfold Fe at h;unfold Op.stringOp;simp only[ByteArray.toList_eq]
  cases op<;>simp only[]at h<;>first
    |(simp only[Option.some.injEq]at h;subst h;simp[ti];done)
    |(cases h;done)
    |skip
  split at h
  · next hl=>
    obtain rfl:=oI h;simp only[run_ite,run_unsupported,Sem.run_pure];rw[if_neg]
    · simp only[strOf,Gm]
    · have hx:x.data.toList.length=x.size:=by simp
      have hy:y.data.toList.length=y.size:=by simp
      rw[hx,hy]at hl;have:IntKind.i64.max=9223372036854775807:=by decide
      omega
  grind
theorem F9{op:BinOp}{t:TypeId}{k:IntKind}{k':IntKind}{a b:Int}{v:Value}(h:aq P op t (.int k a) (.int k' b)=some v)(w:World):(binOp op t (.int k a) (.int k' b)).run P w = .ok v w:=by
  simp only[aq]at h;unfold binOp
  cases op<;>simp only[]at h<;>first
    | (split at h
       · next hb=>
         obtain rfl:=oI h;simp only[Op.shift,run_ite];rw[if_neg (by omega)];rfl
       grind)
    | (split at h
       · next hk=>
         subst hk;simp only[ne_eq,not_true_eq_false,if_false]
         first
           |(obtain rfl:=oI h;rfl)
           | (split at h
              · cases h
              · next hb=>obtain rfl:=oI h;simp[Op.intDiv,hb])
           |(obtain⟨r,hr,rfl⟩:=map_eq_some_iff.1 h;exact intCmp_sim hr w)
       · cases h)
theorem wB(a b:ByteArray):(a.data.toList==b.data.toList)=(a==b):=by grind[beq_toListBytes,ByteArray.toList_eq]
theorem tB{x y:Value}{b:Bool}{t:TypeId}(hb:tA P t x y=some b)(d:Nat)(w:World):(Op.equalIn (d+1) t x y).run P w = .ok b w:=by
  unfold tA at hb
  grind[run_equalIn_bool',run_equalIn_int,run_equalIn_string,ByteArray.toList_eq]
theorem rk{x y:Value}{b:Bool}{t:TypeId}(hb:tA P t x y=some b):∃d,P.underlying t=some d/\isAgg P t=false:=by
  unfold tA at hb
  grind[isAgg]
theorem pW{t:TypeId}{d:TypeDesc}(hu:P.underlying t=some d)(ha:isAgg P t=false){cs:Array Value}{off:Nat}{v:Value}(hv:cs[off]?=some v)(w:World):(part t cs off).run P w = .ok v w:=by simp_all[nv,part]
theorem tD{xs ys:Array Value}(d:Nat)(w:World):∀(fs:List Field)(i:Nat)(l m:List Value){b:Bool},xs.toList.drop i=l->ys.toList.drop i=m->gR P fs i l m=some b->
    (Op.eqFields (d+1) xs ys fs).run P w = .ok b w
  |[],_,_,_,b,_,_,h=>by simp only[gR]at h;obtain rfl:=oI h;rfl
  |f::fs,i,[],_,b,_,_,h=>by grind[gR]
  |f::fs,i,_::_,[],b,_,_,h=>by grind[gR]
  | f::fs,i,x::l,y::m,b,hl,hm,h=>by
    simp only[gR]at h;split at h
    · next hc=>
      obtain⟨ho,hn⟩:=hc;have hx:xs[f.offset]?=some x:=by
        have:(xs.toList.drop i)[0]?=some x:=by rw[hl];rfl
        rw[getElem?_drop]at this;rw[ho,<-getElem?_toList];simpa using this
      have hy:ys[f.offset]?=some y:=by
        have:(ys.toList.drop i)[0]?=some y:=by rw[hm];rfl
        rw[getElem?_drop]at this;rw[ho,<-getElem?_toList];simpa using this
      have hl':xs.toList.drop (i+1)=l:=by rw[<-List.drop_drop,hl];rfl
      have hm':ys.toList.drop (i+1)=m:=by rw[<-List.drop_drop,hm];rfl
      unfold Op.eqFields;rw[if_pos hn];split at h
      · next he=>
        obtain⟨ds,hu,ha⟩:=rk he;simp only[run_bind,pW hu ha hx,pW hu ha hy,andThen_ok,tB he d];simp only[Bool.not_true,false_eq_true,if_false];exact tD d w fs (i+1) l m hl' hm' h
      · next he=>
        obtain⟨ds,hu,ha⟩:=rk he;obtain rfl:=oI h;simp only[run_bind,pW hu ha hx,pW hu ha hy,andThen_ok,tB he d];rfl
      · cases h
    grind
theorem AD{x y x' y':Value}{b:Bool}{t:TypeId}(h:tA P t x y=some b)(hx:au β x x')(hy:au β y y'):x'=x/\y'=y:=by
  unfold tA at h;split at h
  · exact⟨hx.fM,hy.fM⟩
  · exact⟨hx.cz,hy.cz⟩
  · exact⟨hx.dp,hy.dp⟩
  grind
theorem tC:∀(fs:List Field)(i:Nat){l m l' m':List Value}{b:Bool},gR P fs i l m=some b->aG β l l'->aG β m m'->gR P fs i l' m'=some b
  |[],_,_,_,_,_,_,h,_,_=>by grind[gR]
  |f::fs,i,[],_,_,_,b,h,_,_=>by grind[gR]
  |f::fs,i,_::_,[],_,_,b,h,_,_=>by grind[gR]
  | f::fs,i,x::l,y::m,l',m',b,h,hl,hm=>by
    obtain⟨x',l',rfl,hx,hl'⟩:=hl.bS;obtain⟨y',m',rfl,hy,hm'⟩:=hm.bS;simp only[gR]at h⊢;split at h
    · next hc=>
      rw[if_pos hc];split at h
      · next he=>
        obtain⟨rfl,rfl⟩:=AD he hx hy;rw[he];exact tC fs (i+1) h hl' hm'
      · next he=>
        obtain⟨rfl,rfl⟩:=AD he hx hy;rw[he];exact h
      · cases h
    grind
theorem qT{t e:TypeId}(d:Nat)(hu:P.underlying t=some (.pointer e)){n:Nat}(hn:aw P e=some n)(h0:n≠0)(a:Addr)(w:World):
    (Op.equalIn (d+1) t (.pointer (some a)) (.pointer (some a))).run P w = .ok true w:=by
  simp only[Op.equalIn,run_bind,ax hu,andThen_ok,cG hn,run_ite]
  simp_all[sameAddr]
set_option maxHeartbeats 4000000 in
theorem AF{t:TypeId}{x y x' y':Value}{b:Bool}(h:kO P t x y=some b)(hx:au β x x')(hy:au β y y')(w:World)(d:Nat):(Op.equalIn (d+1+1) t x' y').run P w = .ok b w:=by
  unfold kO at h;split at h
  · cases hx.fM;cases hy.fM
    split at h
    · next hu=>obtain rfl:=oI h;exact run_equalIn_bool' w (d+1) t _ _ hu
    · cases h
  · cases hx
    split at h
    · next hu=>obtain rfl:=oI h;cases hy<;>simp only[Op.equalIn,run_bind,ax hu,andThen_ok,Sem.run_pure]<;>rfl
    · cases h
  · cases hy
    split at h
    · next hu=>obtain rfl:=oI h;cases hx<;>simp only[Op.equalIn,run_bind,ax hu,andThen_ok,Sem.run_pure]<;>rfl
    · cases h
  · next a b'=>
    split at h
    · next e hu=>
      split at h
      · next hc=>
        obtain rfl:=oI h;obtain⟨rfl,hs⟩:=hc;obtain⟨sl,h1,_,_,rfl⟩:=hx.jQ;obtain⟨sl',h2,_,_,rfl⟩:=hy.jQ;rw[h1]at h2;obtain rfl:=oI h2
        cases hn:aw P e with
        |none=>simp[hn]at hs
        |some n=>exact qT (d+1) hu hn (by simpa[hn]using hs) _ w
      · cases h
    · cases h
  · cases hx
    split at h
    · next hu=>obtain rfl:=oI h;cases hy<;>simp only[Op.equalIn,run_bind,ax hu,andThen_ok,Sem.run_pure]<;>rfl
    · cases h
  · cases hy
    split at h
    · next hu=>obtain rfl:=oI h;cases hx<;>simp only[Op.equalIn,run_bind,ax hu,andThen_ok,Sem.run_pure]<;>rfl
    · cases h
  · cases hx
    split at h
    · next hu=>obtain rfl:=oI h;cases hy<;>simp only[Op.equalIn,run_bind,ax hu,andThen_ok,Sem.run_pure]<;>rfl
    · cases h
  · cases hy
    split at h
    · next hu=>obtain rfl:=oI h;cases hx<;>simp only[Op.equalIn,run_bind,ax hu,andThen_ok,Sem.run_pure]<;>rfl
    · cases h
  all_goals first
    | (cases hx<;>cases hy <;>
       (split at h
        · next hu=>obtain rfl:=oI h;simp only[Op.equalIn,run_bind,ax hu,andThen_ok,Sem.run_pure]
        · cases h)
       done)
    |skip
  · obtain⟨a',rfl,ha⟩:=hx.iR
    obtain⟨b',rfl,hb⟩:=hy.iR;split at h
    · next fs hu=>
      split at h
      · next hc=>
        have hf:P.fieldsOf t=fs:=by simp[Program.fieldsOf,hu]
        rw[run_equalIn_struct w (d+1) t a' b' (by rw[hf];exact hu) hc.1,hf];exact tD d w fs.toList 0 _ _ (by simp) (by simp) (tC fs.toList 0 h (fz.toList.1 ha) (fz.toList.1 hb))
      · cases h
    · cases h
  grind
theorem FT{t:TypeId}{x y x' y':Value}{b:Bool}(h:kO P t x y=some b)(hx:au β x x')(hy:au β y y')(w:World):(Op.equal t x' y').run P w = .ok b w:=
  AF h hx hy w 9998
theorem tE{t:TypeId}{x y x' y':Value}{b:Bool}(h:kO P t x y=some b)(hx:au β x x')(hy:au β y y')(op:BinOp)(xo yo:Operand)(w:World):
    (eqGuard op t xo yo x' y').run P w = .ok () w/\(binOp .eql t x' y').run P w = .ok (.bool b) w/\(binOp .neq t x' y').run P w = .ok (.bool !b) w:=by
  have he:=FT h hx hy w;unfold kO at h;split at h
  all_goals first
    |(cases h;done)
    | (obtain⟨a',rfl,ha⟩:=hx.iR
       obtain⟨b',rfl,hb⟩:=hy.iR;split at h
       all_goals simp_all[run_eqGuard_agg,binOp])
    |(cases hx<;>cases hy<;>(refine⟨?_,?_,?_⟩<;>first|(simp only[binOp,run_bind,he,andThen_ok,Sem.run_pure];done)|(cases op<;>rfl)))
theorem FA{op:BinOp}{t:TypeId}{xo yo:Operand}{x y x' y':Value}{v:Value}(h:aq P op t x y=some v)(hx:au β x x')(hy:au β y y')(w:World):
    (do eqGuard op t xo yo x' y';binOp op t x' y':Sem Value).run P w = .ok v w/\au β v v:=by
  have h0:=h;unfold aq at h;split at h
  · next k a k' b=>
    cases hx.cz;cases hy.cz
    refine⟨?_,?_⟩
    · simp_all[F9,eqGuard]
    · clear h0
      cases op<;>simp only[]at h<;>first
        | (split at h
           · first
             |(obtain rfl:=oI h;exact .int _ _)
             |(obtain⟨r,hr,rfl⟩:=map_eq_some_iff.1 h;exact .bool _)
             | (split at h
                · cases h
                · obtain rfl:=oI h;exact .int _ _)
           · cases h
           done)
  · next a b=>
    cases hx.dp;cases hy.dp
    refine⟨?_,?_⟩
    · have hg:(eqGuard op t xo yo (.string a) (.string b)).run P w = .ok () w:=by cases op<;>rfl
      grind[run_bind,andThen_ok,G3,binOp]
    · unfold Fe at h
      cases op<;>simp only[]at h<;>first
        |(obtain rfl:=oI h;exact .bool _)
        | (split at h
           · obtain rfl:=oI h;exact .string _
           grind)
        |(cases h;done)
  · cases op<;>simp only[]at h<;>first
      |(cases h;done)
      | (obtain⟨b,hb,rfl⟩:=map_eq_some_iff.1 h
         obtain⟨hg,he,hn⟩:=tE hb hx hy .eql xo yo w;exact⟨by simp only[run_bind,hg,andThen_ok];exact he,.bool _⟩)
      | (obtain⟨b,hb,rfl⟩:=map_eq_some_iff.1 h
         obtain⟨hg,he,hn⟩:=tE hb hx hy .neq xo yo w;exact⟨by simp_all,.bool _⟩)
theorem J3{op:UnOp}{x x' v:Value}(h:xM op x=some v)(hx:au β x x')(w:World):(Op.unary op x').run P w = .ok v w/\au β v v:=by
  unfold xM at h;split at h
  · cases hx.cz;obtain rfl:=oI h;exact⟨rfl,.int _ _⟩
  · cases hx.cz;obtain rfl:=oI h;exact⟨rfl,.int _ _⟩
  · cases hx.fM;obtain rfl:=oI h;exact⟨rfl,.bool _⟩
  grind
end
section
variable {β:cp} {P:Program}
def rW(β:cp)(l l':List (Nat×Value)):Prop:=l.map (·.1)=l'.map (·.1)/\aG β (l.map (·.2)) (l'.map (·.2))
theorem rW.bS{p:Nat×Value}{l l':List (Nat×Value)}(h:rW β (p::l) l'):∃v' r,l'=(p.1,v')::r/\au β p.2 v'/\rW β l r:=by
 cases l' with
 |nil=>have:=h.1;grind
 |cons q r=>
  obtain⟨h1,h2⟩:=h;simp only[List.map_cons,List.cons.injEq]at h1 h2;exact⟨q.2,r,by grind,h2.head,h1.2,h2.tail⟩
theorem rW.dg{l':List (Nat×Value)}(h:rW β [] l'):l'=[]:=by
 have:=h.1;simp_all
theorem rW.map{α:Type}(l:List α)(n:α->Nat){f f':α->Value}(h:∀x∈l,au β (f x) (f' x)):rW β (l.map λx=>(n x,f x)) (l.map λx=>(n x,f' x)):=
 ⟨by simp,by grind[aG.map]⟩
theorem Gz{v:Value}(h:uk v=true):v≠Ab.eu:=by rintro rfl;cases h
theorem uU(off:Nat):∀(l l':List Value)(j:Nat)(cs cs':Array Value),aG β l l'->fz β cs cs'->
  fz β ((l.zipIdx j).foldl (λcs (c,j)=>cs.setIfInBounds (off+j) c) cs) ((l'.zipIdx j).foldl (λcs (c,j)=>cs.setIfInBounds (off+j) c) cs')
 |[],l',j,cs,cs',h,hc=>by rw[h.dg];exact hc
 | v::l,l',j,cs,cs',h,hc=>by
  obtain⟨v',r,rfl,hv,hr⟩:=h.bS;simp only[List.zipIdx_cons,List.foldl_cons];refine uU off l r (j+1) _ _ hr ⟨by simp[hc.1],λi a a' h1 h2=>?_⟩;rw[Array.getElem?_setIfInBounds]at h1 h2;split at h1
  ·grind
  ·next he=>
   rw[if_neg he]at h2;exact hc.2 i a a' h1 h2
theorem pC(place:Nat->Option (Nat×Nat)):∀(l l':List (Nat×Value))(cs cs' r:Array Value),rW β l l'->(∀p∈l,uk p.2=true)->fz β cs cs'->Instr.fill place cs l=some r->
  ∃r',Instr.fill place cs' l'=some r'/\fz β r r'
 |[],l',cs,cs',r,h,_,hc,hf=>by
  rw[h.dg];simp only[Instr.fill]at hf⊢
  grind
 | p::l,l',cs,cs',r,h,hj,hc,hf=>by
  obtain⟨v',t,rfl,hv,ht⟩:=h.bS;obtain⟨i,v⟩:=p;have hcells:=hv.cells (Gz (hj _ List.mem_cons_self));simp only[Instr.fill]at hf⊢
  cases hp:place i with
  |none=>grind
  | some q=>
   obtain⟨off,size⟩:=q;simp only[hp]at hf⊢;dsimp only at hv hcells;rw[<-hcells.1,<-hc.1];split at hf
   ·grind
   ·next hs=>
    rw[if_neg hs];refine pC place l t _ _ r ht (λp hp=>hj p (List.mem_cons_of_mem _ hp)) ?_ hf;have:=uU (β:=β) off v.cells.toList v'.cells.toList 0 cs cs' (fz.toList.1 hcells) hc
    grind[Array.toList_zipIdx]
theorem fz.mP{z:Value}(h:plain z=true):fz β z.cells z.cells:=by
 have hz:au β z z:= .jv h;by_cases hj:z=Ab.eu
 ·subst hj;cases h
 ·exact hz.cells hj
theorem FE{t:TypeId}{parts parts':List (Nat×Value)}{v:Value}(h:bL P t parts=some v)(hp:rW β parts parts')(w:World):
  ∃v',(Instr.build t parts'.toArray).run P w = .ok v' w/\au β v v':=by
 unfold bL at h;split at h
 ·next z hz=>
  obtain⟨hpl,i,hi,hzi⟩:=di hz;split at h
  ·next hj=>
   obtain⟨cs,hb,rfl⟩:=map_eq_some_iff.1 h;have hj':∀p∈parts,uk p.2=true:=all_eq_true.1 hj;have hcs:=fz.mP (β:=β) hpl;have key:∃cs',P.built t parts'=some cs'/\fz β cs cs':=by
    unfold Program.built at hb⊢;simp only[hi]at hb⊢
    cases hu:P.underlying t with
    |none=>simp[hu]at hb
    | some d=>
     cases d<;>simp only[hu]at hb⊢<;>try (cases hb;done)
     ·next n e=>
      split at hb
      ·next z' ie he1 he2=>
       obtain rfl:z=z':=oI (hzi.symm.trans he1);exact pC _ _ _ _ _ _ hp hj' hcs hb
      ·cases hb
     ·next fs=>
      split at hb
      ·next z' pl he1 he2=>
       obtain rfl:z=z':=oI (hzi.symm.trans he1);exact pC _ _ _ _ _ _ hp hj' hcs hb
      ·cases hb
   obtain⟨cs',hb',hr⟩:=key;exact⟨.agg cs',run_build w t parts'.toArray cs' hb',.agg hr.1 hr.2⟩
  ·cases h
 grind
theorem Bz{t:TypeId}{cs cs':Array Value}{off:Nat}{v:Value}(h:partOf P t cs off=some v)(hc:fz β cs cs')(w:World):
  ∃v',(part t cs' off).run P w = .ok v' w/\au β v v':=by
 unfold partOf at h
 cases hu:P.underlying t with
 |none=>grind
 |some d=>
 simp only[hu]at h;simp only[part,run_bind,nv hu,andThen_ok,run_ite];split at h
 ·next ha=>
  obtain⟨n,hn,rfl⟩:=map_eq_some_iff.1 h;rw[if_pos ha];simp only[cG hn,andThen_ok,Sem.run_pure];refine⟨_,rfl,.agg (by simp[hc.1]) λi v v' h1 h2=>?_⟩;simp only[Array.getElem?_extract]at h1 h2;rw[hc.1]at h1;split at h1
  ·next hi=>
   rw[if_pos hi]at h2;exact hc.2 _ v v' h1 h2
  grind
 ·next ha=>
  rw[if_neg ha];obtain⟨v',hv',hr⟩:=hc.get h
  simp_all
theorem Am{src dst:TypeId}{x x' v:Value}(h:dC P src dst x=some v)(hx:au β x x')(w:World):(convert src dst x').run P w = .ok v w/\au β v v:=by
 unfold dC at h;split at h
 ·next d1 k k' n h1 h2=>
  cases hx.cz
  obtain rfl:=oI h;refine⟨?_,.int _ _⟩;simp only[convert,run_bind,ax h1,ax h2,andThen_ok]
  cases d1<;>rfl
 ·next d1 s h1 h2=>
  cases hx.dp
  obtain rfl:=oI h;refine⟨?_,.string _⟩;simp only[convert,run_bind,ax h1,ax h2,andThen_ok]
  cases d1<;>rfl
 ·next e h1 h2=>
  cases hx
  obtain rfl:=oI h;refine⟨?_,.nilPtr⟩;simp only[convert,run_bind,ax h1,ax h2,andThen_ok,Conv.unsafePointer];rfl
 ·next e h1 h2=>
  cases hx
  obtain rfl:=oI h;refine⟨?_,.nilPtr⟩;simp only[convert,run_bind,ax h1,ax h2,andThen_ok,Conv.unsafePointer];rfl
 grind
theorem yR(mx:Bool):∀(l l':List Value)(x x' v:Value),au β x x'->aG β l l'->mc mx (x::l)=some v->(∀w:World,((l'.foldlM (if mx then Builtin.max2 else Builtin.min2) x':Sem Value)).run P w = .ok v w)/\au β v v\/(l=[]/\v=x)
 |[],l',x,x',v,hx,hl,h=>by simp_all[mc]
 | y::l,l',x,x',v,hx,hl,h=>by
  left;obtain⟨y',r,rfl,hy,hr⟩:=hl.bS;simp only[mc,List.foldlM_cons,Option.bind_eq_bind]at h;split at h
  ·next k a k' b=>
   cases hx.cz;cases hy.cz
   split at h
   ·next hk=>
    subst hk;simp only[Option.bind_some]at h;have ih:=yR mx l r (.int k (if mx then if b>a then b else a else if b<a then b else a)) _ v (.int _ _) hr (by simpa[mc]using h);refine⟨λw=>?_,?_⟩
    ·rw[List.foldlM_cons,run_bind];have h1:((if mx then Builtin.max2 else Builtin.min2) (.int k a) (.int k b)).run P w = .ok (.int k (if mx then if b>a then b else a else if b<a then b else a)) w:=by
      cases mx<;>rfl
     rw[h1,andThen_ok];rcases ih with⟨ih,_⟩|⟨rfl,rfl⟩
     ·exact ih w
     ·rw[hr.dg];rfl
    ·rcases ih with⟨_,ih⟩|⟨rfl,rfl⟩
     ·exact ih
     ·exact .int _ _
   ·simp at h
  grind
theorem dV{α:Type}{s:Sem α}{f:α->Next}{w w':World}{v:α}(h:s.run P w = .ok v w'):(do pure (f (<-s)):Sem Next).run P w = .ok (f v) w':=by
 simp[h]
theorem bZ(b i n:Nat):(⟨b,i,none⟩:Addr).add n=⟨b,i+n,none⟩:=by grind[Addr.add]
theorem uZ{a b a' b':Value}(h:au β a a')(h':au β b b'):au β (.tuple #[a,b]) (.tuple #[a',b']):=
 .tuple rfl λi v v' h1 h2=>by grind
set_option maxHeartbeats 4000000 in
theorem lf{ρ ρ':Operand->Value}(hρ:∀x,au β (ρ x) (ρ' x)){o:Oper}{v:Value}(h:aK P ρ o=some v)(w:World):
  ∃v',(execOp ρ' o).run P w = .ok (.value v') w/\au β v v':=by
 unfold aK at h;unfold execOp;split at h
 ·next x ho=>obtain rfl:=oI h;simp only[ho];exact⟨_,rfl,hρ _⟩
 ·next x ho=>obtain rfl:=oI h;simp only[ho];exact⟨_,rfl,hρ _⟩
 ·next c a b ho=>
  simp only[ho];split at h
  ·next t ht=>
   have hc:=hρ c;rw[ht]at hc;obtain rfl:=oI h;refine⟨if t then ρ' a else ρ' b,?_,?_⟩
   ·simp[hc.fM,asBool]
   ·cases t
    ·exact hρ b
    ·exact hρ a
  ·cases h
 ·next t parts ho=>
  simp only[ho];obtain⟨v',hr,hv⟩:=FE (parts':=parts.toList.map λp=>(p.1,ρ' p.2)) h (rW.map parts.toList (·.1) λp _=>hρ p.2) w;refine⟨v',?_,hv⟩;have he:(parts.toList.map λp=>(p.1,ρ' p.2)).toArray=parts.map λ(i,x)=>(i,ρ' x):=by
   apply Array.ext';simp
  rw[he]at hr;exact dV hr
 ·next x ho=>
  simp only[ho];have hx:=hρ x;split at h
  ·cases h
  ·cases h
  ·cases h
  ·cases h
  ·cases h
  ·next v0 h1 h2 h3 h4 h5=>
   obtain rfl:=oI h;refine⟨ρ' x,?_,hx⟩;revert hx h1 h2 h3 h4 h5;generalize ρ x=a;generalize ρ' x=b;intro hx h1 h2 h3 h4 h5
   cases hx with
   |eu v=>exact absurd rfl (h5 _)
   |nilPtr=>exact absurd rfl h1
   |nilIface=>exact absurd rfl h2
   |nilFunc=>exact absurd rfl h3
   |@func fn a a' c c' ha hc ra rc=>cases fn<;>first|rfl|exact absurd rfl (h4 _ _ _)
   |_=>rfl
 ·next op t x y yt ho=>
  simp only[ho];obtain⟨hr,hv⟩:=FA (xo:=x) (yo:=y) h (hρ x) (hρ y) w;exact⟨v,dV hr,hv⟩
 ·next op t x ho=>
  simp only[ho];obtain⟨hr,hv⟩:=J3 h (hρ x) w;exact⟨v,dV hr,hv⟩
 ·next s d x ho=>
  simp only[ho];obtain⟨hr,hv⟩:=Am h (hρ x) w;exact⟨v,dV hr,hv⟩
 ·next t x ho=>
  simp only[ho];split at h
  ·cases h
  ·cases h
  ·next d hn1 hu=>
   obtain rfl:=oI h;refine⟨.iface t (ρ' x),dV ?_,.iface t (hρ x)⟩;simp only[Instr.makeInterface,run_bind,ax hu,andThen_ok]
   cases d<;>first|rfl|exact absurd rfl (hn1 _)
 ·next fn first captured ho=>
  simp only[ho];split at h
  ·cases h
  ·next hfn=>
   obtain rfl:=oI h;refine⟨.func fn (first.map ρ') (captured.map ρ'),rfl,.func (by cases fn<;>first|rfl|exact absurd rfl (hfn _)) (by simp) (by simp) ?_ ?_⟩
   ·intro i a a' h1 h2;simp only[Array.getElem?_map,map_eq_some_iff]at h1 h2;obtain⟨p,hp,rfl⟩:=h1;obtain⟨q,hq,rfl⟩:=h2;rw[hp]at hq;obtain rfl:=oI hq;exact hρ p
   ·intro i a a' h1 h2;simp only[Array.getElem?_map,map_eq_some_iff]at h1 h2;obtain⟨p,hp,rfl⟩:=h1;obtain⟨q,hq,rfl⟩:=h2;rw[hp]at hq;obtain rfl:=oI hq;exact hρ p
 ·next s x f ho=>
  simp only[ho];have hx:=hρ x;split at h
  ·next fields a hu ha=>
   rw[ha]at hx;obtain⟨sl,h1,hm,hs,he⟩:=hx.jQ;split at h
   ·next fd hf=>
    split at h
    ·next hn=>
     obtain rfl:=oI h
     cases hsz:aw P fd.type with
     |none=>simp[hsz]at hn
     |some n=>
      have h0:n≠0:=by simpa[hsz]using hn
      refine⟨.pointer (some ((⟨sl.b,sl.s+a.off,none⟩:Addr).add fd.offset)),dV ?_,?_⟩
      ·simp only[Instr.fieldAt,run_bind,ax hu,andThen_ok,hf,he,Instr.sureAddr,Sem.run_pure,fieldPlace,cG hsz,run_ite];rw[if_neg h0];rfl
      ·obtain⟨ab,ao,asp⟩:=a;simp only at hs h1;subst hs;rw[bZ,bZ,add_assoc];exact .ptr h1 hm
    ·cases h
   ·cases h
  ·cases h
 ·next t x f ho=>
  simp only[ho];have hx:=hρ x;split at h
  ·next fields cs hu ha=>
   rw[ha]at hx;obtain⟨cs',he,hc⟩:=hx.iR;split at h
   ·next fd hf=>
    obtain⟨v',hr,hv⟩:=Bz h hc w;refine⟨v',dV ?_,hv⟩;simp only[Instr.field,run_bind,ax hu,andThen_ok,hf,he,asAgg,Sem.run_pure,hr]
   ·cases h
  ·cases h
 ·next t x i ho=>
  simp only[ho];have hx:=hρ x;have hi:=hρ i;split at h
  ·next len e a k j hu ha hj=>
   rw[ha]at hx;rw[hj]at hi;obtain⟨sl,h1,hm,hs,he⟩:=hx.jQ;split at h
   ·next n hn=>
    split at h
    ·next hr=>
     obtain rfl:=oI h;refine⟨.pointer (some ((⟨sl.b,sl.s+a.off,none⟩:Addr).add (j.toNat*n))),dV ?_,?_⟩
     ·simp only[Instr.indexAt,run_bind,hi.cz,asIntOf,Sem.run_pure,andThen_ok,ax hu,he,Instr.sureAddr,cG hn,run_ite];rw[if_pos hr]
     ·obtain⟨ab,ao,asp⟩:=a;simp only at hs h1;subst hs;rw[bZ,bZ,add_assoc];exact .ptr h1 hm
    ·cases h
   ·cases h
  ·next e a len c k j hu ha hj=>
   rw[ha]at hx;rw[hj]at hi;obtain⟨ab,ao,asp⟩:=a;split at h
   ·next n hn=>
    split at h
    ·next hr=>
     obtain rfl:=oI h;have hsp0:asp=none:=by
      rcases hx.oE with⟨k',i',e⟩|⟨_,hn0,_⟩
      ·injection e
      ·exact absurd hr (by omega)
     subst hsp0;obtain⟨sl,i',c',h1,hm,hsp,he,hx1,ho1,hn1,hi1,hz1⟩:=hx.eK
     ·clear hsp;have hii:i'=sl.s+ao:=by rcases hi1 with hi1|hi1;exact hi1;exact absurd hi1.1 (by omega)
      subst hii;refine⟨.pointer (some ((⟨sl.b,sl.s+ao,none⟩:Addr).add (j.toNat*n))),dV ?_,?_⟩
      ·simp only[Instr.indexAt,run_bind,hi.cz,asIntOf,Sem.run_pure,andThen_ok,ax hu,he,cG hn,run_ite];rw[if_pos hr]
      ·rw[bZ,bZ,add_assoc];exact .ptr h1 hm
    ·cases h
   ·cases h
  ·cases h
 ·next t x i ho=>
  simp only[ho];have hx:=hρ x;have hi:=hρ i;split at h
  ·next len e cs k j hu ha hj=>
   rw[ha]at hx;rw[hj]at hi;obtain⟨cs',he,hc⟩:=hx.iR;split at h
   ·next n hn=>
    split at h
    ·next hr=>
     obtain⟨v',hp,hv⟩:=Bz h hc w;refine⟨v',dV ?_,hv⟩;simp only[Instr.index,run_bind,hi.cz,asIntOf,Sem.run_pure,andThen_ok,ax hu,he,cG hn,run_ite,hp];rw[if_pos hr]
    ·cases h
   ·cases h
  ·next s k j hu ha hj=>
   rw[ha]at hx;rw[hj]at hi;split at h
   ·next hr=>
    split at h
    ·next b hb=>
     obtain rfl:=oI h;refine⟨_,dV ?_,.int _ _⟩;have hb':s[j.toNat]?=some b:=by
      rw[getElem?_toList]at hb;exact hb
     simp only[Instr.index,run_bind,hi.cz,asIntOf,Sem.run_pure,andThen_ok,ax hu,hx.dp];rw[if_pos hr,hb'];rfl
    ·cases h
   ·cases h
  ·cases h
 ·next x xt u ok ho=>
  simp only[ho];have hx:=hρ x;split at h
  ·cases h
  ·cases h
  ·next d hn1 hu ha=>
   rw[ha]at hx;split at h
   ·next hok=>
    obtain⟨z,hz,rfl⟩:=map_eq_some_iff.1 h;refine⟨.tuple #[z,.bool false],dV ?_,uZ (.jv (di hz).1) (.bool _)⟩;simp only[Instr.typeAssert,run_bind,ax hu,andThen_ok,hx.yM]
    cases d<;>first
     |exact absurd rfl (hn1 _)
     |(rw[if_pos hok];simp[jz hz])
   ·cases h
  ·next d t v1 hn1 hu ha=>
   rw[ha]at hx;obtain⟨v2,he,hv⟩:=hx.Ga;split at h
   ·next htu=>
    obtain rfl:=oI h;refine⟨if ok then .tuple #[v2,.bool true]else v2,dV ?_,?_⟩
    ·simp only[Instr.typeAssert,run_bind,ax hu,andThen_ok,he]
     cases d<;>first
      |exact absurd rfl (hn1 _)
      |(rw[if_pos htu];rfl)
    ·cases ok
     ·exact hv
     ·exact uZ hv (.bool _)
   ·next htu=>
    split at h
    ·next hok=>
     obtain⟨z,hz,rfl⟩:=map_eq_some_iff.1 h;refine⟨.tuple #[z,.bool false],dV ?_,uZ (.jv (di hz).1) (.bool _)⟩;simp only[Instr.typeAssert,run_bind,ax hu,andThen_ok,he]
     cases d<;>first
      |exact absurd rfl (hn1 _)
      |(rw[if_neg htu,if_pos hok];simp[jz hz])
    ·cases h
  ·cases h
 ·next x i ho=>
  simp only[ho];have hx:=hρ x;split at h
  ·next vs ha=>
   rw[ha]at hx;obtain⟨vs',he,hc⟩:=hx.nj;obtain⟨v',hv',hr⟩:=hc.get h;exact⟨v',dV (by simp[Instr.extract,he,hv']),hr⟩
  ·cases h
 ·next args ats ho=>
  simp only[ho];have hl:aG β (args.toList.map ρ) (args.toList.map ρ'):=aG.map _ λx _=>hρ x;have he:(args.map ρ').toList=args.toList.map ρ':=by simp
  revert hl h;generalize args.toList.map ρ=l;generalize hg:args.toList.map ρ'=l';intro h hl
  cases l with
  |nil=>simp[mc]at h
  |cons x l=>
   obtain⟨x',r,rfl,hx,hr⟩:=hl.bS;rcases yR true l r x x' v hx hr h with⟨h1,h2⟩|⟨rfl,rfl⟩
   ·exact⟨v,by
     simp only[resolve,run_bind,Sem.run_pure,andThen_ok,invoke,builtin,Builtin.max_,he,hg];have:=h1 w;simp only[if_true]at this;rw[this];rfl,h2⟩
   ·exact⟨x',by
     rw[hr.dg]at hg;simp only[resolve,run_bind,Sem.run_pure,andThen_ok,invoke,builtin,Builtin.max_,he,hg];rfl,hx⟩
 ·next args ats ho=>
  simp only[ho];have hl:aG β (args.toList.map ρ) (args.toList.map ρ'):=aG.map _ λx _=>hρ x;have he:(args.map ρ').toList=args.toList.map ρ':=by simp
  revert hl h;generalize args.toList.map ρ=l;generalize hg:args.toList.map ρ'=l';intro h hl
  cases l with
  |nil=>simp[mc]at h
  |cons x l=>
   obtain⟨x',r,rfl,hx,hr⟩:=hl.bS;rcases yR false l r x x' v hx hr h with⟨h1,h2⟩|⟨rfl,rfl⟩
   ·exact⟨v,by
     simp only[resolve,run_bind,Sem.run_pure,andThen_ok,invoke,builtin,Builtin.min_,he,hg];have:=h1 w;simp only[false_eq_true,if_false]at this;rw[this];rfl,h2⟩
   ·exact⟨x',by
     rw[hr.dg]at hg;simp only[resolve,run_bind,Sem.run_pure,andThen_ok,invoke,builtin,Builtin.min_,he,hg];rfl,hx⟩
 ·next args ats ho=>
  simp only[ho];split at h
  ·next x t hx ht=>
   split at h
   ·next e a n c hu ha=>
    split at h
    ·next hc=>
     obtain rfl:=oI h;have hxr:=hρ x;rw[ha]at hxr;have key:∃a' ,ρ' x = .slice a' n c:=by
      cases a with
      |none=>obtain⟨rfl,rfl,he⟩:=hxr.dD;exact⟨none,he⟩
      |some a=>
       rcases hxr.oE with⟨k',i',rfl⟩|⟨rfl,rfl,rfl,a',he⟩
       ·obtain⟨sl,i',c',_,_,_,he,hx1,_⟩:=hxr.eK;rw[hx1 hc]at he;exact⟨_,he⟩
       ·exact⟨_,he⟩
     obtain⟨a',he⟩:=key;refine⟨.int .i64 c,?_,.int _ _⟩;have h0:(args.map ρ')[0]?=some (.slice a' n c):=by simp[hx,he]
     simp only[resolve,run_bind,Sem.run_pure,andThen_ok,invoke,builtin,Builtin.cap_,ht,h0,ax hu];rfl
    ·cases h
   ·cases h
  ·cases h
 grind
end
section
variable {β:cp} {P:Program}
def bt.wr:bt->Bool
 |.cells _ _ _ wr=>wr
 |.map _=>true
 |.loop .. =>true
def La(fr:Nat×Nat)(n:Nat):Prop:=∀x,fr.1<=x->x<fr.2->n<=x
def oY(β:cp)(es:List (Value×Value))(es':List MapEntry):Prop:=
 es.length=es'.length/\∀(i:Nat) p e,es[i]?=some p->es'[i]?=some e->au β p.1 e.key/\au β p.2 e.val
def eO(β:cp)(cs:List Value)(s:Nat)(cs':Array Value):Prop:=∀(i:Nat) v,cs[i]?=some v->∃v',cs'[s+i]?=some v'/\au β v v'
def Cs:Kh->LoopState->Option Code->Prop
 |.ready,s,j=>s = .ready/\j=none
 |.busy,s,_=>s = .busy
 |.ret,s,j=>s = .done/\j=some .ret
 |.exit id,s,j=>s = .done/\j=some (.exit id)
def rS(β:cp)(B:bt)(sl:Slot)(w:World):Prop:=
 match B with
 |.cells cs t sz wr=>sl.isMap=false/\sl.t=t/\(sl.sz=sz/\(sz=0->sl.s=0))/\∃cs' fr,w.heap[sl.b]?=some (.cells cs' t fr)/\cs'.size=sl.n/\eO β cs sl.s cs'/\(wr=true->La fr cs'.size)
 |.map es=>sl.isMap=true/\∃es' clock,w.heap[sl.b]?=some (.map es' clock)/\oY β es es'.toList
 |.loop st tm ps asg body _=>sl.isMap=true/\∃r:Loop,w.heap[sl.b]?=some (.loop r)/\Cs st r.state r.pending/\aG β tm r.tmps.toList/\r.params.toList=ps/\r.assign=asg/\r.body=body
structure fK(β:cp)(h:aa)(w:World):Prop where
 lt:∀k sl,β k=some sl->k<h.next/\sl.b<w.heap.size
 blk:∀k B sl,h.get k=some B->β k=some sl->rS β B sl w
 own:∀k k' B B' sl sl',k≠k'->h.get k=some B->h.get k'=some B'->β k=some sl->β k'=some sl'->B.wr=true->sl.b≠sl'.b
 wf:∀k B,h.get k=some B->k<h.next
theorem oY.mono{β β':cp}(hβ:β.le β'){es:List (Value×Value)}{es':List MapEntry}(h:oY β es es'):oY β' es es':=
 ⟨h.1,λi p e h1 h2=>⟨(h.2 i p e h1 h2).1.mono hβ,(h.2 i p e h1 h2).2.mono hβ⟩⟩
theorem eO.mono{β β':cp}(hβ:β.le β'){cs:List Value}{s:Nat}{cs':Array Value}(h:eO β cs s cs'):eO β' cs s cs':=
 λi v hv=>let⟨v',h1,h2⟩:=h i v hv;⟨v',h1,h2.mono hβ⟩
theorem rS.mono{β β':cp}(hβ:β.le β'){B:bt}{sl:Slot}{w:World}(h:rS β B sl w):rS β' B sl w:=by
 cases B with
 |cells cs t sz wr=>
  obtain⟨h1,h2,h3,cs',fr,h4,h5,h6,h7⟩:=h;exact⟨h1,h2,h3,cs',fr,h4,h5,h6.mono hβ,h7⟩
 |map es=>
  obtain⟨h1,es',clock,h2,h3⟩:=h;exact⟨h1,es',clock,h2,h3.mono hβ⟩
 |loop st tm ps asg body ok=>
  obtain⟨h1,r,h2,h3,h4,h5⟩:=h;exact⟨h1,r,h2,h3,h4.mono hβ,h5⟩
theorem rS.of_heap{B:bt}{sl:Slot}{w w':World}(h:rS β B sl w)(he:w'.heap[sl.b]?=w.heap[sl.b]?):rS β B sl w':=by
 cases B with
 |cells cs t sz wr=>
  obtain⟨h1,h2,h3,cs',fr,h4,h5,h6,h7⟩:=h;exact⟨h1,h2,h3,cs',fr,by grind,h5,h6,h7⟩
 |map es=>
  obtain⟨h1,es',clock,h2,h3⟩:=h;exact⟨h1,es',clock,by grind,h3⟩
 |loop st tm ps asg body ok=>
  obtain⟨h1,r,h2,h3⟩:=h;exact⟨h1,r,by grind,h3⟩
theorem kJ{w:World}{b i:Nat}{cs:Array Value}{t:TypeId}{fr:Nat×Nat}(h:w.heap[b]?=some (.cells cs t fr)):w.cell? ⟨b,i,none⟩=cs[i]?:=by
 simp[World.cell?,h]
theorem fK.row{h:aa}{w:World}(hs:fK β h w){k:Nat}{cs:List Value}{t:TypeId}{sz:Nat}{wr:Bool}{sl:Slot}(hk:h.get k=some (.cells cs t sz wr))(hb:β k=some sl):
  sl.isMap=false/\sl.t=t/\sl.sz=sz/\∃cs' fr,w.heap[sl.b]?=some (.cells cs' t fr)/\cs'.size=sl.n/\eO β cs sl.s cs'/\(wr=true->La fr cs'.size):=
 let⟨h1,h2,h3,h4⟩:=hs.blk k _ sl hk hb;⟨h1,h2,h3.1,h4⟩
theorem fK.kc{h:aa}{w:World}(hs:fK β h w){k:Nat}{cs:List Value}{t:TypeId}{wr:Bool}{sl:Slot}(hk:h.get k=some (.cells cs t 0 wr))(hb:β k=some sl):sl.s=0:=
 let⟨_,_,h3,_⟩:=hs.blk k _ sl hk hb;h3.2 rfl
theorem nu{w:World}{b s:Nat}{cs:List Value}{cs':Array Value}{t:TypeId}{fr:Nat×Nat}(hw:w.heap[b]?=some (.cells cs' t fr))(hc:eO β cs s cs')(i n:Nat)(hl:((cs.drop i).take n).length=n):
  ∃l',(loadCells ⟨b,s+i,none⟩ n).run P w = .ok l'.toArray w/\aG β ((cs.drop i).take n) l':=by
 have hlen:i+n<=cs.length\/n=0:=by
  simp only[List.length_take,List.length_drop]at hl;omega
 have hget:∀j,j<n->∃v v',cs[i+j]?=some v/\cs'[s+(i+j)]?=some v'/\au β v v':=by
  intro j hj;have hlt:i+j<cs.length:=by omega
  obtain⟨v',h1,h2⟩:=hc (i+j) _ (gE hlt);exact⟨_,v',gE hlt,h1,h2⟩
 refine⟨(List.range n).map λj=>cs'.getD (s+(i+j)) undef,?_,?_,?_⟩
 ·refine run_loadCells w ⟨b,s+i,none⟩ n _ λj hj=>?_;obtain⟨v,v',_,h2,_⟩:=hget j hj;rw[bZ,kJ hw,show s+i+j=s+(i+j) by omega,h2]
  simp_all
 ·grind
 ·intro j v v' h1 h2;simp only[List.getElem?_map,map_eq_some_iff]at h2;obtain⟨j',hj',rfl⟩:=h2;rw[getElem?_take,getElem?_drop]at h1;split at h1
  ·next hj=>
   rw[List.getElem?_range hj]at hj';obtain rfl:=oI hj';obtain⟨u,u',e1,e2,e3⟩:=hget j hj;rw[e1]at h1;obtain rfl:=oI h1;simpa[Array.getD_eq_getD_getElem?,e2]using e3
  grind
theorem A8{h:aa}{w:World}(hs:fK β h w){t:TypeId}{a a' v:Value}(hl:ag P t h a=some v)(ha:au β a a'):
  ∃ad,a' = .pointer (some ad)/\∃v',(loadVar t ad).run P w = .ok v' w/\au β v v':=by
 unfold ag at hl;split at hl
 ·next d k i hu=>
  obtain⟨sl,hb,hm,rfl⟩:=ha.ni;refine⟨_,rfl,?_⟩;split at hl
  ·next cs t' sz wr hk=>
   obtain⟨_,_,_,cs',fr,hw,hn,hc,_⟩:=hs.row hk hb;simp only[loadVar,run_bind,nv hu,andThen_ok,run_ite];split at hl
   ·next hag=>
    rw[if_pos hag];split at hl
    ·next n hsz=>
     split at hl
     ·next hlen=>
      obtain rfl:=oI hl;obtain⟨l',hr,hrel⟩:=nu (P:=P) hw hc i n hlen;refine⟨.agg l'.toArray,by simp[cG hsz,hr],.agg (by simpa using hrel.1) λj v v' h1 h2=>hrel.2 j v v' (by simpa using h1) (by simpa using h2)⟩
     ·cases hl
    ·cases hl
   ·next hag=>
    rw[if_neg hag];obtain⟨v',h1,h2⟩:=hc i v hl;exact⟨v',by simp[run_load,kJ hw,h1],h2⟩
  ·cases hl
 grind
theorem C1(s:ByteArray)(l h:Nat):(⟨((s.data.toList.drop l).take (h-l)).toArray⟩:ByteArray)=s.extract l h:=by
 apply HG;simp
def ix(β:cp)(x x':Option Value):Prop:=match x,x' with|none,none=>True|some v,some v'=>au β v v'|_,_=>False
theorem ix.map{ρ ρ':Operand->Value}(hρ:∀x,au β (ρ x) (ρ' x))(x:Option Operand):ix β (x.map ρ) (x.map ρ'):=by
 cases x with
 |none=>trivial
 |some x=>exact hρ x
theorem ix.none_{x':Option Value}(h:ix β none x'):x'=none:=by cases x' with|none=>rfl|some _=>exact h.elim
theorem ix.some_{v:Value}{x':Option Value}(h:ix β (some v) x'):∃v',x'=some v'/\au β v v':=by cases x' with|none=>exact h.elim|some v'=>exact⟨v',rfl,h⟩
theorem iD{x x':Option Value}{d:Nat}{n:Int}(h:dy x d=some n)(hx:ix β x x'):
  (x=none/\x'=none/\n=d)\/ ∃k,x=some (.int k n)/\x'=some (.int k n):=by
 cases x with
 |none=>simp only[dy,Option.some.injEq]at h;exact .inl ⟨rfl,hx.none_,h.symm⟩
 |some v=>
  obtain⟨v',rfl,hv⟩:=hx.some_
  cases v with
  |int k m=>simp only[dy,Option.some.injEq]at h;subst h;exact .inr ⟨k,rfl,by rw[hv.cz]⟩
  |_=>simp[dy]at h
theorem hG{k:IntKind}{n:Int}{y:Nat}{c:BoundsCode}(h0:0<=n)(h1:n<=y)(w:World):(Instr.sliceBound (.int k n) y c).run P w = .ok n.toNat w:=by simp_all[Instr.sliceBound,asIntOf]
theorem jX{isS:Bool}{len cap:Nat}{lo hi lo' hi':Option Value}{l r:Int}(hl:dy lo 0=some l)(hh:dy hi len=some r)
  (hxl:ix β lo lo') (hxh:ix β hi hi')
  (h0:0<=l) (h1:l<=r) (h2:r<=cap) (w:World):(Instr.sliceBounds isS len cap lo' hi' none).run P w = .ok (l.toNat,r.toNat,cap) w:=by
 unfold Instr.sliceBounds;rcases iD hh hxh with⟨rfl,rfl,rfl⟩|⟨k,rfl,rfl⟩
 ·grind[iD,run_bind,Sem.run_pure,andThen_ok,hG]
 ·rcases iD hl hxl with⟨rfl,rfl,rfl⟩|⟨k',rfl,rfl⟩
  all_goals grind[run_bind,Sem.run_pure,andThen_ok,hG]
theorem BK{len cap:Nat}{lo hi lo' hi':Option Value}{l r m:Int}{k:IntKind}(hl:dy lo 0=some l)(hh:dy hi len=some r)(hne:hi≠none)
  (hxl:ix β lo lo') (hxh:ix β hi hi')
  (h0:0<=l) (h1:l<=r) (h2:r<=m) (h3:m<=cap) (w:World):(Instr.sliceBounds true len cap lo' hi' (some (.int k m))).run P w = .ok (l.toNat,r.toNat,m.toNat) w:=by
 unfold Instr.sliceBounds;rcases iD hh hxh with⟨rfl,rfl,rfl⟩|⟨k',rfl,rfl⟩
 ·grind
 ·rcases iD hl hxl with⟨rfl,rfl,rfl⟩|⟨k'',rfl,rfl⟩
  ·simp only[run_bind];rw[hG (by omega) h3];simp only[andThen_ok];rw[hG (by omega) (by omega)];simp
  ·simp only[run_bind];rw[hG (by omega) h3];simp only[andThen_ok];rw[hG (by omega) (by omega)];simp only[andThen_ok];rw[hG h0 (by omega)];simp
theorem GY{h:aa}{w:World}(hs:fK β h w){t:TypeId}{x x' v:Value}{lo hi mx lo' hi' mx':Option Value}(hv:cA P t x lo hi mx h=some v)(hx:au β x x')
  (hlo:ix β lo lo') (hhi:ix β hi hi') (hmx:ix β mx mx'):∃v',(Instr.sliceAt t x' lo' hi' mx').run P w = .ok v' w/\au β v v':=by
 unfold cA at hv;split at hv
 ·next s=>
  cases hx.dp
  split at hv
  ·next hu=>
   split at hv
   ·next _ l r hl hh=>
    split at hv
    ·next hc=>
     obtain rfl:=oI hv;have hmx':mx'=none:=hmx.none_;subst hmx';refine⟨.string (s.extract l.toNat r.toNat),?_,?_⟩
     ·have hsz:s.size=s.data.toList.length:=by simp
      simp only[Instr.sliceAt,run_bind,ax hu,andThen_ok,Instr.slice];simp only[Option.isSome_none,false_eq_true,if_false,run_bind,Sem.run_pure];rw[hsz,jX hl hh hlo hhi hc.1 hc.2.1 hc.2.2];simp
     ·rw[strOf,show(r-l).toNat=r.toNat-l.toNat by omega,C1];exact .string _
    ·cases hv
   ·cases hv
  ·cases hv
 ·split at hv
  ·next e hu=>
   split at hv
   ·next n hl hh hsz=>
    obtain rfl:=oI hv;obtain⟨_,_,rfl⟩:=hx.dD;have hmx':mx'=none:=hmx.none_;subst hmx';refine⟨.slice none 0 0,?_,.mO⟩;simp only[Instr.sliceAt,run_bind,ax hu,andThen_ok,Instr.slice];rw[jX hl hh hlo hhi (by omega) (by omega) (by omega)];simp[cG hsz]
   ·cases hv
  ·cases hv
 ·next k i len cap=>
  split at hv
  ·next e hu=>
   split at hv
   ·next l r sz cs t' sz' wr hl hh hsz hk=>
    split at hv
    ·next hszz=>
     obtain⟨sl,i',c',hb,hm,_,rfl,hx1,ho1,hn1,hi1,hz1⟩:=hx.eK;obtain⟨_,_,hslz,_⟩:=hs.row hk hb;have hcap:aX cap<=c':=by
      unfold aX;split
      ·next hc=>exact ho1 hc
      ·next hc=>rw[hx1 (by omega)];exact Nat.le_refl _
     split at hv
     ·split at hv
      ·next hc=>
       obtain rfl:=oI hv;have hmx':mx'=none:=hmx.none_;subst hmx';have hlc:l.toNat<=c':=by omega
       refine⟨.slice (if c'=l.toNat then some ⟨sl.b,i',none⟩else some ⟨sl.b,i'+l.toNat*sz,none⟩) (r-l).toNat (c'-l.toNat),?_,?_⟩
       ·simp only[Instr.sliceAt,run_bind,ax hu,andThen_ok,Instr.slice];rw[jX hl hh hlo hhi hc.1 hc.2.1 (by omega)];simp only[andThen_ok,cG hsz,Sem.run_pure,map_some,bZ];rw[show r.toNat-l.toNat=(r-l).toNat by omega]
       ·by_cases hcl:c'=l.toNat
        ·rw[if_pos hcl];refine .slice hb hm ?_ ?_ ?_ (.inr ⟨by omega,by omega⟩) ?_
         ·intro hlt;by_cases hco:cap<bR
          ·have:=hx1 hco;omega
          ·have:=ho1 (by omega);have h5:aX cap=cap-bR:=by unfold aX;rw[if_pos (by omega)]
           omega
         ·intro hge;have hco:bR<=cap:=by omega
          have:=ho1 hco;omega
         ·have:(r-l).toNat=0:=by omega
          omega
         ·rcases hz1 with hz1|hz1
          ·exact .inl hz1
          ·right;rw[show c'-l.toNat=0 by omega];simp;exact Nat.le_trans (Nat.le_add_right _ _) hz1
        ·rw[if_neg hcl];have hi2:i'=sl.s+i:=by rcases hi1 with h1|⟨h1,h2⟩;exact h1;exact absurd h2 (by omega)
         refine .slice hb hm ?_ ?_ ?_ (.inl (by omega)) ?_
         ·intro hlt;by_cases hco:cap<bR
          ·have:=hx1 hco;omega
          ·have:=ho1 (by omega);have h5:aX cap=cap-bR:=by unfold aX;rw[if_pos (by omega)]
           omega
         ·intro hge;have hco:bR<=cap:=by omega
          have:=ho1 hco;omega
         ·by_cases hco:cap<bR
          ·have h5:aX cap=cap:=by unfold aX;rw[if_neg (by omega)]
           have h6:aX (cap-l.toNat)=cap-l.toNat:=by unfold aX;rw[if_neg (by omega)]
           omega
          ·have h5:aX cap=cap-bR:=by unfold aX;rw[if_pos (by omega)]
           have h6:aX (cap-l.toNat)=cap-l.toNat-bR:=by unfold aX;rw[if_pos (by omega)]
           omega
         ·rcases hszz with e1|e1
          ·rcases hz1 with hz1|hz1
           ·exact .inl hz1
           ·right;subst e1;rw[<-hslz];rw[Nat.sub_mul];have:l.toNat*sl.sz<=c'*sl.sz:=Nat.mul_le_mul_right _ hlc;omega
          ·exact .inl (by omega)
      ·cases hv
     ·next k m=>
      split at hv
      ·next hc=>
       obtain rfl:=oI hv;obtain⟨h0,h1,h2,h3,h4,h5⟩:=hc;obtain⟨vm,rfl,hvm⟩:=hmx.some_
       cases hvm.cz
       have hne:hi≠none:=by intro e;subst e;cases h5
       have hmc:m.toNat<=c':=by omega
       refine⟨.slice (if m.toNat=l.toNat then some ⟨sl.b,i',none⟩else some ⟨sl.b,i'+l.toNat*sz,none⟩) (r-l).toNat (m.toNat-l.toNat),?_,?_⟩
       ·simp only[Instr.sliceAt,run_bind,ax hu,andThen_ok,Instr.slice];rw[BK hl hh hne hlo hhi h0 h1 h2 (by omega)];simp only[andThen_ok,cG hsz,Sem.run_pure,map_some,bZ];rw[show r.toNat-l.toNat=(r-l).toNat by omega]
       ·have hcm:aX (m-l).toNat=(m-l).toNat:=by unfold aX;rw[if_neg (by omega)]
        by_cases hcl:m.toNat=l.toNat
        ·rw[if_pos hcl];refine .slice hb hm (by omega) (by omega) (by omega) (.inr ⟨by omega,by omega⟩) ?_;rcases hz1 with hz1|hz1
         ·exact .inl hz1
         ·right;rw[show m.toNat-l.toNat=0 by omega];simp;exact Nat.le_trans (Nat.le_add_right _ _) hz1
        ·rw[if_neg hcl];have hi2:i'=sl.s+i:=by rcases hi1 with h1|⟨h1,h2⟩;exact h1;exact absurd h2 (by omega)
         refine .slice hb hm (by omega) (by omega) (by omega) (.inl (by omega)) ?_;rcases hszz with e1|e1
         ·rcases hz1 with hz1|hz1
          ·exact .inl hz1
          ·right;subst e1;rw[<-hslz];have e2:l.toNat*sl.sz+(m.toNat-l.toNat)*sl.sz=m.toNat*sl.sz:=by rw[<-add_mul];congr 1;omega
           have:m.toNat*sl.sz<=c'*sl.sz:=Nat.mul_le_mul_right _ hmc;omega
         ·exact .inl (by omega)
      ·cases hv
     ·cases hv
    ·cases hv
   ·cases hv
  ·cases hv
 ·next k i=>
  obtain⟨sl,hb,hm,rfl⟩:=hx.ni;split at hv
  ·next n e hu=>
   split at hv
   ·next _ l r sz cs t' wr hl hh hsz hk=>
    split at hv
    ·next hc=>
     obtain⟨h0,h1,h2,h3⟩:=hc;obtain rfl:=oI hv;have hmx':mx'=none:=hmx.none_;subst hmx';obtain⟨_,_,hslz,_⟩:=hs.row hk hb;have hcm:aX (n-l.toNat)=n-l.toNat:=by unfold aX;rw[if_neg (by omega)]
     refine⟨.slice (some (if n=l.toNat then⟨sl.b,sl.s+i,none⟩else⟨sl.b,sl.s+i+l.toNat*sz,none⟩)) (r-l).toNat (n-l.toNat),?_,?_⟩
     ·simp only[Instr.sliceAt,run_bind,ax hu,andThen_ok,Instr.sureAddr,Sem.run_pure];rw[jX hl hh hlo hhi h0 h1 h2];simp only[andThen_ok,cG hsz,bZ];rw[show r.toNat-l.toNat=(r-l).toNat by omega]
     ·by_cases hcl:n=l.toNat
      ·rw[if_pos hcl];exact .slice hb hm (by omega) (by omega) (by omega) (.inr ⟨by omega,by omega⟩) (.inl (by omega))
      ·rw[if_neg hcl];exact .slice hb hm (by omega) (by omega) (by omega) (.inl (by omega)) (.inl (by omega))
    ·cases hv
   ·cases hv
  ·cases hv
 grind
theorem tj:∀{l:List Value}{bs:List UInt8},bytesOf l=some bs->∃ns:List Int,l=ns.map (Value.int .u8)/\∀s:ByteArray,ns.foldl (λr n=>r.push (UInt8.ofNat n.toNat)) s=⟨s.data++bs.toArray⟩
 |[],bs,h=>by simp_all[bytesOf]
 | v::l,bs,h=>by
  unfold bytesOf at h;split at h
  ·next e=>cases e
  ·next n r e=>
   simp only[List.cons.injEq]at e;obtain⟨rfl,rfl⟩:=e;split at h
   ·obtain⟨bs',hb,rfl⟩:=map_eq_some_iff.1 h;obtain⟨ns,rfl,hf⟩:=tj hb;refine⟨n::ns,rfl,λs=>?_⟩;rw[List.foldl_cons,hf];apply HG;simp[ByteArray.push]
   ·cases h
  grind
theorem aG.ints{k:IntKind}{ns:List Int}{l':List Value}(h:aG β (ns.map (Value.int k)) l'):l'=ns.map (Value.int k):=by
 apply List.ext_getElem?;intro i;by_cases hi:i<ns.length
 ·have h1:(ns.map (Value.int k))[i]?=some (.int k ns[i]):=by simp[hi]
  obtain⟨v',h2,h3⟩:=h.get h1;rw[h1,h2,h3.cz]
 ·have h1:(ns.map (Value.int k)).length<=i:=by simp;omega
  rw[List.getElem?_eq_none h1,List.getElem?_eq_none (h.1▸h1)]
theorem vZ{h:aa}{w:World}(hs:fK β h w){k i n:Nat}{cs:List Value}{t:TypeId}{sz:Nat}{wr:Bool}{sl:Slot}(hk:h.get k=some (.cells cs t sz wr))(hb:β k=some sl)
  (hl:((cs.drop i).take n).length=n) {bs:List UInt8} (hbs:bytesOf ((cs.drop i).take n)=some bs):
  ∃ns:List Int,(cs.drop i).take n=ns.map (Value.int .u8)/\(loadCells ⟨sl.b,sl.s+i,none⟩ n).run P w = .ok (ns.map (Value.int .u8)).toArray w/\(∀s:ByteArray,ns.foldl (λr n=>r.push (UInt8.ofNat n.toNat)) s=⟨s.data++bs.toArray⟩)/\
   (∀j u,(ns.map (Value.int .u8))[j]?=some u->w.cell? ((⟨sl.b,sl.s+i,none⟩:Addr).add j)=some u):=by
 obtain⟨ns,hns,hf⟩:=tj hbs;obtain⟨_,_,_,cs',fr,hw,hn,hc,_⟩:=hs.row hk hb;obtain⟨l',hr,hrel⟩:=nu (P:=P) hw hc i n hl;rw[hns]at hrel;rw[hrel.ints]at hr;refine⟨ns,hns,hr,hf,λj u hu=>?_⟩;have hj:((cs.drop i).take n)[j]?=some u:=by rw[hns];exact hu
 rw[getElem?_take,getElem?_drop]at hj;split at hj
 ·obtain⟨u',h1,h2⟩:=hc _ _ hj;rw[bZ,kJ hw,show sl.s+i+j=sl.s+(i+j) by omega,h1];simp only[List.getElem?_map,map_eq_some_iff]at hu;obtain⟨m,_,rfl⟩:=hu;rw[h2.cz]
 grind
theorem po{h:aa}{w:World}(hs:fK β h w){k i n c:Nat}{cs:List Value}{t:TypeId}{sz:Nat}{wr:Bool}(hk:h.get k=some (.cells cs t sz wr))
  (hl:((cs.drop i).take n).length=n) {bs:List UInt8} (hbs:bytesOf ((cs.drop i).take n)=some bs) {x':Value} (hx:au β (.slice (some ⟨k,i,none⟩) n c) x'):
  (Conv.bytesToString x').run P w = .ok (strOf bs) w:=by
 obtain⟨sl,i',c',hb,hm,_,rfl,hx1,ho1,hn1,hi1,hz1⟩:=hx.eK;by_cases h0:n=0
 ·subst h0;have:bs=[]:=by simp[bytesOf]at hbs;exact hbs
  subst this;rfl
 ·have hi2:i'=sl.s+i:=by rcases hi1 with h1|⟨h1,h2⟩;exact h1;exact absurd h1 h0
  subst hi2;obtain⟨ns,hns,hr,hf,hcell⟩:=vZ (P:=P) hs hk hb hl hbs;rw[run_bytesToString (P:=P) w ⟨sl.b,sl.s+i,none⟩ n c' ns hr,hf];congr 2;simp
end
section
variable {β:cp} {P:Program}
theorem BM{a b:Value}(h:BL a b=true):a=b:=by
 unfold BL at h;split at h
 ·rw[beq_iff_eq.1 h]
 ·simp only[and_eq_true,decide_eq_true_eq]at h;rw[h.1,h.2]
 ·next a b=>
  simp only[decide_eq_true_eq]at h;obtain⟨⟨a⟩⟩:=a;obtain⟨⟨b⟩⟩:=b;simp only at h;rw[h]
 grind
theorem BO:∀{a b:List Value},xl a b=true->a=b
 |[],[],_=>rfl
 |[],_::_,h=>by grind[xl]
 |_::_,[],h=>by grind[xl]
 |a::x,b::y,h=>by
  simp only[xl,and_eq_true]at h;rw[BM h.1,BO h.2]
theorem JC{a b:Value}(h:E8 a b=true):a=b:=by
 unfold E8 at h
 grind[Array.ext',BO,BM]
theorem au.BP{v v':Value}(hv:rH v=true)(h:au β v v'):v'=v:=by
 cases h<;>first|rfl|(simp[rH]at hv)
theorem au.Bv{v:Value}(hv:rH v=true):au β v v:=by
 cases v<;>first|exact .bool _|exact .int _ _|exact .string _|(simp[rH]at hv)
theorem au.kU{v v':Value}(hv:qL v=true)(h:au β v v'):v'=v:=by
 unfold qL at hv;split at hv
 ·next cs=>
  obtain⟨a',rfl,ha⟩:=h.iR;have:a'=cs:=by
   refine Array.ext ha.1.symm λi h1 h2=>?_;have h3:=ha.2 i cs[i] a'[i] (getElem?_eq_getElem h2) (getElem?_eq_getElem h1);exact h3.BP (all_eq_true.1 hv _ (by simp))
  grind
 ·exact h.BP hv
theorem au.EZ{v:Value}(hv:qL v=true):au β v v:=by
 unfold qL at hv;split at hv
 ·next cs=>
  refine .agg rfl λi v v' h1 h2=>?_;rw[h1]at h2;obtain rfl:=oI h2;refine .Bv (all_eq_true.1 hv _ ?_);rw[<-getElem?_toList]at h1;exact List.mem_of_getElem? h1
 grind[Bv]
theorem jy{t:TypeId}{cs:Array Value}{off:Nat}{v:Value}(h:partOf P t cs off=some v)(w:World):(part t cs off).run P w = .ok v w:=by
 unfold partOf at h
 cases hu:P.underlying t with
 |none=>grind
 |some d=>
 simp only[hu]at h;simp only[part,run_bind,nv hu,andThen_ok,run_ite];split at h
 ·next ha=>
  obtain⟨n,hn,rfl⟩:=map_eq_some_iff.1 h;rw[if_pos ha];simp only[cG hn,andThen_ok,Sem.run_pure]
 simp_all
theorem AE{e:TypeId->Value->Value->Option Bool}{d:Nat}(w:World)(he:∀t x y b,e t x y=some b->(Op.equalIn d t x y).run P w = .ok b w)(xs ys:Array Value):∀(fs:List Field){b:Bool},Ih P e xs ys fs=some b->
  (Op.eqFields d xs ys fs).run P w = .ok b w
 |[],b,h=>by simp only[Ih]at h;obtain rfl:=oI h;rfl
 | f::fs,b,h=>by
  simp only[Ih]at h;split at h
  ·next hn=>
   split at h
   ·next p q h1 h2=>
    unfold Op.eqFields;rw[if_pos hn];split at h
    ·next h3=>
     simp only[run_bind,jy h1,jy h2,andThen_ok,he _ _ _ _ h3];simp only[Bool.not_true,false_eq_true,if_false];exact AE w he xs ys fs h
    ·next h3=>
     obtain rfl:=oI h;simp only[run_bind,jy h1,jy h2,andThen_ok,he _ _ _ _ h3];rfl
    ·cases h
   ·cases h
  grind
theorem oA(w:World):∀(d n:Nat)(t:TypeId)(x y:Value)(b:Bool),fX P d t x y=some b->(Op.equalIn (n+d) t x y).run P w = .ok b w
 |0,_,_,_,_,_,h=>by simp[fX]at h
 | d+1,n,t,x,y,b,h=>by
  unfold fX at h;split at h
  ·next fs a b' hu=>
   split at h
   ·next hs=>
    have hf:P.fieldsOf t=fs:=by simp[Program.fieldsOf,hu]
    rw[show n+(d+1)=(n+d)+1 from rfl,run_equalIn_struct w (n+d) t a b' (by rw[hf];exact hu) hs,hf];exact AE w (λt x y b hb=>oA w d n t x y b hb) a b' fs.toList h
   ·cases h
  grind[tB]
theorem wH{c:TypeId->Value->Bool}{em:Bool}{d:Nat}(w:World)(hc:∀t v,c t v=true->(Instr.checkKey em d t v).run P w = .ok () w)(cs:Array Value):∀(fs:List Field),Ez P c cs fs=true->
  (forIn fs PUnit.unit (λf _=>do
   if f.name≠ "_" then Instr.checkKey em d f.type (<-part f.type cs f.offset)
   pure (ForInStep.yield PUnit.unit)):Sem PUnit).run P w = .ok PUnit.unit w
 |[],_=>rfl
 | f::fs,h=>by
  simp only[Ez,and_eq_true,decide_eq_true_eq]at h;obtain⟨⟨hn,h1⟩,h2⟩:=h
  cases hp:partOf P f.type cs f.offset with
  |none=>grind
  |some p=>
   rw[hp]at h1;simp only[List.forIn_cons,run_bind,hn,ne_eq,not_false_eq_true,if_true,andThen_ok,jy hp,hc _ _ h1,Sem.run_pure];simpa using wH w hc cs fs h2
theorem tX(em:Bool)(w:World):∀(d n:Nat)(t:TypeId)(v:Value),qK P d t v=true->(Instr.checkKey em (n+d) t v).run P w = .ok () w
 |0,_,_,_,h=>by simp[qK]at h
 | d+1,n,t,v,h=>by
  rw[show n+(d+1)=(n+d)+1 from rfl];unfold qK at h;split at h
  ·next fs a hu=>
   have:=wH (em:=em) w (λt v hv=>tX em w d n t v hv) a fs.toList h;rw[Instr.checkKey];simp only[run_bind,ax hu,andThen_ok];rw[<-Array.forIn_toList];simp only[ne_eq,ite_not,bind_pure_comp]at this⊢;simp at this⊢;rw[this];rfl
  all_goals simp_all[ax,Instr.checkKey]
theorem rB{kt:TypeId}{k:Value}(h:lU P kt k=true)(em:Bool)(w:World):(Instr.checkKey em 10000 kt k).run P w = .ok () w:=by
 unfold lU at h;simp only[and_eq_true]at h;exact tX em w 3 9997 kt k h.2
theorem sw{kt:TypeId}{k:Value}(h:lU P kt k=true):qL k=true:=by simp_all[lU]
theorem nk{kt:TypeId}{a b:Value}{r:Bool}(h:rA P kt a b=some r):qL b=true/\fX P 3 kt a b=some r/\(r=true->a=b):=by
 unfold rA at h
 grind[JC]
theorem Gb{kt:TypeId}{k:Value}(h:lU P kt k=true):(∃fs a,P.underlying kt=some (.struct fs)/\k = .agg a)\/(∃kd,P.underlying kt=some kd/\∀b r,fX P 3 kt k b=some r->Instr.sameNow kd k b=some r):=by
 unfold lU at h;simp only[and_eq_true]at h;have h2:=h.2;unfold qK at h2;split at h2
 ·next fs a hu=>exact .inl ⟨fs,a,hu,rfl⟩
 ·next b hu=>
  refine .inr ⟨_,hu,λy r he=>?_⟩;simp only[fX,tA,hu]at he
  cases y<;>simp at he
  simp[Instr.sameNow,he]
 ·next kk k' n hu=>
  refine .inr ⟨_,hu,λy r he=>?_⟩;simp only[fX,tA,hu]at he
  cases y<;>simp at he
  obtain⟨rfl,rfl⟩:=he;simp[Instr.sameNow]
 ·next b hu=>
  refine .inr ⟨_,hu,λy r he=>?_⟩;simp only[fX,tA,hu]at he
  cases y with
  |string s=>
   obtain rfl:=oI he;simp only[Instr.sameNow];rw[wB]
  |_=>simp at he
 grind
theorem oY.JS{p:Value×Value}{es:List (Value×Value)}{e:MapEntry}{es':List MapEntry}(he:oY β (p::es) (e::es')):oY β es es':=
 ⟨by have:=he.1;grind,λj p e h1 h2=>he.2 (j+1) p e (by grind) (by grind)⟩
structure sO(P:Program)(kt:TypeId)(k:Value){α:Type}(fnd:List MapEntry->Nat->α)(R:Option (Nat×Value)->α):Prop where
 nil:∀i,fnd [] i=R none
 Ld:∀(e:MapEntry) es i,fX P 3 kt k e.key=some true->fnd (e::es) i=R (some (i,e.val))
 LI:∀(e:MapEntry) es i,fX P 3 kt k e.key=some false->fnd (e::es) i=fnd es (i+1)
theorem C7{kt:TypeId}{kd:TypeDesc}{k:Value}(hk:∀b r,fX P 3 kt k b=some r->Instr.sameNow kd k b=some r):sO P kt k (Instr.findNow kd k) some where
 nil:=λ_=>rfl
 Ld:=λe es i h=>by grind[Instr.findNow]
 LI:=λe es i h=>by grind[Instr.findNow]
theorem vP{kt:TypeId}{k:Value}(w:World):sO P kt k (λes i=>(Instr.findAsking kt k es i).run P w) (λr=> .ok r w) where
 nil:=λ_=>by rfl
 Ld:=λe es i h=>by
  have hr:(Op.equal kt k e.key).run P w = .ok true w:=oA w 3 9997 kt k e.key true h;simp[Instr.findAsking,hr]
 LI:=λe es i h=>by
  have hr:(Op.equal kt k e.key).run P w = .ok false w:=oA w 3 9997 kt k e.key false h;simp[Instr.findAsking,hr]
section
variable {kt:TypeId} {k:Value} {α:Type} {fnd:List MapEntry->Nat->α} {R:Option (Nat×Value)->α}
theorem AM(hF:sO P kt k fnd R):∀(es:List (Value×Value))(es':List MapEntry)(i:Nat){r:Option Value},oY β es es'->tK P kt k es=some r->
  ∃r',fnd es' i=R r'/\((r=none/\r'=none)\/ ∃v j v',r=some v/\r'=some (j,v')/\au β v v')
 |[],es',i,r,he,h=>by
  have:es'=[]:=List.eq_nil_of_length_eq_zero he.1.symm;subst this;simp only[tK,Option.some.injEq]at h;exact⟨none,hF.nil i,.inl ⟨h.symm,rfl⟩⟩
 |(k',v)::es,[],i,r,he,h=>by have:=he.1;grind
 | (k',v)::es,e::es',i,r,he,h=>by
  obtain⟨hke,hve⟩:=he.2 0 (k',v) e rfl rfl;dsimp only at hke hve;simp only[tK]at h;split at h
  ·next hq=>
   obtain⟨hp,hd,_⟩:=nk hq;have hkey:=hke.kU hp;obtain rfl:=oI h;exact⟨some (i,e.val),hF.Ld e es' i (by rw[hkey];exact hd),.inr ⟨v,i,e.val,rfl,rfl,hve⟩⟩
  ·next hq=>
   obtain⟨hp,hd,_⟩:=nk hq;have hkey:=hke.kU hp;obtain⟨r',h1,h2⟩:=AM hF es es' (i+1) he.JS h;exact⟨r',by rw[hF.LI e es' i (by rw[hkey];exact hd)];exact h1,h2⟩
  grind
theorem rz(hF:sO P kt k fnd R){x x':Value}(hk:qL k=true)(hx:au β x x'):∀(es:List (Value×Value))(es':List MapEntry){r:List (Value×Value)},oY β es es'->iQ P kt k x es=some r->∀i clock,
  (∃j e,fnd es' i=R (some (i+j,e.val))/\es'[j]?=some e/\e.key=k/\oY β r (es'.modify j λe=>{ e with key:=k,val:=x' }))\/
  (fnd es' i=R none/\oY β r (es'++[{ key:=k,val:=x',born:=clock }]))
 |[],es',r,he,h,i,clock=>by
  have:es'=[]:=List.eq_nil_of_length_eq_zero he.1.symm;subst this;simp only[iQ,Option.some.injEq]at h;subst h;refine .inr ⟨hF.nil i,rfl,λj p e h1 h2=>?_⟩
  cases j with
  |zero=>simp at h1 h2;subst h1;subst h2;exact⟨.EZ hk,hx⟩
  |succ j=>grind
 |(k',v)::es,[],r,he,h,i,clock=>by have:=he.1;grind
 | (k',v)::es,e::es',r,he,h,i,clock=>by
  obtain⟨hke,hve⟩:=he.2 0 (k',v) e rfl rfl;dsimp only at hke hve;have hcons:∀{p:Value×Value}{e0:MapEntry}{q:List (Value×Value)}{q':List MapEntry},au β p.1 e0.key->au β p.2 e0.val->oY β q q'->oY β (p::q) (e0::q'):=λh1 h2 h3=>
   ⟨by simp[h3.1],λj p e h4 h5=>by
    cases j with
    |zero=>simp at h4 h5;subst h4;subst h5;exact⟨h1,h2⟩
    |succ j=>exact h3.2 j p e (by simpa using h4) (by simpa using h5)⟩
  simp only[iQ]at h;split at h
  ·next hq=>
   obtain⟨hp,hd,heq⟩:=nk hq;have hkey:=hke.kU hp;obtain rfl:=oI h;refine .inl ⟨0,e,hF.Ld e es' i (by rw[hkey];exact hd),rfl,by rw[hkey,heq rfl],?_⟩;simp only[List.modify_zero_cons];exact hcons (.EZ hk) hx he.JS
  ·next hq=>
   obtain⟨hp,hd,_⟩:=nk hq;have hkey:=hke.kU hp;obtain⟨r',hr,rfl⟩:=map_eq_some_iff.1 h;have hm:=hF.LI e es' i (by rw[hkey];exact hd);rcases rz hF hk hx es es' he.JS hr (i+1) clock with⟨j,e0,h1,h2,h3,h4⟩|⟨h1,h2⟩
   ·refine .inl ⟨j+1,e0,?_,by simpa using h2,h3,?_⟩
    ·rw[hm,h1];congr 3;omega
    ·simp only[List.modify_succ_cons];exact hcons hke hve h4
   ·exact .inr ⟨hm.trans h1,hcons hke hve h2⟩
  grind
end
theorem tL{kt:TypeId}{k:Value}(hk:lU P kt k=true)(w:World)(es':List MapEntry):
  ∃(α:Type)(fnd:List MapEntry->Nat->α)(R:Option (Nat×Value)->α),sO P kt k fnd R/\∀r',fnd es' 0=R r'->(Instr.findKey kt k es').run P w = .ok r' w:=by
 rcases Gb hk with⟨fs,a,hu,rfl⟩|⟨kd,hu,hn⟩
 ·refine⟨_,_,_,vP w,λr' h=>?_⟩
  cases es' with
  |nil=>simp_all[ax,Instr.findAsking,Instr.findKey,Instr.findNow]
  |cons e es'=>simp_all[ax,Instr.findKey,Instr.findNow,Instr.sameNow]
 ·exact⟨_,_,_,C7 hn,λr' h=>by simp_all[ax,Instr.findKey]⟩
theorem mV(d:Nat){v:Value}(h:rH v=true):Instr.sameBits d v v=true:=by
 cases v<;>first|(simp[rH]at h;done)|(cases d<;>simp[Instr.sameBits];done)|(cases d<;>(simp only[Instr.sameBits];rw[<-wB];simp))
theorem wa{v:Value}(h:qL v=true)(d:Nat):Instr.sameBits (d+1) v v=true:=by
 unfold qL at h;split at h
 ·next cs=>
  simp only[Instr.sameBits,BEq.rfl,Bool.true_and];rw[all_eq_true]at h⊢;rintro⟨x,y⟩ hm;obtain⟨i,h1⟩:=List.getElem?_of_mem hm;rw[List.getElem?_zip_eq_some]at h1;obtain⟨h2,h3⟩:=h1;dsimp only at h2 h3⊢;rw[h2]at h3;obtain rfl:=oI h3;exact mV d (h x (List.mem_of_getElem? h2))
 grind[mV]
set_option maxHeartbeats 1000000 in
theorem lg{ρ ρ':Operand->Value}(hρ:∀x,au β (ρ x) (ρ' x)){o:Oper}{v:Value}{h:aa}{w:World}(hs:fK β h w)(hv:aT P ρ o h=some v):
  ∃v',(execOp ρ' o).run P w = .ok (.value v') w/\au β v v':=by
 unfold aT at hv;unfold execOp;split at hv
 ·next t a ho=>
  simp only[ho];obtain⟨ad,he,v',hr,hrel⟩:=A8 (P:=P) hs hv (hρ a);exact⟨v',dV (by simp[Instr.loadAt,he,Instr.sureAddr,hr]),hrel⟩
 ·next t x lo hi mx ho=>
  simp only[ho];obtain⟨v',hr,hrel⟩:=GY (P:=P) hs hv (hρ x) (ix.map hρ lo) (ix.map hρ hi) (ix.map hρ mx);exact⟨v',dV hr,hrel⟩
 ·next s d x ho=>
  simp only[ho];have hx:=hρ x;split at hv
  ·next e a n c h1 h2 ha=>
   rw[ha]at hx;split at hv
   ·next he=>
    obtain rfl:=oI hv;obtain⟨_,_,hx'⟩:=hx.dD;refine⟨strOf [],dV ?_,.string _⟩;simp only[convert,run_bind,ax h1,ax h2,andThen_ok,hx',ax he,Conv.bytesToString];rfl
   ·next k i he=>
    split at hv
    ·next cs t sz wr hk=>
     split at hv
     ·next hl=>
      obtain⟨bs,hbs,rfl⟩:=map_eq_some_iff.1 hv;refine⟨strOf bs,dV ?_,.string _⟩;have hb:=po (P:=P) hs hk hl hbs hx;obtain⟨sl,i',c',_,_,_,hx',_⟩:=hx.eK;rw[hx']at hb⊢;simp only[convert,run_bind,ax h1,ax h2,andThen_ok,ax he];exact hb
     ·cases hv
    ·cases hv
   ·cases hv
  ·cases hv
 ·next t m k ok ho=>
  simp only[ho];have hm:=hρ m;have hk:=hρ k;split at hv
  ·next kt e hu=>
   split at hv
   ·next es z hes hz=>
    split at hv
    ·next hok=>
     have hkk:=hk.kU (sw hok);have key:∃es',oY β es es'.toList/\((ρ' m = .map none/\es' = #[])\/ ∃b clock,ρ' m = .map (some b)/\(getObj b).run P w = .ok (.map es' clock) w):=by
      split at hes
      ·next hm0=>
       obtain rfl:=oI hes;rw[hm0]at hm;exact⟨#[],⟨rfl,λi p e h1=>by simp at h1⟩,.inl ⟨hm.tV,rfl⟩⟩
      ·next r hm0=>
       rw[hm0]at hm;split at hes
       ·next es0 hr=>
        obtain rfl:=oI hes;obtain⟨sl,hb,hmap,he⟩:=hm.yK;obtain⟨_,es',clock,hw,hrel⟩:=hs.blk _ _ _ hr hb;exact⟨es',hrel,.inr ⟨sl.b,clock,he,by simp[getObj,Sem.run,hw]⟩⟩
       ·cases hes
      ·cases hes
     obtain⟨es',hrel,hrun⟩:=key;have hlk:∀{v:Value},(∃r,tK P kt (ρ k) es=some r/\v=match r with|some v=>(if ok then .tuple #[v,.bool true]else v)|none=>(if ok then .tuple #[z,.bool false]else z))->
       ∃v',(Instr.lookup t (ρ' m) (ρ' k) ok).run P w = .ok v' w/\au β v v':=by
      rintro v ⟨r,hr,rfl⟩;rw[hkk];obtain⟨α,fnd,R,hF,hrun1⟩:=tL hok w es'.toList;obtain⟨r',h1,h2⟩:=AM hF es es'.toList 0 hrel hr;have hfk:=hrun1 r' h1;have hL:(Instr.lookup t (ρ' m) (ρ k) ok).run P w=((do
         Instr.checkKey es'.isEmpty 10000 kt (ρ k)
         let(v,ok') <-match <-Instr.findKey kt (ρ k) es'.toList with
          |some (_,v)=>pure (v,true)
          |none=>pure (<-zeroValue e,false)
         pure (if ok then .tuple #[v,.bool ok']else v)):Sem Value).run P w:=by
       rcases hrun with⟨he,rfl⟩|⟨b,clock,he,hg⟩
       ·simp only[Instr.lookup,run_bind,ax hu,andThen_ok,he,Sem.run_pure];rfl
       ·simp only[Instr.lookup,run_bind,ax hu,andThen_ok,he,hg,Sem.run_pure];rfl
      rw[hL];have hck:=rB hok es'.isEmpty w;simp only[run_bind,hck,andThen_ok,hfk];rcases h2 with⟨rfl,rfl⟩|⟨u,j,u',rfl,rfl,hu'⟩
      ·refine⟨if ok then .tuple #[z,.bool false]else z,by simp[jz hz],?_⟩;have hzz:au β z z:= .jv (di hz).1
       cases ok
       ·exact hzz
       ·exact uZ hzz (.bool _)
      ·refine⟨if ok then .tuple #[u',.bool true]else u',by simp,?_⟩
       cases ok
       ·exact hu'
       ·exact uZ hu' (.bool _)
     have:∃r,tK P kt (ρ k) es=some r/\v=match r with|some v=>(if ok then .tuple #[v,.bool true]else v)|none=>(if ok then .tuple #[z,.bool false]else z):=by
      split at hv
      ·next u hf=>exact⟨some u,hf,(oI hv).symm⟩
      ·next hf=>exact⟨none,hf,(oI hv).symm⟩
      ·cases hv
     obtain⟨v',h1,h2⟩:=hlk this;exact⟨v',dV h1,h2⟩
    ·cases hv
   ·cases hv
  ·cases hv
 ·next args ats ho=>
  simp only[ho];split at hv
  ·next x t hx ht=>
   have hxr:=hρ x;have h0:(args.map ρ')[0]?=some (ρ' x):=by simp[hx]
   have key:∃n,v = .int .i64 n/\(Builtin.len_ ats o.type (args.map ρ')).run P w = .ok (.int .i64 n) w:=by
    simp only[Builtin.len_,ht,h0];split at hv
    ·next s hu ha=>
     rw[ha]at hxr;obtain rfl:=oI hv;refine⟨_,rfl,?_⟩;simp only[run_bind,ax hu,andThen_ok,hxr.dp,Sem.run_pure,goInt];simp
    ·next n e y hu=>
     obtain rfl:=oI hv;refine⟨_,rfl,?_⟩;simp only[run_bind,ax hu,andThen_ok,Sem.run_pure,goInt]
    ·next e a n c hu ha=>
     rw[ha]at hxr;obtain rfl:=oI hv;refine⟨_,rfl,?_⟩
     cases a with
     |none=>obtain⟨rfl,rfl,he⟩:=hxr.dD;simp only[run_bind,ax hu,andThen_ok,he,Sem.run_pure,goInt]
     |some a=>obtain⟨a',c',he⟩:=hxr.A0;simp only[run_bind,ax hu,andThen_ok,he,Sem.run_pure,goInt]
    ·next kt e hu ha=>
     rw[ha]at hxr;obtain rfl:=oI hv;refine⟨_,rfl,?_⟩;simp only[run_bind,ax hu,andThen_ok,hxr.tV,Sem.run_pure,goInt]
    ·next kt e r hu ha=>
     rw[ha]at hxr;split at hv
     ·next es hr=>
      obtain rfl:=oI hv;refine⟨_,rfl,?_⟩;obtain⟨sl,hb,hmap,he⟩:=hxr.yK;obtain⟨_,es',clock,hw,hrel⟩:=hs.blk _ _ _ hr hb;have hg:(getObj sl.b).run P w = .ok (.map es' clock) w:=by simp[getObj,Sem.run,hw]
      simp only[run_bind,ax hu,andThen_ok,he,hg,Sem.run_pure,goInt];rw[hrel.1];simp
     ·cases hv
    ·cases hv
   obtain⟨n,rfl,hr⟩:=key;refine⟨.int .i64 n,?_,.int _ _⟩;simp only[resolve,run_bind,Sem.run_pure,andThen_ok,invoke,builtin,hr]
  ·cases hv
 grind
end
section
variable {β:cp} {P:Program}
def Wr(β:cp)(h:aa)(b:Nat):Prop:=∃k B sl,h.get k=some B/\B.wr=true/\β k=some sl/\sl.b=b
def jm(w w':World):Prop:=w'.tape=w.tape/\w.drawn<=w'.drawn
theorem jm.refl(w:World):jm w w:=⟨rfl,Nat.le_refl _⟩
theorem jm.trans{w w₁ w₂:World}(h:jm w w₁)(h':jm w₁ w₂):jm w w₂:=⟨h'.1.trans h.1,Nat.le_trans h.2 h'.2⟩
structure Step(β:cp)(h:aa)(w:World)(β':cp)(h':aa)(w':World):Prop where
 le:β.le β'
 next:h.next<=h'.next
 jG:fK β' h' w'
 size:w.heap.size<=w'.heap.size
 os:w'.os=w.os
 tape:jm w w'
 output:w'.output=w.output
 kept:∀b,b<w.heap.size->¬Wr β h b->w'.heap[b]?=w.heap[b]?
 back:∀b,b<w.heap.size->Wr β' h' b->Wr β h b
 fresh:∀k sl,β' k=some sl->β k=some sl\/(h.next<=k/\(w.heap.size<=sl.b\/Wr β h sl.b))
 keys:∀k B,h'.get k=some B->k<h.next->∃B₀,h.get k=some B₀
theorem Step.refl{h:aa}{w:World}(hs:fK β h w):Step β h w β h w:=
 ⟨β.le_refl,Nat.le_refl _,hs,Nat.le_refl _,rfl,.refl _,rfl,λ_ _ _=>rfl,λ_ _ h=>h,λ_ _ h=> .inl h,λ_ B h _=>⟨B,h⟩⟩
theorem Step.trans{β₁ β₂:cp}{h h₁ h₂:aa}{w w₁ w₂:World}(a:Step β h w β₁ h₁ w₁)(b:Step β₁ h₁ w₁ β₂ h₂ w₂):Step β h w β₂ h₂ w₂ where
 le:=cp.le_trans a.le b.le
 next:=Nat.le_trans a.next b.next
 jG:=b.jG
 size:=Nat.le_trans a.size b.size
 os:=b.os.trans a.os
 tape:=a.tape.trans b.tape
 output:=b.output.trans a.output
 kept:=λk hk hn=>(b.kept k (Nat.lt_of_lt_of_le hk a.size) λhw=>hn (a.back k hk hw)).trans (a.kept k hk hn)
 back:=λk hk hw=>a.back k hk (b.back k (Nat.lt_of_lt_of_le hk a.size) hw)
 fresh:=λk sl hk=>by
  rcases b.fresh k sl hk with h1|⟨h1,h2⟩
  ·exact a.fresh k sl h1
  ·refine .inr ⟨Nat.le_trans a.next h1,?_⟩;rcases h2 with h2|h2
   ·exact .inl (Nat.le_trans a.size h2)
   ·rcases Nat.lt_or_ge sl.b w.heap.size with h3|h3
    ·exact .inr (a.back _ h3 h2)
    omega
 keys:=λk B hk hlt=>by
  obtain⟨B₁,h1⟩:=b.keys k B hk (Nat.lt_of_lt_of_le hlt a.next);exact a.keys k B₁ h1 hlt
theorem fK.of_heap{h:aa}{w w':World}(hs:fK β h w)(he:w'.heap=w.heap):fK β h w':=
 ⟨λk sl hk=>by rw[he];exact hs.lt k sl hk,λk B sl h1 h2=>(hs.blk k B sl h1 h2).of_heap (by rw[he]),hs.own,hs.wf⟩
theorem Step.of_heap{h:aa}{w w':World}(hs:fK β h w)(he:w'.heap=w.heap)(h1:w'.os=w.os)(h2:jm w w')(h3:w'.output=w.output):Step β h w β h w':=
 ⟨β.le_refl,Nat.le_refl _,hs.of_heap he,by grind,h1,h2,h3,λ_ _ _=>by rw[he],λ_ _ h=>h,λ_ _ h=> .inl h,λ_ B h _=>⟨B,h⟩⟩
def cp.ext(β:cp)(k:Nat)(sl:Slot):cp:=λj=>if j=k then some sl else β j
theorem cp.bH(β:cp)(k:Nat)(sl:Slot):β.ext k sl k=some sl:=by simp[cp.ext]
theorem cp.cR(β:cp){k j:Nat}(sl:Slot)(h:j≠k):β.ext k sl j=β j:=by simp[cp.ext,h]
theorem cp.tZ{k:Nat}(sl:Slot)(h:β k=none):β.le (β.ext k sl):=λj sl' hj=>by
 rw[β.cR sl (by rintro rfl;rw[h]at hj;cases hj)];omega
theorem fK.gZ{h:aa}{w:World}(hs:fK β h w){k:Nat}(hk:h.next<=k):β k=none:=by
 cases hb:β k with
 |none=>rfl
 |some sl=>exact absurd (hs.lt k sl hb).1 (by omega)
structure ks(β:cp)(w:World)(B:bt)(f:Nat->Value)(v':Value)(w':World):Prop where
 size:w'.heap.size=w.heap.size+1
 os:w'.os=w.os
 tape:jm w w'
 output:w'.output=w.output
 kept:∀b,b<w.heap.size->w'.heap[b]?=w.heap[b]?
 new:∃sl:Slot,sl.b=w.heap.size/\∀(β':cp)(k:Nat),β.le β'->β' k=some sl->rS β' B sl w'/\au β' (f k) v'
theorem aa.j0{h:aa}(hw:∀k B,h.get k=some B->k<h.next)(B:bt):∀k B',(h.push B).get k=some B'->k<(h.push B).next:=λk B' hk=>by
 rw[h.aM]at hk;split at hk
 ·simp_all
 ·have:=hw k B' hk;simp;omega
theorem aa.wf_set{h:aa}(hw:∀k B,h.get k=some B->k<h.next){j:Nat}(B:bt)(hj:j<h.next):∀k B',(h.set j B).get k=some B'->k<(h.set j B).next:=λk B' hk=>by
 rw[h.aR]at hk;split at hk
 all_goals simp_all
theorem aa.Ea{h:aa}(hw:∀k B,h.get k=some B->k<h.next)(j:Nat):∀k B',(h.del j).get k=some B'->k<(h.del j).next:=λk B' hk=>by
 rw[h.de]at hk
 simp_all
theorem ks.step{h:aa}{w w':World}(hs:fK β h w){B:bt}{f:Nat->Value}{v':Value}(ha:ks β w B f v' w'):
  ∃β',Step β h w β' (h.push B) w'/\au β' (f h.next) v':=by
 obtain⟨sl,hb,hnew⟩:=ha.new;have hnone:=hs.gZ (Nat.le_refl h.next);have hle:β.le (β.ext h.next sl):=cp.tZ sl hnone;obtain⟨h1,h2⟩:=hnew _ h.next hle (β.bH _ _);have hlt:∀k sl',β k=some sl'->sl'.b<w.heap.size:=λk sl' hk=>(hs.lt k sl' hk).2;have hwr:∀b,b<w.heap.size->Wr (β.ext h.next sl) (h.push B) b->Wr β h b:=by
  rintro b hb' ⟨k,B',sl',e1,e2,e3,e4⟩;by_cases hk:k=h.next
  ·subst hk;rw[β.bH]at e3
   grind
  ·rw[h.fh k B hk]at e1;rw[β.cR sl hk]at e3;exact⟨k,B',sl',e1,e2,e3,e4⟩
 refine⟨β.ext h.next sl,⟨hle,by simp,⟨?_,?_,?_,aa.j0 hs.wf B⟩,by rw[ha.size];omega,ha.os,ha.tape,ha.output,λb hb' _=>ha.kept b hb',hwr,?_,?_⟩,h2⟩
 ·intro k sl' hk;by_cases hkn:k=h.next
  ·subst hkn;rw[β.bH]at hk;obtain rfl:=oI hk;exact⟨by simp,by rw[ha.size,hb];omega⟩
  ·rw[β.cR sl hkn]at hk;have:=hs.lt k sl' hk;exact⟨by simp;omega,by rw[ha.size];omega⟩
 ·intro k B' sl' e1 e2;by_cases hkn:k=h.next
  ·subst hkn;rw[β.bH]at e2;obtain rfl:=oI e2;rw[h.ig]at e1
   grind
  ·rw[h.fh k B hkn]at e1;rw[β.cR sl hkn]at e2;exact((hs.blk k B' sl' e1 e2).mono hle).of_heap (ha.kept _ (hlt k sl' e2))
 ·intro k k' B' B'' sl' sl'' hne e1 e2 e3 e4 e5;by_cases hkn:k=h.next
  ·subst hkn;rw[β.bH]at e3;obtain rfl:=oI e3;rw[β.cR sl (Ne.symm hne)]at e4
   grind
  ·by_cases hkn':k'=h.next
   ·subst hkn';rw[β.bH]at e4;obtain rfl:=oI e4;rw[β.cR sl hne]at e3
    grind
   ·rw[h.fh k B hkn]at e1;rw[h.fh k' B hkn']at e2;rw[β.cR sl hkn]at e3;rw[β.cR sl hkn']at e4;exact hs.own k k' B' B'' sl' sl'' hne e1 e2 e3 e4 e5
 ·intro k sl' hk;by_cases hkn:k=h.next
  ·subst hkn;rw[β.bH]at hk
   grind
  ·rw[β.cR sl hkn]at hk
   grind
 ·intro k B' hk hlt';rw[h.fh k B (by omega)]at hk
  grind
theorem eO.LP{cs:List Value}{l':List Value}(h:aG β cs l'):eO β cs 0 l'.toArray:=λi v hv=>by
 obtain⟨v',h1,h2⟩:=h.get hv
 grind
theorem wQ(n:Nat):La (0,0) n:=λx _ h=>absurd h (by simp)
theorem fL{w:World}(o:Obj):(w.alloc o).heap[w.heap.size]?=some o:=by
 unfold World.alloc;grind
theorem ij{w:World}(o:Obj){b:Nat}(h:b<w.heap.size):(w.alloc o).heap[b]?=w.heap[b]?:=by
 simp only[World.alloc,Array.getElem?_push]
 grind
theorem kF{w:World}{cs l':List Value}{t:TypeId}{sz:Nat}{f:Nat->Value}{v':Value}(h:aG β cs l')
  (hv:∀(β':cp)(k:Nat)(sl:Slot),β' k=some sl->sl.b=w.heap.size->sl.s=0->sl.n=l'.length->sl.sz=sz->sl.isMap=false->au β' (f k) v'):
  ks β w (.cells cs t sz true) f v' (w.alloc (.cells l'.toArray t)) where
 size:=by simp
 os:=rfl
 tape:= .refl _
 output:=rfl
 kept:=λb hb=>ij _ hb
 new:=⟨⟨w.heap.size,0,l'.length,t,sz,false⟩,rfl,λβ' k hle hk=>
  ⟨⟨rfl,rfl,⟨rfl,λ_=>rfl⟩,l'.toArray,(0,0),fL _,by simp,eO.LP (h.mono hle),λ_=>wQ _⟩,hv β' k _ hk rfl rfl rfl rfl rfl⟩⟩
theorem aG.lz{z:Value}(h:plain z=true):aG β z.cells.toList z.cells.toList:=fz.toList.1 (fz.mP h)
theorem j3{l l':List Value}(h:aG β l l'):∀n,aG β (bC l n) (bC l' n)
 |0=> .nil β
 |n+1=>h.append (j3 h n)
theorem fx(l:List Value):∀n,(bC l n).length=n*l.length
 |0=>by simp[bC]
 |n+1=>by simp[bC,fx l n,add_mul,Nat.add_comm]
theorem rQ(l:List Value):∀(n i:Nat),i<n*l.length->(bC l n)[i]?=l[i%l.length]?
 |0,i,h=>by omega
 | n+1,i,h=>by
  have hl:0<l.length:=by
   rcases Nat.eq_zero_or_pos l.length with h0|h0
   ·grind
   ·omega
  simp only[bC];by_cases hi:i<l.length
  ·grind[Nat.mod_eq_of_lt]
  ·rw[getElem?_append_right (by omega),rQ l n (i-l.length) (by rw[add_mul]at h;omega)]
   grind[Nat.mod_eq_sub_mod]
theorem oW(z:Array Value)(n:Nat)(hz:0<z.size):((Array.range (n*z.size)).map (λi=>z[i%z.size]!))=(bC z.toList n).toArray:=by
 apply Array.ext';apply List.ext_getElem?
 grind[rQ,fx]
end
section
variable {β:cp} {P:Program}
theorem fq(e:TypeId)(cs:Array Value)(w:World):(newRow e cs).run P w = .ok ⟨w.heap.size,0,none⟩ (w.alloc (.cells cs e)):=by rfl
theorem E5{w:World}{β':cp}{k:Nat}{sl:Slot}(h:β' k=some sl)(hb:sl.b=w.heap.size)(hs:sl.s=0)(hm:sl.isMap=false):au β' (.pointer (some ⟨k,0,none⟩)) (.pointer (some ⟨w.heap.size,0,none⟩)):=by
 have:=au.ptr (i:=0) h hm
 grind
theorem nw{w:World}{β':cp}{k:Nat}{sl:Slot}{n c c':Nat}(h:β' k=some sl)(hb:sl.b=w.heap.size)(hs:sl.s=0)(hm:sl.isMap=false)(hx:c<bR->c'=c)(ho:bR<=c->c-bR<=c')(hn:n<=aX c)
  (hz:sl.sz=0\/c'*sl.sz<=sl.n):au β' (.slice (some ⟨k,0,none⟩) n c) (.slice (some ⟨w.heap.size,0,none⟩) n c'):=by
 have:=au.slice (i:=0) (i':=0) h hm hx ho hn (.inl (by rw[hs])) (by simpa using hz)
 grind
theorem tr{c:Nat}(h:c<bR):aX c=c:=by simp_all[if_neg,aX]
theorem eo(c:Nat):aX (bR+c)=c:=by simp_all[aX]
theorem ss:bR=36893488147419103232:=rfl
def SF(a:Addr)(n:Nat):Obj->Obj
 |.cells c elem (lo,hi)=> .cells c elem (if lo==hi then(a.off,a.off+n)else(min lo a.off,max hi (a.off+n)))
 |o=>o
theorem jO(w:World)(a:Addr){n:Nat}(hn:n≠0)(b:Nat):(w.freeze a n).heap[b]?=if a.block=b then(w.heap[b]?).map (SF a n)else w.heap[b]?:=by
 unfold World.freeze;rw[if_neg hn];simp only[Array.getElem?_modify];rfl
theorem ry(w:World)(a:Addr)(n:Nat):(w.freeze a n).heap.size=w.heap.size:=by grind[World.freeze]
theorem mE(w:World)(a:Addr)(n:Nat):(w.freeze a n).os=w.os/\jm w (w.freeze a n)/\(w.freeze a n).output=w.output:=by
 unfold World.freeze;split<;>exact⟨rfl,.refl _,rfl⟩
theorem tO(off:Nat):∀(q:List (Value×Nat))(a:Array Value),(q.foldl (λcs (c,j)=>cs.setIfInBounds (off+j) c) a).size=a.size
 |[],_=>rfl
 |c::q,a=>by simp only[List.foldl_cons];rw[tO off q];simp
theorem wM(place:Nat->Option (Nat×Nat)):∀(l:List (Nat×Value))(a r:Array Value),Instr.fill place a l=some r->r.size=a.size
 |[],a,r,h=>by grind[Instr.fill]
 | (i,v)::l,a,r,h=>by
  simp only[Instr.fill]at h;split at h
  ·cases h
  ·split at h
   ·cases h
   ·rw[wM place l _ _ h,<-Array.foldl_toList];simp[tO]
theorem mS(f:Nat->Value)(n:Nat)(h:n=0):(Array.range n).map f = #[]:=by grind
set_option maxHeartbeats 1000000 in
theorem jT{ρ ρ':Operand->Value}(hρ:∀x,au β (ρ x) (ρ' x)){o:Oper}{B:bt}{f:Nat->Value}{w:World}(hv:aJ P ρ o=some (B,f)):
  ∃v' w',(execOp ρ' o).run P w = .ok (.value v') w'/\ks β w B f v' w':=by
 unfold aJ at hv;unfold execOp;split at hv
 ·next t ho=>
  simp only[ho];split at hv
  ·next z hz=>
   split at hv
   ·next hsc=>
    simp only[Option.some.injEq,Prod.mk.injEq]at hv;obtain⟨rfl,rfl⟩:=hv;refine⟨_,_,dV (v:= .pointer (some ⟨w.heap.size,0,none⟩)) (w':=w.alloc (.cells z.cells.toList.toArray t)) ?_,kF (aG.lz (di hz).1) λβ' k sl h1 h2 h3 h4 h5 h6=>E5 h1 h2 h3 h6⟩;simp[Instr.alloc,jz hz,newVar,fq]
   ·cases hv
  ·cases hv
 ·next t x ho=>
  simp only[ho];split at hv
  ·next hsc=>
   simp only[Option.some.injEq,Prod.mk.injEq]at hv;obtain⟨rfl,rfl⟩:=hv;have hx:=hρ x;have hj:ρ x≠Ab.eu:=by
    intro e;rw[e]at hsc
    cases hsc
   have hc:=hx.cells hj;refine⟨_,_,dV (v:= .pointer (some ⟨w.heap.size,0,none⟩)) (w':=w.alloc (.cells (ρ' x).cells.toList.toArray t)) ?_,kF (fz.toList.1 hc) λβ' k sl h1 h2 h3 h4 h5 h6=>E5 h1 h2 h3 h6⟩;simp[Instr.box,newVar,fq]
  ·cases hv
 ·next t len parts ho=>
  simp only[ho];split at hv
  ·next e hu=>
   split at hv
   ·next sz z hsz hz=>
    split at hv
    ·next hc=>
     obtain⟨hzs,hpos,hlim⟩:=hc;split at hv
     ·next cs hcs=>
      split at hcs
      ·next hj=>
       split at hv
       ·next hsc=>
        simp only[Option.some.injEq,Prod.mk.injEq]at hv;obtain⟨rfl,rfl⟩:=hv;have hrow:fz β (bC z.cells.toList len).toArray (bC z.cells.toList len).toArray:=fz.toList.2 (by simpa using j3 (aG.lz (di hz).1) len);have hpr:rW β (parts.toList.map λp=>(p.1,ρ p.2)) (parts.toList.map λp=>(p.1,ρ' p.2)):=rW.map parts.toList (·.1) λp _=>hρ p.2;obtain⟨cs',hf,hr⟩:=pC _ _ _ _ _ _ hpr (by
         intro p hp;simp only[List.mem_map]at hp;obtain⟨q,hq,rfl⟩:=hp;exact all_eq_true.1 hj q hq) hrow hcs
        have hsize:cs'.size=len*sz:=by
         rw[wM _ _ _ _ hf];simp[fx,hzs]
        refine⟨_,_,dV (v:= .slice (some ⟨w.heap.size,0,none⟩) len len) (w':=w.alloc (.cells cs'.toList.toArray e)) ?_,kF (fz.toList.1 hr) λβ' k sl h1 h2 h3 h4 h5 h6=>
         nw h1 h2 h3 h6 (λ_=>rfl) (λh=>absurd h (by rw[ss];have:len<=len*sz:=Nat.le_mul_of_pos_right _ hpos;omega))
          (by rw[tr (by rw[ss];have:len<=len*sz:=Nat.le_mul_of_pos_right _ hpos;omega)];exact Nat.le_refl _) (.inr (by rw[h5,h4];simp[hsize]))⟩
        have he:(parts.map λ(i,x)=>(i,ρ' x)).toList=(parts.toList.map λp=>(p.1,ρ' p.2)):=by simp
        have hzr:((Array.range (len*sz)).map (z.cells[· % z.cells.size]!))=(bC z.cells.toList len).toArray:=by
         rw[<-hzs];exact oW z.cells len (by omega)
        simp only[Instr.buildSlice,run_bind,ax hu,andThen_ok,cG hsz,run_ite];rw[if_neg (by omega)];by_cases hl0:len*sz=0
        ·rw[if_pos hl0];have:len=0:=by rcases Nat.mul_eq_zero.1 hl0 with h|h;exact h;omega
         subst this;simp only[bC]at hf;simp only[Sem.run_pure,andThen_ok,he];rw[mS _ _ (by simp)];have hf':Instr.fill (λi=>some (i*sz,sz)) #[] (parts.toList.map λp=>(p.1,ρ' p.2))=some cs':=hf;rw[hf'];simp[fq]
        ·rw[if_neg hl0];simp only[run_bind,jz hz,Sem.run_pure,andThen_ok,hzr,he,hf];simp[fq]
       ·cases hv
      ·cases hcs
     ·cases hv
    ·cases hv
   ·cases hv
  ·cases hv
 ·next t l c ho=>
  simp only[ho];have hl:=hρ l;have hc:=hρ c;split at hv
  ·next e l0 c0 hu hla hca=>
   rw[hla]at hl;rw[hca]at hc;split at hv
   ·next i z hi hz=>
    split at hv
    ·next hcond=>
     obtain⟨hzs,hpos,h0,h1,h2,h3⟩:=hcond;simp only[Option.some.injEq,Prod.mk.injEq]at hv;obtain⟨rfl,rfl⟩:=hv;have hrow:aG β (bC z.cells.toList c0.toNat) (bC z.cells.toList c0.toNat):=j3 (aG.lz (di hz).1) _;have hsz:aw P e=some i.size:=by simp[aw,hi]
     refine⟨_,_,dV (v:= .slice (some ⟨w.heap.size,0,none⟩) l0.toNat c0.toNat) (w':=w.alloc (.cells (bC z.cells.toList c0.toNat).toArray e)) ?_,kF hrow λβ' k sl h1' h2' h3' h4 h5 h6=>
      nw h1' h2' h3' h6 (λ_=>rfl) (λh=>absurd h (by rw[ss];omega)) (by rw[tr (by rw[ss];omega)];omega) (.inr (by rw[h5,h4,fx];simp[hzs]))⟩
     have hw1:IntKind.i64.wrap l0=l0:=by rw[wrap_i64];omega
     have hw2:IntKind.i64.wrap c0=c0:=by rw[wrap_i64];omega
     simp only[Instr.makeSlice,run_bind,ax hu,andThen_ok,hl.cz,hc.cz,asInt,asIntOf,Sem.run_pure,mU hi,hw1,hw2,run_ite];have hib:(i.bytes:Int)*c0<=140737488355328:=by rw[Int.mul_comm];exact h2
     rw[if_neg (by simp;omega)];simp only[run_askRoom,andThen_ok,cG hsz];by_cases hc0:c0.toNat*i.size=0
     ·rw[if_pos hc0];have:c0.toNat=0:=by rcases Nat.mul_eq_zero.1 hc0 with h|h;exact h;omega
      rw[mS _ _ hc0,fq,this];rfl
     ·rw[if_neg hc0];have hzr:=oW z.cells c0.toNat (by omega);rw[hzs]at hzr;simp only[jz hz,andThen_ok,hzs];rw[hzr,fq];rfl
    ·cases hv
   ·cases hv
  ·cases hv
 ·next t r ho=>
  simp only[ho];have hnew:∀v',v'=Value.map (some w.heap.size)->ks β w (.map []) (λk=> .map (some k)) v' (w.alloc (.map #[] 0)):=λv' he=>
   {
    size:=by simp,os:=rfl,tape:= .refl _,output:=rfl,kept:=λb hb=>ij _ hb
    new:=⟨⟨w.heap.size,0,0,0,0,true⟩,rfl,λβ' k _ hk=>⟨⟨rfl,#[],0,fL _,rfl,λi p e h=>by simp at h⟩,by rw[he];exact .map (sl:=⟨w.heap.size,0,0,0,0,true⟩) hk rfl⟩⟩ }
  split at hv
  ·next kt e hu=>
   split at hv
   ·simp only[Option.some.injEq,Prod.mk.injEq]at hv;obtain⟨rfl,rfl⟩:=hv;refine⟨_,_,dV (v:= .map (some w.heap.size)) (w':=w.alloc (.map #[] 0)) ?_,hnew _ rfl⟩;simp[Instr.makeMap]
   ·next x=>
    split at hv
    ·next k n hx=>
     have hxr:=hρ x;rw[hx]at hxr;simp only[Option.some.injEq,Prod.mk.injEq]at hv;obtain⟨rfl,rfl⟩:=hv;refine⟨_,_,dV (v:= .map (some w.heap.size)) (w':=w.alloc (.map #[] 0)) ?_,hnew _ rfl⟩;simp[Instr.makeMap,ax hu,hxr.cz,asInt,asIntOf]
    ·cases hv
  ·cases hv
 ·next s d x ho=>
  simp only[ho];have hx:=hρ x;split at hv
  ·next ds e s0 h1 h2 ha=>
   rw[ha]at hx;split at hv
   ·next he=>
    split at hv
    ·next hsz=>
     simp only[Option.some.injEq,Prod.mk.injEq]at hv;obtain⟨rfl,rfl⟩:=hv;have hcut:(Question.appendCap s0.size 0 e).forced=false:=rfl;obtain⟨cap,hcap,hle⟩:∃cap,(Question.appendCap s0.size 0 e).cut (w.tape w.drawn (.appendCap s0.size 0 e))=cap/\s0.size<=cap:=⟨_,rfl,by simp[Question.cut]⟩
     let cells:Array Value:=(s0.data.map λb=>Value.int .u8 b.toNat)++Array.replicate (cap-s0.size) (.int .u8 0)
     have hcs:cells.size=cap:=by simp[cells];omega
     let w1:World:=w.drew.alloc (.cells cells e)
     let w2:World:=w1.freeze ⟨w.heap.size,cap,none⟩ 1
     have hnew:w2.heap[w.heap.size]?=some (.cells cells e (cap,cap+1)):=by
      have h1:w1.heap[w.heap.size]?=some (.cells cells e):=fL (w:=w.drew) _;simp only[w2,jO _ _ (Nat.succ_ne_zero 0),if_true,h1,map_some,SF,BEq.rfl]
     refine⟨_,w2,dV (v:= .slice (some ⟨w.heap.size,0,none⟩) s0.size cap) (w':=w2) ?_,?_⟩
     ·have hsh:w1.shape? w.heap.size=some (e,cap):=by
       have h1:w1.heap[w.heap.size]?=some (.cells cells e):=fL (w:=w.drew) _;simp[World.shape?,h1,hcs]
      have hconv:(convert s d (ρ' x)).run P w=(Conv.stringToBytes e s0).run P w:=by
       rw[hx.dp];simp only[convert,run_bind,ax h1,ax h2,andThen_ok]
       cases ds<;>simp only[ax he,andThen_ok]
      rw[hconv];simp only[Conv.stringToBytes,run_bind,run_choose,hcut,false_eq_true,if_false,andThen_ok,hcap,fq];show(Sem.run P (markStringish ⟨w.heap.size,0,none⟩) w1).andThen _=_;simp only[markStringish,run_bind,run_shape,hsh,andThen_ok,run_freeze,Sem.run_pure];rfl
     ·refine{ size:= ?_,os:=rfl,tape:=⟨rfl,Nat.le_succ _⟩,output:=rfl,kept:= ?_,new:=⟨⟨w.heap.size,0,cap,e,1,false⟩,rfl,?_⟩ }
      ·simp[w2,w1,ry]
      ·intro b hb;have:w1.heap[b]?=w.heap[b]?:=ij (w:=w.drew) _ hb;simp only[w2,jO _ _ (Nat.succ_ne_zero 0)];rw[if_neg (by omega)];exact this
      ·intro β' k hle' hk;refine⟨⟨rfl,rfl,⟨rfl,λ_=>rfl⟩,cells,(cap,cap+1),hnew,hcs,?_,λ_ x h1 h2=>by rw[hcs];exact h1⟩,?_⟩
       ·intro i v hv;simp only[List.getElem?_map,map_eq_some_iff]at hv;obtain⟨b,hb,rfl⟩:=hv;refine⟨_,?_,.int _ _⟩;have hi:i<s0.data.size:=by
         have:=(List.getElem?_eq_some_iff.1 hb).1;simpa using this
        simp only[cells,Nat.zero_add];rw[Array.getElem?_append_left (by simpa using hi)];rw[getElem?_toList]at hb;simp[hb]
       ·have:s0.data.toList.length=s0.size:=by simp
        rw[this];exact nw (w:=w) hk rfl rfl rfl (λh=>absurd h (by omega)) (λ_=>by omega) (by rw[eo];exact Nat.le_refl _) (.inr (by simp))
    ·cases hv
   ·cases hv
  ·cases hv
 grind
end
section
variable {β:cp} {P:Program}
structure At(w w':World)(b:Nat):Prop where
 size:w'.heap.size=w.heap.size
 os:w'.os=w.os
 tape:jm w w'
 output:w'.output=w.output
 kept:∀b',b'≠b->w'.heap[b']?=w.heap[b']?
theorem At.refl(w:World)(b:Nat):At w w b:=⟨rfl,rfl,.refl _,rfl,λ_ _=>rfl⟩
theorem At.trans{w w₁ w₂:World}{b:Nat}(h:At w w₁ b)(h':At w₁ w₂ b):At w w₂ b:=
 ⟨h'.size.trans h.size,h'.os.trans h.os,h.tape.trans h'.tape,h'.output.trans h.output,λb' hb=>(h'.kept b' hb).trans (h.kept b' hb)⟩
theorem Step.at_{h:aa}{w w':World}(hs:fK β h w){k:Nat}{B₀ B:bt}{sl:Slot}(hk:h.get k=some B₀)(hb:β k=some sl)(hw:B₀.wr=true)(ha:At w w' sl.b)(hB:rS β B sl w'):Step β h w β (h.set k B) w':=by
 have hown:∀k' B' sl',k'≠k->h.get k'=some B'->β k'=some sl'->sl'.b≠sl.b:=λk' B' sl' hne h1 h2=>(hs.own k k' B₀ B' sl sl' (Ne.symm hne) hk h1 hb h2 hw).symm;refine⟨β.le_refl,Nat.le_refl _,⟨?_,?_,?_,aa.wf_set hs.wf B (hs.lt k sl hb).1⟩,by rw[ha.size];omega,ha.os,ha.tape,ha.output,?_,?_,λ_ _ h=> .inl h,?_⟩
 ·intro k' sl' h1;rw[ha.size];exact hs.lt k' sl' h1
 ·intro k' B' sl' h1 h2;by_cases hne:k'=k
  ·subst hne;rw[h.cF]at h1
   grind
  ·rw[h.bq k k' B hne]at h1;exact(hs.blk k' B' sl' h1 h2).of_heap (ha.kept _ (hown k' B' sl' hne h1 h2))
 ·intro k₁ k₂ B₁ B₂ sl₁ sl₂ hne h1 h2 h3 h4 h5;by_cases hk1:k₁=k
  ·subst hk1;rw[h.bq k₁ k₂ B (Ne.symm hne)]at h2
   grind
  ·rw[h.bq k k₁ B hk1]at h1;by_cases hk2:k₂=k
   ·grind
   ·rw[h.bq k k₂ B hk2]at h2;exact hs.own k₁ k₂ B₁ B₂ sl₁ sl₂ hne h1 h2 h3 h4 h5
 ·intro b hb' hn;refine ha.kept b ?_;rintro rfl;exact hn ⟨k,B₀,sl,hk,hw,hb,rfl⟩
 ·rintro b hb' ⟨k',B',sl',h1,h2,h3,h4⟩;by_cases hne:k'=k
  ·subst hne;exact⟨k',B₀,sl',hk,hw,h3,h4⟩
  ·rw[h.bq k k' B hne]at h1;exact⟨k',B',sl',h1,h2,h3,h4⟩
 ·intro k' B' h1 h2;by_cases hne:k'=k
  ·grind
  ·rw[h.bq k k' B hne]at h1;grind
def fZ(cur:Array Value)(o:Nat)(vs:List Value):Array Value:=(cur.toList.take o++vs++cur.toList.drop (o+vs.length)).toArray
theorem DW(cur:Array Value)(o:Nat):fZ cur o []=cur:=by grind[fZ]
theorem m3{cur:Array Value}{o:Nat}{vs:List Value}(h:o+vs.length<=cur.size):(fZ cur o vs).size=cur.size:=by grind[fZ]
theorem BW{cur:Array Value}{o:Nat}{v:Value}{vs:List Value}(h:o+(vs.length+1)<=cur.size):fZ (cur.setIfInBounds o v) (o+1) vs=fZ cur o (v::vs):=by
 have ho:o<cur.toList.length:=by simp;omega
 have h1:(cur.toList.set o v).take (o+1)=cur.toList.take o++[v]:=by
  rw[List.take_succ_eq_append_getElem (by simpa using ho),List.take_set_of_le (Nat.le_refl _)];simp
 have h2:(cur.toList.set o v).drop (o+1+vs.length)=cur.toList.drop (o+(vs.length+1)):=by
  rw[List.drop_set_of_lt (by omega)];congr 1;omega
 simp_all[fZ]
theorem DR(w:World){b o:Nat}{cur:Array Value}{t:TypeId}{fr:Nat×Nat}(v:Value)(hw:w.heap[b]?=some (.cells cur t fr)):
  At w (w.setCell ⟨b,o,none⟩ v) b/\(w.setCell ⟨b,o,none⟩ v).heap[b]?=some (.cells (cur.setIfInBounds o v) t fr):=by
 refine⟨⟨by simp[World.setCell],rfl,⟨rfl,Nat.le_refl _⟩,rfl,λb' hb=>?_⟩,?_⟩
 all_goals simp_all[Array.getElem?_modify,Ne.symm,World.setCell]
theorem lB(b o:Nat)(t:TypeId)(fr:Nat×Nat):∀(vs:List Value)(i:Nat)(cur:Array Value)(w:World),w.heap[b]?=some (.cells cur t fr)->La fr cur.size->o+i+vs.length<=cur.size->
  (∀v∈vs,v.oneCell'=true)->∃w',(storeCells ⟨b,o,none⟩ vs i).run P w = .ok () w'/\At w w' b/\w'.heap[b]?=some (.cells (fZ cur (o+i) vs) t fr)
 |[],i,cur,w,hw,_,_,_=>⟨w,rfl,At.refl w b,by grind[DW]⟩
 | v::vs,i,cur,w,hw,hf,hl,h1=>by
  simp only[List.length_cons]at hl;have hc:w.cell? ⟨b,o+i,none⟩=some cur[o+i]:=by rw[kJ hw];exact getElem?_eq_getElem (by omega)
  have hfr:w.frozen? ⟨b,o+i,none⟩=false:=by
   simp only[World.frozen?,hw];rw[Bool.and_eq_false_iff];by_cases h2:fr.1<=o+i
   ·right;simp only[decide_eq_false_iff_not];intro h3;have:=hf _ h2 h3;omega
   ·left;simpa using h2
  have hst:(store ((⟨b,o,none⟩:Addr).add i) v).run P w = .ok () (w.setCell ⟨b,o+i,none⟩ v):=by
   rw[bZ,run_store P w _ v .plain (h1 v List.mem_cons_self),hc];simp[hfr]
  obtain⟨ha,hw'⟩:=DR w (o:=o+i) v hw;obtain⟨w',hr,ha',hh⟩:=lB b o t fr vs (i+1) _ _ hw' (by simpa using hf) (by simp;omega) λu hu=>h1 u (List.mem_cons_of_mem _ hu);refine⟨w',?_,ha.trans ha',?_⟩
  all_goals grind[run_bind,andThen_ok,BW,storeCells]
theorem aG.scalars{l l':List Value}(h:aG β l l')(hs:l.all cH=true):∀v∈l',v.oneCell'=true:=λv hv=>by
 obtain⟨i,hi,rfl⟩:=List.mem_iff_getElem.1 hv;have hi':i<l.length:=h.1▸hi;exact((h.2 i _ _ (gE hi') (gE hi)).DM (all_eq_true.1 hs _ (List.getElem_mem hi'))).1
theorem eO.fZ{cs vs vs':List Value}{s i:Nat}{cs':Array Value}(hc:eO β cs s cs')(hv:aG β vs vs')(hi:i+vs.length<=cs.length)(hl:s+i+vs.length<=cs'.size):
  eO β (cs.take i++vs++cs.drop (i+vs.length)) s (Ab.fZ cs' (s+i) vs'):=by
 have hlen:vs'.length=vs.length:=hv.1.symm;intro j v hj;have hsp:∀j,(Ab.fZ cs' (s+i) vs')[s+j]?=if j<i then cs'[s+j]? else if j<i+vs.length then vs'[j-i]? else cs'[s+j]?:=by
  intro j;simp only[Ab.fZ,List.getElem?_toArray];by_cases h1:j<i
  ·grind
  ·rw[if_neg h1];by_cases h2:j<i+vs.length
   ·rw[if_pos h2,getElem?_append_left (by simp;omega),getElem?_append_right (by simp;omega)]
    grind
   ·rw[if_neg h2,getElem?_append_right (by simp;omega),getElem?_drop,getElem?_toList]
    grind
 rw[hsp];by_cases h1:j<i
 ·rw[if_pos h1];rw[List.append_assoc,getElem?_append_left (by grind),getElem?_take,if_pos h1]at hj;exact hc j v hj
 ·rw[if_neg h1];by_cases h2:j<i+vs.length
  ·rw[if_pos h2];rw[getElem?_append_left (by grind),getElem?_append_right (by grind)]at hj;have:j-(cs.take i).length=j-i:=by simp;omega
   rw[this]at hj;exact hv.get hj
  ·rw[if_neg h2];rw[getElem?_append_right (by grind),getElem?_drop]at hj;have:i+vs.length+(j-(cs.take i++vs).length)=j:=by simp;omega
   rw[this]at hj;exact hc j v hj
theorem ny{h:aa}{w:World}(hs:fK β h w){k i:Nat}{sl:Slot}{vs vs':List Value}{u:cL}(hst:storeAt h k i vs=some u)(hb:β k=some sl)(hv:aG β vs vs'):
  ∃w',(storeCells ⟨sl.b,sl.s+i,none⟩ vs').run P w = .ok () w'/\Step β h w β (u.app h) w':=by
 unfold storeAt at hst;split at hst
 ·next cs t sz hk=>
  split at hst
  ·next hc=>
   obtain⟨hl,hsc⟩:=hc;obtain rfl:=oI hst;obtain⟨hm,ht,hz,cs',fr,hw,hn,hcells,hfr⟩:=hs.blk k _ sl hk hb;by_cases he:vs=[]
   ·subst he;have:=hv.dg;subst this;refine⟨w,rfl,Step.at_ hs hk hb rfl (At.refl w _) ?_⟩;simp only[List.append_nil,List.length_nil,Nat.add_zero,List.take_append_drop];exact⟨hm,ht,hz,cs',fr,hw,hn,hcells,hfr⟩
   ·have hpos:0<vs.length:=List.length_pos_iff.2 he;have hbound:sl.s+i+vs.length<=cs'.size:=by
     obtain⟨v',h1,_⟩:=hcells (i+vs.length-1) _ (gE (by omega));have:=(Array.getElem?_eq_some_iff.1 h1).1;omega
    obtain⟨w',hr,ha,hh⟩:=lB (P:=P) sl.b (sl.s+i) t fr vs' 0 cs' w hw (hfr rfl) (by rw[<-hv.1];omega) (hv.scalars hsc);refine⟨w',hr,Step.at_ hs hk hb rfl ha ⟨hm,ht,hz,_,fr,hh,?_,hcells.fZ hv hl hbound,λ_=>?_⟩⟩
    ·rw[m3 (by rw[<-hv.1];omega)];exact hn
    ·rw[m3 (by rw[<-hv.1];omega)];exact hfr rfl
  ·cases hst
 grind
end
section
variable {β:cp} {P:Program}
theorem zl{e:TypeId}{i:TypeInfo}(h:e9 P e=some i):P.info? e=some i/\0<i.size/\∃z,i.zero=some z/\z.cells.size=i.size/\zeroOf P e=some z:=by
 unfold e9 at h;split at h
 ·next i' z hi hz=>
  split at h
  ·next hc=>
   obtain rfl:=oI h;obtain⟨_,j,hj,hjz⟩:=di hz;rw[hi]at hj;obtain rfl:=oI hj;exact⟨hi,hc.2,z,hjz,hc.1,hz⟩
  ·cases h
 grind
theorem lE{h:aa}{w:World}(hs:fK β h w){sz:Nat}{x x':Value}{news:List Value}{m:Nat}(hx:fw h sz x=some (news,m))(hv:au β x x'):
  (∀w,(Builtin.lenOf x').run P w = .ok m w)/\∀j,j<=m->∃l',(∀w',(∀b,b<w.heap.size->w'.heap[b]?=w.heap[b]?)->(Builtin.firstCells sz j x').run P w' = .ok l'.toArray w')/\aG β (news.take (j*sz)) l':=by
 unfold fw at hx;split at hx
 ·simp only[Option.some.injEq,Prod.mk.injEq]at hx;obtain⟨rfl,rfl⟩:=hx;obtain⟨_,_,rfl⟩:=hv.dD;refine⟨λw=>rfl,λj hj=>⟨[],λw' _=>by simp[Builtin.firstCells],by simp;exact .nil β⟩⟩
 ·simp only[Option.some.injEq,Prod.mk.injEq]at hx;obtain⟨rfl,rfl⟩:=hx
  cases hv
  refine⟨λw=>rfl,λj hj=>⟨[],λw' _=>?_,by simp;exact .nil β⟩⟩;obtain rfl:j=0:=by omega
  simp[Builtin.firstCells,loadCells,loadCellsFrom]
 ·next k i n c=>
  split at hx
  ·next cs t sz' wr hk=>
   split at hx
   ·next hl=>
    simp only[Option.some.injEq,Prod.mk.injEq]at hx;obtain⟨rfl,rfl⟩:=hx;obtain⟨sl,i',c',hb,hm,_,rfl,hx1,ho1,hn1,hi1,hz1⟩:=hv.eK;obtain⟨_,_,_,cs',fr,hw,hn,hcells,_⟩:=hs.row hk hb;refine⟨λw=>rfl,λj hj=>?_⟩;by_cases hj0:j=0
    ·subst hj0;exact⟨[],λw' _=>by simp[Builtin.firstCells,loadCells,loadCellsFrom],by simp;exact .nil β⟩
    ·have hi2:i'=sl.s+i:=by rcases hi1 with h1|⟨h1,h2⟩;exact h1;exact absurd h1 (by omega)
     subst hi2;have hjs:j*sz<=n*sz:=Nat.mul_le_mul_right _ hj;have hl':((cs.drop i).take (j*sz)).length=j*sz:=by
      simp only[List.length_take,List.length_drop]at hl⊢;omega
     have hlt:=(hs.lt k sl hb).2;have key:=nu (P:=P) hw hcells i (j*sz) hl';obtain⟨l',hr,hrel⟩:=key;refine⟨l',λw' hw'=>?_,?_⟩
     ·obtain⟨l2,hr2,hrel2⟩:=nu (P:=P) (w:=w') (by rw[hw' _ hlt];exact hw) hcells i (j*sz) hl';have:(loadCells ⟨sl.b,sl.s+i,none⟩ (j*sz)).run P w' = .ok l'.toArray w':=by
       have e1:∀q,q<j*sz->w.cell? ((⟨sl.b,sl.s+i,none⟩:Addr).add q)=some (l'.getD q undef):=by
        intro q hq;have hlen:l'.length=j*sz:=by rw[<-hrel.1,hl']
        have hq':q<((cs.drop i).take (j*sz)).length:=by omega
        have hg:=gE hq';rw[getElem?_take,if_pos hq,getElem?_drop]at hg;obtain⟨v',h1,_⟩:=hcells _ _ hg;have h2:=run_loadCells (P:=P) w ⟨sl.b,sl.s+i,none⟩ (j*sz) (λq=>cs'.getD (sl.s+(i+q)) undef) (by
         intro q2 hq2;have hq3:q2<((cs.drop i).take (j*sz)).length:=by omega
         have hg2:=gE hq3;rw[getElem?_take,if_pos hq2,getElem?_drop]at hg2;obtain⟨v2,h3,_⟩:=hcells _ _ hg2;rw[bZ,kJ hw,show sl.s+i+q2=sl.s+(i+q2) by omega,h3];simp[Array.getD_eq_getD_getElem?,h3])
        rw[hr]at h2;simp only[Result.ok.injEq,and_true]at h2;have h4:l'=(List.range (j*sz)).map λq=>cs'.getD (sl.s+(i+q)) undef:=by simpa using congrArg Array.toList h2
        rw[bZ,kJ hw,show sl.s+i+q=sl.s+(i+q) by omega,h1,h4];simp[List.getD,hq,Array.getD_eq_getD_getElem?,h1]
       have hlen:l'.length=j*sz:=by rw[<-hrel.1,hl']
       have e2:=run_loadCells (P:=P) w' ⟨sl.b,sl.s+i,none⟩ (j*sz) (λq=>l'.getD q undef) (by
        intro q hq;have:w'.cell? ((⟨sl.b,sl.s+i,none⟩:Addr).add q)=w.cell? ((⟨sl.b,sl.s+i,none⟩:Addr).add q):=by
         rw[bZ];simp[World.cell?,hw' _ hlt]
        rw[this];exact e1 q hq)
       rw[e2];congr 2;apply List.ext_getElem?;intro q;by_cases hq:q<j*sz
       ·simp[hq,List.getD,gE (show q<l'.length by omega)]
       ·rw[List.getElem?_eq_none (by simp;omega),List.getElem?_eq_none (by omega)]
      exact this
     ·rw[List.take_take,Nat.min_eq_left hjs];exact hrel
   ·cases hx
  ·cases hx
 ·next s=>
  split at hx
  ·next hsz=>
   subst hsz;simp only[Option.some.injEq,Prod.mk.injEq]at hx;obtain⟨rfl,rfl⟩:=hx
   cases hv.dp
   refine⟨λw=>by simp[Builtin.lenOf],λj hj=>⟨(s.data.toList.map λb=>Value.int .u8 b.toNat).take j,λw' _=>?_,?_⟩⟩
   ·simp only[Builtin.firstCells,Sem.run_pure];congr 1;apply Array.ext';simp[ByteArray.data_extract,Array.toList_extract]
   ·rw[Nat.mul_one,<-List.map_take];exact aG.map _ λb _=> .int _ _
  ·cases hx
 grind
theorem m5{t':TypeId}(h:dm P t'=true):P.underlying t'=some .string\/ ∃e,P.underlying t'=some (.slice e):=by grind[dm]
theorem iq{t t' ty e:TypeId}{i:TypeInfo}(ht:P.underlying t=some (.slice e))(hi:P.info? e=some i)(ht':dm P t'=true){base:Option Addr}{n c m:Nat}{x':Value}{news:List Value}{w w':World}
  (hm:∀w,(Builtin.lenOf x').run P w = .ok m w) (hn:(Builtin.firstCells i.size m x').run P w = .ok news.toArray w) (hc:n+m<=c)
  (hst:(match base with|some a=>storeCells (a.add (n*i.size)) news|none=>pure ():Sem Unit).run P w = .ok () w'):
  (Builtin.append_ #[t,t'] ty #[.slice base n c,x']).run P w = .ok (.slice base (n+m) c) w':=by
 have h0:(#[t,t']:Array TypeId)[0]?=some t:=rfl;have h1:(#[t,t']:Array TypeId)[1]?=some t':=rfl;have h2:(#[Value.slice base n c,x']:Array Value)[0]?=some (.slice base n c):=rfl;have h3:(#[Value.slice base n c,x']:Array Value)[1]?=some x':=rfl;have hrs:∀w,(sizeOf e).run P w = .ok i.size w:=cG (by grind[aw]);rcases m5 ht' with hu|⟨e',hu⟩
 all_goals
  simp only[Builtin.append_,h0,h1,h2,h3,run_bind,ax ht,andThen_ok,hrs,ax hu,Sem.run_pure,false_eq_true,if_false,hm,run_ite];rw[if_pos hc];simp only[Bool.not_false,if_true,hn,andThen_ok]
  cases base with
  |none=>simp_all
  |some a=>simp_all
theorem jx{t t' ty e:TypeId}{i:TypeInfo}{z:Value}(ht:P.underlying t=some (.slice e))(hi:P.info? e=some i)(hz:i.zero=some z)(ht':dm P t'=true){base:Option Addr}{n c m:Nat}{x':Value}
  {olds news:List Value} {w:World} (hm:∀w,(Builtin.lenOf x').run P w = .ok m w) (ho:(Builtin.firstCells i.size n (.slice base n c)).run P w.drew = .ok olds.toArray w.drew)
  (hn:(Builtin.firstCells i.size m x').run P w.drew = .ok news.toArray w.drew) (hc:c<n+m) (hb:(n+m)*i.bytes<=70368744177664) (hl:n+m<=1099511627776):
  (Builtin.append_ #[t,t'] ty #[.slice base n c,x']).run P w = .ok (.slice (some ⟨w.heap.size,0,none⟩) (n+m) (grownCap w (n+m) c e))
   (w.drew.alloc (.cells (olds++news++(Builtin.zeroCells z.cells (grownCap w (n+m) c e-(n+m))).toList).toArray e)):=by
 have h0:(#[t,t']:Array TypeId)[0]?=some t:=rfl;have h1:(#[t,t']:Array TypeId)[1]?=some t':=rfl;have h2:(#[Value.slice base n c,x']:Array Value)[0]?=some (.slice base n c):=rfl;have h3:(#[Value.slice base n c,x']:Array Value)[1]?=some x':=rfl;have hrs:∀w,(sizeOf e).run P w = .ok i.size w:=cG (by grind[aw]);have hrz:∀w,(zeroValue e).run P w = .ok z w:=λw=>by simp_all[mU,zeroValue]
 have hfit:=growslice_fits (need:=n+m) (old:=c) (bytes:=i.bytes) hc (by omega);have hcut:(Question.appendCap (n+m) c e).forced=false:=rfl;have hmax:IntKind.i64.max=9223372036854775807:=by decide
 rcases m5 ht' with hu|⟨e',hu⟩
 all_goals
  simp only[Builtin.append_,h0,h1,h2,h3,run_bind,ax ht,andThen_ok,hrs,ax hu,Sem.run_pure,false_eq_true,if_false,hm,run_ite,mU hi,false_or,Bool.not_false,if_true];rw[if_neg (by omega),if_neg (by omega),if_neg (by omega)];simp only[run_choose,hcut,false_eq_true,if_false,andThen_ok,run_askRoom,World.drew_eq,ho,hn,hrz,fq];congr 2
  simp_all[grownCap]
theorem Fa{h:aa}{w:World}(hs:fK β h w)(k:Nat):fK β (h.del k) w:=
 ⟨λk' sl hk=>hs.lt k' sl hk,λk' B sl h1 h2=>by
  rw[h.de]at h1;split at h1
  ·grind
  ·exact hs.blk k' B sl h1 h2,λk₁ k₂ B₁ B₂ sl₁ sl₂ hne h1 h2 h3 h4 h5=>by
  rw[h.de]at h1 h2;split at h1
  ·grind
  ·split at h2
   ·grind
   ·exact hs.own k₁ k₂ B₁ B₂ sl₁ sl₂ hne h1 h2 h3 h4 h5,aa.Ea hs.wf k⟩
theorem JN{h:aa}{w:World}(hs:fK β h w)(k:Nat):Step β h w β (h.del k) w:=
 ⟨β.le_refl,Nat.le_refl _,Fa hs k,Nat.le_refl _,rfl,.refl _,rfl,λ_ _ _=>rfl,λb hb ⟨k',B,sl,h1,h2,h3,h4⟩=>⟨k',B,sl,by
  rw[h.de]at h1;grind,h2,h3,h4⟩,λ_ _ h=> .inl h,λk' B h1 h2=>⟨B,by
  rw[h.de]at h1;grind⟩⟩
theorem G1{h:aa}{w w':World}(hs:fK β h w){k:Nat}{B₀ B:bt}{sl sl':Slot}(hk:h.get k=some B₀)(hb:β k=some sl)(hw:B₀.wr=true)(ha:At w w' sl.b)(hsl:sl'.b=sl.b)
  (hB:rS (β.ext h.next sl') B sl' w'):Step β h w (β.ext h.next sl') ((h.del k).push B) w':=by
 have hlt:=(hs.lt k sl hb).1;have hnone:=hs.gZ (Nat.le_refl h.next);have hle:β.le (β.ext h.next sl'):=cp.tZ sl' hnone;have hget:∀k',k'≠h.next->∀B',((h.del k).push B).get k'=some B'->k'≠k/\h.get k'=some B':=by
  intro k' hne B' hg;rw[(h.del k).fh k' B hne,h.de]at hg;split at hg
  ·cases hg
  ·next hne2=>exact⟨hne2,hg⟩
 have hnew:((h.del k).push B).get h.next=some B:=(h.del k).ig B;have hown:∀k' B' sl'',k'≠k->h.get k'=some B'->β k'=some sl''->sl''.b≠sl.b:=λk' B' sl'' hne h1 h2=>(hs.own k k' B₀ B' sl sl'' (Ne.symm hne) hk h1 hb h2 hw).symm;refine⟨hle,by simp,⟨?_,?_,?_,aa.j0 (h:=h.del k) (aa.Ea hs.wf k) B⟩,by rw[ha.size];exact Nat.le_refl _,ha.os,ha.tape,ha.output,?_,?_,?_,?_⟩
 ·intro k' sl'' h1;rw[ha.size];by_cases hne:k'=h.next
  ·subst hne;rw[β.bH]at h1;obtain rfl:=oI h1;exact⟨by simp,by rw[hsl];exact(hs.lt k sl hb).2⟩
  ·rw[β.cR sl' hne]at h1;have:=hs.lt k' sl'' h1;exact⟨by simp;omega,this.2⟩
 ·intro k' B' sl'' h1 h2;by_cases hne:k'=h.next
  ·subst hne;rw[β.bH]at h2;obtain rfl:=oI h2;rw[hnew]at h1;obtain rfl:=oI h1;exact hB
  ·rw[β.cR sl' hne]at h2;obtain⟨hne2,h1⟩:=hget k' hne B' h1;exact((hs.blk k' B' sl'' h1 h2).mono hle).of_heap (ha.kept _ (hown k' B' sl'' hne2 h1 h2))
 ·intro k₁ k₂ B₁ B₂ sl₁ sl₂ hne h1 h2 h3 h4 h5;by_cases hk1:k₁=h.next
  ·subst hk1;rw[β.bH]at h3;obtain rfl:=oI h3;rw[β.cR _ (Ne.symm hne)]at h4;obtain⟨hne2,h2⟩:=hget k₂ (Ne.symm hne) B₂ h2;rw[hsl];exact(hown k₂ B₂ sl₂ hne2 h2 h4).symm
  ·rw[β.cR _ hk1]at h3;obtain⟨hne1,h1⟩:=hget k₁ hk1 B₁ h1;by_cases hk2:k₂=h.next
   ·subst hk2;rw[β.bH]at h4;obtain rfl:=oI h4;rw[hsl];exact hown k₁ B₁ sl₁ hne1 h1 h3
   ·rw[β.cR _ hk2]at h4;obtain⟨_,h2⟩:=hget k₂ hk2 B₂ h2;exact hs.own k₁ k₂ B₁ B₂ sl₁ sl₂ hne h1 h2 h3 h4 h5
 ·intro b hb' hn;refine ha.kept b ?_;rintro rfl;exact hn ⟨k,B₀,sl,hk,hw,hb,rfl⟩
 ·rintro b hb' ⟨k',B',sl'',h1,h2,h3,h4⟩;by_cases hne:k'=h.next
  ·subst hne;rw[β.bH]at h3;obtain rfl:=oI h3;exact⟨k,B₀,sl,hk,hw,hb,by rw[<-h4,hsl]⟩
  ·rw[β.cR _ hne]at h3;obtain⟨_,h1⟩:=hget k' hne B' h1;exact⟨k',B',sl'',h1,h2,h3,h4⟩
 ·intro k' sl'' h1;by_cases hne:k'=h.next
  ·subst hne;rw[β.bH]at h1;obtain rfl:=oI h1;exact .inr ⟨Nat.le_refl _,.inr ⟨k,B₀,sl,hk,hw,hb,hsl.symm⟩⟩
  ·rw[β.cR _ hne]at h1;exact .inl h1
 grind
theorem DU(z:Array Value)(n:Nat):(Builtin.zeroCells z n).size=n*z.size:=by simp[Builtin.zeroCells]
theorem kD{w:World}{e:TypeId}{sz need cap:Nat}{vs vs':List Value}{z:Array Value}(hv:aG β vs vs')(hl:vs.length=need*sz)(hz:z.size=sz)(hc:need<=cap):
  ks β w (.cells vs e sz true) (λk=> .slice (some ⟨k,0,none⟩) need (bR+need)) (.slice (some ⟨w.heap.size,0,none⟩) need cap) (w.drew.alloc (.cells (vs'++(Builtin.zeroCells z (cap-need)).toList).toArray e)) where
 size:=by simp
 os:=rfl
 tape:=⟨rfl,Nat.le_succ _⟩
 output:=rfl
 kept:=λb hb=>ij (w:=w.drew) _ hb
 new:=by
  have hsz:(vs'++(Builtin.zeroCells z (cap-need)).toList).toArray.size=cap*sz:=by
   simp only[List.size_toArray,List.length_append,Array.length_toList,DU,hz,<-hv.1,hl,<-add_mul];congr 1;omega
  refine⟨⟨w.heap.size,0,cap*sz,e,sz,false⟩,rfl,λβ' k hle hk=>⟨⟨rfl,rfl,⟨rfl,λ_=>rfl⟩,_,(0,0),fL (w:=w.drew) _,hsz,?_,λ_=>wQ _⟩,?_⟩⟩
  ·intro i v hi;obtain⟨v',h1,h2⟩:=hv.get hi;refine⟨v',?_,h2.mono hle⟩
   grind
  ·exact nw (w:=w) hk rfl rfl rfl (λh=>absurd h (by omega)) (λ_=>by omega) (by simp[eo]) (.inr (Nat.le_refl _))
end
section
variable {β:cp} {P:Program}
theorem vT{l l':List Value}{n:Nat}(h:aG β (l.take n) l')(hl:l.length=n):aG β l l':=by grind
theorem kT(w:World)(need old:Nat)(e:TypeId):need<=grownCap w need old e:=by simp[grownCap,Question.cut]
theorem GC{h:aa}{w:World}(hs:fK β h w){k j n c:Nat}{cs:List Value}{e:TypeId}{sz:Nat}{wr:Bool}{s':Value}(hk:h.get k=some (.cells cs e sz wr))(hl:((cs.drop j).take (n*sz)).length=n*sz)
  (hv:au β (.slice (some ⟨k,j,none⟩) n c) s'):∃l',(∀w',(∀b,b<w.heap.size->w'.heap[b]?=w.heap[b]?)->(Builtin.firstCells sz n s').run P w' = .ok l'.toArray w')/\aG β ((cs.drop j).take (n*sz)) l':=by
 have hx:fw h sz (.slice (some ⟨k,j,none⟩) n c)=some ((cs.drop j).take (n*sz),n):=by
  simp only[fw,hk];rw[if_pos hl]
 obtain⟨_,h2⟩:=lE (P:=P) hs hx hv;obtain⟨l',h3,h4⟩:=h2 n (Nat.le_refl _)
 grind
set_option maxHeartbeats 1000000 in
theorem CI{h:aa}{w:World}(hs:fK β h w){t t' ty:TypeId}{s x s' x' v:Value}{u:cL}(hv:aY P t t' s x h=some (v,u))(hvs:au β s s')(hvx:au β x x'):
  ∃v' w' β',(Builtin.append_ #[t,t'] ty #[s',x']).run P w = .ok v' w'/\Step β h w β' (u.app h) w'/\au β' v v':=by
 unfold aY at hv;split at hv
 ·next e ht=>
  split at hv
  ·next i hre=>
   obtain⟨hi,hpos,z,hz,hzs,hzz⟩:=zl hre;split at hv
   ·next htl=>
    split at hv
    ·next news m hsrc=>
     obtain⟨hlen,hcells⟩:=lE (P:=P) hs hsrc hvx;obtain⟨news',hrn,hrel⟩:=hcells m (Nat.le_refl _);split at hv
     ·next hnc=>
      obtain⟨hsc,hnl⟩:=hnc;have hrel:=vT hrel hnl;have hnl':news'.length=m*i.size:=by rw[<-hrel.1,hnl]
      have hrn0:=hrn w λ_ _=>rfl;have hrnd:=hrn w.drew λ_ _=>rfl;split at hv
      ·obtain⟨_,_,rfl⟩:=hvs.dD;split at hv
       ·next hm0=>
        simp only[Option.some.injEq,Prod.mk.injEq]at hv;obtain⟨rfl,rfl⟩:=hv;subst hm0;refine⟨_,w,β,iq ht hi htl hlen hrn0 (Nat.le_refl _) (by simp),Step.refl hs,.mO⟩
       ·next hm0=>
        split at hv
        ·next hb=>
         simp only[Option.some.injEq,Prod.mk.injEq]at hv;obtain⟨rfl,rfl⟩:=hv;have hrun:=jx (ty:=ty) (n:=0) (c:=0) (base:=none) (olds:=[]) ht hi hz htl hlen (by simp[Builtin.firstCells]) hrnd (by omega) (by simpa using hb.1) (by omega);have hal:=kD (β:=β) (w:=w) (e:=e) (need:=m) (cap:=grownCap w (0+m) 0 e) (z:=z.cells) hrel hnl hzs (by have:=kT w (0+m) 0 e;omega);simp only[Nat.zero_add,List.nil_append]at hrun hal;obtain⟨β',hst,hvr⟩:=hal.step hs;exact⟨_,_,β',hrun,hst,hvr⟩
        ·cases hv
      ·next k j n c=>
       obtain⟨sl,i',c',hb,hmp,_,rfl,hx1,ho1,hn1,hi1,hz1⟩:=hvs.eK;have hcap:aX c<=c':=by
        unfold aX;split
        ·next hc=>exact ho1 hc
        ·next hc=>rw[hx1 (by omega)];exact Nat.le_refl _
       split at hv
       ·next hm0=>
        simp only[Option.some.injEq,Prod.mk.injEq]at hv;obtain⟨rfl,rfl⟩:=hv;subst hm0;have:news'=[]:=List.eq_nil_of_length_eq_zero (by simpa using hnl');subst this;exact⟨_,w,β,iq ht hi htl hlen hrn0 (by omega) (by simp[storeCells]),Step.refl hs,hvs⟩
       ·next hm0=>
        split at hv
        ·next hroom=>
         obtain⟨u',hst,he⟩:=map_eq_some_iff.1 hv;simp only[Prod.mk.injEq]at he;obtain⟨rfl,rfl⟩:=he;have hi2:i'=sl.s+j:=by rcases hi1 with h1|⟨h1,h2⟩;exact h1;exact absurd h2 (by omega)
         subst hi2;obtain⟨w',hr,hstep⟩:=ny (P:=P) hs hst hb hrel;refine⟨_,w',β,iq ht hi htl hlen hrn0 (by omega) ?_,hstep,.slice hb hmp hx1 ho1 hroom (.inl rfl) hz1⟩;dsimp only;rw[bZ,add_assoc];exact hr
        ·next hroom=>
         unfold gQ at hv;split at hv
         ·next hbd=>
          split at hv
          ·next cs e' sz' wr hk=>
           split at hv
           ·next hcond=>
            obtain⟨rfl,rfl,hol⟩:=hcond;obtain⟨olds',hro,horel⟩:=GC (P:=P) hs hk hol hvs;have hrod:=hro w.drew λ_ _=>rfl;have hall:aG β ((cs.drop j).take (n*i.size)++news) (olds'++news'):=horel.append hrel;have hal0:((cs.drop j).take (n*i.size)++news).length=(n+m)*i.size:=by rw[List.length_append,hol,hnl,add_mul]
            split at hv
            ·next hcx=>
             simp only[Option.some.injEq,Prod.mk.injEq]at hv;obtain⟨rfl,rfl⟩:=hv;have hcc:c'=c:=hx1 hcx;subst hcc;rw[tr hcx]at hroom;have hrun:=jx (ty:=ty) ht hi hz htl hlen hrod hrnd (by omega) hbd.1 hbd.2;have hal:=kD (β:=β) (w:=w) (e:=e') (z:=z.cells) hall hal0 hzs (kT w (n+m) c' e');obtain⟨β',hst,hvr⟩:=hal.step hs;exact⟨_,_,β',hrun,hst,hvr⟩
            ·next hcx=>
             split at hv
             ·next hwr=>
              obtain⟨rfl,hcl⟩:=hwr;simp only[Option.some.injEq,Prod.mk.injEq]at hv;obtain⟨rfl,rfl⟩:=hv;by_cases hin:n+m<=c'
              ·have hi2:i'=sl.s+j:=by rcases hi1 with h1|⟨h1,h2⟩;exact h1;exact absurd h2 (by omega)
               subst hi2;obtain⟨_,hslt,hslz,cs',fr,hw,hn,hcel,hfr⟩:=hs.row hk hb;have hext:sl.s+j+c'*i.size<=sl.n:=by
                rcases hz1 with h1|h1
                ·omega
                ·rw[hslz]at h1;exact h1
               have hmul:(n+m)*i.size<=c'*i.size:=Nat.mul_le_mul_right _ hin;rw[add_mul]at hmul;obtain⟨w',hr,ha,hh⟩:=lB (P:=P) sl.b (sl.s+j+n*i.size) e' fr news' 0 cs' w hw (hfr rfl) (by rw[hnl',hn];omega) (hrel.scalars hsc);have hsz2:(Ab.fZ cs' (sl.s+j+n*i.size+0) news').size=cs'.size:=m3 (by rw[hnl',hn];omega);refine⟨_,w',β.ext h.next ⟨sl.b,sl.s+j,sl.n,e',i.size,false⟩,iq ht hi htl hlen hrn0 hin ?_,G1 (sl':=⟨sl.b,sl.s+j,sl.n,e',i.size,false⟩) hs hk hb rfl ha rfl ?_,?_⟩
               ·dsimp only;rw[bZ];exact hr
               ·have hle:β.le (β.ext h.next ⟨sl.b,sl.s+j,sl.n,e',i.size,false⟩):=cp.tZ _ (hs.gZ (Nat.le_refl _));refine⟨rfl,rfl,⟨rfl,λh0=>absurd h0 (by omega)⟩,_,fr,hh,by rw[hsz2];exact hn,?_,λ_=>by rw[hsz2];exact hfr rfl⟩;intro q u hq;simp only[Ab.fZ,Nat.add_zero,List.getElem?_toArray];by_cases hq1:q<n*i.size
                ·rw[getElem?_append_left (by rw[hol];exact hq1),getElem?_take,if_pos hq1,getElem?_drop]at hq;obtain⟨u',h1,h2⟩:=hcel _ _ hq;refine⟨u',?_,h2.mono hle⟩;have hlt:=(Array.getElem?_eq_some_iff.1 h1).1;rw[List.append_assoc,getElem?_append_left (by simp;omega),getElem?_take,if_pos (by omega),getElem?_toList,add_assoc];exact h1
                ·have hq2:=(List.getElem?_eq_some_iff.1 hq).1;rw[hal0,add_mul]at hq2;rw[getElem?_append_right (by rw[hol];omega),hol]at hq;obtain⟨u',h1,h2⟩:=hrel.get hq;refine⟨u',?_,h2.mono hle⟩;rw[getElem?_append_left (by simp;omega),getElem?_append_right (by simp;omega)];have:sl.s+j+q-(cs'.toList.take (sl.s+j+n*i.size)).length=q-n*i.size:=by simp;omega
                 rw[this];exact h1
               ·exact .slice (sl:=⟨sl.b,sl.s+j,sl.n,e',i.size,false⟩) (β.bH _ _) rfl (λh=>absurd h (by omega)) (λ_=>by omega) (by rw[eo];exact Nat.le_refl _) (.inl rfl) (.inr hext)
              ·have hrun:=jx (ty:=ty) ht hi hz htl hlen hrod hrnd (by omega) hbd.1 hbd.2;have hal:=kD (β:=β) (w:=w) (e:=e') (z:=z.cells) hall hal0 hzs (kT w (n+m) c' e');obtain⟨β',hst,hvr⟩:=hal.step (Fa hs k);exact⟨_,_,β',hrun,(JN hs k).trans hst,hvr⟩
             ·cases hv
           ·cases hv
          ·cases hv
         ·cases hv
      ·cases hv
     ·cases hv
    ·cases hv
   ·cases hv
  ·cases hv
 grind
end
section
variable {β:cp} {P:Program}
theorem H3{h:aa}{w:World}(hs:fK β h w){t:TypeId}{ts:List TypeId}{ty:TypeId}{d s d' s' v:Value}{u:cL}(hv:copyV P t d s h=some (v,u))(hd:au β d d')(hsr:au β s s'):
  ∃v' w' β',(Builtin.copy_ (t::ts).toArray ty #[d',s']).run P w = .ok v' w'/\Step β h w β' (u.app h) w'/\au β' v v':=by
 unfold copyV at hv;split at hv
 ·next e ht=>
  split at hv
  ·next sz a n c hsz=>
   split at hv
   ·next cs m hsrc=>
    obtain⟨hlen,hcells⟩:=lE (P:=P) hs hsrc hsr;have h0:(t::ts).toArray[0]?=some t:=rfl;have h1:(#[d',s']:Array Value)[0]?=some d':=rfl;have h2:(#[d',s']:Array Value)[1]?=some s':=rfl;obtain⟨cs',hrc,hrel⟩:=hcells (min m n) (Nat.min_le_left _ _);have hrc0:=hrc w λ_ _=>rfl;have hmin:Nat.min m n=min m n:=rfl;have hdf:∃a' c',d' = .slice a' n c':=by
     cases a with
     |none=>obtain⟨rfl,rfl,rfl⟩:=hd.dD;exact⟨_,_,rfl⟩
     |some a=>obtain⟨a',c',rfl⟩:=hd.A0;exact⟨_,_,rfl⟩
    split at hv
    ·next hz=>
     simp only[Option.some.injEq,Prod.mk.injEq]at hv;obtain⟨rfl,rfl⟩:=hv;have hm0:min m n=0:=by omega
     rw[hm0]at hrc0 hrel;have:cs'=[]:=by simpa using hrel.1.symm
     subst this;obtain⟨a',c',rfl⟩:=hdf;refine⟨.int .i64 0,w,β,?_,Step.refl hs,.int _ _⟩;simp only[Builtin.copy_,h0,h1,h2,run_bind,ax ht,andThen_ok,hlen,cG hsz,hmin,hm0,hrc0,goInt]
     cases a'<;>simp[storeCells]
    ·next hz=>
     split at hv
     ·next k j=>
      obtain⟨u',hst,he⟩:=map_eq_some_iff.1 hv;simp only[Prod.mk.injEq]at he;obtain⟨rfl,rfl⟩:=he;obtain⟨sl,i',c',hb,hmp,_,rfl,hx1,ho1,hn1,hi1,hz1⟩:=hd.eK;have hi2:i'=sl.s+j:=by rcases hi1 with h1|⟨h1,h2⟩;exact h1;exact absurd h1 (by omega)
      subst hi2;obtain⟨w',hr,hstep⟩:=ny (P:=P) hs hst hb hrel;refine⟨.int .i64 (min m n:Nat),w',β,?_,hstep,.int _ _⟩;simp only[Builtin.copy_,h0,h1,h2,run_bind,ax ht,andThen_ok,hlen,cG hsz,hmin,hrc0,Sem.run_pure,goInt,hr]
     ·cases hv
   ·cases hv
  ·cases hv
 grind
theorem zB(z:Array Value):∀n,(Builtin.zeroCells z n).toList=bC z.toList n:=by
 intro n;rcases Nat.eq_zero_or_pos z.size with h|h
 all_goals grind[fx,List.eq_nil_of_length_eq_zero,oW,Builtin.zeroCells]
theorem FG{h:aa}{w:World}(hs:fK β h w){t:TypeId}{ty:TypeId}{x x' v:Value}{u:cL}(hv:CU P t x h=some (v,u))(hx:au β x x'):
  ∃v' w' β',(Builtin.clear_ #[t] ty #[x']).run P w = .ok v' w'/\Step β h w β' (u.app h) w'/\au β' v v':=by
 unfold CU at hv;split at hv
 ·next e k j n c ht=>
  split at hv
  ·next z hz=>
   obtain⟨sl,i',c',hb,hmp,_,rfl,hx1,ho1,hn1,hi1,hz1⟩:=hx.eK;have h0:(#[t]:Array TypeId)[0]?=some t:=rfl;have h1:(#[Value.slice (some ⟨sl.b,i',none⟩) n c']:Array Value)[0]?=some (.slice (some ⟨sl.b,i',none⟩) n c'):=rfl;split at hv
   ·next hn=>
    subst hn;simp only[Option.some.injEq,Prod.mk.injEq]at hv;obtain⟨rfl,rfl⟩:=hv;refine⟨undef,w,β,?_,Step.refl hs,.undef β⟩;simp only[Builtin.clear_,h0,h1,run_bind,ax ht,andThen_ok];rfl
   ·next hn=>
    obtain⟨u',hst,he⟩:=map_eq_some_iff.1 hv;simp only[Prod.mk.injEq]at he;obtain⟨rfl,rfl⟩:=he;have hi2:i'=sl.s+j:=by rcases hi1 with h1|⟨h1,h2⟩;exact h1;exact absurd h1 (by omega)
    subst hi2;obtain⟨w',hr,hstep⟩:=ny (P:=P) hs hst hb (j3 (aG.lz (di hz).1) n);refine⟨undef,w',β,?_,hstep,.undef β⟩;obtain⟨n',rfl⟩:∃n',n=n'+1:=⟨n-1,by omega⟩
    simp only[Builtin.clear_,h0,h1,run_bind,ax ht,andThen_ok,jz hz,zB,hr];rfl
  ·cases hv
 grind
theorem nT{h:aa}{w:World}(hs:fK β h w){t kt et:TypeId}{r:Nat}{es es2:List (Value×Value)}{k m' x x':Value}(hu:P.underlying t=some (.map kt et))(hk:lU P kt k=true)
  (hr:h.get r=some (.map es)) (hins:iQ P kt k x es=some es2) (hm:au β (.map (some r)) m') (hx:au β x x'):
  ∃w',(Instr.mapUpdate t m' k x').run P w = .ok () w'/\Step β h w β (h.set r (.map es2)) w':=by
 obtain⟨sl,hb,hmap,rfl⟩:=hm.yK;obtain⟨_,es',clock,hw,hrel⟩:=hs.blk _ _ _ hr hb;have hlt:sl.b<w.heap.size:=(hs.lt _ _ hb).2;have hg:(getObj sl.b).run P w = .ok (.map es' clock) w:=by simp[getObj,Sem.run,hw]
 have hset:∀o,(setObj sl.b o).run P w = .ok () { w with heap:=w.heap.setIfInBounds sl.b o }:=λo=>by grind[setObj,Sem.run]
 have hat:∀o,At w { w with heap:=w.heap.setIfInBounds sl.b o } sl.b/\({ w with heap:=w.heap.setIfInBounds sl.b o }:World).heap[sl.b]?=some o:=λo=>
  ⟨⟨by simp,rfl,⟨rfl,Nat.le_refl _⟩,rfl,λb' hb'=>by grind⟩,by grind⟩
 have hck:=rB hk false w;have hkp:=sw hk;obtain⟨α,fnd,R,hF,hrun1⟩:=tL hk w es'.toList;rcases rz hF hkp hx es es'.toList hrel hins 0 clock with⟨j,e,h1,h2,h3,h4⟩|⟨h1,h2⟩
 ·have hfk:=hrun1 _ h1;obtain⟨ha,hh⟩:=hat (.map (es'.modify j λe=>{ e with key:=k,val:=x' }) clock);refine⟨_,?_,Step.at_ hs hr hb rfl ha ⟨hmap,_,clock,hh,by simpa using h4⟩⟩
  simp_all[wa,ax,Instr.mapUpdate,Instr.keyThatStays]
 ·have hfk:=hrun1 _ h1;obtain⟨ha,hh⟩:=hat (.map (es'.push { key:=k,val:=x',born:=clock }) (clock+1));refine⟨_,?_,Step.at_ hs hr hb rfl ha ⟨hmap,_,clock+1,hh,by simpa using h2⟩⟩
  simp_all[ax,Instr.mapUpdate]
end
section
variable {β:cp} {P:Program}
theorem uc{e:TypeId}{s:Nat}(hc:P.cellsOf e=s)(hs:0<s)(count off n:Nat)(hr:off%s=0)(hn:off/s+n<=count):liesAt P P.depth e count off e n=true:=by
 have hd:P.depth=(2*(P.types.size+Made.depth)+1)+1:=rfl;rw[hd];simp only[liesAt,Bool.or_eq_true]
 grind[rowAt,sameLayout]
theorem tw{e:TypeId}{n:Nat}(h:aw P e=some n):P.cellsOf e=n:=by
 obtain⟨i,hi,rfl⟩:=ja h
 grind[Program.cellsOf]
theorem At.freeze(w:World)(a:Addr)(n:Nat):At w (w.freeze a n) a.block:=
 ⟨ry w a n,(mE w a n).1,(mE w a n).2.1,(mE w a n).2.2,λb hb=>by
  by_cases hn:n=0
  ·subst hn;rfl
  ·rw[jO w a hn,if_neg (Ne.symm hb)]⟩
theorem j7:∀{l:List Value}{bs:List UInt8},bytesOf l=some bs->l=bs.map λb=>Value.int .u8 b.toNat
 |[],bs,h=>by grind[bytesOf]
 | v::l,bs,h=>by
  unfold bytesOf at h;split at h
  ·next e=>cases e
  ·next n r e=>
   simp only[List.cons.injEq]at e;obtain⟨rfl,rfl⟩:=e;split at h
   ·next hr=>
    obtain⟨bs',hb,rfl⟩:=map_eq_some_iff.1 h;rw[List.map_cons,<-j7 hb];congr 2;have:(UInt8.ofNat n.toNat).toNat=n.toNat:=by
     simp[UInt8.toNat_ofNat'];omega
    omega
   ·cases h
  grind
set_option maxHeartbeats 1000000 in
theorem qW{h:aa}{w:World}(hs:fK β h w){k i:Nat}{n:Int}{kk:IntKind}{pt e:TypeId}{cs:List Value}{l:List UInt8}{p':Value}{ats:Array TypeId}{ty:TypeId}(hk:h.get k=some (.cells cs e 1 true))(hpt:ats[0]?=some pt)
  (hu:P.underlying pt=some (.pointer e)) (hsz:aw P e=some 1) (hn:0<n) (hmx:n<9223372036854775807) (hl:((cs.drop i).take n.toNat).length=n.toNat) (hb:bytesOf ((cs.drop i).take n.toNat)=some l) (hp:au β (.pointer (some ⟨k,i,none⟩)) p'):
  ∃w',(Builtin.unsafeString_ ats ty #[p',.int kk n]).run P w = .ok (strOf l) w'/\Step β h w β (h.set k (.cells cs e 1 false)) w':=by
 obtain⟨sl,hbk,hm,rfl⟩:=hp.ni;obtain⟨hm',ht,hz,cs',fr,hw,hnn,hcells,hfr⟩:=hs.blk _ _ _ hk hbk;refine⟨w.freeze ⟨sl.b,sl.s+i,none⟩ n.toNat,?_,Step.at_ hs hk hbk rfl (At.freeze w _ _) ?_⟩
 ·have hlen:l.length=n.toNat:=by
   have:=congrArg List.length (j7 hb);rw[hl]at this;simpa using this.symm
  have hbound:sl.s+i+n.toNat<=cs'.size:=by
   have hlt:i+n.toNat-1<cs.length:=by simp only[List.length_take,List.length_drop]at hl;omega
   obtain⟨v',h1,_⟩:=hcells _ _ (gE hlt);have:=(Array.getElem?_eq_some_iff.1 h1).1;omega
  have hsh:w.shape? sl.b=some (e,cs'.size):=by simp[World.shape?,hw]
  have hco:=tw hsz;have hlies:liesAt P P.depth e (cs'.size/P.cellsOf e) (sl.s+i) e n.toNat=true:=uc hco (by omega) _ _ _ (by omega) (by grind);have hld:(loadBytes ⟨sl.b,sl.s+i,none⟩ .empty n.toNat).run P w = .ok (⟨l.toArray⟩:ByteArray) w:=by
   rw[<-hlen];rw[Lib.run_loadBytes (P:=P) w l ⟨sl.b,sl.s+i,none⟩ .empty]
   ·simp
   ·intro j x hj;have hjv:((cs.drop i).take n.toNat)[j]?=some (.int .u8 x.toNat):=by rw[j7 hb];simp[hj]
    rw[getElem?_take,getElem?_drop]at hjv;split at hjv
    ·obtain⟨v',h1,h2⟩:=hcells _ _ hjv;rw[bZ,kJ hw,show sl.s+i+j=sl.s+(i+j) by omega,h1,h2.cz]
    grind
  have hmax:IntKind.i64.max=9223372036854775807:=by decide
  have hdef:Builtin.unsafeString_ ats ty #[.pointer (some ⟨sl.b,sl.s+i,none⟩),.int kk n] =
    (do
     let n <-asInt (.int kk n)
     let some pt:=ats[0]?|stuck "unsafe.String: no argument types"
     if n<0 then runtimePanic (.error "unsafe.String: len out of range")
     if n>IntKind.i64.max then unsupported (.unsafePointer "String: a length above the largest int")
     if n=0 then pure (.string .empty)
     else if <-variablesAt ⟨sl.b,sl.s+i,none⟩ (<-elemOf pt) n.toNat then do
      let s <-loadBytes ⟨sl.b,sl.s+i,none⟩ .empty n.toNat
      freeze ⟨sl.b,sl.s+i,none⟩ n.toNat
      pure (.string s)
     else unsupported (.unsafePointer "String: not so many bytes at ptr")):=rfl
  rw[hdef];simp only[run_bind,asInt,asIntOf,Sem.run_pure,andThen_ok,hpt,run_ite];rw[if_neg (by omega),if_neg (by omega),if_neg (by omega)];simp only[elemOf,run_bind,ax hu,Sem.run_pure,andThen_ok,variablesAt,run_program,run_shape,hsh,hlies,if_true,hld,run_freeze];rfl
 ·have hfh:(w.freeze ⟨sl.b,sl.s+i,none⟩ n.toNat).heap[sl.b]?=some (SF ⟨sl.b,sl.s+i,none⟩ n.toNat (.cells cs' e fr)):=by
   rw[jO w _ (by omega)];simp[hw]
  exact⟨hm',ht,hz,cs',_,hfh,hnn,hcells,λh=>by cases h⟩
end
section
variable {β:cp} {P:Program}
def Sa(r:Result Next)(v':Value)(w':World):Prop:=r = .ok (.value v') w'\/(r = .ok .skip w'/\v'=undef)
def aI(o:Oper):Bool:=match o.op with
 |.call { callee:= .value _,.. }=>true
 |_=>false
theorem EV{ρ':Operand->Value}{args:Array Operand}{a b:Operand}(h:args.toList=[a,b]):args.map ρ' = #[ρ' a,ρ' b]:=by
 apply Array.ext';simp[h]
set_option maxHeartbeats 2000000 in
theorem qN{ρ ρ':Operand->Value}(hρ:∀x,au β (ρ x) (ρ' x)){cf:br}{o:Oper}(hnc:aI o=false){v:Value}{u:cL}{h:aa}{w:World}(hs:fK β h w)(hv:cB P cf ρ o h=some (v,u)):
  ∃v' w' β',Sa ((execOp ρ' o).run P w) v' w'/\Step β h w β' (u.app h) w'/\au β' v v':=by
 unfold cB at hv;unfold execOp;split at hv
 ·next t a x ho=>
  simp only[ho];have ha:=hρ a;have hx:=hρ x;split at hv
  ·next k i hka=>
   rw[hka]at ha;obtain⟨sl,hb,hm,he⟩:=ha.ni;split at hv
   ·next hsz=>
    obtain⟨u',hst,he2⟩:=map_eq_some_iff.1 hv;simp only[Prod.mk.injEq]at he2;obtain⟨rfl,rfl⟩:=he2;have hj:ρ x≠Ab.eu:=by
     intro e;rw[e]at hst;unfold storeAt at hst;split at hst
     ·split at hst
      ·next hc=>exact absurd hc.2 (by simp[Value.cells,cH])
      ·cases hst
     ·cases hst
    have hc:=hx.cells hj;obtain⟨w',hr,hstep⟩:=ny (P:=P) hs hst hb (fz.toList.1 hc);refine⟨undef,w',β,.inr ⟨?_,rfl⟩,hstep,.undef β⟩;have hr2:(storeVar t ⟨sl.b,sl.s+i,none⟩ (ρ' x)).run P w = .ok () w':=by
     simp only[storeVar,run_bind,cG hsz,andThen_ok,run_ite];rw[if_neg (by simp[hc.1])];exact hr
    simp only[Instr.storeAt,run_bind,he,Instr.sureAddr,Sem.run_pure,andThen_ok,hr2]
   ·cases hv
  ·cases hv
 ·next t m k x ho=>
  simp only[ho];have hm:=hρ m;have hk:=hρ k;split at hv
  ·next kt et r hu hma=>
   rw[hma]at hm;split at hv
   ·next es hr=>
    split at hv
    ·next hkk=>
     obtain⟨es2,hins,he⟩:=map_eq_some_iff.1 hv;simp only[Prod.mk.injEq]at he;obtain⟨rfl,rfl⟩:=he;obtain⟨w',hrun,hstep⟩:=nT (P:=P) hs hu hkk hr hins hm (hρ x);exact⟨undef,w',β,.inr ⟨by rw[hk.kU (sw hkk)];simp[hrun],rfl⟩,hstep,.undef β⟩
    ·cases hv
   ·cases hv
  ·cases hv
 ·next t m k x ho=>
  simp only[ho];have hm:=hρ m;have hk:=hρ k;split at hv
  ·next kt et r hu hma=>
   rw[hma]at hm;split at hv
   ·next es hr=>
    split at hv
    ·next hkk=>
     obtain⟨es2,hins,he⟩:=map_eq_some_iff.1 hv;simp only[Prod.mk.injEq]at he;obtain⟨rfl,rfl⟩:=he;obtain⟨w',hrun,hstep⟩:=nT (P:=P) hs hu hkk hr hins hm (hρ x);exact⟨undef,w',β,.inr ⟨by rw[hk.kU (sw hkk)];simp[hrun],rfl⟩,hstep,.undef β⟩
    ·cases hv
   ·cases hv
  ·cases hv
 ·next f args ats ho=>simp[aI,ho]at hnc
 ·next args ats ho=>
  simp only[ho];split at hv
  ·next s x t t' ha ht=>
   obtain⟨v',w',β',hr,hstep,hvr⟩:=CI (P:=P) (ty:=o.type) hs hv (hρ s) (hρ x);refine⟨v',w',β',.inl ?_,hstep,hvr⟩;have hat:ats = #[t,t']:=by apply Array.ext';simp[ht]
   simp only[resolve,run_bind,Sem.run_pure,andThen_ok,invoke,builtin,EV ha,hat,hr]
  ·cases hv
 ·next args ats ho=>
  simp only[ho];split at hv
  ·next d s t ts ha ht=>
   obtain⟨v',w',β',hr,hstep,hvr⟩:=H3 (P:=P) (ts:=ts) (ty:=o.type) hs hv (hρ d) (hρ s);refine⟨v',w',β',.inl ?_,hstep,hvr⟩;have hat:ats=(t::ts).toArray:=by apply Array.ext';simp[ht]
   simp only[resolve,run_bind,Sem.run_pure,andThen_ok,invoke,builtin,EV ha,hat,hr]
  ·cases hv
 ·next args ats ho=>
  simp only[ho];have hl:aG β (args.toList.map ρ) (args.toList.map ρ'):=aG.map _ λx _=>hρ x;split at hv
  ·next x t hm ht=>
   rw[hm]at hl;obtain⟨y,r,hy,hyr,hrr⟩:=hl.bS;have:=hrr.dg;subst this;obtain⟨v',w',β',hr,hstep,hvr⟩:=FG (P:=P) (ty:=o.type) hs hv hyr;refine⟨v',w',β',.inl ?_,hstep,hvr⟩;have hat:ats = #[t]:=by apply Array.ext';simp[ht]
   have ha:args.map ρ' = #[y]:=by apply Array.ext';simp[hy]
   simp only[resolve,run_bind,Sem.run_pure,andThen_ok,invoke,builtin,ha,hat,hr]
  ·cases hv
 ·next args ats ho=>
  simp only[ho];have hl:aG β (args.toList.map ρ) (args.toList.map ρ'):=aG.map _ λx _=>hρ x;split at hv
  ·next n c hm=>
   rw[hm]at hl;obtain⟨y,r,hy,hyr,hrr⟩:=hl.bS;have:=hrr.dg;subst this;obtain⟨rfl,rfl,rfl⟩:=hyr.dD;simp only[Option.some.injEq,Prod.mk.injEq]at hv;obtain⟨rfl,rfl⟩:=hv;have hat:args.map ρ' = #[.slice none 0 0]:=by apply Array.ext';simp[hy]
   refine⟨.pointer none,w,β,.inl ?_,Step.refl hs,.nilPtr⟩;simp only[resolve,run_bind,Sem.run_pure,andThen_ok,invoke,builtin,hat,Lib.run_unsafeSliceData_nil]
  ·next a n c hm=>
   rw[hm]at hl;obtain⟨y,r,hy,hyr,hrr⟩:=hl.bS;have:=hrr.dg;subst this;obtain⟨ab,ao,asp⟩:=a;have hsp0:asp=none\/ ¬0<aX c:=by
    rcases hyr.oE with⟨k',i',e⟩|⟨_,_,hc0,_⟩
    ·injection e with _ _ e;exact .inl e
    ·subst hc0;exact .inr (by unfold aX;rw[if_neg (by decide)];decide)
   rcases hsp0 with hsp0|hsp0
   rotate_left
   ·rw[if_neg hsp0]at hv;cases hv
   subst hsp0;obtain⟨sl,i',c',hb,hmp,hsp,rfl,hx1,ho1,hn1,hi1,hz1⟩:=hyr.eK;clear hsp;split at hv
   ·next hc=>
    simp only[Option.some.injEq,Prod.mk.injEq]at hv;obtain⟨rfl,rfl⟩:=hv;have hcap:aX c<=c':=by
     unfold aX;split
     ·next hc=>exact ho1 hc
     ·next hc=>rw[hx1 (by omega)];exact Nat.le_refl _
    have hi2:i'=sl.s+ao:=by rcases hi1 with h1|⟨h1,h2⟩;exact h1;exact absurd h2 (by omega)
    subst hi2;have hat:args.map ρ' = #[.slice (some ⟨sl.b,sl.s+ao,none⟩) n c']:=by apply Array.ext';simp[hy]
    refine⟨.pointer (some ⟨sl.b,sl.s+ao,none⟩),w,β,.inl ?_,Step.refl hs,.ptr hb hmp⟩;simp only[resolve,run_bind,Sem.run_pure,andThen_ok,invoke,builtin,hat,Lib.run_unsafeSliceData_row (P:=P) w ats o.type ⟨sl.b,sl.s+ao,none⟩ n c' (by omega)]
   ·cases hv
  ·cases hv
 ·next args ats ho=>
  simp only[ho];have hl:aG β (args.toList.map ρ) (args.toList.map ρ'):=aG.map _ λx _=>hρ x;split at hv
  ·next kk pt hm hpt=>
   rw[hm]at hl;obtain⟨y,r,hy,hyr,hrr⟩:=hl.bS;obtain⟨z,r2,rfl,hzr,hrr2⟩:=hrr.bS;have:=hrr2.dg;subst this
   cases hyr.Di
   cases hzr.cz
   simp only[Option.some.injEq,Prod.mk.injEq]at hv;obtain⟨rfl,rfl⟩:=hv;have hat:args.map ρ' = #[.pointer none,.int kk 0]:=by apply Array.ext';simp[hy]
   refine⟨strOf [],w,β,.inl ?_,Step.refl hs,.string _⟩;have hmax:IntKind.i64.max=9223372036854775807:=by decide
   have hdef:Builtin.unsafeString_ ats o.type #[.pointer none,.int kk 0] =
     (do
      let n <-asInt (.int kk 0)
      let some pt:=ats[0]?|stuck "unsafe.String: no argument types"
      if n<0 then runtimePanic (.error "unsafe.String: len out of range")
      if n>IntKind.i64.max then unsupported (.unsafePointer "String: a length above the largest int")
      if n=0 then pure (.string .empty)
      else runtimePanic (.error "unsafe.String: ptr is nil and len is not zero")):=rfl
   simp only[resolve,run_bind,Sem.run_pure,andThen_ok,invoke,builtin,hat,hdef,asInt,asIntOf,hpt,run_ite];rw[if_neg (by omega),if_neg (by omega)];rfl
  ·next k i kk n pt hm hpt=>
   rw[hm]at hl;obtain⟨y,r,hy,hyr,hrr⟩:=hl.bS;obtain⟨z,r2,rfl,hzr,hrr2⟩:=hrr.bS;have:=hrr2.dg;subst this
   cases hzr.cz
   have hat:args.map ρ' = #[y,.int kk n]:=by apply Array.ext';simp[hy]
   split at hv
   ·next cs e e' hk hu=>
    split at hv
    ·next hc=>
     obtain⟨rfl,hsz,hn,hmx,hlen⟩:=hc;split at hv
     ·next l hb=>
      simp only[Option.some.injEq,Prod.mk.injEq]at hv;obtain⟨rfl,rfl⟩:=hv;obtain⟨w',hr,hstep⟩:=qW (P:=P) (kk:=kk) (ats:=ats) (ty:=o.type) hs hk hpt hu hsz hn hmx hlen hb hyr;refine⟨strOf l,w',β,.inl ?_,hstep,.string _⟩;simp only[resolve,run_bind,Sem.run_pure,andThen_ok,invoke,builtin,hat,hr]
     ·cases hv
    ·cases hv
   ·cases hv
  ·cases hv
 ·next s d x ho=>
  simp only[ho];have hx:=hρ x;split at hv
  ·next t k h1 h2 ha=>
   rw[ha]at hx;split at hv
   ·next cs t' wr hk=>
    split at hv
    ·next hc=>
     obtain⟨rfl,hsz,hpos⟩:=hc;simp only[Option.some.injEq,Prod.mk.injEq]at hv;obtain⟨rfl,rfl⟩:=hv;obtain⟨sl,hb,hm,he⟩:=hx.ni;obtain⟨_,_,_,cs',fr,hw,hn,hcells,_⟩:=hs.row hk hb;obtain⟨j,hj,hjs⟩:=ja hsz;obtain⟨v0,hv0,_⟩:=hcells 0 _ (gE hpos);have hlt:=(Array.getElem?_eq_some_iff.1 hv0).1;have hsh:w.shape? sl.b=some (t,cs'.size):=by simp[World.shape?,hw]
     refine⟨ρ' x,w,β,.inl ?_,Step.refl hs,hρ x⟩;rw[he];simp only[run_bind,Lib.run_to_unsafe (P:=P) w ⟨sl.b,sl.s+0,none⟩ h1 h2 hj (by omega) hsh hlt,andThen_ok,Sem.run_pure]
    ·cases hv
   ·cases hv
  ·next t k h1 h2 ha=>
   rw[ha]at hx;split at hv
   ·next cs t' wr hk=>
    split at hv
    ·next hc=>
     obtain⟨rfl,hsz,hpos⟩:=hc;simp only[Option.some.injEq,Prod.mk.injEq]at hv;obtain⟨rfl,rfl⟩:=hv;obtain⟨sl,hb,hm,he⟩:=hx.ni;have hs0:=hs.kc hk hb;obtain⟨_,_,_,cs',fr,hw,hn,hcells,_⟩:=hs.row hk hb;obtain⟨j,hj,hjs⟩:=ja hsz;have hco:=tw hsz;obtain⟨v0,hv0,_⟩:=hcells (cs.length-1) _ (gE (by omega));have hlt:=(Array.getElem?_eq_some_iff.1 hv0).1;have hsh:w.shape? sl.b=some (t,cs'.size):=by simp[World.shape?,hw]
     have hlies:liesAt P P.depth t (cs'.size/P.cellsOf t) (sl.s+0) t 1=true:=by
      refine uc hco hpos _ _ _ (by rw[hs0];simp) ?_;rw[hs0,hco];simp only[Nat.add_zero,Nat.zero_div,Nat.zero_add];exact(Nat.le_div_iff_mul_le hpos).2 (by omega)
     refine⟨ρ' x,w,β,.inl ?_,Step.refl hs,hρ x⟩;rw[he];simp only[run_bind,Lib.run_from_unsafe (P:=P) w ⟨sl.b,sl.s+0,none⟩ h1 h2 hj hsh hlies,andThen_ok,Sem.run_pure]
    ·cases hv
   ·cases hv
  ·cases hv
 grind
end
end Go.Ab
end
