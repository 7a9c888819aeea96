/- Laws and walks that the proof leans on (part 1): AbEval; AbRel; AbEnv; AbFast; AbPure; AbPure2 and others. No condition. -/
import GoSem.Dispatch
import GoSem.Machine.Frame
import GoSem.Machine.Return
import Derived.CallsIn
import Derived.Laws.Tables
import Derived.KernelRfl
import Derived.Laws.Sem
import Derived.Laws.World
import Derived.Laws.Cells
import Derived.Laws.Entries
import Derived.Laws.Strings
import Derived.Laws.StructEq
import Derived.Laws.Small
import Derived.Laws.BytesString
import Derived.Laws.BitsLemmas
import Derived.Laws.Append
import Derived.Lib.UnsafeStr
import Derived.Lib.Builder
import Derived.RangeFuncLeaves
import Derived.RangeFuncNested
set_option linter.unusedVariables false
set_option linter.unusedSimpArgs false
set_option maxRecDepth 100000
open Array renaming ext' → fY, foldl_toList → pQ, getD_eq_getD_getElem? → dp, length_toList → gK
open BitVec renaming ofInt → di
open Bool renaming and_eq_true → bj, false → ak, false_eq_true → dM, not_eq_true' → dt, true → af, true_and → fm
open Classical renaming byContradiction → fA
open Go renaming Addr → aF, FuncId → ck, IntKind → ei, MapEntry → gz, Oper → aR, Operand → bh, Program → aO, TypeId → aD, Value → ah, World → aU
open Go.Builtin renaming append_ → nr, firstCells → eN, zeroCells → hO
open Go.Call renaming operands → jT
open Go.Instr renaming checkKey → jB, fill → jP, findAsking → ph, findKey → oL, findNow → oM, sameBits → nu, sameNow → lI, sliceAt → lJ, sliceBounds → nS, sureAddr → nw
open Go.IntKind renaming i64 → an, rec → jt, u8 → aK
open Go.Op renaming equalIn → gx, operands → eK
open Go.Region renaming Mode → iC, binds → iO
open Go.Result renaming andThen_ok → aJ
open Go.Sem renaming run_bind → aV, run_ite → eS, run_pure → bt
open Go.Value renaming agg → aq, bool → ai, func → aN, int → aB, pointer → aT, slice → ae, string → bu, tuple → av
open Go.World renaming putObj_heap_other → jg
open List renaming all_eq_true → cw, append_assoc → cE, append_nil → cF, cons_append → dQ, eq_nil_of_length_eq_zero → aY, ext_getElem? → cV, foldl_cons → pE, length_append → bg, length_cons → bP, length_drop → cQ, length_pos_iff → fL, length_take → bo, map_congr_left → kc, mem_append → bH, mem_append_left → dY, mem_cons → cO, mem_cons_of_mem → cJ, mem_cons_self → cH, mem_filter → iR, mem_map → dZ, mem_of_getElem? → aI, mem_range → eL, mem_singleton → aX, nil_append → dq, range → dL, rec → gC, replicate → aH, take_append_drop → ej, take_succ_eq_append_getElem → eQ
open List.cons renaming injEq → gY
open Nat renaming add_mul → cM, add_zero → fh, beq → dx, blt → dj, eq_zero_or_pos → dB, le_add_right → dg, le_refl → aS, le_succ → fJ, le_trans → bK, lt_of_lt_of_le → cz, lt_or_ge → de, min_eq_left → dO, mod_eq_of_lt → eG, mod_lt → dP, mul_le_mul_right → bJ, mul_one → df, strongRecOn → fB, zero_add → bO, zero_le → cr
open Option renaming map_eq_some_iff → bq, map_some → fP, rec → gj, some → aa
open Option.some renaming inj → aC, injEq → bc
open Prod.mk renaming injEq → bA
open List (drop_drop getElem?_append_left getElem?_append_right getElem?_drop getElem?_eq_none getElem?_take)
open Nat (add_assoc beq_eq blt_eq)
open Option (bind_some getD_some)
open Array (getElem?_eq_getElem getElem?_push getElem?_toList)
open Bool (or_eq_true)
open Go.IntKind (wrap_i64)
section
namespace Go
theorem dT{p:Prop} [Decidable p] (h:decide p=true):p:=of_decide_eq_true h
theorem dF{p:Prop} [Decidable p] (h:decide p=false):¬p:=of_decide_eq_false h
theorem oI{α:Type} {a b:α} (h:some a=some b):a=b:=Option.some.inj h
theorem gE{α:Type} {l:List α} {i:Nat} (h:i<l.length):l[i]? =some l[i]:=List.getElem?_eq_getElem h
theorem gD{α:Type} {l:List α} {i:Nat} {a:α}:l.getD i a=l[i]?.getD a:=List.getD_eq_getElem?_getD
theorem lM{α β:Type} {as:List α} (f:α→β):(as.map f).length=as.length:=List.length_map f
theorem iP.{u}{c:Prop}{h:Decidable c}(e:c){α:Sort u}{t f:α}:ite c t f=t:=if_pos e
theorem iN.{u}{c:Prop}{h:Decidable c}(e:¬c){α:Sort u}{t f:α}:ite c t f=f:=if_neg e
theorem eT{p:Prop}[i:Decidable p](h:p):decide p=true:=decide_eq_true h
theorem eF{p:Prop}[i:Decidable p](h:¬p):decide p=false:=decide_eq_false h
end Go
namespace Go
abbrev bN(p:Addr):Value:= .pointer (some p)
abbrev cn(k o:Nat):Value:= .pointer (some ⟨k,o,none⟩)
abbrev gG(k o n c:Nat):Value:= .slice (some ⟨k,o,none⟩) n c
abbrev aA(z:Int):Value:= .int .i64 z
abbrev bD(z:Int):Value:= .int .u64 z
end Go
namespace Go.Ab
noncomputable section
def gy(a:List Nat)(j i:Nat):Bool:=(a.getD j 0).testBit i
def lK(a:Array aR):List Nat:=(Region.before a).toList
def MD:List aR->Nat->Bool
 |[],_=>af
 |o::r,j=>(o.after.toList.all λe=>decide (e.on<j)||(!iO .any e && !iO .text e))&&MD r (j+1)
def Ad(a:List Nat)(j:Nat)(t:Tmp):List aR->Nat->Bool
 |[],_=>af
 |o::r,i=>(match o.dst with|some d=>decide (d≠t)||decide (i=j)||gy a j i||gy a i j|none=>af)&&Ad a j t r (i+1)
def NH(a:List Nat)(all:List aR):List aR->Nat->Bool
 |[],_=>af
 |o::r,j=>(o.op.operands.toList.all fun|.tmp t=>Ad a j t all 0|_=>af)&&(match o.guard with|some (i,_)=>gy a j i|none=>af)&&NH a all r (j+1)
def E6:List aR->Nat->Bool
 |[],_=>af
 |o::r,m=>match o.dst with
  |some d=> !m.testBit d&&E6 r (m|||2^d)
  |none=>E6 r m
def Sg(a:Array aR):Bool:=
 MD a.toList 0&&E6 a.toList 0&&(!Region.departs a||(Region.linearise .gc a 0).length==a.size)&&NH (lK a) a.toList a.toList 0
def fS:Code->Bool
 |.region _ c af=>Sg c
 |.seq a b=>fS a&&fS b
 |.cond _ a b=>fS a&&fS b
 |.block _ a=>fS a
 |.loop a=>fS a
 |_=>af
def tJ:Code->Bool
 |.seq a b=>tJ a&&tJ b
 |.cond _ a b=>tJ a&&tJ b
 |.block _ a=>tJ a
 |.loop a=>tJ a
 |.rangeFunc .. =>ak
 |_=>af
def rE(b a:Code):Bool:=fS b&&fS a&&tJ b&&tJ a
inductive LSt where
 |ready
 |busy
 |ret
 |exit (id:Nat)
def YB:Nat:=4611686018427387904
inductive eE where
 |cells (cs:List ah) (t:aD) (sz:Nat) (wr:Bool)
 |map (es:List (ah×ah))
 |loop (st:LSt) (tm:List ah) (ps:List Tmp) (asg body:Code) (ok:rE asg body=af)
 deriving Inhabited
inductive HT where
 |nil
 |node (v:Option eE) (l r:HT)
 deriving Inhabited
inductive Mu where
 |e
 |l (p:Mu)
 |r (p:Mu)
noncomputable def I2(f:Nat):Nat->Mu:=
 Nat.rec (motive:=λ_=>Nat->Mu) (λ_=> .e) (λ_ a n=>Nat.rec (motive:=λ_=>Mu) .e (λk _=>Nat.rec (motive:=λ_=>Mu) (.l (a (k/2))) (λ_ _=> .r (a (k/2))) (k%2)) n) f
noncomputable def pathOf(n:Nat):Mu:=I2 (n+1) n
noncomputable def HT.Sz(t:HT):Option eE:=HT.rec (motive:=λ_=>Option eE) none (λv _ _ _ _=>v) t
noncomputable def HT.akS(a:HT->Option eE)(t:HT):Option eE:=HT.rec (motive:=λ_=>Option eE) none (λ_ l _ _ _=>a l) t
noncomputable def HT.akT(a:HT->Option eE)(t:HT):Option eE:=HT.rec (motive:=λ_=>Option eE) none (λ_ _ r _ _=>a r) t
noncomputable def HT.get(p:Mu):HT->Option eE:=Mu.rec (motive:=λ_=>HT->Option eE) HT.Sz (λ_=>HT.akS) (λ_=>HT.akT) p
noncomputable def HT.alj(b:Option eE)(t:HT):HT:=HT.rec (motive:=λ_=>HT) (.node b .nil .nil) (λ_ l r _ _=> .node b l r) t
noncomputable def HT.alk(a:HT->HT)(t:HT):HT:=HT.rec (motive:=λ_=>HT) (.node none (a .nil) .nil) (λv l r _ _=> .node v (a l) r) t
noncomputable def HT.alm(a:HT->HT)(t:HT):HT:=HT.rec (motive:=λ_=>HT) (.node none .nil (a .nil)) (λv l r _ _=> .node v l (a r)) t
noncomputable def HT.set(b:Option eE)(p:Mu):HT->HT:=Mu.rec (motive:=λ_=>HT->HT) (HT.alj b) (λ_=>HT.alk) (λ_=>HT.alm) p
structure aw where
 ax:Nat
 t:HT
 deriving Inhabited
noncomputable def aw.get(h:aw)(k:Nat):Option eE:=h.t.get (pathOf k)
noncomputable def aw.set(h:aw)(k:Nat)(b:eE):aw:={ h with t:=h.t.set (aa b) (pathOf k) }
noncomputable def aw.del(h:aw)(k:Nat):aw:={ h with t:=h.t.set none (pathOf k) }
noncomputable def aw.push(h:aw)(b:eE):aw:={ ax:=h.ax+1,t:=h.t.set (aa b) (pathOf h.ax) }
def ft:Nat:=36893488147419103232
def dk(c:Nat):Nat:=if ft<=c then c-ft else c
abbrev rj:ah:= .chan (aa 0)
def eY:ah->Bool
 |aq _|av _|.chan _=>ak
 |_=>af
def bare:ah->Bool
 |ai _|aB _ _|.float _ _|.complex _ _ _|bu _|aT none|ae none 0 0|.map none|.nilFunc|.nilIface=>af
 |_=>ak
def plain:ah->Bool
 |aq cs=>cs.toList.all bare
 |av cs=>cs.toList.all fun|aq a=>a.toList.all bare|v=>bare v
 |v=>bare v
def ev(a:Nat->Bool)(b:List ah):bh->ah
 |.tmp t=>b.getD t undef
 |.const v=>if plain v then v else rj
 |.global g=>if a g then aT (aa ⟨g,0,none⟩)else rj
 |.func f=> .func (.func f) #[] #[]
def isAgg(P:aO)(t:aD):Bool:=match P.underlying t with|some (.struct _)|some (.array ..)=>af|_=>ak
def zeroOf(P:aO)(t:aD):Option ah:=match P.info? t with|some i=>(match i.zero with|some z=>if plain z then aa z else none|none=>none)|none=>none
def cd(P:aO)(t:aD):Option Nat:=(P.info? t).map (·.size)
def partOf(P:aO)(t:aD)(cs:Array ah)(a:Nat):Option ah:=
 match P.underlying t with
 |none=>none
 |some _=>if isAgg P t then(cd P t).map λn=> aq (cs.extract a (a+n))else cs[a]?
def strOf(l:List UInt8):ah:= bu ⟨l.toArray⟩
def intCmp(a:BinOp)(x y:Int):Option Bool:=
 match a with
 |.eql=>aa (x==y)|.neq=>aa (x !=y)|.lss=>aa (decide (x<y))|.leq=>aa (decide (x<=y))|.gtr=>aa (decide (x>y))|.geq=>aa (decide (x>=y))
 |_=>none
def wK:List UInt8->List UInt8->Bool
 |_,[]=>ak
 |[],_::_=>af
 |a::x,b::y=>a<b||(a==b&&wK x y)
def Ma(a:BinOp)(x y:List UInt8):Option ah:=
 match a with
 |.add=>if x.length+y.length<=4611686018427387904 then aa (strOf (x++y))else none
 |.eql=>aa (ai (x==y))|.neq=>aa (.bool !(x==y))
 |.lss=>aa (ai (wK x y))|.leq=>aa (ai (wK x y||x==y))
 |.gtr=>aa (.bool !(wK x y||x==y))|.geq=>aa (.bool !(wK x y))
 |_=>none
def ajj:ah->ah->Option Bool
 |ai a,ai b=>aa (a==b)
 |aB k a,aB c b=>if k=c then aa (a==b)else none
 |bu a,bu b=>aa (a.data.toList==b.data.toList)
 |_,_=>none
def H0(P:aO)(t:aD)(x y:ah):Option Bool:=
 match P.underlying t,x,y with
 |some .bool,ai a,ai b=>aa (a==b)
 |some (.int _),aB k a,aB c b=>if k=c then aa (a==b)else none
 |some .string,bu a,bu b=>aa (a.data.toList==b.data.toList)
 |_,_,_=>none
def rC(P:aO):List Field->Nat->List ah->List ah->Option Bool
 |[],_,_,_=>aa af
 |f::c,i,x::a,y::b=>
  if f.offset=i/\f.name≠ "_" then
   match H0 P f.type x y with
   |some af=>rC P c (i+1) a b
   |some ak=>aa ak
   |none=>none
  else none
 |_::_,_,_,_=>none
def wQ(P:aO)(t:aD)(x y:ah):Option Bool:=
 match x,y with
 |ai a,ai b=>match P.underlying t with|some .bool=>aa (a==b)|_=>none
 |aT none,.pointer b=>match P.underlying t with|some (.pointer _)=>aa b.isNone|_=>none
 |.pointer a,aT none=>match P.underlying t with|some (.pointer _)=>aa a.isNone|_=>none
 |aT (aa a),aT (aa b)=>match P.underlying t with|some (.pointer e)=>if a=b/\(cd P e).any (· ≠0)then aa af else none|_=>none
 |ae none _ _,ae b _ _=>match P.underlying t with|some (.slice _)=>aa b.isNone|_=>none
 |ae a _ _,ae none _ _=>match P.underlying t with|some (.slice _)=>aa a.isNone|_=>none
 |.map none,.map b=>match P.underlying t with|some (.map ..)=>aa b.isNone|_=>none
 |.map a,.map none=>match P.underlying t with|some (.map ..)=>aa a.isNone|_=>none
 |.nilFunc,.nilFunc=>match P.underlying t with|some (.func ..)=>aa af|_=>none
 |.nilFunc,.func .. =>match P.underlying t with|some (.func ..)=>aa ak|_=>none
 |.func ..,.nilFunc=>match P.underlying t with|some (.func ..)=>aa ak|_=>none
 |.nilIface,.iface .. =>match P.underlying t with|some (.interface _)=>aa ak|_=>none
 |.iface ..,.nilIface=>match P.underlying t with|some (.interface _)=>aa ak|_=>none
 |aq a,aq b=>match P.underlying t with
  |some (.struct c)=>if P.stoodInHeld t=ak/\P.eqGuardType P.depth t=ak then rC P c.toList 0 a.toList b.toList else none
  |_=>none
 |_,_=>none
def cm(P:aO)(c:BinOp)(t:aD)(x y:ah):Option ah:=
 match x,y with
 | aB k a,aB d b=>
  match c with
  |.shl=>if 0<=b then aa (aB k (k.wrap (a*2^(min b.toNat k.bits))))else none
  |.shr=>if 0<=b then aa (aB k (a.fdiv (2^(min b.toNat k.bits))))else none
  | _=>
   if k=d then
    match c with
    |.add=>aa (aB k (k.wrap (a+b)))
    |.sub=>aa (aB k (k.wrap (a-b)))
    |.mul=>aa (aB k (k.wrap (a*b)))
    |.quo=>if b=0 then none else aa (aB k (k.wrap (a.tdiv b)))
    |.rem=>if b=0 then none else aa (aB k (a.tmod b))
    |.and=>aa (aB k (k.wrap (di k.bits a&&&di k.bits b).toNat))
    |.or=>aa (aB k (k.wrap (di k.bits a|||di k.bits b).toNat))
    |.xor=>aa (aB k (k.wrap (di k.bits a^^^di k.bits b).toNat))
    |.andNot=>aa (aB k (k.wrap (di k.bits a &&& ~~~di k.bits b).toNat))
    |c=>(intCmp c a b).map .bool
   else none
 |bu a,bu b=>Ma c a.data.toList b.data.toList
 |x,y=>match c with
  |.eql=>(wQ P t x y).map .bool
  |.neq=>(wQ P t x y).map λb=> .bool !b
  |_=>none
def Rs(a:UnOp)(x:ah):Option ah:=
 match a,x with
 |.neg,aB k n=>aa (aB k (k.wrap (0-n)))
 |.xor,aB k n=>aa (aB k (k.wrap (di k.bits (if k.signed then -1 else k.max)^^^di k.bits n).toNat))
 |.not,ai b=>aa (.bool !b)
 |_,_=>none
def iW:Option ah->Nat->Option Int
 |none,d=>aa d
 |some (aB _ n),_=>aa n
 |some _,_=>none
def cY(P:aO)(t:aD)(x:ah)(f c d:Option ah)(h:aw):Option ah:=
 match x with
 | bu s=>
  match P.underlying t with
  |some .string=>match d,iW f 0,iW c s.data.toList.length with
   |none,aa l,aa r=>if 0<=l/\l<=r/\r<=(s.data.toList.length:Int)then aa (strOf ((s.data.toList.drop l.toNat).take (r-l).toNat))else none
   |_,_,_=>none
  |_=>none
 | ae none 0 0=>
  match P.underlying t with
  |some (.slice e)=>match d,iW f 0,iW c 0,cd P e with
   |none,aa 0,aa 0,aa _=>aa (ae none 0 0)
   |_,_,_,_=>none
  |_=>none
 | ae (aa ⟨k,i,none⟩) j a=>
  match P.underlying t with
  | some (.slice e)=>match iW f 0,iW c j,cd P e,h.get k with
   | some l,aa r,aa b,aa (.cells _ _ g _)=>
    if g=b\/g=0 then
     match d with
     |none=>if 0<=l/\l<=r/\r<=(dk a:Int)then aa (ae (aa ⟨k,i+l.toNat*b,none⟩) (r-l).toNat (a-l.toNat))else none
     |some (aB _ m)=>if 0<=l/\l<=r/\r<=m/\m<=(dk a:Int)/\m<ft/\c.isSome=af then aa (ae (aa ⟨k,i+l.toNat*b,none⟩) (r-l).toNat (m-l).toNat)else none
     |some _=>none
    else none
   |_,_,_,_=>none
  |_=>none
 | aT (aa ⟨k,i,none⟩)=>
  match P.underlying t with
  | some (.array n e)=>match d,iW f 0,iW c n,cd P e,h.get k with
   |none,aa l,aa r,aa b,aa (.cells _ _ 0 _)=>
    if 0<=l/\l<=r/\r<=(n:Int)/\n<ft then aa (ae (aa ⟨k,i+l.toNat*b,none⟩) (r-l).toNat (n-l.toNat))else none
   |_,_,_,_,_=>none
  |_=>none
 |_=>none
def IM:ah->Bool
 |.chan _=>ak
 |_=>af
def cI(P:aO)(t:aD)(a:List (Nat×ah)):Option ah:=
 match zeroOf P t with
 |some _=>if a.all λp=>IM p.2 then(P.built t a).map .agg else none
 |none=>none
def lL(P:aO)(b a:aD)(x:ah):Option ah:=
 match P.underlying b,P.underlying a,x with
 |some _,aa (.int k),aB _ n=>aa (aB k (k.wrap n))
 |some _,aa .string,bu s=>aa (bu s)
 |some (.pointer _),aa .unsafePointer,aT none=>aa x
 |some .unsafePointer,aa (.pointer _),aT none=>aa x
 |_,_,_=>none
def yv(c:Bool):List ah->Option ah
 |[]=>none
 |x::a=>a.foldlM (λx y=>match x,y with
  |aB k x,aB b y=>if k=b then aa (aB k (if c then(if y>x then y else x)else(if y<x then y else x)))else none
  |_,_=>none) x
def eW(P:aO)(g:bh->ah)(o:aR):Option ah:=
 match o.op with
 |.move x|.assign x=>aa (g x)
 |.pick c a b=>match g c with|ai t=>aa (if t then g a else g b)|_=>none
 |.build t q=>cI P t (q.toList.map λp=>(p.1,g p.2))
 |.nilCheck x=>match g x with
  |aT none|.nilIface|.nilFunc=>none
  |aN (.method _) _ _=>none
  |.chan _=>none
  |v=>aa v
 |.binOp w t x y _=>cm P w t (g x) (g y)
 |.unOp w _ x=>Rs w (g x)
 |.convert s d x=>lL P s d (g x)
 |.makeInterface t x=>match P.underlying t with|some (.interface _)|none=>none|some _=>aa (.iface t (g x))
 |.makeFunc r first l=>match r with
  |.yield _=>none
  |r=>aa (aN r (first.map g) (l.map g))
 | .fieldAddr s x f=>match P.underlying s,g x with
  |some (.struct h),aT (aa a)=>match h[f]? with
   |some m=>if(cd P m.type).any (· ≠0)then aa (aT (aa (a.add m.offset)))else none
   |none=>none
  |_,_=>none
 | .field t x f=>match P.underlying t,g x with
  |some (.struct h),aq cs=>match h[f]? with
   |some m=>partOf P m.type cs m.offset
   |none=>none
  |_,_=>none
 | .indexAddr t x i=>match P.underlying t,g x,g i with
  |some (.array k e),aT (aa a),aB _ j=>match cd P e with
   |some n=>if 0<=j/\j<(k:Int)then aa (aT (aa (a.add (j.toNat*n))))else none
   |none=>none
  |some (.slice e),ae (aa a) k _,aB _ j=>match cd P e with
   |some n=>if 0<=j/\j<(k:Int)then aa (aT (aa (a.add (j.toNat*n))))else none
   |none=>none
  |_,_,_=>none
 | .index t x i=>match P.underlying t,g x,g i with
  |some (.array k e),aq cs,aB _ j=>match cd P e with
   |some n=>if 0<=j/\j<(k:Int)then partOf P e cs (j.toNat*n)else none
   |none=>none
  |some .string,bu s,aB _ j=>if 0<=j then match s.data.toList[j.toNat]? with|some b=>aa (aB aK b.toNat)|none=>none else none
  |_,_,_=>none
 |.typeAssert x _ u A=>match P.underlying u,g x with
  |some (.interface _),_|none,_=>none
  |some _,.nilIface=>if A then(zeroOf P u).map λz=> .tuple #[z,ai ak]else none
  |some _,.iface t v=>if t=u then aa (if A then .tuple #[v,ai af]else v)else if A then(zeroOf P u).map λz=> .tuple #[z,ai ak]else none
  |_,_=>none
 |.extract x i=>match g x with|av B=>B[i]?|_=>none
 |.call { callee:= .builtin .max,args,.. }=>yv af (args.toList.map g)
 |.call { callee:= .builtin .min,args,.. }=>yv ak (args.toList.map g)
 | .call { callee:= .builtin .cap,args,argTypes }=>match args[0]?,argTypes[0]? with
  |some x,aa t=>match P.underlying t,g x with
   |some (.slice _),ae _ _ c=>if c<ft then aa (aB an c)else none
   |_,_=>none
  |_,_=>none
 |_=>none
def bytesOf:List ah->Option (List UInt8)
 |[]=>aa []
 |aB aK n::r=>if 0<=n/\n<256 then(bytesOf r).map (UInt8.ofNat n.toNat::·)else none
 |_=>none
def aM(P:aO)(t:aD)(h:aw)(a:ah):Option ah:=
 match P.underlying t,a with
 | some _,aT (aa ⟨k,i,none⟩)=>match h.get k with
  | some (.cells cs ..)=>
   if isAgg P t then
    match cd P t with
    |some n=>if((cs.drop i).take n).length=n then aa (aq ((cs.drop i).take n).toArray)else none
    |none=>none
   else cs[i]?
  |_=>none
 |_,_=>none
def FV:ah->Bool
 |ai _|aB _ _|bu _=>af
 |_=>ak
def Gy:ah->Bool
 |aq cs=>cs.toList.all FV
 |v=>FV v
def Q0:ah->ah->Bool
 |ai a,ai b=>a==b
 |aB k a,aB c b=>decide (k=c)&&decide (a=b)
 |bu a,bu b=>decide (a.data.toList=b.data.toList)
 |_,_=>ak
def Jl:List ah->List ah->Bool
 |[],[]=>af
 |a::x,b::y=>Q0 a b&&Jl x y
 |_,_=>ak
def VA:ah->ah->Bool
 |aq a,aq b=>Jl a.toList b.toList
 |a,b=>Q0 a b
def Z7(P:aO)(e:aD->ah->ah->Option Bool)(a b:Array ah):List Field->Option Bool
 |[]=>aa af
 |f::c=>if f.name≠ "_" then(match partOf P f.type a f.offset,partOf P f.type b f.offset with
  |some p,aa q=>(match e f.type p q with
   |some af=>Z7 P e a b c
   |some ak=>aa ak
   |none=>none)
  |_,_=>none)else none
def pj(P:aO):Nat->aD->ah->ah->Option Bool
 |0,_,_,_=>none
 |d+1,t,x,y=>match P.underlying t,x,y with
  |some (.struct c),aq a,aq b=>if P.stoodInHeld t=ak then Z7 P (pj P d) a b c.toList else none
  |_,x,y=>H0 P t x y
def UI(P:aO)(c:aD->ah->Bool)(a:Array ah):List Field->Bool
 |[]=>af
 |f::b=>decide (f.name≠ "_")&&(match partOf P f.type a f.offset with|some p=>c f.type p|none=>ak)&&UI P c a b
def EH(P:aO):Nat->aD->ah->Bool
 |0,_,_=>ak
 |d+1,t,v=>match P.underlying t,v with
  |some (.struct b),aq a=>UI P (EH P d) a b.toList
  |some .bool,ai _=>af
  |some (.int _),aB _ _=>af
  |some .string,bu _=>af
  |_,_=>ak
def uX(P:aO)(a:aD)(k:ah):Bool:=Gy k&&EH P 3 a k
def Fz(P:aO)(c:aD)(a b:ah):Option Bool:=
 if Gy b then match pj P 3 c a b with
  |some af=>if VA a b then aa af else none
  |r=>r
 else none
def Bh(P:aO)(a:aD)(k:ah):List (ah×ah)->Option (Option ah)
 |[]=>aa none
 |(b,v)::c=>match Fz P a k b with
  |some af=>aa (aa v)
  |some ak=>Bh P a k c
  |none=>none
def eB(P:aO)(b:bh->ah)(o:aR)(h:aw):Option ah:=
 match o.op with
 |.load t a=>aM P t h (b a)
 |.slice t x q p l=>cY P t (b x) (q.map b) (p.map b) (l.map b) h
 | .convert s d x=>match P.underlying s,P.underlying d,b x with
  | some (.slice e),aa .string,ae a f _=>match P.underlying e,a with
   |some (.int aK),none=>aa (strOf [])
   | some (.int aK),aa ⟨k,i,none⟩=>match h.get k with
    | some (.cells cs ..)=>
     if((cs.drop i).take f).length=f then
      (bytesOf ((cs.drop i).take f)).map strOf
     else none
    |_=>none
   |_,_=>none
  |_,_,_=>none
 | .lookup t m k j=>match P.underlying t with
  | some (.map g e)=>match (match b m with|.map none=>aa []|.map (aa r)=>(match h.get r with|some (.map c)=>aa c|_=>none)|_=>none),zeroOf P e with
   | some c,aa z=>
    if uX P g (b k)then match Bh P g (b k) c with
     |some (aa v)=>aa (if j then .tuple #[v,ai af]else v)
     |some none=>aa (if j then .tuple #[z,ai ak]else z)
     |none=>none
    else none
   |_,_=>none
  |_=>none
 | .call { callee:= .builtin .len,args,argTypes }=>match args[0]?,argTypes[0]? with
  | some x,aa t=>match P.underlying t,b x with
   |some .string,bu s=>aa (aB an s.data.toList.length)
   |some (.array n _),_=>aa (aB an n)
   |some (.slice _),ae _ n _=>aa (aB an n)
   |some (.map ..),.map none=>aa (aB an 0)
   |some (.map ..),.map (aa r)=>match h.get r with
    |some (.map c)=>aa (aB an c.length)
    |_=>none
   |_,_=>none
  |_,_=>none
 |_=>none
def eO(z:List ah):Nat->List ah
 |0=>[]
 |n+1=>z++eO z n
def dz(P:aO)(a:bh->ah)(o:aR):Option (eE×(Nat->ah)):=
 match o.op with
 |.alloc t=>match zeroOf P t with
  |some z=>if z.cells.toList.all eY then aa (.cells z.cells.toList t 0 af,λk=> aT (aa ⟨k,0,none⟩))else none
  |none=>none
 |.box t x=>if(a x).cells.toList.all eY then aa (.cells (a x).cells.toList t 0 af,λk=> aT (aa ⟨k,0,none⟩))else none
 | .buildSlice t g f=>match P.underlying t with
  | some (.slice e)=>match cd P e,zeroOf P e with
   | some h,aa z=>
    if z.cells.size=h/\0<h/\g*h<=65536 then
     match (if f.toList.all λp=>IM (a p.2)then jP (λi=>aa (i*h,h)) (eO z.cells.toList g).toArray (f.toList.map λp=>(p.1,a p.2))else none)with
     |some cs=>if cs.toList.all eY then aa (.cells cs.toList e h af,λk=> ae (aa ⟨k,0,none⟩) g g)else none
     |none=>none
    else none
   |_,_=>none
  |_=>none
 | .makeSlice t l c=>match P.underlying t,a l,a c with
  | some (.slice e),aB an l,aB an c=>match P.info? e,zeroOf P e with
   | some i,aa z=>
    if z.cells.size=i.size/\0<i.size/\0<=l/\l<=c/\c*i.bytes<=140737488355328/\c<=1099511627776 then
     aa (.cells (eO z.cells.toList c.toNat) e i.size af,λk=> ae (aa ⟨k,0,none⟩) l.toNat c.toNat)
    else none
   |_,_=>none
  |_,_,_=>none
 | .makeMap t r=>match P.underlying t with
  |some (.map ..)=>match r with
   |none=>aa (.map [],λk=> .map (aa k))
   |some x=>match a x with|aB _ _=>aa (.map [],λk=> .map (aa k))|_=>none
  |_=>none
 | .convert s d x=>match P.underlying s,P.underlying d,a x with
  | some _,aa (.slice e),bu s=>match P.underlying e with
   |some (.int aK)=>match cd P e with
    |some 1=>aa (.cells (s.data.toList.map λb=> aB aK b.toNat) e 1 af,λk=> ae (aa ⟨k,0,none⟩) s.data.toList.length (ft+s.data.toList.length))
    |_=>none
   |_=>none
  |_,_,_=>none
 |_=>none
inductive dJ where
 |no
 |set (k:Nat) (b:eE)
 |push (b:eE)
 |move (k:Nat) (b:eE)
 |all (h:aw)
 deriving Inhabited
def dJ.app(u:dJ)(h:aw):aw:=
 match u with
 |.no=>h
 |.set k b=>h.set k b
 |.push b=>h.push b
 |.move k b=>(h.del k).push b
 |.all a=>a
def storeAt(h:aw)(k i:Nat)(a:List ah):Option dJ:=
 match h.get k with
 |some (.cells cs t b af)=>if i+a.length<=cs.length/\a.all eY then aa (.set k (.cells (cs.take i++a++cs.drop (i+a.length)) t b af))else none
 |_=>none
def ig(h:aw)(a:Nat)(x:ah):Option (List ah×Nat):=
 match x with
 |ae none 0 _=>aa ([],0)
 |ae (aa ⟨_,_,aa _⟩) 0 0=>aa ([],0)
 |ae (aa ⟨k,i,none⟩) n _=>match h.get k with
  |some (.cells cs ..)=>if((cs.drop i).take (n*a)).length=n*a then aa ((cs.drop i).take (n*a),n)else none
  |_=>none
 |bu s=>if a=1 then aa (s.data.toList.map λb=> aB aK b.toNat,s.data.toList.length)else none
 |_=>none
def gF(P:aO)(e:aD):Option TypeInfo:=
 match P.info? e,zeroOf P e with
 |some i,aa z=>if z.cells.size=i.size/\0<i.size then aa i else none
 |_,_=>none
def fD(P:aO)(t:aD):Bool:=match P.underlying t with|some (.slice _)|some .string=>af|_=>ak
def nT(h:aw)(e:aD)(a d:Nat)(k j n c m:Nat)(b:List ah):Option (ah×dJ):=
 if(n+m)*d<=70368744177664/\n+m<=1099511627776 then
  match h.get k with
  | some (.cells cs g f i)=>
   if g=e/\f=a/\((cs.drop j).take (n*a)).length=n*a then
    if c<ft then aa (ae (aa ⟨h.ax,0,none⟩) (n+m) (ft+(n+m)),.push (.cells ((cs.drop j).take (n*a)++b) e a af))
    else if i=af/\cs.length=j+n*a then aa (ae (aa ⟨h.ax,0,none⟩) (n+m) (ft+(n+m)),.move k (.cells ((cs.drop j).take (n*a)++b) e a af))
    else none
   else none
  |_=>none
 else none
def bY (P:aO)(t b:aD)(s x:ah)(h:aw):Option (ah×dJ):=
 match P.underlying t with
 | some (.slice e)=>match gF P e with
  | some i=>
   if fD P b=af then
    match ig h i.size x with
    | some (a,m)=>
     if a.all eY/\a.length=m*i.size then
      match s with
      | ae none 0 0=>if m=0 then aa (s,.no)else
        if m*i.bytes<=70368744177664/\m<=1099511627776 then aa (ae (aa ⟨h.ax,0,none⟩) m (ft+m),.push (.cells a e i.size af))else none
      | ae (aa ⟨k,j,none⟩) n c=>
       if m=0 then aa (s,.no)else
       if n+m<=dk c then
        (storeAt h k (j+n*i.size) a).map λu=>(ae (aa ⟨k,j,none⟩) (n+m) c,u)
       else nT h e i.size i.bytes k j n c m a
      |_=>none
     else none
    |none=>none
   else none
  |none=>none
 |_=>none
def copyV(P:aO)(t:aD)(d s:ah)(h:aw):Option (ah×dJ):=
 match P.underlying t with
 | some (.slice e)=>match cd P e,d with
  | some b,ae a n _=>
   match ig h b s with
   |some (cs,m)=>
    if n=0\/m=0 then aa (aB an 0,.no)else
    match a with
    |some ⟨k,j,none⟩=>(storeAt h k j (cs.take (min m n*b))).map λu=>(aB an (min m n:Nat),u)
    |_=>none
   |none=>none
  |_,_=>none
 |_=>none
def R9(P:aO)(t:aD)(x:ah)(h:aw):Option (ah×dJ):=
 match P.underlying t,x with
 |some (.slice e),ae (aa ⟨k,j,none⟩) n _=>match zeroOf P e with
  |some z=>if n=0 then aa (undef,.no)else(storeAt h k j (eO z.cells.toList n)).map λu=>(undef,u)
  |none=>none
 |_,_=>none
abbrev fT:=ck->List ah->aw->Option (ah×aw)
def yU(c:fT)(f:ah)(b:List ah)(h:aw):Option (ah×dJ):=
 match f with
 |aN (.func g) first a=>if g<YB then(c g (first.toList++b++a.toList) h).map λr=>(r.1,.all r.2)else none
 |aN (.yield k) first a=>if first.size=0/\a.size=0 then(c (YB+k) b h).map λr=>(r.1,.all r.2)else none
 |_=>none
def tD(P:aO)(b:aD)(k v:ah):List (ah×ah)->Option (List (ah×ah))
 |[]=>aa [(k,v)]
 |(a,c)::r=>match Fz P b k a with
  |some af=>aa ((k,v)::r)
  |some ak=>(tD P b k v r).map ((a,c)::·)
  |none=>none
def gM(P:aO)(w:fT)(b:bh->ah)(o:aR)(h:aw):Option (ah×dJ):=
 match o.op with
 |.store t a x=>match b a with
  |aT (aa ⟨k,i,none⟩)=>if cd P t=aa (b x).cells.size then(storeAt h k i (b x).cells.toList).map λu=>(undef,u)else none
  |_=>none
 | .mapUpdate t m k x|.insert t m k x=>match P.underlying t,b m with
  |some (.map p _),.map (aa r)=>match h.get r with
   |some (.map v)=>if uX P p (b k)then(tD P p (b k) (b x) v).map λj=>(undef,.set r (.map j))else none
   |_=>none
  |_,_=>none
 |.call { callee:= .value f,args,.. }=>yU w (b f) (args.toList.map b) h
 |.call { callee:= .builtin .append,args,argTypes }=>match args.toList,argTypes.toList with
  |[s,x],[t,g]=>bY P t g (b s) (b x) h
  |_,_=>none
 |.call { callee:= .builtin .copy,args,argTypes }=>match args.toList,argTypes.toList with
  |[d,s],t::_=>copyV P t (b d) (b s) h
  |_,_=>none
 |.call { callee:= .builtin .clear,args,argTypes }=>match args.toList.map b,argTypes.toList with
  |[x],[t]=>R9 P t x h
  |_,_=>none
 |.call { callee:= .builtin .unsafeSliceData,args,.. }=>match args.toList.map b with
  |[ae none _ _]=>aa (aT none,.no)
  |[ae (aa a) _ c]=>if 0<dk c then aa (aT (aa a),.no)else none
  |_=>none
 | .call { callee:= .builtin .unsafeString,args,argTypes,.. }=>match args.toList.map b,argTypes[0]? with
  |[aT none,aB _ 0],aa _=>aa (strOf [],.no)
  | [aT (aa ⟨k,i,none⟩),aB _ n],aa y=>match h.get k,P.underlying y with
   | some (.cells cs e 1 af),aa (.pointer q)=>
    if e=q/\cd P e=aa 1/\0<n/\n<9223372036854775807/\((cs.drop i).take n.toNat).length=n.toNat then
     match bytesOf ((cs.drop i).take n.toNat)with
     |some l=>aa (strOf l,.set k (.cells cs e 1 ak))
     |none=>none
    else none
   |_,_=>none
  |_,_=>none
 | .convert s d x=>match P.underlying s,P.underlying d,b x with
  |some (.pointer t),aa .unsafePointer,aT (aa ⟨k,0,none⟩)=>match h.get k with
   |some (.cells cs g 0 _)=>if t=g/\cd P t=aa cs.length/\0<cs.length then aa (b x,.no)else none
   |_=>none
  |some .unsafePointer,aa (.pointer t),aT (aa ⟨k,0,none⟩)=>match h.get k with
   |some (.cells cs g 0 _)=>if t=g/\cd P t=aa cs.length/\0<cs.length then aa (b x,.no)else none
   |_=>none
  |_,_,_=>none
 |_=>none
def fM(P:aO)(c:fT)(a:bh->ah)(o:aR)(h:aw):Option (ah×dJ):=
 match eW P a o with
 |some v=>aa (v,.no)
 | none=>match eB P a o h with
  |some v=>aa (v,.no)
  |none=>match dz P a o with
   |some (b,f)=>aa (f h.ax,.push b)
   |none=>gM P c a o h
def lG(a:List ah)(b:Option Tmp)(v:ah):List ah:=
 match b with
 |some d=>a.set d v
 |none=>a
def jN(c:Array aR)(e:List ah)(o:aR):Option Bool:=
 match o.guard with
 |none=>aa af
 | some (j,a)=>match (c[j]?).bind (·.dst)with
  |some d=>match e.getD d undef with
   |ai b=>aa (b==a)
   |av _=>aa ak
   |_=>none
  |none=>none
def qK(P:aO)(d:Nat->Bool)(e:fT)(c:Array aR):List aR->List ah->aw->Option (List ah×aw)
 |[],a,h=>aa (a,h)
 | o::b,a,h=>
  match jN c a o with
  |some af=>match fM P e (ev d a) o h with
   |some (v,u)=>qK P d e c b (lG a o.dst v) (u.app h)
   |none=>none
  |some ak=>qK P d e c b (lG a o.dst undef) h
  |none=>none
def Fu(e:ah->ah->Bool):List ah->List ah->Bool
 |[],[]=>af
 |a::x,b::y=>e a b&&Fu e x y
 |_,_=>ak
def iz:Nat->ah->ah->Bool
 |0,_,_=>ak
 |d+1,v,h=>match v,h with
  |ai a,ai b=>a==b
  |aB k a,aB l b=>decide (k=l)&&decide (a=b)
  |bu a,bu b=>decide (a.data.toList=b.data.toList)
  |aT none,aT none=>af
  |aT (aa ⟨a,i,none⟩),aT (aa ⟨b,j,none⟩)=>decide (a=b)&&decide (i=j)
  |ae none n c,ae none g e=>decide (n=g)&&decide (c=e)
  |ae (aa ⟨a,i,none⟩) n c,ae (aa ⟨b,j,none⟩) g e=>decide (a=b)&&decide (i=j)&&decide (n=g)&&decide (c=e)
  |.map none,.map none=>af
  |.map (aa a),.map (aa b)=>decide (a=b)
  |.nilFunc,.nilFunc=>af
  |.nilIface,.nilIface=>af
  |aN (.func f) a c,aN (.func o) m e=>decide (f=o)&&Fu (iz d) a.toList m.toList&&Fu (iz d) c.toList e.toList
  |.iface t v,.iface p h=>decide (t=p)&&iz d v h
  |aq a,aq b=>Fu (iz d) a.toList b.toList
  |av a,av b=>Fu (iz d) a.toList b.toList
  |_,_=>ak
inductive sW where
 |skip
 |pure (v:ah)
 |read (v:ah)
 |alloc (B:eE) (v:ah)
 |yk (v:ah) (h:aw)
 deriving Inhabited
def sW.val:sW->ah
 |.skip=>undef
 |.pure v|.read v|.alloc _ v|.yk v _=>v
def bS(h:aw)(a:Nat):List (Nat×eE)->aw
 |[]=>h
 |(i,B)::r=>(bS h a r).set (a+i) B
def ij (P:aO)(i:Nat->Bool)(k:fT)(e:Array aR)(g:Nat->Nat->Bool)(a:Nat):List aR->Nat->List ah->aw->List (Nat×eE)->Option (List (List ah×sW)×List ah×aw×List (Nat×eE))
 |[],_,b,h,d=>aa ([],b,h,d)
 | o::c,j,b,h,d=>
  match jN e b o with
  |none=>none
  |some ak=>(ij P i k e g a c (j+1) (lG b o.dst undef) h d).map λr=>((b,.skip)::r.1,r.2)
  | some af=>
   match eW P (ev i b) o with
   |some v=>(ij P i k e g a c (j+1) (lG b o.dst v) h d).map λr=>((b,.pure v)::r.1,r.2)
   | none=>
    match eB P (ev i b) o h with
    |some v=>(ij P i k e g a c (j+1) (lG b o.dst v) h d).map λr=>((b,.read v)::r.1,r.2)
    | none=>
     match dz P (ev i b) o with
     |some (B,f)=>(ij P i k e g a c (j+1) (lG b o.dst (f (a+j))) h ((j,B)::d)).map λr=>((b,.alloc B (f (a+j)))::r.1,r.2)
     | none=>
      match gM P k (ev i b) o (bS h a (d.filter λp=>g j p.1))with
      | some (v,u)=>
       (ij P i k e g a c (j+1) (lG b o.dst v) (u.app (bS h a (d.filter λp=>g j p.1))) (d.filter λp=> !g j p.1)).map λr=>
        ((b,.yk v (u.app (bS h a (d.filter λp=>g j p.1))))::r.1,r.2)
      |none=>none
def ju{a:Type}:List (a×sW)->Nat->List (Nat×aw)
 |[],_=>[]
 |(_,.yk _ h)::r,j=>(j,h)::ju r (j+1)
 |_::r,j=>ju r (j+1)
def chained(a:Nat->Nat->Bool):List (Nat×aw)->Bool
 |(i,_)::(j,h)::r=>a j i&&chained a ((j,h)::r)
 |_=>af
def ox(P:aO)(a:Nat->Bool)(o:aR)(b:List ah)(v:ah)(h:aw):Bool:=
 match eB P (ev a b) o h with
 |some c=>iz 4 v c
 |none=>ak
def qR(P:aO)(c:Nat->Bool)(b:Nat->Nat->Bool)(j:Nat)(o:aR)(d:List ah)(v:ah):aw->List (Nat×aw)->Bool->Bool
 |h,[],a=>a||ox P c o d v h
 |h,(e,f)::r,a=>((a&&dj j e)||b j e||ox P c o d v h)&&(b e j||qR P c b j o d v f r (dj e j))
def mJ(P:aO)(b:Nat->Bool)(a:Nat->Nat->Bool)(h:aw)(d:List (Nat×aw)):List aR->List (List ah×sW)->Nat->Bool
 |o::c,(e,.read v)::r,j=>qR P b a j o e v h d af&&mJ P b a h d c r (j+1)
 |_::c,_::r,j=>mJ P b a h d c r (j+1)
 |_,_,_=>af
def Am(P:aO)(e:Nat->Bool)(i:fT)(a:Array aR)(c:Nat->Nat->Bool)(f:List ah)(h:aw):Option (List ah×aw):=
 match ij P e i a c h.ax a.toList 0 f { h with ax:=h.ax+a.size } []with
 |some (b,d,g,j)=>
  if chained c (ju b 0)&&mJ P e c { h with ax:=h.ax+a.size } (ju b 0) a.toList b 0 then aa (d,bS g h.ax j)else none
 |none=>none
def age(o:aR):Bool:=match o.op with|.insert .. =>af|_=>ak
def ajy(o:aR):Bool:=match o.op with|.store .. =>af|_=>ak
def BI(a:Array aR):Bool:=
 a.toList.any age&&(dL a.size).any λj=>(match a[j]? with|some o=>ajy o|none=>ak)&&(dL j).any λi=>(match a[i]? with|some o=>age o|none=>ak) && !gy (lK a) j i
def mI:ck->List ah->aw->Option (ah×aw):=λ_ _ _=>none
def ND(P:aO)(a:bh->ah)(o:aR)(k:Nat)(h:aw):Option (ah×Option (Nat×eE)):=
 match eW P a o with
 |some v=>aa (v,none)
 | none=>match eB P a o h with
  |some v=>aa (v,none)
  | none=>match dz P a o with
   |some (b,f)=>aa (f k,aa (k,b))
   |none=>match gM P mI a o h with
    |some (v,.no)=>aa (v,none)
    |some (v,.set i b)=>aa (v,aa (i,b))
    |_=>none
abbrev Fc:=List ah×aw×List Nat
def IE(s:Fc)(a:Option Tmp)(v:ah):Option (Nat×eE)->Fc
 |none=>(lG s.1 a v,s.2.1,s.2.2)
 |some (k,b)=>(lG s.1 a v,s.2.1.set k b,k::s.2.2)
def D6(P:aO)(c:Nat->Bool)(a:Array aR)(b j:Nat)(s:Fc):Option Fc:=
 match a[j]? with
 | some o=>match jN a s.1 o with
  |some af=>match ND P (ev c s.1) o (b+j) s.2.1 with
   |some (v,u)=>aa (IE s o.dst v u)
   |none=>none
  |some ak=>aa (IE s o.dst undef none)
  |none=>none
 |none=>none
def F9(P:aO)(c:Nat->Bool)(b:Array aR)(a:Nat):Nat->Nat->Fc->Option Fc
 |0,_,s=>aa s
 |n+1,j,s=>match D6 P c b a j s with
  |some d=>F9 P c b a n (j+1) d
  |none=>none
def BK:List (ah×ah)->List (ah×ah)->Bool
 |[],[]=>af
 |(a,b)::x,(c,d)::y=>iz 4 a c&&iz 4 b d&&BK x y
 |_,_=>ak
def Fp:eE->eE->Bool
 |.cells cs t e g,.cells b h d c=>Fu (iz 4) cs b&&dx t h&&dx e d&&(g==c)
 |.map f,.map a=>BK f a
 |_,_=>ak
def V8(h a:aw)(k:Nat):Bool:=match h.get k,a.get k with
 |some B,aa C=>Fp B C
 |none,none=>af
 |_,_=>ak
def Lc(s a:Fc):Bool:=Fu (iz 4) s.1 a.1&&s.2.2.all (V8 s.2.1 a.2.1)&&a.2.2.all (V8 s.2.1 a.2.1)
def OZ(P:aO)(e:Nat->Bool)(b:Array aR)(d:Nat->Nat->Bool)(c:Nat)(fin:Fc):Nat->List Nat->Fc->Bool
 |0,_,s=>Lc fin s
 |n+1,a,s=>(dL b.size).all λj=>a.contains j||((dL j).any λi=>d j i && !a.contains i)||(match D6 P e b c j s with|some f=>OZ P e b d c fin n (j::a) f|none=>ak)
def CO(P:aO)(b:Nat->Bool)(a:Array aR)(d:Nat->Nat->Bool)(c:List ah)(h:aw):Option (List ah×aw):=
 match F9 P b a h.ax a.size 0 (c,{ h with ax:=h.ax+a.size },[])with
 |some fin=>if OZ P b a d h.ax fin a.size [] (c,{ h with ax:=h.ax+a.size },[])then aa (fin.1,fin.2.1)else none
 |none=>none
def Fs(P:aO)(b:Nat->Bool)(d:fT)(a:Array aR)(c:List ah)(h:aw):Option (List ah×aw):=
 if BI a then CO P b a (gy (lK a)) c h else Am P b d a (gy (lK a)) c h
def iter(a:List ah->aw->Option (Exit×List ah×aw)):Nat->List ah->aw->Option (Exit×List ah×aw)
 |0,_,_=>none
 |n+1,c,h=>match a c h with
  |some (.normal,b,d)=>iter a n b d
  |r=>r
def yX(P:aO)(g:ck):Bool:=match P.funcs[g]? with|some a=>a.body.isSome|none=>ak
def Vc:Option eE->Option Exit
 |some (.loop .ready ..)=>aa .normal
 |some (.loop .ret ..)=>aa .ret
 |some (.loop (.exit a) ..)=>aa (.exit a)
 |_=>none
def du(P:aO)(i:Nat->Bool)(j:fT)(N:Nat):Code->List ah->aw->Option (Exit×List ah×aw)
 |.skip,d,h=>aa (.normal,d,h)
 |.region _ m ak,d,h=>(qK P i j m m.toList d h).map λr=>(.normal,r.1,r.2)
 |.region _ m af,d,h=>(Fs P i j m d h).map λr=>(.normal,r.1,r.2)
 |.seq a b,d,h=>match du P i j N a d h with
  |some (.normal,l,o)=>du P i j N b l o
  |r=>r
 |.cond c a b,d,h=>match ev i d c with
  |ai t=>if t then du P i j N a d h else du P i j N b d h
  |_=>none
 |.block s c,d,h=>match du P i j N c d h with
  |some (.exit q,l,o)=>if q=s then aa (.normal,l,o)else aa (.exit q,l,o)
  |r=>r
 |.loop c,d,h=>iter (du P i j N c) N d h
 |.exit s,d,h=>aa (.exit s,d,h)
 |.ret,d,h=>aa (.ret,d,h)
 |.label _,d,h=>aa (.normal,d,h)
 | .rangeFunc f v p n,d,h=>match ev i d f with
  | aN (.func g) first k=>
   if w:rE p n=af then
    if g<YB/\yX P g=af then
     match j g (first.toList++[.func (.yield h.ax) #[] #[]]++k.toList) (h.push (.loop .ready d v.toList p n w))with
     |some (_,u)=>(Vc (u.get h.ax)).map λe=>(e,d,u.del h.ax)
     |none=>none
    else none
   else none
  |_=>none
 |_,_,_=>none
def zU(a:List ah)(b:List (Tmp×ah)):List ah:=b.foldl (λa p=>a.set p.1 p.2) a
def P0:Exit->Option (Bool×LSt)
 |.normal=>aa (af,.ready)
 |.ret=>aa (ak,.ret)
 |.exit a=>aa (ak,.exit a)
 |_=>none
def wq(f:Code->List ah->aw->Option (Exit×List ah×aw))(k:Nat)(a:List ah)(h:aw):Option (ah×aw):=
 match h.get k with
 | some (.loop .ready w v m g _)=>
  if a.length=v.length then
   match f m (zU w (v.zip a)) h with
   | some (.normal,t,p)=>match p.get k with
    | some (.loop .ready l s i c q)=>match f g t (p.set k (.loop .busy l s i c q))with
     |some (e,_,r)=>match r.get k,P0 e with
      |some (.loop _ n o j d u),aa (b,x)=>aa (ai b,r.set k (.loop x n o j d u))
      |_,_=>none
     |none=>none
    |_=>none
   |_=>none
  else none
 |_=>none
def gw(P:aO)(b:List ah)(h:aw):List ResultVar->Option (List ah)
 |[]=>aa []
 |.tmp t::r=>(gw P b h r).map (b.getD t undef::·)
 |.cell a t::r=>match aM P t h (b.getD a undef)with
  |some v=>(gw P b h r).map (v::·)
  |none=>none
def fW:List ah->ah
 |[v]=>v
 |a=> av a.toArray
abbrev tw:=fT->List ah->aw->Option (ah×aw)
def dS(P:aO)(b:Nat->Bool)(g:ck->Option tw):Nat->fT
 |0,_,_,_=>none
 | n+1,f,a,h=>if YB<=f then wq (du P b (dS P b g n) n) (f-YB) a h else match g f with
  |some p=>p (dS P b g n) a h
  | none=>match P.funcs[f]? with
   | some e=>match e.body with
    |some c=>match du P b (dS P b g n) n c (a++aH (e.ntmps-a.length) undef) h with
     |some (.normal,j,d)=>(gw P j d e.results.toList).map λi=>(fW i,d)
     |some (.ret,j,d)=>(gw P j d e.results.toList).map λi=>(fW i,d)
     |_=>none
    |none=>none
   |none=>none
end
end Go.Ab
end
section
namespace Go.Ab
variable{v:ah}{V:Array ah}{w:ah}{A:Type}
section
theorem HT.get_nil:∀p,HT.get p .nil=none
 |.e=>rfl
 |.l _=>rfl
 |.r _=>rfl
theorem HT.hC(b:Option eE):∀(p:Mu)(t:HT),HT.get p (HT.set b p t)=b
 |.e,.nil=>rfl
 |.e,.node .. =>rfl
 |.l p,.nil=>HT.hC b p .nil
 |.l p,.node _ l _=>HT.hC b p l
 |.r p,.nil=>HT.hC b p .nil
 |.r p,.node _ _ r=>HT.hC b p r
theorem HT.fp(b:Option eE):∀(p q:Mu)(t:HT),q≠p->HT.get q (HT.set b p t)=HT.get q t
 |.e,.e,_,h=>absurd rfl h
 |.e,.l q,.nil,_=>HT.get_nil q
 |.e,.r q,.nil,_=>HT.get_nil q
 |.e,.l _,.node ..,_=>rfl
 |.e,.r _,.node ..,_=>rfl
 |.l p,.e,.nil,_=>rfl
 |.l p,.e,.node ..,_=>rfl
 |.l p,.l q,.nil,h=>(HT.fp b p q .nil (λe=>h (by rw[e]))).trans (HT.get_nil q)
 |.l p,.l q,.node _ l _,h=>HT.fp b p q l (λe=>h (by rw[e]))
 |.l p,.r q,.nil,_=>HT.get_nil q
 |.l p,.r q,.node ..,_=>rfl
 |.r p,.e,.nil,_=>rfl
 |.r p,.e,.node ..,_=>rfl
 |.r p,.r q,.nil,h=>(HT.fp b p q .nil (λe=>h (by rw[e]))).trans (HT.get_nil q)
 |.r p,.r q,.node _ _ r,h=>HT.fp b p q r (λe=>h (by rw[e]))
 |.r p,.l q,.nil,_=>HT.get_nil q
 |.r p,.l q,.node ..,_=>rfl
def Mu.num:Mu->Nat
 |.e=>0
 |.l p=>2*p.num+1
 |.r p=>2*p.num+2
theorem Lw:∀(f n:Nat),n<f->(I2 f n).num=n
 |0,_,h=>absurd h (by omega)
 |f+1,0,_=>rfl
 |f+1,k+1,h=>by
  have c:=Lw f (k/2) (by omega);have b:I2 (f+1) (k+1)=Nat.rec (motive:=λ_=>Mu) (.l (I2 f (k/2))) (λ_ _=> .r (I2 f (k/2))) (k%2):=rfl;rw[b];rcases Nat.mod_two_eq_zero_or_one k with a|a
  ·rw[a];show 2*(I2 f (k/2)).num+1=k+1;omega
  ·rw[a];show 2*(I2 f (k/2)).num+2=k+1;omega
theorem SZ(n:Nat):(pathOf n).num=n:=Lw (n+1) n (by omega)
theorem Az{k j:Nat}(h:j≠k):pathOf j≠pathOf k:=λe=>h (by grind[SZ])
section
variable (h:aw) (k j:Nat) (b:eE)
theorem aw.hC:(h.set k b).get k=aa b:=HT.hC _ _ _
theorem aw.fp(a:j≠k):(h.set k b).get j=h.get j:=HT.fp _ _ _ _ (Az a)
theorem aw.Na:(h.del k).get k=none:=HT.hC _ _ _
theorem aw.SA(a:j≠k):(h.del k).get j=h.get j:=HT.fp _ _ _ _ (Az a)
theorem aw.mV:(h.push b).get h.ax=aa b:=HT.hC _ _ _
theorem aw.nW(a:j≠h.ax):(h.push b).get j=h.get j:=HT.fp _ _ _ _ (Az a)
@[simp] theorem aw.ajO:(h.set k b).ax=h.ax:=rfl
@[simp] theorem aw.ajN:(h.del k).ax=h.ax:=rfl
@[simp] theorem aw.aiA:(h.push b).ax=h.ax+1:=rfl
theorem aw.bZ:(h.set k b).get j=if j=k then aa b else h.get j:=by
 split
 ·next e=>subst e;exact h.hC j b
 ·next e=>exact h.fp k j b e
theorem aw.iX:(h.del k).get j=if j=k then none else h.get j:=by
 split
 ·next e=>subst e;exact h.Na j
 ·next e=>exact h.SA k j e
theorem aw.cZ:(h.push b).get j=if j=h.ax then aa b else h.get j:=by
 split
 ·next e=>subst e;exact h.mV b
 ·next e=>exact h.nW j b e
end
structure Slot where
 b:Nat
 s:Nat
 n:Nat
 t:aD
 sz:Nat
 isMap:Bool
abbrev gR:=Nat->Option Slot
def gR.le(c a:gR):Prop:=∀k b,c k=aa b->a k=aa b
theorem gR.le_refl(a:gR):a.le a:=λ_ _ h=>h
theorem gR.le_trans{a b c:gR}(h:a.le b)(e:b.le c):a.le c:=λk d f=>e k d (h k d f)
def aeg:Fn->Bool
 |.yield _=>af
 |_=>ak
inductive cA(β:gR):ah->ah->Prop where
 |rj (v:ah):cA β (.chan (aa 0)) v
 |bool (b:Bool):cA β (ai b) (ai b)
 |int (k:ei) (n:Int):cA β (aB k n) (aB k n)
 |float (k:FloatKind) (n:Nat):cA β (.float k n) (.float k n)
 |complex (k:FloatKind) (m n:Nat):cA β (.complex k m n) (.complex k m n)
 |string (s:ByteArray):cA β (bu s) (bu s)
 |nilPtr:cA β (aT none) (aT none)
 |ptr {k i:Nat} {sl:Slot} (h:β k=aa sl) (hm:sl.isMap=ak):cA β (cn k i) (cn sl.b (sl.s+i))
 |sE:cA β (ae none 0 0) (ae none 0 0)
 | slice {k i n c i' c':Nat} {sl:Slot} (h:β k=aa sl) (hm:sl.isMap=ak) (hx:c<ft->c'=c) (ho:ft<=c->c-ft<=c') (hn:n<=dk c)
   (hi:i'=sl.s+i\/(n=0/\c'=0)) (hz:sl.sz=0\/i'+c'*sl.sz<=sl.n):cA β (gG k i n c) (gG sl.b i' n c')
 |dead (a:aF):cA β (ae (aa ⟨0,0,aa 0⟩) 0 0) (ae (aa a) 0 0)
 |SX:cA β (.map none) (.map none)
 |map {k:Nat} {sl:Slot} (h:β k=aa sl) (hm:sl.isMap=af):cA β (.map (aa k)) (.map (aa sl.b))
 | func {fn:Fn} {a a' c c':Array ah} (hy:aeg fn=ak) (ha:a.size=a'.size) (hc:c.size=c'.size) (ra:∀(i:Nat) v v',a[i]?=aa v->a'[i]?=aa v'->cA β v v')
   (rc:∀(i:Nat) v v',c[i]?=aa v->c'[i]?=aa v'->cA β v v'):cA β (aN fn a c) (aN fn a' c')
 |yield {k:Nat} {sl:Slot} (h:β k=aa sl) {a c:Array ah} (ha:a.size=0) (hc:c.size=0):cA β (aN (.yield k) a c) (aN (.yield sl.b) a c)
 |nilFunc:cA β .nilFunc .nilFunc
 |iface (t:aD) {v v':ah} (h:cA β v v'):cA β (.iface t v) (.iface t v')
 |nilIface:cA β .nilIface .nilIface
 |agg {a a':Array ah} (hs:a.size=a'.size) (h:∀(i:Nat) v v',a[i]?=aa v->a'[i]?=aa v'->cA β v v'):cA β (aq a) (aq a')
 |tuple {a a':Array ah} (hs:a.size=a'.size) (h:∀(i:Nat) v v',a[i]?=aa v->a'[i]?=aa v'->cA β v v'):cA β (av a) (av a')
theorem cA.mono{q j:gR}(e:q.le j){v c:ah}(h:cA q v c):cA j v c:=by
 induction h with
 |rj v=>exact .rj v
 |bool b=>exact .bool b
 |int k n=>exact .int k n
 |float k n=>exact .float k n
 |complex k m n=>exact .complex k m n
 |string s=>exact .string s
 |nilPtr=>exact .nilPtr
 |ptr h f=>exact .ptr (e _ _ h) f
 |sE=>exact .sE
 |slice h f u z r y A=>exact .slice (e _ _ h) f u z r y A
 |dead a=>exact .dead a
 |SX=>exact .SX
 |map h f=>exact .map (e _ _ h) f
 |yield h o p=>exact .yield (e _ _ h) o p
 |func B o p _ _ x w=>exact .func B o p (λi v c h d=>x i v c h d) (λi v c h d=>w i v c h d)
 |nilFunc=>exact .nilFunc
 |iface t _ g=>exact .iface t g
 |nilIface=>exact .nilIface
 |agg l _ g=>exact .agg l λi v c h d=>g i v c h d
 |tuple l _ g=>exact .tuple l λi v c h d=>g i v c h d
theorem cA.undef(a:gR):cA a undef undef:= .tuple rfl (λi v b h=>by grind)
theorem cA.Du{a:gR}(h:bare v=af):cA a v v:=by
 unfold bare at h;split at h<;>first
  |exact .bool _|exact .int _ _|exact .float _ _|exact .complex _ _ _|exact .string _|exact .nilPtr|exact .sE|exact .SX|exact .nilFunc|exact .nilIface
  |cases h
theorem cA.zu{b:gR}{cs:Array ah}(h:cs.toList.all bare=af)(i:Nat)(v a:ah)(c:cs[i]?=aa v)(d:cs[i]?=aa a):cA b v a:=by grind[Du]
theorem cA.uy{c:gR}(h:plain v=af):cA c v v:=by
 unfold plain at h;split at h
 ·exact .agg rfl (cA.zu h)
 ·refine .tuple rfl λi v d a b=>?_;rw[a]at b;obtain rfl:=aC b;rw[<-getElem?_toList]at a;have:=cw.1 h v (aI a);split at this
  ·exact .agg rfl (cA.zu this)
  ·exact .Du this
 grind[Du]
def nL(d:gR)(a b:Array ah):Prop:=a.size=b.size/\∀(i:Nat) v c,a[i]?=aa v->b[i]?=aa c->cA d v c
def dE(b:gR)(l l':List ah):Prop:=l.length=l'.length/\∀(i:Nat) v a,l[i]?=aa v->l'[i]?=aa a->cA b v a
theorem nL.toList{b:gR}{a:Array ah}:nL b a V↔dE b a.toList V.toList:=by simp[nL,dE]
theorem dE.nil(a:gR):dE a [] []:=⟨rfl,λi v b h=>by grind⟩
theorem dE.cons{b:gR}{v d:ah}{l l':List ah}(h:cA b v d)(c:dE b l l'):dE b (v::l) (d::l'):=
 ⟨by simp[c.1],λi a e f g=>by
  cases i with
  |zero=>grind
  |succ i=>exact c.2 i a e (by grind) (by grind)⟩
theorem dE.head{a:gR}{l l':List ah}(h:dE a (v::l) (w::l')):cA a v w:=h.2 0 v w rfl rfl
theorem dE.tail{b:gR}{l l':List ah}(h:dE b (v::l) (w::l')):dE b l l':=
 ⟨by have:=h.1;grind,λi a c d e=>h.2 (i+1) a c (by grind) (by grind)⟩
theorem dE.jD{a:gR}{l:List ah}(h:dE a [] l):l=[]:=aY h.1.symm
theorem dE.gm{b:gR}{l l':List ah}(h:dE b (v::l) l'):∃a r,l'=a::r/\cA b v a/\dE b l r:=by
 cases l' with
 |nil=>have:=h.1;grind
 |cons a r=>exact⟨a,r,rfl,h.head,h.tail⟩
theorem dE.mono{c a:gR}(b:c.le a){l l':List ah}(h:dE c l l'):dE a l l':=⟨h.1,λi v f d e=>(h.2 i v f d e).mono b⟩
theorem dE.append{e:gR}:∀{a c b d:List ah},dE e a c->dE e b d->dE e (a++b) (c++d)
 |[],c,b,d,h,f=>by rw[h.jD];grind
 |v::a,c,b,d,h,f=>by
  obtain⟨j,r,rfl,g,i⟩:=h.gm;exact .cons g (i.append f)
theorem dE.map{b:gR}(l:List A){f a:A->ah}(h:∀x∈l,cA b (f x) (a x)):dE b (l.map f) (l.map a):=
 ⟨by simp,λi v e c d=>by grind⟩
theorem cA.TI{b:gR}(h:cA b v w)(a:eY v=af):w.oneCell'=af/\v.cells = #[v]/\w.cells = #[w]:=by
 cases h<;>first|(simp[eY]at a;done)|exact⟨rfl,rfl,rfl⟩
theorem cA.cells{d:gR}(h:cA d v w)(g:v≠Ab.rj):nL d v.cells w.cells:=by
 cases h with
 |rj=>grind
 |agg e h=>exact⟨e,h⟩
 |_=>
  refine⟨rfl,λi a f b c=>?_⟩
  cases i with
  |zero=>simp[Value.cells]at b c;subst b;subst c;constructor<;>assumption
  |succ i=>simp[Value.cells]at b
end
end Go.Ab
end
section
namespace Go.Ab
open Go
variable{n:Nat}{v:ah}
noncomputable section
def HT.kE(b:Option eE)(t:HT)(K:HT->Bool):Bool:=HT.rec (motive:=λ_=>Bool) (K (.node b .nil .nil)) (λ_ l r _ _=>K (.node b l r)) t
def HT.kL(a:HT->(HT->Bool)->Bool)(t:HT)(K:HT->Bool):Bool:=HT.rec (motive:=λ_=>Bool) (a .nil λl=>K (.node none l .nil)) (λv l r _ _=>a l λl=>K (.node v l r)) t
def HT.kR(a:HT->(HT->Bool)->Bool)(t:HT)(K:HT->Bool):Bool:=HT.rec (motive:=λ_=>Bool) (a .nil λr=>K (.node none .nil r)) (λv l r _ _=>a r λr=>K (.node v l r)) t
def HT.wc(b:Option eE)(p:Mu):HT->(HT->Bool)->Bool:=Mu.rec (motive:=λ_=>HT->(HT->Bool)->Bool) (HT.kE b) (λ_=>HT.kL) (λ_=>HT.kR) p
theorem HT.lh(b:Option eE):∀(p:Mu)(t:HT)(K:HT->Bool),HT.wc b p t K=K (HT.set b p t)
 |.e,.nil,_=>rfl
 |.e,.node ..,_=>rfl
 |.l p,.nil,K=>HT.lh b p .nil λl=>K (.node none l .nil)
 |.l p,.node v l r,K=>HT.lh b p l λl=>K (.node v l r)
 |.r p,.nil,K=>HT.lh b p .nil λr=>K (.node none .nil r)
 |.r p,.node v l r,K=>HT.lh b p r λr=>K (.node v l r)
abbrev Env:=HT
def HY:Env:= .nil
def ai7(l:List ah):ah:=gC (motive:=λ_=>ah) undef (λv _ _=>v) l
def ai6(B:eE):ah:=eE.rec (motive:=λ_=>ah) (λcs _ _ _=>ai7 cs) (λ_=>undef) (λ_ _ _ _ _ _=>undef) B
def ai8(b:Option eE):ah:=gj (motive:=λ_=>ah) undef ai6 b
def Env.get(t:Nat)(e:Env):ah:=ai8 (HT.get (pathOf t) e)
def Env.put(t:Nat)(e:Env)(v:ah)(K:Env->Bool):Bool:=HT.wc (aa (.cells [v] 0 0 af)) (pathOf t) e K
def Env.new(t:Nat)(e:Env)(v:ah):Env:=HT.set (aa (.cells [v] 0 0 af)) (pathOf t) e
theorem Env.put_eq(t:Nat)(e:Env)(v:ah)(K:Env->Bool):Env.put t e v K=K (Env.new t e v):=HT.lh ..
theorem HZ(t:Nat):Env.get t HY=undef:=by
 unfold Env.get HY;rw[HT.get_nil];rfl
theorem Env.Nb{t:Nat}{e:Env}(a:t<256):Env.get n (Env.new t e v)=if n=t then v else Env.get n e:=by
 unfold Env.get Env.new;by_cases h:n=t
 ·rw[h,HT.hC,iP rfl];rfl
 ·rw[HT.fp _ _ _ _ (Az h),iN h]
end
variable{u:ei}
section
noncomputable section
variable {α:Type}
def tA(n:Nat)(c:Nat->Bool):Bool:=Nat.rec (motive:=λ_=>Bool) (c 0) (λm _=>c (m+1)) n
def ajl(n:Int)(c:Int->Bool):Bool:=Int.rec (motive:=λ_=>Bool) (λn=>tA n λn=>c (.ofNat n)) (λn=>tA n λn=>c (.negSucc n)) n
def Wd(a:Bool)(x:Option α)(K:α->Bool):Bool:=gj (motive:=λ_=>Bool) a K x
def px(b:Bool)(x y:Bool):Bool:=Bool.rec (motive:=λ_=>Bool) y x b
def UU(a:Option aF)(K:Option aF->Bool):Bool:=gj (motive:=λ_=>Bool) (K none) (λc=>Addr.rec (motive:=λ_=>Bool) (λb o s=>tA b λb=>tA o λo=>K (aa ⟨b,o,s⟩)) c) a
def ajp(k:ei)(n:Int)(K:ah->Bool):Bool:=ajl n λn=>K (aB k n)
def ajq(a:Option aF)(K:ah->Bool):Bool:=UU a λa=>K (.pointer a)
def aeb(a:Option aF)(n c:Nat)(K:ah->Bool):Bool:=UU a λa=>tA n λn=>tA c λc=>K (ae a n c)
def vA(v:ah):(ah->Bool)->Bool:=Value.rec (motive_1:=λ_=>(ah->Bool)->Bool) (motive_2:=λ_=>Unit) (motive_3:=λ_=>Unit) (λb K=>K (ai b)) ajp (λk n K=>K (.float k n)) (λk m n K=>K (.complex k m n)) (λs K=>K (bu s)) ajq aeb (λr K=>K (.map r)) (λr K=>K (.chan r)) (λf a c _ _=>(λf a c K=>K (aN f a c)) f a c) (λK=>K .nilFunc) (λt v _=>(λt v K=>K (.iface t v)) t v) (λK=>K .nilIface) (λa _=>(λa K=>K (aq a)) a) (λa _=>(λa K=>K (av a)) a) (λ_ _=>()) () (λ_ _ _ _=>()) v
def O6(v:ah):Bool->(Bool->Bool)->Bool:=Value.rec (motive_1:=λ_=>Bool->(Bool->Bool)->Bool) (motive_2:=λ_=>Unit) (motive_3:=λ_=>Unit) (λb _ K=>K b) (λ_ _ d _=>d) (λ_ _ d _=>d) (λ_ _ _ d _=>d) (λ_ d _=>d) (λ_ d _=>d) (λ_ _ _ d _=>d) (λ_ d _=>d) (λ_ d _=>d) (λf a c _ _=>(λ_ _ _ d _=>d) f a c) (λd _=>d) (λt v _=>(λ_ _ d _=>d) t v) (λd _=>d) (λa _=>(λ_ d _=>d) a) (λa _=>(λ_ d _=>d) a) (λ_ _=>()) () (λ_ _ _ _=>()) v
theorem ZE(v:ah)(a:Bool)(K:Bool->Bool):(O6 v a K=a/\∀b,v≠ ai b)\/ ∃b,v=ai b/\O6 v a K=K b:=by
 cases v<;>first|exact .inr ⟨_,rfl,rfl⟩|exact .inl ⟨rfl,by intros;simp⟩
def funcF(v:ah):Bool->(Fn->Array ah->Array ah->Bool)->Bool:=Value.rec (motive_1:=λ_=>Bool->(Fn->Array ah->Array ah->Bool)->Bool) (motive_2:=λ_=>Unit) (motive_3:=λ_=>Unit) (λ_ b _=>b) (λ_ _ b _=>b) (λ_ _ b _=>b) (λ_ _ _ b _=>b) (λ_ b _=>b) (λ_ b _=>b) (λ_ _ _ b _=>b) (λ_ b _=>b) (λ_ b _=>b) (λf a c _ _=>(λf a c _ K=>K f a c) f a c) (λb _=>b) (λt v _=>(λ_ _ b _=>b) t v) (λb _=>b) (λa _=>(λ_ b _=>b) a) (λa _=>(λ_ b _=>b) a) (λ_ _=>()) () (λ_ _ _ _=>()) v
theorem PI(v:ah)(b:Bool)(K:Fn->Array ah->Array ah->Bool):(funcF v b K=b/\∀f a c,v≠ aN f a c)\/ ∃f a c,v=aN f a c/\funcF v b K=K f a c:=by
 cases v<;>first|exact .inr ⟨_,_,_,rfl,rfl⟩|exact .inl ⟨rfl,by intros;simp⟩
def ajx(k:ei):ei->Bool:=jt (motive:=λ_=>ei->Bool) (jt (motive:=λ_=>Bool) af ak ak ak ak ak ak ak) (jt (motive:=λ_=>Bool) ak af ak ak ak ak ak ak) (jt (motive:=λ_=>Bool) ak ak af ak ak ak ak ak) (jt (motive:=λ_=>Bool) ak ak ak af ak ak ak ak) (jt (motive:=λ_=>Bool) ak ak ak ak af ak ak ak) (jt (motive:=λ_=>Bool) ak ak ak ak ak af ak ak) (jt (motive:=λ_=>Bool) ak ak ak ak ak ak af ak) (jt (motive:=λ_=>Bool) ak ak ak ak ak ak ak af) k
theorem aee{k:ei}(h:ajx k u=af):k=u:=by cases k<;>cases u<;>first|rfl|cases h
def agd(a b:Int):Bool:=Int.rec (motive:=λ_=>Bool) (λm=>Int.rec (motive:=λ_=>Bool) (λn=>dx m n) (λ_=>ak) b) (λm=>Int.rec (motive:=λ_=>Bool) (λ_=>ak) (λn=>dx n m) b) a
def EC(l:List ah):(List ah->Bool)->Bool:=gC (motive:=λ_=>(List ah->Bool)->Bool) (λK=>K []) (λa _ b K=>b λr=>K (a::r)) l
def Py(b:eE)(K:eE->Bool):Bool:=eE.rec (motive:=λ_=>Bool) (λcs t d g=>EC cs λcs=>K (.cells cs t d g)) (λf=>K (.map f)) (λh e i c a j=>K (.loop h e i c a j)) b
def acX(k:Nat)(b:eE)(h:aw)(K:aw->Bool):Bool:=Py b λb=>HT.wc (aa b) (pathOf k) h.t λt=>K ⟨h.ax,t⟩
def E8(b:eE)(h:aw)(K:aw->Bool):Bool:=Py b λb=>HT.wc (aa b) (pathOf h.ax) h.t λt=>tA h.ax λn=>K ⟨n+1,t⟩
def Ug(k:Nat)(b:eE)(h:aw)(K:aw->Bool):Bool:=Py b λb=>HT.wc none (pathOf k) h.t λt=>HT.wc (aa b) (pathOf h.ax) t λt=>tA h.ax λn=>K ⟨n+1,t⟩
def adp(u:dJ):aw->(aw->Bool)->Bool:=dJ.rec (motive:=λ_=>aw->(aw->Bool)->Bool) (λh K=>K h) acX E8 Ug (λh _ K=>K h) u
structure Cx where
 P:aO
 gl:Nat->Bool
 cf:ck->List ah->aw->(ah->aw->Bool)->Bool
 N:Nat
 n:Nat
 bad:Bool
abbrev RU:=Cx->aR->(bh->ah)->aw->(ah->aw->Bool)->Bool
def XB(a:Bool)(r:Option (ah×dJ))(h:aw)(K:ah->aw->Bool):Bool:=Wd a r λr=>Prod.rec (motive:=λ_=>Bool) (λv u=>adp u h λh=>vA v λv=>K v h) r
def gen:RU:=λa o b h K=>XB a.bad (fM a.P mI b o h) h K
def R8:RU:=λa _ _ _ _=>a.bad
def fArgs(b:bh->ah)(l:List bh):(List ah->Bool)->Bool:=gC (motive:=λ_=>(List ah->Bool)->Bool) (λK=>K []) (λx _ a K=>vA (b x) λv=>a λr=>K (v::r)) l
def fnF(b:Fn)(a:Bool)(K:ck->Bool)(Y:Nat->Bool):Bool:=Fn.rec (motive:=λ_=>Bool) K (λ_=>a) (λ_ _=>a) (λ_ _ _ _=>a) Y b
def EA(a:Array ah):Bool:=gC (motive:=λ_=>Bool) af (λ_ _ _=>ak) a.toList
def MI(f:bh)(d:Array bh)(_:Array aD):RU:=λb _ e h K=>funcF (e f) b.bad λi first a=>fnF i b.bad
 (λg=>px (dj g YB) (fArgs e d.toList λc=>EC (first.toList++c++a.toList) λc=>b.cf g c h K) b.bad)
 (λk=>px (EA first) (px (EA a) (fArgs e d.toList λc=>tA (YB+k) λj=>b.cf j c h K) b.bad) b.bad)
def Wi(_:Builtin)(_:Array bh)(_:Array aD):RU:=gen
def ZK(_:bh)(_:String)(_:Array bh)(_:Array aD):RU:=R8
def ag7(a:Callee)(b:Array bh)(c:Array aD):RU:=Callee.rec (motive:=λ_=>Array bh->Array aD->RU) MI ZK Wi a b c
def af5(c:Call):RU:=Call.rec (motive:=λ_=>RU) ag7 c
def af6(x:bh):RU:=λ_ _ a h K=>vA (a x) λv=>K v h
def ai5(t:aD)(x:bh):RU:=λa _ b h K=>Wd a.bad (aM a.P t h (b x)) λv=>vA v λv=>K v h
def M8:RU:=λa o b h K=>Wd a.bad (eW a.P b o) λv=>vA v λv=>K v h
def akR:RU:=λa o b h K=>XB a.bad (gM a.P mI b o h) h K
def opF(a:Op):RU:=Op.rec (motive:=λ_=>RU) af6 af6 (λ_ _ _=>M8) (λ_=>gen) (λ_ _=>gen) (λ_ _=>gen) (λ_ _ _=>gen) (λ_ _ _ _=>gen) ai5 (λ_ _ _=>akR) (λ_=>gen) (λ_=>gen) (λ_=>M8) (λ_ _ _ _ _=>M8) (λ_ _ _=>M8) (λ_ _ _=>gen) (λ_ _=>gen) (λ_ _=>gen) (λ_ _ _=>gen) (λ_ _=>gen) (λ_ _=>gen) (λ_ _ _=>gen) (λ_ _ _ _ _=>gen) (λ_ _ _=>M8) (λ_ _ _=>M8) (λ_ _ _=>M8) (λ_ _ _=>M8) (λ_ _ _ _=>gen) (λ_ _ _ _=>gen) (λ_ _ _=>gen) (λ_ _ _ _=>gen) (λ_ _=>gen) (λ_ _=>gen) (λ_=>gen) (λ_ _ _ _=>gen) (λ_ _=>gen) af5 (λ_=>R8) (λ_=>R8) (λ_=>R8) (λ_ _=>R8) (λ_ _ _=>R8) (λ_ _=>R8) a
def adI(b:Bool)(x y:ah):ah:=Bool.rec (motive:=λ_=>ah) y x b
def ajk(t:Tmp)(_:Nat->Bool)(e:Env):ah:=Env.get t e
def ad2(v:ah)(_:Nat->Bool)(_:Env):ah:=adI (plain v) v rj
def Z9(g:Nat)(a:Nat->Bool)(_:Env):ah:=adI (a g) (aT (aa ⟨g,0,none⟩)) rj
def ahh(f:ck)(_:Nat->Bool)(_:Env):ah:= .func (.func f) #[] #[]
def US(a:Nat->Bool)(e:Env)(x:bh):ah:=Operand.rec (motive:=λ_=>(Nat->Bool)->Env->ah) ajk ad2 Z9 ahh x a e
def aaq(a:Array aR)(j:Nat):Option Tmp:=(a[j]?).bind (·.dst)
def Iu(v:ah):Bool->(Bool->Bool)->Bool->Bool:=Value.rec (motive_1:=λ_=>Bool->(Bool->Bool)->Bool->Bool) (motive_2:=λ_=>Unit) (motive_3:=λ_=>Unit) (λb _ K _=>K b) (λ_ _ d _ _=>d) (λ_ _ d _ _=>d) (λ_ _ _ d _ _=>d) (λ_ d _ _=>d) (λ_ d _ _=>d) (λ_ _ _ d _ _=>d) (λ_ d _ _=>d) (λ_ d _ _=>d) (λf a c _ _=>(λ_ _ _ d _ _=>d) f a c) (fun  d _ _=>d) (λt v _=>(λ_ _ d _ _=>d) t v) (fun  d _ _=>d) (λa _=>(λ_ d _ _=>d) a) (λa _=>(λ_ _ _ e=>e) a) (λ_ _=>()) () (λ_ _ _ _=>()) v
def A0(n:Nat)(a:Option Tmp)(e:Env)(v:ah)(K:Env->Bool):Bool:=gj (motive:=λ_=>Bool) (K e) (λd=>px (dj d n) (Env.put d e v K) (K e)) a
def JD(k:Array aR)(e:Env)(i:Bool)(h:Option (Nat×Bool))(f:Bool)(a:Bool):Bool:=
 gj (motive:=λ_=>Bool) f (λg=>Prod.rec (motive:=λ_=>Bool) (λj c=>Wd i (aaq k j) λd=>Iu (Env.get d e) i (λb=>Bool.rec (motive:=λ_=>Bool) (px c a f) (px c f a) b) a) g) h
def ahG(a:Cx)(b:Array aR)(o:aR)(e:Env)(h:aw)(K:Env->aw->Bool):Bool:=
 JD b e a.bad o.guard (opF o.op a o (US a.gl e) h λv h=>A0 a.n o.dst e v λe=>K e h) (A0 a.n o.dst e undef λe=>K e h)
def Qt(b:Cx)(a:Array aR)(l:List aR):Env->aw->(Env->aw->Bool)->Bool:=
 gC (motive:=λ_=>Env->aw->(Env->aw->Bool)->Bool) (λe h K=>K e h) (λo _ c e h K=>ahG b a o e h λe h=>c e h K) l
inductive Cls where
 |p|r|e|d
def ai9(a:Callee)(_:Array bh)(_:Array aD):Cls:=Callee.rec (motive:=λ_=>Cls) (λ_=> .e) (λ_ _=> .d)
 (λb=>Builtin.rec (motive:=λ_=>Cls) .e .d .d .d .d .d .d .d .r .d .d .d .d .d .d .d .d .d .d .d .d .d .d .d .d .d b) a
def akM(c:Call):Cls:=Call.rec (motive:=λ_=>Cls) ai9 c
def Wp(a:Op):Cls:=Op.rec (motive:=λ_=>Cls) (λ_=> .p) (λ_=> .p) (λ_ _ _=> .p) (λ_=> .d) (λ_ _=> .d) (λ_ _=> .d) (λ_ _ _=> .d) (λ_ _ _ _=> .d) (λ_ _=> .r) (λ_ _ _=> .e) (λ_=> .d) (λ_=> .d) (λ_=> .p) (λ_ _ _ _ _=> .p) (λ_ _ _=> .p) (λ_ _ _=> .d) (λ_ _=> .d) (λ_ _=> .d) (λ_ _ _=> .d) (λ_ _=> .d) (λ_ _=> .d) (λ_ _ _=> .d) (λ_ _ _ _ _=> .d) (λ_ _ _=> .p) (λ_ _ _=> .p) (λ_ _ _=> .p) (λ_ _ _=> .p) (λ_ _ _ _=> .d) (λ_ _ _ _=> .d) (λ_ _ _=> .d) (λ_ _ _ _=> .d) (λ_ _=> .d) (λ_ _=> .d) (λ_=> .d) (λ_ _ _ _=> .d) (λ_ _=> .p) akM (λ_=> .d) (λ_=> .d) (λ_=> .d) (λ_ _=> .d) (λ_ _ _=> .d) (λ_ _=> .d) a
def vj(a:Nat)(l:List (Nat×eE))(h:aw)(K:aw->Bool):Bool:=
 gC (motive:=λ_=>(aw->Bool)->Bool) (λK=>K h) (λx _ c K=>Prod.rec (motive:=λ_=>Bool) (λi b=>c λh=>HT.wc (aa b) (pathOf (a+i)) h.t λt=>K ⟨h.ax,t⟩) x) l K
abbrev agB:=sW->ah->aw->List (Nat×eE)->Bool
def ahg(a:Cx)(d:Nat->Nat->Bool)(c j:Nat)(o:aR)(e:bh->ah)(h:aw)(b:List (Nat×eE))(K:agB):Bool:=
 gj (motive:=λ_=>Bool) (gj (motive:=λ_=>Bool) (gj (motive:=λ_=>Bool)
   (vj c (b.filter λp=>d j p.1) h λh=>XB a.bad (gM a.P mI e o h) h λv g=>K (.yk v g) v g (b.filter λp=> !d j p.1))
   (λd=>Prod.rec (motive:=λ_=>Bool) (λB f=>Py B λB=>vA (f (c+j)) λv=>K (.alloc B v) v h ((j,B)::b)) d) (dz a.P e o))
  (λv=>vA v λv=>K (.read v) v h b) (eB a.P e o h)) (λv=>vA v λv=>K (.pure v) v h b) (eW a.P e o)
def ZU(c:Cx)(e:Nat->Nat->Bool)(b j:Nat)(o:aR)(d:bh->ah)(h:aw)(a:List (Nat×eE))(K:agB):Bool:=
 Cls.rec (motive:=λ_=>Bool) (opF o.op c o d h λv _=>K (.pure v) v h a) (opF o.op c o d h λv _=>K (.read v) v h a)
  (vj b (a.filter λp=>e j p.1) h λh=>opF o.op c o d h λv f=>K (.yk v f) v f (a.filter λp=> !e j p.1))
  (ahg c e b j o d h a K) (Wp o.op)
abbrev Mw:=aR×Env×sW
def qy(c:Cx)(n:Array aR)(q:Nat->Nat->Bool)(k:Nat)(l:List aR):Nat->Env->aw->List (Nat×eE)->(List Mw->Env->aw->List (Nat×eE)->Bool)->Bool:=
 gC (motive:=λ_=>Nat->Env->aw->List (Nat×eE)->(List Mw->Env->aw->List (Nat×eE)->Bool)->Bool) (λ_ e h b K=>K [] e h b)
  (λo _ p j e h b K=>JD n e c.bad o.guard
   (ZU c q k j o (US c.gl e) h b λm v h b=>A0 c.n o.dst e v λf=>p (j+1) f h b λa i g d=>K ((o,e,m)::a) i g d)
   (A0 c.n o.dst e undef λf=>p (j+1) f h b λa i g d=>K ((o,e,.skip)::a) i g d)) l
def ajf(a:sW)(j:Nat)(r:List (Nat×aw)):List (Nat×aw):=sW.rec (motive:=λ_=>List (Nat×aw)) r (λ_=>r) (λ_=>r) (λ_ _=>r) (λ_ h=>(j,h)::r) a
def Lb(l:List Mw):Nat->List (Nat×aw):=gC (motive:=λ_=>Nat->List (Nat×aw)) (λ_=>[]) (λx _ a j=>ajf x.2.2 j (a (j+1))) l
def Ey(b:Nat->Nat->Bool)(l:List (Nat×aw)):Option Nat->Bool:=
 gC (motive:=λ_=>Option Nat->Bool) (λ_=>af) (λx _ a p=>gj (motive:=λ_=>Bool) (a (aa x.1)) (λp=>px (b x.1 p) (a (aa x.1)) ak) p) l
def LU(P:aO)(o:aR)(b:bh->ah)(v:ah)(h:aw):Bool:=gj (motive:=λ_=>Bool) ak (λa=>iz 4 v a) (eB P b o h)
def Hh(P:aO)(b:Nat->Nat->Bool)(j:Nat)(o:aR)(c:bh->ah)(v:ah)(e:List (Nat×aw)):aw->Bool->Bool:=
 gC (motive:=λ_=>aw->Bool->Bool) (λh a=>px a af (LU P o c v h))
  (λx _ d h a=>px (px (px a (dj j x.1) ak) af (px (b j x.1) af (LU P o c v h))) (px (b x.1 j) af (d x.2 (dj x.1 j))) ak) e
def agq(b:Cx)(c:Nat->Nat->Bool)(h:aw)(d:List (Nat×aw))(j:Nat)(o:aR)(e:Env)(a:sW)(r:Bool):Bool:=
 sW.rec (motive:=λ_=>Bool) r (λ_=>r) (λv=>px (Hh b.P c j o (US b.gl e) v d h af) r ak) (λ_ _=>r) (λ_ _=>r) a
def NT(b:Cx)(a:Nat->Nat->Bool)(h:aw)(d:List (Nat×aw))(l:List Mw):Nat->Bool:=
 gC (motive:=λ_=>Nat->Bool) (λ_=>af) (λx _ c j=>agq b a h d j x.1 x.2.1 x.2.2 (c (j+1))) l
def Pk(d:Cx)(b:Array aR)(c:Nat->Nat->Bool)(e:Env)(h:aw)(K:Env->aw->Bool):Bool:=
 tA (h.ax+b.size) λg=>qy d b c h.ax b.toList 0 e ⟨g,h.t⟩ [] λa i f j=>
  px (px (Ey c (Lb a 0) none) (NT d c ⟨g,h.t⟩ (Lb a 0) a 0) ak) (vj h.ax j f λf=>K i f) d.bad
abbrev sj:=Cx->Env->aw->(Exit->Env->aw->Bool)->Bool
def qE(e:Exit)(b:Bool)(c:Nat->Bool)(a:Bool):Bool:=Exit.rec (motive:=λ_=>Bool) b c (λ_=>a) a (λ_=>a) a e
def agf:sj:=λ_ e h K=>K .normal e h
def akX(a b:sj):sj:=λc e h K=>a c e h λx e h=>qE x (b c e h K) (λd=>K (.exit d) e h) (K x e h)
def ajz(c:bh)(a b:sj):sj:=λd e h K=>O6 (US d.gl e c) d.bad λt=>px t (a d e h K) (b d e h K)
def aht(d:Nat)(a:sj):sj:=λc e h K=>a c e h λx e h=>qE x (K .normal e h) (λb=>px (dx b d) (K .normal e h) (K (.exit b) e h)) (K x e h)
def ajB(a:sj):sj:=λb e h K=>
 Nat.rec (motive:=λ_=>Env->aw->Bool) (λ_ _=>b.bad) (λ_ d e h=>a b e h λx e h=>qE x (d e h) (λc=>K (.exit c) e h) (K x e h)) b.N e h
def ajA(a:Nat):sj:=λ_ e h K=>K (.exit a) e h
def akW:sj:=λ_ e h K=>K .ret e h
def ahs:sj:=λa _ _ _=>a.bad
def tmF(e:Env)(n:Nat):Nat->(List ah->Bool)->Bool:=Nat.rec (motive:=λ_=>Nat->(List ah->Bool)->Bool) (λ_ K=>K []) (λ_ a i K=>vA (Env.get i e) λv=>a (i+1) λl=>K (v::l)) n
def Fx(l:List ah):Nat->Env->(Env->Bool)->Bool:=gC (motive:=λ_=>Nat->Env->(Env->Bool)->Bool) (λ_ e K=>K e) (λv _ a i e K=>vA v λv=>Env.put i e v λe=>a (i+1) e K) l
def fHT(t:HT):(HT->Bool)->Bool:=HT.rec (motive:=λ_=>(HT->Bool)->Bool) (λK=>K .nil) (λv _ _ b a K=>b λl=>a λr=>gj (motive:=λ_=>Bool) (K (.node none l r)) (λB=>Py B λB=>K (.node (aa B) l r)) v) t
def ado(a:Cx)(b:Array aR)(e:Env)(h:aw)(K:Env->aw->Bool):Bool:=
 tmF e a.n 0 λl=>gj (motive:=λ_=>Bool) a.bad (λr=>px (dx r.1.length a.n) (Fx r.1 0 HY λe=>tA r.2.ax λc=>fHT r.2.t λt=>K e ⟨c,t⟩) a.bad) (CO a.P a.gl b (gy (lK b)) l h)
def aek(_:Nat)(a:Array aR)(c:Bool):sj:=λb e h K=>px c (px (BI a) (ado b a e h λe h=>K .normal e h) (Pk b a (gy (lK a)) e h λe h=>K .normal e h)) (Qt b a a.toList e h λe h=>K .normal e h)
def okF(c a:Code)(d:Bool)(K:rE c a=af->Bool):Bool:=Bool.rec (motive:=λb=>rE c a=b->Bool) (λ_=>d) K (rE c a) rfl
def yl(b:Option eE)(a:Bool)(K:LSt->List ah->List Tmp->(d c:Code)->rE d c=af->Bool):Bool:=
 gj (motive:=λ_=>Bool) a (λb=>eE.rec (motive:=λ_=>Bool) (λ_ _ _ _=>a) (λ_=>a) K b) b
def U9(c:LSt)(a:Bool)(K:Exit->Bool):Bool:=LSt.rec (motive:=λ_=>Bool) (K .normal) a (K .ret) (λb=>K (.exit b)) c
def Jf(b:LSt)(a x:Bool):Bool:=LSt.rec (motive:=λ_=>Bool) x a a (λ_=>a) b
def aaQ(x:Exit)(a:Bool)(K:Bool->LSt->Bool):Bool:=Exit.rec (motive:=λ_=>Bool) (K af .ready) (λb=>K ak (.exit b)) (λ_=>a) (K ak .ret) (λ_=>a) a x
def abE(n:Nat)(l:List (Tmp×ah)):Env->(Env->Bool)->Bool:=gC (motive:=λ_=>Env->(Env->Bool)->Bool) (λe K=>K e) (λp _ a e K=>A0 n (aa p.1) e p.2 λe=>a e K) l
def SG(f:bh)(o:Array Tmp)(d c:Code):sj:=λa e h K=>funcF (US a.gl e f) a.bad λk first b=>fnF k a.bad (λg=>okF d c a.bad λp=>px (dj g YB) (px (yX a.P g)
 (tmF e a.n 0 λl=>EC (first.toList++[.func (.yield h.ax) #[] #[]]++b.toList) λj=>E8 (.loop .ready l o.toList d c p) h λm=>a.cf g j m λ_ i=>
  yl (i.get h.ax) a.bad λn _ _ _ _ _=>U9 n a.bad λx=>HT.wc none (pathOf h.ax) i.t λt=>K x e ⟨i.ax,t⟩) a.bad) a.bad) (λ_=>a.bad)
def codeF(c:Code):sj:=
 Code.rec (motive:=λ_=>sj) agf aek (λ_ _=>akX) (λc _ _=>ajz c) (λd _=>aht d) (λ_=>ajB) (λf e b a _ _=>SG f e b a) ajA (λ_ _=>ahs) (λ_=>agf) (λ_=>ahs) akW (λ_=>ahs) c
def QV(P:aO)(e:Env)(h:aw)(c:Bool)(l:List ResultVar):(List ah->Bool)->Bool:=
 gC (motive:=λ_=>(List ah->Bool)->Bool) (λK=>K []) (λr _ d K=>ResultVar.rec (motive:=λ_=>Bool) (λt=>vA (Env.get t e) λv=>d λb=>K (v::b)) (λa t=>Wd c (aM P t h (Env.get a e)) λv=>d λb=>K (v::b)) r) l
def afg(x:Exit)(a r:Bool):Bool:=Exit.rec (motive:=λ_=>Bool) r (λ_=>a) (λ_=>a) r (λ_=>a) a x
def Ou(z:Nat->Cx)(a:Bool)(k:Nat)(c:List ah)(h:aw)(K:ah->aw->Bool):Bool:=
 yl (h.get k) a λC u B q g _=>Jf C a (px (dx c.length B.length) (tA u.length λn=>px (Nat.ble n 256)
  (Fx u 0 HY λe=>abE n (B.zip c) e λe=>codeF q (z n) e h λx e i=>qE x
   (yl (i.get k) a λy p w l d v=>Jf y a (HT.wc (aa (.loop .busy p w l d v)) (pathOf k) i.t λt=>codeF g (z n) e ⟨i.ax,t⟩ λx _ j=>
    yl (j.get k) a λ_ r s m f A=>aaQ x a λb o=>HT.wc (aa (.loop o r s m f A)) (pathOf k) j.t λt=>K (ai b) ⟨j.ax,t⟩))
   (λ_=>a) a) a) a)
abbrev yg:=(ck->List ah->aw->(ah->aw->Bool)->Bool)->List ah->aw->(ah->aw->Bool)->Bool
def Bc(P:aO)(j:Nat->Bool)(o:ck->Option (yg))(a:Bool)(i:Nat):ck->List ah->aw->(ah->aw->Bool)->Bool:=
 Nat.rec (motive:=λ_=>ck->List ah->aw->(ah->aw->Bool)->Bool) (λ_ _ _ _=>a)
  (λn g f b h K=>px (Nat.ble YB f) (tA (f-YB) λk=>Ou (λm=>⟨P,j,g,n,m,a⟩) a k b h K) (gj (motive:=λ_=>Bool)
   (Wd a (P.funcs[f]?) λd=>Wd a d.body λc=>px (Nat.ble d.ntmps 256&&Nat.ble b.length d.ntmps)
    (Fx b 0 HY λe=>codeF c ⟨P,j,g,n,d.ntmps,a⟩ e h λx e h=>afg x a (QV P e h a d.results.toList λl=>K (fW l) h)) a)
   (λp=>p g b h K) (o f))) i
end
noncomputable def aQ(P:aO)(t:aD)(a x:ah)(h:aw):Option (ah×dJ):=match a with
 |aT (aa ⟨k,i,none⟩)=>if cd P t=aa x.cells.size then(storeAt h k i x.cells.toList).map λu=>(undef,u)else none
 |_=>none
end
variable{z:Int}{b:Bool}{k:Nat}{i:Nat}{w:ah}{V:Array ah}{c:List ah}{T:aD}
section
variable {β:gR} {P:aO}
theorem cA.il{k:ei}(h:cA β (aB k z) v):v=aB k z:=by cases h;rfl
theorem cA.qH(h:cA β (ai b) v):v=ai b:=by cases h;rfl
theorem cA.kh{s:ByteArray}(h:cA β (bu s) v):v=bu s:=by cases h;rfl
theorem cA.Ap(h:cA β (cn k i) v):∃a,β k=aa a/\a.isMap=ak/\v=cn a.b (a.s+i):=by
  cases h with
  |ptr h b=>grind
theorem cA.uW{a:aF}(h:cA β (bN a) v):∃b,β a.block=aa b/\b.isMap=ak/\a.spot=none/\v=cn b.b (b.s+a.off):=by
  cases h with
  |ptr h c=>grind
theorem cA.tE{a:Array ah}(h:cA β (aq a) v):∃b,v=aq b/\nL β a b:=by
  cases h with
  |agg c h=>exact⟨_,rfl,c,h⟩
theorem cA.Aq{a:Array ah}(h:cA β (av a) v):∃b,v=av b/\nL β a b:=by
  cases h with
  |tuple c h=>exact⟨_,rfl,c,h⟩
theorem cA.WY{t:aD}(h:cA β (.iface t v) w):∃u,w = .iface t u/\cA β v u:=by
  cases h with
  |iface _ h=>grind
theorem cA.Nh(h:cA β .nilIface v):v = .nilIface:=by cases h;rfl
theorem cA.la{c:Nat}(h:cA β (ae none n c) v):n=0/\c=0/\v=ae none 0 0:=by cases h;grind
theorem cA.Ng(h:cA β (.map (aa k)) v):∃a,β k=aa a/\a.isMap=af/\v = .map (aa a.b):=by
  cases h with
  |map h b=>grind
theorem cA.Iy(h:cA β (.map none) v):v = .map none:=by cases h;rfl
theorem cA.SE(h:cA β (aT none) v):v=aT none:=by cases h;rfl
theorem cA.lP{c:Nat}(h:cA β (gG k i n c) v):∃a d b,β k=aa a/\a.isMap=ak/\(none:Option Nat)=none/\v=gG a.b d n b/\
    (c<ft->b=c)/\(ft<=c->c-ft<=b)/\n<=dk c/\(d=a.s+i\/(n=0/\b=0))/\(a.sz=0\/d+b*a.sz<=a.n):=by
  cases h with
  |slice h f g l e j m=>grind
theorem cA.BO{a:aF}{c:Nat}(h:cA β (ae (aa a) n c) v):(∃k i,a=⟨k,i,none⟩)\/(a=⟨0,0,aa 0⟩/\n=0/\c=0/\∃b,v=ae (aa b) 0 0):=by
  cases h with
  |slice h e f j d g l=>grind
  |dead a=>grind
theorem cA.PS{a:aF}{c:Nat}(h:cA β (ae (aa a) n c) v):∃d b,v=ae (aa d) n b:=by
  cases h with
  |slice h f g j e i k=>grind
  |dead a=>grind
theorem nL.get{a:Array ah}(h:nL β a V){i:Nat}{v:ah}(c:a[i]?=aa v):∃d,V[i]?=aa d/\cA β v d:=by
  have e:i<a.size:=(Array.getElem?_eq_some_iff.1 c).1;have b:i<V.size:=h.1▸e;exact⟨V[i],getElem?_eq_getElem b,h.2 i v _ c (getElem?_eq_getElem b)⟩
theorem dE.get{a:List ah}(h:dE β a c){i:Nat}{v:ah}(d:a[i]?=aa v):∃e,c[i]?=aa e/\cA β v e:=by
  have f:i<a.length:=(List.getElem?_eq_some_iff.1 d).1;have b:i<c.length:=h.1▸f;exact⟨c[i],gE b,h.2 i v _ d (gE b)⟩
theorem cS{t:aD}{d:TypeDesc}(h:P.underlying t=aa d)(w:aU):(underlying t).run P w = .ok d w:=run_underlying h w
theorem zM{t:aD}{i:TypeInfo}(h:P.info? t=aa i)(w:aU):(typeInfo t).run P w = .ok i w:=by simp[typeInfo,h]
theorem tM{t:aD}(h:cd P t=aa n):∃i,P.info? t=aa i/\i.size=n:=by simp_all[cd]
theorem iH{t:aD}(h:cd P t=aa n)(w:aU):(sizeOf t).run P w = .ok n w:=by
  obtain⟨i,a,rfl⟩:=tM h;simp[sizeOf,zM a]
theorem jS{t:aD}{z:ah}(h:zeroOf P t=aa z):plain z=af/\∃i,P.info? t=aa i/\i.zero=aa z:=by
  unfold zeroOf at h
  grind
theorem uG{t:aD}{z:ah}(h:zeroOf P t=aa z)(w:aU):(zeroValue t).run P w = .ok z w:=by
  obtain⟨_,i,a,b⟩:=jS h
  simp_all[zM,zeroValue]
theorem AF{t:aD}{d:TypeDesc}(h:P.underlying t=aa d)(w:aU):(Go.isAgg t).run P w = .ok (Ab.isAgg P t) w:=by
  simp only[Go.isAgg,aV,cS h,aJ,Ab.isAgg,h]
  cases d<;>rfl
theorem HN:∀x y:List UInt8,wK x y=Op.bytesLess x y
  |[],[]=>rfl
  |_::_,[]=>rfl
  |[],_::_=>rfl
  |a::x,b::y=>by simp[wK,Op.bytesLess,HN x y]
theorem Zz{a b:ByteArray}(h:a.data.toList=b.data.toList):a=b:=by
  cases a;simp_all
theorem Xk(a b:ByteArray):(⟨(a.data.toList++b.data.toList).toArray⟩:ByteArray)=a++b:=by rfl
theorem YN{a:BinOp}{x y:ByteArray}(h:Ma a x.data.toList y.data.toList=aa v)(w:aU):(Op.stringOp a x y).run P w = .ok v w:=by
  unfold Ma at h;unfold Op.stringOp;simp only[ByteArray.toList_eq]
  cases a<;>simp only[]at h<;>first
    |(simp only[bc]at h;subst h;simp[HN];done)
    |(cases h;done)
    |skip
  split at h
  · next b=>
    obtain rfl:=aC h;simp only[eS,run_unsupported,bt];rw[iN]
    · simp only[strOf,Xk]
    · have c:x.data.toList.length=x.size:=by simp
      have d:y.data.toList.length=y.size:=by simp
      rw[c,d]at b;have:an.max=9223372036854775807:=by decide
      omega
  grind
theorem WX{c:BinOp}{t:aD}{k:ei}{a b:Int}(h:cm P c t (aB k a) (aB u b)=aa v)(w:aU):(binOp c t (aB k a) (aB u b)).run P w = .ok v w:=by
  simp only[cm]at h;unfold binOp
  cases c<;>simp only[]at h<;>first
    | (split at h
       · next d=>
         obtain rfl:=aC h;simp only[Op.shift,eS];rw[iN (by omega)];rfl
       grind)
    | (split at h
       · next e=>
         subst e;simp only[ne_eq,not_true_eq_false,if_false]
         first
           |(obtain rfl:=aC h;rfl)
           | (split at h
              · cases h
              · next d=>obtain rfl:=aC h;simp[Op.intDiv,d])
           |(obtain⟨r,hr,rfl⟩:=bq.1 h;exact intCmp_sim hr w)
       · cases h)
theorem K4(a b:ByteArray):(a.data.toList==b.data.toList)=(a==b):=by grind[beq_toListBytes,ByteArray.toList_eq]
theorem Ia{x:ah}{t:aD}(a:H0 P t x v=aa b)(d:Nat)(w:aU):(gx (d+1) t x v).run P w = .ok b w:=by
  unfold H0 at a
  grind[run_equalIn_bool',run_equalIn_int,run_equalIn_string,ByteArray.toList_eq]
theorem Ft{x:ah}{t:aD}(a:H0 P t x v=aa b):∃d,P.underlying t=aa d/\isAgg P t=ak:=by
  unfold H0 at a
  grind[isAgg]
theorem DY{t:aD}{d:TypeDesc}(c:P.underlying t=aa d)(e:isAgg P t=ak){cs:Array ah}{a:Nat}{v:ah}(b:cs[a]?=aa v)(w:aU):(part t cs a).run P w = .ok v w:=by simp_all[AF,part]
theorem Ic{c e:Array ah}(d:Nat)(w:aU):∀(a:List Field)(i:Nat)(l m:List ah){b:Bool},c.toList.drop i=l->e.toList.drop i=m->rC P a i l m=aa b->
    (Op.eqFields (d+1) c e a).run P w = .ok b w
  |[],_,_,_,b,_,_,h=>by simp only[rC]at h;obtain rfl:=aC h;rfl
  |f::a,i,[],_,b,_,_,h=>by grind[rC]
  |f::a,i,_::_,[],b,_,_,h=>by grind[rC]
  | f::a,i,x::l,y::m,b,o,n,h=>by
    simp only[rC]at h;split at h
    · next z=>
      obtain⟨s,u⟩:=z;have p:c[f.offset]?=aa x:=by
        have:(c.toList.drop i)[0]?=aa x:=by rw[o];rfl
        rw[getElem?_drop]at this;rw[s,<-getElem?_toList];simpa using this
      have t:e[f.offset]?=aa y:=by
        have:(e.toList.drop i)[0]?=aa y:=by rw[n];rfl
        rw[getElem?_drop]at this;rw[s,<-getElem?_toList];simpa using this
      have q:c.toList.drop (i+1)=l:=by rw[<-drop_drop,o];rfl
      have r:e.toList.drop (i+1)=m:=by rw[<-drop_drop,n];rfl
      unfold Op.eqFields;rw[iP u];split at h
      · next j=>
        obtain⟨v,g,k⟩:=Ft j;simp only[aV,DY g k p,DY g k t,aJ,Ia j d];simp only[Bool.not_true,dM,if_false];exact Ic d w a (i+1) l m q r h
      · next j=>
        obtain⟨v,g,k⟩:=Ft j;obtain rfl:=aC h;simp only[aV,DY g k p,DY g k t,aJ,Ia j d];rfl
      · cases h
    grind
theorem Ps{x d:ah}{t:aD}(h:H0 P t x v=aa b)(a:cA β x w)(c:cA β v d):w=x/\d=v:=by
  unfold H0 at h;split at h
  · exact⟨a.qH,c.qH⟩
  · exact⟨a.il,c.il⟩
  · exact⟨a.kh,c.kh⟩
  grind
theorem Ib:∀(a:List Field)(i:Nat){l m l' d:List ah}{b:Bool},rC P a i l m=aa b->dE β l l'->dE β m d->rC P a i l' d=aa b
  |[],_,_,_,_,_,_,h,_,_=>by grind[rC]
  |f::a,i,[],_,_,_,b,h,_,_=>by grind[rC]
  |f::a,i,_::_,[],_,_,b,h,_,_=>by grind[rC]
  | f::a,i,x::l,y::m,l',d,b,h,o,n=>by
    obtain⟨r,l',rfl,e,g⟩:=o.gm;obtain⟨q,d,rfl,k,j⟩:=n.gm;simp only[rC]at h⊢;split at h
    · next p=>
      rw[iP p];split at h
      · next c=>
        obtain⟨rfl,rfl⟩:=Ps c e k;rw[c];exact Ib a (i+1) h g j
      · next c=>
        obtain⟨rfl,rfl⟩:=Ps c e k;rw[c];exact h
      · cases h
    grind
theorem E0{t:aD}(d:Nat)(c:P.underlying t=aa (.pointer T)){n:Nat}(b:cd P T=aa n)(e:n≠0)(a:aF)(w:aU):
    (gx (d+1) t (bN a) (bN a)).run P w = .ok af w:=by
  simp only[gx,aV,cS c,aJ,iH b,eS]
  simp_all[sameAddr]
set_option maxHeartbeats 4000000 in
theorem Pu{t:aD}{x y p l:ah}{b:Bool}(h:wQ P t x y=aa b)(f:cA β x p)(g:cA β y l)(w:aU)(d:Nat):(gx (d+1+1) t p l).run P w = .ok b w:=by
  unfold wQ at h;split at h
  · cases f.qH;cases g.qH
    split at h
    · next c=>obtain rfl:=aC h;exact run_equalIn_bool' w (d+1) t _ _ c
    · cases h
  · cases f
    split at h
    · next c=>obtain rfl:=aC h;cases g<;>simp only[gx,aV,cS c,aJ,bt]<;>rfl
    · cases h
  · cases g
    split at h
    · next c=>obtain rfl:=aC h;cases f<;>simp only[gx,aV,cS c,aJ,bt]<;>rfl
    · cases h
  · next a r=>
    split at h
    · next e c=>
      split at h
      · next k=>
        obtain rfl:=aC h;obtain⟨rfl,o⟩:=k;obtain⟨B,u,_,_,rfl⟩:=f.uW;obtain⟨A,q,_,_,rfl⟩:=g.uW;rw[u]at q;obtain rfl:=aC q
        cases i:cd P e with
        |none=>simp[i]at o
        |some n=>exact E0 (d+1) c i (by simpa[i]using o) _ w
      · cases h
    · cases h
  · cases f
    split at h
    · next c=>obtain rfl:=aC h;cases g<;>simp only[gx,aV,cS c,aJ,bt]<;>rfl
    · cases h
  · cases g
    split at h
    · next c=>obtain rfl:=aC h;cases f<;>simp only[gx,aV,cS c,aJ,bt]<;>rfl
    · cases h
  · cases f
    split at h
    · next c=>obtain rfl:=aC h;cases g<;>simp only[gx,aV,cS c,aJ,bt]<;>rfl
    · cases h
  · cases g
    split at h
    · next c=>obtain rfl:=aC h;cases f<;>simp only[gx,aV,cS c,aJ,bt]<;>rfl
    · cases h
  all_goals first
    | (cases f<;>cases g <;>
       (split at h
        · next c=>obtain rfl:=aC h;simp only[gx,aV,cS c,aJ,bt]
        · cases h)
       done)
    |skip
  · obtain⟨v,rfl,z⟩:=f.tE
    obtain⟨r,rfl,s⟩:=g.tE;split at h
    · next j c=>
      split at h
      · next k=>
        have m:P.fieldsOf t=j:=by simp[Program.fieldsOf,c]
        rw[run_equalIn_struct w (d+1) t v r (by rw[m];exact c) k.1,m];exact Ic d w j.toList 0 _ _ (by simp) (by simp) (Ib j.toList 0 h (nL.toList.1 z) (nL.toList.1 s))
      · cases h
    · cases h
  grind
theorem WH{t:aD}{x a:ah}(h:wQ P t x v=aa b)(c:cA β x w)(e:cA β v a)(d:aU):(Op.equal t w a).run P d = .ok b d:=
  Pu h c e d 9998
theorem Ie{t:aD}{x a:ah}(h:wQ P t x v=aa b)(c:cA β x w)(e:cA β v a)(f:BinOp)(j g:bh)(d:aU):
    (eqGuard f t j g w a).run P d = .ok () d/\(binOp .eql t w a).run P d = .ok (ai b) d/\(binOp .neq t w a).run P d = .ok (.bool !b) d:=by
  have i:=WH h c e d;unfold wQ at h;split at h
  all_goals first
    |(cases h;done)
    | (obtain⟨l,rfl,n⟩:=c.tE
       obtain⟨m,rfl,k⟩:=e.tE;split at h
       all_goals simp_all[run_eqGuard_agg,binOp])
    |(cases c<;>cases e<;>(refine⟨?_,?_,?_⟩<;>first|(simp only[binOp,aV,i,aJ,bt];done)|(cases f<;>rfl)))
theorem Wb{c:BinOp}{t:aD}{xo yo:bh}{x g:ah}{m:ah}(h:cm P c t x v=aa m)(d:cA β x w)(e:cA β v g)(j:aU):
    (do eqGuard c t xo yo w g;binOp c t w g:Sem ah).run P j = .ok m j/\cA β m m:=by
  have o:=h;unfold cm at h;split at h
  · next k a p b=>
    cases d.il;cases e.il
    refine⟨?_,?_⟩
    · simp_all[WX,eqGuard]
    · clear o
      cases c<;>simp only[]at h<;>first
        | (split at h
           · first
             |(obtain rfl:=aC h;exact .int _ _)
             |(obtain⟨r,q,rfl⟩:=bq.1 h;exact .bool _)
             | (split at h
                · cases h
                · obtain rfl:=aC h;exact .int _ _)
           · cases h
           done)
  · next a b=>
    cases d.kh;cases e.kh
    refine⟨?_,?_⟩
    · have i:(eqGuard c t xo yo (.string a) (.string b)).run P j = .ok () j:=by cases c<;>rfl
      grind[aV,aJ,YN,binOp]
    · unfold Ma at h
      cases c<;>simp only[]at h<;>first
        |(obtain rfl:=aC h;exact .bool _)
        | (split at h
           · obtain rfl:=aC h;exact .string _
           grind)
        |(cases h;done)
  · cases c<;>simp only[]at h<;>first
      |(cases h;done)
      | (obtain⟨b,f,rfl⟩:=bq.1 h
         obtain⟨i,l,n⟩:=Ie f d e .eql xo yo j;exact⟨by simp only[aV,i,aJ];exact l,.bool _⟩)
      | (obtain⟨b,f,rfl⟩:=bq.1 h
         obtain⟨i,l,n⟩:=Ie f d e .neq xo yo j;exact⟨by simp_all,.bool _⟩)
theorem acW{b:UnOp}{x:ah}(h:Rs b x=aa w)(a:cA β x v)(c:aU):(Op.unary b v).run P c = .ok w c/\cA β w w:=by
  unfold Rs at h;split at h
  · cases a.il;obtain rfl:=aC h;exact⟨rfl,.int _ _⟩
  · cases a.il;obtain rfl:=aC h;exact⟨rfl,.int _ _⟩
  · cases a.qH;obtain rfl:=aC h;exact⟨rfl,.bool _⟩
  grind
end
variable{A:Type}{W:aU}
section
variable {β:gR} {P:aO}
def Gn(β:gR)(l l':List (Nat×ah)):Prop:=l.map (·.1)=l'.map (·.1)/\dE β (l.map (·.2)) (l'.map (·.2))
theorem Gn.gm{p:Nat×ah}{l l':List (Nat×ah)}(h:Gn β (p::l) l'):∃c r,l'=(p.1,c)::r/\cA β p.2 c/\Gn β l r:=by
 cases l' with
 |nil=>have:=h.1;grind
 |cons q r=>
  obtain⟨b,a⟩:=h;simp only[List.map_cons,gY]at b a;exact⟨q.2,r,by grind,a.head,b.2,a.tail⟩
theorem Gn.jD{l':List (Nat×ah)}(h:Gn β [] l'):l'=[]:=by
 have:=h.1;simp_all
theorem Gn.map(l:List A)(n:A->Nat){f a:A->ah}(h:∀x∈l,cA β (f x) (a x)):Gn β (l.map λx=>(n x,f x)) (l.map λx=>(n x,a x)):=
 ⟨by simp,by grind[dE.map]⟩
theorem Xx(h:IM v=af):v≠Ab.rj:=by rintro rfl;cases h
theorem Jn(d:Nat):∀(l l':List ah)(j:Nat)(cs b:Array ah),dE β l l'->nL β cs b->
  nL β ((l.zipIdx j).foldl (λcs (c,j)=>cs.setIfInBounds (d+j) c) cs) ((l'.zipIdx j).foldl (λcs (c,j)=>cs.setIfInBounds (d+j) c) b)
 |[],l',j,cs,b,h,e=>by rw[h.jD];exact e
 | v::l,l',j,cs,b,h,e=>by
  obtain⟨p,r,rfl,o,n⟩:=h.gm;simp only[List.zipIdx_cons,pE];refine Jn d l r (j+1) _ _ n ⟨by simp[e.1],λi a k f g=>?_⟩;rw[Array.getElem?_setIfInBounds]at f g;split at f
  ·grind
  ·next m=>
   rw[iN m]at g;exact e.2 i a k f g
theorem C2(a:Nat->Option (Nat×Nat)):∀(l l':List (Nat×ah))(cs c r:Array ah),Gn β l l'->(∀p∈l,IM p.2=af)->nL β cs c->jP a cs l=aa r->
  ∃m,jP a c l'=aa m/\nL β r m
 |[],l',cs,c,r,h,_,f,d=>by
  rw[h.jD];simp only[jP]at d⊢
  grind
 | p::l,l',cs,c,r,h,k,f,d=>by
  obtain⟨s,t,rfl,g,u⟩:=h.gm;obtain⟨i,v⟩:=p;have b:=g.cells (Xx (k _ cH));simp only[jP]at d⊢
  cases e:a i with
  |none=>grind
  | some q=>
   obtain⟨j,o⟩:=q;simp only[e]at d⊢;dsimp only at g b;rw[<-b.1,<-f.1];split at d
   ·grind
   ·next n=>
    rw[iN n];refine C2 a l t _ _ r u (λp e=>k p (cJ _ e)) ?_ d;have:=Jn (β:=β) j v.cells.toList s.cells.toList 0 cs c (nL.toList.1 b) f
    grind[Array.toList_zipIdx]
theorem nL.zv{z:ah}(h:plain z=af):nL β z.cells z.cells:=by
 have b:cA β z z:= .uy h;by_cases a:z=Ab.rj
 ·subst a;cases h
 ·exact b.cells a
theorem We{t:aD}{b parts':List (Nat×ah)}(h:cI P t b=aa v)(u:Gn β b parts')(w:aU):
  ∃x,(Instr.build t parts'.toArray).run P w = .ok x w/\cA β v x:=by
 unfold cI at h;split at h
 ·next z B=>
  obtain⟨r,i,A,g⟩:=jS B;split at h
  ·next C=>
   obtain⟨cs,a,rfl⟩:=bq.1 h;have j:∀p∈b,IM p.2=af:=cw.1 C;have k:=nL.zv (β:=β) r;have m:∃c,P.built t parts'=aa c/\nL β cs c:=by
    unfold Program.built at a⊢;simp only[A]at a⊢
    cases s:P.underlying t with
    |none=>simp[s]at a
    | some d=>
     cases d<;>simp only[s]at a⊢<;>try (cases a;done)
     ·next n e=>
      split at a
      ·next l D f q=>
       obtain rfl:z=l:=aC (g.symm.trans f);exact C2 _ _ _ _ _ _ u j k a
      ·cases a
     ·next F=>
      split at a
      ·next l E f q=>
       obtain rfl:z=l:=aC (g.symm.trans f);exact C2 _ _ _ _ _ _ u j k a
      ·cases a
   obtain⟨c,o,y⟩:=m;exact⟨aq c,run_build w t parts'.toArray c o,.agg y.1 y.2⟩
  ·cases h
 grind
theorem Qz{t:aD}{cs:Array ah}(h:partOf P t cs n=aa v)(c:nL β cs V)(w:aU):
  ∃a,(part t V n).run P w = .ok a w/\cA β v a:=by
 unfold partOf at h
 cases g:P.underlying t with
 |none=>grind
 |some d=>
 simp only[g]at h;simp only[part,aV,AF g,aJ,eS];split at h
 ·next f=>
  obtain⟨o,j,rfl⟩:=bq.1 h;rw[iP f];simp only[iH j,aJ,bt];refine⟨_,rfl,.agg (by simp[c.1]) λi v a b e=>?_⟩;simp only[Array.getElem?_extract]at b e;rw[c.1]at b;split at b
  ·next k=>
   rw[iP k]at e;exact c.2 _ v a b e
  grind
 ·next f=>
  rw[iN f];obtain⟨a,l,m⟩:=c.get h
  simp_all
theorem Pe{d:aD}{x:ah}(h:lL P T d x=aa w)(c:cA β x v)(g:aU):(convert T d v).run P g = .ok w g/\cA β w w:=by
 unfold lL at h;split at h
 ·next f k i n a b=>
  cases c.il
  obtain rfl:=aC h;refine⟨?_,.int _ _⟩;simp only[convert,aV,cS a,cS b,aJ]
  cases f<;>rfl
 ·next f s a b=>
  cases c.kh
  obtain rfl:=aC h;refine⟨?_,.string _⟩;simp only[convert,aV,cS a,cS b,aJ]
  cases f<;>rfl
 ·next e a b=>
  cases c
  obtain rfl:=aC h;refine⟨?_,.nilPtr⟩;simp only[convert,aV,cS a,cS b,aJ,Conv.unsafePointer];rfl
 ·next e a b=>
  cases c
  obtain rfl:=aC h;refine⟨?_,.nilPtr⟩;simp only[convert,aV,cS a,cS b,aJ,Conv.unsafePointer];rfl
 grind
theorem Nm(c:Bool):∀(l l':List ah)(x e v:ah),cA β x e->dE β l l'->yv c (x::l)=aa v->(∀w:aU,((l'.foldlM (if c then Builtin.max2 else Builtin.min2) e:Sem ah)).run P w = .ok v w)/\cA β v v\/(l=[]/\v=x)
 |[],l',x,e,v,g,f,h=>by simp_all[yv]
 | y::l,l',x,e,v,g,f,h=>by
  left;obtain⟨p,r,rfl,n,i⟩:=f.gm;simp only[yv,List.foldlM_cons,Option.bind_eq_bind]at h;split at h
  ·next k a o b=>
   cases g.il;cases n.il
   split at h
   ·next m=>
    subst m;simp only[bind_some]at h;have d:=Nm c l r (.int k (if c then if b>a then b else a else if b<a then b else a)) _ v (.int _ _) i (by simpa[yv]using h);refine⟨λw=>?_,?_⟩
    ·rw[List.foldlM_cons,aV];have j:((if c then Builtin.max2 else Builtin.min2) (.int k a) (.int k b)).run P w = .ok (.int k (if c then if b>a then b else a else if b<a then b else a)) w:=by
      cases c<;>rfl
     rw[j,aJ];rcases d with⟨d,_⟩|⟨rfl,rfl⟩
     ·exact d w
     ·rw[i.jD];rfl
    ·rcases d with⟨_,d⟩|⟨rfl,rfl⟩
     ·exact d
     ·exact .int _ _
   ·simp at h
  grind
theorem mf{s:Sem A}{f:A->Next}{w':aU}{v:A}(h:s.run P W = .ok v w'):(do pure (f (<-s)):Sem Next).run P W = .ok (f v) w':=by
 simp[h]
theorem gH(b i n:Nat):(⟨b,i,none⟩:aF).add n=⟨b,i+n,none⟩:=by grind[Addr.add]
theorem Jv{a b:ah}(h:cA β a v)(e:cA β b w):cA β (.tuple #[a,b]) (.tuple #[v,w]):=
 .tuple rfl λi g f c d=>by grind
set_option maxHeartbeats 4000000 in
theorem BX{X B:bh->ah}(g:∀x,cA β (X x) (B x)){o:aR}{v:ah}(h:eW P X o=aa v)(w:aU):
  ∃O,(execOp B o).run P w = .ok (.value O) w/\cA β v O:=by
 unfold eW at h;unfold execOp;split at h
 ·next x A=>obtain rfl:=aC h;simp only[A];exact⟨_,rfl,g _⟩
 ·next x A=>obtain rfl:=aC h;simp only[A];exact⟨_,rfl,g _⟩
 ·next c a b A=>
  simp only[A];split at h
  ·next t ht=>
   have M:=g c;rw[ht]at M;obtain rfl:=aC h;refine⟨if t then B a else B b,?_,?_⟩
   ·simp[M.qH,asBool]
   ·cases t
    ·exact g b
    ·exact g a
  ·cases h
 ·next t K A=>
  simp only[A];obtain⟨O,E,I⟩:=We (parts':=K.toList.map λp=>(p.1,B p.2)) h (Gn.map K.toList (·.1) λp _=>g p.2) w;refine⟨O,?_,I⟩;have C:(K.toList.map λp=>(p.1,B p.2)).toArray=K.map λ(i,x)=>(i,B x):=by
   apply fY;simp
  rw[C]at E;exact mf E
 ·next x A=>
  simp only[A];have m:=g x;split at h
  ·cases h
  ·cases h
  ·cases h
  ·cases h
  ·cases h
  ·next v0 F J h3 h4 h5=>
   obtain rfl:=aC h;refine⟨B x,?_,m⟩;revert m F J h3 h4 h5;generalize X x=a;generalize B x=b;intro m F J h3 h4 h5
   cases m with
   |rj v=>exact absurd rfl (h5 _)
   |nilPtr=>exact absurd rfl F
   |nilIface=>exact absurd rfl J
   |nilFunc=>exact absurd rfl h3
   |@func fn a U c c' H M ra rc=>cases fn<;>first|rfl|exact absurd rfl (h4 _ _ _)
   |_=>rfl
 ·next op t x y yt A=>
  simp only[A];obtain⟨E,I⟩:=Wb (xo:=x) (yo:=y) h (g x) (g y) w;exact⟨v,mf E,I⟩
 ·next op t x A=>
  simp only[A];obtain⟨E,I⟩:=acW h (g x) w;exact⟨v,mf E,I⟩
 ·next s d x A=>
  simp only[A];obtain⟨E,I⟩:=Pe h (g x) w;exact⟨v,mf E,I⟩
 ·next t x A=>
  simp only[A];split at h
  ·cases h
  ·cases h
  ·next d L G=>
   obtain rfl:=aC h;refine⟨.iface t (B x),mf ?_,.iface t (g x)⟩;simp only[Instr.makeInterface,aV,cS G,aJ]
   cases d<;>first|rfl|exact absurd rfl (L _)
 ·next fn first Y A=>
  simp only[A];split at h
  ·cases h
  ·next y2=>
   obtain rfl:=aC h;refine⟨.func fn (first.map B) (Y.map B),rfl,.func (by cases fn<;>first|rfl|exact absurd rfl (y2 _)) (by simp) (by simp) ?_ ?_⟩
   ·intro i a U F J;simp only[Array.getElem?_map,bq]at F J;obtain⟨p,hp,rfl⟩:=F;obtain⟨q,hq,rfl⟩:=J;rw[hp]at hq;obtain rfl:=aC hq;exact g p
   ·intro i a U F J;simp only[Array.getElem?_map,bq]at F J;obtain⟨p,hp,rfl⟩:=F;obtain⟨q,hq,rfl⟩:=J;rw[hp]at hq;obtain rfl:=aC hq;exact g p
 ·next s x f A=>
  simp only[A];have m:=g x;split at h
  ·next x1 a G H=>
   rw[H]at m;obtain⟨N,F,hm,hs,C⟩:=m.uW;split at h
   ·next fd hf=>
    split at h
    ·next R=>
     obtain rfl:=aC h
     cases x2:cd P fd.type with
     |none=>simp[x2]at R
     |some n=>
      have h0:n≠0:=by simpa[x2]using R
      refine⟨.pointer (aa ((⟨N.b,N.s+a.off,none⟩:aF).add fd.offset)),mf ?_,?_⟩
      ·simp only[Instr.fieldAt,aV,cS G,aJ,hf,C,nw,bt,fieldPlace,iH x2,eS];rw[iN h0];rfl
      ·obtain⟨ab,ao,x4⟩:=a;simp only at hs F;subst hs;rw[gH,gH,add_assoc];exact .ptr F hm
    ·cases h
   ·cases h
  ·cases h
 ·next t x f A=>
  simp only[A];have m:=g x;split at h
  ·next x1 cs G H=>
   rw[H]at m;obtain⟨y3,C,M⟩:=m.tE;split at h
   ·next fd hf=>
    obtain⟨O,E,I⟩:=Qz h M w;refine⟨O,mf ?_,I⟩;simp only[Instr.field,aV,cS G,aJ,hf,C,asAgg,bt,E]
   ·cases h
  ·cases h
 ·next t x i A=>
  simp only[A];have m:=g x;have Q:=g i;split at h
  ·next x6 e a k j G H V=>
   rw[H]at m;rw[V]at Q;obtain⟨N,F,hm,hs,C⟩:=m.uW;split at h
   ·next n R=>
    split at h
    ·next E=>
     obtain rfl:=aC h;refine⟨.pointer (aa ((⟨N.b,N.s+a.off,none⟩:aF).add (j.toNat*n))),mf ?_,?_⟩
     ·simp only[Instr.indexAt,aV,Q.il,asIntOf,bt,aJ,cS G,C,nw,iH R,eS];rw[iP E]
     ·obtain⟨ab,ao,x4⟩:=a;simp only at hs F;subst hs;rw[gH,gH,add_assoc];exact .ptr F hm
    ·cases h
   ·cases h
  ·next e a x6 c k j G H V=>
   rw[H]at m;rw[V]at Q;obtain⟨ab,ao,x4⟩:=a;split at h
   ·next n R=>
    split at h
    ·next E=>
     obtain rfl:=aC h;have x8:x4=none:=by
      rcases m.BO with⟨k',i',e⟩|⟨_,y9,_⟩
      ·injection e
      ·exact absurd E (by omega)
     subst x8;obtain⟨N,i',c',F,hm,y4,C,x5,y8,L,S,y7⟩:=m.lP
     ·clear y4;have y0:i'=N.s+ao:=by rcases S with S|S;exact S;exact absurd S.1 (by omega)
      subst y0;refine⟨.pointer (aa ((⟨N.b,N.s+ao,none⟩:aF).add (j.toNat*n))),mf ?_,?_⟩
      ·simp only[Instr.indexAt,aV,Q.il,asIntOf,bt,aJ,cS G,C,iH R,eS];rw[iP E]
      ·rw[gH,gH,add_assoc];exact .ptr F hm
    ·cases h
   ·cases h
  ·cases h
 ·next t x i A=>
  simp only[A];have m:=g x;have Q:=g i;split at h
  ·next x6 e cs k j G H V=>
   rw[H]at m;rw[V]at Q;obtain⟨y3,C,M⟩:=m.tE;split at h
   ·next n R=>
    split at h
    ·next E=>
     obtain⟨O,hp,I⟩:=Qz h M w;refine⟨O,mf ?_,I⟩;simp only[Instr.index,aV,Q.il,asIntOf,bt,aJ,cS G,C,iH R,eS,hp];rw[iP E]
    ·cases h
   ·cases h
  ·next s k j G H V=>
   rw[H]at m;rw[V]at Q;split at h
   ·next E=>
    split at h
    ·next b hb=>
     obtain rfl:=aC h;refine⟨_,mf ?_,.int _ _⟩;have y1:s[j.toNat]?=aa b:=by
      rw[getElem?_toList]at hb;exact hb
     simp only[Instr.index,aV,Q.il,asIntOf,bt,aJ,cS G,m.kh];rw[iP E,y1];rfl
    ·cases h
   ·cases h
  ·cases h
 ·next x xt u ok A=>
  simp only[A];have m:=g x;split at h
  ·cases h
  ·cases h
  ·next d L G H=>
   rw[H]at m;split at h
   ·next x3=>
    obtain⟨z,hz,rfl⟩:=bq.1 h;refine⟨.tuple #[z,.bool ak],mf ?_,Jv (.uy (jS hz).1) (.bool _)⟩;simp only[Instr.typeAssert,aV,cS G,aJ,m.Nh]
    cases d<;>first
     |exact absurd rfl (L _)
     |(rw[iP x3];simp[uG hz])
   ·cases h
  ·next d t v1 L G H=>
   rw[H]at m;obtain⟨v2,C,I⟩:=m.WY;split at h
   ·next x0=>
    obtain rfl:=aC h;refine⟨if ok then .tuple #[v2,.bool af]else v2,mf ?_,?_⟩
    ·simp only[Instr.typeAssert,aV,cS G,aJ,C]
     cases d<;>first
      |exact absurd rfl (L _)
      |(rw[iP x0];rfl)
    ·cases ok
     ·exact I
     ·exact Jv I (.bool _)
   ·next x0=>
    split at h
    ·next x3=>
     obtain⟨z,hz,rfl⟩:=bq.1 h;refine⟨.tuple #[z,.bool ak],mf ?_,Jv (.uy (jS hz).1) (.bool _)⟩;simp only[Instr.typeAssert,aV,cS G,aJ,C]
     cases d<;>first
      |exact absurd rfl (L _)
      |(rw[iN x0,iP x3];simp[uG hz])
    ·cases h
  ·cases h
 ·next x i A=>
  simp only[A];have m:=g x;split at h
  ·next vs H=>
   rw[H]at m;obtain⟨y6,C,M⟩:=m.Aq;obtain⟨O,y5,E⟩:=M.get h;exact⟨O,mf (by simp[Instr.extract,C,y5]),E⟩
  ·cases h
 ·next D x7 A=>
  simp only[A];have T:dE β (D.toList.map X) (D.toList.map B):=dE.map _ λx _=>g x;have C:(D.map B).toList=D.toList.map B:=by simp
  revert T h;generalize D.toList.map X=l;generalize W:D.toList.map B=l';intro h T
  cases l with
  |nil=>simp[yv]at h
  |cons x l=>
   obtain⟨x',r,rfl,m,E⟩:=T.gm;rcases Nm af l r x x' v m E h with⟨F,J⟩|⟨rfl,rfl⟩
   ·exact⟨v,by
     simp only[resolve,aV,bt,aJ,invoke,builtin,Builtin.max_,C,W];have:=F w;simp only[if_true]at this;rw[this];rfl,J⟩
   ·exact⟨x',by
     rw[E.jD]at W;simp only[resolve,aV,bt,aJ,invoke,builtin,Builtin.max_,C,W];rfl,m⟩
 ·next D x7 A=>
  simp only[A];have T:dE β (D.toList.map X) (D.toList.map B):=dE.map _ λx _=>g x;have C:(D.map B).toList=D.toList.map B:=by simp
  revert T h;generalize D.toList.map X=l;generalize W:D.toList.map B=l';intro h T
  cases l with
  |nil=>simp[yv]at h
  |cons x l=>
   obtain⟨x',r,rfl,m,E⟩:=T.gm;rcases Nm ak l r x x' v m E h with⟨F,J⟩|⟨rfl,rfl⟩
   ·exact⟨v,by
     simp only[resolve,aV,bt,aJ,invoke,builtin,Builtin.min_,C,W];have:=F w;simp only[dM,if_false]at this;rw[this];rfl,J⟩
   ·exact⟨x',by
     rw[E.jD]at W;simp only[resolve,aV,bt,aJ,invoke,builtin,Builtin.min_,C,W];rfl,m⟩
 ·next D x7 A=>
  simp only[A];split at h
  ·next x t m ht=>
   split at h
   ·next e a n c G H=>
    split at h
    ·next M=>
     obtain rfl:=aC h;have Z:=g x;rw[H]at Z;have x9:∃U ,B x = .slice U n c:=by
      cases a with
      |none=>obtain⟨rfl,rfl,C⟩:=Z.la;exact⟨none,C⟩
      |some a=>
       rcases Z.BO with⟨k',i',rfl⟩|⟨rfl,rfl,rfl,U,C⟩
       ·obtain⟨N,i',c',_,_,_,C,x5,_⟩:=Z.lP;rw[x5 M]at C;exact⟨_,C⟩
       ·exact⟨_,C⟩
     obtain⟨U,C⟩:=x9;refine⟨aA c,?_,.int _ _⟩;have h0:(D.map B)[0]?=aa (.slice U n c):=by simp[m,C]
     simp only[resolve,aV,bt,aJ,invoke,builtin,Builtin.cap_,ht,h0,cS G];rfl
    ·cases h
   ·cases h
  ·cases h
 grind
end
variable{J:gR}{I:eE}{G:Slot}{h:aw}{r:bh->ah}{m:Nat}
section
variable {β:gR} {P:aO}
def eE.wr:eE->Bool
 |.cells _ _ _ wr=>wr
 |.map _=>af
 |.loop .. =>af
def aao(a:Nat×Nat)(n:Nat):Prop:=∀x,a.1<=x->x<a.2->n<=x
def Ct(β:gR)(b:List (ah×ah))(a:List gz):Prop:=
 b.length=a.length/\∀(i:Nat) p e,b[i]?=aa p->a[i]?=aa e->cA β p.1 e.key/\cA β p.2 e.val
def lH(β:gR)(cs:List ah)(s:Nat)(a:Array ah):Prop:=∀(i:Nat) v,cs[i]?=aa v->∃b,a[s+i]?=aa b/\cA β v b
def RH:LSt->LoopState->Option Code->Prop
 |.ready,s,j=>s = .ready/\j=none
 |.busy,s,_=>s = .busy
 |.ret,s,j=>s = .done/\j=aa .ret
 |.exit a,s,j=>s = .done/\j=aa (.exit a)
def Gj(β:gR)(B:eE)(a:Slot)(w:aU):Prop:=
 match B with
 |.cells cs t g k=>a.isMap=ak/\a.t=t/\(a.sz=g/\(g=0->a.s=0))/\∃b h,w.heap[a.b]?=aa (.cells b t h)/\b.size=a.n/\lH β cs a.s b/\(k=af->aao h b.size)
 |.map j=>a.isMap=af/\∃d c,w.heap[a.b]?=aa (.map d c)/\Ct β j d.toList
 |.loop l i m f e _=>a.isMap=af/\∃r:Loop,w.heap[a.b]?=aa (.loop r)/\RH l r.state r.pending/\dE β i r.tmps.toList/\r.params.toList=m/\r.assign=f/\r.body=e
structure pP(β:gR)(h:aw)(w:aU):Prop where
 lt:∀k sl,β k=aa sl->k<h.ax/\sl.b<w.heap.size
 blk:∀k B sl,h.get k=aa B->β k=aa sl->Gj β B sl w
 own:∀k k' B B' sl sl',k≠k'->h.get k=aa B->h.get k'=aa B'->β k=aa sl->β k'=aa sl'->B.wr=af->sl.b≠sl'.b
 wf:∀k B,h.get k=aa B->k<h.ax
theorem Ct.mono{β:gR}(a:β.le J){d:List (ah×ah)}{b:List gz}(h:Ct β d b):Ct J d b:=
 ⟨h.1,λi p e c f=>⟨(h.2 i p e c f).1.mono a,(h.2 i p e c f).2.mono a⟩⟩
theorem lH.mono{β:gR}(b:β.le J){cs:List ah}{s:Nat}{a:Array ah}(h:lH β cs s a):lH J cs s a:=
 λi v c=>let⟨f,d,e⟩:=h i v c;⟨f,d,e.mono b⟩
theorem Gj.mono{β:gR}(a:β.le J){B:eE}{j:Slot}{w:aU}(h:Gj β B j w):Gj J B j w:=by
 cases B with
 |cells cs t q v=>
  obtain⟨c,d,b,k,m,f,g,o,n⟩:=h;exact⟨c,d,b,k,m,f,g,o.mono a,n⟩
 |map u=>
  obtain⟨c,i,e,d,b⟩:=h;exact⟨c,i,e,d,b.mono a⟩
 |loop x s y p l z=>
  obtain⟨c,r,d,b,f,g⟩:=h;exact⟨c,r,d,b,f.mono a,g⟩
theorem Gj.of_heap{e:aU}(h:Gj β I G W)(u:e.heap[G.b]?=W.heap[G.b]?):Gj β I G e:=by
 cases I with
 |cells cs t o s=>
  obtain⟨b,d,a,g,j,v,m,l,k⟩:=h;exact⟨b,d,a,g,j,by grind,m,l,k⟩
 |map q=>
  obtain⟨b,f,c,d,a⟩:=h;exact⟨b,f,c,by grind,a⟩
 |loop w p x n i y=>
  obtain⟨b,r,d,a⟩:=h;exact⟨b,r,by grind,a⟩
theorem tx{b:Nat}{cs:Array ah}{t:aD}{a:Nat×Nat}(h:W.heap[b]?=aa (.cells cs t a)):W.cell? ⟨b,i,none⟩=cs[i]?:=by
 simp[World.cell?,h]
theorem pP.row(i:pP β h W){k:Nat}{cs:List ah}{t:aD}{c:Nat}{e:Bool}{a:Slot}(n:h.get k=aa (.cells cs t c e))(f:β k=aa a):
  a.isMap=ak/\a.t=t/\a.sz=c/\∃b d,W.heap[a.b]?=aa (.cells b t d)/\b.size=a.n/\lH β cs a.s b/\(e=af->aao d b.size):=
 let⟨j,l,g,m⟩:=i.blk k _ a n f;⟨j,l,g.1,m⟩
theorem pP.ale(d:pP β h W){k:Nat}{cs:List ah}{t:aD}{e:Bool}{a:Slot}(f:h.get k=aa (.cells cs t 0 e))(b:β k=aa a):a.s=0:=
 let⟨_,_,c,_⟩:=d.blk k _ a f b;c.2 rfl
theorem AE{w:aU}{b:Nat}{cs:List ah}{t:aD}{p:Nat×Nat}(r:w.heap[b]?=aa (.cells V t p))(x:lH β cs n V)(i g:Nat)(o:((cs.drop i).take g).length=g):
  ∃l',(loadCells ⟨b,n+i,none⟩ g).run P w = .ok l'.toArray w/\dE β ((cs.drop i).take g) l':=by
 have l:i+g<=cs.length\/g=0:=by
  simp only[bo,cQ]at o;omega
 have e:∀j,j<g->∃v d,cs[i+j]?=aa v/\V[n+(i+j)]?=aa d/\cA β v d:=by
  intro j f;have h:i+j<cs.length:=by omega
  obtain⟨d,a,c⟩:=x (i+j) _ (gE h);exact⟨_,d,gE h,a,c⟩
 refine⟨(dL g).map λj=>V.getD (n+(i+j)) undef,?_,?_,?_⟩
 ·refine run_loadCells w ⟨b,n+i,none⟩ g _ λj f=>?_;obtain⟨v,d,_,c,_⟩:=e j f;rw[gH,tx r,show n+i+j=n+(i+j) by omega,c]
  simp_all
 ·grind
 ·intro j v d a c;simp only[List.getElem?_map,bq]at c;obtain⟨y,k,rfl⟩:=c;rw[getElem?_take,getElem?_drop]at a;split at a
  ·next f=>
   rw[List.getElem?_range f]at k;obtain rfl:=aC k;obtain⟨u,z,m,s,q⟩:=e j f;rw[m]at a;obtain rfl:=aC a;simpa[dp,s]using q
  grind
theorem PW(w:pP β h W){t:aD}{a q v:ah}(b:aM P t h a=aa v)(y:cA β a q):
  ∃p,q=bN p/\∃c,(loadVar t p).run P W = .ok c W/\cA β v c:=by
 unfold aM at b;split at b
 ·next d k i x=>
  obtain⟨G,u,D,rfl⟩:=y.Ap;refine⟨_,rfl,?_⟩;split at b
  ·next cs I E H z=>
   obtain⟨_,_,_,B,F,r,C,s,_⟩:=w.row z u;simp only[loadVar,aV,AF x,aJ,eS];split at b
   ·next e=>
    rw[iP e];split at b
    ·next n o=>
     split at b
     ·next g=>
      obtain rfl:=aC b;obtain⟨l',A,f⟩:=AE (P:=P) r s i n g;refine⟨.agg l'.toArray,by simp[iH o,A],.agg (by simpa using f.1) λj v c l m=>f.2 j v c (by simpa using l) (by simpa using m)⟩
     ·cases b
    ·cases b
   ·next e=>
    rw[iN e];obtain⟨c,l,m⟩:=s i v b;exact⟨c,by simp[run_load,tx r,l],m⟩
  ·cases b
 grind
theorem Sj(s:ByteArray)(l h:Nat):(⟨((s.data.toList.drop l).take (h-l)).toArray⟩:ByteArray)=s.extract l h:=by
 apply Zz;simp
def so(β:gR)(x a:Option ah):Prop:=match x,a with|none,none=>True|some v,aa b=>cA β v b|_,_=>False
theorem so.map{a:bh->ah}(b:∀x,cA β (r x) (a x))(x:Option bh):so β (x.map r) (x.map a):=by
 cases x with
 |none=>trivial
 |some x=>exact b x
theorem so.none_{a:Option ah}(h:so β none a):a=none:=by cases a with|none=>rfl|some _=>exact h.elim
theorem so.some_{b:Option ah}(h:so β (aa v) b):∃a,b=aa a/\cA β v a:=by cases b with|none=>exact h.elim|some a=>exact⟨a,rfl,h⟩
theorem sF{x a:Option ah}(h:iW x n=aa z)(b:so β x a):
  (x=none/\a=none/\z=n)\/ ∃k,x=aa (aB k z)/\a=aa (aB k z):=by
 cases x with
 |none=>simp only[iW,bc]at h;exact .inl ⟨rfl,b.none_,h.symm⟩
 |some v=>
  obtain⟨d,rfl,c⟩:=b.some_
  cases v with
  |int k m=>simp only[iW,bc]at h;subst h;exact .inr ⟨k,rfl,by rw[c.il]⟩
  |_=>simp[iW]at h
theorem rK{k:ei}{c:BoundsCode}(b:0<=z)(a:z<=n)(w:aU):(Instr.sliceBound (aB k z) n c).run P w = .ok z.toNat w:=by simp_all[Instr.sliceBound,asIntOf]
theorem vi{f e a c:Option ah}{l:Int}(h:iW f 0=aa l)(i:iW e n=aa z)
  (g:so β f a) (d:so β e c)
  (q:0<=l) (o:l<=z) (p:z<=m) (w:aU):(nS b n m a c none).run P w = .ok (l.toNat,z.toNat,m) w:=by
 unfold nS;rcases sF i d with⟨rfl,rfl,rfl⟩|⟨k,rfl,rfl⟩
 ·grind[sF,aV,bt,aJ,rK]
 ·rcases sF h g with⟨rfl,rfl,rfl⟩|⟨j,rfl,rfl⟩
  all_goals grind[aV,bt,aJ,rK]
theorem QY{f c a b:Option ah}{l h:Int}{k:ei}(i:iW f 0=aa l)(j:iW c n=aa z)(p:c≠none)
  (g:so β f a) (d:so β c b)
  (o:0<=l) (s:l<=z) (t:z<=h) (e:h<=m) (w:aU):(nS af n m a b (aa (aB k h))).run P w = .ok (l.toNat,z.toNat,h.toNat) w:=by
 unfold nS;rcases sF j d with⟨rfl,rfl,rfl⟩|⟨r,rfl,rfl⟩
 ·grind
 ·rcases sF i g with⟨rfl,rfl,rfl⟩|⟨q,rfl,rfl⟩
  ·simp only[aV];rw[rK (by omega) e];simp only[aJ];rw[rK (by omega) (by omega)];simp
  ·simp only[aV];rw[rK (by omega) e];simp only[aJ];rw[rK (by omega) (by omega)];simp only[aJ];rw[rK o (by omega)];simp
theorem YH(hs:pP β h W){t:aD}{x x' v:ah}{lo U mx R S q:Option ah}(a:cY P t x lo U mx h=aa v)(Q:cA β x x')
  (A:so β lo R) (F:so β U S) (z:so β mx q):∃v',(lJ t x' R S q).run P W = .ok v' W/\cA β v v':=by
 unfold cY at a;split at a
 ·next s=>
  cases Q.kh
  split at a
  ·next D=>
   split at a
   ·next _ l r B C=>
    split at a
    ·next g=>
     obtain rfl:=aC a;have f:q=none:=z.none_;subst f;refine⟨.string (s.extract l.toNat r.toNat),?_,?_⟩
     ·have j:s.size=s.data.toList.length:=by simp
      simp only[lJ,aV,cS D,aJ,Instr.slice];simp only[Option.isSome_none,dM,if_false,aV,bt];rw[j,vi B C A F g.1 g.2.1 g.2.2];simp
     ·rw[strOf,show(r-l).toNat=r.toNat-l.toNat by omega,Sj];exact .string _
    ·cases a
   ·cases a
  ·cases a
 ·split at a
  ·next e D=>
   split at a
   ·next n B C j=>
    obtain rfl:=aC a;obtain⟨_,_,rfl⟩:=Q.la;have f:q=none:=z.none_;subst f;refine⟨.slice none 0 0,?_,.sE⟩;simp only[lJ,aV,cS D,aJ,Instr.slice];rw[vi B C A F (by omega) (by omega) (by omega)];simp[iH j]
   ·cases a
  ·cases a
 ·next k i x8 b=>
  split at a
  ·next e D=>
   split at a
   ·next l r O cs t' x9 wr B C j V=>
    split at a
    ·next L=>
     obtain⟨d,J,w,u,H,_,rfl,M,E,x7,T,c⟩:=Q.lP;obtain⟨_,_,G,_⟩:=hs.row V u;have x6:dk b<=w:=by
      unfold dk;split
      ·next g=>exact E g
      ·next g=>rw[M (by omega)];exact aS _
     split at a
     ·split at a
      ·next g=>
       obtain rfl:=aC a;have f:q=none:=z.none_;subst f;have x0:l.toNat<=w:=by omega
       refine⟨.slice (if w=l.toNat then aa ⟨d.b,J,none⟩else aa ⟨d.b,J+l.toNat*O,none⟩) (r-l).toNat (w-l.toNat),?_,?_⟩
       ·simp only[lJ,aV,cS D,aJ,Instr.slice];rw[vi B C A F g.1 g.2.1 (by omega)];simp only[aJ,iH j,bt,fP,gH];rw[show r.toNat-l.toNat=(r-l).toNat by omega]
       ·by_cases o:w=l.toNat
        ·rw[iP o];refine .slice u H ?_ ?_ ?_ (.inr ⟨by omega,by omega⟩) ?_
         ·intro Y;by_cases p:b<ft
          ·have:=M p;omega
          ·have:=E (by omega);have N:dk b=b-ft:=by unfold dk;rw[iP (by omega)]
           omega
         ·intro x3;have p:ft<=b:=by omega
          have:=E p;omega
         ·have:(r-l).toNat=0:=by omega
          omega
         ·rcases c with c|c
          ·exact .inl c
          ·right;rw[show w-l.toNat=0 by omega];simp;exact bK (dg _ _) c
        ·rw[iN o];have x4:J=d.s+i:=by rcases T with y|⟨y,I⟩;exact y;exact absurd I (by omega)
         refine .slice u H ?_ ?_ ?_ (.inl (by omega)) ?_
         ·intro Y;by_cases p:b<ft
          ·have:=M p;omega
          ·have:=E (by omega);have N:dk b=b-ft:=by unfold dk;rw[iP (by omega)]
           omega
         ·intro x3;have p:ft<=b:=by omega
          have:=E p;omega
         ·by_cases p:b<ft
          ·have N:dk b=b:=by unfold dk;rw[iN (by omega)]
           have h6:dk (b-l.toNat)=b-l.toNat:=by unfold dk;rw[iN (by omega)]
           omega
          ·have N:dk b=b-ft:=by unfold dk;rw[iP (by omega)]
           have h6:dk (b-l.toNat)=b-l.toNat-ft:=by unfold dk;rw[iP (by omega)]
           omega
         ·rcases L with K|K
          ·rcases c with c|c
           ·exact .inl c
           ·right;subst K;rw[<-G];rw[Nat.sub_mul];have:l.toNat*d.sz<=w*d.sz:=bJ _ x0;omega
          ·exact .inl (by omega)
      ·cases a
     ·next k m=>
      split at a
      ·next g=>
       obtain rfl:=aC a;obtain⟨X,y,I,h3,h4,N⟩:=g;obtain⟨vm,rfl,x5⟩:=z.some_
       cases x5.il
       have x1:U≠none:=by intro e;subst e;cases N
       have Z:m.toNat<=w:=by omega
       refine⟨.slice (if m.toNat=l.toNat then aa ⟨d.b,J,none⟩else aa ⟨d.b,J+l.toNat*O,none⟩) (r-l).toNat (m.toNat-l.toNat),?_,?_⟩
       ·simp only[lJ,aV,cS D,aJ,Instr.slice];rw[QY B C x1 A F X y I (by omega)];simp only[aJ,iH j,bt,fP,gH];rw[show r.toNat-l.toNat=(r-l).toNat by omega]
       ·have x2:dk (m-l).toNat=(m-l).toNat:=by unfold dk;rw[iN (by omega)]
        by_cases o:m.toNat=l.toNat
        ·rw[iP o];refine .slice u H (by omega) (by omega) (by omega) (.inr ⟨by omega,by omega⟩) ?_;rcases c with c|c
         ·exact .inl c
         ·right;rw[show m.toNat-l.toNat=0 by omega];simp;exact bK (dg _ _) c
        ·rw[iN o];have x4:J=d.s+i:=by rcases T with y|⟨y,I⟩;exact y;exact absurd I (by omega)
         refine .slice u H (by omega) (by omega) (by omega) (.inl (by omega)) ?_;rcases L with K|K
         ·rcases c with c|c
          ·exact .inl c
          ·right;subst K;rw[<-G];have e2:l.toNat*d.sz+(m.toNat-l.toNat)*d.sz=m.toNat*d.sz:=by rw[<-cM];congr 1;omega
           have:m.toNat*d.sz<=w*d.sz:=bJ _ Z;omega
         ·exact .inl (by omega)
      ·cases a
     ·cases a
    ·cases a
   ·cases a
  ·cases a
 ·next k i=>
  obtain⟨d,u,H,rfl⟩:=Q.Ap;split at a
  ·next n e D=>
   split at a
   ·next _ l r O cs t' wr B C j V=>
    split at a
    ·next g=>
     obtain⟨X,y,I,h3⟩:=g;obtain rfl:=aC a;have f:q=none:=z.none_;subst f;obtain⟨_,_,G,_⟩:=hs.row V u;have x2:dk (n-l.toNat)=n-l.toNat:=by unfold dk;rw[iN (by omega)]
     refine⟨.slice (aa (if n=l.toNat then⟨d.b,d.s+i,none⟩else⟨d.b,d.s+i+l.toNat*O,none⟩)) (r-l).toNat (n-l.toNat),?_,?_⟩
     ·simp only[lJ,aV,cS D,aJ,nw,bt];rw[vi B C A F X y I];simp only[aJ,iH j,gH];rw[show r.toNat-l.toNat=(r-l).toNat by omega]
     ·by_cases o:n=l.toNat
      ·rw[iP o];exact .slice u H (by omega) (by omega) (by omega) (.inr ⟨by omega,by omega⟩) (.inl (by omega))
      ·rw[iN o];exact .slice u H (by omega) (by omega) (by omega) (.inl (by omega)) (.inl (by omega))
    ·cases a
   ·cases a
  ·cases a
 grind
theorem HO:∀{l:List ah}{a:List UInt8},bytesOf l=aa a->∃ns:List Int,l=ns.map (aB aK)/\∀s:ByteArray,ns.foldl (λr n=>r.push (UInt8.ofNat n.toNat)) s=⟨s.data++a.toArray⟩
 |[],a,h=>by simp_all[bytesOf]
 | v::l,a,h=>by
  unfold bytesOf at h;split at h
  ·next e=>cases e
  ·next n r e=>
   simp only[gY]at e;obtain⟨rfl,rfl⟩:=e;split at h
   ·obtain⟨d,b,rfl⟩:=bq.1 h;obtain⟨ns,rfl,c⟩:=HO b;refine⟨n::ns,rfl,λs=>?_⟩;rw[pE,c];apply Zz;simp[ByteArray.push]
   ·cases h
  grind
theorem dE.ints{k:ei}{ns:List Int}{l':List ah}(h:dE β (ns.map (aB k)) l'):l'=ns.map (aB k):=by
 apply cV;intro i;by_cases d:i<ns.length
 ·have a:(ns.map (aB k))[i]?=aa (aB k ns[i]):=by simp[d]
  obtain⟨e,c,b⟩:=h.get a;rw[a,c,b.il]
 ·have a:(ns.map (aB k)).length<=i:=by simp;omega
  rw[getElem?_eq_none a,getElem?_eq_none (h.1▸a)]
theorem Ks(y:pP β h W){k i n:Nat}{cs:List ah}{t:aD}{w:Nat}{A:Bool}{a:Slot}(C:h.get k=aa (.cells cs t w A))(q:β k=aa a)
  (x:((cs.drop i).take n).length=n) {l:List UInt8} (f:bytesOf ((cs.drop i).take n)=aa l):
  ∃ns:List Int,(cs.drop i).take n=ns.map (aB aK)/\(loadCells ⟨a.b,a.s+i,none⟩ n).run P W = .ok (ns.map (aB aK)).toArray W/\(∀s:ByteArray,ns.foldl (λr n=>r.push (UInt8.ofNat n.toNat)) s=⟨s.data++l.toArray⟩)/\
   (∀j u,(ns.map (aB aK))[j]?=aa u->W.cell? ((⟨a.b,a.s+i,none⟩:aF).add j)=aa u):=by
 obtain⟨ns,b,v⟩:=HO f;obtain⟨_,_,_,D,F,g,E,p,_⟩:=y.row C q;obtain⟨l',o,c⟩:=AE (P:=P) g p i n x;rw[b]at c;rw[c.ints]at o;refine⟨ns,b,o,v,λj u d=>?_⟩;have e:((cs.drop i).take n)[j]?=aa u:=by rw[b];exact d
 rw[getElem?_take,getElem?_drop]at e;split at e
 ·obtain⟨G,z,B⟩:=p _ _ e;rw[gH,tx g,show a.s+i+j=a.s+(i+j) by omega,z];simp only[List.getElem?_map,bq]at d;obtain⟨m,_,rfl⟩:=d;rw[B.il]
 grind
theorem CK(u:pP β h W){k i n c:Nat}{cs:List ah}{t:aD}{r:Nat}{w:Bool}(x:h.get k=aa (.cells cs t r w))
  (s:((cs.drop i).take n).length=n) {e:List UInt8} (a:bytesOf ((cs.drop i).take n)=aa e) {f:ah} (v:cA β (gG k i n c) f):
  (Conv.bytesToString f).run P W = .ok (strOf e) W:=by
 obtain⟨d,y,q,o,F,_,rfl,B,E,C,g,D⟩:=v.lP;by_cases j:n=0
 ·subst j;have:e=[]:=by simp[bytesOf]at a;exact a
  subst this;rfl
 ·have l:y=d.s+i:=by rcases g with b|⟨b,G⟩;exact b;exact absurd b j
  subst l;obtain⟨ns,A,z,p,m⟩:=Ks (P:=P) u x o s a;rw[run_bytesToString (P:=P) W ⟨d.b,d.s+i,none⟩ n q ns z,p];congr 2;simp
end
section
variable {β:gR} {P:aO}
theorem Q1{a b:ah}(h:Q0 a b=af):a=b:=by
 unfold Q0 at h;split at h
 ·rw[beq_iff_eq.1 h]
 ·simp only[bj,decide_eq_true_eq]at h;rw[h.1,h.2]
 ·next a b=>
  simp only[decide_eq_true_eq]at h;obtain⟨⟨a⟩⟩:=a;obtain⟨⟨b⟩⟩:=b;simp only at h;rw[h]
 grind
theorem Q3:∀{a b:List ah},Jl a b=af->a=b
 |[],[],_=>rfl
 |[],_::_,h=>by grind[Jl]
 |_::_,[],h=>by grind[Jl]
 |a::x,b::y,h=>by
  simp only[Jl,bj]at h;rw[Q1 h.1,Q3 h.2]
theorem ab9{a b:ah}(h:VA a b=af):a=b:=by
 unfold VA at h
 grind[fY,Q3,Q1]
theorem cA.Q4(a:FV v=af)(h:cA β v w):w=v:=by
 cases h<;>first|rfl|(simp[FV]at a)
theorem cA.Qq(a:FV v=af):cA β v v:=by
 cases v<;>first|exact .bool _|exact .int _ _|exact .string _|(simp[FV]at a)
theorem cA.wY(a:Gy v=af)(h:cA β v w):w=v:=by
 unfold Gy at a;split at a
 ·next cs=>
  obtain⟨b,rfl,c⟩:=h.tE;have:b=cs:=by
   refine Array.ext c.1.symm λi e f=>?_;have d:=c.2 i cs[i] b[i] (getElem?_eq_getElem f) (getElem?_eq_getElem e);exact d.Q4 (cw.1 a _ (by simp))
  grind
 ·exact h.Q4 a
theorem cA.Vk(a:Gy v=af):cA β v v:=by
 unfold Gy at a;split at a
 ·next cs=>
  refine .agg rfl λi v d b c=>?_;rw[b]at c;obtain rfl:=aC c;refine .Qq (cw.1 a _ ?_);rw[<-getElem?_toList]at b;exact aI b
 grind[Qq]
theorem uF{t:aD}{cs:Array ah}(h:partOf P t cs n=aa v)(w:aU):(part t cs n).run P w = .ok v w:=by
 unfold partOf at h
 cases a:P.underlying t with
 |none=>grind
 |some d=>
 simp only[a]at h;simp only[part,aV,AF a,aJ,eS];split at h
 ·next c=>
  obtain⟨e,b,rfl⟩:=bq.1 h;rw[iP c];simp only[iH b,aJ,bt]
 simp_all
theorem Pt{e:aD->ah->ah->Option Bool}{d:Nat}(w:aU)(j:∀t x y b,e t x y=aa b->(gx d t x y).run P w = .ok b w)(g i:Array ah):∀(a:List Field){b:Bool},Z7 P e g i a=aa b->
  (Op.eqFields d g i a).run P w = .ok b w
 |[],b,h=>by simp only[Z7]at h;obtain rfl:=aC h;rfl
 | f::a,b,h=>by
  simp only[Z7]at h;split at h
  ·next m=>
   split at h
   ·next p q k l=>
    unfold Op.eqFields;rw[iP m];split at h
    ·next c=>
     simp only[aV,uF k,uF l,aJ,j _ _ _ _ c];simp only[Bool.not_true,dM,if_false];exact Pt w j g i a h
    ·next c=>
     obtain rfl:=aC h;simp only[aV,uF k,uF l,aJ,j _ _ _ _ c];rfl
    ·cases h
   ·cases h
  grind
theorem BL(w:aU):∀(d n:Nat)(t:aD)(x y:ah)(b:Bool),pj P d t x y=aa b->(gx (n+d) t x y).run P w = .ok b w
 |0,_,_,_,_,_,h=>by simp[pj]at h
 | d+1,n,t,x,y,b,h=>by
  unfold pj at h;split at h
  ·next g a f e=>
   split at h
   ·next j=>
    have c:P.fieldsOf t=g:=by simp[Program.fieldsOf,e]
    rw[show n+(d+1)=(n+d)+1 from rfl,run_equalIn_struct w (n+d) t a f (by rw[c];exact e) j,c];exact Pt w (λt x y b i=>BL w d n t x y b i) a f g.toList h
   ·cases h
  grind[Ia]
theorem K8{c:aD->ah->Bool}{em:Bool}{d:Nat}(w:aU)(g:∀t v,c t v=af->(jB em d t v).run P w = .ok () w)(cs:Array ah):∀(a:List Field),UI P c cs a=af->
  (forIn a PUnit.unit (λf _=>do
   if f.name≠ "_" then jB em d f.type (<-part f.type cs f.offset)
   pure (ForInStep.yield PUnit.unit)):Sem PUnit).run P w = .ok PUnit.unit w
 |[],_=>rfl
 | f::a,h=>by
  simp only[UI,bj,decide_eq_true_eq]at h;obtain⟨⟨i,b⟩,j⟩:=h
  cases e:partOf P f.type cs f.offset with
  |none=>grind
  |some p=>
   rw[e]at b;simp only[List.forIn_cons,aV,i,ne_eq,not_false_eq_true,if_true,aJ,uF e,g _ _ b,bt];simpa using K8 w g cs a j
theorem IA(b:Bool)(w:aU):∀(d n:Nat)(t:aD)(v:ah),EH P d t v=af->(jB b (n+d) t v).run P w = .ok () w
 |0,_,_,_,h=>by simp[EH]at h
 | d+1,n,t,v,h=>by
  rw[show n+(d+1)=(n+d)+1 from rfl];unfold EH at h;split at h
  ·next f a e=>
   have:=K8 (em:=b) w (λt v c=>IA b w d n t v c) a f.toList h;rw[jB];simp only[aV,cS e,aJ];rw[<-Array.forIn_toList];simp only[ne_eq,ite_not,bind_pure_comp]at this⊢;simp at this⊢;rw[this];rfl
  all_goals simp_all[cS,jB]
theorem FA{kt:aD}{k:ah}(h:uX P kt k=af)(a:Bool)(w:aU):(jB a 10000 kt k).run P w = .ok () w:=by
 unfold uX at h;simp only[bj]at h;exact IA a w 3 9997 kt k h.2
theorem GZ{kt:aD}{k:ah}(h:uX P kt k=af):Gy k=af:=by simp_all[uX]
theorem As{kt:aD}{a b:ah}{r:Bool}(h:Fz P kt a b=aa r):Gy b=af/\pj P 3 kt a b=aa r/\(r=af->a=b):=by
 unfold Fz at h
 grind[ab9]
theorem WZ{kt:aD}{k:ah}(h:uX P kt k=af):(∃e a,P.underlying kt=aa (.struct e)/\k=aq a)\/(∃g,P.underlying kt=aa g/\∀b r,pj P 3 kt k b=aa r->lI g k b=aa r):=by
 unfold uX at h;simp only[bj]at h;have f:=h.2;unfold EH at f;split at f
 ·next e a d=>exact .inl ⟨e,a,d,rfl⟩
 ·next b d=>
  refine .inr ⟨_,d,λy r c=>?_⟩;simp only[pj,H0,d]at c
  cases y<;>simp at c
  simp[lI,c]
 ·next j i n d=>
  refine .inr ⟨_,d,λy r c=>?_⟩;simp only[pj,H0,d]at c
  cases y<;>simp at c
  obtain⟨rfl,rfl⟩:=c;simp[lI]
 ·next b d=>
  refine .inr ⟨_,d,λy r c=>?_⟩;simp only[pj,H0,d]at c
  cases y with
  |string s=>
   obtain rfl:=aC c;simp only[lI];rw[K4]
  |_=>simp at c
 grind
theorem Ct.acB{p:ah×ah}{b:List (ah×ah)}{e:gz}{a:List gz}(c:Ct β (p::b) (e::a)):Ct β b a:=
 ⟨by have:=c.1;grind,λj p e d f=>c.2 (j+1) p e (by grind) (by grind)⟩
structure Hs(P:aO)(kt:aD)(k:ah){α:Type}(Lg:List gz->Nat->α)(R:Option (Nat×ah)->α):Prop where
 nil:∀i,Lg [] i=R none
 hit:∀(e:gz) es i,pj P 3 kt k e.key=aa af->Lg (e::es) i=R (aa (i,e.val))
 aex:∀(e:gz) es i,pj P 3 kt k e.key=aa ak->Lg (e::es) i=Lg es (i+1)
theorem Sr{kt:aD}{a:TypeDesc}{k:ah}(d:∀b r,pj P 3 kt k b=aa r->lI a k b=aa r):Hs P kt k (oM a k) aa where
 nil:=λ_=>rfl
 hit:=λe c i h=>by grind[oM]
 aex:=λe c i h=>by grind[oM]
theorem Kf{kt:aD}{k:ah}(w:aU):Hs P kt k (λa i=>(ph kt k a i).run P w) (λr=> .ok r w) where
 nil:=λ_=>by rfl
 hit:=λe a i h=>by
  have b:(Op.equal kt k e.key).run P w = .ok af w:=BL w 3 9997 kt k e.key af h;simp[ph,b]
 aex:=λe a i h=>by
  have b:(Op.equal kt k e.key).run P w = .ok ak w:=BL w 3 9997 kt k e.key ak h;simp[ph,b]
section
variable {kt:aD} {k:ah} {α:Type} {Lg:List gz->Nat->α} {R:Option (Nat×ah)->α}
theorem PB(l:Hs P kt k Lg R):∀(f:List (ah×ah))(a:List gz)(i:Nat){r:Option ah},Ct β f a->Bh P kt k f=aa r->
  ∃g,Lg a i=R g/\((r=none/\g=none)\/ ∃v j s,r=aa v/\g=aa (j,s)/\cA β v s)
 |[],a,i,r,c,h=>by
  have:a=[]:=aY c.1.symm;subst this;simp only[Bh,bc]at h;exact⟨none,l.nil i,.inl ⟨h.symm,rfl⟩⟩
 |(q,v)::f,[],i,r,c,h=>by have:=c.1;grind
 | (q,v)::f,e::a,i,r,c,h=>by
  obtain⟨d,m⟩:=c.2 0 (q,v) e rfl rfl;dsimp only at d m;simp only[Bh]at h;split at h
  ·next n=>
   obtain⟨o,p,_⟩:=As n;have b:=d.wY o;obtain rfl:=aC h;exact⟨aa (i,e.val),l.hit e a i (by rw[b];exact p),.inr ⟨v,i,e.val,rfl,rfl,m⟩⟩
  ·next n=>
   obtain⟨o,p,_⟩:=As n;have b:=d.wY o;obtain⟨g,t,u⟩:=PB l f a (i+1) c.acB h;exact⟨g,by rw[l.aex e a i (by rw[b];exact p)];exact t,u⟩
  grind
theorem Fy(w:Hs P kt k Lg R){x z:ah}(B:Gy k=af)(y:cA β x z):∀(n:List (ah×ah))(a:List gz){r:List (ah×ah)},Ct β n a->tD P kt k x n=aa r->∀i b,
  (∃j e,Lg a i=R (aa (i+j,e.val))/\a[j]?=aa e/\e.key=k/\Ct β r (a.modify j λe=>{ e with key:=k,val:=z }))\/
  (Lg a i=R none/\Ct β r (a++[{ key:=k,val:=z,born:=b }]))
 |[],a,r,m,h,i,b=>by
  have:a=[]:=aY m.1.symm;subst this;simp only[tD,bc]at h;subst h;refine .inr ⟨w.nil i,rfl,λj p e g l=>?_⟩
  cases j with
  |zero=>simp at g l;subst g;subst l;exact⟨.Vk B,y⟩
  |succ j=>grind
 |(F,v)::n,[],r,m,h,i,b=>by have:=m.1;grind
 | (F,v)::n,e::a,r,m,h,i,b=>by
  obtain⟨f,o⟩:=m.2 0 (F,v) e rfl rfl;dsimp only at f o;have d:∀{p:ah×ah}{t:gz}{q:List (ah×ah)}{H:List gz},cA β p.1 t.key->cA β p.2 t.val->Ct β q H->Ct β (p::q) (t::H):=λg l u=>
   ⟨by simp[u.1],λj p e s E=>by
    cases j with
    |zero=>simp at s E;subst s;subst E;exact⟨g,l⟩
    |succ j=>exact u.2 j p e (by simpa using s) (by simpa using E)⟩
  simp only[tD]at h;split at h
  ·next A=>
   obtain⟨C,D,I⟩:=As A;have c:=f.wY C;obtain rfl:=aC h;refine .inl ⟨0,e,w.hit e a i (by rw[c];exact D),rfl,by rw[c,I rfl],?_⟩;simp only[List.modify_zero_cons];exact d (.Vk B) y m.acB
  ·next A=>
   obtain⟨C,D,_⟩:=As A;have c:=f.wY C;obtain⟨K,J,rfl⟩:=bq.1 h;have G:=w.aex e a i (by rw[c];exact D);rcases Fy w B y n a m.acB J (i+1) b with⟨j,t,g,l,u,s⟩|⟨g,l⟩
   ·refine .inl ⟨j+1,t,?_,by simpa using l,u,?_⟩
    ·rw[G,g];congr 3;omega
    ·simp only[List.modify_succ_cons];exact d f o s
   ·exact .inr ⟨G.trans g,d f o l⟩
  grind
end
theorem Io{kt:aD}{k:ah}(g:uX P kt k=af)(w:aU)(b:List gz):
  ∃(α:Type)(Lg:List gz->Nat->α)(R:Option (Nat×ah)->α),Hs P kt k Lg R/\∀c,Lg b 0=R c->(oL kt k b).run P w = .ok c w:=by
 rcases WZ g with⟨j,a,f,rfl⟩|⟨i,f,d⟩
 ·refine⟨_,_,_,Kf w,λc h=>?_⟩
  cases b with
  |nil=>simp_all[cS,ph,oL,oM]
  |cons e b=>simp_all[cS,oL,oM,lI]
 ·exact⟨_,_,_,Sr d,λc h=>by simp_all[cS,oL]⟩
theorem zO(d:Nat){v:ah}(h:FV v=af):nu d v v=af:=by
 cases v<;>first|(simp[FV]at h;done)|(cases d<;>simp[nu];done)|(cases d<;>(simp only[nu];rw[<-K4];simp))
theorem Kz(h:Gy v=af)(d:Nat):nu (d+1) v v=af:=by
 unfold Gy at h;split at h
 ·next cs=>
  simp only[nu,BEq.rfl,fm];rw[cw]at h⊢;rintro⟨x,y⟩ e;obtain⟨i,c⟩:=List.getElem?_of_mem e;rw[List.getElem?_zip_eq_some]at c;obtain⟨b,a⟩:=c;dsimp only at b a⊢;rw[b]at a;obtain rfl:=aC a;exact zO d (h x (aI b))
 grind[zO]
set_option maxHeartbeats 1000000 in
theorem BY{M B:bh->ah}(D:∀x,cA β (M x) (B x)){o:aR}{v:ah}{h:aw}{w:aU}(V:pP β h w)(f:eB P M o h=aa v):
  ∃G,(execOp B o).run P w = .ok (.value G) w/\cA β v G:=by
 unfold eB at f;unfold execOp;split at f
 ·next t a K=>
  simp only[K];obtain⟨ad,q,G,H,l⟩:=PW (P:=P) V f (D a);exact⟨G,mf (by simp[Instr.loadAt,q,nw,H]),l⟩
 ·next t x lo hi mx K=>
  simp only[K];obtain⟨G,H,l⟩:=YH (P:=P) V f (D x) (so.map D lo) (so.map D hi) (so.map D mx);exact⟨G,mf H,l⟩
 ·next s d x K=>
  simp only[K];have O:=D x;split at f
  ·next e a n c L Q J=>
   rw[J]at O;split at f
   ·next q=>
    obtain rfl:=aC f;obtain⟨_,_,T⟩:=O.la;refine⟨strOf [],mf ?_,.string _⟩;simp only[convert,aV,cS L,cS Q,aJ,T,cS q,Conv.bytesToString];rfl
   ·next k i q=>
    split at f
    ·next cs t sz wr hk=>
     split at f
     ·next hl=>
      obtain⟨bs,x6,rfl⟩:=bq.1 f;refine⟨strOf bs,mf ?_,.string _⟩;have N:=CK (P:=P) V hk hl x6 O;obtain⟨sl,i',c',_,_,_,T,_⟩:=O.lP;rw[T]at N⊢;simp only[convert,aV,cS L,cS Q,aJ,cS q];exact N
     ·cases f
    ·cases f
   ·cases f
  ·cases f
 ·next t m k F K=>
  simp only[K];have Z:=D m;have hk:=D k;split at f
  ·next kt e E=>
   split at f
   ·next X z I hz=>
    split at f
    ·next W=>
     have x7:=hk.wY (GZ W);have S:∃g,Ct β X g.toList/\((B m = .map none/\g = #[])\/ ∃b A,B m = .map (aa b)/\(getObj b).run P w = .ok (.map g A) w):=by
      split at I
      ·next U=>
       obtain rfl:=aC I;rw[U]at Z;exact⟨#[],⟨rfl,λi p e L=>by simp at L⟩,.inl ⟨Z.Iy,rfl⟩⟩
      ·next r U=>
       rw[U]at Z;split at I
       ·next y2 H=>
        obtain rfl:=aC I;obtain⟨sl,N,x4,q⟩:=Z.Ng;obtain⟨_,g,A,hw,l⟩:=V.blk _ _ _ H N;exact⟨g,l,.inr ⟨sl.b,A,q,by simp[getObj,Sem.run,hw]⟩⟩
       ·cases I
      ·cases I
     obtain⟨g,l,x3⟩:=S;have y1:∀{v:ah},(∃r,Bh P kt (M k) X=aa r/\v=match r with|some v=>(if F then .tuple #[v,.bool af]else v)|none=>(if F then .tuple #[z,.bool ak]else z))->
       ∃G,(Instr.lookup t (B m) (B k) F).run P w = .ok G w/\cA β v G:=by
      rintro v ⟨r,H,rfl⟩;rw[x7];obtain⟨α,Lg,R,hF,x0⟩:=Io W w g.toList;obtain⟨r',L,Q⟩:=PB hF X g.toList 0 l H;have x8:=x0 r' L;have hL:(Instr.lookup t (B m) (M k) F).run P w=((do
         jB g.isEmpty 10000 kt (M k)
         let(v,x9) <-match <-oL kt (M k) g.toList with
          |some (_,v)=>pure (v,af)
          |none=>pure (<-zeroValue e,ak)
         pure (if F then .tuple #[v,.bool x9]else v)):Sem ah).run P w:=by
       rcases x3 with⟨q,rfl⟩|⟨b,A,q,hg⟩
       ·simp only[Instr.lookup,aV,cS E,aJ,q,bt];rfl
       ·simp only[Instr.lookup,aV,cS E,aJ,q,hg,bt];rfl
      rw[hL];have x5:=FA W g.isEmpty w;simp only[aV,x5,aJ,x8];rcases Q with⟨rfl,rfl⟩|⟨u,j,u',rfl,rfl,x2⟩
      ·refine⟨if F then .tuple #[z,.bool ak]else z,by simp[uG hz],?_⟩;have x1:cA β z z:= .uy (jS hz).1
       cases F
       ·exact x1
       ·exact Jv x1 (.bool _)
      ·refine⟨if F then .tuple #[u',.bool af]else u',by simp,?_⟩
       cases F
       ·exact x2
       ·exact Jv x2 (.bool _)
     have:∃r,Bh P kt (M k) X=aa r/\v=match r with|some v=>(if F then .tuple #[v,.bool af]else v)|none=>(if F then .tuple #[z,.bool ak]else z):=by
      split at f
      ·next u hf=>exact⟨aa u,hf,(aC f).symm⟩
      ·next hf=>exact⟨none,hf,(aC f).symm⟩
      ·cases f
     obtain⟨G,L,Q⟩:=y1 this;exact⟨G,mf L,Q⟩
    ·cases f
   ·cases f
  ·cases f
 ·next Y y0 K=>
  simp only[K];split at f
  ·next x t O ht=>
   have C:=D x;have h0:(Y.map B)[0]?=aa (B x):=by simp[O]
   have S:∃n,v=aA n/\(Builtin.len_ y0 o.type (Y.map B)).run P w = .ok (aA n) w:=by
    simp only[Builtin.len_,ht,h0];split at f
    ·next s E J=>
     rw[J]at C;obtain rfl:=aC f;refine⟨_,rfl,?_⟩;simp only[aV,cS E,aJ,C.kh,bt,goInt];simp
    ·next n e y E=>
     obtain rfl:=aC f;refine⟨_,rfl,?_⟩;simp only[aV,cS E,aJ,bt,goInt]
    ·next e a n c E J=>
     rw[J]at C;obtain rfl:=aC f;refine⟨_,rfl,?_⟩
     cases a with
     |none=>obtain⟨rfl,rfl,q⟩:=C.la;simp only[aV,cS E,aJ,q,bt,goInt]
     |some a=>obtain⟨a',c',q⟩:=C.PS;simp only[aV,cS E,aJ,q,bt,goInt]
    ·next kt e E J=>
     rw[J]at C;obtain rfl:=aC f;refine⟨_,rfl,?_⟩;simp only[aV,cS E,aJ,C.Iy,bt,goInt]
    ·next kt e r E J=>
     rw[J]at C;split at f
     ·next X H=>
      obtain rfl:=aC f;refine⟨_,rfl,?_⟩;obtain⟨sl,N,x4,q⟩:=C.Ng;obtain⟨_,g,A,hw,l⟩:=V.blk _ _ _ H N;have hg:(getObj sl.b).run P w = .ok (.map g A) w:=by simp[getObj,Sem.run,hw]
      simp only[aV,cS E,aJ,q,hg,bt,goInt];rw[l.1];simp
     ·cases f
    ·cases f
   obtain⟨n,rfl,H⟩:=S;refine⟨aA n,?_,.int _ _⟩;simp only[resolve,aV,bt,aJ,invoke,builtin,H]
  ·cases f
 grind
end
variable{g:aw}
section
variable {β:gR} {P:aO}
def Wr(β:gR)(h:aw)(b:Nat):Prop:=∃k B a,h.get k=aa B/\B.wr=af/\β k=aa a/\a.b=b
def ud(w a:aU):Prop:=a.tape=w.tape/\w.drawn<=a.drawn
theorem ud.refl(w:aU):ud w w:=⟨rfl,aS _⟩
theorem ud.trans{b a:aU}(h:ud W b)(c:ud b a):ud W a:=⟨c.1.trans h.1,bK h.2 c.2⟩
structure Step(β:gR)(h:aw)(w:aU)(β':gR)(h':aw)(w':aU):Prop where
 le:β.le β'
 ax:h.ax<=h'.ax
 vH:pP β' h' w'
 size:w.heap.size<=w'.heap.size
 os:w'.os=w.os
 tape:ud w w'
 output:w'.output=w.output
 kept:∀b,b<w.heap.size->¬Wr β h b->w'.heap[b]?=w.heap[b]?
 back:∀b,b<w.heap.size->Wr β' h' b->Wr β h b
 fresh:∀k sl,β' k=aa sl->β k=aa sl\/(h.ax<=k/\(w.heap.size<=sl.b\/Wr β h sl.b))
 keys:∀k B,h'.get k=aa B->k<h.ax->∃B₀,h.get k=aa B₀
theorem Step.refl(a:pP β h W):Step β h W β h W:=
 ⟨β.le_refl,aS _,a,aS _,rfl,.refl _,rfl,λ_ _ _=>rfl,λ_ _ h=>h,λ_ _ h=> .inl h,λ_ B h _=>⟨B,h⟩⟩
theorem Step.trans{d:gR}{e:aw}{l j:aU}(a:Step β h W J g l)(b:Step J g l d e j):Step β h W d e j where
 le:=gR.le_trans a.le b.le
 ax:=bK a.ax b.ax
 vH:=b.vH
 size:=bK a.size b.size
 os:=b.os.trans a.os
 tape:=a.tape.trans b.tape
 output:=b.output.trans a.output
 kept:=λk c q=>(b.kept k (cz c a.size) λp=>q (a.back k c p)).trans (a.kept k c q)
 back:=λk c p=>a.back k c (b.back k (cz c a.size) p)
 fresh:=λk o c=>by
  rcases b.fresh k o c with f|⟨f,i⟩
  ·exact a.fresh k o f
  ·refine .inr ⟨bK a.ax f,?_⟩;rcases i with i|i
   ·exact .inl (bK a.size i)
   ·rcases de o.b W.heap.size with r|r
    ·exact .inr (a.back _ r i)
    omega
 keys:=λk B c m=>by
  obtain⟨n,f⟩:=b.keys k B c (cz m a.ax);exact a.keys k n f m
theorem pP.of_heap{c:aU}(a:pP β h W)(d:c.heap=W.heap):pP β h c:=
 ⟨λk b g=>by rw[d];exact a.lt k b g,λk B b e f=>(a.blk k B b e f).of_heap (by rw[d]),a.own,a.wf⟩
theorem Step.of_heap{a:aU}(d:pP β h W)(b:a.heap=W.heap)(e:a.os=W.os)(f:ud W a)(c:a.output=W.output):Step β h W β h a:=
 ⟨β.le_refl,aS _,d.of_heap b,by grind,e,f,c,λ_ _ _=>by rw[b],λ_ _ h=>h,λ_ _ h=> .inl h,λ_ B h _=>⟨B,h⟩⟩
def gR.ext(β:gR)(k:Nat)(a:Slot):gR:=λj=>if j=k then aa a else β j
theorem gR.fK(β:gR)(k:Nat)(a:Slot):β.ext k a k=aa a:=by simp[gR.ext]
theorem gR.jb(β:gR){k j:Nat}(a:Slot)(h:j≠k):β.ext k a j=β j:=by simp[gR.ext,h]
theorem gR.IF(a:Slot)(h:β k=none):β.le (β.ext k a):=λj c b=>by
 rw[β.jb a (by rintro rfl;rw[h]at b;cases b)];omega
theorem pP.rG(b:pP β h W){k:Nat}(d:h.ax<=k):β k=none:=by
 cases a:β k with
 |none=>rfl
 |some c=>exact absurd (b.lt k c a).1 (by omega)
structure wx(β:gR)(w:aU)(B:eE)(f:Nat->ah)(v':ah)(w':aU):Prop where
 size:w'.heap.size=w.heap.size+1
 os:w'.os=w.os
 tape:ud w w'
 output:w'.output=w.output
 kept:∀b,b<w.heap.size->w'.heap[b]?=w.heap[b]?
 new:∃sl:Slot,sl.b=w.heap.size/\∀(β':gR)(k:Nat),β.le β'->β' k=aa sl->Gj β' B sl w'/\cA β' (f k) v'
theorem aw.tP(c:∀k B,h.get k=aa B->k<h.ax)(B:eE):∀k b,(h.push B).get k=aa b->k<(h.push B).ax:=λk b a=>by
 rw[h.cZ]at a;split at a
 ·simp_all
 ·have:=c k b a;simp;omega
theorem aw.wf_set(c:∀k B,h.get k=aa B->k<h.ax){j:Nat}(B:eE)(d:j<h.ax):∀k b,(h.set j B).get k=aa b->k<(h.set j B).ax:=λk b a=>by
 rw[h.bZ]at a;split at a
 all_goals simp_all
theorem aw.Ui(c:∀k B,h.get k=aa B->k<h.ax)(j:Nat):∀k a,(h.del j).get k=aa a->k<(h.del j).ax:=λk a b=>by
 rw[h.iX]at b
 simp_all
theorem wx.step{A:aU}(o:pP β h W){B:eE}{f:Nat->ah}{D:ah}(l:wx β W B f D A):
  ∃u,Step β h W u (h.push B) A/\cA u (f h.ax) D:=by
 obtain⟨e,E,x⟩:=l.new;have s:=o.rG (aS h.ax);have r:β.le (β.ext h.ax e):=gR.IF e s;obtain⟨I,G⟩:=x _ h.ax r (β.fK _ _);have z:∀k a,β k=aa a->a.b<W.heap.size:=λk a d=>(o.lt k a d).2;have y:∀b,b<W.heap.size->Wr (β.ext h.ax e) (h.push B) b->Wr β h b:=by
  rintro b t ⟨k,p,a,i,g,j,m⟩;by_cases d:k=h.ax
  ·subst d;rw[β.fK]at j
   grind
  ·rw[h.nW k B d]at i;rw[β.jb e d]at j;exact⟨k,p,a,i,g,j,m⟩
 refine⟨β.ext h.ax e,⟨r,by simp,⟨?_,?_,?_,aw.tP o.wf B⟩,by rw[l.size];omega,l.os,l.tape,l.output,λb t _=>l.kept b t,y,?_,?_⟩,G⟩
 ·intro k a d;by_cases c:k=h.ax
  ·subst c;rw[β.fK]at d;obtain rfl:=aC d;exact⟨by simp,by rw[l.size,E];omega⟩
  ·rw[β.jb e c]at d;have:=o.lt k a d;exact⟨by simp;omega,by rw[l.size];omega⟩
 ·intro k p a i g;by_cases c:k=h.ax
  ·subst c;rw[β.fK]at g;obtain rfl:=aC g;rw[h.mV]at i
   grind
  ·rw[h.nW k B c]at i;rw[β.jb e c]at g;exact((o.blk k p a i g).mono r).of_heap (l.kept _ (z k a g))
 ·intro k v p C a w q i g j m H;by_cases c:k=h.ax
  ·subst c;rw[β.fK]at j;obtain rfl:=aC j;rw[β.jb e (Ne.symm q)]at m
   grind
  ·by_cases n:v=h.ax
   ·subst n;rw[β.fK]at m;obtain rfl:=aC m;rw[β.jb e q]at j
    grind
   ·rw[h.nW k B c]at i;rw[h.nW v B n]at g;rw[β.jb e c]at j;rw[β.jb e n]at m;exact o.own k v p C a w q i g j m H
 ·intro k a d;by_cases c:k=h.ax
  ·subst c;rw[β.fK]at d
   grind
  ·rw[β.jb e c]at d
   grind
 ·intro k p d F;rw[h.nW k B (by omega)]at d
  grind
theorem lH.aeH{cs:List ah}{l':List ah}(h:dE β cs l'):lH β cs 0 l'.toArray:=λi v a=>by
 obtain⟨d,b,c⟩:=h.get a
 grind
theorem Li(n:Nat):aao (0,0) n:=λx _ h=>absurd h (by simp)
theorem pC{w:aU}(o:Obj):(w.alloc o).heap[w.heap.size]?=aa o:=by
 unfold World.alloc;grind
theorem rY{w:aU}(o:Obj){b:Nat}(h:b<w.heap.size):(w.alloc o).heap[b]?=w.heap[b]?:=by
 simp only[World.alloc,getElem?_push]
 grind
theorem wG{cs l':List ah}{t:aD}{f:Nat->ah}(h:dE β cs l')
  (g:∀(a:gR)(k:Nat)(c:Slot),a k=aa c->c.b=W.heap.size->c.s=0->c.n=l'.length->c.sz=n->c.isMap=ak->cA a (f k) v):
  wx β W (.cells cs t n af) f v (W.alloc (.cells l'.toArray t)) where
 size:=by simp
 os:=rfl
 tape:= .refl _
 output:=rfl
 kept:=λb e=>rY _ e
 new:=⟨⟨W.heap.size,0,l'.length,t,n,ak⟩,rfl,λa k d i=>
  ⟨⟨rfl,rfl,⟨rfl,λ_=>rfl⟩,l'.toArray,(0,0),pC _,by simp,lH.aeH (h.mono d),λ_=>Li _⟩,g a k _ i rfl rfl rfl rfl rfl⟩⟩
theorem dE.xm{z:ah}(h:plain z=af):dE β z.cells.toList z.cells.toList:=nL.toList.1 (nL.zv h)
theorem vp{l l':List ah}(h:dE β l l'):∀n,dE β (eO l n) (eO l' n)
 |0=> .nil β
 |n+1=>h.append (vp h n)
theorem oB(l:List ah):∀n,(eO l n).length=n*l.length
 |0=>by simp[eO]
 |n+1=>by simp[eO,oB l n,cM,Nat.add_comm]
theorem Gh(l:List ah):∀(n i:Nat),i<n*l.length->(eO l n)[i]?=l[i%l.length]?
 |0,i,h=>by omega
 | n+1,i,h=>by
  have b:0<l.length:=by
   rcases dB l.length with a|a
   ·grind
   ·omega
  simp only[eO];by_cases c:i<l.length
  ·grind[eG]
  ·rw[getElem?_append_right (by omega),Gh l n (i-l.length) (by rw[cM]at h;omega)]
   grind[Nat.mod_eq_sub_mod]
theorem Cp(z:Array ah)(n:Nat)(a:0<z.size):((Array.range (n*z.size)).map (λi=>z[i%z.size]!))=(eO z.toList n).toArray:=by
 apply fY;apply cV
 grind[Gh,oB]
end
section
variable {β:gR} {P:aO}
theorem oq(e:aD)(cs:Array ah)(w:aU):(newRow e cs).run P w = .ok ⟨w.heap.size,0,none⟩ (w.alloc (.cells cs e)):=by rfl
theorem Vp(h:J k=aa G)(b:G.b=W.heap.size)(c:G.s=0)(a:G.isMap=ak):cA J (cn k 0) (cn W.heap.size 0):=by
 have:=cA.ptr (i:=0) h a
 grind
theorem AH{w:aU}{c:Nat}(h:J k=aa G)(j:G.b=w.heap.size)(d:G.s=0)(b:G.isMap=ak)(e:c<ft->m=c)(f:ft<=c->c-ft<=m)(a:n<=dk c)
  (g:G.sz=0\/m*G.sz<=G.n):cA J (gG k 0 n c) (gG w.heap.size 0 n m):=by
 have:=cA.slice (i:=0) (i':=0) h b e f a (.inl (by rw[d])) (by simpa using g)
 grind
theorem HP{c:Nat}(h:c<ft):dk c=c:=by simp_all[iN,dk]
theorem gk(c:Nat):dk (ft+c)=c:=by simp_all[dk]
theorem GU:ft=36893488147419103232:=rfl
def frz(a:aF)(n:Nat):Obj->Obj
 |.cells c b (e,d)=> .cells c b (if e==d then(a.off,a.off+n)else(min e a.off,max d (a.off+n)))
 |o=>o
theorem uV(w:aU)(a:aF){n:Nat}(c:n≠0)(b:Nat):(w.freeze a n).heap[b]?=if a.block=b then(w.heap[b]?).map (frz a n)else w.heap[b]?:=by
 unfold World.freeze;rw[iN c];simp only[Array.getElem?_modify];rfl
theorem Fw(w:aU)(a:aF)(n:Nat):(w.freeze a n).heap.size=w.heap.size:=by grind[World.freeze]
theorem zg(w:aU)(a:aF)(n:Nat):(w.freeze a n).os=w.os/\ud w (w.freeze a n)/\(w.freeze a n).output=w.output:=by
 unfold World.freeze;split<;>exact⟨rfl,.refl _,rfl⟩
theorem Ir(b:Nat):∀(q:List (ah×Nat))(a:Array ah),(q.foldl (λcs (c,j)=>cs.setIfInBounds (b+j) c) a).size=a.size
 |[],_=>rfl
 |c::q,a=>by simp only[pE];rw[Ir b q];simp
theorem Le(b:Nat->Option (Nat×Nat)):∀(l:List (Nat×ah))(a r:Array ah),jP b a l=aa r->r.size=a.size
 |[],a,r,h=>by grind[jP]
 | (i,v)::l,a,r,h=>by
  simp only[jP]at h;split at h
  ·cases h
  ·split at h
   ·cases h
   ·rw[Le b l _ _ h,<-pQ];simp[Ir]
theorem zC(f:Nat->ah)(n:Nat)(h:n=0):(Array.range n).map f = #[]:=by grind
set_option maxHeartbeats 1000000 in
theorem zw{ρ A:bh->ah}(I:∀x,cA β (ρ x) (A x)){o:aR}{B:eE}{f:Nat->ah}{w:aU}(a:dz P ρ o=aa (B,f)):
  ∃v' J,(execOp A o).run P w = .ok (.value v') J/\wx β w B f v' J:=by
 unfold dz at a;unfold execOp;split at a
 ·next t C=>
  simp only[C];split at a
  ·next z M=>
   split at a
   ·next W=>
    simp only[bc,bA]at a;obtain⟨rfl,rfl⟩:=a;refine⟨_,_,mf (v:= cn w.heap.size 0) (w':=w.alloc (.cells z.cells.toList.toArray t)) ?_,wG (dE.xm (jS M).1) λL k sl y F Y h4 h5 T=>Vp y F Y T⟩;simp[Instr.alloc,uG M,newVar,oq]
   ·cases a
  ·cases a
 ·next t x C=>
  simp only[C];split at a
  ·next W=>
   simp only[bc,bA]at a;obtain⟨rfl,rfl⟩:=a;have Z:=I x;have hj:ρ x≠Ab.rj:=by
    intro e;rw[e]at W
    cases W
   have hc:=Z.cells hj;refine⟨_,_,mf (v:= cn w.heap.size 0) (w':=w.alloc (.cells (A x).cells.toList.toArray t)) ?_,wG (nL.toList.1 hc) λL k sl y F Y h4 h5 T=>Vp y F Y T⟩;simp[Instr.box,newVar,oq]
  ·cases a
 ·next t g u C=>
  simp only[C];split at a
  ·next e hu=>
   split at a
   ·next Q z U M=>
    split at a
    ·next hc=>
     obtain⟨H,S,y9⟩:=hc;split at a
     ·next cs D=>
      split at D
      ·next hj=>
       split at a
       ·next W=>
        simp only[bc,bA]at a;obtain⟨rfl,rfl⟩:=a;have R:nL β (eO z.cells.toList g).toArray (eO z.cells.toList g).toArray:=nL.toList.2 (by simpa using vp (dE.xm (jS M).1) g);have y4:Gn β (u.toList.map λp=>(p.1,ρ p.2)) (u.toList.map λp=>(p.1,A p.2)):=Gn.map u.toList (·.1) λp _=>I p.2;obtain⟨x0,hf,hr⟩:=C2 _ _ _ _ _ _ y4 (by
         intro p hp;simp only[dZ]at hp;obtain⟨q,hq,rfl⟩:=hp;exact cw.1 hj q hq) R D
        have x4:x0.size=g*Q:=by
         rw[Le _ _ _ _ hf];simp[oB,H]
        refine⟨_,_,mf (v:= gG w.heap.size 0 g g) (w':=w.alloc (.cells x0.toList.toArray e)) ?_,wG (nL.toList.1 hr) λL k sl y F Y h4 h5 T=>
         AH y F Y T (λ_=>rfl) (λh=>absurd h (by rw[GU];have:g<=g*Q:=Nat.le_mul_of_pos_right _ S;omega))
          (by rw[HP (by rw[GU];have:g<=g*Q:=Nat.le_mul_of_pos_right _ S;omega)];exact aS _) (.inr (by rw[h5,h4];simp[x4]))⟩
        have he:(u.map λ(i,x)=>(i,A x)).toList=(u.toList.map λp=>(p.1,A p.2)):=by simp
        have V:((Array.range (g*Q)).map (z.cells[· % z.cells.size]!))=(eO z.cells.toList g).toArray:=by
         rw[<-H];exact Cp z.cells g (by omega)
        simp only[Instr.buildSlice,aV,cS hu,aJ,iH U,eS];rw[iN (by omega)];by_cases x1:g*Q=0
        ·rw[iP x1];have:g=0:=by rcases Nat.mul_eq_zero.1 x1 with h|h;exact h;omega
         subst this;simp only[eO]at hf;simp only[bt,aJ,he];rw[zC _ _ (by simp)];have y7:jP (λi=>aa (i*Q,Q)) #[] (u.toList.map λp=>(p.1,A p.2))=aa x0:=hf;rw[y7];simp[oq]
        ·rw[iN x1];simp only[aV,uG M,bt,aJ,V,he,hf];simp[oq]
       ·cases a
      ·cases D
     ·cases a
    ·cases a
   ·cases a
  ·cases a
 ·next t l c C=>
  simp only[C];have hl:=I l;have hc:=I c;split at a
  ·next e l0 G hu y5 y2=>
   rw[y5]at hl;rw[y2]at hc;split at a
   ·next i z hi M=>
    split at a
    ·next x3=>
     obtain⟨H,S,h0,y,F,Y⟩:=x3;simp only[bc,bA]at a;obtain⟨rfl,rfl⟩:=a;have R:dE β (eO z.cells.toList G.toNat) (eO z.cells.toList G.toNat):=vp (dE.xm (jS M).1) _;have U:cd P e=aa i.size:=by simp[cd,hi]
     refine⟨_,_,mf (v:= gG w.heap.size 0 l0.toNat G.toNat) (w':=w.alloc (.cells (eO z.cells.toList G.toNat).toArray e)) ?_,wG R λL k sl y0 x9 y1 h4 h5 T=>
      AH y0 x9 y1 T (λ_=>rfl) (λh=>absurd h (by rw[GU];omega)) (by rw[HP (by rw[GU];omega)];omega) (.inr (by rw[h5,h4,oB];simp[H]))⟩
     have y3:an.wrap l0=l0:=by rw[wrap_i64];omega
     have x8:an.wrap G=G:=by rw[wrap_i64];omega
     simp only[Instr.makeSlice,aV,cS hu,aJ,hl.il,hc.il,asInt,asIntOf,bt,zM hi,y3,x8,eS];have z0:(i.bytes:Int)*G<=140737488355328:=by rw[Int.mul_comm];exact F
     rw[iN (by simp;omega)];simp only[run_askRoom,aJ,iH U];by_cases X:G.toNat*i.size=0
     ·rw[iP X];have:G.toNat=0:=by rcases Nat.mul_eq_zero.1 X with h|h;exact h;omega
      rw[zC _ _ X,oq,this];rfl
     ·rw[iN X];have V:=Cp z.cells G.toNat (by omega);rw[H]at V;simp only[uG M,aJ,H];rw[V,oq];rfl
    ·cases a
   ·cases a
  ·cases a
 ·next t r C=>
  simp only[C];have K:∀v',v'=Value.map (aa w.heap.size)->wx β w (.map []) (λk=> .map (aa k)) v' (w.alloc (.map #[] 0)):=λv' he=>
   {
    size:=by simp,os:=rfl,tape:= .refl _,output:=rfl,kept:=λb N=>rY _ N
    new:=⟨⟨w.heap.size,0,0,0,0,af⟩,rfl,λL k _ hk=>⟨⟨rfl,#[],0,pC _,rfl,λi p e h=>by simp at h⟩,by rw[he];exact .map (sl:=⟨w.heap.size,0,0,0,0,af⟩) hk rfl⟩⟩ }
  split at a
  ·next kt e hu=>
   split at a
   ·simp only[bc,bA]at a;obtain⟨rfl,rfl⟩:=a;refine⟨_,_,mf (v:= .map (aa w.heap.size)) (w':=w.alloc (.map #[] 0)) ?_,K _ rfl⟩;simp[Instr.makeMap]
   ·next x=>
    split at a
    ·next k n Z=>
     have x5:=I x;rw[Z]at x5;simp only[bc,bA]at a;obtain⟨rfl,rfl⟩:=a;refine⟨_,_,mf (v:= .map (aa w.heap.size)) (w':=w.alloc (.map #[] 0)) ?_,K _ rfl⟩;simp[Instr.makeMap,cS hu,x5.il,asInt,asIntOf]
    ·cases a
  ·cases a
 ·next s d x C=>
  simp only[C];have Z:=I x;split at a
  ·next ds e E y F ha=>
   rw[ha]at Z;split at a
   ·next he=>
    split at a
    ·next U=>
     simp only[bc,bA]at a;obtain⟨rfl,rfl⟩:=a;have x6:(Question.appendCap E.size 0 e).forced=ak:=rfl;obtain⟨m,x7,z1⟩:∃m,(Question.appendCap E.size 0 e).cut (w.tape w.drawn (.appendCap E.size 0 e))=m/\E.size<=m:=⟨_,rfl,by simp[Question.cut]⟩
     let j:Array ah:=(E.data.map λb=>aB aK b.toNat)++Array.replicate (m-E.size) (.int aK 0)
     have D:j.size=m:=by simp[j];omega
     let O:aU:=w.drew.alloc (.cells j e)
     let w2:aU:=O.freeze ⟨w.heap.size,m,none⟩ 1
     have K:w2.heap[w.heap.size]?=aa (.cells j e (m,m+1)):=by
      have y:O.heap[w.heap.size]?=aa (.cells j e):=pC (w:=w.drew) _;simp only[w2,uV _ _ (Nat.succ_ne_zero 0),if_true,y,fP,frz,BEq.rfl]
     refine⟨_,w2,mf (v:= gG w.heap.size 0 E.size m) (w':=w2) ?_,?_⟩
     ·have y6:O.shape? w.heap.size=aa (e,m):=by
       have y:O.heap[w.heap.size]?=aa (.cells j e):=pC (w:=w.drew) _;simp[World.shape?,y,D]
      have x2:(convert s d (A x)).run P w=(Conv.stringToBytes e E).run P w:=by
       rw[Z.kh];simp only[convert,aV,cS y,cS F,aJ]
       cases ds<;>simp only[cS he,aJ]
      rw[x2];simp only[Conv.stringToBytes,aV,run_choose,x6,dM,if_false,aJ,x7,oq];show(Sem.run P (markStringish ⟨w.heap.size,0,none⟩) O).andThen _=_;simp only[markStringish,aV,run_shape,y6,aJ,run_freeze,bt];rfl
     ·refine{ size:= ?_,os:=rfl,tape:=⟨rfl,fJ _⟩,output:=rfl,kept:= ?_,new:=⟨⟨w.heap.size,0,m,e,1,ak⟩,rfl,?_⟩ }
      ·simp[w2,O,Fw]
      ·intro b N;have:O.heap[b]?=w.heap[b]?:=rY (w:=w.drew) _ N;simp only[w2,uV _ _ (Nat.succ_ne_zero 0)];rw[iN (by omega)];exact this
      ·intro L k y8 hk;refine⟨⟨rfl,rfl,⟨rfl,λ_=>rfl⟩,j,(m,m+1),K,D,?_,λ_ x y F=>by rw[D];exact y⟩,?_⟩
       ·intro i v a;simp only[List.getElem?_map,bq]at a;obtain⟨b,N,rfl⟩:=a;refine⟨_,?_,.int _ _⟩;have hi:i<E.data.size:=by
         have:=(List.getElem?_eq_some_iff.1 N).1;simpa using this
        simp only[j,bO];rw[Array.getElem?_append_left (by simpa using hi)];rw[getElem?_toList]at N;simp[N]
       ·have:E.data.toList.length=E.size:=by simp
        rw[this];exact AH (w:=w) hk rfl rfl rfl (λh=>absurd h (by omega)) (λ_=>by omega) (by rw[gk];exact aS _) (.inr (by simp))
    ·cases a
   ·cases a
  ·cases a
 grind
end
variable{d:List ah}
section
variable {β:gR} {P:aO}
structure At(w w':aU)(b:Nat):Prop where
 size:w'.heap.size=w.heap.size
 os:w'.os=w.os
 tape:ud w w'
 output:w'.output=w.output
 kept:∀b',b'≠b->w'.heap[b']?=w.heap[b']?
theorem At.refl(w:aU)(b:Nat):At w w b:=⟨rfl,rfl,.refl _,rfl,λ_ _=>rfl⟩
theorem At.trans{d c:aU}{b:Nat}(h:At W d b)(a:At d c b):At W c b:=
 ⟨a.size.trans h.size,a.os.trans h.os,h.tape.trans a.tape,a.output.trans h.output,λf e=>(a.kept f e).trans (h.kept f e)⟩
theorem Step.at_{v:aU}(o:pP β h W){k:Nat}{f B:eE}{m:Slot}(z:h.get k=aa f)(u:β k=aa m)(y:f.wr=af)(n:At W v m.b)(G:Gj β B m v):Step β h W β (h.set k B) v:=by
 have A:∀a l d,a≠k->h.get a=aa l->β a=aa d->d.b≠m.b:=λa l d c e g=>(o.own k a f l m d (Ne.symm c) z e u g y).symm;refine⟨β.le_refl,aS _,⟨?_,?_,?_,aw.wf_set o.wf B (o.lt k m u).1⟩,by rw[n.size];omega,n.os,n.tape,n.output,?_,?_,λ_ _ h=> .inl h,?_⟩
 ·intro a d e;rw[n.size];exact o.lt a d e
 ·intro a l d e g;by_cases c:a=k
  ·subst c;rw[h.hC]at e
   grind
  ·rw[h.fp k a B c]at e;exact(o.blk a l d e g).of_heap (n.kept _ (A a l d c e g))
 ·intro i j w x s q c e g p r F;by_cases t:i=k
  ·subst t;rw[h.fp i j B (Ne.symm c)]at g
   grind
  ·rw[h.fp k i B t]at e;by_cases C:j=k
   ·grind
   ·rw[h.fp k j B C]at g;exact o.own i j w x s q c e g p r F
 ·intro b D E;refine n.kept b ?_;rintro rfl;exact E ⟨k,f,m,z,y,u,rfl⟩
 ·rintro b D ⟨a,l,d,e,g,p,r⟩;by_cases c:a=k
  ·subst c;exact⟨a,f,d,z,y,p,r⟩
  ·rw[h.fp k a B c]at e;exact⟨a,l,d,e,g,p,r⟩
 ·intro a l e g;by_cases c:a=k
  ·grind
  ·rw[h.fp k a B c]at e;grind
def pX(a:Array ah)(o:Nat)(b:List ah):Array ah:=(a.toList.take o++b++a.toList.drop (o+b.length)).toArray
theorem TV(a:Array ah)(o:Nat):pX a o []=a:=by grind[pX]
theorem zW(h:n+c.length<=V.size):(pX V n c).size=V.size:=by grind[pX]
theorem Rb(h:n+(c.length+1)<=V.size):pX (V.setIfInBounds n v) (n+1) c=pX V n (v::c):=by
 have a:n<V.toList.length:=by simp;omega
 have b:(V.toList.set n v).take (n+1)=V.toList.take n++[v]:=by
  rw[eQ (by simpa using a),List.take_set_of_le (aS _)];simp
 have d:(V.toList.set n v).drop (n+1+c.length)=V.toList.drop (n+(c.length+1)):=by
  rw[List.drop_set_of_lt (by omega)];congr 1;omega
 simp_all[pX]
theorem TN(w:aU){b o:Nat}{a:Array ah}{t:aD}{c:Nat×Nat}(v:ah)(e:w.heap[b]?=aa (.cells a t c)):
  At w (w.setCell ⟨b,o,none⟩ v) b/\(w.setCell ⟨b,o,none⟩ v).heap[b]?=aa (.cells (a.setIfInBounds o v) t c):=by
 refine⟨⟨by simp[World.setCell],rfl,⟨rfl,aS _⟩,rfl,λf d=>?_⟩,?_⟩
 all_goals simp_all[Array.getElem?_modify,Ne.symm,World.setCell]
theorem xr(b o:Nat)(t:aD)(e:Nat×Nat):∀(c:List ah)(i:Nat)(a:Array ah)(w:aU),w.heap[b]?=aa (.cells a t e)->aao e a.size->o+i+c.length<=a.size->
  (∀v∈c,v.oneCell'=af)->∃d,(storeCells ⟨b,o,none⟩ c i).run P w = .ok () d/\At w d b/\d.heap[b]?=aa (.cells (pX a (o+i) c) t e)
 |[],i,a,w,f,_,_,_=>⟨w,rfl,At.refl w b,by grind[TV]⟩
 | v::c,i,a,w,f,h,p,j=>by
  simp only[bP]at p;have s:w.cell? ⟨b,o+i,none⟩=aa a[o+i]:=by rw[tx f];exact getElem?_eq_getElem (by omega)
  have m:w.frozen? ⟨b,o+i,none⟩=ak:=by
   simp only[World.frozen?,f];rw[Bool.and_eq_false_iff];by_cases k:e.1<=o+i
   ·right;simp only[decide_eq_false_iff_not];intro n;have:=h _ k n;omega
   ·left;simpa using k
  have x:(store ((⟨b,o,none⟩:aF).add i) v).run P w = .ok () (w.setCell ⟨b,o+i,none⟩ v):=by
   rw[gH,run_store P w _ v .plain (j v cH),s];simp[m]
  obtain⟨r,g⟩:=TN w (o:=o+i) v f;obtain⟨d,z,l,y⟩:=xr b o t e c (i+1) _ _ g (by simpa using h) (by simp;omega) λu q=>j u (cJ _ q);refine⟨d,?_,r.trans l,?_⟩
  all_goals grind[aV,aJ,Rb,storeCells]
theorem dE.scalars{l l':List ah}(h:dE β l l')(d:l.all eY=af):∀v∈l',v.oneCell'=af:=λv c=>by
 obtain⟨i,b,rfl⟩:=List.mem_iff_getElem.1 c;have a:i<l.length:=h.1▸b;exact((h.2 i _ _ (gE a) (gE b)).TI (cw.1 d _ (List.getElem_mem a))).1
theorem lH.pX{cs:List ah}(h:lH β cs n V)(f:dE β c d)(m:i+c.length<=cs.length)(l:n+i+c.length<=V.size):
  lH β (cs.take i++c++cs.drop (i+c.length)) n (Ab.pX V (n+i) d):=by
 have k:d.length=c.length:=f.1.symm;intro j v a;have g:∀j,(Ab.pX V (n+i) d)[n+j]?=if j<i then V[n+j]? else if j<i+c.length then d[j-i]? else V[n+j]?:=by
  intro j;simp only[Ab.pX,List.getElem?_toArray];by_cases b:j<i
  ·grind
  ·rw[iN b];by_cases e:j<i+c.length
   ·rw[iP e,getElem?_append_left (by simp;omega),getElem?_append_right (by simp;omega)]
    grind
   ·rw[iN e,getElem?_append_right (by simp;omega),getElem?_drop,getElem?_toList]
    grind
 rw[g];by_cases b:j<i
 ·rw[iP b];rw[cE,getElem?_append_left (by grind),getElem?_take,iP b]at a;exact h j v a
 ·rw[iN b];by_cases e:j<i+c.length
  ·rw[iP e];rw[getElem?_append_left (by grind),getElem?_append_right (by grind)]at a;have:j-(cs.take i).length=j-i:=by simp;omega
   rw[this]at a;exact f.get a
  ·rw[iN e];rw[getElem?_append_right (by grind),getElem?_drop]at a;have:i+c.length+(j-(cs.take i++c).length)=j:=by simp;omega
   rw[this]at a;exact h j v a
theorem AI(o:pP β h W){k i:Nat}{c:Slot}{d f:List ah}{u:dJ}(b:storeAt h k i d=aa u)(n:β k=aa c)(e:dE β d f):
  ∃m,(storeCells ⟨c.b,c.s+i,none⟩ f).run P W = .ok () m/\Step β h W β (u.app h) m:=by
 unfold storeAt at b;split at b
 ·next cs t H q=>
  split at b
  ·next G=>
   obtain⟨A,z⟩:=G;obtain rfl:=aC b;obtain⟨s,y,x,g,p,v,r,a,j⟩:=o.blk k _ c q n;by_cases w:d=[]
   ·subst w;have:=e.jD;subst this;refine⟨W,rfl,Step.at_ o q n rfl (At.refl W _) ?_⟩;simp only[cF,List.length_nil,fh,ej];exact⟨s,y,x,g,p,v,r,a,j⟩
   ·have D:0<d.length:=fL.2 w;have l:c.s+i+d.length<=g.size:=by
     obtain⟨I,C,_⟩:=a (i+d.length-1) _ (gE (by omega));have:=(Array.getElem?_eq_some_iff.1 C).1;omega
    obtain⟨m,F,E,B⟩:=xr (P:=P) c.b (c.s+i) t p f 0 g W v (j rfl) (by rw[<-e.1];omega) (e.scalars z);refine⟨m,F,Step.at_ o q n rfl E ⟨s,y,x,_,p,B,?_,a.pX e A l,λ_=>?_⟩⟩
    ·rw[zW (by rw[<-e.1];omega)];exact r
    ·rw[zW (by rw[<-e.1];omega)];exact j rfl
  ·cases b
 grind
end
section
variable {β:gR} {P:aO}
theorem N9{i:TypeInfo}(h:gF P T=aa i):P.info? T=aa i/\0<i.size/\∃z,i.zero=aa z/\z.cells.size=i.size/\zeroOf P T=aa z:=by
 unfold gF at h;split at h
 ·next f z b c=>
  split at h
  ·next e=>
   obtain rfl:=aC h;obtain⟨_,j,d,a⟩:=jS c;rw[b]at d;obtain rfl:=aC d;exact⟨b,e.2,z,a,e.1,c⟩
  ·cases h
 grind
theorem xx(N:pP β h W){d:Nat}{x G:ah}{u:List ah}{m:Nat}(e:ig h d x=aa (u,m))(v:cA β x G):
  (∀W,(Builtin.lenOf G).run P W = .ok m W)/\∀j,j<=m->∃l',(∀g,(∀b,b<W.heap.size->g.heap[b]?=W.heap[b]?)->(eN d j G).run P g = .ok l'.toArray g)/\dE β (u.take (j*d)) l':=by
 unfold ig at e;split at e
 ·simp only[bc,bA]at e;obtain⟨rfl,rfl⟩:=e;obtain⟨_,_,rfl⟩:=v.la;refine⟨λW=>rfl,λj z=>⟨[],λg _=>by simp[eN],by simp;exact .nil β⟩⟩
 ·simp only[bc,bA]at e;obtain⟨rfl,rfl⟩:=e
  cases v
  refine⟨λW=>rfl,λj z=>⟨[],λg _=>?_,by simp;exact .nil β⟩⟩;obtain rfl:j=0:=by omega
  simp[eN,loadCells,loadCellsFrom]
 ·next k i n c=>
  split at e
  ·next cs t x2 wr hk=>
   split at e
   ·next Y=>
    simp only[bc,bA]at e;obtain⟨rfl,rfl⟩:=e;obtain⟨a,i',c',H,hm,_,rfl,x0,x4,x1,Q,x3⟩:=v.lP;obtain⟨_,_,_,D,fr,y,hn,f,_⟩:=N.row hk H;refine⟨λW=>rfl,λj z=>?_⟩;by_cases K:j=0
    ·subst K;exact⟨[],λg _=>by simp[eN,loadCells,loadCellsFrom],by simp;exact .nil β⟩
    ·have S:i'=a.s+i:=by rcases Q with p|⟨p,w⟩;exact p;exact absurd p (by omega)
     subst S;have M:j*d<=n*d:=bJ _ z;have o:((cs.drop i).take (j*d)).length=j*d:=by
      simp only[bo,cQ]at Y⊢;omega
     have A:=(N.lt k a H).2;have I:=AE (P:=P) y f i (j*d) o;obtain⟨l',hr,l⟩:=I;refine⟨l',λg B=>?_,?_⟩
     ·obtain⟨l2,x5,V⟩:=AE (P:=P) (w:=g) (by rw[B _ A];exact y) f i (j*d) o;have:(loadCells ⟨a.b,a.s+i,none⟩ (j*d)).run P g = .ok l'.toArray g:=by
       have X:∀q,q<j*d->W.cell? ((⟨a.b,a.s+i,none⟩:aF).add q)=aa (l'.getD q undef):=by
        intro q r;have E:l'.length=j*d:=by rw[<-l.1,o]
        have R:q<((cs.drop i).take (j*d)).length:=by omega
        have U:=gE R;rw[getElem?_take,iP r,getElem?_drop]at U;obtain⟨v',p,_⟩:=f _ _ U;have w:=run_loadCells (P:=P) W ⟨a.b,a.s+i,none⟩ (j*d) (λq=>D.getD (a.s+(i+q)) undef) (by
         intro F T;have J:F<((cs.drop i).take (j*d)).length:=by omega
         have C:=gE J;rw[getElem?_take,iP T,getElem?_drop]at C;obtain⟨v2,L,_⟩:=f _ _ C;rw[gH,tx y,show a.s+i+F=a.s+(i+F) by omega,L];simp[dp,L])
        rw[hr]at w;simp only[Result.ok.injEq,and_true]at w;have Z:l'=(dL (j*d)).map λq=>D.getD (a.s+(i+q)) undef:=by simpa using congrArg Array.toList w
        rw[gH,tx y,show a.s+i+q=a.s+(i+q) by omega,p,Z];simp[List.getD,r,dp,p]
       have E:l'.length=j*d:=by rw[<-l.1,o]
       have e2:=run_loadCells (P:=P) g ⟨a.b,a.s+i,none⟩ (j*d) (λq=>l'.getD q undef) (by
        intro q r;have:g.cell? ((⟨a.b,a.s+i,none⟩:aF).add q)=W.cell? ((⟨a.b,a.s+i,none⟩:aF).add q):=by
         rw[gH];simp[World.cell?,B _ A]
        rw[this];exact X q r)
       rw[e2];congr 2;apply cV;intro q;by_cases r:q<j*d
       ·simp[r,List.getD,gE (show q<l'.length by omega)]
       ·rw[getElem?_eq_none (by simp;omega),getElem?_eq_none (by omega)]
      exact this
     ·rw[List.take_take,dO M];exact l
   ·cases e
  ·cases e
 ·next s=>
  split at e
  ·next O=>
   subst O;simp only[bc,bA]at e;obtain⟨rfl,rfl⟩:=e
   cases v.kh
   refine⟨λW=>by simp[Builtin.lenOf],λj z=>⟨(s.data.toList.map λb=>aB aK b.toNat).take j,λg _=>?_,?_⟩⟩
   ·simp only[eN,bt];congr 1;apply fY;simp[ByteArray.data_extract,Array.toList_extract]
   ·rw[df,<-List.map_take];exact dE.map _ λb _=> .int _ _
  ·cases e
 grind
theorem Aa(h:fD P T=af):P.underlying T=aa .string\/ ∃e,P.underlying T=aa (.slice e):=by grind[fD]
theorem se{t q e:aD}{i:TypeInfo}(v:P.underlying t=aa (.slice e))(A:P.info? e=aa i)(g:fD P T=af){b:Option aF}{n c m:Nat}{d:ah}{f:List ah}{w h:aU}
  (o:∀w,(Builtin.lenOf d).run P w = .ok m w) (l:(eN i.size m d).run P w = .ok f.toArray w) (x:n+m<=c)
  (y:(match b with|some a=>storeCells (a.add (n*i.size)) f|none=>pure ():Sem Unit).run P w = .ok () h):
  (nr #[t,T] q #[ae b n c,d]).run P w = .ok (ae b (n+m) c) h:=by
 have u:(#[t,T]:Array aD)[0]?=aa t:=rfl;have r:(#[t,T]:Array aD)[1]?=aa T:=rfl;have s:(#[ae b n c,d]:Array ah)[0]?=aa (ae b n c):=rfl;have p:(#[ae b n c,d]:Array ah)[1]?=aa d:=rfl;have k:∀w,(sizeOf e).run P w = .ok i.size w:=iH (by grind[cd]);rcases Aa g with j|⟨z,j⟩
 all_goals
  simp only[nr,u,r,s,p,aV,cS v,aJ,k,cS j,bt,dM,if_false,o,eS];rw[iP x];simp only[Bool.not_false,if_true,l,aJ]
  cases b with
  |none=>simp_all
  |some a=>simp_all
theorem uE{t ty e:aD}{i:TypeInfo}{z:ah}(y:P.underlying t=aa (.slice e))(s:P.info? e=aa i)(E:i.zero=aa z)(f:fD P T=af){base:Option aF}{n c m:Nat}{a:ah}
  {olds b:List ah} {w:aU} (o:∀w,(Builtin.lenOf a).run P w = .ok m w) (u:(eN i.size n (ae base n c)).run P w.drew = .ok olds.toArray w.drew)
  (l:(eN i.size m a).run P w.drew = .ok b.toArray w.drew) (A:c<n+m) (B:(n+m)*i.bytes<=70368744177664) (D:n+m<=1099511627776):
  (nr #[t,T] ty #[ae base n c,a]).run P w = .ok (gG w.heap.size 0 (n+m) (grownCap w (n+m) c e))
   (w.drew.alloc (.cells (olds++b++(hO z.cells (grownCap w (n+m) c e-(n+m))).toList).toArray e)):=by
 have v:(#[t,T]:Array aD)[0]?=aa t:=rfl;have q:(#[t,T]:Array aD)[1]?=aa T:=rfl;have r:(#[ae base n c,a]:Array ah)[0]?=aa (ae base n c):=rfl;have p:(#[ae base n c,a]:Array ah)[1]?=aa a:=rfl;have j:∀w,(sizeOf e).run P w = .ok i.size w:=iH (by grind[cd]);have g:∀w,(zeroValue e).run P w = .ok z w:=λw=>by simp_all[zM,zeroValue]
 have k:=growslice_fits (need:=n+m) (old:=c) (bytes:=i.bytes) A (by omega);have d:(Question.appendCap (n+m) c e).forced=ak:=rfl;have x:an.max=9223372036854775807:=by decide
 rcases Aa f with h|⟨C,h⟩
 all_goals
  simp only[nr,v,q,r,p,aV,cS y,aJ,j,cS h,bt,dM,if_false,o,eS,zM s,false_or,Bool.not_false,if_true];rw[iN (by omega),iN (by omega),iN (by omega)];simp only[run_choose,d,dM,if_false,aJ,run_askRoom,World.drew_eq,u,l,g,oq];congr 2
  simp_all[grownCap]
theorem VE(c:pP β h W)(k:Nat):pP β (h.del k) W:=
 ⟨λf l q=>c.lt f l q,λf B l a b=>by
  rw[h.iX]at a;split at a
  ·grind
  ·exact c.blk f B l a b,λj m g i e d n a b o p r=>by
  rw[h.iX]at a b;split at a
  ·grind
  ·split at b
   ·grind
   ·exact c.own j m g i e d n a b o p r,aw.Ui c.wf k⟩
theorem acr(f:pP β h W)(k:Nat):Step β h W β (h.del k) W:=
 ⟨β.le_refl,aS _,VE f k,aS _,rfl,.refl _,rfl,λ_ _ _=>rfl,λb j ⟨c,B,g,a,d,e,i⟩=>⟨c,B,g,by
  rw[h.iX]at a;grind,d,e,i⟩,λ_ _ h=> .inl h,λc B a d=>⟨B,by
  rw[h.iX]at a;grind⟩⟩
theorem YL{I:aU}(s:pP β h W){k:Nat}{i B:eE}{o sl':Slot}(F:h.get k=aa i)(z:β k=aa o)(E:i.wr=af)(v:At W I o.b)(t:sl'.b=o.b)
  (N:Gj (β.ext h.ax sl') B sl' I):Step β h W (β.ext h.ax sl') ((h.del k).push B) I:=by
 have P:=(s.lt k o z).1;have D:=s.rG (aS h.ax);have H:β.le (β.ext h.ax sl'):=gR.IF sl' D;have j:∀d,d≠h.ax->∀g,((h.del k).push B).get d=aa g->d≠k/\h.get d=aa g:=by
  intro d a g G;rw[(h.del k).nW d B a,h.iX]at G;split at G
  ·cases G
  ·next m=>exact⟨m,G⟩
 have K:((h.del k).push B).get h.ax=aa B:=(h.del k).mV B;have w:∀d g e,d≠k->h.get d=aa g->β d=aa e->e.b≠o.b:=λd g e a c f=>(s.own k d i g o e (Ne.symm a) F c z f E).symm;refine⟨H,by simp,⟨?_,?_,?_,aw.tP (h:=h.del k) (aw.Ui s.wf k) B⟩,by rw[v.size];exact aS _,v.os,v.tape,v.output,?_,?_,?_,?_⟩
 ·intro d e c;rw[v.size];by_cases a:d=h.ax
  ·subst a;rw[β.fK]at c;obtain rfl:=aC c;exact⟨by simp,by rw[t];exact(s.lt k o z).2⟩
  ·rw[β.jb sl' a]at c;have:=s.lt d e c;exact⟨by simp;omega,this.2⟩
 ·intro d g e c f;by_cases a:d=h.ax
  ·subst a;rw[β.fK]at f;obtain rfl:=aC f;rw[K]at c;obtain rfl:=aC c;exact N
  ·rw[β.jb sl' a]at f;obtain⟨m,c⟩:=j d a g c;exact((s.blk d g e c f).mono H).of_heap (v.kept _ (w d g e m c f))
 ·intro q l u p y x a c f n r O;by_cases C:q=h.ax
  ·subst C;rw[β.fK]at n;obtain rfl:=aC n;rw[β.jb _ (Ne.symm a)]at r;obtain⟨m,f⟩:=j l (Ne.symm a) p f;rw[t];exact(w l p x m f r).symm
  ·rw[β.jb _ C]at n;obtain⟨J,c⟩:=j q C u c;by_cases A:l=h.ax
   ·subst A;rw[β.fK]at r;obtain rfl:=aC r;rw[t];exact w q u y J c n
   ·rw[β.jb _ A]at r;obtain⟨_,f⟩:=j l A p f;exact s.own q l u p y x a c f n r O
 ·intro b L M;refine v.kept b ?_;rintro rfl;exact M ⟨k,i,o,F,E,z,rfl⟩
 ·rintro b L ⟨d,g,e,c,f,n,r⟩;by_cases a:d=h.ax
  ·subst a;rw[β.fK]at n;obtain rfl:=aC n;exact⟨k,i,o,F,E,z,by rw[<-r,t]⟩
  ·rw[β.jb _ a]at n;obtain⟨_,c⟩:=j d a g c;exact⟨d,g,e,c,f,n,r⟩
 ·intro d e c;by_cases a:d=h.ax
  ·subst a;rw[β.fK]at c;obtain rfl:=aC c;exact .inr ⟨aS _,.inr ⟨k,i,o,F,E,z,t.symm⟩⟩
  ·rw[β.jb _ a]at c;exact .inl c
 grind
theorem TP(z:Array ah)(n:Nat):(hO z n).size=n*z.size:=by simp[hO]
theorem wF{w:aU}{e:aD}{need cap:Nat}{z:Array ah}(a:dE β c d)(l:c.length=need*n)(q:z.size=n)(u:need<=cap):
  wx β w (.cells c e n af) (λk=> gG k 0 need (ft+need)) (gG w.heap.size 0 need cap) (w.drew.alloc (.cells (d++(hO z (cap-need)).toList).toArray e)) where
 size:=by simp
 os:=rfl
 tape:=⟨rfl,fJ _⟩
 output:=rfl
 kept:=λb j=>rY (w:=w.drew) _ j
 new:=by
  have f:(d++(hO z (cap-need)).toList).toArray.size=cap*n:=by
   simp only[List.size_toArray,bg,gK,TP,q,<-a.1,l,<-cM];congr 1;omega
  refine⟨⟨w.heap.size,0,cap*n,e,n,ak⟩,rfl,λs k g p=>⟨⟨rfl,rfl,⟨rfl,λ_=>rfl⟩,_,(0,0),pC (w:=w.drew) _,f,?_,λ_=>Li _⟩,?_⟩⟩
  ·intro i v o;obtain⟨r,t,m⟩:=a.get o;refine⟨r,?_,m.mono g⟩
   grind
  ·exact AH (w:=w) p rfl rfl rfl (λh=>absurd h (by omega)) (λ_=>by omega) (by simp[gk]) (.inr (aS _))
end
section
variable {β:gR} {P:aO}
theorem Kk{l l':List ah}(h:dE β (l.take n) l')(a:l.length=n):dE β l l':=by grind
theorem wW(w:aU)(a b:Nat)(e:aD):a<=grownCap w a b e:=by simp[grownCap,Question.cut]
theorem XC(l:pP β h W){k j n c:Nat}{cs:List ah}{e:aD}{a:Nat}{o:Bool}{f:ah}(q:h.get k=aa (.cells cs e a o))(i:((cs.drop j).take (n*a)).length=n*a)
  (g:cA β (gG k j n c) f):∃l',(∀d,(∀b,b<W.heap.size->d.heap[b]?=W.heap[b]?)->(eN a n f).run P d = .ok l'.toArray d)/\dE β ((cs.drop j).take (n*a)) l':=by
 have m:ig h a (gG k j n c)=aa ((cs.drop j).take (n*a),n):=by
  simp only[ig,q];rw[iP i]
 obtain⟨_,p⟩:=xx (P:=P) l m g;obtain⟨l',r,s⟩:=p n (aS _)
 grind
set_option maxHeartbeats 1000000 in
theorem RY{h:aw}{w:aU}(r:pP β h w){t t' ty:aD}{s x s' x' v:ah}{u:dJ}(a:bY P t t' s x h=aa (v,u))(T:cA β s s')(z3:cA β x x'):
  ∃v' V p,(nr #[t,t'] ty #[s',x']).run P w = .ok v' V/\Step β h w p (u.app h) V/\cA p v v':=by
 unfold bY at a;split at a
 ·next e O=>
  split at a
  ·next i z6=>
   obtain⟨M,u1,z,hz,x0,u5⟩:=N9 z6;split at a
   ·next y=>
    split at a
    ·next X m y7=>
     obtain⟨f,x1⟩:=xx (P:=P) r y7 z3;obtain⟨l,y2,d⟩:=x1 m (aS _);split at a
     ·next z8=>
      obtain⟨u0,Q⟩:=z8;have d:=Kk d Q;have K:l.length=m*i.size:=by rw[<-d.1,Q]
      have E:=y2 w λ_ _=>rfl;have N:=y2 w.drew λ_ _=>rfl;split at a
      ·obtain⟨_,_,rfl⟩:=T.la;split at a
       ·next F=>
        simp only[bc,bA]at a;obtain⟨rfl,rfl⟩:=a;subst F;refine⟨_,w,β,se O M y f E (aS _) (by simp),Step.refl r,.sE⟩
       ·next F=>
        split at a
        ·next U=>
         simp only[bc,bA]at a;obtain⟨rfl,rfl⟩:=a;have o:=uE (ty:=ty) (n:=0) (c:=0) (base:=none) (olds:=[]) O M hz y f (by simp[eN]) N (by omega) (by simpa using U.1) (by omega);have B:=wF (β:=β) (w:=w) (e:=e) (need:=m) (cap:=grownCap w (0+m) 0 e) (z:=z.cells) d Q x0 (by have:=wW w (0+m) 0 e;omega);simp only[bO,dq]at o B;obtain⟨p,A,H⟩:=B.step r;exact⟨_,_,p,o,A,H⟩
        ·cases a
      ·next k j n c=>
       obtain⟨b,i',I,U,z4,_,rfl,Y,y4,u6,y1,y3⟩:=T.lP;have u3:dk c<=I:=by
        unfold dk;split
        ·next hc=>exact y4 hc
        ·next hc=>rw[Y (by omega)];exact aS _
       split at a
       ·next F=>
        simp only[bc,bA]at a;obtain⟨rfl,rfl⟩:=a;subst F;have:l=[]:=aY (by simpa using K);subst this;exact⟨_,w,β,se O M y f E (by omega) (by simp[storeCells]),Step.refl r,T⟩
       ·next F=>
        split at a
        ·next D=>
         obtain⟨u',A,he⟩:=bq.1 a;simp only[bA]at he;obtain⟨rfl,rfl⟩:=he;have x4:i'=b.s+j:=by rcases y1 with g|⟨g,L⟩;exact g;exact absurd L (by omega)
         subst x4;obtain⟨V,hr,x7⟩:=AI (P:=P) r A U d;refine⟨_,V,β,se O M y f E (by omega) ?_,x7,.slice U z4 Y y4 D (.inl rfl) y3⟩;dsimp only;rw[gH,add_assoc];exact hr
        ·next D=>
         unfold nT at a;split at a
         ·next R=>
          split at a
          ·next cs C u8 wr hk=>
           split at a
           ·next x6=>
            obtain⟨rfl,rfl,G⟩:=x6;obtain⟨x5,z5,x8⟩:=XC (P:=P) r hk G T;have x2:=z5 w.drew λ_ _=>rfl;have x3:dE β ((cs.drop j).take (n*i.size)++X) (x5++l):=x8.append d;have J:((cs.drop j).take (n*i.size)++X).length=(n+m)*i.size:=by rw[bg,G,Q,cM]
            split at a
            ·next W=>
             simp only[bc,bA]at a;obtain⟨rfl,rfl⟩:=a;have z7:I=c:=Y W;subst z7;rw[HP W]at D;have o:=uE (ty:=ty) O M hz y f x2 N (by omega) R.1 R.2;have B:=wF (β:=β) (w:=w) (e:=C) (z:=z.cells) x3 J x0 (wW w (n+m) I C);obtain⟨p,A,H⟩:=B.step r;exact⟨_,_,p,o,A,H⟩
            ·next W=>
             split at a
             ·next z2=>
              obtain⟨rfl,u7⟩:=z2;simp only[bc,bA]at a;obtain⟨rfl,rfl⟩:=a;by_cases x9:n+m<=I
              ·have x4:i'=b.s+j:=by rcases y1 with g|⟨g,L⟩;exact g;exact absurd L (by omega)
               subst x4;obtain⟨_,u2,y8,S,fr,hw,hn,z0,y6⟩:=r.row hk U;have y9:b.s+j+I*i.size<=b.n:=by
                rcases y3 with g|g
                ·omega
                ·rw[y8]at g;exact g
               have z1:(n+m)*i.size<=I*i.size:=bJ _ x9;rw[cM]at z1;obtain⟨V,hr,ha,hh⟩:=xr (P:=P) b.b (b.s+j+n*i.size) C fr l 0 S w hw (y6 rfl) (by rw[K,hn];omega) (d.scalars u0);have Z:(Ab.pX S (b.s+j+n*i.size+0) l).size=S.size:=zW (by rw[K,hn];omega);refine⟨_,V,β.ext h.ax ⟨b.b,b.s+j,b.n,C,i.size,ak⟩,se O M y f E x9 ?_,YL (sl':=⟨b.b,b.s+j,b.n,C,i.size,ak⟩) r hk U rfl ha rfl ?_,?_⟩
               ·dsimp only;rw[gH];exact hr
               ·have y5:β.le (β.ext h.ax ⟨b.b,b.s+j,b.n,C,i.size,ak⟩):=gR.IF _ (r.rG (aS _));refine⟨rfl,rfl,⟨rfl,λh0=>absurd h0 (by omega)⟩,_,fr,hh,by rw[Z];exact hn,?_,λ_=>by rw[Z];exact y6 rfl⟩;intro q u hq;simp only[Ab.pX,fh,List.getElem?_toArray];by_cases y0:q<n*i.size
                ·rw[getElem?_append_left (by rw[G];exact y0),getElem?_take,iP y0,getElem?_drop]at hq;obtain⟨u',g,L⟩:=z0 _ _ hq;refine⟨u',?_,L.mono y5⟩;have u4:=(Array.getElem?_eq_some_iff.1 g).1;rw[cE,getElem?_append_left (by simp;omega),getElem?_take,iP (by omega),getElem?_toList,add_assoc];exact g
                ·have z9:=(List.getElem?_eq_some_iff.1 hq).1;rw[J,cM]at z9;rw[getElem?_append_right (by rw[G];omega),G]at hq;obtain⟨u',g,L⟩:=d.get hq;refine⟨u',?_,L.mono y5⟩;rw[getElem?_append_left (by simp;omega),getElem?_append_right (by simp;omega)];have:b.s+j+q-(S.toList.take (b.s+j+n*i.size)).length=q-n*i.size:=by simp;omega
                 rw[this];exact g
               ·exact .slice (sl:=⟨b.b,b.s+j,b.n,C,i.size,ak⟩) (β.fK _ _) rfl (λh=>absurd h (by omega)) (λ_=>by omega) (by rw[gk];exact aS _) (.inl rfl) (.inr y9)
              ·have o:=uE (ty:=ty) O M hz y f x2 N (by omega) R.1 R.2;have B:=wF (β:=β) (w:=w) (e:=C) (z:=z.cells) x3 J x0 (wW w (n+m) I C);obtain⟨p,A,H⟩:=B.step (VE r k);exact⟨_,_,p,o,(acr r k).trans A,H⟩
             ·cases a
           ·cases a
          ·cases a
         ·cases a
      ·cases a
     ·cases a
    ·cases a
   ·cases a
  ·cases a
 grind
end
section
variable {β:gR} {P:aO}
theorem ZR(E:pP β h W){t:aD}{ts:List aD}{ty:aD}{d s i p v:ah}{u:dJ}(b:copyV P t d s h=aa (v,u))(G:cA β d i)(S:cA β s p):
  ∃Q w A,(Builtin.copy_ (t::ts).toArray ty #[i,p]).run P W = .ok Q w/\Step β h W A (u.app h) w/\cA A v Q:=by
 unfold copyV at b;split at b
 ·next e R=>
  split at b
  ·next sz a n c C=>
   split at b
   ·next cs m D=>
    obtain⟨o,r⟩:=xx (P:=P) E D S;have N:(t::ts).toArray[0]?=aa t:=rfl;have l:(#[i,p]:Array ah)[0]?=aa i:=rfl;have F:(#[i,p]:Array ah)[1]?=aa p:=rfl;obtain⟨K,H,f⟩:=r (min m n) (Nat.min_le_left _ _);have g:=H W λ_ _=>rfl;have q:Nat.min m n=min m n:=rfl;have I:∃y x,i = .slice y n x:=by
     cases a with
     |none=>obtain⟨rfl,rfl,rfl⟩:=G.la;exact⟨_,_,rfl⟩
     |some a=>obtain⟨y,x,rfl⟩:=G.PS;exact⟨_,_,rfl⟩
    split at b
    ·next V=>
     simp only[bc,bA]at b;obtain⟨rfl,rfl⟩:=b;have B:min m n=0:=by omega
     rw[B]at g f;have:K=[]:=by simpa using f.1.symm
     subst this;obtain⟨y,x,rfl⟩:=I;refine⟨aA 0,W,β,?_,Step.refl E,.int _ _⟩;simp only[Builtin.copy_,N,l,F,aV,cS R,aJ,o,iH C,q,B,g,goInt]
     cases y<;>simp[storeCells]
    ·next V=>
     split at b
     ·next k j=>
      obtain⟨u',J,L⟩:=bq.1 b;simp only[bA]at L;obtain⟨rfl,rfl⟩:=L;obtain⟨U,X,x,T,Z,_,rfl,x0,x3,x1,M,x2⟩:=G.lP;have O:X=U.s+j:=by rcases M with l|⟨l,F⟩;exact l;exact absurd l (by omega)
      subst O;obtain⟨w,Y,z⟩:=AI (P:=P) E J T f;refine⟨aA (min m n:Nat),w,β,?_,z,.int _ _⟩;simp only[Builtin.copy_,N,l,F,aV,cS R,aJ,o,iH C,q,g,bt,goInt,Y]
     ·cases b
   ·cases b
  ·cases b
 grind
theorem Ow(z:Array ah):∀n,(hO z n).toList=eO z.toList n:=by
 intro n;rcases dB z.size with h|h
 all_goals grind[oB,aY,Cp,hO]
theorem Wm(p:pP β h W){t:aD}{ty:aD}{x r v:ah}{u:dJ}(a:R9 P t x h=aa (v,u))(G:cA β x r):
  ∃D d g,(Builtin.clear_ #[t] ty #[r]).run P W = .ok D d/\Step β h W g (u.app h) d/\cA g v D:=by
 unfold R9 at a;split at a
 ·next e k j n c E=>
  split at a
  ·next z B=>
   obtain⟨i,l,o,F,I,_,rfl,J,M,K,y,L⟩:=G.lP;have A:(#[t]:Array aD)[0]?=aa t:=rfl;have b:(#[ae (aa ⟨i.b,l,none⟩) n o]:Array ah)[0]?=aa (gG i.b l n o):=rfl;split at a
   ·next m=>
    subst m;simp only[bc,bA]at a;obtain⟨rfl,rfl⟩:=a;refine⟨undef,W,β,?_,Step.refl p,.undef β⟩;simp only[Builtin.clear_,A,b,aV,cS E,aJ];rfl
   ·next m=>
    obtain⟨O,q,w⟩:=bq.1 a;simp only[bA]at w;obtain⟨rfl,rfl⟩:=w;have C:l=i.s+j:=by rcases y with b|⟨b,N⟩;exact b;exact absurd b (by omega)
    subst C;obtain⟨d,H,f⟩:=AI (P:=P) p q F (vp (dE.xm (jS B).1) n);refine⟨undef,d,β,?_,f,.undef β⟩;obtain⟨s,rfl⟩:∃s,n=s+1:=⟨n-1,by omega⟩
    simp only[Builtin.clear_,A,b,aV,cS E,aJ,uG B,Ow,H];rfl
  ·cases a
 grind
theorem Bi(i:pP β h W){t u J:aD}{r:Nat}{s m:List (ah×ah)}{k E x l:ah}(V:P.underlying t=aa (.map u J))(w:uX P u k=af)
  (A:h.get r=aa (.map s)) (z:tD P u k x s=aa m) (G:cA β (.map (aa r)) E) (H:cA β x l):
  ∃B,(Instr.mapUpdate t E k l).run P W = .ok () B/\Step β h W β (h.set r (.map m)) B:=by
 obtain⟨c,g,f,rfl⟩:=G.Ng;obtain⟨_,b,a,I,y⟩:=i.blk _ _ _ A g;have N:c.b<W.heap.size:=(i.lt _ _ g).2;have Y:(getObj c.b).run P W = .ok (.map b a) W:=by simp[getObj,Sem.run,I]
 have L:∀o,(setObj c.b o).run P W = .ok () { W with heap:=W.heap.setIfInBounds c.b o }:=λo=>by grind[setObj,Sem.run]
 have n:∀o,At W { W with heap:=W.heap.setIfInBounds c.b o } c.b/\({ W with heap:=W.heap.setIfInBounds c.b o }:aU).heap[c.b]?=aa o:=λo=>
  ⟨⟨by simp,rfl,⟨rfl,aS _⟩,rfl,λX O=>by grind⟩,by grind⟩
 have Q:=FA w ak W;have F:=GZ w;obtain⟨T,S,R,M,d⟩:=Io w W b.toList;rcases Fy M F H s b.toList y z 0 a with⟨j,e,q,D,U,K⟩|⟨q,D⟩
 ·have C:=d _ q;obtain⟨v,p⟩:=n (.map (b.modify j λe=>{ e with key:=k,val:=l }) a);refine⟨_,?_,Step.at_ i A g rfl v ⟨f,_,a,p,by simpa using K⟩⟩
  simp_all[Kz,cS,Instr.mapUpdate,Instr.keyThatStays]
 ·have C:=d _ q;obtain⟨v,p⟩:=n (.map (b.push { key:=k,val:=l,born:=a }) (a+1));refine⟨_,?_,Step.at_ i A g rfl v ⟨f,_,a+1,p,by simpa using D⟩⟩
  simp_all[cS,Instr.mapUpdate]
end
section
variable {β:gR} {P:aO}
theorem IH(h:P.cellsOf T=n)(f:0<n)(a b d:Nat)(g:b%n=0)(e:b/n+d<=a):liesAt P P.depth T a b T d=af:=by
 have c:P.depth=(2*(P.types.size+Made.depth)+1)+1:=rfl;rw[c];simp only[liesAt,or_eq_true]
 grind[rowAt,sameLayout]
theorem HQ(h:cd P T=aa n):P.cellsOf T=n:=by
 obtain⟨i,a,rfl⟩:=tM h
 grind[Program.cellsOf]
theorem At.freeze(w:aU)(a:aF)(n:Nat):At w (w.freeze a n) a.block:=
 ⟨Fw w a n,(zg w a n).1,(zg w a n).2.1,(zg w a n).2.2,λb d=>by
  by_cases c:n=0
  ·subst c;rfl
  ·rw[uV w a c,iN (Ne.symm d)]⟩
theorem vw:∀{l:List ah}{a:List UInt8},bytesOf l=aa a->l=a.map λb=>aB aK b.toNat
 |[],a,h=>by grind[bytesOf]
 | v::l,a,h=>by
  unfold bytesOf at h;split at h
  ·next e=>cases e
  ·next n r e=>
   simp only[gY]at e;obtain⟨rfl,rfl⟩:=e;split at h
   ·next f=>
    obtain⟨d,c,rfl⟩:=bq.1 h;rw[List.map_cons,<-vw c];congr 2;have:(UInt8.ofNat n.toNat).toNat=n.toNat:=by
     simp[UInt8.toNat_ofNat'];omega
    omega
   ·cases h
  grind
set_option maxHeartbeats 1000000 in
theorem E7{h:aw}{w:aU}(B:pP β h w){k i:Nat}{n:Int}{kk:ei}{f e:aD}{cs:List ah}{l:List UInt8}{y:ah}{ats:Array aD}{ty:aD}(F:h.get k=aa (.cells cs e 1 af))(z:ats[0]?=aa f)
  (N:P.underlying f=aa (.pointer e)) (C:cd P e=aa 1) (X:0<n) (V:n<9223372036854775807) (A:((cs.drop i).take n.toNat).length=n.toNat) (t:bytesOf ((cs.drop i).take n.toNat)=aa l) (R:cA β (cn k i) y):
  ∃v,(Builtin.unsafeString_ ats ty #[y,aB kk n]).run P w = .ok (strOf l) v/\Step β h w β (h.set k (.cells cs e 1 ak)) v:=by
 obtain⟨a,m,Y,rfl⟩:=R.Ap;obtain⟨E,U,O,c,L,q,H,b,W⟩:=B.blk _ _ _ F m;refine⟨w.freeze ⟨a.b,a.s+i,none⟩ n.toNat,?_,Step.at_ B F m rfl (At.freeze w _ _) ?_⟩
 ·have o:l.length=n.toNat:=by
   have:=congrArg List.length (vw t);rw[A]at this;simpa using this.symm
  have I:a.s+i+n.toNat<=c.size:=by
   have u:i+n.toNat-1<cs.length:=by simp only[bo,cQ]at A;omega
   obtain⟨T,p,_⟩:=b _ _ (gE u);have:=(Array.getElem?_eq_some_iff.1 p).1;omega
  have G:w.shape? a.b=aa (e,c.size):=by simp[World.shape?,q]
  have J:=HQ C;have g:liesAt P P.depth e (c.size/P.cellsOf e) (a.s+i) e n.toNat=af:=IH J (by omega) _ _ _ (by omega) (by grind);have K:(loadBytes ⟨a.b,a.s+i,none⟩ .empty n.toNat).run P w = .ok (⟨l.toArray⟩:ByteArray) w:=by
   rw[<-o];rw[Lib.run_loadBytes (P:=P) w l ⟨a.b,a.s+i,none⟩ .empty]
   ·simp
   ·intro j x S;have d:((cs.drop i).take n.toNat)[j]?=aa (aB aK x.toNat):=by rw[vw t];simp[S]
    rw[getElem?_take,getElem?_drop]at d;split at d
    ·obtain⟨T,p,M⟩:=b _ _ d;rw[gH,tx q,show a.s+i+j=a.s+(i+j) by omega,p,M.il]
    grind
  have Q:an.max=9223372036854775807:=by decide
  have r:Builtin.unsafeString_ ats ty #[cn a.b (a.s+i),aB kk n] =
    (do
     let n <-asInt (aB kk n)
     let aa f:=ats[0]?|stuck "unsafe.String: no argument types"
     if n<0 then runtimePanic (.error "unsafe.String: len out of range")
     if n>an.max then unsupported (.unsafePointer "String: a length above the largest int")
     if n=0 then pure (bu .empty)
     else if <-variablesAt ⟨a.b,a.s+i,none⟩ (<-elemOf f) n.toNat then do
      let s <-loadBytes ⟨a.b,a.s+i,none⟩ .empty n.toNat
      freeze ⟨a.b,a.s+i,none⟩ n.toNat
      pure (bu s)
     else unsupported (.unsafePointer "String: not so many bytes at ptr")):=rfl
  rw[r];simp only[aV,asInt,asIntOf,bt,aJ,z,eS];rw[iN (by omega),iN (by omega),iN (by omega)];simp only[elemOf,aV,cS N,bt,aJ,variablesAt,run_program,run_shape,G,g,if_true,K,run_freeze];rfl
 ·have D:(w.freeze ⟨a.b,a.s+i,none⟩ n.toNat).heap[a.b]?=aa (frz ⟨a.b,a.s+i,none⟩ n.toNat (.cells c e L)):=by
   rw[uV w _ (by omega)];simp[q]
  exact⟨E,U,O,c,_,D,H,b,λh=>by cases h⟩
end
section
variable {β:gR} {P:aO}
def akw(r:Result Next)(b:ah)(a:aU):Prop:=r = .ok (.value b) a\/(r = .ok .skip a/\b=undef)
def ep(o:aR):Bool:=match o.op with
 |.call { callee:= .value _,.. }=>af
 |_=>ak
theorem Vd{c:Array bh}{a b:bh}(h:c.toList=[a,b]):c.map r = #[r a,r b]:=by
 apply fY;simp[h]
set_option maxHeartbeats 2000000 in
theorem Ly{ρ B:bh->ah}(q:∀x,cA β (ρ x) (B x)){cf:fT}{o:aR}(z6:ep o=ak){v:ah}{u:dJ}{h:aw}{w:aU}(I:pP β h w)(b:gM P cf ρ o h=aa (v,u)):
  ∃v' G M,akw ((execOp B o).run P w) v' G/\Step β h w M (u.app h) G/\cA M v v':=by
 unfold gM at b;unfold execOp;split at b
 ·next t a x E=>
  simp only[E];have Q:=q a;have hx:=q x;split at b
  ·next k i y7=>
   rw[y7]at Q;obtain⟨D,V,F,U⟩:=Q.Ap;split at b
   ·next N=>
    obtain⟨u',S,y3⟩:=bq.1 b;simp only[bA]at y3;obtain⟨rfl,rfl⟩:=y3;have hj:ρ x≠Ab.rj:=by
     intro e;rw[e]at S;unfold storeAt at S;split at S
     ·split at S
      ·next K=>exact absurd K.2 (by simp[Value.cells,eY])
      ·cases S
     ·cases S
    have K:=hx.cells hj;obtain⟨G,L,g⟩:=AI (P:=P) I S V (nL.toList.1 K);refine⟨undef,G,β,.inr ⟨?_,rfl⟩,g,.undef β⟩;have z8:(storeVar t ⟨D.b,D.s+i,none⟩ (B x)).run P w = .ok () G:=by
     simp only[storeVar,aV,iH N,aJ,eS];rw[iN (by simp[K.1])];exact L
    simp only[Instr.storeAt,aV,U,nw,bt,aJ,z8]
   ·cases b
  ·cases b
 ·next t m k x E=>
  simp only[E];have F:=q m;have W:=q k;split at b
  ·next kt et r hu x9=>
   rw[x9]at F;split at b
   ·next es L=>
    split at b
    ·next Z=>
     obtain⟨z1,x3,U⟩:=bq.1 b;simp only[bA]at U;obtain⟨rfl,rfl⟩:=U;obtain⟨G,x1,g⟩:=Bi (P:=P) I hu Z L x3 F (q x);exact⟨undef,G,β,.inr ⟨by rw[W.wY (GZ Z)];simp[x1],rfl⟩,g,.undef β⟩
    ·cases b
   ·cases b
  ·cases b
 ·next t m k x E=>
  simp only[E];have F:=q m;have W:=q k;split at b
  ·next kt et r hu x9=>
   rw[x9]at F;split at b
   ·next es L=>
    split at b
    ·next Z=>
     obtain⟨z1,x3,U⟩:=bq.1 b;simp only[bA]at U;obtain⟨rfl,rfl⟩:=U;obtain⟨G,x1,g⟩:=Bi (P:=P) I hu Z L x3 F (q x);exact⟨undef,G,β,.inr ⟨by rw[W.wY (GZ Z)];simp[x1],rfl⟩,g,.undef β⟩
    ·cases b
   ·cases b
  ·cases b
 ·next f p C E=>simp[ep,E]at z6
 ·next p C E=>
  simp only[E];split at b
  ·next s x t t' Q ht=>
   obtain⟨v',G,M,L,g,x0⟩:=RY (P:=P) (ty:=o.type) I b (q s) (q x);refine⟨v',G,M,.inl ?_,g,x0⟩;have A:C = #[t,t']:=by apply fY;simp[ht]
   simp only[resolve,aV,bt,aJ,invoke,builtin,Vd Q,A,L]
  ·cases b
 ·next p C E=>
  simp only[E];split at b
  ·next d s t ts Q ht=>
   obtain⟨v',G,M,L,g,x0⟩:=ZR (P:=P) (ts:=ts) (ty:=o.type) I b (q d) (q s);refine⟨v',G,M,.inl ?_,g,x0⟩;have A:C=(t::ts).toArray:=by apply fY;simp[ht]
   simp only[resolve,aV,bt,aJ,invoke,builtin,Vd Q,A,L]
  ·cases b
 ·next p C E=>
  simp only[E];have O:dE β (p.toList.map ρ) (p.toList.map B):=dE.map _ λx _=>q x;split at b
  ·next x t F ht=>
   rw[F]at O;obtain⟨y,r,Y,H,J⟩:=O.gm;have:=J.jD;subst this;obtain⟨v',G,M,L,g,x0⟩:=Wm (P:=P) (ty:=o.type) I b H;refine⟨v',G,M,.inl ?_,g,x0⟩;have A:C = #[t]:=by apply fY;simp[ht]
   have Q:p.map B = #[y]:=by apply fY;simp[Y]
   simp only[resolve,aV,bt,aJ,invoke,builtin,Q,A,L]
  ·cases b
 ·next p C E=>
  simp only[E];have O:dE β (p.toList.map ρ) (p.toList.map B):=dE.map _ λx _=>q x;split at b
  ·next n c F=>
   rw[F]at O;obtain⟨y,r,Y,H,J⟩:=O.gm;have:=J.jD;subst this;obtain⟨rfl,rfl,rfl⟩:=H.la;simp only[bc,bA]at b;obtain⟨rfl,rfl⟩:=b;have A:p.map B = #[.slice none 0 0]:=by apply fY;simp[Y]
   refine⟨.pointer none,w,β,.inl ?_,Step.refl I,.nilPtr⟩;simp only[resolve,aV,bt,aJ,invoke,builtin,A,Lib.run_unsafeSliceData_nil]
  ·next a n c F=>
   rw[F]at O;obtain⟨y,r,Y,H,J⟩:=O.gm;have:=J.jD;subst this;obtain⟨ab,ao,z3⟩:=a;have R:z3=none\/ ¬0<dk c:=by
    rcases H.BO with⟨k',i',e⟩|⟨_,_,u0,_⟩
    ·injection e with _ _ e;exact .inl e
    ·subst u0;exact .inr (by unfold dk;rw[iN (by decide)];decide)
   rcases R with R|R
   rotate_left
   ·rw[iN R]at b;cases b
   subst R;obtain⟨D,i',c',V,y9,z5,rfl,z2,z7,u3,z4,u4⟩:=H.lP;clear z5;split at b
   ·next K=>
    simp only[bc,bA]at b;obtain⟨rfl,rfl⟩:=b;have u2:dk c<=c':=by
     unfold dk;split
     ·next K=>exact z7 K
     ·next K=>rw[z2 (by omega)];exact aS _
    have z9:i'=D.s+ao:=by rcases z4 with h1|⟨h1,h2⟩;exact h1;exact absurd h2 (by omega)
    subst z9;have A:p.map B = #[gG D.b (D.s+ao) n c']:=by apply fY;simp[Y]
    refine⟨cn D.b (D.s+ao),w,β,.inl ?_,Step.refl I,.ptr V y9⟩;simp only[resolve,aV,bt,aJ,invoke,builtin,A,Lib.run_unsafeSliceData_row (P:=P) w C o.type ⟨D.b,D.s+ao,none⟩ n c' (by omega)]
   ·cases b
  ·cases b
 ·next p C E=>
  simp only[E];have O:dE β (p.toList.map ρ) (p.toList.map B):=dE.map _ λx _=>q x;split at b
  ·next kk pt F x5=>
   rw[F]at O;obtain⟨y,r,Y,H,J⟩:=O.gm;obtain⟨z,r2,rfl,x7,x2⟩:=J.gm;have:=x2.jD;subst this
   cases H.SE
   cases x7.il
   simp only[bc,bA]at b;obtain⟨rfl,rfl⟩:=b;have A:p.map B = #[.pointer none,.int kk 0]:=by apply fY;simp[Y]
   refine⟨strOf [],w,β,.inl ?_,Step.refl I,.string _⟩;have u1:an.max=9223372036854775807:=by decide
   have y6:Builtin.unsafeString_ C o.type #[.pointer none,.int kk 0] =
     (do
      let n <-asInt (.int kk 0)
      let aa pt:=C[0]?|stuck "unsafe.String: no argument types"
      if n<0 then runtimePanic (.error "unsafe.String: len out of range")
      if n>an.max then unsupported (.unsafePointer "String: a length above the largest int")
      if n=0 then pure (.string .empty)
      else runtimePanic (.error "unsafe.String: ptr is nil and len is not zero")):=rfl
   simp only[resolve,aV,bt,aJ,invoke,builtin,A,y6,asInt,asIntOf,x5,eS];rw[iN (by omega),iN (by omega)];rfl
  ·next k i kk n pt F x5=>
   rw[F]at O;obtain⟨y,r,Y,H,J⟩:=O.gm;obtain⟨z,r2,rfl,x7,x2⟩:=J.gm;have:=x2.jD;subst this
   cases x7.il
   have A:p.map B = #[y,.int kk n]:=by apply fY;simp[Y]
   split at b
   ·next cs e e' W hu=>
    split at b
    ·next K=>
     obtain⟨rfl,N,hn,y8,y5⟩:=K;split at b
     ·next l V=>
      simp only[bc,bA]at b;obtain⟨rfl,rfl⟩:=b;obtain⟨G,L,g⟩:=E7 (P:=P) (kk:=kk) (ats:=C) (ty:=o.type) I W x5 hu N hn y8 y5 V H;refine⟨strOf l,G,β,.inl ?_,g,.string _⟩;simp only[resolve,aV,bt,aJ,invoke,builtin,A,L]
     ·cases b
    ·cases b
   ·cases b
  ·cases b
 ·next s d x E=>
  simp only[E];have hx:=q x;split at b
  ·next t k h1 h2 Q=>
   rw[Q]at hx;split at b
   ·next cs t' wr W=>
    split at b
    ·next K=>
     obtain⟨rfl,N,X⟩:=K;simp only[bc,bA]at b;obtain⟨rfl,rfl⟩:=b;obtain⟨D,V,F,U⟩:=hx.Ap;obtain⟨_,_,_,x4,fr,hw,hn,T,_⟩:=I.row W V;obtain⟨j,hj,z0⟩:=tM N;obtain⟨v0,x6,_⟩:=T 0 _ (gE X);have y1:=(Array.getElem?_eq_some_iff.1 x6).1;have x8:w.shape? D.b=aa (t,x4.size):=by simp[World.shape?,hw]
     refine⟨B x,w,β,.inl ?_,Step.refl I,q x⟩;rw[U];simp only[aV,Lib.run_to_unsafe (P:=P) w ⟨D.b,D.s+0,none⟩ h1 h2 hj (by omega) x8 y1,aJ,bt]
    ·cases b
   ·cases b
  ·next t k h1 h2 Q=>
   rw[Q]at hx;split at b
   ·next cs t' wr W=>
    split at b
    ·next K=>
     obtain⟨rfl,N,X⟩:=K;simp only[bc,bA]at b;obtain⟨rfl,rfl⟩:=b;obtain⟨D,V,F,U⟩:=hx.Ap;have y2:=I.ale W V;obtain⟨_,_,_,x4,fr,hw,hn,T,_⟩:=I.row W V;obtain⟨j,hj,z0⟩:=tM N;have y4:=HQ N;obtain⟨v0,x6,_⟩:=T (cs.length-1) _ (gE (by omega));have y1:=(Array.getElem?_eq_some_iff.1 x6).1;have x8:w.shape? D.b=aa (t,x4.size):=by simp[World.shape?,hw]
     have y0:liesAt P P.depth t (x4.size/P.cellsOf t) (D.s+0) t 1=af:=by
      refine IH y4 X _ _ _ (by rw[y2];simp) ?_;rw[y2,y4];simp only[fh,Nat.zero_div,bO];exact(Nat.le_div_iff_mul_le X).2 (by omega)
     refine⟨B x,w,β,.inl ?_,Step.refl I,q x⟩;rw[U];simp only[aV,Lib.run_from_unsafe (P:=P) w ⟨D.b,D.s+0,none⟩ h1 h2 hj x8 y0,aJ,bt]
    ·cases b
   ·cases b
  ·cases b
 grind
end
variable{f:ck}{U:Array aR}
section
variable {β:gR} {P:aO} {gl:Nat->Bool}
def qG(r:Option Nat):Fence:={ Fence.wide with round:=r }
theorem Be{r:Option Nat}{R:Ending->aU->Prop}(h:Calls P f V W R):CallsIn (qG r) n P f V W R:=
 (callsIn_wide (n:=n)).2 h
def Gl(gl:Nat->Bool)(β:gR):Prop:=∀g,gl g=af->∃a,β g=aa a/\a.b=g/\a.s=0/\a.isMap=ak
theorem Gl.mono{β:gR}(h:Gl gl β)(a:β.le J):Gl gl J:=λg e=>let⟨c,b,d⟩:=h g e;⟨c,a _ _ b,d⟩
theorem dE.getD{l l':List ah}(h:dE β l l')(i:Nat):cA β (l.getD i undef) (l'.getD i undef):=by
 by_cases b:i<l.length
 ·have a:i<l'.length:=h.1▸b;simp only[List.getD,gE b,gE a,getD_some];exact h.2 i _ _ (gE b) (gE a)
 ·have a:l'.length<=i:=by rw[<-h.1];omega
  simp only[List.getD,getElem?_eq_none (Nat.le_of_not_lt b),getElem?_eq_none a,Option.getD_none];exact .undef β
theorem MS{a:Act}(k:Gl gl β)(j:dE β c a.tmps.toList)(x:bh):cA β (ev gl c x) (a.eval x):=by
 cases x with
 |tmp t=>
  simp only[ev,Act.eval];have:=j.getD t
  simp_all
 |const v=>
  simp only[ev,Act.eval];split
  ·next h=>exact .uy h
  ·exact .rj v
 | global g=>
  simp only[ev,Act.eval];split
  ·next h=>
   obtain⟨m,b,n,l,d⟩:=k g h;have:=cA.ptr (i:=0) b d
   grind
  ·exact .rj _
 |func f=>
  simp only[ev,Act.eval];exact .func rfl rfl rfl (λi v e h=>by grind) (λi v e h=>by grind)
theorem xg{a:Act}(g:dE β c a.tmps.toList)(b:Option Tmp){v h:ah}(l:cA β v h):dE β (lG c b v) (a.put b h).tmps.toList:=by
 cases b with
 |none=>exact g
 | some d=>
  simp only[lG,Act.put,Array.toList_setIfInBounds];refine⟨by simp[g.1],λi u k e f=>?_⟩;rw[List.getElem?_set]at e f;split at e
  ·grind
  ·next j=>
   rw[iN j]at f;exact g.2 i u k e f
theorem put_defers(a:Act)(b:Option Tmp)(v:ah):(a.put b v).defers=a.defers:=by cases b<;>rfl
theorem Lk{l:List ah}(h:l.getD n undef=ai b):l[n]?=aa (ai b):=by
 rw[gD]at h
 cases a:l[n]? with
 |none=>rw[a]at h;cases h
 |some v=>grind
theorem It{l:List ah}(h:l.getD n undef=av V):l[n]?=aa (av V)\/l[n]?=none:=by grind
theorem xK{a:Act}(l:dE β c a.tmps.toList){o:aR}{b:Bool}(h:jN U c o=aa b):Region.wanted o (yielded U a.tmps)=b:=by
 unfold jN at h;unfold Region.wanted;split at h
 ·grind
 ·next j g p=>
  rw[p];simp only[yielded];split at h
  ·next d k=>
   rw[k];simp only[bind_some];split at h
   ·next m e=>
    obtain⟨n,f,i⟩:=l.get (Lk e);rw[i.qH]at f;rw[getElem?_toList]at f;rw[f];simp only[bc]at h;subst h
    cases m<;>cases g<;>rfl
   ·next r e=>
    simp only[bc]at h;subst h;rcases It e with e|e
    ·obtain⟨n,f,i⟩:=l.get e;obtain⟨q,rfl,_⟩:=i.Aq;rw[getElem?_toList]at f;rw[f];rfl
    ·have k:a.tmps[d]?=none:=by
      rw[<-getElem?_toList];exact getElem?_eq_none (by rw[<-l.1];exact List.getElem?_eq_none_iff.1 e)
     rw[k];rfl
   ·cases h
  grind
def yQ(β:gR)(h:aw)(w:aU)(v:ah)(d:aw):Ending->aU->Prop:=λe c=>∃b a,e = .returned b/\Step β h w a d c/\cA a v b
def akx(P:aO)(gl:Nat->Bool)(j:fT):Prop:=
 ∀f b h v d,f<YB->j f b h=aa (v,d)->∀β w (a:Array ah),pP β h w->Gl gl β->dE β b a.toList->
  ∃g,P.funcs[f]?=aa g/\((g.body.isSome=af/\Calls P f a w (yQ β h w v d))\/
   (∃i e c,(callFunc f a).run P w = .ok (.value i) e/\Step β h w c d e/\cA c v i))
def akB(P:aO)(gl:Nat->Bool)(j:fT):Prop:=
 ∀k d h v i,j (YB+k) d h=aa (v,i)->∀β w (a:Array ah) e,pP β h w->Gl gl β->dE β d a.toList->β k=aa e->
  ∃g b f c,(Instr.yield e.b a).run P w = .ok (.round e.b g b f c) w/\∀(r:Option Nat)(n:Nat),RoundIn (qG r) n P e.b g b f c w (yQ β h w v i)
structure vI(P:aO)(gl:Nat->Bool)(cf:fT):Prop where
 fn:akx P gl cf
 yd:akB P gl cf
def jJ(P:aO):Prop:=∀(f:ck)(a:Func),P.funcs[f]?=aa a->(a.name == "runtime.NumGoroutine")=ak
theorem mM(e:jJ P){f:ck}{a:Func}(c:P.funcs[f]?=aa a)(i:a.body.isSome=af)(b:Array ah)(w:aU):(callFunc f b).run P w = .ok (.enter f b) w:=by
 have d:=e f a c;have g:a.body.isNone=ak:=by cases h:a.body<;>simp_all
 simp only[callFunc,aV,run_program,aJ,c];rw[d,g];rfl
theorem cA.aay{first:Array ah}{x:ah}(c:cA β (aN (.func f) first V) x):∃b a,x=aN (.func f) b a/\nL β first b/\nL β V a:=by
 cases c with
 |func i g h e d=>exact⟨_,_,rfl,⟨g,e⟩,⟨h,d⟩⟩
theorem cA.Lm{first:Array ah}{x:ah}(b:cA β (aN (.yield k) first V) x):∃a,β k=aa a/\x=aN (.yield a.b) first V:=by
 cases b with
 |func e c d g f=>cases e
 |yield h c d=>grind
theorem O9(hN:jJ P){V:fT}(G:vI P gl V){r:Option Nat}{n:Nat}{a:Act}{h:aw}{w:aU}{o:aR}{f:bh}{args:Array bh}{X:Array aD}(W:o.op = .call { callee:= .value f,args:=args,argTypes:=X })
  {E:bh->ah} {v:ah} {u:dJ} (R:pP β h w) (Z:Gl gl β) (C:∀x,cA β (E x) (a.eval x)) (q:yU V (E f) (args.toList.map E) h=aa (v,u)) (next:Act->aU->Prop) (Q:Exit->Act->aU->Prop)
  (K:∀p l c,Step β h w c (u.app h) l->cA c v p->next (a.put o.dst p) l):o.uponIn (qG r) n P a next Q ((execOp a.eval o).run P w):=by
 unfold yU at q;have F:=C f;split at q
 ·next g first d D=>
  split at q
  ·next T=>
   rw[D]at F;obtain⟨⟨v0,J⟩,j,B⟩:=bq.1 q;simp only[bA]at B;obtain⟨rfl,rfl⟩:=B;obtain⟨m,b,s,Y,U⟩:=F.aay;have i:dE β (first.toList++args.toList.map E++d.toList) (m++args.map a.eval++b).toList:=by
    simp only[Array.toList_append,Array.toList_map];exact((nL.toList.1 Y).append (dE.map _ λx _=>C x)).append (nL.toList.1 U)
   have t:(execOp a.eval o).run P w=(callFunc g (m++args.map a.eval++b)).run P w:=by
    unfold execOp;simp only[W,resolve,s,Deferred.ofValue,aV,bt,aJ,invoke]
   rw[t];obtain⟨fn,O,M⟩:=G.fn g _ h _ J T j β w _ R Z i;rcases M with⟨H,z⟩|⟨p,l,c,I,A,y⟩
   ·rw[mM hN O H];refine⟨λL=>by simp[qG,Fence.wide]at L,Be (z.mono ?_)⟩;rintro e l ⟨p,c,rfl,A,y⟩;exact K p l c A y
   ·rw[I];exact K p l c A y
  ·cases q
 ·next k first d D=>
  split at q
  ·next hz=>
   rw[D]at F;obtain⟨⟨v0,J⟩,j,B⟩:=bq.1 q;simp only[bA]at B;obtain⟨rfl,rfl⟩:=B;obtain⟨S,H,s⟩:=F.Lm;have N:first = #[]:=Array.eq_empty_of_size_eq_zero hz.1
   have i:dE β (args.toList.map E) (args.map a.eval).toList:=by
    simp only[Array.toList_map];exact dE.map _ λx _=>C x
   have t:(execOp a.eval o).run P w=(Instr.yield S.b (args.map a.eval)).run P w:=by
    unfold execOp;simp only[W,resolve,s,Deferred.ofValue,aV,bt,aJ,invoke,N,Array.empty_append]
   rw[t];obtain⟨fn,x0,x2,x1,I,A⟩:=G.yd k _ h _ J j β w _ S R Z i H;rw[I];refine⟨λL=>by simp[qG,Fence.wide]at L,(A r (n-1)).mono ?_⟩;rintro e l ⟨p,c,rfl,y,h4⟩;exact K p l c y h4
  ·cases q
 grind
theorem ajQ(E:jJ P){z:fT}(y:vI P gl z){r:Option Nat}{n:Nat}{x:List ah}{a:Act}{h:aw}{w:aU}{o:aR}{v:ah}{u:dJ}(l:pP β h w)(C:Gl gl β)(H:dE β x a.tmps.toList)
  (b:fM P z (ev gl x) o h=aa (v,u)) (next:Act->aU->Prop) (Q:Exit->Act->aU->Prop)
  (m:∀g k d,Step β h w d (u.app h) k->cA d v g->next (a.put o.dst g) k):o.wpIn (qG r) n P a w next Q:=by
 refine⟨λ_ _=>trivial,?_⟩;have j:=MS (β:=β) C H;have t:∀c,o.op≠ .defer c:=by
  intro c q;unfold fM at b;simp[eW,eB,dz,gM,q]at b
 rw[Oper.semAt_eq _ _ _ t];unfold fM at b;split at b
 ·next D p=>
  simp only[bc,bA]at b;obtain⟨rfl,rfl⟩:=b;obtain⟨g,e,i⟩:=BX j p w;rw[e];exact m g w β (Step.refl l) i
 ·split at b
  ·next D p=>
   simp only[bc,bA]at b;obtain⟨rfl,rfl⟩:=b;obtain⟨g,e,i⟩:=BY j l p;rw[e];exact m g w β (Step.refl l) i
  ·split at b
   ·next B f p=>
    simp only[bc,bA]at b;obtain⟨rfl,rfl⟩:=b;obtain⟨g,k,e,i⟩:=zw j (w:=w) p;obtain⟨d,s,F⟩:=i.step l;rw[e];exact m g k d s F
   ·by_cases q:ep o=ak
    ·obtain⟨g,k,d,e,i,s⟩:=Ly j q l b;rcases e with e|⟨e,rfl⟩
     ·rw[e];exact m g k d i s
     ·rw[e];exact m undef k d i s
    ·unfold ep at q;split at q
     ·next f G I A=>
      simp only[gM,A]at b;exact O9 E y A l C j b next Q m
     grind
theorem S0(C:jJ P){H:fT}(l:vI P gl H){r:Option Nat}{n:Nat}{c:Array aR}(Q:Exit->Act->aU->Prop):∀(b:List aR)(i:Nat){β:gR}{q g:List ah}{a:Act}{h s:aw}{w:aU},
  c.toList.drop i=b->qK P gl H c b q h=aa (g,s)->pP β h w->Gl gl β->dE β q a.tmps.toList->
  (∀e z k,Step β h w k s z->dE k g e.tmps.toList->e.defers=a.defers->Q .normal e z)->wpOpsIn (qG r) n P c Q (List.range' i b.length) a w
 |[],i,β,q,g,a,h,s,w,G,d,p,x,f,t=>by
  simp only[qK,bc,bA]at d;obtain⟨rfl,rfl⟩:=d;exact t a w β (Step.refl p) f rfl
 | o::b,i,β,q,g,a,h,s,w,G,d,p,x,f,t=>by
  have K:c[i]?=aa o:=by
   have:(c.toList.drop i)[0]?=aa o:=by rw[G];rfl
   rw[getElem?_drop]at this;rw[<-getElem?_toList];simpa using this
  have y:c.toList.drop (i+1)=b:=by rw[<-drop_drop,G];rfl
  simp only[bP,List.range'_succ,wpOpsIn,K];simp only[qK]at d;split at d
  ·next E=>
   rw[xK f E];simp only[if_true];split at d
   ·next v u I=>
    refine ajQ C l p x f I _ _ λL z k j J=>?_;refine S0 C l Q b (i+1) y d j.vH (x.mono j.le) (xg (f.mono j.le) o.dst J) λe F m B D A=>?_;exact t e F m (j.trans B) D (A.trans (put_defers a o.dst L))
   ·cases d
  ·next E=>
   rw[xK f E];simp only[dM,if_false];refine⟨λ_ _=>trivial,?_⟩;refine S0 C l Q b (i+1) y d p x (xg f o.dst (.undef β)) λe F m B D A=>?_;exact t e F m B D (A.trans (put_defers a o.dst undef))
  grind
theorem Yr(o:jJ P){j:fT}(l:vI P gl j){r:Option Nat}{n:Nat}{k:Nat}{b:Array aR}(Q:Exit->Act->aU->Prop){g c:List ah}{a:Act}{h i:aw}{w:aU}
  (s:qK P gl j b b.toList g h=aa (c,i)) (m:pP β h w) (t:Gl gl β) (q:dE β g a.tmps.toList)
  (p:∀e f d,Step β h w d i f->dE d c e.tmps.toList->e.defers=a.defers->Q .normal e f):(Code.region k b ak).wpIn (qG r) n P Q a w:=by grind[wpIn_region,S0,List.range_eq_range',gK]
theorem Oq{F:Fence}{c:Code}{Q:Exit->Act->aU->Prop}(I:Nat->Act->aU->Prop)(E:∀a w,¬I 0 a w)
  (p:∀j a w,I (j+1) a w->c.wpIn F n P (Exit.then (I j) Q) a w) {j:Nat} {a:Act} {w:aU} (s:I j a w):(Code.loop c).wpIn F n P Q a w:=by
 intro b k cs A r y;have z:∀j a w,I j a w->∃e o m,Q e o m/\ArrivesIn (Machine.fenced P F) P (lone (b.atR a (.code c :: .inLoop c::k)) cs w) b k cs e o m:=by
  intro j
  induction j with
  |zero=>grind
  | succ j C=>
   intro a w B;obtain⟨e,f,g,h,d⟩:=p j a w B b (.inLoop c::k) cs A r y
   cases e with
   |normal=>
    obtain⟨v,u,t,q,i⟩:=C f g h;exact⟨v,u,t,q,.of_steps (StepsIn.trans d (.one (fenced_calm r y rfl) stepR_inLoop)) i⟩
   |exit D=>exact⟨_,f,g,h,.pass (x:= .inLoop c) rfl (λ_ _=> .inl (by simp)) d⟩
   |goto l=>exact⟨_,f,g,h,.pass (x:= .inLoop c) rfl (λ_ _=> .inl (by simp)) d⟩
   |ret=>exact⟨_,f,g,h,.pass (x:= .inLoop c) rfl (λ_ _=> .inl (by simp)) d⟩
   |panic ch=>exact⟨_,f,g,h,.pass (x:= .inLoop c) rfl (λ_ _=> .inl (by simp)) d⟩
   |outgrown=>exact⟨_,f,g,h,.pass (x:= .inLoop c) rfl (λ_ _=> .inl (by simp)) d⟩
 obtain⟨e,o,m,h,d⟩:=z j a w s;exact⟨e,o,m,h,.of_steps (.one (fenced_calm r y rfl) stepR_loop) d⟩
def rU(P:aO)(gl:Nat->Bool)(l:fT)(c:Code):Prop:=
 ∀i b,c = .region i b af->∀β j d (a:Act) h k (w:aU) (r:Option Nat) (n:Nat) (Q:Exit->Act->aU->Prop),Fs P gl l b j h=aa (d,k)->pP β h w->Gl gl β->dE β j a.tmps.toList->
  (∀f g e,Step β h w e k g->dE e d f.tmps.toList->f.defers=a.defers->Q .normal f g)->(Code.region i b af).wpIn (qG r) n P Q a w
inductive Part:Code->Code->Prop where
 |refl (c:Code):Part c c
 |ah3 {c a b:Code} (h:Part c a):Part c (.seq a b)
 |aj1 {c a b:Code} (h:Part c b):Part c (.seq a b)
 |af9 {c a b:Code} {o:bh} (h:Part c a):Part c (.cond o a b)
 |af7 {c a b:Code} {o:bh} (h:Part c b):Part c (.cond o a b)
 |block {c a:Code} {id:Nat} (h:Part c a):Part c (.block id a)
 |loop {c a:Code} (h:Part c a):Part c (.loop a)
def aa1(b:Nat):Deferred:={ target:= .collected b,args:= #[] }
def Marks(w:aU)(e:List Deferred)(β:gR)(h:aw)(c:aU)(d:List Deferred):Prop:=
 ∃a:List Nat,d=a.map aa1++e/\a.Nodup/\∀b∈a,w.heap.size<=b/\b<c.heap.size/\c.heap[b]?=aa (.deferred (aa []))/\¬Wr β h b
theorem Marks.same{w c:aU}{b a:List Deferred}{h:aw}(e:a=b):Marks w b β h c a:=⟨[],by grind,by simp,by simp⟩
theorem Marks.trans{c:gR}{d f:aU}{p i j:List Deferred}(m:Marks W p J h d i)(B:W.heap.size<=d.heap.size)(n:Step J h d c g f)(y:Marks d i c g f j):Marks W p c g f j:=by
 obtain⟨u,rfl,t,s⟩:=m;obtain⟨o,rfl,r,z⟩:=y;refine⟨o++u,by simp,List.nodup_append.2 ⟨r,t,λa C b A e=>?_⟩,λb k=>?_⟩
 ·grind
 ·rcases bH.1 k with k|k
  ·grind
  ·obtain⟨w,l,v,q⟩:=s b k;exact⟨w,cz l n.size,(n.kept b l q).trans v,λx=>q (n.back b l x)⟩
theorem TX(a:pP β h W)(o:Obj):Step β h W β h (W.alloc o):=by
 have d:∀b,b<W.heap.size->(W.alloc o).heap[b]?=W.heap[b]?:=λb e=>by
  show(W.heap.push o)[b]?=_;rw[getElem?_push,iN (by omega)]
 refine⟨β.le_refl,aS _,⟨λk c d=>⟨(a.lt k c d).1,?_⟩,λk B c g f=>(a.blk k B c g f).of_heap (d _ (a.lt k c f).2),a.own,a.wf⟩,?_,rfl,⟨rfl,aS _⟩,rfl,λb e _=>d b e,λ_ _ h=>h,λ_ _ h=> .inl h,λ_ B h _=>⟨B,h⟩⟩
 ·have:=(a.lt k c d).2;simp;omega
 simp
theorem YK(f:pP β h W){tm:List ah}{r:Loop}(n:r.state = .ready)(l:r.pending=none)(m:dE β tm r.tmps.toList)(e:rE r.assign r.body=af):
  ∃a,Step β h W a (h.push (.loop .ready tm r.params.toList r.assign r.body e)) (W.alloc (.loop r))/\∃c,a h.ax=aa c/\c.b=W.heap.size:=by
 have i:wx β W (.loop .ready tm r.params.toList r.assign r.body e) (λk=> .func (.yield k) #[] #[]) (.func (.yield W.heap.size) #[] #[]) (W.alloc (.loop r)):=by
  refine⟨by simp,rfl,⟨rfl,aS _⟩,rfl,λb o=>?_,⟨W.heap.size,0,0,0,0,af⟩,rfl,λa k d j=>⟨⟨rfl,r,World.alloc_heap_new W _,⟨n,l⟩,m.mono d,rfl,rfl,rfl⟩,?_⟩⟩
  ·show(W.heap.push _)[b]?=_;rw[getElem?_push,iN (by omega)]
  ·exact .yield (sl:=⟨W.heap.size,0,0,0,0,af⟩) j rfl rfl
 obtain⟨a,q,g⟩:=i.step f;obtain⟨c,p,s⟩:=g.Lm
 grind
theorem YJ{z:aU}(m:pP β h W){k:Nat}{g:eE}{n:Slot}(C:h.get k=aa g)(y:β k=aa n)(B:g.wr=af)(l:At W z n.b):Step β h W β (h.del k) z:=by
 have i:∀a e,(h.del k).get a=aa e->a≠k/\h.get a=aa e:=λa e q=>by
  rw[h.iX]at q;split at q
  ·cases q
  ·next f=>exact⟨f,q⟩
 have x:∀a e c,a≠k->h.get a=aa e->β a=aa c->c.b≠n.b:=λa e c f d j=>(m.own k a g e n c (Ne.symm f) C d y j B).symm;refine⟨β.le_refl,aS _,⟨?_,?_,?_,aw.Ui m.wf k⟩,by rw[l.size];exact aS _,l.os,l.tape,l.output,?_,?_,λ_ _ h=> .inl h,?_⟩
 ·intro a c d;rw[l.size];exact m.lt a c d
 ·intro a e c d j;obtain⟨f,d⟩:=i _ _ d;exact(m.blk a e c d j).of_heap (l.kept _ (x a e c f d j))
 ·intro u v r t p o f d j s w E;exact m.own u v r t p o f (i _ _ d).2 (i _ _ j).2 s w E
 ·intro b A D;refine l.kept b ?_;rintro rfl;exact D ⟨k,g,n,C,B,y,rfl⟩
 ·rintro b A ⟨a,e,c,d,j,s,w⟩;exact⟨a,e,c,(i _ _ d).2,j,s,w⟩
 grind
theorem Es(w:aU)(b:Nat)(o:Obj):At w (w.putObj b o) b:=⟨by simp,rfl,.refl _,rfl,λc a=>jg a⟩
theorem Fq{P:aO}(h:yX P f=af):∃a,P.funcs[f]?=aa a/\a.body.isSome=af:=by grind[yX]
theorem Ny{a:Bool}(h:(a&&b)=af):a=af:=by grind
theorem Vi{a:Bool}(h:(a&&b)=af):b=af:=by grind
theorem MK(hN:jJ P){cf:fT}(z9:vI P gl cf){r:Option Nat}{n N:Nat}:∀(c:Code),(r=none\/tJ c=af)->(∀d,Part d c->rU P gl cf d)->∀{β:gR}{H F:List ah}{a:Act}{h T:aw}{w:aU}{e:Exit}(Q:Exit->Act->aU->Prop),
  du P gl cf N c H h=aa (e,F,T)->pP β h w->Gl gl β->dE β H a.tmps.toList->
  (∀a' w' X,Step β h w X T w'->dE X F a'.tmps.toList->Marks w a.defers X T w' a'.defers->Q e a' w')->c.wpIn (qG r) n P Q a w:=by
 intro c
 induction c with
 |skip=>
  intro p q β H F a h T w e Q i v A u C;simp only[du,bc,bA]at i;obtain⟨rfl,rfl,rfl⟩:=i;exact wpIn_skip (C a w β (Step.refl v) u (.same rfl))
 |region id v3 u5=>
  intro p q β H F a h T w e Q i v A u C
  cases u5
  ·simp only[du]at i;obtain⟨⟨x1,L⟩,y8,U⟩:=bq.1 i;simp only[bA]at U;obtain⟨rfl,rfl,rfl⟩:=U;exact Yr hN z9 Q y8 v A u λa' w' X K L h3=>C a' w' X K L (.same h3)
  ·simp only[du]at i;obtain⟨⟨x1,L⟩,y8,U⟩:=bq.1 i;simp only[bA]at U;obtain⟨rfl,rfl,rfl⟩:=U;exact q _ (.refl _) id v3 rfl β H x1 a h L w r n Q y8 v A u λa' w' X K L h3=>C a' w' X K L (.same h3)
 | seq x y y0 y6=>
  intro p q β H F a h T w e Q i v A u C;simp only[du]at i;refine wpIn_seq ?_;split at i
  ·next x5 K hx=>
   refine y0 (p.imp id Ny) (λd G=>q d (.ah3 G)) _ hx v A u λa1 Z z m V R=>?_;exact y6 (p.imp id Vi) (λd G=>q d (.aj1 G)) _ i m.vH (A.mono m.le) V λa2 w2 x3 J x2 x4=>C a2 w2 x3 (m.trans J) x2 (R.trans m.size J x4)
  ·next u0=>
   refine y0 (p.imp id Ny) (λd G=>q d (.ah3 G)) _ i v A u λa1 Z z m V R=>?_;have:=C a1 Z z m V R
   cases e with
   |normal=>grind
   |_=>exact this
 | cond o x y y0 y6=>
  intro p q β H F a h T w e Q i v A u C;simp only[du]at i;split at i
  ·next t v1=>
   have hc:a.eval o=ai t:=by
    have:=MS (β:=β) A u o;rw[v1]at this;exact this.qH
   cases t
   ·exact wpIn_cond hc (y6 (p.imp id Vi) (λd G=>q d (.af7 G)) Q i v A u C)
   ·exact wpIn_cond hc (y0 (p.imp id Ny) (λd G=>q d (.af9 G)) Q i v A u C)
  grind
 | block id x ih=>
  intro p q β H F a h T w e Q i v A u C;simp only[du]at i;refine wpIn_block ?_;split at i
  ·next v9 x5 K hx=>
   refine ih p (λd G=>q d (.block G)) _ hx v A u λa1 Z z m V R=>?_;split at i
   ·next U=>
    simp only[bc,bA]at i;obtain⟨rfl,rfl,rfl⟩:=i;simp only[Exit.inBlock,U,if_true]
    grind
   ·next U=>
    simp only[bc,bA]at i;obtain⟨rfl,rfl,rfl⟩:=i;simp only[Exit.inBlock,U,if_false]
    grind
  ·next u0=>
   refine ih p (λd G=>q d (.block G)) _ i v A u λa1 Z z m V R=>?_;have:=C a1 Z z m V R
   cases e with
   |exit v9=>grind
   |_=>exact this
 | loop x ih=>
  intro p q β H F a h T w e Q i v A u C;simp only[du]at i;refine Oq (λj a1 Z=>∃z x5 K,Step β h w z K Z/\dE z x5 a1.tmps.toList/\Marks w a.defers z K Z a1.defers/\iter (du P gl cf N x) j x5 K=aa (e,F,T)) ?_ ?_ (j:=N) ⟨β,H,h,Step.refl v,u,.same rfl,i⟩
  ·grind[iter]
  ·rintro j a1 Z ⟨z,x5,K,m,V,R,x8⟩;simp only[iter]at x8;split at x8
   ·next x1 L hx=>
    refine ih p (λd G=>q d (.loop G)) _ hx m.vH (A.mono m.le) V λa2 w2 x3 J x2 x4=>?_;exact⟨x3,x1,L,m.trans J,x2,R.trans m.size J x4,x8⟩
   ·next u0=>
    refine ih p (λd G=>q d (.loop G)) _ x8 m.vH (A.mono m.le) V λa2 w2 x3 J x2 x4=>?_;have:=C a2 w2 x3 (m.trans J) x2 (R.trans m.size J x4)
    cases e with
    |normal=>grind
    |_=>exact this
 |exit id=>
  intro p q β H F a h T w e Q i v A u C;simp only[du,bc,bA]at i;obtain⟨rfl,rfl,rfl⟩:=i;exact wpIn_exit (C a w β (Step.refl v) u (.same rfl))
 |ret=>
  intro p q β H F a h T w e Q i v A u C;simp only[du,bc,bA]at i;obtain⟨rfl,rfl,rfl⟩:=i;exact wpIn_ret (C a w β (Step.refl v) u (.same rfl))
 |label l=>
  intro p q β H F a h T w e Q i v A u C;simp only[du,bc,bA]at i;obtain⟨rfl,rfl,rfl⟩:=i;exact wpIn_label (C a w β (Step.refl v) u (.same rfl))
 | rangeFunc f Y x y _ _=>
  intro p q β H F a h T w e Q i v A u C;rcases p with rfl|p
  ·simp only[du]at i;split at i
   ·next g first x7 v7=>
    split at i
    ·next y3=>
     split at i
     ·next u3=>
      split at i
      ·next v2 L z4=>
       obtain⟨e2,E,U⟩:=bq.1 i;simp only[bA]at U;obtain⟨rfl,rfl,rfl⟩:=U;refine wpIn_rangeFunc λO w8=>?_;have z6:Step β h w β h (w.alloc (.deferred (aa []))):=TX v _;obtain⟨z,m,sl,u2,u4⟩:=YK z6.vH (tm:=H) (r:={ state:= .ready,pending:=none,fn:=O,tmps:=a.tmps,params:=Y,assign:=x,body:=y,defers:=w.heap.size }) rfl rfl u y3;have M:=z6.trans m;have hf:=MS (β:=β) A u f;rw[v7]at hf;obtain⟨S,D,u8,v8,v5⟩:=hf.aay;have x0:sl.b=w.heap.size+1:=by rw[u4];simp
       have z2:dE z (first.toList++[aN (.yield h.ax) #[] #[]]++x7.toList) (S ++ #[aN (.yield (w.heap.size+1)) #[] #[]]++D).toList:=by
        simp only[Array.toList_append];refine(((nL.toList.1 v8).mono M.le).append ?_).append ((nL.toList.1 v5).mono M.le);exact .cons (by have:=cA.yield u2 (a:= #[]) (c:= #[]) rfl rfl;rwa[x0]at this) (.nil _)
       obtain⟨fn,z7,u6⟩:=z9.fn g _ _ _ L u3.1 z4 z _ _ m.vH (A.mono M.le) z2;obtain⟨w9,y7,z3⟩:=Fq u3.2;rw[y7]at z7;obtain rfl:=aC z7;have y9:=mM hN y7 z3 (S ++ #[aN (.yield (w.heap.size+1)) #[] #[]]++D);have y5:Calls P g (S ++ #[aN (.yield (w.heap.size+1)) #[] #[]]++D) ((w.alloc (.deferred (aa []))).alloc (.loop { state:= .ready,pending:=none,fn:=O,tmps:=a.tmps,params:=Y,assign:=x,body:=y,defers:=w.heap.size })) (yQ z (h.push (.loop .ready H Y.toList x y y3)) ((w.alloc (.deferred (aa []))).alloc (.loop { state:= .ready,pending:=none,fn:=O,tmps:=a.tmps,params:=Y,assign:=x,body:=y,defers:=w.heap.size })) v2 L):=by
        rcases u6 with⟨_,hc⟩|⟨v',w',X,hc,_⟩
        ·exact hc
        ·rw[y9]at hc;cases hc
       have y1:(Instr.enterLoop O a.tmps Y x y (qG none).round).run P w = .ok (w.heap.size+1,[aa1 w.heap.size]) ((w.alloc (.deferred (aa []))).alloc (.loop { state:= .ready,pending:=none,fn:=O,tmps:=a.tmps,params:=Y,assign:=x,body:=y,defers:=w.heap.size })):=run_enterLoop_outer O a.tmps Y x y;have z1:(resolve a.eval (rangeCall f (w.heap.size+1)) 0).run P ((w.alloc (.deferred (aa []))).alloc (.loop { state:= .ready,pending:=none,fn:=O,tmps:=a.tmps,params:=Y,assign:=x,body:=y,defers:=w.heap.size })) = .ok { target:= .fn (.func g) D,args:=S ++ #[aN (.yield (w.heap.size+1)) #[] #[]] } ((w.alloc (.deferred (aa []))).alloc (.loop { state:= .ready,pending:=none,fn:=O,tmps:=a.tmps,params:=Y,assign:=x,body:=y,defers:=w.heap.size })):=by
        have U:resolve a.eval (rangeCall f (w.heap.size+1)) 0=Deferred.ofValue (a.eval f) #[aN (.yield (w.heap.size+1)) #[] #[]]:=by
         unfold resolve rangeCall;simp only[List.map_toArray,List.map_cons,List.map_nil];rfl
        rw[U,u8];rfl
       refine⟨_,_,_,_,_,g,_,_,y1,z1,λ_ _=>trivial,y9 _,λG=>by simp[qG,Fence.wide]at G,Be (y5.mono ?_)⟩;rintro e' w3 ⟨v',x9,rfl,I,w5⟩
       cases hB:L.get h.ax with
       |none=>rw[hB]at E;cases E
       | some B=>
        rw[hB]at E;have y4:=I.le _ _ u2
        cases B with
        |cells _ _ _ _=>cases E
        |map _=>cases E
        | loop st x1 w6 w4 w0 w7=>
         obtain⟨_,r,z8,x6,_⟩:=I.vH.blk _ _ _ hB y4;rw[x0]at z8;have v4:Marks w a.defers x9 (L.del h.ax) (w3.putObj (w.heap.size+1) (.loop { r with state:= .exhausted })) ([aa1 w.heap.size]++a.defers):=by
          have u1:¬Wr z (h.push (.loop .ready H Y.toList x y y3)) w.heap.size:=λhw=>by
           have:=m.back w.heap.size (by simp) hw;obtain⟨k,B,z0,_,_,h3,h4⟩:=this;have:=(v.lt k z0 h3).2;omega
          have y2:w.heap.size<((w.alloc (.deferred (aa []))).alloc (.loop { state:= .ready,pending:=none,fn:=O,tmps:=a.tmps,params:=Y,assign:=x,body:=y,defers:=w.heap.size })).heap.size:=by simp;omega
          refine⟨[w.heap.size],rfl,by simp,λb hb=>?_⟩;obtain rfl:=aX.1 hb;refine⟨aS _,?_,?_,λhw=>?_⟩
          ·rw[World.putObj_size];exact cz y2 I.size
          ·rw[jg (by omega),I.kept _ y2 u1];show((w.heap.push _).push _)[w.heap.size]?=_;rw[getElem?_push,iN (by simp),getElem?_push,iP rfl]
          ·obtain⟨k,B,z0,K,u9,h3,h4⟩:=hw;refine u1 (I.back _ y2 ⟨k,B,z0,?_,u9,h3,h4⟩);rw[aw.iX]at K;split at K
           ·cases K
           ·exact K
         have z5:Step x9 L w3 x9 (L.del h.ax) (w3.putObj (w.heap.size+1) (.loop { r with state:= .exhausted })):=YJ I.vH hB y4 rfl (by rw[x0];exact Es _ _ _);have u7:=(M.trans I).trans z5;have v6:=u.mono (M.trans I).le;have W:=C { a with defers:=[aa1 w.heap.size]++a.defers } _ x9 u7 v6 v4;have v0:r.state≠ .busy:=by
          cases st<;>simp only[RH]at x6<;>first|(rw[x6.1];simp;done)|cases E
         refine⟨r.pending,_,run_endLoop z8 v0,?_⟩
         cases st with
         |ready=>
          obtain rfl:=aC E;have hp:r.pending=none:=x6.2;rw[hp]at W⊢;exact W
         |busy=>cases E
         |ret=>
          obtain rfl:=aC E;have hp:r.pending=aa .ret:=x6.2;rw[hp]at W⊢;exact wpIn_ret W
         |exit id=>
          obtain rfl:=aC E;have hp:r.pending=aa (.exit id):=x6.2;rw[hp]at W⊢;exact wpIn_exit W
      ·cases i
     ·cases i
    ·cases i
   grind
  ·cases p
 |scope x _=>grind[du]
 |goto l=>grind[du]
 |refuse s=>grind[du]
end
section
variable {β:gR} {P:aO} {gl:Nat->Bool}
def QT(a:Array ah):ResultVar->Sem ah
 |.tmp t=>pure (a.getD t undef)
 |.cell x t=>do loadVar t (<-asAddr (a.getD x undef))
theorem TF(c:Func)(a:Array ah):results c a=(do let b <-c.results.mapM (QT a);pure (if h:b.size=1 then b[0]else av b)):=by rfl
theorem xq{a:Act}{h:aw}{w:aU}(i:pP β h w){m:List ah}(f:dE β m a.tmps.toList):∀(l:List ResultVar){d:List ah},gw P m h l=aa d->
  ∃b,(l.mapM (QT a.tmps)).run P w = .ok b w/\dE β d b
 |[],d,h=>by simp only[gw,bc]at h;subst h;exact⟨[],by simp,.nil β⟩
 |.tmp t::l,d,c=>by
  simp only[gw]at c;obtain⟨p,k,rfl⟩:=bq.1 c;obtain⟨b,n,j⟩:=xq i f l k;have e:=f.getD t;rw[show a.tmps.toList.getD t undef=a.tmps.getD t undef by simp[List.getD,dp]]at e;refine⟨a.tmps.getD t undef::b,?_,.cons e j⟩
  grind[aV,bt,aJ,QT]
 | .cell x t::l,d,c=>by
  simp only[gw]at c;split at c
  ·next v q=>
   obtain⟨p,k,rfl⟩:=bq.1 c;obtain⟨b,n,j⟩:=xq i f l k;have e:=f.getD x;rw[show a.tmps.toList.getD x undef=a.tmps.getD x undef by simp[List.getD,dp]]at e;obtain⟨u,r,s,g,o⟩:=PW (P:=P) i q e;refine⟨s::b,?_,.cons o j⟩;rw[List.mapM_cons];simp only[aV,QT,r,asAddr,bt,aJ,g,n]
  grind
theorem QW{fn:Func}{a:Act}(m:pP β h W){g:List ah}(p:dE β g a.tmps.toList){d:List ah}(f:gw P g h fn.results.toList=aa d):
  ∃e,(results fn a.tmps).run P W = .ok e W/\cA β (fW d) e:=by
 obtain⟨b,n,c⟩:=xq (P:=P) m p fn.results.toList f;have q:(fn.results.mapM (QT a.tmps)).run P W = .ok b.toArray W:=by
  rw[Array.mapM_eq_mapM_toList];simp only[Sem.run_map,n,aJ]
 refine⟨if h:b.toArray.size=1 then b.toArray[0]else .tuple b.toArray,?_,?_⟩
 ·grind[TF,aV,aJ,bt]
 ·match d,b,c with
  |[],b,c=>rw[c.jD];exact .tuple rfl λi v e h=>by grind
  |[v],b,c=>
   obtain⟨e,r,rfl,k,f⟩:=c.gm;rw[f.jD];exact k
  |v::u::d,b,c=>
   have l:=c.1;have j:¬b.toArray.size=1:=by simp only[List.size_toArray];simp only[bP]at l;omega
   rw[dif_neg j];exact .tuple (by omega) λi x o s t=>c.2 i x o (by grind) (by grind)
theorem Gj.Nx(h:Gj β I G W){d:Option (List Deferred)}(q:W.heap[G.b]?=aa (.deferred d)):False:=by
 cases I with
 |cells cs t i m=>obtain⟨_,_,_,g,k,n,_⟩:=h;grind
 |map l=>obtain⟨_,f,a,c,_⟩:=h;grind
 |loop o j p e b s=>obtain⟨_,r,c,_⟩:=h;grind
theorem YM{w:aU}(a:Step J g W β h w){b:Nat}{d l:Option (List Deferred)}(r:W.heap.size<=b)(j:w.heap[b]?=aa (.deferred d)):Step J g W β h (w.putObj b (.deferred l)):=by
 refine⟨a.le,a.ax,⟨λk c q=>?_,λk B c m n=>?_,a.vH.own,a.vH.wf⟩,?_,a.os,a.tape,a.output,λp f o=>?_,a.back,a.fresh,a.keys⟩
 ·rw[World.putObj_size];exact a.vH.lt k c q
 ·have i:=a.vH.blk k B c m n;refine i.of_heap (jg λe=>?_);rw[<-e]at j;exact i.Nx j
 ·grind[World.putObj_size]
 ·rw[jg (by omega)];exact a.kept p f o
theorem Df{F:Fence}{n:Nat}{fn:Func}{d f:gR}{g m:aw}{c:aU}{q:List ah}{tmps:Array ah}{o:List ah}(i:gw P q m fn.results.toList=aa o)(s:dE f q tmps.toList):
  ∀(h:List Nat)(e:aU),h.Nodup->(∀b∈h,c.heap.size<=b/\e.heap[b]?=aa (.deferred (aa [])))->Step d g c f m e->LeavesInM F n P fn tmps (yQ d g c (fW o) m) (h.map aa1) .returning e
 |[],e,_,_,k=>by
  obtain⟨r,l,j⟩:=QW (P:=P) (fn:=fn) (a:={ tmps:=tmps,defers:=[] }) k.vH s i;exact⟨r,l,r,f,rfl,k,j⟩
 |b::h,e,u,t,k=>by
  obtain⟨l,j⟩:=t b (by simp);obtain⟨v,p⟩:=List.nodup_cons.1 u;refine⟨by simp,.inl ⟨b,_,rfl,run_takeDeferred j,?_⟩⟩;refine Df i s h _ p (λx w=>?_) (YM k l j)
  grind[jg]
def qt(P:aO)(gl:Nat->Bool)(f:ck)(p:tw):Prop:=
 ∀i,vI P gl i->∀b h v d,p i b h=aa (v,d)->∀β w (a:Array ah),pP β h w->Gl gl β->dE β b a.toList->
  ∃g,P.funcs[f]?=aa g/\((g.body.isSome=af/\Calls P f a w (yQ β h w v d))\/
   (∃j e c,(callFunc f a).run P w = .ok (.value j) e/\Step β h w c d e/\cA c v j))
def wE(P:aO)(gl:Nat->Bool)(a:ck->Option tw):Prop:=∀f p,a f=aa p->qt P gl f p
def OE(P:aO)(gl:Nat->Bool):Prop:=∀b,vI P gl b->∀(f:ck)(a:Func)(c d:Code),P.funcs[f]?=aa a->a.body=aa c->Part d c->rU P gl b d
theorem HK(Q:jJ P){x:fT}(G:vI P gl x){N:Nat}{f:ck}{l:Func}{c:Code}(L:P.funcs[f]?=aa l)(J:l.body=aa c)(T:∀d,Part d c->rU P gl x d)
  {j:List ah} {h u:aw} {E:List ah} {e:Exit} {z:List ah} (V:du P gl x N c (j++aH (l.ntmps-j.length) undef) h=aa (e,E,u)) (R:e = .normal\/e = .ret)
  (y:gw P E u l.results.toList=aa z) {w:aU} {g:Array ah} (O:pP β h w) (W:Gl gl β) (I:dE β j g.toList):
  Calls P f g w (yQ β h w (fW z) u):=by
 refine(callsIn_wide (n:=0)).1 (callsIn_of_wp_marks (F:=Fence.wide) L J trivial ?_);have q:∀k,dE β (aH k undef) (aH k undef):=λk=>⟨rfl,λi v Y s t=>by
  rw[List.getElem?_replicate]at s t;split at s
  ·next S=>rw[iP S]at t;obtain rfl:=aC s;obtain rfl:=aC t;exact .undef β
  grind⟩
 have U:dE β (j++aH (l.ntmps-j.length) undef) (g++Array.replicate (l.ntmps-g.size) undef).toList:=by
  have:g.size=j.length:=by rw[I.1];simp
  rw[this];simp only[Array.toList_append,Array.toList_replicate];exact I.append (q _)
 refine MK (r:=none) Q G c (.inl rfl) T _ V O W U λa K X H A D=>?_;obtain⟨M,p,B,o⟩:=D;simp only[cF]at p;have m:=Df (P:=P) (F:=Fence.wide) (n:=0) (fn:=l) y A M K B (λb C=>⟨(o b C).1,(o b C).2.2.1⟩) H;rw[<-p]at m;rcases R with rfl|rfl
 ·exact m
 ·exact m
theorem Iq:∀(l:List (Tmp×ah))(T:Array ah),(l.foldl (λa (p:Tmp×ah)=>a.setIfInBounds p.1 p.2) T).toList=zU T.toList l
 |[],_=>rfl
 |p::l,T=>by
  simp only[pE,zU];rw[Iq l,zU,Array.toList_setIfInBounds]
theorem dE.set{l l':List ah}(h:dE β l l')(i:Nat){v c:ah}(f:cA β v c):dE β (l.set i v) (l'.set i c):=by
 refine⟨by simp[h.1],λj u e a b=>?_⟩;rw[List.getElem?_set]at a b;split at a
 ·grind
 ·next d=>rw[iN d]at b;exact h.2 j u e a b
theorem LY:∀(b:List Tmp){h d c a:List ah},dE β h d->dE β c a->dE β (zU h (b.zip c)) (zU d (b.zip a))
 |[],_,_,_,_,f,_=>by simp_all[zU]
 |p::b,_,_,[],_,f,e=>by rw[e.jD];simp_all[zU]
 |p::b,_,_,v::j,_,f,e=>by
  obtain⟨k,l,rfl,i,g⟩:=e.gm;exact LY b (f.set p i) g
theorem yi{a:fT}(b:∀(d c:Code),Part d c->fS c=af->rU P gl a d){c:Code}(h:fS c=af):∀d,Part d c->rU P gl a d:=λd e=>b d c e h
theorem adh(hN:jJ P){cf:fT}(L:vI P gl cf)(hD:∀(d c:Code),Part d c->fS c=af->rU P gl cf d){N k:Nat}{s:List ah}{h h':aw}{v:ah}(j:wq (du P gl cf N) k s h=aa (v,h')){w:aU}{i:Array ah}{p:Slot}
  (hs:pP β h w) (hg:Gl gl β) (ha:dE β s i.toList) (hb:β k=aa p):
  ∃fn tmps z q,(Instr.yield p.b i).run P w = .ok (.round p.b fn tmps z q) w/\∀(r:Option Nat)(n:Nat),RoundIn (qG r) n P p.b fn tmps z q w (yQ β h w v h'):=by
 unfold wq at j;split at j
 ·next tm ps z q ok hk=>
  split at j
  ·next T=>
   split at j
   ·next z4 h1 S=>
    split at j
    ·next x6 y5 Z E y4 R=>
     split at j
     ·next e x h2 H=>
      split at j
      ·next z2 x8 x9 x3 G y7 b st K f=>
       simp only[bc,bA]at j;obtain⟨rfl,rfl⟩:=j;obtain⟨_,o,y0,z5,y9,M,rfl,rfl⟩:=hs.blk _ _ _ hk hb;have y1:i.size=o.params.size:=by
        have:=ha.1;rw[<-gK,<-this,T,<-M];simp
       refine⟨o.fn,_,o.assign,o.body,run_yield y0 y1,λr n=>?_⟩;simp only[rE,bj]at ok;obtain⟨⟨⟨x7,Y⟩,y6⟩,z0⟩:=ok;have x2:dE β (zU tm (ps.zip s)) ((o.params.zip i).foldl (λtmps (t,a)=>tmps.setIfInBounds t a) o.tmps).toList:=by
        rw[<-pQ,Array.toList_zip,M];have:=LY ps y9 ha;rw[<-Iq (ps.zip i.toList) o.tmps]at this;exact this
       refine roundIn_of_wpIn trivial ?_;refine MK (r:=aa p.b) hN L o.assign (.inr y6) (yi hD x7) _ S hs hg (a:={ tmps:=_,defers:=[] }) x2 λa1 w1 Q m y8 _=>?_;have u:=m.le _ _ hb;obtain⟨_,O,x1,W,U,V,F,B⟩:=m.vH.blk _ _ _ R u;have C:Step Q h1 w1 Q (h1.set k (.loop .busy x6 y5 Z E y4)) (w1.putObj p.b (.loop { O with state:= .busy })):=
        Step.at_ m.vH R u rfl (Es _ _ _) ⟨by assumption,{ O with state:= .busy },World.putObj_heap_same (m.vH.lt _ _ u).2,rfl,U,V,F,B⟩
       refine⟨_,run_beginRound x1 W.1,?_⟩;have y:=m.trans C;refine MK (r:=aa p.b) hN L o.body (.inr z0) (yi hD Y) _ H C.vH (hg.mono y.le) y8 λa2 w2 y3 l z3 _=>?_;have A:=l.le _ _ u;obtain⟨x5,z6,x0,z1,x4,X,I,D⟩:=l.vH.blk _ _ _ K A;have J:=y.trans l;have fin:∀g:Option Code,b=g.isNone->RH st (if g.isNone then .ready else .done) g->
         ∃v w',(Instr.endRound p.b g).run P w2 = .ok v w'/\yQ β h w (.bool b) (h2.set k (.loop st x8 x9 x3 G y7)) (.returned v) w':=λg hj y2=>by
        refine⟨_,_,run_endRound g x0,.bool g.isNone,y3,rfl,J.trans (Step.at_ l.vH K A rfl (Es _ _ _) ⟨x5,_,World.putObj_heap_same (l.vH.lt _ _ A).2,y2,x4,X,I,D⟩),?_⟩;rw[hj];exact .bool _
       cases e with
       |normal=>simp only[P0,bc,bA]at f;obtain⟨rfl,rfl⟩:=f;exact fin none rfl ⟨rfl,rfl⟩
       |ret=>simp only[P0,bc,bA]at f;obtain⟨rfl,rfl⟩:=f;exact fin (aa .ret) rfl ⟨rfl,rfl⟩
       |exit id=>simp only[P0,bc,bA]at f;obtain⟨rfl,rfl⟩:=f;exact fin (aa (.exit id)) rfl ⟨rfl,rfl⟩
       |_=>cases f
      ·cases j
     ·cases j
    ·cases j
   ·cases j
  ·cases j
 grind
def KI(P:aO)(gl:Nat->Bool):Prop:=∀a,vI P gl a->∀(d c:Code),Part d c->fS c=af->rU P gl a d
theorem MH(t:jJ P){A:ck->Option tw}(D:wE P gl A)(y:OE P gl)(C:KI P gl):∀n,vI P gl (dS P gl A n)
 |0=>⟨λf b h v u _ a=>by grind[dS],λk b h v u a=>by grind[dS]⟩
 | n+1=>by
  have g:=MH t D y C n;refine⟨λf b h v u H a β w j m s r=>?_,λk b h v u a β w j I m s r e=>?_⟩
  ·simp only[dS]at a;rw[iN (by omega)]at a;split at a
   ·next p B=>exact D f p B _ g b h v u a β w j m s r
   ·split at a
    ·next x l=>
     split at a
     ·next c e=>
      refine⟨x,l,.inl ⟨by simp[e],?_⟩⟩;split at a
      ·next F G o=>
       obtain⟨E,i,q⟩:=bq.1 a;simp only[bA]at q;obtain⟨rfl,rfl⟩:=q;exact HK t g l e (λd z=>y _ g f x c d l e z) o (.inl rfl) i m s r
      ·next F G o=>
       obtain⟨E,i,q⟩:=bq.1 a;simp only[bA]at q;obtain⟨rfl,rfl⟩:=q;exact HK t g l e (λd z=>y _ g f x c d l e z) o (.inr rfl) i m s r
      ·cases a
     ·cases a
    grind
  ·simp only[dS]at a;rw[iP (by omega),Nat.add_sub_cancel_left]at a;exact adh t g (C _ g) a m s r e
end
section
variable {β:gR} {P:aO}
structure Eo(h h':aw):Prop where
 ax:h.ax=h'.ax
 get:∀k,h.get k=h'.get k
theorem Eo.refl(h:aw):Eo h h:=⟨rfl,λ_=>rfl⟩
theorem Eo.symm(e:Eo h g):Eo g h:=⟨e.ax.symm,λk=>(e.get k).symm⟩
theorem pP.same{h f:aw}{w:aU}(e:Eo h f)(b:pP β h w):pP β f w:=
 ⟨λk a g=>by rw[<-e.ax];exact b.lt k a g,λk B a m d=>b.blk k B a (by rw[e.get];omega) d,
  λk j B o a i c m d l n p=>b.own k j B o a i c (by rw[e.get];omega) (by rw[e.get];omega) l n p,
  λk B g=>by rw[<-e.ax];exact b.wf k B (by rw[e.get];omega)⟩
theorem Wr.same{h a:aw}(e:Eo h a){b:Nat}:Wr β h b->Wr β a b:=λ⟨k,B,c,f,d⟩=>⟨k,B,c,by rw[<-e.get];omega,d⟩
theorem Step.same{h c m a:aw}{g:gR}{w l:aU}(e:Eo h c)(f:Eo m a)(s:Step β h w g m l):Step β c w g a l:=
 ⟨s.le,by rw[<-e.ax,<-f.ax];exact s.ax,s.vH.same f,s.size,s.os,s.tape,s.output,λb i o=>s.kept b i λd=>o (d.same e),λb i d=>(s.back b i (d.same f.symm)).same e,
  λk p n=>(s.fresh k p n).imp id λ⟨t,q⟩=>⟨by rw[<-e.ax];omega,q.imp id λd=>d.same e⟩,
  λk B n r=>let⟨j,u⟩:=s.keys k B (by rw[f.get];omega) (by rw[e.ax];omega);⟨j,by rw[<-e.get];omega⟩⟩
theorem pP.sub(b:pP β h W)(j:g.ax=h.ax)(c:∀k B,g.get k=aa B->h.get k=aa B):pP β g W:=
 ⟨λk a f=>by rw[j];exact b.lt k a f,λk B a d e=>b.blk k B a (c k B d) e,λk i B m a n l d e o p q=>b.own k i B m a n l (c k B d) (c i m e) o p q,
  λk B f=>by rw[j];exact b.wf k B (c k B f)⟩
theorem Step.frame{E V V':aw}{F:aU}(s:Step β g W J E F)(p:pP β V W)(D:V.ax=g.ax)(x:V'.ax=E.ax)(R:Nat->eE->Prop)
  (u:∀k B,R k B->k<g.ax/\g.get k=none) (n:∀k B,V.get k=aa B↔g.get k=aa B\/R k B) (l:∀k B,V'.get k=aa B↔E.get k=aa B\/R k B):Step β V W J V' F:=by
 have m:∀k a,k<g.ax->J k=aa a->β k=aa a:=λk a f e=>by
  rcases s.fresh k a e with h|⟨h,_⟩
  all_goals omega
 have C:∀k B a,R k B->β k=aa a->¬Wr β g a.b:=by
  rintro k B a H e ⟨G,N,I,c,d,q,o⟩;have r:G≠k:=by rintro rfl;rw[(u _ _ H).2]at c;cases c
  exact p.own G k N B I a r ((n _ _).2 (.inl c)) ((n _ _).2 (.inr H)) q e d o
 have A:∀b,Wr β g b->Wr β V b:=λb ⟨k,B,a,c,d⟩=>⟨k,B,a,(n _ _).2 (.inl c),d⟩
 refine⟨s.le,by rw[D,x];exact s.ax,⟨?_,?_,?_,?_⟩,s.size,s.os,s.tape,s.output,λb e K=>s.kept b e λh=>K (A b h),?_,?_,?_⟩
 ·intro k a f;rw[x];exact s.vH.lt k a f
 ·intro k B a c d;rcases(l k B).1 c with c|c
  ·exact s.vH.blk k B a c d
  ·have e:=m k a (u _ _ c).1 d;exact((p.blk k B a ((n _ _).2 (.inr c)) e).mono s.le).of_heap (s.kept _ (p.lt k a e).2 (C k B a c e))
 ·intro k j B v a i r c d q o z;rcases(l k B).1 c with c|c
  ·rcases(l j v).1 d with d|d
   ·exact s.vH.own k j B v a i r c d q o z
   ·have e:=m j i (u _ _ d).1 o;intro L;exact C j v i d e (s.back _ (p.lt j i e).2 ⟨k,B,a,c,z,q,L⟩)
  ·have e:=m k a (u _ _ c).1 q;rcases(l j v).1 d with d|d
   ·rcases s.fresh j i o with y|⟨_,y|y⟩
    ·have w:=(p.lt j i y).1;obtain⟨t,M⟩:=s.keys j v d (by rw[<-D];exact w);exact p.own k j B t a i r ((n _ _).2 (.inr c)) ((n _ _).2 (.inl M)) e y z
    ·have:=(p.lt k a e).2;omega
    grind
   ·exact p.own k j B v a i r ((n _ _).2 (.inr c)) ((n _ _).2 (.inr d)) e (m j i (u _ _ d).1 o) z
 ·intro k B f;rw[x];rcases(l k B).1 f with f|f
  ·exact s.vH.wf k B f
  ·exact cz (u _ _ f).1 s.ax
 ·rintro b e ⟨k,B,a,c,d,q,o⟩;rcases(l k B).1 c with c|c
  ·exact A b (s.back b e ⟨k,B,a,c,d,q,o⟩)
  ·exact⟨k,B,a,(n _ _).2 (.inr c),d,m k a (u _ _ c).1 q,o⟩
 ·intro k a f;rcases s.fresh k a f with h|⟨c,d⟩
  all_goals grind
 ·intro k B f w;rcases(l k B).1 f with f|f
  ·obtain⟨t,O⟩:=s.keys k B f (by rw[<-D];exact w);exact⟨t,(n _ _).2 (.inl O)⟩
  grind
theorem wx.Zw{w M:aU}(m:Step J h W β g w){B:eE}{f:Nat->ah}{O:ah}(p:wx β w B f O M){k:Nat}(I:β k=none)(X:h.ax<=k)(N:k<g.ax):
  ∃t,Step J h W t (g.set k B) M/\cA t (f k) O/\β.le t/\∀j,j≠k->t j=β j:=by
 obtain⟨l,P,K⟩:=p.new;have y:=m.vH;have u:β.le (β.ext k l):=gR.IF l I;obtain⟨V,R⟩:=K _ k u (β.fK _ _);have L:∀a d,β a=aa d->d.b<w.heap.size:=λa d I=>(y.lt a d I).2;have U:=m.size;refine⟨β.ext k l,⟨gR.le_trans m.le u,m.ax,⟨?_,?_,?_,aw.wf_set y.wf B N⟩,by rw[p.size];omega,p.os.trans m.os,m.tape.trans p.tape,p.output.trans m.output,
  λb x Q=>(p.kept b (by omega)).trans (m.kept b x Q),?_,?_,?_⟩,R,u,λj S=>β.jb l S⟩
 ·intro a d e;by_cases c:a=k
  ·subst c;rw[β.fK]at e;obtain rfl:=aC e;exact⟨N,by rw[p.size,P];omega⟩
  ·rw[β.jb l c]at e;have:=y.lt a d e;exact⟨this.1,by rw[p.size];omega⟩
 ·intro a C d i n;by_cases c:a=k
  ·subst c;rw[β.fK]at n;obtain rfl:=aC n;rw[g.hC]at i
   grind
  ·rw[g.fp k a B c]at i;rw[β.jb l c]at n;exact((y.blk a C d i n).mono u).of_heap (p.kept _ (L a d n))
 ·intro q s F G E D z i n o r T;by_cases A:q=k
  ·subst A;rw[β.fK]at o;obtain rfl:=aC o;rw[β.jb l (Ne.symm z)]at r
   grind
  ·by_cases v:s=k
   ·subst v;rw[β.fK]at r;obtain rfl:=aC r;rw[β.jb l z]at o
    grind
   ·rw[g.fp k q B A]at i;rw[g.fp k s B v]at n;rw[β.jb l A]at o;rw[β.jb l v]at r;exact y.own q s F G E D z i n o r T
 ·rintro b x ⟨a,C,d,i,n,o,r⟩;by_cases c:a=k
  ·subst c;rw[β.fK]at o
   grind
  ·rw[g.fp k a B c]at i;rw[β.jb l c]at o;exact m.back b x ⟨a,C,d,i,n,o,r⟩
 ·intro a d e;by_cases c:a=k
  ·subst c;rw[β.fK]at e
   grind
  ·rw[β.jb l c]at e;exact m.fresh a d e
 ·intro a C i H;rw[g.fp k a B (by omega)]at i;exact m.keys a C i H
end
variable{q:aR}
section
variable {P:aO} {ρ ρ':bh->ah}
theorem ajG{l:List (Nat×bh)}(h:∀x∈l.map (·.2),ρ x=ρ' x):l.map (λp=>(p.1,ρ p.2))=l.map (λp=>(p.1,ρ' p.2)):=
 kc λp a=>by grind
theorem akY{r:Option bh}(h:∀x∈r.toList,ρ x=ρ' x):r.map ρ=r.map ρ':=by
 cases r with
 |none=>rfl
 |some x=>grind
theorem akI{l:List (Nat×bh)}(h:∀x∈l.map (·.2),ρ x=ρ' x)(q:ah->Bool):(l.all λp=>q (ρ p.2))=l.all λp=>q (ρ' p.2):=by grind
theorem NF(h:∀x∈q.op.operands,ρ x=ρ' x):eW P ρ q=eW P ρ' q:=by
 obtain⟨l,j,n,k,g,f⟩:=q
 cases j
 case call c=>
  obtain⟨d,e,m⟩:=c
  cases d with
  |builtin b=>
   have i:e.toList.map ρ=e.toList.map ρ':=kc λx a=>h x (by simpa[eK,jT]using a)
   cases b<;>simp only[eW,i]
   split
   ·next x t a p=>rw[h x (by simp[eK,jT];exact Array.mem_of_getElem? a)]
   ·rfl
  |_=>rfl
 all_goals first
  |rfl
  |(simp only[eK,Array.mem_append,List.mem_toArray,cO,List.not_mem_nil,or_false,forall_eq_or_imp,forall_eq]at h;simp only[eW,h];done)
  |skip
 case build t o=>
  simp only[eW];rw[ajG λx a=>h x (by simpa[eK]using a)]
 grind[Array.map_congr_left,eK,eW]
theorem NG(h:∀x∈q.op.operands,ρ x=ρ' x):eB P ρ q g=eB P ρ' q g:=by
 obtain⟨l,i,n,k,e,d⟩:=q
 cases i
 case call c=>
  obtain⟨a,j,m⟩:=c
  cases a with
  |builtin b=>
   cases b<;>simp only[eB]
   split
   ·next x t f o=>rw[h x (by simp[eK,jT];exact Array.mem_of_getElem? f)]
   ·rfl
  |_=>rfl
 all_goals first
  |rfl
  |(simp only[eK,Array.mem_append,List.mem_toArray,cO,List.not_mem_nil,or_false,forall_eq_or_imp,forall_eq]at h;simp only[eB,h];done)
  |skip
 grind[akY,eK,eB]
theorem Ko(h:∀x∈q.op.operands,ρ x=ρ' x):dz P ρ q=dz P ρ' q:=by
 obtain⟨i,e,k,g,c,b⟩:=q
 cases e
 all_goals first
  |rfl
  |(simp only[eK,List.mem_toArray,cO,List.not_mem_nil,or_false,forall_eq_or_imp,forall_eq]at h;simp only[dz,h];done)
  |skip
 case buildSlice t j f=>
  have a:∀x∈f.toList.map (·.2),ρ x=ρ' x:=λx d=>h x (by simpa[eK]using d);simp only[dz];rw[ajG a,akI a]
 grind[dz,eK]
theorem Qr{k:fT}(h:∀x∈q.op.operands,ρ x=ρ' x):gM P k ρ q g=gM P k ρ' q g:=by
 obtain⟨r,n,v,p,m,l⟩:=q
 cases n
 case call c=>
  obtain⟨e,a,u⟩:=c
  cases e with
  | builtin b=>
   have j:a.toList.map ρ=a.toList.map ρ':=kc λx d=>h x (by simpa[eK,jT]using d)
   cases b<;>simp only[gM,j]
   all_goals
    split
    ·next s x t w d z=>
     have i:∀y∈a.toList,ρ y=ρ' y:=λy o=>h y (by simpa[eK,jT]using o);rw[d]at i;rw[i s (by simp),i x (by simp)]
    ·rfl
  |value f=>
   have j:a.toList.map ρ=a.toList.map ρ':=kc λx d=>h x (by simp[eK,jT];right;simpa using d);simp only[gM,j,h f (by simp[eK,jT])]
  |_=>rfl
 all_goals simp_all[eK,gM]
end
end Go.Ab
end
section
namespace Go.Ab
open Go Region
variable{U:Array aR}{i:Nat}{j:Nat}
structure Mx(ops:Array aR)(L:List Nat):Prop where
 mem:∀i,i∈L↔i<ops.size
 nodup:L.Nodup
 akQ:∀pre i suf,L=pre++i::suf->∀o,ops[i]?=aa o->∀e∈o.after,binds .any e=af->e.on∈pre
theorem Wc{m:iC}{e:Edge}(h:binds .any e=af):binds m e=af:=by grind[binds]
def may(m:iC)(b:Array aR)(a:Array Bool)(i:Nat):Prop:=
 a.getD i af=ak/\∃o,b[i]?=aa o/\∀e∈o.after,binds m e=af->a.getD e.on ak=af
theorem BQ{m:iC}{a:Array Bool}:
  i∈(dL U.size).filter (λi=> !a.getD i af&&((U[i]?).map (·.after.all λe=> !binds m e||a.getD e.on ak)).getD ak)↔i<U.size/\may m U a i:=by
 simp only[iR,eL,bj,dt,may]
 grind[Array.all_eq_true']
def left(b:Array aR)(a:Array Bool):List Nat:=(dL b.size).filter λi=> !a.getD i af
theorem Is{l:Array Bool}(d:Bool)(a:i<l.size):(l.setIfInBounds i af).getD j d=if j=i then af else l.getD j d:=by
 simp only[dp,Array.getElem?_setIfInBounds]
 grind
theorem PL(m:iC)(k:Array aR):
  ∀(q t:Nat)(c:Array Bool)(d:List Nat),c.size=k.size->(∀i,i∈d↔i<k.size/\c.getD i af=af)->d.Nodup->
   (∀g i r,d.reverse=g++i::r->∀o,k[i]?=aa o->∀e∈o.after,binds m e=af->e.on∈g)->
   let L:=linearise.go m k q t c d
   (∀i,i∈L->i<k.size)/\L.Nodup/\∀g i r,L=g++i::r->∀o,k[i]?=aa o->∀e∈o.after,binds m e=af->e.on∈g
 |0,t,c,d,H,w,F,K=>by grind[linearise.go]
 | q+1,t,c,d,H,w,F,K=>by
  simp only[linearise.go];split
  ·next i B=>
   have B:=aI B;obtain⟨I,v,o,J,A⟩:=BQ.1 B;have z:i<c.size:=by omega
   have M:i∉d:=λh=>by have:=((w i).1 h).2;rw[v]at this;cases this
   have s:∀e∈o.after,binds m e=af->e.on∈d.reverse:=λe p u=>by
    rw[List.mem_reverse,w];have y:=A e p u;have:e.on<c.size:=by
     rcases de e.on c.size with D|D
     ·exact D
     ·simp[dp,Array.getElem?_eq_none D]at y
    exact⟨by omega,by simp only[dp,getElem?_eq_getElem this]at y⊢;exact y⟩
   refine PL m k q (t/_) (c.setIfInBounds i af) (i::d) (by simpa using H) ?_ (List.nodup_cons.2 ⟨M,F⟩) ?_
   ·intro j;rw[cO,w,Is _ z];constructor
    ·rintro(rfl|⟨l,f⟩)
     ·exact⟨I,by simp⟩
     ·exact⟨l,by split<;>simp_all⟩
    ·rintro⟨l,f⟩;split at f
     ·next p=>exact .inl p
     ·exact .inr ⟨l,f⟩
   ·intro g j r x N n e p u;rw[List.reverse_cons]at x;rcases List.append_eq_append_iff.1 x with⟨E,l,f⟩|⟨C,l,f⟩
    ·cases E with
     |nil=>
      simp only[dq,gY]at f;obtain⟨rfl,rfl⟩:=f;rw[J]at n;obtain rfl:=aC n;rw[l,cF];exact s e p u
     |cons a E=>
      simp only[dQ,gY]at f;obtain⟨_,f⟩:=f;have:=congrArg List.length f;simp at this
    ·cases C with
     |nil=>
      simp only[dq,gY]at f;obtain⟨rfl,rfl⟩:=f;rw[J]at n;obtain rfl:=aC n;have G:g=d.reverse:=by simpa using l.symm
      rw[G];exact s e p u
     |cons b C=>
      simp only[dQ,gY]at f;obtain⟨rfl,_⟩:=f;exact K g j C l N n e p u
  grind
theorem aas(m:iC)(b:Array aR)(f:∀a:Array Bool,a.size=b.size->(∃i,i<b.size/\a.getD i af=ak)->∃i,i<b.size/\may m b a i):
  ∀(c t:Nat)(a:Array Bool)(d:List Nat),a.size=b.size->(left b a).length<=c->(∀i,i<b.size->a.getD i af=af->i∈d)->
   ∀i,i<b.size->i∈linearise.go m b c t a d
 |0,t,a,d,q,x,A=>λi h=>by simp_all[linearise.go,left]
 | c+1,t,a,d,q,x,A=>by
  simp only[linearise.go];split
  ·next i k=>
   have k:=aI k;obtain⟨s,l,_⟩:=BQ.1 k;have g:i<a.size:=by omega
   refine aas m b f c (t/_) (a.setIfInBounds i af) (i::d) (by grind) ?_ ?_
   ·have o:∀j,j∈left b (a.setIfInBounds i af)->j∈left b a/\j≠i:=by
     intro j e;simp only[left,iR,eL,dt,Is _ g]at e⊢;split at e
     ·exact absurd e.2 (by simp)
     ·next r=>exact⟨e,r⟩
    have C:i∈left b a:=iR.2 ⟨eL.2 s,by rw[l];rfl⟩;have p:(left b (a.setIfInBounds i af)).Nodup:=List.Pairwise.filter _ List.nodup_range;have:(left b (a.setIfInBounds i af)).length<=((left b a).erase i).length:=by
     refine List.Nodup.length_le_of_subset p λj e=>?_;obtain⟨w,B⟩:=o j e;exact(List.mem_erase_of_ne B).2 w
    grind
   ·intro j e n;rw[Is _ g]at n
    grind
  ·next u=>
   intro i k;rw[List.mem_reverse]
   cases n:a.getD i af with
   |true=>grind
   |false=>
    obtain⟨D,y,z⟩:=f a q ⟨i,k,n⟩;have v:=BQ.2 ⟨y,z⟩
    grind[dP]
theorem PU(b:Array aR)(a:Array Bool):(left b a).length<=b.size:=by grind[left]
theorem Lo(m:iC)(a:Array aR)(t:Nat):
  (∀i,i∈linearise m a t->i<a.size)/\(linearise m a t).Nodup/\∀b i c,linearise m a t=b++i::c->∀o,a[i]?=aa o->∀e∈o.after,binds m e=af->e.on∈b:=by
 refine PL m a a.size t _ [] (by simp) (λi=>?_) List.nodup_nil (λb i c h=>by simp at h)
 simp_all
theorem aeq(m:iC)(a:Array aR)(t:Nat)(c:∀b:Array Bool,b.size=a.size->(∃i,i<a.size/\b.getD i af=ak)->∃i,i<a.size/\may m a b i):
  ∀i,i<a.size->i∈linearise m a t:=by
 refine aas m a c a.size t _ [] (by simp) (PU _ _) λi d e=>?_
 simp_all
def RF(a:Array aR):Prop:=∀i o,a[i]?=aa o->∀e∈o.after,e.on<i\/binds .any e=ak/\binds .text e=ak
theorem agi{p:Nat->Prop}[DecidablePred p]:∀(n:Nat),(∃i,i<n/\p i)->∃i,i<n/\p i/\∀j,j<i->¬p j
 |0,⟨_,h,_⟩=>absurd h (by omega)
 |n+1,h=>by
  by_cases c:∃i,i<n/\p i
  ·obtain⟨i,d,b,a⟩:=agi n c;exact⟨i,by omega,b,a⟩
  grind
theorem LD{m:iC}(g:∀i o,U[i]?=aa o->∀e∈o.after,binds m e=af->e.on<i):
  ∀a:Array Bool,a.size=U.size->(∃i,i<U.size/\a.getD i af=ak)->∃i,i<U.size/\may m U a i:=by
 intro a j b;obtain⟨i,c,d,h⟩:=agi U.size b;refine⟨i,c,d,U[i],getElem?_eq_getElem c,λe k f=>?_⟩
 grind
theorem PC{p:Nat->Prop}[DecidablePred p]:∀(L:List Nat),(∃i∈L,p i)->∃a i b,L=a++i::b/\p i/\∀j∈a,¬p j
 |[],⟨_,h,_⟩=>by cases h
 | x::L,h=>by
  by_cases d:p x
  ·exact⟨[],x,L,rfl,d,λj k=>by grind⟩
  ·obtain⟨i,c,e⟩:=h;rcases cO.1 c with rfl|c
   ·grind
   ·obtain⟨a,j,b,rfl,f,g⟩:=PC L ⟨i,c,e⟩
    grind
theorem XP{m:iC}(z:(linearise m U 0).length=U.size):
  ∀a:Array Bool,a.size=U.size->(∃i,i<U.size/\a.getD i af=ak)->∃i,i<U.size/\may m U a i:=by
 intro a x k;obtain⟨n,t,s⟩:=Lo m U 0;have f:∀i,i<U.size->i∈linearise m U 0:=by
  intro i d;refine fA λq=>?_;have g:(i::linearise m U 0).Nodup:=List.nodup_cons.2 ⟨q,t⟩;have:=List.Nodup.length_le_of_subset (l₂:=dL U.size) g λj b=>by
   rcases cO.1 b with rfl|b
   ·exact eL.2 d
   ·exact eL.2 (n j b)
  simp at this;omega
 obtain⟨i,d,r⟩:=k;obtain⟨o,j,h,c,v,y⟩:=PC (p:=λi=>a.getD i af=ak) _ ⟨i,f i d,r⟩;have b:j<U.size:=n j (by rw[c];simp);refine⟨j,b,v,U[j],getElem?_eq_getElem b,λe u l=>?_⟩;have w:=s o j h c _ (getElem?_eq_getElem b) e u l
 grind
theorem Bt(l:RF U)(v:departs U=af->(linearise .gc U 0).length=U.size)(g:Bool)(t:Nat):Mx U (schedule g U t):=by
 have b:∀(m:iC)(t:Nat),(∀a:Array Bool,a.size=U.size->(∃i,i<U.size/\a.getD i af=ak)->∃i,i<U.size/\may m U a i)->Mx U (linearise m U t):=by
  intro m t u;obtain⟨r,s,q⟩:=Lo m U t;exact⟨λi=>⟨r i,aeq m U t u i⟩,s,λp i n h o f e d c=>q p i n h o f e d (Wc c)⟩
 have k:∀i o,U[i]?=aa o->∀e∈o.after,binds .any e=af->e.on<i:=λi o f e d c=>by
  rcases l i o f e d with h|⟨h,_⟩
  all_goals grind
 have j:∀i o,U[i]?=aa o->∀e∈o.after,binds .text e=af->e.on<i:=λi o f e d c=>by
  rcases l i o f e d with h|⟨_,h⟩
  all_goals grind
 unfold schedule;split
 ·exact b _ _ (LD k)
 ·next w=>
  split
  ·exact b _ _ (LD j)
  ·refine b _ _ (XP (v ?_))
   grind
end Go.Ab
end
section
namespace Go.Ab
open Go
variable{j:Nat}{q:aR}{c:List ah}{v:ah}{h:aw}
section
variable {P:aO} {gl:Nat->Bool}
theorem An{e:ah->ah->Bool}(c:∀a b,e a b=af->a=b):∀{x y:List ah},Fu e x y=af->x=y
 |[],[],_=>rfl
 |[],_::_,h=>by grind[Fu]
 |_::_,[],h=>by grind[Fu]
 |a::x,b::y,h=>by
  simp only[Fu,bj]at h;rw[c a b h.1,An c h.2]
theorem tW:∀(d:Nat)(a b:ah),iz d a b=af->a=b
 |0,_,_,h=>by grind[iz]
 | d+1,a,b,h=>by
  have e:=tW d;have f:∀{x y:Array ah},Fu (iz d) x.toList y.toList=af->x=y:=λc=>fY (An e c);unfold iz at h;split at h
  ·simpa using h
  ·simp only[bj,decide_eq_true_eq]at h;rw[h.1,h.2]
  ·next x y=>
   simp only[decide_eq_true_eq]at h;have:x=y:=by
    obtain⟨x⟩:=x;obtain⟨y⟩:=y;congr 1;exact fY h
   rw[this]
  all_goals grind
structure HD(ops:Array aR)(bf:Nat->Nat->Bool):Prop where
 lt:∀j i,bf j i=af->i<j
 trans:∀k j i,bf k j=af->bf j i=af->bf k i=af
 YU:∀L,Mx ops L->∀pre j suf,L=pre++j::suf->∀i,bf j i=af->i∈pre
 names:∀(j:Nat)(o:aR)(t:Tmp),ops[j]?=aa o->Operand.tmp t∈o.op.operands->∀(i:Nat)(o':aR),ops[i]?=aa o'->o'.dst=aa t->i=j\/bf j i=af\/bf i j=af
 guards:∀(j:Nat)(o:aR)(i:Nat)(b:Bool),ops[j]?=aa o->o.guard=aa (i,b)->bf j i=af
 uniq:∀(i j:Nat)(o o':aR)(t:Tmp),ops[i]?=aa o->ops[j]?=aa o'->o.dst=aa t->o'.dst=aa t->i=j
abbrev RG:=List ah×aw×List (Nat×eE)
def One(P:aO)(gl:Nat->Bool)(cf:fT)(ops:Array aR)(bf:Nat->Nat->Bool)(base j:Nat)(o:aR)(s:RG)(e:sW)(a:RG):Prop:=
 match e with
 |.skip=>jN ops s.1 o=aa ak/\a=(lG s.1 o.dst undef,s.2.1,s.2.2)
 |.pure v=>jN ops s.1 o=aa af/\eW P (ev gl s.1) o=aa v/\a=(lG s.1 o.dst v,s.2.1,s.2.2)
 |.read v=>jN ops s.1 o=aa af/\eB P (ev gl s.1) o s.2.1=aa v/\a=(lG s.1 o.dst v,s.2.1,s.2.2)
 |.alloc B v=>jN ops s.1 o=aa af/\(∃f,dz P (ev gl s.1) o=aa (B,f)/\v=f (base+j))/\a=(lG s.1 o.dst v,s.2.1,(j,B)::s.2.2)
 | .yk v b=>jN ops s.1 o=aa af/\(∃u,gM P cf (ev gl s.1) o (bS s.2.1 base (s.2.2.filter λp=>bf j p.1))=aa (v,u)/\b=u.app (bS s.2.1 base (s.2.2.filter λp=>bf j p.1)))/\
   a=(lG s.1 o.dst v,b,s.2.2.filter λp=> !bf j p.1)
theorem yZ{cf:fT}{ops:Array aR}{bf:Nat->Nat->Bool}{base:Nat}:∀(a:List aR)(j:Nat)(s:RG)(b:List (List ah×sW))(d:RG),
  ij P gl cf ops bf base a j s.1 s.2.1 s.2.2=aa (b,d)->∃(st:Nat->RG)(en:Nat->sW),st j=s/\st (j+a.length)=d/\b.length=a.length/\
   ∀i o,a[i]?=aa o->One P gl cf ops bf base (j+i) o (st (j+i)) (en (j+i)) (st (j+i+1))/\b[i]?=aa ((st (j+i)).1,en (j+i))
 |[],j,s,b,d,h=>by
  simp only[ij,bc,bA]at h;obtain⟨rfl,rfl⟩:=h;exact⟨λ_=>s,λ_=> .skip,rfl,rfl,rfl,λi o A=>by grind⟩
 | o::a,j,s,b,d,h=>by
  have k:∀(e:sW)(m:RG)(r:List (List ah×sW)×RG),One P gl cf ops bf base j o s e m->ij P gl cf ops bf base a (j+1) m.1 m.2.1 m.2.2=aa r->((s.1,e)::r.1,r.2)=(b,d)->
    ∃(st:Nat->RG)(en:Nat->sW),st j=s/\st (j+(o::a).length)=d/\b.length=(o::a).length/\
     ∀i q,(o::a)[i]?=aa q->One P gl cf ops bf base (j+i) q (st (j+i)) (en (j+i)) (st (j+i+1))/\b[i]?=aa ((st (j+i)).1,en (j+i)):=by
   intro e m r t c p;obtain⟨st,en,x,y,w,z⟩:=yZ a (j+1) m r.1 r.2 c;simp only[bA]at p;obtain⟨rfl,rfl⟩:=p;refine⟨λi=>if i=j then s else st i,λi=>if i=j then e else en i,by simp,?_,by grind,?_⟩
   ·grind
   ·grind
  simp only[ij]at h;split at h
  ·cases h
  ·next n=>
   obtain⟨r,c,g⟩:=bq.1 h;exact k .skip (lG s.1 o.dst undef,s.2.1,s.2.2) r ⟨n,rfl⟩ c g
  ·next n=>
   split at h
   ·next v l=>
    obtain⟨r,c,g⟩:=bq.1 h;exact k (.pure v) (lG s.1 o.dst v,s.2.1,s.2.2) r ⟨n,l,rfl⟩ c g
   ·split at h
    ·next v l=>
     obtain⟨r,c,g⟩:=bq.1 h;exact k (.read v) (lG s.1 o.dst v,s.2.1,s.2.2) r ⟨n,l,rfl⟩ c g
    ·split at h
     ·next B f l=>
      obtain⟨r,c,g⟩:=bq.1 h;exact k (.alloc B (f (base+j))) (lG s.1 o.dst (f (base+j)),s.2.1,(j,B)::s.2.2) r ⟨n,⟨f,l,rfl⟩,rfl⟩ c g
     ·split at h
      ·next v u l=>
       obtain⟨r,c,g⟩:=bq.1 h;exact k (.yk v _) (lG s.1 o.dst v,_,_) r ⟨n,⟨u,l,rfl⟩,rfl⟩ c g
      grind
def sW.jQ:sW->Bool
 |.yk .. =>af
 |_=>ak
structure Uz(P:aO)(gl:Nat->Bool)(cf:fT)(ops:Array aR)(bf:Nat->Nat->Bool)(base:Nat)(st:Nat->RG)(en:Nat->sW):Prop where
 one:∀i o,ops[i]?=aa o->One P gl cf ops bf base i o (st i) (en i) (st (i+1))
 chain:∀e₁ e₂,e₁<e₂->e₂<ops.size->(en e₁).jQ=af->(en e₂).jQ=af->bf e₂ e₁=af
 reads:∀j o v,ops[j]?=aa o->en j = .read v->∀c,c<=ops.size->(∀e,e<c->(en e).jQ=af->bf e j=ak)->(∀e,c<=e->e<ops.size->(en e).jQ=af->bf j e=ak)->
  eB P (ev gl (st j).1) o (st c).2.1=aa v
section
variable {cf:fT} {ops:Array aR} {bf:Nat->Nat->Bool} {base:Nat} {st:Nat->RG} {en:Nat->sW}
theorem One.heap{s a:RG}{e:sW}(h:One P gl cf ops bf base j q s e a):(∀v b,e = .yk v b->a.2.1=b)/\(e.jQ=ak->a.2.1=s.2.1):=by
 cases e<;>simp only[One]at h
 all_goals grind[sW.jQ]
theorem One.tm{s a:RG}{e:sW}(h:One P gl cf ops bf base j q s e a):a.1=lG s.1 q.dst e.val:=by
 cases e<;>simp only[One]at h
 ·rw[h.2];rfl
 ·rw[h.2.2];rfl
 ·rw[h.2.2];rfl
 ·rw[h.2.2];rfl
 ·rw[h.2.2];rfl
theorem wM(b:∀k j i,bf k j=af->bf j i=af->bf k i=af):∀(a:List (List ah×sW))(i x:Nat)(c:aw),chained bf ((x,c)::ju a i)=af->
  ∀k r,a[k]?=aa r->r.2.jQ=af->bf (i+k) x=af
 |[],i,x,c,h,k,r,f,d=>by grind
 | (l,e)::a,i,x,c,h,k,r,f,d=>by
  cases e with
  | yk v g=>
   simp only[ju,chained,bj]at h
   cases k with
   |zero=>grind
   |succ k=>
    have:=wM b a (i+1) i g h.2 k r (by simpa using f) d
    grind
  | _=>
   simp only[ju]at h
   cases k with
   |zero=>grind[sW.jQ]
   |succ k=>
    have:=wM b a (i+1) x c h k r (by simpa using f) d
    grind
theorem MJ{x:Nat×aw}{l:List (Nat×aw)}(h:chained bf (x::l)=af):chained bf l=af:=by
 cases l with
 |nil=>rfl
 |cons y l=>simp_all[chained]
theorem Bf(g:∀k j i,bf k j=af->bf j i=af->bf k i=af):∀(c:List (List ah×sW))(i:Nat),chained bf (ju c i)=af->
  ∀b a f d,b<a->c[b]?=aa f->c[a]?=aa d->f.2.jQ=af->d.2.jQ=af->bf (i+a) (i+b)=af
 |[],i,h,b,a,f,d,m,l,p,o,q=>by grind
 | (t,e)::c,i,h,b,a,f,d,m,l,p,o,q=>by
  cases a with
  |zero=>omega
  | succ a=>
   have n:c[a]?=aa d:=by simpa using p
   cases b with
   |zero=>
    simp only[List.getElem?_cons_zero,bc]at l;subst l
    cases e with
    |yk v r=>grind[wM,ju]
    |_=>grind[sW.jQ]
   | succ b=>
    have s:chained bf (ju c (i+1))=af:=by
     cases e with
     |yk v r=>simp only[ju]at h;exact MJ h
     |_=>simpa only[ju]using h
    have:=Bf g c (i+1) s b a f d (by omega) (by simpa using l) n o q
    grind
theorem zP(a:ox P gl q c v h=af):eB P (ev gl c) q h=aa v:=by grind[tW,ox]
theorem tK{j:Nat}{o:aR}{w:List ah}{v:ah}{N:Nat}(C:j<N)(m:∀c,c<=N->(∀e,j<=e->e<c->(en e).jQ=ak)->(∀e,c<=e->e<j->(en e).jQ=ak)->eB P (ev gl w) o (st c).2.1=aa v):
  ∀(a:List (List ah×sW))(i:Nat)(b:Bool),(∀k r,a[k]?=aa r->r.2=en (i+k))->i+a.length=N->
  (∀k,i<=k->k<i+a.length->(∀v s,en k = .yk v s->(st (k+1)).2.1=s)/\((en k).jQ=ak->(st (k+1)).2.1=(st k).2.1))->
  (b=af->∀e,j<=e->e<i->(en e).jQ=ak)->
  qR P gl bf j o w v (st i).2.1 (ju a i) b=af->∀c,i<=c->c<=i+a.length->(∀e,i<=e->e<c->(en e).jQ=af->bf e j=ak)->
  (∀e,c<=e->e<i+a.length->(en e).jQ=af->bf j e=ak)->eB P (ev gl w) o (st c).2.1=aa v
 |[],i,b,q,A,g,H,h,c,F,B,z,t=>by
  simp only[ju,qR,or_eq_true]at h;simp only[List.length_nil]at B A
  grind[zP]
 | (D,e)::a,i,b,q,A,g,H,h,c,F,B,z,t=>by
  simp only[bP]at B t g A;have G:e=en i:=q 0 (D,e) rfl;have n:∀k r,a[k]?=aa r->r.2=en (i+1+k):=λk r O=>by
   rw[show i+1+k=i+(k+1) by omega];exact q (k+1) r (by grind)
  have l:∀k,i+1<=k->k<i+1+a.length->_:=λk K I=>g k (by omega) (by omega)
  cases J:e.jQ with
  | true=>
   cases e with
   | yk u s=>
    simp only[ju,qR,bj,or_eq_true]at h;have x:=(g i (by omega) (by omega)).1 u s G.symm;by_cases E:c=i
    ·grind[blt_eq,zP]
    ·rcases h.2 with p|p
     ·grind
     ·rw[<-x]at p;refine tK C m a (i+1) _ n (by omega) l ?_ p c (by omega) (by omega) (λe f d=>z e (by omega) d) (λe f d=>t e f (by omega))
      grind[blt_eq]
   |_=>grind[sW.jQ]
  | false=>
   have x:=(g i (by omega) (by omega)).2 (by grind);have p:qR P gl bf j o w v (st (i+1)).2.1 (ju a (i+1)) b=af:=by
    rw[x]
    cases e with
    |yk u s=>grind[sW.jQ]
    |_=>grind[ju]
   have y:b=af->∀e,j<=e->e<i+1->(en e).jQ=ak:=λM L f d=>by grind
   by_cases E:c=i
   ·subst E;rw[<-x];exact tK C m a (c+1) b n (by omega) l y p (c+1) (by omega) (by omega) (λe f d=>by omega) (λe f d=>t e (by omega) (by omega))
   ·exact tK C m a (i+1) b n (by omega) l y p c (by omega) (by omega) (λe f d=>z e (by omega) d) (λe f d=>t e f (by omega))
theorem Br{f:aw}{d:List (Nat×aw)}:∀(c:List aR)(a:List (List ah×sW))(j:Nat),mJ P gl bf f d c a j=af->
  ∀(i:Nat)(o:aR)(b:List ah)(v:ah),c[i]?=aa o->a[i]?=aa (b,.read v)->qR P gl bf (j+i) o b v f d af=af
 |[],_,_,_,i,o,b,v,g,_=>by grind
 |_::_,[],_,_,i,o,b,v,_,k=>by grind
 | n::c,(m,e)::a,j,h,i,o,b,v,g,k=>by
  have l:mJ P gl bf f d c a (j+1)=af:=by
   cases e<;>simp only[mJ,bj]at h<;>first|exact h|grind
  cases i with
  |zero=>simp_all[mJ]
  |succ i=>
   have:=Br c a (j+1) l i o b v (by simpa using g) (by simpa using k)
   grind
theorem Pl(S:HD ops bf){B z:List ah}{h N:aw}(p:Am P gl cf ops bf B h=aa (z,N)):
  ∃st en,Uz P gl cf ops bf h.ax st en/\st 0=(B,{ h with ax:=h.ax+ops.size },[])/\(st ops.size).1=z/\N=bS (st ops.size).2.1 h.ax (st ops.size).2.2:=by
 unfold Am at p;split at p
 ·next f F T V W=>
  split at p
  ·next s=>
   simp only[bj]at s;simp only[bc,bA]at p;obtain⟨rfl,rfl⟩:=p;obtain⟨st,en,L,q,H,g⟩:=yZ (P:=P) (gl:=gl) (cf:=cf) ops.toList 0 (B,{ h with ax:=h.ax+ops.size },[]) f (F,T,V) W;simp only[bO,gK,getElem?_toList]at q H g;refine⟨st,en,⟨λi o n=>(g i o n).1,?_,?_⟩,L,by rw[q],by rw[q]⟩
   ·intro x w b K O Q;have:=Bf S.trans f 0 s.1 x w _ _ b (g x _ (getElem?_eq_getElem (by omega))).2 (g w _ (getElem?_eq_getElem K)).2 O Q;simpa using this
   ·intro j o v n A c X J G;have u:=(g j o n).2;rw[A]at u;have C:=Br ops.toList f 0 s.2 j o _ v (by simpa using n) u;rw[bO]at C;have U:(st 0).2.1={ h with ax:=h.ax+ops.size }:=by rw[L]
    rw[<-U]at C;have m:∀c d,c+d<=ops.size->(∀e,c<=e->e<c+d->(en e).jQ=ak)->(st (c+d)).2.1=(st c).2.1:=by
     intro c d
     induction d with
     |zero=>intros;rfl
     |succ d R=>
      intro Z D;have:=((g (c+d) _ (getElem?_eq_getElem (by omega))).1).heap.2 (D (c+d) (by omega) (by omega));rw[show c+(d+1)=c+d+1 by omega,this];exact R (by omega) λe a t=>D e a (by omega)
    have I:j<ops.size:=(Array.getElem?_eq_some_iff.1 n).1;have l:=(g j o n).1;rw[A]at l;simp only[One]at l;refine tK (st:=st) (en:=en) I ?_ f 0 af (λk r y=>by
      have b:k<ops.size:=by rw[<-H];exact(List.getElem?_eq_some_iff.1 y).1
      have:=(g k _ (getElem?_eq_getElem b)).2;rw[this]at y;obtain rfl:=aC y;simp) (by omega)
     (λk _ y=>by
      have b:k<ops.size:=by omega
      exact((g k _ (getElem?_eq_getElem b)).1).heap) (λ_ e _ he=>by omega) C c (by omega) (by omega) (λe _=>J e) (λe a t=>G e a (by omega))
    intro c X M E;rcases de j c with b|Y
    ·have:=m j (c-j) (by omega) λe a t=>M e a (by omega);rw[show j+(c-j)=c by omega]at this;rw[this];exact l.2.1
    ·have:=m c (j-c) (by omega) λe a t=>E e a (by omega);rw[show c+(j-c)=j by omega]at this;rw[<-this];exact l.2.1
  ·cases p
 grind
end
end
variable{x:List Nat}{J:gR}
section
variable {P:aO} {gl:Nat->Bool}
theorem uk{h:aw}{base:Nat}:∀(R:List (Nat×eE)),(∀i B a,(i,B)∈R->(i,a)∈R->B=a)->(∀i B,(i,B)∈R->h.get (base+i)=none)->
  ∀k B,(bS h base R).get k=aa B↔h.get k=aa B\/ ∃i,k=base+i/\(i,B)∈R
 |[],_,_,k,B=>by simp[bS]
 |(j,c)::R,e,d,k,B=>by
  have g:=uk R (λi B a b f=>e i B a (cJ _ b) (cJ _ f)) (λi B b=>d i B (cJ _ b)) k B;simp only[bS,aw.bZ]
  grind
theorem mu{h:aw}{base:Nat}:∀(R:List (Nat×eE)),(bS h base R).ax=h.ax
 |[]=>rfl
 |_::R=>mu R
theorem qe(a:List ah)(d:Option Tmp)(v:ah):(lG a d v).length=a.length:=by cases d<;>simp[lG]
theorem NR{d:Option Tmp}{t:Tmp}(h:d≠aa t):(lG c d v)[t]?=c[t]?:=by
 cases d with
 |none=>rfl
 |some d=>simp_all[lG]
theorem LF{t:Tmp}(h:t<c.length):(lG c (aa t) v)[t]?=aa v:=by grind[lG]
section
variable {cf:fT} {ops:Array aR} {bf:Nat->Nat->Bool} {base:Nat} {st:Nat->RG} {en:Nat->sW}
theorem Uz.rR(a:Uz P gl cf ops bf base st en):∀i,i<=ops.size->(st i).1.length=(st 0).1.length
 |0,_=>rfl
 |i+1,h=>by
  rw[(a.one i _ (getElem?_eq_getElem (by omega))).tm,qe];exact a.rR i (by omega)
theorem Uz.Ud(e:Uz P gl cf ops bf base st en)(t:Tmp):∀i,i<=ops.size->(∀(b:Nat)(a:aR),b<i->ops[b]?=aa a->a.dst≠aa t)->(st i).1[t]?=(st 0).1[t]?
 |0,_,_=>rfl
 |i+1,h,c=>by
  have d:=getElem?_eq_getElem (xs:=ops) (i:=i) (by omega);rw[(e.one i _ d).tm,NR (c i _ (by omega) d)];exact e.Ud t i (by omega) λb a g f=>c b a (by omega) f
theorem Uz.Of(j:HD ops bf)(e:Uz P gl cf ops bf base st en){t:Tmp}(l:t<(st 0).1.length){b:Nat}{d:aR}(a:ops[b]?=aa d)(f:d.dst=aa t):∀i,i<=ops.size->b<i->(st i).1[t]?=aa (en b).val
 |0,_,h=>absurd h (by omega)
 |i+1,h,m=>by
  have c:=getElem?_eq_getElem (xs:=ops) (i:=i) (by omega);rw[(e.one i _ c).tm];by_cases k:b=i
  ·subst k;rw[a]at c;obtain rfl:=aC c;rw[f,LF (by rw[e.rR _ (by omega)];omega)]
  ·rw[NR λg=>k (j.uniq b i d _ t a c f g)];exact e.Of j l a f i (by omega) (by omega)
theorem Uz.E1(b:Uz P gl cf ops bf base st en){c:Nat}:∀(d:Nat),c+d<=ops.size->(∀e,c<=e->e<c+d->(en e).jQ=ak)->(st (c+d)).2.1=(st c).2.1
 |0,_,_=>rfl
 |d+1,h,a=>by
  rw[show c+(d+1)=c+d+1 by omega,(b.one (c+d) _ (getElem?_eq_getElem (by omega))).heap.2 (a _ (by omega) (by omega))];exact b.E1 d (by omega) λe f g=>a e f (by omega)
def Gp(bf:Nat->Nat->Bool)(en:Nat->sW)(c i:Nat)(B:eE):Prop:=(∃v,en i = .alloc B v)/\∀e,e<c->(en e).jQ=af->bf e i=ak
theorem Uz.ahI(q:HD ops bf)(r:Uz P gl cf ops bf base st en)(u:(st 0).2.2=[]):∀m,m<=ops.size->∀i B,(i,B)∈(st m).2.2↔i<m/\Gp bf en m i B
 |0,_,i,B=>by grind
 | m+1,h,i,B=>by
  have l:=r.ahI q u m (by omega) i B;have a:=r.one m _ (getElem?_eq_getElem (by omega));have f:(en m).jQ=ak->(∀B v,en m≠ .alloc B v)->(i<m+1/\Gp bf en (m+1) i B↔i<m/\Gp bf en m i B):=λy x=>by
   constructor
   ·rintro⟨k,⟨v,c⟩,d⟩;refine⟨?_,⟨v,c⟩,λe j=>d e (by omega)⟩
    grind
   ·rintro⟨k,c,d⟩;refine⟨by omega,c,λe j g=>?_⟩
    grind
  cases b:en m with
  |skip=>
   rw[b]at a;simp only[One]at a;rw[a.2,l,f (by rw[b];rfl) (by grind)]
  |pure v=>
   rw[b]at a;simp only[One]at a;rw[a.2.2,l,f (by rw[b];rfl) (by grind)]
  |read v=>
   rw[b]at a;simp only[One]at a;rw[a.2.2,l,f (by rw[b];rfl) (by grind)]
  | alloc t v=>
   rw[b]at a;simp only[One]at a;rw[a.2.2];simp only[cO,bA];rw[l];constructor
   ·rintro(⟨rfl,rfl⟩|⟨k,c,d⟩)
    ·refine⟨by omega,⟨v,b⟩,λe j _=>?_⟩
     cases s:bf e i with
     |false=>rfl
     |true=>have:=q.lt _ _ s;omega
    ·refine⟨by omega,c,λe j g=>?_⟩;rcases de e m with n|n
     ·grind
     ·obtain rfl:e=m:=by omega
      rw[b]at g;cases g
   ·rintro⟨k,⟨o,c⟩,d⟩;rcases de i m with n|n
    ·exact .inr ⟨n,⟨o,c⟩,λe j=>d e (by omega)⟩
    grind
  | yk v z=>
   rw[b]at a;simp only[One]at a;rw[a.2.2];simp only[iR,dt];rw[l];constructor
   ·rintro⟨⟨k,c,d⟩,n⟩;refine⟨by omega,c,λe j g=>?_⟩
    grind
   ·rintro⟨k,⟨o,c⟩,d⟩;have p:i<m:=by
     rcases de i m with w|w
     ·omega
     ·grind
    exact⟨⟨p,⟨o,c⟩,λe j=>d e (by omega)⟩,d m (by omega) (by rw[b];rfl)⟩
def Zg(ops:Array aR)(en:Nat->sW)(b:List ah)(S:List Nat)(d:gR)(a:Act):Prop:=
 a.tmps.size=b.length/\∀(t:Tmp)(c:ah),a.tmps[t]?=aa c->(∀(i:Nat)(o:aR),i∈S->ops[i]?=aa o->o.dst=aa t->cA d (en i).val c)/\
  ((∀(i:Nat)(o:aR),i∈S->ops[i]?=aa o->o.dst≠aa t)->∀v,b[t]?=aa v->cA d v c)
theorem Zg.mono{b:gR}{a:Act}(h:Zg ops en c x J a)(d:J.le b):Zg ops en c x b a:=
 ⟨h.1,λt j g=>⟨λi o e f k=>((h.2 t j g).1 i o e f k).mono d,λe v f=>((h.2 t j g).2 e v f).mono d⟩⟩
theorem Zg.put(r:HD ops bf){c:List ah}{S:List Nat}{g:gR}{a:Act}(h:Zg ops en c S g a){j:Nat}{o:aR}(p:ops[j]?=aa o){v':ah}(v:cA g (en j).val v'):Zg ops en c (S++[j]) g (a.put o.dst v'):=by
 refine⟨by cases e:o.dst<;>simp[Act.put,h.1],λt u b=>?_⟩;by_cases e:o.dst=aa t
 ·have k:u=v':=by
   rw[e]at b;simp only[Act.put,Array.getElem?_setIfInBounds,if_true]at b;split at b
   ·exact(aC b).symm
   ·cases b
  subst k;refine⟨λi s _ n q=>?_,λl=>absurd e (l j o (by simp) p)⟩;obtain rfl:=r.uniq i j s o t n p q e;omega
 ·have m:a.tmps[t]?=aa u:=by
   cases f:o.dst with
   |none=>rw[f]at b;exact b
   |some d=>
    rw[f]at b e;simp only[Act.put,Array.getElem?_setIfInBounds]at b;rw[iN (by rintro rfl;exact e rfl)]at b;exact b
  obtain⟨w,n⟩:=h.2 t u m
  grind
theorem Zg.ali(d:HD ops bf)(y:Uz P gl cf ops bf base st en){L l m:List Nat}{j:Nat}(p:Mx ops L)(q:L=l++j::m){r:gR}{a:Act}(h:Zg ops en (st 0).1 l r a)(N:Gl gl r){o:aR}(w:ops[j]?=aa o):
  ∀x∈o.op.operands,cA r (ev gl (st j).1 x) (a.eval x):=by
 have O:j<ops.size:=(Array.getElem?_eq_some_iff.1 w).1;intro x C
 cases x with
 | tmp t=>
  simp only[ev,Act.eval];by_cases B:t<(st 0).1.length
  ·have k:t<a.tmps.size:=by rw[h.1];exact B
   obtain⟨D,I⟩:=h.2 t _ (getElem?_eq_getElem k);rw[dp,getElem?_eq_getElem k,getD_some];by_cases E:∃(i:Nat)(e:aR),i∈l/\ops[i]?=aa e/\e.dst=aa t
   ·obtain⟨i,e,F,b,n⟩:=E;have s:i<j:=by
     rcases d.names j o t w C i e b n with rfl|c|c
     ·have:=p.nodup;rw[q]at this;exact absurd rfl (List.nodup_append.1 this |>.2.2 i F i cH)
     ·exact d.lt _ _ c
     ·obtain⟨K,G,rfl⟩:=List.append_of_mem F;have:=d.YU L p K i (G++j::m) (by rw[q];simp) j c;have u:=p.nodup;rw[q]at u;exact absurd rfl ((List.nodup_append.1 u).2.2 j (dY _ this) j cH)
    rw[gD,y.Of d B b n j (by omega) s]
    grind
   ·have H:=y.Ud t j (by omega) λA e s b n=>by
     rcases d.names j o t w C A e b n with rfl|c|c
     ·omega
     ·exact E ⟨A,e,d.YU L p l j m q A c,b,n⟩
     ·have:=d.lt _ _ c;omega
    grind
  ·have k:¬t<a.tmps.size:=by rw[h.1];exact B
   rw[gD,getElem?_eq_none (by rw[y.rR j (by omega)];grind),dp,Array.getElem?_eq_none (Nat.le_of_not_lt k)];exact .undef r
 |const v=>
  simp only[ev,Act.eval];split
  ·next z=>exact .uy z
  ·exact .rj v
 | global g=>
  simp only[ev,Act.eval];split
  ·next z=>
   obtain⟨R,D,I,Q,J⟩:=N g z;have:=cA.ptr (i:=0) D J
   grind
  ·exact .rj _
 |func f=>
  simp only[ev,Act.eval];exact .func rfl rfl rfl (λi v M h=>by grind) (λi v M h=>by grind)
theorem Zg.wanted(m:HD ops bf)(x:Uz P gl cf ops bf base st en){L k r:List Nat}{j:Nat}(F:Mx ops L)(G:L=k++j::r){D:gR}{a:Act}(h:Zg ops en (st 0).1 k D a){o:aR}(A:ops[j]?=aa o){b:Bool}
  (e:jN ops (st j).1 o=aa b):Region.wanted o (yielded ops a.tmps)=b:=by
 have J:j<ops.size:=(Array.getElem?_eq_some_iff.1 A).1;unfold jN at e;unfold Region.wanted;split at e
 ·grind
 ·next i f C=>
  rw[C];simp only[yielded];have y:=m.guards j o i f A C;have I:=m.YU L F k j r G i y;split at e
  ·next d B=>
   rw[B];simp only[bind_some];obtain⟨E,q,p⟩:=Option.bind_eq_some_iff.1 B;have g:∀v,(st j).1[d]?=aa v->v=(en i).val/\∃n,a.tmps[d]?=aa n/\cA D v n:=by
    intro v u;have s:d<(st 0).1.length:=by rw[<-x.rR j (by omega)];exact(List.getElem?_eq_some_iff.1 u).1
    have t:d<a.tmps.size:=by rw[h.1];exact s
    have:=x.Of m s q p j (by omega) (m.lt _ _ y);rw[this]at u;obtain rfl:=aC u;exact⟨rfl,_,getElem?_eq_getElem t,(h.2 d _ (getElem?_eq_getElem t)).1 i E I q p⟩
   split at e
   ·next H c=>
    obtain⟨_,n,l,w⟩:=g _ (Lk c);rw[w.qH]at l;rw[l];simp only[bc]at e;subst e
    cases H<;>cases f<;>rfl
   ·next M c=>
    simp only[bc]at e;subst e;rcases It c with c|c
    ·obtain⟨_,n,l,w⟩:=g _ c;obtain⟨K,rfl,_⟩:=w.Aq;rw[l];rfl
    ·have z:a.tmps[d]?=none:=Array.getElem?_eq_none (by rw[h.1,<-x.rR j (by omega)];exact List.getElem?_eq_none_iff.1 c);rw[z];rfl
   ·cases e
  grind
end
end
variable{n:Nat}{W:aU}{r:bh->ah}{i:Nat}{I:eE}
section
variable {β:gR} {P:aO} {gl:Nat->Bool}
theorem E9{r:Option Nat}{a:Act}{w:aU}(d:∀c,q.op≠ .defer c)(b:(execOp a.eval q).run P w = .ok (.value v) W){next:Act->aU->Prop}{Q:Exit->Act->aU->Prop}
  (h:next (a.put q.dst v) W):q.wpIn (qG r) n P a w next Q:=by
 refine⟨λ_ _=>trivial,?_⟩;rw[Oper.semAt_eq _ _ _ d,b];exact h
theorem Z4(A:jJ P){cf:fT}(s:vI P gl cf){r:Option Nat}{n:Nat}{z:bh->ah}{a:Act}{h:aw}{w:aU}{o:aR}{v:ah}{u:dJ}(q:pP β h w)(C:Gl gl β)(k:∀x,cA β (z x) (a.eval x))
  (j:gM P cf z o h=aa (v,u)) (next:Act->aU->Prop) (Q:Exit->Act->aU->Prop)
  (l:∀i d b,Step β h w b (u.app h) d->cA b v i->next (a.put o.dst i) d):o.wpIn (qG r) n P a w next Q:=by
 refine⟨λ_ _=>trivial,?_⟩;have m:∀c,o.op≠ .defer c:=by
  intro c g;simp[gM,g]at j
 rw[Oper.semAt_eq _ _ _ m];by_cases g:ep o=ak
 ·obtain⟨i,d,b,e,t,p⟩:=Ly k g q j;rcases e with e|⟨e,rfl⟩
  ·rw[e];exact l i d b t p
  ·rw[e];exact l undef d b t p
 ·unfold ep at g;split at g
  ·next f B D y=>
   simp only[gM,y]at j;exact O9 A s y q C k j next Q l
  grind
open Classical in
noncomputable def only(o:aR)(a:bh->ah):bh->ah:=λx=>if x∈o.op.operands then a x else rj
theorem Hd:∀x∈q.op.operands,r x=only q r x:=λx a=>by grind[only]
theorem abl{a:bh->ah}(h:∀x∈q.op.operands,cA β (r x) (a x)):∀x,cA β (only q r x) (a x):=λx=>by
 unfold only;split
 ·grind
 ·exact .rj _
section
variable {cf:fT} {ops:Array aR} {bf:Nat->Nat->Bool} {st:Nat->RG} {en:Nat->sW}
structure Inv(ops:Array aR)(bf:Nat->Nat->Bool)(st:Nat->RG)(en:Nat->sW)(β₀:gR)(h:aw)(w₀:aU)(a₀:Act)(pre:List Nat)(β:gR)(w:aU)(a:Act)(c:Nat)(R:List (Nat×eE)):Prop where
 le:c<=ops.size
 Kd:∀e,e<ops.size->(en e).jQ=af->(e∈pre↔e<c)
 mem:∀i B,(i,B)∈R↔i∈pre/\Gp bf en c i B
 step:Step β₀ h w₀ β (bS (st c).2.1 h.ax R) w
 room:h.ax+ops.size<=(st c).2.1.ax
 Qn:∀i B,i<ops.size->(st c).2.1.get (h.ax+i)=aa B->∃e,e<c/\(en e).jQ=af/\bf e i=af
 free:∀i,i<ops.size->i∉pre->(∃B v,en i = .alloc B v)->β (h.ax+i)=none
 Y6:Zg ops en (st 0).1 pre β a
 dfs:a.defers=a₀.defers
theorem Gp.aea{c:Nat}{a:eE}(h:Gp bf en c i I)(b:Gp bf en c i a):I=a:=by
 obtain⟨v,d⟩:=h.1;obtain⟨f,e⟩:=b.1
 grind
variable {β₀:gR} {h:aw} {w₀:aU} {a₀:Act} {pre:List Nat} {w:aU} {a:Act} {c:Nat} {R:List (Nat×eE)}
theorem Inv.none_(b:Inv ops bf st en β₀ h w₀ a₀ pre β w a c R){i:Nat}{B:eE}(j:i<ops.size)(l:Gp bf en c i B):(st c).2.1.get (h.ax+i)=none:=by
 cases m:(st c).2.1.get (h.ax+i)with
 |none=>rfl
 |some k=>
  obtain⟨e,f,g,d⟩:=b.Qn i k j m;rw[l.2 e f g]at d;grind
theorem Inv.get(b:Inv ops bf st en β₀ h w₀ a₀ pre β w a c R)(e:∀i∈pre,i<ops.size)(k:Nat)(B:eE):
  (bS (st c).2.1 h.ax R).get k=aa B↔(st c).2.1.get k=aa B\/ ∃i,k=h.ax+i/\(i,B)∈R:=
 uk R (λi B g d f=>((b.mem i B).1 d).2.aea ((b.mem i g).1 f).2) (λi B d=>b.none_ (e i ((b.mem i B).1 d).1) ((b.mem i B).1 d).2) k B
theorem Inv.sub(d:Inv ops bf st en β₀ h w₀ a₀ pre β w a c R)(b:∀i∈pre,i<ops.size):pP β (st c).2.1 w:=
 d.step.vH.sub (mu R).symm λk B e=>(d.get b k B).2 (.inl e)
theorem Inv.calm(n:HD ops bf)(b:Inv ops bf st en β₀ h w₀ a₀ pre β w a c R){j:Nat}{o:aR}(q:ops[j]?=aa o)(s:(en j).jQ=ak)(r:∀B v,en j≠ .alloc B v){g:ah}(k:cA β (en j).val g):
  Inv ops bf st en β₀ h w₀ a₀ (pre++[j]) β w (a.put o.dst g) c R where
 le:=b.le
 Kd:=λe p l=>by
  rw[bH,b.Kd e p l]
  grind
 mem:=λi B=>by
  rw[b.mem,bH];refine⟨λ⟨d,f⟩=>⟨.inl d,f⟩,λ⟨d,f⟩=>⟨?_,f⟩⟩;rcases d with d|d
  ·omega
  ·simp only[aX]at d;subst d;obtain⟨v,k⟩:=f.1
   grind
 step:=b.step
 room:=b.room
 Qn:=b.Qn
 free:=λi d f=>b.free i d λm=>f (dY _ m)
 Y6:=b.Y6.put n q k
 dfs:=(put_defers a o.dst g).trans b.dfs
theorem Pm(hN:jJ P)(y9:vI P gl cf)(z:HD ops bf)(A:Uz P gl cf ops bf h.ax st en)(x8:(st 0).2.2=[]){L:List Nat}(C:Mx ops L){r:Option Nat}{n:Nat}{Q:Exit->Act->aU->Prop}(x6:Gl gl β₀)
  (hk:∀a' w' I,Step β₀ h w₀ I (bS (st ops.size).2.1 h.ax (st ops.size).2.2) w'->dE I (st ops.size).1 a'.tmps.toList->a'.defers=a₀.defers->Q .normal a' w'):
  ∀(J pre:List Nat)(β:gR)(w:aU)(a:Act)(c:Nat)(R:List (Nat×eE)),L=pre++J->Inv ops bf st en β₀ h w₀ a₀ pre β w a c R->wpOpsIn (qG r) n P ops Q J a w
 | [],pre,β,w,a,c,R,O,d=>by
  rw[cF]at O;subst O;have E:∀i∈L,i<ops.size:=λi hi=>(C.mem i).1 hi;have M:∀e,c<=e->e<ops.size->(en e).jQ=ak:=λe b g=>by
   cases x3:(en e).jQ with
   |false=>rfl
   |true=>have:=(d.Kd e g x3).1 ((C.mem e).2 g);omega
  have u1:=d.le;have W:(st ops.size).2.1=(st c).2.1:=by
   have:=A.E1 (c:=c) (ops.size-c) (by omega) λe b g=>M e b (by omega);rwa[show c+(ops.size-c)=ops.size by omega]at this
  have y5:∀i B,Gp bf en ops.size i B↔Gp bf en c i B:=λi B=>by
   refine⟨λhp=>⟨hp.1,λe b=>hp.2 e (by omega)⟩,λhp=>⟨hp.1,λe b g=>hp.2 e ?_ g⟩⟩
   grind
  have K:∀i B,(i,B)∈(st ops.size).2.2↔(i,B)∈R:=λi B=>by
   rw[A.ahI z x8 ops.size (aS _),d.mem,y5,C.mem]
  have z1:=d.get E;have y6:∀k B,(bS (st ops.size).2.1 h.ax (st ops.size).2.2).get k=aa B↔(st c).2.1.get k=aa B\/ ∃i,k=h.ax+i/\(i,B)∈(st ops.size).2.2:=by
   rw[W];exact uk _ (λi B X b g=>((d.mem i B).1 ((K i B).1 b)).2.aea ((d.mem i X).1 ((K i X).1 g)).2)
    (λi B b=>d.none_ (E i ((d.mem i B).1 ((K i B).1 b)).1) ((d.mem i B).1 ((K i B).1 b)).2)
  have hS:Eo (bS (st c).2.1 h.ax R) (bS (st ops.size).2.1 h.ax (st ops.size).2.2):=by
   refine⟨by grind[mu],λk=>Option.ext λB=>?_⟩;rw[z1,y6];simp only[K]
  refine hk a w β (d.step.same (Eo.refl h) hS) ?_ d.dfs;refine⟨?_,λt v v' b g=>?_⟩
  ·rw[A.rR _ (aS _),gK,d.Y6.1]
  ·rw[getElem?_toList]at g;obtain⟨y,x⟩:=d.Y6.2 t v' g;have z5:t<(st 0).1.length:=by rw[<-A.rR _ (aS _)];exact(List.getElem?_eq_some_iff.1 b).1
   by_cases T:∃(i:Nat)(o:aR),ops[i]?=aa o/\o.dst=aa t
   ·obtain⟨i,o,q,hd⟩:=T;have hi:i<ops.size:=(Array.getElem?_eq_some_iff.1 q).1;rw[A.Of z z5 q hd _ (aS _) hi]at b;obtain rfl:=aC b;exact y i o ((C.mem i).2 hi) q hd
   ·rw[A.Ud t _ (aS _) λi o _ q hd=>T ⟨i,o,q,hd⟩]at b
    grind
 | j::J,pre,β,w,a,c,R,O,d=>by
  have E:∀i∈pre,i<ops.size:=λi hi=>(C.mem i).1 (by grind);have hj:j<ops.size:=(C.mem j).1 (by grind);have y0:j∉pre:=λhm=>by
   have z9:=C.nodup
   grind
  have x2:∀i,bf j i=af->i∈pre:=z.YU L C pre j J O;have y8:∀i∈pre,bf i j=ak:=λi hi=>by
   cases hb:bf i j with
   |false=>rfl
   |true=>
    obtain⟨p1,p2,rfl⟩:=List.append_of_mem hi;exact absurd (dY _ (z.YU L C p1 i (p2++j::J) (by grind) j hb)) y0
  have q:=getElem?_eq_getElem hj;generalize ops[j]=o at q;have m:=A.one j o q;have hg:Gl gl β:=x6.mono d.step.le;have z2:=d.Y6.ali z A C O hg q;have x5:=abl z2;have N:=Pm hN y9 z A x8 C (r:=r) (n:=n) x6 hk J (pre++[j]);have Z:L=(pre++[j])++J:=by rw[O];simp
  simp only[wpOpsIn,q]
  cases l:en j with
  |skip=>
   rw[l]at m;simp only[One]at m;rw[d.Y6.wanted z A C O q m.1];simp only[dM,if_false];refine⟨λ_ _=>trivial,?_⟩;exact N β w _ c R Z (d.calm z q (by rw[l];rfl) (by grind) (by rw[l];exact .undef β))
  |pure v=>
   rw[l]at m;simp only[One]at m;obtain⟨T,s,_⟩:=m;rw[d.Y6.wanted z A C O q T];simp only[if_true];rw[NF Hd]at s;obtain⟨v',b,g⟩:=BX x5 s w;refine E9 ?_ b (N β w _ c R Z (d.calm z q (by rw[l];rfl) (by rw[l];intro B v h;cases h) (by rw[l];exact g)))
   grind[eW]
  | read v=>
   rw[l]at m;simp only[One]at m;obtain⟨T,_,_⟩:=m;rw[d.Y6.wanted z A C O q T];simp only[if_true];have s:=A.reads j o v q l c d.le
    (λe b g=>y8 e ((d.Kd e (by have:=d.le;omega) g).2 b))
    (λe b g y=>by
     cases hb:bf j e with
     |false=>rfl
     |true=>have:=(d.Kd e g y).1 (x2 e hb);omega)
   rw[NG Hd]at s;obtain⟨v',b,g⟩:=BY x5 (d.sub E) s;refine E9 ?_ b (N β w _ c R Z (d.calm z q (by rw[l];rfl) (by rw[l];intro B v h;cases h) (by rw[l];exact g)))
   grind[eB]
  | alloc B v=>
   rw[l]at m;simp only[One]at m;obtain⟨T,⟨f,s,rfl⟩,_⟩:=m;rw[d.Y6.wanted z A C O q T];simp only[if_true];rw[Ko Hd]at s;obtain⟨v',w',b,g⟩:=zw x5 (w:=w) s;have y3:=d.free j hj y0 ⟨B,_,l⟩;have y7:=d.room;obtain⟨I,y,x,h5,h6⟩:=g.Zw d.step y3 (by omega) (by grind[mu]);refine E9 (by grind[dz]) b (N I w' _ c ((j,B)::R) Z ⟨d.le,?_,?_,y,d.room,d.Qn,?_,?_,(put_defers a o.dst v').trans d.dfs⟩)
   ·intro e S G;rw[bH,d.Kd e S G];refine⟨λD=>?_,.inl⟩;rcases D with D|D
    ·omega
    ·simp only[aX]at D;subst D;rw[l]at G;cases G
   ·intro i X;rw[cO,d.mem,bH];constructor
    ·rintro(D|⟨S,G⟩)
     ·simp only[bA]at D;obtain⟨rfl,rfl⟩:=D;refine⟨.inr cH,⟨_,l⟩,λe S G=>y8 e ((d.Kd e (by have:=d.le;omega) G).2 S)⟩
     grind
    ·rintro⟨S|S,G⟩
     ·grind
     ·simp only[aX]at S;subst S;obtain⟨v2,h9⟩:=G.1
      grind
   ·intro i S G h9;rw[h6 _ λD=>G (by grind)];exact d.free i S (λD=>G (dY _ D)) h9
   ·exact(d.Y6.mono h5).put z q (by rw[l];exact x)
  | yk v h'=>
   rw[l]at m;simp only[One]at m;have y4:(st (j+1)).2.1=h':=by rw[m.2.2]
   obtain⟨T,⟨u,s,hu⟩,_⟩:=m;rw[d.Y6.wanted z A C O q T];simp only[if_true];have u0:c<=j:=by
    rcases de j c with b|b
    ·exact absurd ((d.Kd j hj (by rw[l];rfl)).2 b) y0
    ·omega
   have M:∀e,c<=e->e<j->(en e).jQ=ak:=λe b g=>by
    cases x3:(en e).jQ with
    |false=>rfl
    |true=>
     have:=(d.Kd e (by omega) x3).1 (x2 e (A.chain e j g hj x3 (by rw[l];rfl)));omega
   have W:(st j).2.1=(st c).2.1:=by
    have:=A.E1 (c:=c) (j-c) (by omega) λe b g=>M e b (by omega);rwa[show c+(j-c)=j by omega]at this
   rw[W]at s hu;have Y:∀i B,(i,B)∈(st j).2.2.filter (λp=>bf j p.1)↔Gp bf en c i B/\bf j i=af:=λi B=>by
    rw[iR,A.ahI z x8 j (by omega)];constructor
    ·rintro⟨⟨b,g,y⟩,x⟩;exact⟨⟨g,λe h5=>y e (by omega)⟩,x⟩
    ·rintro⟨⟨g,y⟩,x⟩;refine⟨⟨z.lt _ _ x,g,λe h5 h6=>?_⟩,x⟩
     grind
   generalize (st j).2.2.filter (λp=>bf j p.1)=F at Y s hu;have x1:=uk (h:=(st c).2.1) (base:=h.ax) F (λi B X b g=>((Y i B).1 b).1.aea ((Y i X).1 g).1)
    (λi B b=>d.none_ (by grind) ((Y i B).1 b).1)
   have x4:=d.get E;have z3:pP β (bS (st c).2.1 h.ax F) w:=d.step.vH.sub (by grind[mu]) λk B z4=>by
    rw[x4];rcases(x1 k B).1 z4 with b|⟨i,b,g⟩
    ·grind
    ·exact .inr ⟨i,b,(d.mem i B).2 ⟨x2 i ((Y i B).1 g).2,((Y i B).1 g).1⟩⟩
   rw[Qr Hd]at s;refine Z4 hN y9 z3 hg x5 s _ _ λv' w' I U hv=>?_;rw[<-hu,<-y4]at U;have y7:=d.room;have x9:(bS (st c).2.1 h.ax F).ax=(st c).2.1.ax:=mu F;have H:∀i B,(i,B)∈R.filter (λp=> !bf j p.1)↔i∈pre/\Gp bf en c i B/\bf j i=ak:=λi B=>by
    rw[iR,d.mem];grind
   have z7:∀i B,(i,B)∈R.filter (λp=> !bf j p.1)->(bS (st c).2.1 h.ax F).get (h.ax+i)=none:=λi B hm=>by
    obtain⟨b,g,y⟩:=(H i B).1 hm
    cases z0:(bS (st c).2.1 h.ax F).get (h.ax+i)with
    |none=>rfl
    |some X=>
     rcases(x1 _ _).1 z0 with x|⟨i',x,h5⟩
     ·rw[d.none_ (E i b) g]at x;cases x
     grind
   have y2:∀k B,(st (j+1)).2.1.get k=aa B->k<(st c).2.1.ax->∃x0,(bS (st c).2.1 h.ax F).get k=aa x0:=λk B b g=>U.keys k B b (by omega);have z6:=uk (h:=(st (j+1)).2.1) (base:=h.ax) (R.filter λp=> !bf j p.1) (λi B X b g=>((H i B).1 b).2.1.aea ((H i X).1 g).2.1)
    (λi B hm=>by
     cases z0:(st (j+1)).2.1.get (h.ax+i)with
     |none=>rfl
     |some X=>grind)
   have x7:=U.frame (V:=bS (st c).2.1 h.ax R) (V':=bS (st (j+1)).2.1 h.ax (R.filter λp=> !bf j p.1)) d.step.vH (by grind[mu]) (mu _)
    (λk B=>∃i,k=h.ax+i/\(i,B)∈R.filter λp=> !bf j p.1)
    (λk B ⟨i,b,g⟩=>by grind)
    (λk B=>by
     rw[x4,x1];constructor
     ·rintro(b|⟨i,b,g⟩)
      ·grind
      ·obtain⟨y,x⟩:=(d.mem i B).1 g
       grind
     ·rintro((b|⟨i,b,g⟩)|⟨i,b,g⟩)
      ·exact .inl b
      ·exact .inr ⟨i,b,(d.mem i B).2 ⟨x2 i ((Y i B).1 g).2,((Y i B).1 g).1⟩⟩
      grind)
    z6
   have y1:=U.ax;rw[x9]at y1;refine N I w' _ (j+1) _ Z ⟨by omega,?_,?_,d.step.trans x7,by omega,?_,?_,(d.Y6.mono U.le).put z q (by rw[l];exact hv),(put_defers a o.dst v').trans d.dfs⟩
   ·intro e b g;rw[bH,d.Kd e b g,aX]
    grind
   ·intro i B;rw[H,bH];constructor
    ·rintro⟨b,⟨g,y⟩,x⟩;refine⟨.inl b,g,λe h5 h6=>?_⟩
     grind
    ·rintro⟨b,⟨v2,g⟩,y⟩;rcases b with b|b
     ·exact⟨b,⟨⟨v2,g⟩,λe x=>y e (by omega)⟩,y j (by omega) (by rw[l];rfl)⟩
     grind
   ·intro i B b g;obtain⟨x0,y⟩:=y2 _ _ g (by omega);rcases(x1 _ _).1 y with x|⟨i',x,h5⟩
    ·obtain⟨e,h6,S,G⟩:=d.Qn i x0 b x
     grind
    ·obtain rfl:i=i':=by omega
     exact⟨j,by omega,by rw[l];rfl,((Y _ _).1 h5).2⟩
   ·intro i b g y;have z8:=d.free i b (λD=>g (dY _ D)) y
    cases hb:I (h.ax+i)with
    |none=>rfl
    |some sl=>
     rcases U.fresh _ sl hb with x|⟨x,_⟩
     all_goals grind
end
end
variable{g:aw}{k:Nat}{U:Array aR}
section
variable {P:aO} {gl:Nat->Bool}
theorem CZ:∀{x y:List (ah×ah)},BK x y=af->x=y
 |[],[],_=>rfl
 |[],_::_,h=>by grind[BK]
 |_::_,[],h=>by grind[BK]
 |(a,b)::x,(c,d)::y,h=>by
  simp only[BK,bj]at h;rw[tW _ _ _ h.1.1,tW _ _ _ h.1.2,CZ h.2]
theorem O4{C:eE}(h:Fp I C=af):I=C:=by
 unfold Fp at h;split at h
 ·simp only[bj,beq_eq,beq_iff_eq]at h;obtain⟨⟨⟨a,rfl⟩,rfl⟩,rfl⟩:=h;rw[An (tW 4) a]
 all_goals grind[CZ]
theorem HJ(e:V8 h g k=af):h.get k=g.get k:=by grind[O4,V8]
def VZ(a:aw)(s:Fc):Prop:=s.2.1.ax=a.ax/\∀k,k∉s.2.2->s.2.1.get k=a.get k
theorem VZ.lay{s:Fc}(h:VZ g s)(c:Option Tmp)(v:ah)(u:Option (Nat×eE)):VZ g (IE s c v u):=by
 cases u with
 |none=>exact h
 |some p=>
  obtain⟨k,b⟩:=p;refine⟨h.1,λj a=>?_⟩;simp only[IE,cO,not_or]at a;show(s.2.1.set k b).get j=_;rw[aw.bZ,iN a.1];exact h.2 j a.2
theorem L8{s b:Fc}(h:VZ g s)(a:D6 P gl U n j s=aa b):VZ g b:=by
 unfold D6 at a;split at a
 ·split at a
  ·split at a
   ·obtain rfl:=aC a;exact h.lay _ _ _
   ·cases a
  ·obtain rfl:=aC a;exact h.lay _ _ _
  ·cases a
 grind
theorem Md{e:Array aR}{d:Nat}{a:aw}:∀(n j:Nat){s c:Fc},VZ a s->F9 P gl e d n j s=aa c->VZ a c
 |0,_,_,_,h,b=>by simp_all[F9]
 |n+1,j,s,c,h,b=>by
  simp only[F9]at b;split at b
  ·next g f=>exact Md n (j+1) (L8 h f) b
  grind
theorem Pq{s a:Fc}(h:VZ g s)(b:VZ g a)(e:Lc s a=af):s.1=a.1/\Eo s.2.1 a.2.1:=by
 unfold Lc at e;simp only[bj]at e;obtain⟨⟨c,j⟩,i⟩:=e;refine⟨An (tW 4) c,h.1.trans b.1.symm,λk=>?_⟩;by_cases f:k∈s.2.2
 ·grind[HJ]
 ·by_cases d:k∈a.2.2
  ·grind[HJ]
  ·rw[h.2 k f,b.2 k d]
theorem Mx.length(h:Mx U x):x.length=U.size:=by
 have:=((List.perm_ext_iff_of_nodup h.nodup List.nodup_range).2 λi=>by rw[h.mem,eL]).length_eq
 grind
theorem aeF:vI P gl mI:=⟨(by intro f a h v c _ b;cases b),(by intro k a h v c b;cases b)⟩
theorem XA(T:jJ P){d:Array aR}(S:HD d (gy (lK d))){L:List Nat}(K:Mx d L){r:Option Nat}{n:Nat}{Q:Exit->Act->aU->Prop}{base:Nat}{fin:Fc}{M hb:aw}{E:gR}{W:aU}{a₀:Act}(l:Gl gl E)
  (h:hb.ax=base+d.size) (H:M.ax<=base) (x:VZ hb fin)
  (U:∀X I z,Step E M W z fin.2.1 I->dE z fin.1 X.tmps.toList->X.defers=a₀.defers->Q .normal X I):
  ∀(g b:List Nat)(t:gR)(w:aU)(a:Act)(s:Fc),L=b++g->OZ P gl d (gy (lK d)) base fin g.length b.reverse s=af->VZ hb s->Step E M W t s.2.1 w->
   (∀i,i<d.size->i∉b->t (base+i)=none)->dE t s.1 a.tmps.toList->a.defers=a₀.defers->wpOpsIn (qG r) n P d Q g a w
 |[],b,t,w,a,s,he,hA,C,p,D,G,N=>by
  obtain⟨e1,e2⟩:=Pq x C hA;refine U a w t (p.same (Eo.refl _) e2.symm) (by grind) N
 | j::g,b,t,w,a,s,he,hA,C,p,D,G,N=>by
  have hj:j<d.size:=(K.mem j).1 (by grind);have x4:j∉b:=λhm=>by
   have x5:=K.nodup
   grind
  have x6:∀i,gy (lK d) j i=af->i∈b:=S.YU L K b j g he;simp only[bP,OZ]at hA;have m:=cw.1 hA j (eL.2 hj);simp only[or_eq_true]at m;rcases m with(m|m)|m
  ·grind
  ·grind
  ·split at m
   ·next s' q=>
    have e:=L8 C q;have ho:=getElem?_eq_getElem hj;generalize d[j]=o at ho;unfold D6 at q;rw[ho]at q;dsimp only at q;have J:L=(b++[j])++g:=by rw[he];simp
    have A:(b++[j]).reverse=j::b.reverse:=by simp
    have k:∀i,i<d.size->i∉b++[j]->t (base+i)=none:=λi m Y=>D i m λhh=>Y (dY _ hh);have hg:Gl gl t:=l.mono p.le;simp only[wpOpsIn,ho];split at q
    ·next hw=>
     rw[xK G hw];simp only[if_true];split at q
     ·next v u c=>
      obtain rfl:=aC q;have R:=MS (β:=t) hg G;unfold ND at c;split at c
      ·next v0 y=>
       simp only[bc,bA]at c;obtain⟨rfl,rfl⟩:=c;obtain⟨O,Z,V⟩:=BX R y w;refine E9 (by intro cc hc;simp[eW,hc]at y) Z (XA T S K l h H x U g (b++[j]) t w _ _ J (by rw[A];exact m) e p k (xg G o.dst V) ((put_defers a o.dst O).trans N))
      ·split at c
       ·next v0 y=>
        simp only[bc,bA]at c;obtain⟨rfl,rfl⟩:=c;obtain⟨O,Z,V⟩:=BY R p.vH y;refine E9 (by intro cc hc;simp[eB,hc]at y) Z (XA T S K l h H x U g (b++[j]) t w _ _ J (by rw[A];exact m) e p k (xg G o.dst V) ((put_defers a o.dst O).trans N))
       ·split at c
        ·next B f y=>
         simp only[bc,bA]at c;obtain⟨rfl,rfl⟩:=c;obtain⟨O,I,Z,V⟩:=zw R (w:=w) y;obtain⟨z,g3,g4,g5,g6⟩:=V.Zw p (D j hj x4) (by omega) (by rw[C.1,h];omega);refine E9 (by intro cc hc;simp[dz,hc]at y) Z (XA T S K l h H x U g (b++[j]) z I _ _ J (by rw[A];exact m) e g3 ?_ (xg (G.mono g5) o.dst g4) ((put_defers a o.dst O).trans N));intro i Y h3;rw[g6 _ λhh=>h3 (by rw[show i=j by omega];simp)];exact k i Y h3
        ·have x0:∀{u':dJ}{v:ah},gM P mI (ev gl s.1) o s.2.1=aa (v,u')->u'.app s.2.1=(IE s o.dst v u).2.1->(IE s o.dst v u).1=lG s.1 o.dst v->OZ P gl d (gy (lK d)) base fin g.length (j::b.reverse) (IE s o.dst v u)=af->VZ hb (IE s o.dst v u)->
           o.wpIn (qG r) n P a w (λX I=>wpOpsIn (qG r) n P d Q g X I) Q:=by
          intro u' v c hu x2 m e;refine Z4 T aeF p.vH hg R c _ _ λO I z F hv=>?_;rw[hu]at F;refine XA T S K l h H x U g (b++[j]) z I _ _ J (by rw[A];exact m) e (p.trans F) (λi Y h3=>?_) (by rw[x2];exact xg (G.mono F.le) o.dst hv) ((put_defers a o.dst O).trans N);have x1:=k i Y h3
          cases x3:z (base+i)with
          |none=>rfl
          |some sl=>
           rcases F.fresh _ sl x3 with h4|⟨h4,_⟩
           ·rw[x1]at h4;cases h4
           ·rw[C.1,h]at h4;omega
         split at c
         ·next v0 y=>
          simp only[bc,bA]at c;obtain⟨rfl,rfl⟩:=c;exact x0 y rfl rfl m e
         ·next v0 k0 b0 y=>
          simp only[bc,bA]at c;obtain⟨rfl,rfl⟩:=c;exact x0 y rfl rfl m e
         ·cases c
     ·cases q
    ·next hw=>
     obtain rfl:=aC q;rw[xK G hw];simp only[dM,if_false];refine⟨λ_ _=>trivial,?_⟩;exact XA T S K l h H x U g (b++[j]) t w _ _ J (by rw[A];exact m) e p k (xg G o.dst (.undef t)) ((put_defers a o.dst undef).trans N)
    ·cases q
   grind
end
section
variable {P:aO} {gl:Nat->Bool}
theorem Step.room{w:aU}(a:pP J h w)(m:Nat):Step J h w J { h with ax:=h.ax+m } w:=
 ⟨J.le_refl,dg _ _,⟨λk c b=>⟨cz (a.lt k c b).1 (dg _ _),(a.lt k c b).2⟩,a.blk,a.own,λk B b=>cz (a.wf k B b) (dg _ _)⟩,aS _,rfl,.refl _,rfl,
  λ_ _ _=>rfl,λ_ _ h=>h,λ_ _ h=> .inl h,λ_ B h _=>⟨B,h⟩⟩
theorem Z2(C:jJ P){D:fT}(A:vI P gl D){H:Nat}{b:Array aR}(p:HD b (gy (lK b)))(z:RF b)(y:Region.departs b=af->(Region.linearise .gc b 0).length=b.size):
  rU P gl D (.region H b af):=by
 intro O J E c I N a h V w r n Q e f F u K
 cases E
 refine wpIn_region_draw λt=>?_;have d:Step c h w c { h with ax:=h.ax+b.size } { w with drawn:=w.drawn+1 }:=
  (Step.of_heap f rfl rfl ⟨rfl,fJ _⟩ rfl:Step c h w c h { w with drawn:=w.drawn+1 }).trans (Step.room (w:={ w with drawn:=w.drawn+1 }) (f.of_heap rfl) b.size)
 unfold Fs at e;split at e
 ·unfold CO at e;split at e
  ·next fin m=>
   split at e
   ·next s=>
    simp only[bc,bA]at e;obtain⟨rfl,rfl⟩:=e;have j:=Bt z y (P.follows .mixedOrders) t;have g:VZ { h with ax:=h.ax+b.size } (I,{ h with ax:=h.ax+b.size },[]):=⟨rfl,λ_ _=>rfl⟩
    have l:(Region.schedule (P.follows .mixedOrders) b t).length=b.size:=j.length;exact XA C p j (base:=h.ax) (fin:=fin) (a₀:=a) F rfl (aS _) (Md _ _ g m) K _ [] c _ a _ rfl (by rw[l];exact s) g d (λi q _=>f.rG (by omega)) u rfl
   ·cases e
  grind
 have d:True:=trivial;obtain⟨W,S,L,k,T,U⟩:=Pl p e;have j:=Bt z y (P.follows .mixedOrders) t;have d:Step c h w c { h with ax:=h.ax+b.size } { w with drawn:=w.drawn+1 }:=
  (Step.of_heap f rfl rfl ⟨rfl,fJ _⟩ rfl:Step c h w c h { w with drawn:=w.drawn+1 }).trans (Step.room (w:={ w with drawn:=w.drawn+1 }) (f.of_heap rfl) b.size)
 refine Pm (β₀:=c) (h:=h) (w₀:=w) (a₀:=a) C A p L (by rw[k]) j F ?_ _ [] c _ a 0 [] rfl ⟨cr _,?_,?_,?_,?_,?_,?_,?_,rfl⟩
 ·grind
 ·grind
 ·grind
 ·rw[k];exact d
 ·grind
 ·intro i B q x;rw[k]at x;have:h.get (h.ax+i)=aa B:=x;have:=f.wf _ _ this;omega
 ·intro i q _ _;exact f.rG (by omega)
 ·rw[k];refine⟨by rw[u.1,gK],λt M R=>⟨λi o q=>by grind,λ_ v G=>?_⟩⟩;exact u.2 t v M G (by grind)
theorem PH(g:Nat->Nat)(i:Nat):∀(a:List Edge)(s:Nat),(a.foldl (λs e=>if iO .any e then s|||2^e.on|||g e.on else s) s).testBit i=af↔
  s.testBit i=af\/ ∃e∈a,iO .any e=af/\(e.on=i\/(g e.on).testBit i=af)
 |[],s=>by simp
 |e::a,s=>by
  rw[pE,PH g i a]
  grind
def zj(a:Array Nat)(o:aR):Nat:=o.after.foldl (λs e=>if iO .any e then s|||2^e.on|||a.getD e.on 0 else s) 0
theorem Lh:∀(l:List aR)(a:Array Nat),(l.foldl (λa o=>a.push (zj a o)) a).size=a.size+l.length/\
  (∀i,i<a.size->(l.foldl (λa o=>a.push (zj a o)) a)[i]?=a[i]?)/\
  ∀i o,l[i]?=aa o->∃b,(l.foldl (λa o=>a.push (zj a o)) a)[a.size+i]?=aa (zj b o)/\∀k,k<a.size+i->b[k]?=(l.foldl (λa o=>a.push (zj a o)) a)[k]?
 |[],a=>⟨by simp,λ_ _=>rfl,λi o h=>by grind⟩
 |o::l,a=>by
  obtain⟨d,e,c⟩:=Lh l (a.push (zj a o))
  grind
theorem Wa(a:Array aR):Region.before a=a.toList.foldl (λb o=>b.push (zj b o)) #[]:=by
 unfold Region.before;rw[<-pQ];rfl
theorem adr(m:RF U)(j i:Nat):gy (lK U) j i=af↔ ∃o,U[j]?=aa o/\∃e∈o.after,iO .any e=af/\(e.on=i\/gy (lK U) e.on i=af):=by
 have q:∀k,(lK U).getD k 0=(Region.before U).getD k 0:=λk=>by simp[lK,List.getD,dp]
 obtain⟨n,_,f⟩:=Lh U.toList #[];rw[<-Wa]at n f;simp only[List.size_toArray,List.length_nil,bO,getElem?_toList,gK]at n f
 cases g:U[j]? with
 |none=>grind[gy]
 | some o=>
  obtain⟨d,p,r⟩:=f j o g;simp only[gy,q];rw[dp,p,getD_some,zj,<-pQ,PH (λk=>d.getD k 0)];simp only[Nat.zero_testBit,dM,false_or,bc,exists_eq_left',Array.mem_toList_iff];constructor
  ·rintro⟨e,c,a,b⟩;refine⟨e,c,a,b.imp id λb=>?_⟩;have l:e.on<j:=by
    rcases m j o g e c with h|⟨h,_⟩
    ·exact h
    ·rw[h]at a;cases a
   simp_all
  ·rintro⟨e,c,a,b⟩;refine⟨e,c,a,b.imp id λb=>?_⟩;have l:e.on<j:=by
    rcases m j o g e c with h|⟨h,_⟩
    ·exact h
    ·rw[h]at a;cases a
   simp_all
theorem RF.lt(a:RF U){j:Nat}{o:aR}(c:U[j]?=aa o){e:Edge}(b:e∈o.after)(d:iO .any e=af):e.on<j:=by
 rcases a j o c e b with h|⟨h,_⟩
 all_goals grind
theorem CJ:∀(l:List aR)(j:Nat),MD l j=af->∀i o,l[i]?=aa o->∀e∈o.after,e.on<j+i\/iO .any e=ak/\iO .text e=ak
 |[],_,_,i,o,a,_,_=>by grind
 | c::l,j,h,i,o,a,e,b=>by
  simp only[MD,bj]at h
  cases i with
  |zero=>grind
  |succ i=>
   have:=CJ l (j+1) h.2 i o (by simpa using a) e b
   grind
theorem Ae{a:List Nat}{j:Nat}{t:Tmp}:∀(l:List aR)(k:Nat),Ad a j t l k=af->∀i o,l[i]?=aa o->o.dst=aa t->k+i=j\/gy a j (k+i)=af\/gy a (k+i) j=af
 |[],_,_,i,o,b,_=>by grind
 | d::l,k,h,i,o,b,c=>by
  simp only[Ad,bj]at h
  cases i with
  |zero=>grind
  |succ i=>
   have:=Ae l (k+1) h.2 i o (by simpa using b) c
   grind
theorem xf{c:List Nat}{all:List aR}:∀(l:List aR)(k:Nat),NH c all l k=af->∀i o,l[i]?=aa o->
  (∀t,Operand.tmp t∈o.op.operands->Ad c (k+i) t all 0=af)/\∀g b,o.guard=aa (g,b)->gy c (k+i) g=af
 |[],_,_,i,o,a=>by grind
 | e::l,k,h,i,o,a=>by
  simp only[NH,bj]at h
  cases i with
  |zero=>
   simp only[List.getElem?_cons_zero,bc]at a;subst a;refine⟨λt d=>?_,λg b f=>?_⟩
   ·exact cw.1 h.1.1 (.tmp t) (by simpa using d)
   grind
  |succ i=>
   have:=xf l (k+1) h.2 i o (by simpa using a)
   grind
theorem xJ:∀(l:List aR)(m:Nat),E6 l m=af->(∀(i:Nat)(o:aR)(t:Tmp),l[i]?=aa o->o.dst=aa t->m.testBit t=ak)/\
  ∀(i j:Nat)(o a:aR)(t:Tmp),l[i]?=aa o->l[j]?=aa a->o.dst=aa t->a.dst=aa t->i=j
 |[],_,_=>⟨λi o t h=>by grind,λi j o a t h=>by grind⟩
 | x::l,m,h=>by
  cases b:x.dst with
  |none=>
   simp only[E6,b]at h;obtain⟨c,e⟩:=xJ l m h
   grind
  |some d=>
   simp only[E6,b,bj,dt]at h;obtain⟨c,e⟩:=xJ l _ h.2
   grind
theorem MM(h:Sg U=af):HD U (gy (lK U))/\RF U/\(Region.departs U=af->(Region.linearise .gc U 0).length=U.size):=by
 simp only[Sg,bj]at h;obtain⟨⟨⟨D,E⟩,I⟩,z⟩:=h;have l:RF U:=λi o a e d=>by
  have:=CJ U.toList 0 D i o (by simpa using a) e d;rwa[bO]at this
 have f:=adr l;have x:∀j i,gy (lK U) j i=af->i<j:=by
  intro j
  induction j using fB with
  |_ j m=>
   intro i s;obtain⟨o,a,e,d,c,hh⟩:=(f j i).1 s;have:=l.lt a d c;rcases hh with hh|hh
   ·omega
   ·have:=m _ this i hh;omega
 refine⟨⟨x,?_,?_,?_,?_,?_⟩,l,?_⟩
 ·intro k
  induction k using fB with
  |_ k m=>
   intro j i g A;obtain⟨o,a,e,d,c,hh⟩:=(f k j).1 g;refine(f k i).2 ⟨o,a,e,d,c,.inr ?_⟩;rcases hh with rfl|hh
   ·exact A
   ·exact m _ (l.lt a d c) j i hh A
 ·intro L C q j
  induction j using fB generalizing q with
  |_ j m=>
   intro p r i s;obtain⟨o,a,e,d,c,hh⟩:=(f j i).1 s;have y:=C.akQ q j p r o a e d c;rcases hh with rfl|hh
   ·exact y
   ·obtain⟨G,B,rfl⟩:=List.append_of_mem y;exact dY _ (m _ (l.lt a d c) G (B++j::p) (by rw[r];simp) i hh)
 ·intro j o t a v i u n F;have g:=(xf U.toList 0 z j o (by simpa using a)).1 t v;rw[bO]at g;have:=Ae U.toList 0 g i u (by simpa using n) F;rwa[bO]at this
 ·intro j o i b a H;have g:=(xf U.toList 0 z j o (by simpa using a)).2 i b H;rwa[bO]at g
 ·intro i j o u t a n v w;exact(xJ U.toList 0 E).2 i j o u t (by simpa using a) (by simpa using n) v w
 grind
theorem yj(l:jJ P){b:fT}(e:vI P gl b):∀{d c:Code},Part d c->fS c=af->rU P gl b d:=by
 have o:∀c,fS c=af->rU P gl b c:=by
  intro c h j f g;subst g;obtain⟨k,m,i⟩:=MM h;exact Z2 l e k m i j f rfl
 intro d c n
 induction n with
 |refl=>grind
 |ah3 _ a=>simp_all[fS]
 |aj1 _ a=>simp_all[fS]
 |af9 _ a=>simp_all[fS]
 |af7 _ a=>simp_all[fS]
 |block _ a=>grind[fS]
 |loop _ a=>grind[fS]
theorem CQ(b:jJ P):KI P gl:=λ_ a _ _ c h=>yj b a c h
def jd(a:Func):Bool:=match a.body with|some c=>fS c|none=>af
theorem Fo(i:jJ P)(h:∀(f:ck) (a:Func),P.funcs[f]?=aa a->jd a=af):OE P gl:=λj b f a c d g e k=>by grind[yj,jd]
end
variable{b:Bool}{A:Type}
section
variable {α:Type}
def Ref(a x:Bool)(b:Option α)(K:α->Bool):Prop:=x=a\/ ∃r,b=aa r/\x=K r
theorem Ref.bad{a:Option α}{K:α->Bool}:Ref b b a K:= .inl rfl
theorem Ref.of{x:Bool}{a:Option α}{K:α->Bool}{r:α}(h:a=aa r)(c:x=K r):Ref b x a K:= .inr ⟨r,h,c⟩
theorem nC(n:Nat)(c:Nat->Bool):tA n c=c n:=by cases n<;>rfl
theorem ad3(n:Int)(c:Int->Bool):ajl n c=c n:=by
 cases n with
 |ofNat n=>exact nC n λn=>c (.ofNat n)
 |negSucc n=>exact nC n λn=>c (.negSucc n)
theorem Px(a:Option aF)(K:Option aF->Bool):UU a K=K a:=by
 rcases a with _|⟨b,o,s⟩
 ·rfl
 ·show tA b (λb=>tA o λo=>K (aa ⟨b,o,s⟩))=_;rw[nC,nC]
theorem nD(v:ah)(K:ah->Bool):vA v K=K v:=by
 cases v with
 |int k n=>exact ad3 n λn=>K (aB k n)
 |pointer a=>exact Px a λa=>K (.pointer a)
 |slice a n c=>
  show UU a (λa=>tA n λn=>tA c λc=>K (ae a n c))=_;rw[Px,nC,nC]
 |_=>rfl
theorem Ak{x:Option α}{K:α->Bool}{c:Option A}{d:A->Bool}(h:∀a,x=aa a->Ref b (K a) c d):Ref b (Wd b x K) c d:=by
 cases x with
 |none=>exact .bad
 |some a=>exact h a rfl
theorem tz{a x y:Bool}{c:Option A}{d:A->Bool}(e:b=af->Ref a x c d)(f:b=ak->Ref a y c d):Ref a (px b x y) c d:=by
 cases b with
 |true=>exact e rfl
 |false=>exact f rfl
theorem ED(l:List ah):∀(K:List ah->Bool),EC l K=K l:=by
 induction l with
 |nil=>intro K;rfl
 |cons a l b=>intro K;exact b λr=>K (a::r)
theorem C1(b:eE)(K:eE->Bool):Py b K=K b:=by
 cases b with
 |cells cs t a c=>exact ED cs λcs=>K (.cells cs t a c)
 |map d=>rfl
 |loop=>rfl
theorem MC(u:dJ)(h:aw)(K:aw->Bool):adp u h K=K (u.app h):=by
 cases u with
 |no=>rfl
 |set k b=>show acX k b h K=_;unfold acX;rw[C1,HT.lh];rfl
 |push b=>show E8 b h K=_;unfold E8;rw[C1,HT.lh,nC];rfl
 |move k b=>show Ug k b h K=_;unfold Ug;rw[C1,HT.lh,HT.lh,nC];rfl
 |all a=>rfl
theorem aax(a b:Int):agd a b=(a==b):=by
 cases a with
 |ofNat m=>cases b with
  |ofNat n=>show dx m n=_;rw[Bool.eq_iff_iff];simp[beq_eq];omega
  |negSucc n=>show ak=_;rw[Bool.eq_iff_iff];simp
 |negSucc m=>cases b with
  |ofNat n=>show ak=_;rw[Bool.eq_iff_iff];simp
  |negSucc n=>show dx n m=_;rw[Bool.eq_iff_iff];simp[beq_eq];omega
end
variable{P:aO}
section
def Cs(cx:Cx)(cf:fT):Prop:=∀f a h K,Ref cx.bad (cx.cf f a h K) (cf f a h) λr=>K r.1 r.2
noncomputable abbrev Zd(h:aw)(K:ah->aw->Bool)(r:ah×dJ):Bool:=K r.1 (r.2.app h)
theorem Qv{r:Option (ah×dJ)}{h:aw}{K:ah->aw->Bool}{a:Option (ah×dJ)}(d:∀x,r=aa x->a=aa x):Ref b (XB b r h K) a (Zd h K):=by
 unfold XB;refine Ak λx c=> .of (d x c) ?_;obtain⟨v,u⟩:=x;show adp u h (λh=>vA v λv=>K v h)=_;rw[MC,nD]
theorem BW{cf:fT}{ρ:bh->ah}{h:aw}(g:ep q=ak):gM P mI ρ q h=gM P cf ρ q h:=by
 obtain⟨dst,d,ty,pos,after,guard⟩:=q
 cases d<;>try rfl
 rename_i c;obtain⟨a,e,i⟩:=c
 cases a with
 |value f=>simp[ep]at g
 |invoke r m=>rfl
 |builtin b=>cases b<;>rfl
theorem IW{cf:fT}{ρ:bh->ah}{h:aw}(a:ep q=ak):fM P mI ρ q h=fM P cf ρ q h:=by
 unfold fM;rw[BW a]
variable {cx:Cx} {cf:fT} {ρ:bh->ah} {h:aw} {K:ah->aw->Bool} {dst:Option Tmp} {ty:aD} {pos:String} {after:Array Edge} {guard:Option (Nat×Bool)}
theorem U5{o:aR}(b:ep o=ak):Ref cx.bad (gen cx o ρ h K) (fM cx.P cf ρ o h) (Zd h K):=
 Qv λx a=>by rw[<-IW b];exact a
theorem WN{K:Fn->Array ah->Array ah->Bool}{d:Option A}{g:A->Bool}(h:∀f a c,v=aN f a c->Ref b (K f a c) d g):Ref b (funcF v b K) d g:=by
 rcases PI v b K with⟨e,_⟩|⟨f,a,c,e,i⟩
 ·rw[e];exact .bad
 ·rw[i];exact h f a c e
end
section
variable {cx:Cx} {cf:fT} {ρ:bh->ah} {h:aw} {K:ah->aw->Bool} {dst:Option Tmp} {ty:aD} {pos:String} {after:Array Edge} {guard:Option (Nat×Bool)}
theorem Ij:∀(l:List bh)(K:List ah->Bool),fArgs ρ l K=K (l.map ρ)
 |[],_=>rfl
 |x::l,K=>by
  show vA (ρ x) (λv=>fArgs ρ l λr=>K (v::r))=_;rw[nD,Ij l];rfl
theorem WC{a:Array ah}(h:EA a=af):a.size=0:=by
 unfold EA at h;rw[<-gK];generalize a.toList=l at h
 cases l with
 |nil=>rfl
 |cons x l=>cases h
theorem ZJ(l:Cs cx cf){c:Call}:Ref cx.bad (af5 c cx ⟨dst,.call c,ty,pos,after,guard⟩ ρ h K) (fM cx.P cf ρ ⟨dst,.call c,ty,pos,after,guard⟩ h) (Zd h K):=by
 obtain⟨j,a,e⟩:=c
 cases j with
 | value f=>
  show Ref cx.bad (MI f a e cx ⟨dst,.call ⟨.value f,a,e⟩,ty,pos,after,guard⟩ ρ h K) _ _;unfold MI;refine WN λq first d v=>?_
  cases q with
  | func g=>
   show Ref cx.bad (px (dj g YB) (fArgs ρ a.toList λi=>EC (first.toList++i++d.toList) λi=>cx.cf g i h K) cx.bad) _ _;refine tz (λp=>?_) (λ_=> .bad);have p:g<YB:=by simpa[blt_eq]using p
   rw[Ij,ED];rcases l g (first.toList++a.toList.map ρ++d.toList) h K with n|⟨r,t,o⟩
   ·rw[n];exact .bad
   ·refine .of (r:=(r.1,.all r.2)) ?_ o;show gM cx.P cf ρ ⟨dst,.call ⟨.value f,a,e⟩,ty,pos,after,guard⟩ h=_
    simp_all[gM,yU]
  | yield k=>
   show Ref cx.bad (px (EA first) (px (EA d) (fArgs ρ a.toList λi=>tA (YB+k) λs=>cx.cf s i h K) cx.bad) cx.bad) _ _;refine tz (λt=>tz (λo=>?_) (λ_=> .bad)) (λ_=> .bad);rw[Ij,nC];rcases l (YB+k) (a.toList.map ρ) h K with n|⟨r,w,u⟩
   ·rw[n];exact .bad
   ·refine .of (r:=(r.1,.all r.2)) ?_ u;show gM cx.P cf ρ ⟨dst,.call ⟨.value f,a,e⟩,ty,pos,after,guard⟩ h=_
    simp_all[WC,gM,yU]
  |method _=>exact .bad
  |methodOf _ _=>exact .bad
  |via _ _ _ _=>exact .bad
 |invoke r m=>exact .bad
 |builtin b=>exact U5 rfl
theorem sx:Ref cx.bad (M8 cx q ρ h K) (fM cx.P cf ρ q h) (Zd h K):=by
 refine Ak λv a=> .of (r:=(v,.no)) ?_ (nD v _);unfold fM;rw[a]
theorem He(b:Cs cx cf)(o:aR):Ref cx.bad (opF o.op cx o ρ h K) (fM cx.P cf ρ o h) (Zd h K):=by
 obtain⟨dst,e,ty,pos,after,guard⟩:=o
 cases e with
 |call c=>exact ZJ b
 |move x=>exact .of (r:=(ρ x,.no)) rfl (nD _ _)
 |assign x=>exact .of (r:=(ρ x,.no)) rfl (nD _ _)
 |load t x=>
  refine Ak λv d=> .of (r:=(v,.no)) ?_ (nD v _);show(match aM cx.P t h (ρ x)with|some v=>aa (v,dJ.no)|none=>_)=_;rw[d]
 |store t a x=>exact Qv λr f=>f
 |pick _ _ _=>exact sx
 |nilCheck _=>exact sx
 |binOp _ _ _ _ _=>exact sx
 |unOp _ _ _=>exact sx
 |fieldAddr _ _ _=>exact sx
 |field _ _ _=>exact sx
 |indexAddr _ _ _=>exact sx
 |index _ _ _=>exact sx
 |go _=>exact .bad
 |defer _=>exact .bad
 |panic _=>exact .bad
 |send _ _=>exact .bad
 |recv _ _ _=>exact .bad
 |select _ _=>exact .bad
 |_=>exact U5 (o:=⟨dst,_,ty,pos,after,guard⟩) rfl
end
section
variable {cx:Cx} {cf:fT}
def ll(n:Nat)(e:Env)(l:List ah):Prop:=l.length=n/\n<=256/\∀t,Env.get t e=l.getD t undef
theorem Ig{e:Env}{l:List ah}(b:ll n e l)(a:Nat->Bool):US a e=ev a l:=by
 funext x
 cases x with
 |tmp t=>exact b.2.2 t
 |const v=>
  show adI (plain v) v rj=if plain v then v else rj
  cases plain v<;>rfl
 |global g=>
  show adI (a g) _ rj=if a g then _ else rj
  cases a g<;>rfl
 |func f=>rfl
theorem DD{e:Env}{l:List ah}(a:ll n e l)(b:Option Tmp)(v:ah):∃i,ll n i (lG l b v)/\∀(K:Env->Bool),A0 n b e v K=K i:=by
 cases b with
 |none=>exact⟨e,a,λK=>rfl⟩
 | some d=>
  cases c:dj d n with
  | true=>
   have f:d<n:=by simpa[blt_eq]using c
   refine⟨Env.new d e v,⟨by rw[qe];exact a.1,a.2.1,λt=>?_⟩,λK=>?_⟩
   ·rw[Env.Nb (cz f a.2.1),gD];split
    ·next g=>subst g;rw[LF (by rw[a.1];exact f)];rfl
    ·next g=>rw[NR (λk=>g (aC k).symm),<-gD];exact a.2.2 t
   ·show px (dj d n) (Env.put d e v K) (K e)=_;rw[c];exact Env.put_eq d e v K
  | false=>
   have j:n<=d:=by
    rcases de d n with h|h
    ·have:dj d n=af:=by simpa[blt_eq]using h
     rw[c]at this;cases this
    ·exact h
   refine⟨e,?_,λK=>?_⟩
   ·have:lG l (aa d) v=l:=by simp only[lG];exact List.set_eq_of_length_le (by rw[a.1];exact j)
    rw[this];exact a
   ·show px (dj d n) (Env.put d e v K) (K e)=_;rw[c];rfl
theorem WQ(v:ah)(a:Bool)(f:Bool->Bool)(c:Bool):Iu v a f c=a\/(∃b,v=ai b/\Iu v a f c=f b)\/ ∃d,v=av d/\Iu v a f c=c:=by
 cases v with
 |bool b=>exact .inr (.inl ⟨b,rfl,rfl⟩)
 |tuple d=>exact .inr (.inr ⟨d,rfl,rfl⟩)
 |_=>exact .inl rfl
theorem Rv{e:Env}{l:List ah}(q:ll n e l){ops:Array aR}(o:aR)(c f a:Bool):
  JD ops e c o.guard f a=c\/(jN ops l o=aa af/\JD ops e c o.guard f a=f)\/(jN ops l o=aa ak/\JD ops e c o.guard f a=a):=by
 unfold jN
 cases s:o.guard with
 |none=>exact .inr (.inl ⟨rfl,rfl⟩)
 | some g=>
  obtain⟨j,h⟩:=g
  cases m:(ops[j]?).bind (·.dst)with
  |none=>
   left;show Wd c (aaq ops j) _=c;unfold aaq;rw[m];rfl
  | some d=>
   have p:JD ops e c (aa (j,h)) f a=Iu (Env.get d e) c (λb=>Bool.rec (motive:=λ_=>Bool) (px h a f) (px h f a) b) a:=by
    show Wd c (aaq ops j) _=_;unfold aaq;rw[m];rfl
   rw[p];simp only[m];rw[q.2.2 d];rcases WQ (l.getD d undef) c (λb=>Bool.rec (motive:=λ_=>Bool) (px h a f) (px h f a) b) a with i|⟨b,i,k⟩|⟨r,i,k⟩
   ·exact .inl i
   ·rw[k];simp only[i]
    cases b<;>cases h<;>first|exact .inr (.inl ⟨rfl,rfl⟩)|exact .inr (.inr ⟨rfl,rfl⟩)
   ·rw[k];simp only[i];exact .inr (.inr ⟨trivial,trivial⟩)
def RX{b:Type}(n:Nat)(c x:Bool)(d:Option (List ah×b))(K:Env->b->Bool):Prop:=x=c\/ ∃l a e,d=aa (l,a)/\ll n e l/\x=K e a
theorem IX(c:Cs cx cf){ops:Array aR}:∀(a:List aR){e:Env}{l:List ah}{h:aw}{K:Env->aw->Bool},ll cx.n e l->RX cx.n cx.bad (Qt cx ops a e h K) (qK cx.P cx.gl cf ops a l h) K
 |[],e,l,h,K,b=> .inr ⟨l,h,e,rfl,b,rfl⟩
 | o::a,e,l,h,K,b=>by
  show RX cx.n cx.bad (ahG cx ops o e h λe h=>Qt cx ops a e h K) _ K;unfold ahG;rcases Rv b o cx.bad (opF o.op cx o (US cx.gl e) h λv h=>A0 cx.n o.dst e v λe=>Qt cx ops a e h K) (A0 cx.n o.dst e undef λe=>Qt cx ops a e h K)with d|⟨d,g⟩|⟨d,g⟩
  ·exact .inl d
  ·rw[g];rcases He c (ρ:=US cx.gl e) (h:=h) (K:=λv h=>A0 cx.n o.dst e v λe=>Qt cx ops a e h K) o with f|⟨⟨v,u⟩,f,m⟩
   ·exact .inl f
   ·rw[m];rw[Ig b]at f;obtain⟨k,j,i⟩:=DD b o.dst v;show RX cx.n cx.bad (A0 cx.n o.dst e v λe=>Qt cx ops a e (u.app h) K) _ K;rw[i];simp only[qK,d,f];exact IX c a j
  ·rw[g];obtain⟨k,j,i⟩:=DD b o.dst undef;rw[i];simp only[qK,d];exact IX c a j
end
end Go.Ab
end
