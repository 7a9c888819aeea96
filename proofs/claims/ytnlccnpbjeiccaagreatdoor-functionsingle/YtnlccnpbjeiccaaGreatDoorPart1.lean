/- Laws and walks that the proof leans on (part 1): AbEval; AbRel; AbEnv; AbFast; AbPure; AbPure2 and others. No condition. -/
import GoSem.Dispatch
import GoSem.Machine.Frame
import GoSem.Machine.Return
import Derived.CallsIn
import Derived.Laws.Tables
import Derived.KernelRfl
import Derived.Laws.Sem
import Derived.Laws.World
import Derived.Laws.Cells
import Derived.Laws.Entries
import Derived.Laws.Strings
import Derived.Laws.StructEq
import Derived.Laws.Small
import Derived.Laws.BytesString
import Derived.Laws.BitsLemmas
import Derived.Laws.Append
import Derived.Lib.UnsafeStr
import Derived.Lib.Builder
import Derived.RangeFuncLeaves
import Derived.RangeFuncNested
set_option linter.unusedVariables false
set_option linter.unusedSimpArgs false
set_option maxRecDepth 100000
open Array renaming ext' → fS, foldl_toList → oW, getD_eq_getD_getElem? → dg, length_toList → gn
open BitVec renaming ofInt → cZ
open Bool renaming and_eq_true → bg, false → aj, false_eq_true → dG, not_eq_true' → cK, true → af, true_and → dz
open Go renaming Addr → aJ, FuncId → bW, IntKind → ee, MapEntry → gi, Oper → aR, Operand → bm, Program → aO, TypeId → aF, Value → ag, World → aU
open Go.Builtin renaming append_ → mr, firstCells → eE, zeroCells → gR
open Go.Call renaming operands → jI
open Go.Instr renaming checkKey → jd, fill → jC, findAsking → oe, findKey → nK, findNow → nL, sameBits → mu, sameNow → kU, sliceAt → kV, sliceBounds → mT, sureAddr → mw
open Go.IntKind renaming i64 → ak, rec → iS, u8 → aK
open Go.Op renaming equalIn → fZ, operands → eD
open Go.Region renaming Mode → hO, binds → iq
open Go.Result renaming andThen_ok → aL
open Go.Sem renaming run_bind → aV, run_ite → eJ, run_pure → bp
open Go.Value renaming agg → al, bool → ah, func → aN, int → aC, pointer → bj, slice → ae, string → bt, tuple → av
open Go.World renaming putObj_heap_other → iH
open List renaming all_eq_true → bY, append_assoc → bP, append_nil → cp, cons_append → fh, eq_nil_of_length_eq_zero → bE, ext_getElem? → dH, foldl_cons → j7, length_append → bF, length_cons → bU, length_drop → da, length_pos_iff → fE, length_take → bq, map_congr_left → oX, map_cons → eK, mem_append → bG, mem_append_left → ey, mem_cons → cW, mem_cons_of_mem → cF, mem_cons_self → cj, mem_filter → fe, mem_map → cI, mem_of_getElem? → aM, mem_singleton → ba, nil_append → dL, nodup_append → fx, range → dA, rec → gj, replicate → aQ, take_append_drop → dM, take_succ_eq_append_getElem → eH
open List.cons renaming injEq → gI
open Nat renaming add_mul → dh, add_zero → eR, beq → dk, blt → cQ, eq_zero_or_pos → dv, le_add_right → du, le_refl → aT, le_succ → fA, le_trans → bN, lt_of_lt_of_le → cD, lt_or_ge → db, min_eq_left → dI, mod_eq_of_lt → ef, mod_lt → dJ, mul_le_mul_right → bM, mul_one → dB, strongRecOn → fj, zero_add → bJ, zero_le → ck
open Option renaming map_eq_some_iff → bo, map_some → gf, rec → fW, some → aa
open Option.some renaming inj → aG, injEq → aZ
open Prod.mk renaming injEq → bu
open List (drop_drop getElem?_append_left getElem?_append_right getElem?_drop getElem?_eq_none getElem?_take mem_range)
open Nat (add_assoc beq_eq blt_eq)
open Option (bind_some getD_some)
open Array (getElem?_eq_getElem getElem?_push getElem?_toList)
open Bool (or_eq_true)
open Go.IntKind (wrap_i64)
section
namespace Go
theorem dT{p:Prop} [Decidable p] (h:decide p=true):p:=of_decide_eq_true h
theorem dF{p:Prop} [Decidable p] (h:decide p=false):¬p:=of_decide_eq_false h
theorem oI{α:Type} {a b:α} (h:some a=some b):a=b:=Option.some.inj h
theorem gE{α:Type} {l:List α} {i:Nat} (h:i<l.length):l[i]? =some l[i]:=List.getElem?_eq_getElem h
theorem gD{α:Type} {l:List α} {i:Nat} {a:α}:l.getD i a=l[i]?.getD a:=List.getD_eq_getElem?_getD
theorem lM{α β:Type} {as:List α} (f:α→β):(as.map f).length=as.length:=List.length_map f
theorem iP.{u}{c:Prop}{h:Decidable c}(e:c){α:Sort u}{t f:α}:ite c t f=t:=if_pos e
theorem iN.{u}{c:Prop}{h:Decidable c}(e:¬c){α:Sort u}{t f:α}:ite c t f=f:=if_neg e
theorem eT{p:Prop}[i:Decidable p](h:p):decide p=true:=decide_eq_true h
theorem eF{p:Prop}[i:Decidable p](h:¬p):decide p=false:=decide_eq_false h
end Go
namespace Go
abbrev bw(p:Addr):Value:= .pointer (some p)
abbrev df(k o:Nat):Value:= .pointer (some ⟨k,o,none⟩)
abbrev gJ(k o n c:Nat):Value:= .slice (some ⟨k,o,none⟩) n c
abbrev aE(z:Int):Value:= .int .i64 z
abbrev bA(z:Int):Value:= .int .u64 z
end Go
namespace Go.Ab
noncomputable section
def gw(a:List Nat)(j i:Nat):Bool:=(a.getD j 0).testBit i
def l5(a:Array aR):List Nat:=(Region.before a).toList
def KN:List aR->Nat->Bool
 |[],_=>af
 |o::r,j=>(o.after.toList.all λe=>decide (e.on<j)||(!iq .any e && !iq .text e))&&KN r (j+1)
def ym(a:List Nat)(j:Nat)(t:Tmp):List aR->Nat->Bool
 |[],_=>af
 |o::r,i=>(match o.dst with|some d=>decide (d≠t)||decide (i=j)||gw a j i||gw a i j|none=>af)&&ym a j t r (i+1)
def LF(a:List Nat)(all:List aR):List aR->Nat->Bool
 |[],_=>af
 |o::r,j=>(o.op.operands.toList.all fun|.tmp t=>ym a j t all 0|_=>af)&&(match o.guard with|some (i,_)=>gw a j i|none=>af)&&LF a all r (j+1)
def DS:List aR->Nat->Bool
 |[],_=>af
 |o::r,m=>match o.dst with
  |some d=> !m.testBit d&&DS r (m|||2^d)
  |none=>DS r m
def Qd(a:Array aR):Bool:=
 KN a.toList 0&&DS a.toList 0&&(!Region.departs a||(Region.linearise .gc a 0).length==a.size)&&LF (l5 a) a.toList a.toList 0
def fN:Code->Bool
 |.region _ c af=>Qd c
 |.seq a b=>fN a&&fN b
 |.cond _ a b=>fN a&&fN b
 |.block _ a=>fN a
 |.loop a=>fN a
 |_=>af
def sf:Code->Bool
 |.seq a b=>sf a&&sf b
 |.cond _ a b=>sf a&&sf b
 |.block _ a=>sf a
 |.loop a=>sf a
 |.rangeFunc .. =>aj
 |_=>af
def qn(b a:Code):Bool:=fN b&&fN a&&sf b&&sf a
inductive LSt where
 |ready
 |busy
 |ret
 |exit (id:Nat)
def YB:Nat:=4611686018427387904
inductive eA where
 |cells (cs:List ag) (t:aF) (sz:Nat) (wr:Bool)
 |map (es:List (ag×ag))
 |loop (st:LSt) (tm:List ag) (ps:List Tmp) (asg body:Code) (ok:qn asg body=af)
 deriving Inhabited
inductive HT where
 |nil
 |node (v:Option eA) (l r:HT)
 deriving Inhabited
inductive KF where
 |e
 |l (p:KF)
 |r (p:KF)
noncomputable def He(f:Nat):Nat->KF:=
 Nat.rec (motive:=λ_=>Nat->KF) (λ_=> .e) (λ_ a n=>Nat.rec (motive:=λ_=>KF) .e (λk _=>Nat.rec (motive:=λ_=>KF) (.l (a (k/2))) (λ_ _=> .r (a (k/2))) (k%2)) n) f
noncomputable def pathOf(n:Nat):KF:=He (n+1) n
noncomputable def HT.Qq(t:HT):Option eA:=HT.rec (motive:=λ_=>Option eA) none (λv _ _ _ _=>v) t
noncomputable def HT.ahD(a:HT->Option eA)(t:HT):Option eA:=HT.rec (motive:=λ_=>Option eA) none (λ_ l _ _ _=>a l) t
noncomputable def HT.ahE(a:HT->Option eA)(t:HT):Option eA:=HT.rec (motive:=λ_=>Option eA) none (λ_ _ r _ _=>a r) t
noncomputable def HT.get(p:KF):HT->Option eA:=KF.rec (motive:=λ_=>HT->Option eA) HT.Qq (λ_=>HT.ahD) (λ_=>HT.ahE) p
noncomputable def HT.ah2(b:Option eA)(t:HT):HT:=HT.rec (motive:=λ_=>HT) (.node b .nil .nil) (λ_ l r _ _=> .node b l r) t
noncomputable def HT.ah3(a:HT->HT)(t:HT):HT:=HT.rec (motive:=λ_=>HT) (.node none (a .nil) .nil) (λv l r _ _=> .node v (a l) r) t
noncomputable def HT.ah4(a:HT->HT)(t:HT):HT:=HT.rec (motive:=λ_=>HT) (.node none .nil (a .nil)) (λv l r _ _=> .node v l (a r)) t
noncomputable def HT.set(b:Option eA)(p:KF):HT->HT:=KF.rec (motive:=λ_=>HT->HT) (HT.ah2 b) (λ_=>HT.ah3) (λ_=>HT.ah4) p
structure au where
 aD:Nat
 t:HT
 deriving Inhabited
noncomputable def au.get(h:au)(k:Nat):Option eA:=h.t.get (pathOf k)
noncomputable def au.set(h:au)(k:Nat)(b:eA):au:={ h with t:=h.t.set (aa b) (pathOf k) }
noncomputable def au.del(h:au)(k:Nat):au:={ h with t:=h.t.set none (pathOf k) }
noncomputable def au.push(h:au)(b:eA):au:={ aD:=h.aD+1,t:=h.t.set (aa b) (pathOf h.aD) }
def fg:Nat:=36893488147419103232
def dw(c:Nat):Nat:=if fg<=c then c-fg else c
abbrev qd:ag:= .chan (aa 0)
def eZ:ag->Bool
 |al _|av _|.chan _=>aj
 |_=>af
def bare:ag->Bool
 |ah _|aC _ _|.float _ _|.complex _ _ _|bt _|bj none|ae none 0 0|.map none|.nilFunc|.nilIface=>af
 |_=>aj
def plain:ag->Bool
 |al cs=>cs.toList.all bare
 |av cs=>cs.toList.all fun|al a=>a.toList.all bare|v=>bare v
 |v=>bare v
def ev(a:Nat->Bool)(b:List ag):bm->ag
 |.tmp t=>b.getD t undef
 |.const v=>if plain v then v else qd
 |.global g=>if a g then bj (aa ⟨g,0,none⟩)else qd
 |.func f=> .func (.func f) #[] #[]
def isAgg(P:aO)(t:aF):Bool:=match P.underlying t with|some (.struct _)|some (.array ..)=>af|_=>aj
def zeroOf(P:aO)(t:aF):Option ag:=match P.info? t with|some i=>(match i.zero with|some z=>if plain z then aa z else none|none=>none)|none=>none
def bZ(P:aO)(t:aF):Option Nat:=(P.info? t).map (·.size)
def partOf(P:aO)(t:aF)(cs:Array ag)(a:Nat):Option ag:=
 match P.underlying t with
 |none=>none
 |some _=>if isAgg P t then(bZ P t).map λn=> al (cs.extract a (a+n))else cs[a]?
def strOf(l:List UInt8):ag:= bt ⟨l.toArray⟩
def intCmp(a:BinOp)(x y:Int):Option Bool:=
 match a with
 |.eql=>aa (x==y)|.neq=>aa (x !=y)|.lss=>aa (decide (x<y))|.leq=>aa (decide (x<=y))|.gtr=>aa (decide (x>y))|.geq=>aa (decide (x>=y))
 |_=>none
def vh:List UInt8->List UInt8->Bool
 |_,[]=>aj
 |[],_::_=>af
 |a::x,b::y=>a<b||(a==b&&vh x y)
def Kj(a:BinOp)(x y:List UInt8):Option ag:=
 match a with
 |.add=>if x.length+y.length<=4611686018427387904 then aa (strOf (x++y))else none
 |.eql=>aa (ah (x==y))|.neq=>aa (.bool !(x==y))
 |.lss=>aa (ah (vh x y))|.leq=>aa (ah (vh x y||x==y))
 |.gtr=>aa (.bool !(vh x y||x==y))|.geq=>aa (.bool !(vh x y))
 |_=>none
def af4:ag->ag->Option Bool
 |ah a,ah b=>aa (a==b)
 |aC k a,aC c b=>if k=c then aa (a==b)else none
 |bt a,bt b=>aa (a.data.toList==b.data.toList)
 |_,_=>none
def Gk(P:aO)(t:aF)(x y:ag):Option Bool:=
 match P.underlying t,x,y with
 |some .bool,ah a,ah b=>aa (a==b)
 |some (.int _),aC k a,aC c b=>if k=c then aa (a==b)else none
 |some .string,bt a,bt b=>aa (a.data.toList==b.data.toList)
 |_,_,_=>none
def qj(P:aO):List Field->Nat->List ag->List ag->Option Bool
 |[],_,_,_=>aa af
 |f::c,i,x::a,y::b=>
  if f.offset=i/\f.name≠ "_" then
   match Gk P f.type x y with
   |some af=>qj P c (i+1) a b
   |some aj=>aa aj
   |none=>none
  else none
 |_::_,_,_,_=>none
def vn(P:aO)(t:aF)(x y:ag):Option Bool:=
 match x,y with
 |ah a,ah b=>match P.underlying t with|some .bool=>aa (a==b)|_=>none
 |bj none,.pointer b=>match P.underlying t with|some (.pointer _)=>aa b.isNone|_=>none
 |.pointer a,bj none=>match P.underlying t with|some (.pointer _)=>aa a.isNone|_=>none
 |bj (aa a),bj (aa b)=>match P.underlying t with|some (.pointer e)=>if a=b/\(bZ P e).any (· ≠0)then aa af else none|_=>none
 |ae none _ _,ae b _ _=>match P.underlying t with|some (.slice _)=>aa b.isNone|_=>none
 |ae a _ _,ae none _ _=>match P.underlying t with|some (.slice _)=>aa a.isNone|_=>none
 |.map none,.map b=>match P.underlying t with|some (.map ..)=>aa b.isNone|_=>none
 |.map a,.map none=>match P.underlying t with|some (.map ..)=>aa a.isNone|_=>none
 |.nilFunc,.nilFunc=>match P.underlying t with|some (.func ..)=>aa af|_=>none
 |.nilFunc,.func .. =>match P.underlying t with|some (.func ..)=>aa aj|_=>none
 |.func ..,.nilFunc=>match P.underlying t with|some (.func ..)=>aa aj|_=>none
 |.nilIface,.iface .. =>match P.underlying t with|some (.interface _)=>aa aj|_=>none
 |.iface ..,.nilIface=>match P.underlying t with|some (.interface _)=>aa aj|_=>none
 |al a,al b=>match P.underlying t with
  |some (.struct c)=>if P.stoodInHeld t=aj/\P.eqGuardType P.depth t=aj then qj P c.toList 0 a.toList b.toList else none
  |_=>none
 |_,_=>none
def ca(P:aO)(c:BinOp)(t:aF)(x y:ag):Option ag:=
 match x,y with
 | aC k a,aC d b=>
  match c with
  |.shl=>if 0<=b then aa (aC k (k.wrap (a*2^(min b.toNat k.bits))))else none
  |.shr=>if 0<=b then aa (aC k (a.fdiv (2^(min b.toNat k.bits))))else none
  | _=>
   if k=d then
    match c with
    |.add=>aa (aC k (k.wrap (a+b)))
    |.sub=>aa (aC k (k.wrap (a-b)))
    |.mul=>aa (aC k (k.wrap (a*b)))
    |.quo=>if b=0 then none else aa (aC k (k.wrap (a.tdiv b)))
    |.rem=>if b=0 then none else aa (aC k (a.tmod b))
    |.and=>aa (aC k (k.wrap (cZ k.bits a&&&cZ k.bits b).toNat))
    |.or=>aa (aC k (k.wrap (cZ k.bits a|||cZ k.bits b).toNat))
    |.xor=>aa (aC k (k.wrap (cZ k.bits a^^^cZ k.bits b).toNat))
    |.andNot=>aa (aC k (k.wrap (cZ k.bits a &&& ~~~cZ k.bits b).toNat))
    |c=>(intCmp c a b).map .bool
   else none
 |bt a,bt b=>Kj c a.data.toList b.data.toList
 |x,y=>match c with
  |.eql=>(vn P t x y).map .bool
  |.neq=>(vn P t x y).map λb=> .bool !b
  |_=>none
def Pj(a:UnOp)(x:ag):Option ag:=
 match a,x with
 |.neg,aC k n=>aa (aC k (k.wrap (0-n)))
 |.xor,aC k n=>aa (aC k (k.wrap (cZ k.bits (if k.signed then -1 else k.max)^^^cZ k.bits n).toNat))
 |.not,ah b=>aa (.bool !b)
 |_,_=>none
def iY:Option ag->Nat->Option Int
 |none,d=>aa d
 |some (aC _ n),_=>aa n
 |some _,_=>none
def dN(P:aO)(t:aF)(x:ag)(f c d:Option ag)(h:au):Option ag:=
 match x with
 | bt s=>
  match P.underlying t with
  |some .string=>match d,iY f 0,iY c s.data.toList.length with
   |none,aa l,aa r=>if 0<=l/\l<=r/\r<=(s.data.toList.length:Int)then aa (strOf ((s.data.toList.drop l.toNat).take (r-l).toNat))else none
   |_,_,_=>none
  |_=>none
 | ae none 0 0=>
  match P.underlying t with
  |some (.slice e)=>match d,iY f 0,iY c 0,bZ P e with
   |none,aa 0,aa 0,aa _=>aa (ae none 0 0)
   |_,_,_,_=>none
  |_=>none
 | ae (aa ⟨k,i,none⟩) j a=>
  match P.underlying t with
  | some (.slice e)=>match iY f 0,iY c j,bZ P e,h.get k with
   | some l,aa r,aa b,aa (.cells _ _ g _)=>
    if g=b\/g=0 then
     match d with
     |none=>if 0<=l/\l<=r/\r<=(dw a:Int)then aa (ae (aa ⟨k,i+l.toNat*b,none⟩) (r-l).toNat (a-l.toNat))else none
     |some (aC _ m)=>if 0<=l/\l<=r/\r<=m/\m<=(dw a:Int)/\m<fg/\c.isSome=af then aa (ae (aa ⟨k,i+l.toNat*b,none⟩) (r-l).toNat (m-l).toNat)else none
     |some _=>none
    else none
   |_,_,_,_=>none
  |_=>none
 | bj (aa ⟨k,i,none⟩)=>
  match P.underlying t with
  | some (.array n e)=>match d,iY f 0,iY c n,bZ P e,h.get k with
   |none,aa l,aa r,aa b,aa (.cells _ _ 0 _)=>
    if 0<=l/\l<=r/\r<=(n:Int)/\n<fg then aa (ae (aa ⟨k,i+l.toNat*b,none⟩) (r-l).toNat (n-l.toNat))else none
   |_,_,_,_,_=>none
  |_=>none
 |_=>none
def GZ:ag->Bool
 |.chan _=>aj
 |_=>af
def cJ(P:aO)(t:aF)(a:List (Nat×ag)):Option ag:=
 match zeroOf P t with
 |some _=>if a.all λp=>GZ p.2 then(P.built t a).map .agg else none
 |none=>none
def kX(P:aO)(b a:aF)(x:ag):Option ag:=
 match P.underlying b,P.underlying a,x with
 |some _,aa (.int k),aC _ n=>aa (aC k (k.wrap n))
 |some _,aa .string,bt s=>aa (bt s)
 |some (.pointer _),aa .unsafePointer,bj none=>aa x
 |some .unsafePointer,aa (.pointer _),bj none=>aa x
 |_,_,_=>none
def ud(c:Bool):List ag->Option ag
 |[]=>none
 |x::a=>a.foldlM (λx y=>match x,y with
  |aC k x,aC b y=>if k=b then aa (aC k (if c then(if y>x then y else x)else(if y<x then y else x)))else none
  |_,_=>none) x
def eN(P:aO)(g:bm->ag)(o:aR):Option ag:=
 match o.op with
 |.move x|.assign x=>aa (g x)
 |.pick c a b=>match g c with|ah t=>aa (if t then g a else g b)|_=>none
 |.build t q=>cJ P t (q.toList.map λp=>(p.1,g p.2))
 |.nilCheck x=>match g x with
  |bj none|.nilIface|.nilFunc=>none
  |aN (.method _) _ _=>none
  |.chan _=>none
  |v=>aa v
 |.binOp w t x y _=>ca P w t (g x) (g y)
 |.unOp w _ x=>Pj w (g x)
 |.convert s d x=>kX P s d (g x)
 |.makeInterface t x=>match P.underlying t with|some (.interface _)|none=>none|some _=>aa (.iface t (g x))
 |.makeFunc r first l=>match r with
  |.yield _=>none
  |r=>aa (aN r (first.map g) (l.map g))
 | .fieldAddr s x f=>match P.underlying s,g x with
  |some (.struct h),bj (aa a)=>match h[f]? with
   |some m=>if(bZ P m.type).any (· ≠0)then aa (bj (aa (a.add m.offset)))else none
   |none=>none
  |_,_=>none
 | .field t x f=>match P.underlying t,g x with
  |some (.struct h),al cs=>match h[f]? with
   |some m=>partOf P m.type cs m.offset
   |none=>none
  |_,_=>none
 | .indexAddr t x i=>match P.underlying t,g x,g i with
  |some (.array k e),bj (aa a),aC _ j=>match bZ P e with
   |some n=>if 0<=j/\j<(k:Int)then aa (bj (aa (a.add (j.toNat*n))))else none
   |none=>none
  |some (.slice e),ae (aa a) k _,aC _ j=>match bZ P e with
   |some n=>if 0<=j/\j<(k:Int)then aa (bj (aa (a.add (j.toNat*n))))else none
   |none=>none
  |_,_,_=>none
 | .index t x i=>match P.underlying t,g x,g i with
  |some (.array k e),al cs,aC _ j=>match bZ P e with
   |some n=>if 0<=j/\j<(k:Int)then partOf P e cs (j.toNat*n)else none
   |none=>none
  |some .string,bt s,aC _ j=>if 0<=j then match s.data.toList[j.toNat]? with|some b=>aa (aC aK b.toNat)|none=>none else none
  |_,_,_=>none
 |.typeAssert x _ u A=>match P.underlying u,g x with
  |some (.interface _),_|none,_=>none
  |some _,.nilIface=>if A then(zeroOf P u).map λz=> .tuple #[z,ah aj]else none
  |some _,.iface t v=>if t=u then aa (if A then .tuple #[v,ah af]else v)else if A then(zeroOf P u).map λz=> .tuple #[z,ah aj]else none
  |_,_=>none
 |.extract x i=>match g x with|av B=>B[i]?|_=>none
 |.call { callee:= .builtin .max,args,.. }=>ud af (args.toList.map g)
 |.call { callee:= .builtin .min,args,.. }=>ud aj (args.toList.map g)
 | .call { callee:= .builtin .cap,args,argTypes }=>match args[0]?,argTypes[0]? with
  |some x,aa t=>match P.underlying t,g x with
   |some (.slice _),ae _ _ c=>if c<fg then aa (aC ak c)else none
   |_,_=>none
  |_,_=>none
 |_=>none
def bytesOf:List ag->Option (List UInt8)
 |[]=>aa []
 |aC aK n::r=>if 0<=n/\n<256 then(bytesOf r).map (UInt8.ofNat n.toNat::·)else none
 |_=>none
def aS(P:aO)(t:aF)(h:au)(a:ag):Option ag:=
 match P.underlying t,a with
 | some _,bj (aa ⟨k,i,none⟩)=>match h.get k with
  | some (.cells cs ..)=>
   if isAgg P t then
    match bZ P t with
    |some n=>if((cs.drop i).take n).length=n then aa (al ((cs.drop i).take n).toArray)else none
    |none=>none
   else cs[i]?
  |_=>none
 |_,_=>none
def Ev:ag->Bool
 |ah _|aC _ _|bt _=>af
 |_=>aj
def nQ:ag->Bool
 |al cs=>cs.toList.all Ev
 |v=>Ev v
def Kb:ag->ag->Bool
 |ah a,ah b=>a==b
 |aC k a,aC c b=>decide (k=c)&&decide (a=b)
 |bt a,bt b=>decide (a.data.toList=b.data.toList)
 |_,_=>aj
def Hy:List ag->List ag->Bool
 |[],[]=>af
 |a::x,b::y=>Kb a b&&Hy x y
 |_,_=>aj
def OW:ag->ag->Bool
 |al a,al b=>Hy a.toList b.toList
 |a,b=>Kb a b
def XD(P:aO)(e:aF->ag->ag->Option Bool)(a b:Array ag):List Field->Option Bool
 |[]=>aa af
 |f::c=>if f.name≠ "_" then(match partOf P f.type a f.offset,partOf P f.type b f.offset with
  |some p,aa q=>(match e f.type p q with
   |some af=>XD P e a b c
   |some aj=>aa aj
   |none=>none)
  |_,_=>none)else none
def kY(P:aO):Nat->aF->ag->ag->Option Bool
 |0,_,_,_=>none
 |d+1,t,x,y=>match P.underlying t,x,y with
  |some (.struct c),al a,al b=>if P.stoodInHeld t=aj then XD P (kY P d) a b c.toList else none
  |_,x,y=>Gk P t x y
def Sd(P:aO)(c:aF->ag->Bool)(a:Array ag):List Field->Bool
 |[]=>af
 |f::b=>decide (f.name≠ "_")&&(match partOf P f.type a f.offset with|some p=>c f.type p|none=>aj)&&Sd P c a b
def Dm(P:aO):Nat->aF->ag->Bool
 |0,_,_=>aj
 |d+1,t,v=>match P.underlying t,v with
  |some (.struct b),al a=>Sd P (Dm P d) a b.toList
  |some .bool,ah _=>af
  |some (.int _),aC _ _=>af
  |some .string,bt _=>af
  |_,_=>aj
def rk(P:aO)(a:aF)(k:ag):Bool:=nQ k&&Dm P 3 a k
def tN(P:aO)(c:aF)(a b:ag):Option Bool:=
 if nQ b then match kY P 3 c a b with
  |some af=>if OW a b then aa af else none
  |r=>r
 else none
def rS(P:aO)(a:aF)(k:ag):List (ag×ag)->Option (Option ag)
 |[]=>aa none
 |(b,v)::c=>match tN P a k b with
  |some af=>aa (aa v)
  |some aj=>rS P a k c
  |none=>none
def dW(P:aO)(b:bm->ag)(o:aR)(h:au):Option ag:=
 match o.op with
 |.load t a=>aS P t h (b a)
 |.slice t x q p l=>dN P t (b x) (q.map b) (p.map b) (l.map b) h
 | .convert s d x=>match P.underlying s,P.underlying d,b x with
  | some (.slice e),aa .string,ae a f _=>match P.underlying e,a with
   |some (.int aK),none=>aa (strOf [])
   | some (.int aK),aa ⟨k,i,none⟩=>match h.get k with
    | some (.cells cs ..)=>
     if((cs.drop i).take f).length=f then
      (bytesOf ((cs.drop i).take f)).map strOf
     else none
    |_=>none
   |_,_=>none
  |_,_,_=>none
 | .lookup t m k j=>match P.underlying t with
  | some (.map g e)=>match (match b m with|.map none=>aa []|.map (aa r)=>(match h.get r with|some (.map c)=>aa c|_=>none)|_=>none),zeroOf P e with
   | some c,aa z=>
    if rk P g (b k)then match rS P g (b k) c with
     |some (aa v)=>aa (if j then .tuple #[v,ah af]else v)
     |some none=>aa (if j then .tuple #[z,ah aj]else z)
     |none=>none
    else none
   |_,_=>none
  |_=>none
 | .call { callee:= .builtin .len,args,argTypes }=>match args[0]?,argTypes[0]? with
  | some x,aa t=>match P.underlying t,b x with
   |some .string,bt s=>aa (aC ak s.data.toList.length)
   |some (.array n _),_=>aa (aC ak n)
   |some (.slice _),ae _ n _=>aa (aC ak n)
   |some (.map ..),.map none=>aa (aC ak 0)
   |some (.map ..),.map (aa r)=>match h.get r with
    |some (.map c)=>aa (aC ak c.length)
    |_=>none
   |_,_=>none
  |_,_=>none
 |_=>none
def fb(z:List ag):Nat->List ag
 |0=>[]
 |n+1=>z++fb z n
def dK(P:aO)(a:bm->ag)(o:aR):Option (eA×(Nat->ag)):=
 match o.op with
 |.alloc t=>match zeroOf P t with
  |some z=>if z.cells.toList.all eZ then aa (.cells z.cells.toList t 0 af,λk=> bj (aa ⟨k,0,none⟩))else none
  |none=>none
 |.box t x=>if(a x).cells.toList.all eZ then aa (.cells (a x).cells.toList t 0 af,λk=> bj (aa ⟨k,0,none⟩))else none
 | .buildSlice t g f=>match P.underlying t with
  | some (.slice e)=>match bZ P e,zeroOf P e with
   | some h,aa z=>
    if z.cells.size=h/\0<h/\g*h<=65536 then
     match (if f.toList.all λp=>GZ (a p.2)then jC (λi=>aa (i*h,h)) (fb z.cells.toList g).toArray (f.toList.map λp=>(p.1,a p.2))else none)with
     |some cs=>if cs.toList.all eZ then aa (.cells cs.toList e h af,λk=> ae (aa ⟨k,0,none⟩) g g)else none
     |none=>none
    else none
   |_,_=>none
  |_=>none
 | .makeSlice t l c=>match P.underlying t,a l,a c with
  | some (.slice e),aC ak l,aC ak c=>match P.info? e,zeroOf P e with
   | some i,aa z=>
    if z.cells.size=i.size/\0<i.size/\0<=l/\l<=c/\c*i.bytes<=140737488355328/\c<=1099511627776 then
     aa (.cells (fb z.cells.toList c.toNat) e i.size af,λk=> ae (aa ⟨k,0,none⟩) l.toNat c.toNat)
    else none
   |_,_=>none
  |_,_,_=>none
 | .makeMap t r=>match P.underlying t with
  |some (.map ..)=>match r with
   |none=>aa (.map [],λk=> .map (aa k))
   |some x=>match a x with|aC _ _=>aa (.map [],λk=> .map (aa k))|_=>none
  |_=>none
 | .convert s d x=>match P.underlying s,P.underlying d,a x with
  | some _,aa (.slice e),bt s=>match P.underlying e with
   |some (.int aK)=>match bZ P e with
    |some 1=>aa (.cells (s.data.toList.map λb=> aC aK b.toNat) e 1 af,λk=> ae (aa ⟨k,0,none⟩) s.data.toList.length (fg+s.data.toList.length))
    |_=>none
   |_=>none
  |_,_,_=>none
 |_=>none
inductive ek where
 |no
 |set (k:Nat) (b:eA)
 |push (b:eA)
 |move (k:Nat) (b:eA)
 |all (h:au)
 deriving Inhabited
def ek.app(u:ek)(h:au):au:=
 match u with
 |.no=>h
 |.set k b=>h.set k b
 |.push b=>h.push b
 |.move k b=>(h.del k).push b
 |.all a=>a
def storeAt(h:au)(k i:Nat)(a:List ag):Option ek:=
 match h.get k with
 |some (.cells cs t b af)=>if i+a.length<=cs.length/\a.all eZ then aa (.set k (.cells (cs.take i++a++cs.drop (i+a.length)) t b af))else none
 |_=>none
def gZ(h:au)(a:Nat)(x:ag):Option (List ag×Nat):=
 match x with
 |ae none 0 _=>aa ([],0)
 |ae (aa ⟨_,_,aa _⟩) 0 0=>aa ([],0)
 |ae (aa ⟨k,i,none⟩) n _=>match h.get k with
  |some (.cells cs ..)=>if((cs.drop i).take (n*a)).length=n*a then aa ((cs.drop i).take (n*a),n)else none
  |_=>none
 |bt s=>if a=1 then aa (s.data.toList.map λb=> aC aK b.toNat,s.data.toList.length)else none
 |_=>none
def fI(P:aO)(e:aF):Option TypeInfo:=
 match P.info? e,zeroOf P e with
 |some i,aa z=>if z.cells.size=i.size/\0<i.size then aa i else none
 |_,_=>none
def eI(P:aO)(t:aF):Bool:=match P.underlying t with|some (.slice _)|some .string=>af|_=>aj
def lO(h:au)(e:aF)(a d:Nat)(k j n c m:Nat)(b:List ag):Option (ag×ek):=
 if(n+m)*d<=70368744177664/\n+m<=1099511627776 then
  match h.get k with
  | some (.cells cs g f i)=>
   if g=e/\f=a/\((cs.drop j).take (n*a)).length=n*a then
    if c<fg then aa (ae (aa ⟨h.aD,0,none⟩) (n+m) (fg+(n+m)),.push (.cells ((cs.drop j).take (n*a)++b) e a af))
    else if i=af/\cs.length=j+n*a then aa (ae (aa ⟨h.aD,0,none⟩) (n+m) (fg+(n+m)),.move k (.cells ((cs.drop j).take (n*a)++b) e a af))
    else none
   else none
  |_=>none
 else none
def cG (P:aO)(t b:aF)(s x:ag)(h:au):Option (ag×ek):=
 match P.underlying t with
 | some (.slice e)=>match fI P e with
  | some i=>
   if eI P b=af then
    match gZ h i.size x with
    | some (a,m)=>
     if a.all eZ/\a.length=m*i.size then
      match s with
      | ae none 0 0=>if m=0 then aa (s,.no)else
        if m*i.bytes<=70368744177664/\m<=1099511627776 then aa (ae (aa ⟨h.aD,0,none⟩) m (fg+m),.push (.cells a e i.size af))else none
      | ae (aa ⟨k,j,none⟩) n c=>
       if m=0 then aa (s,.no)else
       if n+m<=dw c then
        (storeAt h k (j+n*i.size) a).map λu=>(ae (aa ⟨k,j,none⟩) (n+m) c,u)
       else lO h e i.size i.bytes k j n c m a
      |_=>none
     else none
    |none=>none
   else none
  |none=>none
 |_=>none
def copyV(P:aO)(t:aF)(d s:ag)(h:au):Option (ag×ek):=
 match P.underlying t with
 | some (.slice e)=>match bZ P e,d with
  | some b,ae a n _=>
   match gZ h b s with
   |some (cs,m)=>
    if n=0\/m=0 then aa (aC ak 0,.no)else
    match a with
    |some ⟨k,j,none⟩=>(storeAt h k j (cs.take (min m n*b))).map λu=>(aC ak (min m n:Nat),u)
    |_=>none
   |none=>none
  |_,_=>none
 |_=>none
def PZ(P:aO)(t:aF)(x:ag)(h:au):Option (ag×ek):=
 match P.underlying t,x with
 |some (.slice e),ae (aa ⟨k,j,none⟩) n _=>match zeroOf P e with
  |some z=>if n=0 then aa (undef,.no)else(storeAt h k j (fb z.cells.toList n)).map λu=>(undef,u)
  |none=>none
 |_,_=>none
abbrev fO:=bW->List ag->au->Option (ag×au)
def wQ(c:fO)(f:ag)(b:List ag)(h:au):Option (ag×ek):=
 match f with
 |aN (.func g) first a=>if g<YB then(c g (first.toList++b++a.toList) h).map λr=>(r.1,.all r.2)else none
 |aN (.yield k) first a=>if first.size=0/\a.size=0 then(c (YB+k) b h).map λr=>(r.1,.all r.2)else none
 |_=>none
def nP(P:aO)(b:aF)(k v:ag):List (ag×ag)->Option (List (ag×ag))
 |[]=>aa [(k,v)]
 |(a,v')::r=>match tN P b k a with
  |some af=>aa ((k,v)::r)
  |some aj=>(nP P b k v r).map ((a,v')::·)
  |none=>none
def ia(P:aO)(w:fO)(b:bm->ag)(o:aR)(h:au):Option (ag×ek):=
 match o.op with
 |.store t a x=>match b a with
  |bj (aa ⟨k,i,none⟩)=>if bZ P t=aa (b x).cells.size then(storeAt h k i (b x).cells.toList).map λu=>(undef,u)else none
  |_=>none
 | .mapUpdate t m k x|.insert t m k x=>match P.underlying t,b m with
  |some (.map p _),.map (aa r)=>match h.get r with
   |some (.map v)=>if rk P p (b k)then(nP P p (b k) (b x) v).map λj=>(undef,.set r (.map j))else none
   |_=>none
  |_,_=>none
 |.call { callee:= .value f,args,.. }=>wQ w (b f) (args.toList.map b) h
 |.call { callee:= .builtin .append,args,argTypes }=>match args.toList,argTypes.toList with
  |[s,x],[t,g]=>cG P t g (b s) (b x) h
  |_,_=>none
 |.call { callee:= .builtin .copy,args,argTypes }=>match args.toList,argTypes.toList with
  |[d,s],t::_=>copyV P t (b d) (b s) h
  |_,_=>none
 |.call { callee:= .builtin .clear,args,argTypes }=>match args.toList.map b,argTypes.toList with
  |[x],[t]=>PZ P t x h
  |_,_=>none
 |.call { callee:= .builtin .unsafeSliceData,args,.. }=>match args.toList.map b with
  |[ae none _ _]=>aa (bj none,.no)
  |[ae (aa a) _ c]=>if 0<dw c then aa (bj (aa a),.no)else none
  |_=>none
 | .call { callee:= .builtin .unsafeString,args,argTypes,.. }=>match args.toList.map b,argTypes[0]? with
  |[bj none,aC _ 0],aa _=>aa (strOf [],.no)
  | [bj (aa ⟨k,i,none⟩),aC _ n],aa y=>match h.get k,P.underlying y with
   | some (.cells cs e 1 af),aa (.pointer q)=>
    if e=q/\bZ P e=aa 1/\0<n/\n<9223372036854775807/\((cs.drop i).take n.toNat).length=n.toNat then
     match bytesOf ((cs.drop i).take n.toNat)with
     |some l=>aa (strOf l,.set k (.cells cs e 1 aj))
     |none=>none
    else none
   |_,_=>none
  |_,_=>none
 | .convert s d x=>match P.underlying s,P.underlying d,b x with
  |some (.pointer t),aa .unsafePointer,bj (aa ⟨k,0,none⟩)=>match h.get k with
   |some (.cells cs g 0 _)=>if t=g/\bZ P t=aa cs.length/\0<cs.length then aa (b x,.no)else none
   |_=>none
  |some .unsafePointer,aa (.pointer t),bj (aa ⟨k,0,none⟩)=>match h.get k with
   |some (.cells cs g 0 _)=>if t=g/\bZ P t=aa cs.length/\0<cs.length then aa (b x,.no)else none
   |_=>none
  |_,_,_=>none
 |_=>none
def fK(P:aO)(c:fO)(a:bm->ag)(o:aR)(h:au):Option (ag×ek):=
 match eN P a o with
 |some v=>aa (v,.no)
 | none=>match dW P a o h with
  |some v=>aa (v,.no)
  |none=>match dK P a o with
   |some (b,f)=>aa (f h.aD,.push b)
   |none=>ia P c a o h
def lR(a:List ag)(b:Option Tmp)(v:ag):List ag:=
 match b with
 |some d=>a.set d v
 |none=>a
def jX(c:Array aR)(e:List ag)(o:aR):Option Bool:=
 match o.guard with
 |none=>aa af
 | some (j,a)=>match (c[j]?).bind (·.dst)with
  |some d=>match e.getD d undef with
   |ah b=>aa (b==a)
   |av _=>aa aj
   |_=>none
  |none=>none
def pV(P:aO)(d:Nat->Bool)(e:fO)(c:Array aR):List aR->List ag->au->Option (List ag×au)
 |[],a,h=>aa (a,h)
 | o::b,a,h=>
  match jX c a o with
  |some af=>match fK P e (ev d a) o h with
   |some (v,u)=>pV P d e c b (lR a o.dst v) (u.app h)
   |none=>none
  |some aj=>pV P d e c b (lR a o.dst undef) h
  |none=>none
def Sk(e:ag->ag->Bool):List ag->List ag->Bool
 |[],[]=>af
 |a::x,b::y=>e a b&&Sk e x y
 |_,_=>aj
def oQ:Nat->ag->ag->Bool
 |0,_,_=>aj
 |d+1,v,v'=>match v,v' with
  |ah a,ah b=>a==b
  |aC k a,aC h b=>decide (k=h)&&decide (a=b)
  |bt a,bt b=>decide (a.data.toList=b.data.toList)
  |bj none,bj none=>af
  |bj (aa ⟨a,i,none⟩),bj (aa ⟨b,j,none⟩)=>decide (a=b)&&decide (i=j)
  |ae none n c,ae none g e=>decide (n=g)&&decide (c=e)
  |ae (aa ⟨a,i,none⟩) n c,ae (aa ⟨b,j,none⟩) g e=>decide (a=b)&&decide (i=j)&&decide (n=g)&&decide (c=e)
  |.map none,.map none=>af
  |.map (aa a),.map (aa b)=>decide (a=b)
  |.nilFunc,.nilFunc=>af
  |.nilIface,.nilIface=>af
  |aN (.func f) a c,aN (.func m) l e=>decide (f=m)&&Sk (oQ d) a.toList l.toList&&Sk (oQ d) c.toList e.toList
  |.iface t v,.iface o v'=>decide (t=o)&&oQ d v v'
  |al a,al b=>Sk (oQ d) a.toList b.toList
  |av a,av b=>Sk (oQ d) a.toList b.toList
  |_,_=>aj
inductive rI where
 |skip
 |pure (v:ag)
 |read (v:ag)
 |alloc (B:eA) (v:ag)
 |zD (v:ag) (h:au)
 deriving Inhabited
def rI.val:rI->ag
 |.skip=>undef
 |.pure v|.read v|.alloc _ v|.zD v _=>v
def cr(h:au)(a:Nat):List (Nat×eA)->au
 |[]=>h
 |(i,B)::r=>(cr h a r).set (a+i) B
def hE (P:aO)(i:Nat->Bool)(k:fO)(e:Array aR)(g:Nat->Nat->Bool)(a:Nat):List aR->Nat->List ag->au->List (Nat×eA)->Option (List (List ag×rI)×List ag×au×List (Nat×eA))
 |[],_,b,h,d=>aa ([],b,h,d)
 | o::c,j,b,h,d=>
  match jX e b o with
  |none=>none
  |some aj=>(hE P i k e g a c (j+1) (lR b o.dst undef) h d).map λr=>((b,.skip)::r.1,r.2)
  | some af=>
   match eN P (ev i b) o with
   |some v=>(hE P i k e g a c (j+1) (lR b o.dst v) h d).map λr=>((b,.pure v)::r.1,r.2)
   | none=>
    match dW P (ev i b) o h with
    |some v=>(hE P i k e g a c (j+1) (lR b o.dst v) h d).map λr=>((b,.read v)::r.1,r.2)
    | none=>
     match dK P (ev i b) o with
     |some (B,f)=>(hE P i k e g a c (j+1) (lR b o.dst (f (a+j))) h ((j,B)::d)).map λr=>((b,.alloc B (f (a+j)))::r.1,r.2)
     | none=>
      match ia P k (ev i b) o (cr h a (d.filter λp=>g j p.1))with
      | some (v,u)=>
       (hE P i k e g a c (j+1) (lR b o.dst v) (u.app (cr h a (d.filter λp=>g j p.1))) (d.filter λp=> !g j p.1)).map λr=>
        ((b,.zD v (u.app (cr h a (d.filter λp=>g j p.1))))::r.1,r.2)
      |none=>none
def iV{a:Type}:List (a×rI)->Nat->List (Nat×au)
 |[],_=>[]
 |(_,.zD _ h)::r,j=>(j,h)::iV r (j+1)
 |_::r,j=>iV r (j+1)
def chained(a:Nat->Nat->Bool):List (Nat×au)->Bool
 |(i,_)::(j,h)::r=>a j i&&chained a ((j,h)::r)
 |_=>af
def nu(P:aO)(a:Nat->Bool)(o:aR)(b:List ag)(v:ag)(h:au):Bool:=
 match dW P (ev a b) o h with
 |some v'=>oQ 4 v v'
 |none=>aj
def pY(P:aO)(c:Nat->Bool)(b:Nat->Nat->Bool)(j:Nat)(o:aR)(d:List ag)(v:ag):au->List (Nat×au)->Bool->Bool
 |h,[],a=>a||nu P c o d v h
 |h,(e,f)::r,a=>((a&&cQ j e)||b j e||nu P c o d v h)&&(b e j||pY P c b j o d v f r (cQ e j))
def lT(P:aO)(b:Nat->Bool)(a:Nat->Nat->Bool)(h:au)(d:List (Nat×au)):List aR->List (List ag×rI)->Nat->Bool
 |o::c,(e,.read v)::r,j=>pY P b a j o e v h d af&&lT P b a h d c r (j+1)
 |_::c,_::r,j=>lT P b a h d c r (j+1)
 |_,_,_=>af
def yx(P:aO)(e:Nat->Bool)(i:fO)(a:Array aR)(c:Nat->Nat->Bool)(f:List ag)(h:au):Option (List ag×au):=
 match hE P e i a c h.aD a.toList 0 f { h with aD:=h.aD+a.size } []with
 |some (b,d,g,j)=>
  if chained c (iV b 0)&&lT P e c { h with aD:=h.aD+a.size } (iV b 0) a.toList b 0 then aa (d,cr g h.aD j)else none
 |none=>none
def adx(o:aR):Bool:=match o.op with|.insert .. =>af|_=>aj
def agf(o:aR):Bool:=match o.op with|.store .. =>af|_=>aj
def Ah(a:Array aR):Bool:=
 a.toList.any adx&&(dA a.size).any λj=>(match a[j]? with|some o=>agf o|none=>aj)&&(dA j).any λi=>(match a[i]? with|some o=>adx o|none=>aj) && !gw (l5 a) j i
def mZ:bW->List ag->au->Option (ag×au):=λ_ _ _=>none
def agB(P:aO)(a:bm->ag)(o:aR)(k:Nat)(h:au):Option (ag×Option (Nat×eA)):=
 match eN P a o with
 |some v=>aa (v,none)
 | none=>match dW P a o h with
  |some v=>aa (v,none)
  | none=>match dK P a o with
   |some (b,f)=>aa (f k,aa (k,b))
   |none=>match ia P mZ a o h with
    |some (v,.no)=>aa (v,none)
    |some (v,.set i b)=>aa (v,aa (i,b))
    |_=>none
abbrev Pt:=List ag×au×List Nat
def NW(s:Pt)(a:Option Tmp)(v:ag):Option (Nat×eA)->Pt
 |none=>(lR s.1 a v,s.2.1,s.2.2)
 |some (k,b)=>(lR s.1 a v,s.2.1.set k b,k::s.2.2)
def Pb(P:aO)(c:Nat->Bool)(a:Array aR)(b j:Nat)(s:Pt):Option Pt:=
 match a[j]? with
 | some o=>match jX a s.1 o with
  |some af=>match agB P (ev c s.1) o (b+j) s.2.1 with
   |some (v,u)=>aa (NW s o.dst v u)
   |none=>none
  |some aj=>aa (NW s o.dst undef none)
  |none=>none
 |none=>none
def Pd(P:aO)(c:Nat->Bool)(b:Array aR)(a:Nat):Nat->Nat->Pt->Option Pt
 |0,_,s=>aa s
 |n+1,j,s=>match Pb P c b a j s with
  |some d=>Pd P c b a n (j+1) d
  |none=>none
def Dg:List (ag×ag)->List (ag×ag)->Bool
 |[],[]=>af
 |(a,b)::x,(c,d)::y=>oQ 4 a c&&oQ 4 b d&&Dg x y
 |_,_=>aj
def Xb:eA->eA->Bool
 |.cells cs t e g,.cells b h d c=>Sk (oQ 4) cs b&&dk t h&&dk e d&&(g==c)
 |.map f,.map a=>Dg f a
 |_,_=>aj
def aaX(h a:au)(k:Nat):Bool:=match h.get k,a.get k with
 |some B,aa C=>Xb B C
 |none,none=>af
 |_,_=>aj
def XC(s a:Pt):Bool:=Sk (oQ 4) s.1 a.1&&s.2.2.all (aaX s.2.1 a.2.1)&&a.2.2.all (aaX s.2.1 a.2.1)
def WL(P:aO)(e:Nat->Bool)(b:Array aR)(d:Nat->Nat->Bool)(c:Nat)(fin:Pt):Nat->List Nat->Pt->Bool
 |0,_,s=>XC fin s
 |n+1,a,s=>(dA b.size).all λj=>a.contains j||((dA j).any λi=>d j i && !a.contains i)||(match Pb P e b c j s with|some f=>WL P e b d c fin n (j::a) f|none=>aj)
def Jj(P:aO)(b:Nat->Bool)(a:Array aR)(d:Nat->Nat->Bool)(c:List ag)(h:au):Option (List ag×au):=
 match Pd P b a h.aD a.size 0 (c,{ h with aD:=h.aD+a.size },[])with
 |some fin=>if WL P b a d h.aD fin a.size [] (c,{ h with aD:=h.aD+a.size },[])then aa (fin.1,fin.2.1)else none
 |none=>none
def D8(P:aO)(b:Nat->Bool)(d:fO)(a:Array aR)(c:List ag)(h:au):Option (List ag×au):=
 if Ah a then Jj P b a (gw (l5 a)) c h else yx P b d a (gw (l5 a)) c h
def iter(a:List ag->au->Option (Exit×List ag×au)):Nat->List ag->au->Option (Exit×List ag×au)
 |0,_,_=>none
 |n+1,c,h=>match a c h with
  |some (.normal,b,d)=>iter a n b d
  |r=>r
def wS(P:aO)(g:bW):Bool:=match P.funcs[g]? with|some a=>a.body.isSome|none=>aj
def SI:Option eA->Option Exit
 |some (.loop .ready ..)=>aa .normal
 |some (.loop .ret ..)=>aa .ret
 |some (.loop (.exit a) ..)=>aa (.exit a)
 |_=>none
def dj(P:aO)(i:Nat->Bool)(j:fO)(N:Nat):Code->List ag->au->Option (Exit×List ag×au)
 |.skip,d,h=>aa (.normal,d,h)
 |.region _ m aj,d,h=>(pV P i j m m.toList d h).map λr=>(.normal,r.1,r.2)
 |.region _ m af,d,h=>(D8 P i j m d h).map λr=>(.normal,r.1,r.2)
 |.seq a b,d,h=>match dj P i j N a d h with
  |some (.normal,l,o)=>dj P i j N b l o
  |r=>r
 |.cond c a b,d,h=>match ev i d c with
  |ah t=>if t then dj P i j N a d h else dj P i j N b d h
  |_=>none
 |.block s c,d,h=>match dj P i j N c d h with
  |some (.exit q,l,o)=>if q=s then aa (.normal,l,o)else aa (.exit q,l,o)
  |r=>r
 |.loop c,d,h=>iter (dj P i j N c) N d h
 |.exit s,d,h=>aa (.exit s,d,h)
 |.ret,d,h=>aa (.ret,d,h)
 |.label _,d,h=>aa (.normal,d,h)
 | .rangeFunc f v p n,d,h=>match ev i d f with
  | aN (.func g) first k=>
   if w:qn p n=af then
    if g<YB/\wS P g=af then
     match j g (first.toList++[.func (.yield h.aD) #[] #[]]++k.toList) (h.push (.loop .ready d v.toList p n w))with
     |some (_,u)=>(SI (u.get h.aD)).map λe=>(e,d,u.del h.aD)
     |none=>none
    else none
   else none
  |_=>none
 |_,_,_=>none
def ye(a:List ag)(b:List (Tmp×ag)):List ag:=b.foldl (λa p=>a.set p.1 p.2) a
def N2:Exit->Option (Bool×LSt)
 |.normal=>aa (af,.ready)
 |.ret=>aa (aj,.ret)
 |.exit a=>aa (aj,.exit a)
 |_=>none
def uT(f:Code->List ag->au->Option (Exit×List ag×au))(k:Nat)(a:List ag)(h:au):Option (ag×au):=
 match h.get k with
 | some (.loop .ready w v m g _)=>
  if a.length=v.length then
   match f m (ye w (v.zip a)) h with
   | some (.normal,t,p)=>match p.get k with
    | some (.loop .ready l s i c q)=>match f g t (p.set k (.loop .busy l s i c q))with
     |some (e,_,r)=>match r.get k,N2 e with
      |some (.loop _ n o j d u),aa (b,x)=>aa (ah b,r.set k (.loop x n o j d u))
      |_,_=>none
     |none=>none
    |_=>none
   |_=>none
  else none
 |_=>none
def fY(P:aO)(b:List ag)(h:au):List ResultVar->Option (List ag)
 |[]=>aa []
 |.tmp t::r=>(fY P b h r).map (b.getD t undef::·)
 |.cell a t::r=>match aS P t h (b.getD a undef)with
  |some v=>(fY P b h r).map (v::·)
  |none=>none
def fP:List ag->ag
 |[v]=>v
 |a=> av a.toArray
abbrev rW:=fO->List ag->au->Option (ag×au)
def dP(P:aO)(b:Nat->Bool)(g:bW->Option rW):Nat->fO
 |0,_,_,_=>none
 | n+1,f,a,h=>if YB<=f then uT (dj P b (dP P b g n) n) (f-YB) a h else match g f with
  |some p=>p (dP P b g n) a h
  | none=>match P.funcs[f]? with
   | some e=>match e.body with
    |some c=>match dj P b (dP P b g n) n c (a++aQ (e.ntmps-a.length) undef) h with
     |some (.normal,j,d)=>(fY P j d e.results.toList).map λi=>(fP i,d)
     |some (.ret,j,d)=>(fY P j d e.results.toList).map λi=>(fP i,d)
     |_=>none
    |none=>none
   |none=>none
end
end Go.Ab
end
section
namespace Go.Ab
variable{v:ag}{V:Array ag}{A:Type}
section
theorem HT.get_nil:∀p,HT.get p .nil=none
 |.e=>rfl
 |.l _=>rfl
 |.r _=>rfl
theorem HT.gK(b:Option eA):∀(p:KF)(t:HT),HT.get p (HT.set b p t)=b
 |.e,.nil=>rfl
 |.e,.node .. =>rfl
 |.l p,.nil=>HT.gK b p .nil
 |.l p,.node _ l _=>HT.gK b p l
 |.r p,.nil=>HT.gK b p .nil
 |.r p,.node _ _ r=>HT.gK b p r
theorem HT.eW(b:Option eA):∀(p q:KF)(t:HT),q≠p->HT.get q (HT.set b p t)=HT.get q t
 |.e,.e,_,h=>absurd rfl h
 |.e,.l q,.nil,_=>HT.get_nil q
 |.e,.r q,.nil,_=>HT.get_nil q
 |.e,.l _,.node ..,_=>rfl
 |.e,.r _,.node ..,_=>rfl
 |.l p,.e,.nil,_=>rfl
 |.l p,.e,.node ..,_=>rfl
 |.l p,.l q,.nil,h=>(HT.eW b p q .nil (λe=>h (by rw[e]))).trans (HT.get_nil q)
 |.l p,.l q,.node _ l _,h=>HT.eW b p q l (λe=>h (by rw[e]))
 |.l p,.r q,.nil,_=>HT.get_nil q
 |.l p,.r q,.node ..,_=>rfl
 |.r p,.e,.nil,_=>rfl
 |.r p,.e,.node ..,_=>rfl
 |.r p,.r q,.nil,h=>(HT.eW b p q .nil (λe=>h (by rw[e]))).trans (HT.get_nil q)
 |.r p,.r q,.node _ _ r,h=>HT.eW b p q r (λe=>h (by rw[e]))
 |.r p,.l q,.nil,_=>HT.get_nil q
 |.r p,.l q,.node ..,_=>rfl
def KF.num:KF->Nat
 |.e=>0
 |.l p=>2*p.num+1
 |.r p=>2*p.num+2
theorem JI:∀(f n:Nat),n<f->(He f n).num=n
 |0,_,h=>absurd h (by omega)
 |f+1,0,_=>rfl
 |f+1,k+1,h=>by
  have c:=JI f (k/2) (by omega);have b:He (f+1) (k+1)=Nat.rec (motive:=λ_=>KF) (.l (He f (k/2))) (λ_ _=> .r (He f (k/2))) (k%2):=rfl;rw[b];rcases Nat.mod_two_eq_zero_or_one k with a|a
  ·rw[a];show 2*(He f (k/2)).num+1=k+1;omega
  ·rw[a];show 2*(He f (k/2)).num+2=k+1;omega
theorem QR(n:Nat):(pathOf n).num=n:=JI (n+1) n (by omega)
theorem yM{k j:Nat}(h:j≠k):pathOf j≠pathOf k:=λe=>h (by grind[QR])
section
variable (h:au) (k j:Nat) (b:eA)
theorem au.gK:(h.set k b).get k=aa b:=HT.gK _ _ _
theorem au.eW(a:j≠k):(h.set k b).get j=h.get j:=HT.eW _ _ _ _ (yM a)
theorem au.La:(h.del k).get k=none:=HT.gK _ _ _
theorem au.Qr(a:j≠k):(h.del k).get j=h.get j:=HT.eW _ _ _ _ (yM a)
theorem au.mg:(h.push b).get h.aD=aa b:=HT.gK _ _ _
theorem au.mV(a:j≠h.aD):(h.push b).get j=h.get j:=HT.eW _ _ _ _ (yM a)
@[simp] theorem au.agx:(h.set k b).aD=h.aD:=rfl
@[simp] theorem au.agw:(h.del k).aD=h.aD:=rfl
@[simp] theorem au.afn:(h.push b).aD=h.aD+1:=rfl
theorem au.cE:(h.set k b).get j=if j=k then aa b else h.get j:=by
 split
 ·next e=>subst e;exact h.gK j b
 ·next e=>exact h.eW k j b e
theorem au.iD:(h.del k).get j=if j=k then none else h.get j:=by
 split
 ·next e=>subst e;exact h.La j
 ·next e=>exact h.Qr k j e
theorem au.cY:(h.push b).get j=if j=h.aD then aa b else h.get j:=by
 split
 ·next e=>subst e;exact h.mg b
 ·next e=>exact h.mV j b e
end
structure Slot where
 b:Nat
 s:Nat
 n:Nat
 t:aF
 sz:Nat
 isMap:Bool
abbrev gC:=Nat->Option Slot
def gC.le(c a:gC):Prop:=∀k b,c k=aa b->a k=aa b
theorem gC.le_refl(a:gC):a.le a:=λ_ _ h=>h
theorem gC.le_trans{a b c:gC}(h:a.le b)(e:b.le c):a.le c:=λk d f=>e k d (h k d f)
def abM:Fn->Bool
 |.yield _=>af
 |_=>aj
inductive cz(β:gC):ag->ag->Prop where
 |qd (v:ag):cz β (.chan (aa 0)) v
 |bool (b:Bool):cz β (ah b) (ah b)
 |int (k:ee) (n:Int):cz β (aC k n) (aC k n)
 |float (k:FloatKind) (n:Nat):cz β (.float k n) (.float k n)
 |complex (k:FloatKind) (m n:Nat):cz β (.complex k m n) (.complex k m n)
 |string (s:ByteArray):cz β (bt s) (bt s)
 |nilPtr:cz β (bj none) (bj none)
 |ptr {k i:Nat} {sl:Slot} (h:β k=aa sl) (hm:sl.isMap=aj):cz β (df k i) (df sl.b (sl.s+i))
 |rp:cz β (ae none 0 0) (ae none 0 0)
 | slice {k i n c i' c':Nat} {sl:Slot} (h:β k=aa sl) (hm:sl.isMap=aj) (hx:c<fg->c'=c) (ho:fg<=c->c-fg<=c') (hn:n<=dw c)
   (hi:i'=sl.s+i\/(n=0/\c'=0)) (hz:sl.sz=0\/i'+c'*sl.sz<=sl.n):cz β (gJ k i n c) (gJ sl.b i' n c')
 |dead (a:aJ):cz β (ae (aa ⟨0,0,aa 0⟩) 0 0) (ae (aa a) 0 0)
 |QO:cz β (.map none) (.map none)
 |map {k:Nat} {sl:Slot} (h:β k=aa sl) (hm:sl.isMap=af):cz β (.map (aa k)) (.map (aa sl.b))
 | func {fn:Fn} {a a' c c':Array ag} (hy:abM fn=aj) (ha:a.size=a'.size) (hc:c.size=c'.size) (ra:∀(i:Nat) v v',a[i]?=aa v->a'[i]?=aa v'->cz β v v')
   (rc:∀(i:Nat) v v',c[i]?=aa v->c'[i]?=aa v'->cz β v v'):cz β (aN fn a c) (aN fn a' c')
 |yield {k:Nat} {sl:Slot} (h:β k=aa sl) {a c:Array ag} (ha:a.size=0) (hc:c.size=0):cz β (aN (.yield k) a c) (aN (.yield sl.b) a c)
 |nilFunc:cz β .nilFunc .nilFunc
 |iface (t:aF) {v v':ag} (h:cz β v v'):cz β (.iface t v) (.iface t v')
 |nilIface:cz β .nilIface .nilIface
 |agg {a a':Array ag} (hs:a.size=a'.size) (h:∀(i:Nat) v v',a[i]?=aa v->a'[i]?=aa v'->cz β v v'):cz β (al a) (al a')
 |tuple {a a':Array ag} (hs:a.size=a'.size) (h:∀(i:Nat) v v',a[i]?=aa v->a'[i]?=aa v'->cz β v v'):cz β (av a) (av a')
theorem cz.mono{p g:gC}(d:p.le g){v v':ag}(h:cz p v v'):cz g v v':=by
 induction h with
 |qd v=>exact .qd v
 |bool b=>exact .bool b
 |int k n=>exact .int k n
 |float k n=>exact .float k n
 |complex k m n=>exact .complex k m n
 |string s=>exact .string s
 |nilPtr=>exact .nilPtr
 |ptr h e=>exact .ptr (d _ _ h) e
 |rp=>exact .rp
 |slice h e r y q x z=>exact .slice (d _ _ h) e r y q x z
 |dead a=>exact .dead a
 |QO=>exact .QO
 |map h e=>exact .map (d _ _ h) e
 |yield h l o=>exact .yield (d _ _ h) l o
 |func A l o _ _ w u=>exact .func A l o (λi v v' h c=>w i v v' h c) (λi v v' h c=>u i v v' h c)
 |nilFunc=>exact .nilFunc
 |iface t _ f=>exact .iface t f
 |nilIface=>exact .nilIface
 |agg j _ f=>exact .agg j λi v v' h c=>f i v v' h c
 |tuple j _ f=>exact .tuple j λi v v' h c=>f i v v' h c
theorem cz.undef(a:gC):cz a undef undef:= .tuple rfl (λi v v' h=>by grind)
theorem cz.Cg{a:gC}(h:bare v=af):cz a v v:=by
 unfold bare at h;split at h<;>first
  |exact .bool _|exact .int _ _|exact .float _ _|exact .complex _ _ _|exact .string _|exact .nilPtr|exact .rp|exact .QO|exact .nilFunc|exact .nilIface
  |cases h
theorem cz.xm{a:gC}{cs:Array ag}(h:cs.toList.all bare=af)(i:Nat)(v v':ag)(b:cs[i]?=aa v)(c:cs[i]?=aa v'):cz a v v':=by grind[Cg]
theorem cz.ti{c:gC}(h:plain v=af):cz c v v:=by
 unfold plain at h;split at h
 ·exact .agg rfl (cz.xm h)
 ·refine .tuple rfl λi v v' a b=>?_;rw[a]at b;obtain rfl:=aG b;rw[<-getElem?_toList]at a;have:=bY.1 h v (aM a);split at this
  ·exact .agg rfl (cz.xm this)
  ·exact .Cg this
 grind[Cg]
def mM(c:gC)(a b:Array ag):Prop:=a.size=b.size/\∀(i:Nat) v v',a[i]?=aa v->b[i]?=aa v'->cz c v v'
def dx(a:gC)(l l':List ag):Prop:=l.length=l'.length/\∀(i:Nat) v v',l[i]?=aa v->l'[i]?=aa v'->cz a v v'
theorem mM.toList{b:gC}{a:Array ag}:mM b a V↔dx b a.toList V.toList:=by simp[mM,dx]
theorem dx.nil(a:gC):dx a [] []:=⟨rfl,λi v v' h=>by grind⟩
theorem dx.cons{b:gC}{v v':ag}{l l':List ag}(h:cz b v v')(c:dx b l l'):dx b (v::l) (v'::l'):=
 ⟨by simp[c.1],λi a d e f=>by
  cases i with
  |zero=>grind
  |succ i=>exact c.2 i a d (by grind) (by grind)⟩
theorem dx.head{a:gC}{v':ag}{l l':List ag}(h:dx a (v::l) (v'::l')):cz a v v':=h.2 0 v v' rfl rfl
theorem dx.tail{b:gC}{v':ag}{l l':List ag}(h:dx b (v::l) (v'::l')):dx b l l':=
 ⟨by have:=h.1;grind,λi a c d e=>h.2 (i+1) a c (by grind) (by grind)⟩
theorem dx.jf{a:gC}{l:List ag}(h:dx a [] l):l=[]:=bE h.1.symm
theorem dx.fX{a:gC}{l l':List ag}(h:dx a (v::l) l'):∃v' r,l'=v'::r/\cz a v v'/\dx a l r:=by
 cases l' with
 |nil=>have:=h.1;grind
 |cons v' r=>exact⟨v',r,rfl,h.head,h.tail⟩
theorem dx.mono{c a:gC}(b:c.le a){l l':List ag}(h:dx c l l'):dx a l l':=⟨h.1,λi v v' d e=>(h.2 i v v' d e).mono b⟩
theorem dx.append{e:gC}:∀{a c b d:List ag},dx e a c->dx e b d->dx e (a++b) (c++d)
 |[],c,b,d,h,f=>by rw[h.jf];grind
 |v::a,c,b,d,h,f=>by
  obtain⟨v',r,rfl,g,i⟩:=h.fX;exact .cons g (i.append f)
theorem dx.map{b:gC}(l:List A){f a:A->ag}(h:∀x∈l,cz b (f x) (a x)):dx b (l.map f) (l.map a):=
 ⟨by simp,λi v v' c d=>by grind⟩
theorem cz.Rk{b:gC}{v':ag}(h:cz b v v')(a:eZ v=af):v'.oneCell'=af/\v.cells = #[v]/\v'.cells = #[v']:=by
 cases h<;>first|(simp[eZ]at a;done)|exact⟨rfl,rfl,rfl⟩
theorem cz.cells{d:gC}{v':ag}(h:cz d v v')(g:v≠Ab.qd):mM d v.cells v'.cells:=by
 cases h with
 |qd=>grind
 |agg e h=>exact⟨e,h⟩
 |_=>
  refine⟨rfl,λi a f b c=>?_⟩
  cases i with
  |zero=>simp[Value.cells]at b c;subst b;subst c;constructor<;>assumption
  |succ i=>simp[Value.cells]at b
end
end Go.Ab
end
section
namespace Go.Ab
open Go
variable{n:Nat}{v:ag}
noncomputable section
def HT.kE(b:Option eA)(t:HT)(K:HT->Bool):Bool:=HT.rec (motive:=λ_=>Bool) (K (.node b .nil .nil)) (λ_ l r _ _=>K (.node b l r)) t
def HT.kL(a:HT->(HT->Bool)->Bool)(t:HT)(K:HT->Bool):Bool:=HT.rec (motive:=λ_=>Bool) (a .nil λl=>K (.node none l .nil)) (λv l r _ _=>a l λl=>K (.node v l r)) t
def HT.kR(a:HT->(HT->Bool)->Bool)(t:HT)(K:HT->Bool):Bool:=HT.rec (motive:=λ_=>Bool) (a .nil λr=>K (.node none .nil r)) (λv l r _ _=>a r λr=>K (.node v l r)) t
def HT.uR(b:Option eA)(p:KF):HT->(HT->Bool)->Bool:=KF.rec (motive:=λ_=>HT->(HT->Bool)->Bool) (HT.kE b) (λ_=>HT.kL) (λ_=>HT.kR) p
theorem HT.kC(b:Option eA):∀(p:KF)(t:HT)(K:HT->Bool),HT.uR b p t K=K (HT.set b p t)
 |.e,.nil,_=>rfl
 |.e,.node ..,_=>rfl
 |.l p,.nil,K=>HT.kC b p .nil λl=>K (.node none l .nil)
 |.l p,.node v l r,K=>HT.kC b p l λl=>K (.node v l r)
 |.r p,.nil,K=>HT.kC b p .nil λr=>K (.node none .nil r)
 |.r p,.node v l r,K=>HT.kC b p r λr=>K (.node v l r)
abbrev Env:=HT
def Gi:Env:= .nil
def afT(l:List ag):ag:=gj (motive:=λ_=>ag) undef (λv _ _=>v) l
def afS(B:eA):ag:=eA.rec (motive:=λ_=>ag) (λcs _ _ _=>afT cs) (λ_=>undef) (λ_ _ _ _ _ _=>undef) B
def afU(b:Option eA):ag:=fW (motive:=λ_=>ag) undef afS b
def Env.get(t:Nat)(e:Env):ag:=afU (HT.get (pathOf t) e)
def Env.put(t:Nat)(e:Env)(v:ag)(K:Env->Bool):Bool:=HT.uR (aa (.cells [v] 0 0 af)) (pathOf t) e K
def Env.new(t:Nat)(e:Env)(v:ag):Env:=HT.set (aa (.cells [v] 0 0 af)) (pathOf t) e
theorem Env.put_eq(t:Nat)(e:Env)(v:ag)(K:Env->Bool):Env.put t e v K=K (Env.new t e v):=HT.kC ..
theorem Gj(t:Nat):Env.get t Gi=undef:=by
 unfold Env.get Gi;rw[HT.get_nil];rfl
theorem Env.Lb{t:Nat}{e:Env}(a:t<256):Env.get n (Env.new t e v)=if n=t then v else Env.get n e:=by
 unfold Env.get Env.new;by_cases h:n=t
 ·rw[h,HT.gK,iP rfl];rfl
 ·rw[HT.eW _ _ _ _ (yM h),iN h]
end
variable{u:ee}
section
noncomputable section
variable {α:Type}
def r5(n:Nat)(c:Nat->Bool):Bool:=Nat.rec (motive:=λ_=>Bool) (c 0) (λm _=>c (m+1)) n
def af6(n:Int)(c:Int->Bool):Bool:=Int.rec (motive:=λ_=>Bool) (λn=>r5 n λn=>c (.ofNat n)) (λn=>r5 n λn=>c (.negSucc n)) n
def TM(a:Bool)(x:Option α)(K:α->Bool):Bool:=fW (motive:=λ_=>Bool) a K x
def oj(b:Bool)(x y:Bool):Bool:=Bool.rec (motive:=λ_=>Bool) y x b
def Sn(a:Option aJ)(K:Option aJ->Bool):Bool:=fW (motive:=λ_=>Bool) (K none) (λc=>Addr.rec (motive:=λ_=>Bool) (λb o s=>r5 b λb=>r5 o λo=>K (aa ⟨b,o,s⟩)) c) a
def af9(k:ee)(n:Int)(K:ag->Bool):Bool:=af6 n λn=>K (aC k n)
def aga(a:Option aJ)(K:ag->Bool):Bool:=Sn a λa=>K (.pointer a)
def abH(a:Option aJ)(n c:Nat)(K:ag->Bool):Bool:=Sn a λa=>r5 n λn=>r5 c λc=>K (ae a n c)
def ub(v:ag):(ag->Bool)->Bool:=Value.rec (motive_1:=λ_=>(ag->Bool)->Bool) (motive_2:=λ_=>Unit) (motive_3:=λ_=>Unit) (λb K=>K (ah b)) af9 (λk n K=>K (.float k n)) (λk m n K=>K (.complex k m n)) (λs K=>K (bt s)) aga abH (λr K=>K (.map r)) (λr K=>K (.chan r)) (λf a c _ _=>(λf a c K=>K (aN f a c)) f a c) (λK=>K .nilFunc) (λt v _=>(λt v K=>K (.iface t v)) t v) (λK=>K .nilIface) (λa _=>(λa K=>K (al a)) a) (λa _=>(λa K=>K (av a)) a) (λ_ _=>()) () (λ_ _ _ _=>()) v
def M7(v:ag):Bool->(Bool->Bool)->Bool:=Value.rec (motive_1:=λ_=>Bool->(Bool->Bool)->Bool) (motive_2:=λ_=>Unit) (motive_3:=λ_=>Unit) (λb _ K=>K b) (λ_ _ d _=>d) (λ_ _ d _=>d) (λ_ _ _ d _=>d) (λ_ d _=>d) (λ_ d _=>d) (λ_ _ _ d _=>d) (λ_ d _=>d) (λ_ d _=>d) (λf a c _ _=>(λ_ _ _ d _=>d) f a c) (λd _=>d) (λt v _=>(λ_ _ d _=>d) t v) (λd _=>d) (λa _=>(λ_ d _=>d) a) (λa _=>(λ_ d _=>d) a) (λ_ _=>()) () (λ_ _ _ _=>()) v
theorem Xd(v:ag)(a:Bool)(K:Bool->Bool):(M7 v a K=a/\∀b,v≠ ah b)\/ ∃b,v=ah b/\M7 v a K=K b:=by
 cases v<;>first|exact .inr ⟨_,rfl,rfl⟩|exact .inl ⟨rfl,by intros;simp⟩
def funcF(v:ag):Bool->(Fn->Array ag->Array ag->Bool)->Bool:=Value.rec (motive_1:=λ_=>Bool->(Fn->Array ag->Array ag->Bool)->Bool) (motive_2:=λ_=>Unit) (motive_3:=λ_=>Unit) (λ_ b _=>b) (λ_ _ b _=>b) (λ_ _ b _=>b) (λ_ _ _ b _=>b) (λ_ b _=>b) (λ_ b _=>b) (λ_ _ _ b _=>b) (λ_ b _=>b) (λ_ b _=>b) (λf a c _ _=>(λf a c _ K=>K f a c) f a c) (λb _=>b) (λt v _=>(λ_ _ b _=>b) t v) (λb _=>b) (λa _=>(λ_ b _=>b) a) (λa _=>(λ_ b _=>b) a) (λ_ _=>()) () (λ_ _ _ _=>()) v
theorem NK(v:ag)(b:Bool)(K:Fn->Array ag->Array ag->Bool):(funcF v b K=b/\∀f a c,v≠ aN f a c)\/ ∃f a c,v=aN f a c/\funcF v b K=K f a c:=by
 cases v<;>first|exact .inr ⟨_,_,_,rfl,rfl⟩|exact .inl ⟨rfl,by intros;simp⟩
def age(k:ee):ee->Bool:=iS (motive:=λ_=>ee->Bool) (iS (motive:=λ_=>Bool) af aj aj aj aj aj aj aj) (iS (motive:=λ_=>Bool) aj af aj aj aj aj aj aj) (iS (motive:=λ_=>Bool) aj aj af aj aj aj aj aj) (iS (motive:=λ_=>Bool) aj aj aj af aj aj aj aj) (iS (motive:=λ_=>Bool) aj aj aj aj af aj aj aj) (iS (motive:=λ_=>Bool) aj aj aj aj aj af aj aj) (iS (motive:=λ_=>Bool) aj aj aj aj aj aj af aj) (iS (motive:=λ_=>Bool) aj aj aj aj aj aj aj af) k
theorem abK{k:ee}(h:age k u=af):k=u:=by cases k<;>cases u<;>first|rfl|cases h
def adw(a b:Int):Bool:=Int.rec (motive:=λ_=>Bool) (λm=>Int.rec (motive:=λ_=>Bool) (λn=>dk m n) (λ_=>aj) b) (λm=>Int.rec (motive:=λ_=>Bool) (λ_=>aj) (λn=>dk n m) b) a
def Dh(l:List ag):(List ag->Bool)->Bool:=gj (motive:=λ_=>(List ag->Bool)->Bool) (λK=>K []) (λa _ b K=>b λr=>K (a::r)) l
def Ny(b:eA)(K:eA->Bool):Bool:=eA.rec (motive:=λ_=>Bool) (λcs t d g=>Dh cs λcs=>K (.cells cs t d g)) (λf=>K (.map f)) (λh e i c a j=>K (.loop h e i c a j)) b
def aao(k:Nat)(b:eA)(h:au)(K:au->Bool):Bool:=Ny b λb=>HT.uR (aa b) (pathOf k) h.t λt=>K ⟨h.aD,t⟩
def DU(b:eA)(h:au)(K:au->Bool):Bool:=Ny b λb=>HT.uR (aa b) (pathOf h.aD) h.t λt=>r5 h.aD λn=>K ⟨n+1,t⟩
def RH(k:Nat)(b:eA)(h:au)(K:au->Bool):Bool:=Ny b λb=>HT.uR none (pathOf k) h.t λt=>HT.uR (aa b) (pathOf h.aD) t λt=>r5 h.aD λn=>K ⟨n+1,t⟩
def aaU(u:ek):au->(au->Bool)->Bool:=ek.rec (motive:=λ_=>au->(au->Bool)->Bool) (λh K=>K h) aao DU RH (λh _ K=>K h) u
structure Cx where
 P:aO
 gl:Nat->Bool
 cf:bW->List ag->au->(ag->au->Bool)->Bool
 N:Nat
 n:Nat
 bad:Bool
abbrev PK:=Cx->aR->(bm->ag)->au->(ag->au->Bool)->Bool
def UU(a:Bool)(r:Option (ag×ek))(h:au)(K:ag->au->Bool):Bool:=TM a r λr=>Prod.rec (motive:=λ_=>Bool) (λv u=>aaU u h λh=>ub v λv=>K v h) r
def gen:PK:=λa o b h K=>UU a.bad (fK a.P mZ b o h) h K
def PY:PK:=λa _ _ _ _=>a.bad
def fArgs(b:bm->ag)(l:List bm):(List ag->Bool)->Bool:=gj (motive:=λ_=>(List ag->Bool)->Bool) (λK=>K []) (λx _ a K=>ub (b x) λv=>a λr=>K (v::r)) l
def fnF(b:Fn)(a:Bool)(K:bW->Bool)(Y:Nat->Bool):Bool:=Fn.rec (motive:=λ_=>Bool) K (λ_=>a) (λ_ _=>a) (λ_ _ _ _=>a) Y b
def Df(a:Array ag):Bool:=gj (motive:=λ_=>Bool) af (λ_ _ _=>aj) a.toList
def KR(f:bm)(d:Array bm)(_:Array aF):PK:=λb _ e h K=>funcF (e f) b.bad λi first a=>fnF i b.bad
 (λg=>oj (cQ g YB) (fArgs e d.toList λc=>Dh (first.toList++c++a.toList) λc=>b.cf g c h K) b.bad)
 (λk=>oj (Df first) (oj (Df a) (fArgs e d.toList λc=>r5 (YB+k) λj=>b.cf j c h K) b.bad) b.bad)
def TP(_:Builtin)(_:Array bm)(_:Array aF):PK:=gen
def Xk(_:bm)(_:String)(_:Array bm)(_:Array aF):PK:=PY
def aeb(a:Callee)(b:Array bm)(c:Array aF):PK:=Callee.rec (motive:=λ_=>Array bm->Array aF->PK) KR Xk TP a b c
def ado(c:Call):PK:=Call.rec (motive:=λ_=>PK) aeb c
def adp(x:bm):PK:=λ_ _ a h K=>ub (a x) λv=>K v h
def afR(t:aF)(x:bm):PK:=λa _ b h K=>TM a.bad (aS a.P t h (b x)) λv=>ub v λv=>K v h
def K8:PK:=λa o b h K=>TM a.bad (eN a.P b o) λv=>ub v λv=>K v h
def ahC:PK:=λa o b h K=>UU a.bad (ia a.P mZ b o h) h K
def opF(a:Op):PK:=Op.rec (motive:=λ_=>PK) adp adp (λ_ _ _=>K8) (λ_=>gen) (λ_ _=>gen) (λ_ _=>gen) (λ_ _ _=>gen) (λ_ _ _ _=>gen) afR (λ_ _ _=>ahC) (λ_=>gen) (λ_=>gen) (λ_=>K8) (λ_ _ _ _ _=>K8) (λ_ _ _=>K8) (λ_ _ _=>gen) (λ_ _=>gen) (λ_ _=>gen) (λ_ _ _=>gen) (λ_ _=>gen) (λ_ _=>gen) (λ_ _ _=>gen) (λ_ _ _ _ _=>gen) (λ_ _ _=>K8) (λ_ _ _=>K8) (λ_ _ _=>K8) (λ_ _ _=>K8) (λ_ _ _ _=>gen) (λ_ _ _ _=>gen) (λ_ _ _=>gen) (λ_ _ _ _=>gen) (λ_ _=>gen) (λ_ _=>gen) (λ_=>gen) (λ_ _ _ _=>gen) (λ_ _=>gen) ado (λ_=>PY) (λ_=>PY) (λ_=>PY) (λ_ _=>PY) (λ_ _ _=>PY) (λ_ _=>PY) a
def abf(b:Bool)(x y:ag):ag:=Bool.rec (motive:=λ_=>ag) y x b
def af5(t:Tmp)(_:Nat->Bool)(e:Env):ag:=Env.get t e
def abx(v:ag)(_:Nat->Bool)(_:Env):ag:=abf (plain v) v qd
def XE(g:Nat)(a:Nat->Bool)(_:Env):ag:=abf (a g) (bj (aa ⟨g,0,none⟩)) qd
def ael(f:bW)(_:Nat->Bool)(_:Env):ag:= .func (.func f) #[] #[]
def Sl(a:Nat->Bool)(e:Env)(x:bm):ag:=Operand.rec (motive:=λ_=>(Nat->Bool)->Env->ag) af5 abx XE ael x a e
def XQ(a:Array aR)(j:Nat):Option Tmp:=(a[j]?).bind (·.dst)
def GH(v:ag):Bool->(Bool->Bool)->Bool->Bool:=Value.rec (motive_1:=λ_=>Bool->(Bool->Bool)->Bool->Bool) (motive_2:=λ_=>Unit) (motive_3:=λ_=>Unit) (λb _ K _=>K b) (λ_ _ d _ _=>d) (λ_ _ d _ _=>d) (λ_ _ _ d _ _=>d) (λ_ d _ _=>d) (λ_ d _ _=>d) (λ_ _ _ d _ _=>d) (λ_ d _ _=>d) (λ_ d _ _=>d) (λf a c _ _=>(λ_ _ _ d _ _=>d) f a c) (fun  d _ _=>d) (λt v _=>(λ_ _ d _ _=>d) t v) (fun  d _ _=>d) (λa _=>(λ_ d _ _=>d) a) (λa _=>(λ_ _ _ e=>e) a) (λ_ _=>()) () (λ_ _ _ _=>()) v
def zk(n:Nat)(a:Option Tmp)(e:Env)(v:ag)(K:Env->Bool):Bool:=fW (motive:=λ_=>Bool) (K e) (λd=>oj (cQ d n) (Env.put d e v K) (K e)) a
def HN(k:Array aR)(e:Env)(i:Bool)(h:Option (Nat×Bool))(f:Bool)(a:Bool):Bool:=
 fW (motive:=λ_=>Bool) f (λg=>Prod.rec (motive:=λ_=>Bool) (λj c=>TM i (XQ k j) λd=>GH (Env.get d e) i (λb=>Bool.rec (motive:=λ_=>Bool) (oj c a f) (oj c f a) b) a) g) h
def aeD(a:Cx)(b:Array aR)(o:aR)(e:Env)(h:au)(K:Env->au->Bool):Bool:=
 HN b e a.bad o.guard (opF o.op a o (Sl a.gl e) h λv h=>zk a.n o.dst e v λe=>K e h) (zk a.n o.dst e undef λe=>K e h)
def Oo(b:Cx)(a:Array aR)(l:List aR):Env->au->(Env->au->Bool)->Bool:=
 gj (motive:=λ_=>Env->au->(Env->au->Bool)->Bool) (λe h K=>K e h) (λo _ c e h K=>aeD b a o e h λe h=>c e h K) l
inductive Cls where
 |p|r|e|d
def afV(a:Callee)(_:Array bm)(_:Array aF):Cls:=Callee.rec (motive:=λ_=>Cls) (λ_=> .e) (λ_ _=> .d)
 (λb=>Builtin.rec (motive:=λ_=>Cls) .e .d .d .d .d .d .d .d .r .d .d .d .d .d .d .d .d .d .d .d .d .d .d .d .d .d b) a
def ahx(c:Call):Cls:=Call.rec (motive:=λ_=>Cls) afV c
def TV(a:Op):Cls:=Op.rec (motive:=λ_=>Cls) (λ_=> .p) (λ_=> .p) (λ_ _ _=> .p) (λ_=> .d) (λ_ _=> .d) (λ_ _=> .d) (λ_ _ _=> .d) (λ_ _ _ _=> .d) (λ_ _=> .r) (λ_ _ _=> .e) (λ_=> .d) (λ_=> .d) (λ_=> .p) (λ_ _ _ _ _=> .p) (λ_ _ _=> .p) (λ_ _ _=> .d) (λ_ _=> .d) (λ_ _=> .d) (λ_ _ _=> .d) (λ_ _=> .d) (λ_ _=> .d) (λ_ _ _=> .d) (λ_ _ _ _ _=> .d) (λ_ _ _=> .p) (λ_ _ _=> .p) (λ_ _ _=> .p) (λ_ _ _=> .p) (λ_ _ _ _=> .d) (λ_ _ _ _=> .d) (λ_ _ _=> .d) (λ_ _ _ _=> .d) (λ_ _=> .d) (λ_ _=> .d) (λ_=> .d) (λ_ _ _ _=> .d) (λ_ _=> .p) ahx (λ_=> .d) (λ_=> .d) (λ_=> .d) (λ_ _=> .d) (λ_ _ _=> .d) (λ_ _=> .d) a
def tS(a:Nat)(l:List (Nat×eA))(h:au)(K:au->Bool):Bool:=
 gj (motive:=λ_=>(au->Bool)->Bool) (λK=>K h) (λx _ c K=>Prod.rec (motive:=λ_=>Bool) (λi b=>c λh=>HT.uR (aa b) (pathOf (a+i)) h.t λt=>K ⟨h.aD,t⟩) x) l K
abbrev adS:=rI->ag->au->List (Nat×eA)->Bool
def aek(a:Cx)(d:Nat->Nat->Bool)(c j:Nat)(o:aR)(e:bm->ag)(h:au)(b:List (Nat×eA))(K:adS):Bool:=
 fW (motive:=λ_=>Bool) (fW (motive:=λ_=>Bool) (fW (motive:=λ_=>Bool)
   (tS c (b.filter λp=>d j p.1) h λh=>UU a.bad (ia a.P mZ e o h) h λv g=>K (.zD v g) v g (b.filter λp=> !d j p.1))
   (λd=>Prod.rec (motive:=λ_=>Bool) (λB f=>Ny B λB=>ub (f (c+j)) λv=>K (.alloc B v) v h ((j,B)::b)) d) (dK a.P e o))
  (λv=>ub v λv=>K (.read v) v h b) (dW a.P e o h)) (λv=>ub v λv=>K (.pure v) v h b) (eN a.P e o)
def Xs(c:Cx)(e:Nat->Nat->Bool)(b j:Nat)(o:aR)(d:bm->ag)(h:au)(a:List (Nat×eA))(K:adS):Bool:=
 Cls.rec (motive:=λ_=>Bool) (opF o.op c o d h λv _=>K (.pure v) v h a) (opF o.op c o d h λv _=>K (.read v) v h a)
  (tS b (a.filter λp=>e j p.1) h λh=>opF o.op c o d h λv f=>K (.zD v f) v f (a.filter λp=> !e j p.1))
  (aek c e b j o d h a K) (TV o.op)
abbrev KG:=aR×Env×rI
def pM(c:Cx)(n:Array aR)(q:Nat->Nat->Bool)(k:Nat)(l:List aR):Nat->Env->au->List (Nat×eA)->(List KG->Env->au->List (Nat×eA)->Bool)->Bool:=
 gj (motive:=λ_=>Nat->Env->au->List (Nat×eA)->(List KG->Env->au->List (Nat×eA)->Bool)->Bool) (λ_ e h b K=>K [] e h b)
  (λo _ p j e h b K=>HN n e c.bad o.guard
   (Xs c q k j o (Sl c.gl e) h b λm v h b=>zk c.n o.dst e v λf=>p (j+1) f h b λa i g d=>K ((o,e,m)::a) i g d)
   (zk c.n o.dst e undef λf=>p (j+1) f h b λa i g d=>K ((o,e,.skip)::a) i g d)) l
def af1(a:rI)(j:Nat)(r:List (Nat×au)):List (Nat×au):=rI.rec (motive:=λ_=>List (Nat×au)) r (λ_=>r) (λ_=>r) (λ_ _=>r) (λ_ h=>(j,h)::r) a
def Jl(l:List KG):Nat->List (Nat×au):=gj (motive:=λ_=>Nat->List (Nat×au)) (λ_=>[]) (λx _ a j=>af1 x.2.2 j (a (j+1))) l
def De(b:Nat->Nat->Bool)(l:List (Nat×au)):Option Nat->Bool:=
 gj (motive:=λ_=>Option Nat->Bool) (λ_=>af) (λx _ a p=>fW (motive:=λ_=>Bool) (a (aa x.1)) (λp=>oj (b x.1 p) (a (aa x.1)) aj) p) l
def Kd(P:aO)(o:aR)(a:bm->ag)(v:ag)(h:au):Bool:=fW (motive:=λ_=>Bool) aj (λv'=>oQ 4 v v') (dW P a o h)
def Fs(P:aO)(b:Nat->Nat->Bool)(j:Nat)(o:aR)(c:bm->ag)(v:ag)(e:List (Nat×au)):au->Bool->Bool:=
 gj (motive:=λ_=>au->Bool->Bool) (λh a=>oj a af (Kd P o c v h))
  (λx _ d h a=>oj (oj (oj a (cQ j x.1) aj) af (oj (b j x.1) af (Kd P o c v h))) (oj (b x.1 j) af (d x.2 (cQ x.1 j))) aj) e
def adK(b:Cx)(c:Nat->Nat->Bool)(h:au)(d:List (Nat×au))(j:Nat)(o:aR)(e:Env)(a:rI)(r:Bool):Bool:=
 rI.rec (motive:=λ_=>Bool) r (λ_=>r) (λv=>oj (Fs b.P c j o (Sl b.gl e) v d h af) r aj) (λ_ _=>r) (λ_ _=>r) a
def LR(b:Cx)(a:Nat->Nat->Bool)(h:au)(d:List (Nat×au))(l:List KG):Nat->Bool:=
 gj (motive:=λ_=>Nat->Bool) (λ_=>af) (λx _ c j=>adK b a h d j x.1 x.2.1 x.2.2 (c (j+1))) l
def Nj(d:Cx)(b:Array aR)(c:Nat->Nat->Bool)(e:Env)(h:au)(K:Env->au->Bool):Bool:=
 r5 (h.aD+b.size) λg=>pM d b c h.aD b.toList 0 e ⟨g,h.t⟩ [] λa i f j=>
  oj (oj (De c (Jl a 0) none) (LR d c ⟨g,h.t⟩ (Jl a 0) a 0) aj) (tS h.aD j f λf=>K i f) d.bad
abbrev qT:=Cx->Env->au->(Exit->Env->au->Bool)->Bool
def pO(e:Exit)(b:Bool)(c:Nat->Bool)(a:Bool):Bool:=Exit.rec (motive:=λ_=>Bool) b c (λ_=>a) a (λ_=>a) a e
def ady:qT:=λ_ e h K=>K .normal e h
def ahI(a b:qT):qT:=λc e h K=>a c e h λx e h=>pO x (b c e h K) (λd=>K (.exit d) e h) (K x e h)
def agh(c:bm)(a b:qT):qT:=λd e h K=>M7 (Sl d.gl e c) d.bad λt=>oj t (a d e h K) (b d e h K)
def aer(d:Nat)(a:qT):qT:=λc e h K=>a c e h λx e h=>pO x (K .normal e h) (λb=>oj (dk b d) (K .normal e h) (K (.exit b) e h)) (K x e h)
def agj(a:qT):qT:=λb e h K=>
 Nat.rec (motive:=λ_=>Env->au->Bool) (λ_ _=>b.bad) (λ_ d e h=>a b e h λx e h=>pO x (d e h) (λc=>K (.exit c) e h) (K x e h)) b.N e h
def agi(a:Nat):qT:=λ_ e h K=>K (.exit a) e h
def ahH:qT:=λ_ e h K=>K .ret e h
def aeq:qT:=λa _ _ _=>a.bad
def tmF(e:Env)(n:Nat):Nat->(List ag->Bool)->Bool:=Nat.rec (motive:=λ_=>Nat->(List ag->Bool)->Bool) (λ_ K=>K []) (λ_ a i K=>ub (Env.get i e) λv=>a (i+1) λl=>K (v::l)) n
def Ed(l:List ag):Nat->Env->(Env->Bool)->Bool:=gj (motive:=λ_=>Nat->Env->(Env->Bool)->Bool) (λ_ e K=>K e) (λv _ a i e K=>ub v λv=>Env.put i e v λe=>a (i+1) e K) l
def fHT(t:HT):(HT->Bool)->Bool:=HT.rec (motive:=λ_=>(HT->Bool)->Bool) (λK=>K .nil) (λv _ _ b a K=>b λl=>a λr=>fW (motive:=λ_=>Bool) (K (.node none l r)) (λB=>Ny B λB=>K (.node (aa B) l r)) v) t
def aaS(a:Cx)(b:Array aR)(e:Env)(h:au)(K:Env->au->Bool):Bool:=
 tmF e a.n 0 λl=>fW (motive:=λ_=>Bool) a.bad (λr=>oj (dk r.1.length a.n) (Ed r.1 0 Gi λe=>r5 r.2.aD λc=>fHT r.2.t λt=>K e ⟨c,t⟩) a.bad) (Jj a.P a.gl b (gw (l5 b)) l h)
def abQ(_:Nat)(a:Array aR)(c:Bool):qT:=λb e h K=>oj c (oj (Ah a) (aaS b a e h λe h=>K .normal e h) (Nj b a (gw (l5 a)) e h λe h=>K .normal e h)) (Oo b a a.toList e h λe h=>K .normal e h)
def okF(c a:Code)(d:Bool)(K:qn c a=af->Bool):Bool:=Bool.rec (motive:=λb=>qn c a=b->Bool) (λ_=>d) K (qn c a) rfl
def wm(b:Option eA)(a:Bool)(K:LSt->List ag->List Tmp->(d c:Code)->qn d c=af->Bool):Bool:=
 fW (motive:=λ_=>Bool) a (λb=>eA.rec (motive:=λ_=>Bool) (λ_ _ _ _=>a) (λ_=>a) K b) b
def SF(c:LSt)(a:Bool)(K:Exit->Bool):Bool:=LSt.rec (motive:=λ_=>Bool) (K .normal) a (K .ret) (λb=>K (.exit b)) c
def Hu(b:LSt)(a x:Bool):Bool:=LSt.rec (motive:=λ_=>Bool) x a a (λ_=>a) b
def Ya(x:Exit)(a:Bool)(K:Bool->LSt->Bool):Bool:=Exit.rec (motive:=λ_=>Bool) (K af .ready) (λb=>K aj (.exit b)) (λ_=>a) (K aj .ret) (λ_=>a) a x
def YU(n:Nat)(l:List (Tmp×ag)):Env->(Env->Bool)->Bool:=gj (motive:=λ_=>Env->(Env->Bool)->Bool) (λe K=>K e) (λp _ a e K=>zk n (aa p.1) e p.2 λe=>a e K) l
def Qx(f:bm)(o:Array Tmp)(d c:Code):qT:=λa e h K=>funcF (Sl a.gl e f) a.bad λk first b=>fnF k a.bad (λg=>okF d c a.bad λp=>oj (cQ g YB) (oj (wS a.P g)
 (tmF e a.n 0 λl=>Dh (first.toList++[.func (.yield h.aD) #[] #[]]++b.toList) λj=>DU (.loop .ready l o.toList d c p) h λm=>a.cf g j m λ_ i=>
  wm (i.get h.aD) a.bad λn _ _ _ _ _=>SF n a.bad λx=>HT.uR none (pathOf h.aD) i.t λt=>K x e ⟨i.aD,t⟩) a.bad) a.bad) (λ_=>a.bad)
def codeF(c:Code):qT:=
 Code.rec (motive:=λ_=>qT) ady abQ (λ_ _=>ahI) (λc _ _=>agh c) (λd _=>aer d) (λ_=>agj) (λf e b a _ _=>Qx f e b a) agi (λ_ _=>aeq) (λ_=>ady) (λ_=>aeq) ahH (λ_=>aeq) c
def ON(P:aO)(e:Env)(h:au)(c:Bool)(l:List ResultVar):(List ag->Bool)->Bool:=
 gj (motive:=λ_=>(List ag->Bool)->Bool) (λK=>K []) (λr _ d K=>ResultVar.rec (motive:=λ_=>Bool) (λt=>ub (Env.get t e) λv=>d λb=>K (v::b)) (λa t=>TM c (aS P t h (Env.get a e)) λv=>d λb=>K (v::b)) r) l
def acF(x:Exit)(a r:Bool):Bool:=Exit.rec (motive:=λ_=>Bool) r (λ_=>a) (λ_=>a) r (λ_=>a) a x
def MA(z:Nat->Cx)(a:Bool)(k:Nat)(c:List ag)(h:au)(K:ag->au->Bool):Bool:=
 wm (h.get k) a λC u B q g _=>Hu C a (oj (dk c.length B.length) (r5 u.length λn=>oj (Nat.ble n 256)
  (Ed u 0 Gi λe=>YU n (B.zip c) e λe=>codeF q (z n) e h λx e i=>pO x
   (wm (i.get k) a λy p w l d v=>Hu y a (HT.uR (aa (.loop .busy p w l d v)) (pathOf k) i.t λt=>codeF g (z n) e ⟨i.aD,t⟩ λx _ j=>
    wm (j.get k) a λ_ r s m f A=>Ya x a λb o=>HT.uR (aa (.loop o r s m f A)) (pathOf k) j.t λt=>K (ah b) ⟨j.aD,t⟩))
   (λ_=>a) a) a) a)
abbrev wc:=(bW->List ag->au->(ag->au->Bool)->Bool)->List ag->au->(ag->au->Bool)->Bool
def zw(P:aO)(j:Nat->Bool)(o:bW->Option (wc))(a:Bool)(i:Nat):bW->List ag->au->(ag->au->Bool)->Bool:=
 Nat.rec (motive:=λ_=>bW->List ag->au->(ag->au->Bool)->Bool) (λ_ _ _ _=>a)
  (λn g f b h K=>oj (Nat.ble YB f) (r5 (f-YB) λk=>MA (λm=>⟨P,j,g,n,m,a⟩) a k b h K) (fW (motive:=λ_=>Bool)
   (TM a (P.funcs[f]?) λd=>TM a d.body λc=>oj (Nat.ble d.ntmps 256&&Nat.ble b.length d.ntmps)
    (Ed b 0 Gi λe=>codeF c ⟨P,j,g,n,d.ntmps,a⟩ e h λx e h=>acF x a (ON P e h a d.results.toList λl=>K (fP l) h)) a)
   (λp=>p g b h K) (o f))) i
end
noncomputable def bh(P:aO)(t:aF)(a x:ag)(h:au):Option (ag×ek):=match a with
 |bj (aa ⟨k,i,none⟩)=>if bZ P t=aa x.cells.size then(storeAt h k i x.cells.toList).map λu=>(undef,u)else none
 |_=>none
end
variable{z:Int}{b:Bool}{k:Nat}{i:Nat}{V:Array ag}{c:List ag}{w:ag}{T:aF}
section
variable {β:gC} {P:aO}
theorem cz.hI{k:ee}{v':ag}(h:cz β (aC k z) v'):v'=aC k z:=by cases h;rfl
theorem cz.pQ{v':ag}(h:cz β (ah b) v'):v'=ah b:=by cases h;rfl
theorem cz.jQ{s:ByteArray}{v':ag}(h:cz β (bt s) v'):v'=bt s:=by cases h;rfl
theorem cz.yE{v':ag}(h:cz β (df k i) v'):∃a,β k=aa a/\a.isMap=aj/\v'=df a.b (a.s+i):=by
  cases h with
  |ptr h b=>grind
theorem cz.tM{a:aJ}{v':ag}(h:cz β (bw a) v'):∃b,β a.block=aa b/\b.isMap=aj/\a.spot=none/\v'=df b.b (b.s+a.off):=by
  cases h with
  |ptr h c=>grind
theorem cz.r9{a:Array ag}{v':ag}(h:cz β (al a) v'):∃b,v'=al b/\mM β a b:=by
  cases h with
  |agg c h=>exact⟨_,rfl,c,h⟩
theorem cz.yF{a:Array ag}{v':ag}(h:cz β (av a) v'):∃b,v'=av b/\mM β a b:=by
  cases h with
  |tuple c h=>exact⟨_,rfl,c,h⟩
theorem cz.Um{t:aF}{v':ag}(h:cz β (.iface t v) v'):∃u,v' = .iface t u/\cz β v u:=by
  cases h with
  |iface _ h=>grind
theorem cz.Lf{v':ag}(h:cz β .nilIface v'):v' = .nilIface:=by cases h;rfl
theorem cz.ko{c:Nat}{v':ag}(h:cz β (ae none n c) v'):n=0/\c=0/\v'=ae none 0 0:=by cases h;grind
theorem cz.Le{v':ag}(h:cz β (.map (aa k)) v'):∃a,β k=aa a/\a.isMap=af/\v' = .map (aa a.b):=by
  cases h with
  |map h b=>grind
theorem cz.GL{v':ag}(h:cz β (.map none) v'):v' = .map none:=by cases h;rfl
theorem cz.Qv{v':ag}(h:cz β (bj none) v'):v'=bj none:=by cases h;rfl
theorem cz.lb{c:Nat}{v':ag}(h:cz β (gJ k i n c) v'):∃a d b,β k=aa a/\a.isMap=aj/\(none:Option Nat)=none/\v'=gJ a.b d n b/\
    (c<fg->b=c)/\(fg<=c->c-fg<=b)/\n<=dw c/\(d=a.s+i\/(n=0/\b=0))/\(a.sz=0\/d+b*a.sz<=a.n):=by
  cases h with
  |slice h f g l e j m=>grind
theorem cz.Aq{a:aJ}{c:Nat}{v':ag}(h:cz β (ae (aa a) n c) v'):(∃k i,a=⟨k,i,none⟩)\/(a=⟨0,0,aa 0⟩/\n=0/\c=0/\∃b,v'=ae (aa b) 0 0):=by
  cases h with
  |slice h e f j d g l=>grind
  |dead a=>grind
theorem cz.NU{a:aJ}{c:Nat}{v':ag}(h:cz β (ae (aa a) n c) v'):∃d b,v'=ae (aa d) n b:=by
  cases h with
  |slice h f g j e i k=>grind
  |dead a=>grind
theorem mM.get{a:Array ag}(h:mM β a V){i:Nat}{v:ag}(c:a[i]?=aa v):∃v',V[i]?=aa v'/\cz β v v':=by
  have d:i<a.size:=(Array.getElem?_eq_some_iff.1 c).1;have b:i<V.size:=h.1▸d;exact⟨V[i],getElem?_eq_getElem b,h.2 i v _ c (getElem?_eq_getElem b)⟩
theorem dx.get{a:List ag}(h:dx β a c){i:Nat}{v:ag}(d:a[i]?=aa v):∃v',c[i]?=aa v'/\cz β v v':=by
  have e:i<a.length:=(List.getElem?_eq_some_iff.1 d).1;have b:i<c.length:=h.1▸e;exact⟨c[i],gE b,h.2 i v _ d (gE b)⟩
theorem cM{t:aF}{d:TypeDesc}(h:P.underlying t=aa d)(w:aU):(underlying t).run P w = .ok d w:=run_underlying h w
theorem xT{t:aF}{i:TypeInfo}(h:P.info? t=aa i)(w:aU):(typeInfo t).run P w = .ok i w:=by simp[typeInfo,h]
theorem sw{t:aF}(h:bZ P t=aa n):∃i,P.info? t=aa i/\i.size=n:=by simp_all[bZ]
theorem ic{t:aF}(h:bZ P t=aa n)(w:aU):(sizeOf t).run P w = .ok n w:=by
  obtain⟨i,a,rfl⟩:=sw h;simp[sizeOf,xT a]
theorem jH{t:aF}{z:ag}(h:zeroOf P t=aa z):plain z=af/\∃i,P.info? t=aa i/\i.zero=aa z:=by
  unfold zeroOf at h
  grind
theorem tw{t:aF}{z:ag}(h:zeroOf P t=aa z)(w:aU):(zeroValue t).run P w = .ok z w:=by
  obtain⟨_,i,a,b⟩:=jH h
  simp_all[xT,zeroValue]
theorem yP{t:aF}{d:TypeDesc}(h:P.underlying t=aa d)(w:aU):(Go.isAgg t).run P w = .ok (Ab.isAgg P t) w:=by
  simp only[Go.isAgg,aV,cM h,aL,Ab.isAgg,h]
  cases d<;>rfl
theorem F9:∀x y:List UInt8,vh x y=Op.bytesLess x y
  |[],[]=>rfl
  |_::_,[]=>rfl
  |[],_::_=>rfl
  |a::x,b::y=>by simp[vh,Op.bytesLess,F9 x y]
theorem WZ{a b:ByteArray}(h:a.data.toList=b.data.toList):a=b:=by
  cases a;simp_all
theorem Uz(a b:ByteArray):(⟨(a.data.toList++b.data.toList).toArray⟩:ByteArray)=a++b:=by rfl
theorem VX{a:BinOp}{x y:ByteArray}(h:Kj a x.data.toList y.data.toList=aa v)(w:aU):(Op.stringOp a x y).run P w = .ok v w:=by
  unfold Kj at h;unfold Op.stringOp;simp only[ByteArray.toList_eq]
  cases a<;>simp only[]at h<;>first
    |(simp only[aZ]at h;subst h;simp[F9];done)
    |(cases h;done)
    |skip
  split at h
  · next b=>
    obtain rfl:=aG h;simp only[eJ,run_unsupported,bp];rw[iN]
    · simp only[strOf,Uz]
    · have c:x.data.toList.length=x.size:=by simp
      have d:y.data.toList.length=y.size:=by simp
      rw[c,d]at b;have:ak.max=9223372036854775807:=by decide
      omega
  grind
theorem Ul{c:BinOp}{t:aF}{k:ee}{a b:Int}(h:ca P c t (aC k a) (aC u b)=aa v)(w:aU):(binOp c t (aC k a) (aC u b)).run P w = .ok v w:=by
  simp only[ca]at h;unfold binOp
  cases c<;>simp only[]at h<;>first
    | (split at h
       · next d=>
         obtain rfl:=aG h;simp only[Op.shift,eJ];rw[iN (by omega)];rfl
       grind)
    | (split at h
       · next e=>
         subst e;simp only[ne_eq,not_true_eq_false,if_false]
         first
           |(obtain rfl:=aG h;rfl)
           | (split at h
              · cases h
              · next d=>obtain rfl:=aG h;simp[Op.intDiv,d])
           |(obtain⟨r,hr,rfl⟩:=bo.1 h;exact intCmp_sim hr w)
       · cases h)
theorem Jd(a b:ByteArray):(a.data.toList==b.data.toList)=(a==b):=by grind[beq_toListBytes,ByteArray.toList_eq]
theorem Gm{x:ag}{t:aF}(a:Gk P t x v=aa b)(d:Nat)(w:aU):(fZ (d+1) t x v).run P w = .ok b w:=by
  unfold Gk at a
  grind[run_equalIn_bool',run_equalIn_int,run_equalIn_string,ByteArray.toList_eq]
theorem D9{x:ag}{t:aF}(a:Gk P t x v=aa b):∃d,P.underlying t=aa d/\isAgg P t=aj:=by
  unfold Gk at a
  grind[isAgg]
theorem CD{t:aF}{d:TypeDesc}(c:P.underlying t=aa d)(e:isAgg P t=aj){cs:Array ag}{a:Nat}{v:ag}(b:cs[a]?=aa v)(w:aU):(part t cs a).run P w = .ok v w:=by simp_all[yP,part]
theorem Gp{c e:Array ag}(d:Nat)(w:aU):∀(a:List Field)(i:Nat)(l m:List ag){b:Bool},c.toList.drop i=l->e.toList.drop i=m->qj P a i l m=aa b->
    (Op.eqFields (d+1) c e a).run P w = .ok b w
  |[],_,_,_,b,_,_,h=>by simp only[qj]at h;obtain rfl:=aG h;rfl
  |f::a,i,[],_,b,_,_,h=>by grind[qj]
  |f::a,i,_::_,[],b,_,_,h=>by grind[qj]
  | f::a,i,x::l,y::m,b,o,n,h=>by
    simp only[qj]at h;split at h
    · next z=>
      obtain⟨s,u⟩:=z;have p:c[f.offset]?=aa x:=by
        have:(c.toList.drop i)[0]?=aa x:=by rw[o];rfl
        rw[getElem?_drop]at this;rw[s,<-getElem?_toList];simpa using this
      have t:e[f.offset]?=aa y:=by
        have:(e.toList.drop i)[0]?=aa y:=by rw[n];rfl
        rw[getElem?_drop]at this;rw[s,<-getElem?_toList];simpa using this
      have q:c.toList.drop (i+1)=l:=by rw[<-drop_drop,o];rfl
      have r:e.toList.drop (i+1)=m:=by rw[<-drop_drop,n];rfl
      unfold Op.eqFields;rw[iP u];split at h
      · next j=>
        obtain⟨v,g,k⟩:=D9 j;simp only[aV,CD g k p,CD g k t,aL,Gm j d];simp only[Bool.not_true,dG,if_false];exact Gp d w a (i+1) l m q r h
      · next j=>
        obtain⟨v,g,k⟩:=D9 j;obtain rfl:=aG h;simp only[aV,CD g k p,CD g k t,aL,Gm j d];rfl
      · cases h
    grind
theorem Ns{x d:ag}{t:aF}(h:Gk P t x v=aa b)(a:cz β x w)(c:cz β v d):w=x/\d=v:=by
  unfold Gk at h;split at h
  · exact⟨a.pQ,c.pQ⟩
  · exact⟨a.hI,c.hI⟩
  · exact⟨a.jQ,c.jQ⟩
  grind
theorem Gn:∀(a:List Field)(i:Nat){l m l' d:List ag}{b:Bool},qj P a i l m=aa b->dx β l l'->dx β m d->qj P a i l' d=aa b
  |[],_,_,_,_,_,_,h,_,_=>by grind[qj]
  |f::a,i,[],_,_,_,b,h,_,_=>by grind[qj]
  |f::a,i,_::_,[],_,_,b,h,_,_=>by grind[qj]
  | f::a,i,x::l,y::m,l',d,b,h,o,n=>by
    obtain⟨r,l',rfl,e,g⟩:=o.fX;obtain⟨q,d,rfl,k,j⟩:=n.fX;simp only[qj]at h⊢;split at h
    · next p=>
      rw[iP p];split at h
      · next c=>
        obtain⟨rfl,rfl⟩:=Ns c e k;rw[c];exact Gn a (i+1) h g j
      · next c=>
        obtain⟨rfl,rfl⟩:=Ns c e k;rw[c];exact h
      · cases h
    grind
theorem DM{t:aF}(d:Nat)(c:P.underlying t=aa (.pointer T)){n:Nat}(b:bZ P T=aa n)(e:n≠0)(a:aJ)(w:aU):
    (fZ (d+1) t (bw a) (bw a)).run P w = .ok af w:=by
  simp only[fZ,aV,cM c,aL,ic b,eJ]
  simp_all[sameAddr]
set_option maxHeartbeats 4000000 in
theorem Nu{t:aF}{x y p l:ag}{b:Bool}(h:vn P t x y=aa b)(f:cz β x p)(g:cz β y l)(w:aU)(d:Nat):(fZ (d+1+1) t p l).run P w = .ok b w:=by
  unfold vn at h;split at h
  · cases f.pQ;cases g.pQ
    split at h
    · next c=>obtain rfl:=aG h;exact run_equalIn_bool' w (d+1) t _ _ c
    · cases h
  · cases f
    split at h
    · next c=>obtain rfl:=aG h;cases g<;>simp only[fZ,aV,cM c,aL,bp]<;>rfl
    · cases h
  · cases g
    split at h
    · next c=>obtain rfl:=aG h;cases f<;>simp only[fZ,aV,cM c,aL,bp]<;>rfl
    · cases h
  · next a r=>
    split at h
    · next e c=>
      split at h
      · next k=>
        obtain rfl:=aG h;obtain⟨rfl,o⟩:=k;obtain⟨B,u,_,_,rfl⟩:=f.tM;obtain⟨A,q,_,_,rfl⟩:=g.tM;rw[u]at q;obtain rfl:=aG q
        cases i:bZ P e with
        |none=>simp[i]at o
        |some n=>exact DM (d+1) c i (by simpa[i]using o) _ w
      · cases h
    · cases h
  · cases f
    split at h
    · next c=>obtain rfl:=aG h;cases g<;>simp only[fZ,aV,cM c,aL,bp]<;>rfl
    · cases h
  · cases g
    split at h
    · next c=>obtain rfl:=aG h;cases f<;>simp only[fZ,aV,cM c,aL,bp]<;>rfl
    · cases h
  · cases f
    split at h
    · next c=>obtain rfl:=aG h;cases g<;>simp only[fZ,aV,cM c,aL,bp]<;>rfl
    · cases h
  · cases g
    split at h
    · next c=>obtain rfl:=aG h;cases f<;>simp only[fZ,aV,cM c,aL,bp]<;>rfl
    · cases h
  all_goals first
    | (cases f<;>cases g <;>
       (split at h
        · next c=>obtain rfl:=aG h;simp only[fZ,aV,cM c,aL,bp]
        · cases h)
       done)
    |skip
  · obtain⟨v,rfl,z⟩:=f.r9
    obtain⟨r,rfl,s⟩:=g.r9;split at h
    · next j c=>
      split at h
      · next k=>
        have m:P.fieldsOf t=j:=by simp[Program.fieldsOf,c]
        rw[run_equalIn_struct w (d+1) t v r (by rw[m];exact c) k.1,m];exact Gp d w j.toList 0 _ _ (by simp) (by simp) (Gn j.toList 0 h (mM.toList.1 z) (mM.toList.1 s))
      · cases h
    · cases h
  grind
theorem T6{t:aF}{x a:ag}(h:vn P t x v=aa b)(c:cz β x w)(e:cz β v a)(d:aU):(Op.equal t w a).run P d = .ok b d:=
  Nu h c e d 9998
theorem Gq{t:aF}{x a:ag}(h:vn P t x v=aa b)(c:cz β x w)(e:cz β v a)(f:BinOp)(j g:bm)(d:aU):
    (eqGuard f t j g w a).run P d = .ok () d/\(binOp .eql t w a).run P d = .ok (ah b) d/\(binOp .neq t w a).run P d = .ok (.bool !b) d:=by
  have i:=T6 h c e d;unfold vn at h;split at h
  all_goals first
    |(cases h;done)
    | (obtain⟨l,rfl,n⟩:=c.r9
       obtain⟨m,rfl,k⟩:=e.r9;split at h
       all_goals simp_all[run_eqGuard_agg,binOp])
    |(cases c<;>cases e<;>(refine⟨?_,?_,?_⟩<;>first|(simp only[binOp,aV,i,aL,bp];done)|(cases f<;>rfl)))
theorem TK{c:BinOp}{t:aF}{xo yo:bm}{x g:ag}{m:ag}(h:ca P c t x v=aa m)(d:cz β x w)(e:cz β v g)(j:aU):
    (do eqGuard c t xo yo w g;binOp c t w g:Sem ag).run P j = .ok m j/\cz β m m:=by
  have o:=h;unfold ca at h;split at h
  · next k a p b=>
    cases d.hI;cases e.hI
    refine⟨?_,?_⟩
    · simp_all[Ul,eqGuard]
    · clear o
      cases c<;>simp only[]at h<;>first
        | (split at h
           · first
             |(obtain rfl:=aG h;exact .int _ _)
             |(obtain⟨r,q,rfl⟩:=bo.1 h;exact .bool _)
             | (split at h
                · cases h
                · obtain rfl:=aG h;exact .int _ _)
           · cases h
           done)
  · next a b=>
    cases d.jQ;cases e.jQ
    refine⟨?_,?_⟩
    · have i:(eqGuard c t xo yo (.string a) (.string b)).run P j = .ok () j:=by cases c<;>rfl
      grind[aV,aL,VX,binOp]
    · unfold Kj at h
      cases c<;>simp only[]at h<;>first
        |(obtain rfl:=aG h;exact .bool _)
        | (split at h
           · obtain rfl:=aG h;exact .string _
           grind)
        |(cases h;done)
  · cases c<;>simp only[]at h<;>first
      |(cases h;done)
      | (obtain⟨b,f,rfl⟩:=bo.1 h
         obtain⟨i,l,n⟩:=Gq f d e .eql xo yo j;exact⟨by simp only[aV,i,aL];exact l,.bool _⟩)
      | (obtain⟨b,f,rfl⟩:=bo.1 h
         obtain⟨i,l,n⟩:=Gq f d e .neq xo yo j;exact⟨by simp_all,.bool _⟩)
theorem aal{b:UnOp}{x:ag}(h:Pj b x=aa w)(a:cz β x v)(c:aU):(Op.unary b v).run P c = .ok w c/\cz β w w:=by
  unfold Pj at h;split at h
  · cases a.hI;obtain rfl:=aG h;exact⟨rfl,.int _ _⟩
  · cases a.hI;obtain rfl:=aG h;exact⟨rfl,.int _ _⟩
  · cases a.pQ;obtain rfl:=aG h;exact⟨rfl,.bool _⟩
  grind
end
variable{A:Type}{W:aU}
section
variable {β:gC} {P:aO}
def EK(β:gC)(l l':List (Nat×ag)):Prop:=l.map (·.1)=l'.map (·.1)/\dx β (l.map (·.2)) (l'.map (·.2))
theorem EK.fX{p:Nat×ag}{l l':List (Nat×ag)}(h:EK β (p::l) l'):∃v' r,l'=(p.1,v')::r/\cz β p.2 v'/\EK β l r:=by
 cases l' with
 |nil=>have:=h.1;grind
 |cons q r=>
  obtain⟨b,a⟩:=h;simp only[eK,gI]at b a;exact⟨q.2,r,by grind,a.head,b.2,a.tail⟩
theorem EK.jf{l':List (Nat×ag)}(h:EK β [] l'):l'=[]:=by
 have:=h.1;simp_all
theorem EK.map(l:List A)(n:A->Nat){f a:A->ag}(h:∀x∈l,cz β (f x) (a x)):EK β (l.map λx=>(n x,f x)) (l.map λx=>(n x,a x)):=
 ⟨by simp,by grind[dx.map]⟩
theorem UO(h:GZ v=af):v≠Ab.qd:=by rintro rfl;cases h
theorem HA(d:Nat):∀(l l':List ag)(j:Nat)(cs b:Array ag),dx β l l'->mM β cs b->
  mM β ((l.zipIdx j).foldl (λcs (c,j)=>cs.setIfInBounds (d+j) c) cs) ((l'.zipIdx j).foldl (λcs (c,j)=>cs.setIfInBounds (d+j) c) b)
 |[],l',j,cs,b,h,e=>by rw[h.jf];exact e
 | v::l,l',j,cs,b,h,e=>by
  obtain⟨v',r,rfl,o,n⟩:=h.fX;simp only[List.zipIdx_cons,j7];refine HA d l r (j+1) _ _ n ⟨by simp[e.1],λi a k f g=>?_⟩;rw[Array.getElem?_setIfInBounds]at f g;split at f
  ·grind
  ·next m=>
   rw[iN m]at g;exact e.2 i a k f g
theorem BL(a:Nat->Option (Nat×Nat)):∀(l l':List (Nat×ag))(cs c r:Array ag),EK β l l'->(∀p∈l,GZ p.2=af)->mM β cs c->jC a cs l=aa r->
  ∃m,jC a c l'=aa m/\mM β r m
 |[],l',cs,c,r,h,_,f,d=>by
  rw[h.jf];simp only[jC]at d⊢
  grind
 | p::l,l',cs,c,r,h,k,f,d=>by
  obtain⟨v',t,rfl,g,s⟩:=h.fX;obtain⟨i,v⟩:=p;have b:=g.cells (UO (k _ cj));simp only[jC]at d⊢
  cases e:a i with
  |none=>grind
  | some q=>
   obtain⟨j,o⟩:=q;simp only[e]at d⊢;dsimp only at g b;rw[<-b.1,<-f.1];split at d
   ·grind
   ·next n=>
    rw[iN n];refine BL a l t _ _ r s (λp e=>k p (cF _ e)) ?_ d;have:=HA (β:=β) j v.cells.toList v'.cells.toList 0 cs c (mM.toList.1 b) f
    grind[Array.toList_zipIdx]
theorem mM.xp{z:ag}(h:plain z=af):mM β z.cells z.cells:=by
 have b:cz β z z:= .ti h;by_cases a:z=Ab.qd
 ·subst a;cases h
 ·exact b.cells a
theorem TO{t:aF}{b parts':List (Nat×ag)}(h:cJ P t b=aa v)(u:EK β b parts')(w:aU):
  ∃v',(Instr.build t parts'.toArray).run P w = .ok v' w/\cz β v v':=by
 unfold cJ at h;split at h
 ·next z A=>
  obtain⟨r,i,y,g⟩:=jH A;split at h
  ·next B=>
   obtain⟨cs,a,rfl⟩:=bo.1 h;have j:∀p∈b,GZ p.2=af:=bY.1 B;have k:=mM.xp (β:=β) r;have m:∃c,P.built t parts'=aa c/\mM β cs c:=by
    unfold Program.built at a⊢;simp only[y]at a⊢
    cases s:P.underlying t with
    |none=>simp[s]at a
    | some d=>
     cases d<;>simp only[s]at a⊢<;>try (cases a;done)
     ·next n e=>
      split at a
      ·next l C f q=>
       obtain rfl:z=l:=aG (g.symm.trans f);exact BL _ _ _ _ _ _ u j k a
      ·cases a
     ·next E=>
      split at a
      ·next l D f q=>
       obtain rfl:z=l:=aG (g.symm.trans f);exact BL _ _ _ _ _ _ u j k a
      ·cases a
   obtain⟨c,o,x⟩:=m;exact⟨al c,run_build w t parts'.toArray c o,.agg x.1 x.2⟩
  ·cases h
 grind
theorem Ot{t:aF}{cs:Array ag}(h:partOf P t cs n=aa v)(b:mM β cs V)(w:aU):
  ∃v',(part t V n).run P w = .ok v' w/\cz β v v':=by
 unfold partOf at h
 cases f:P.underlying t with
 |none=>grind
 |some d=>
 simp only[f]at h;simp only[part,aV,yP f,aL,eJ];split at h
 ·next e=>
  obtain⟨m,g,rfl⟩:=bo.1 h;rw[iP e];simp only[ic g,aL,bp];refine⟨_,rfl,.agg (by simp[b.1]) λi v v' a c=>?_⟩;simp only[Array.getElem?_extract]at a c;rw[b.1]at a;split at a
  ·next j=>
   rw[iP j]at c;exact b.2 _ v v' a c
  grind
 ·next e=>
  rw[iN e];obtain⟨v',k,l⟩:=b.get h
  simp_all
theorem Ng{d:aF}{x:ag}(h:kX P T d x=aa w)(c:cz β x v)(g:aU):(convert T d v).run P g = .ok w g/\cz β w w:=by
 unfold kX at h;split at h
 ·next f k i n a b=>
  cases c.hI
  obtain rfl:=aG h;refine⟨?_,.int _ _⟩;simp only[convert,aV,cM a,cM b,aL]
  cases f<;>rfl
 ·next f s a b=>
  cases c.jQ
  obtain rfl:=aG h;refine⟨?_,.string _⟩;simp only[convert,aV,cM a,cM b,aL]
  cases f<;>rfl
 ·next e a b=>
  cases c
  obtain rfl:=aG h;refine⟨?_,.nilPtr⟩;simp only[convert,aV,cM a,cM b,aL,Conv.unsafePointer];rfl
 ·next e a b=>
  cases c
  obtain rfl:=aG h;refine⟨?_,.nilPtr⟩;simp only[convert,aV,cM a,cM b,aL,Conv.unsafePointer];rfl
 grind
theorem Lk(c:Bool):∀(l l':List ag)(x e v:ag),cz β x e->dx β l l'->ud c (x::l)=aa v->(∀w:aU,((l'.foldlM (if c then Builtin.max2 else Builtin.min2) e:Sem ag)).run P w = .ok v w)/\cz β v v\/(l=[]/\v=x)
 |[],l',x,e,v,g,f,h=>by simp_all[ud]
 | y::l,l',x,e,v,g,f,h=>by
  left;obtain⟨p,r,rfl,n,i⟩:=f.fX;simp only[ud,List.foldlM_cons,Option.bind_eq_bind]at h;split at h
  ·next k a o b=>
   cases g.hI;cases n.hI
   split at h
   ·next m=>
    subst m;simp only[bind_some]at h;have d:=Lk c l r (.int k (if c then if b>a then b else a else if b<a then b else a)) _ v (.int _ _) i (by simpa[ud]using h);refine⟨λw=>?_,?_⟩
    ·rw[List.foldlM_cons,aV];have j:((if c then Builtin.max2 else Builtin.min2) (.int k a) (.int k b)).run P w = .ok (.int k (if c then if b>a then b else a else if b<a then b else a)) w:=by
      cases c<;>rfl
     rw[j,aL];rcases d with⟨d,_⟩|⟨rfl,rfl⟩
     ·exact d w
     ·rw[i.jf];rfl
    ·rcases d with⟨_,d⟩|⟨rfl,rfl⟩
     ·exact d
     ·exact .int _ _
   ·simp at h
  grind
theorem lD{s:Sem A}{f:A->Next}{w':aU}{v:A}(h:s.run P W = .ok v w'):(do pure (f (<-s)):Sem Next).run P W = .ok (f v) w':=by
 simp[h]
theorem gk(b i n:Nat):(⟨b,i,none⟩:aJ).add n=⟨b,i+n,none⟩:=by grind[Addr.add]
theorem HJ{a b:ag}(h:cz β a v)(e:cz β b w):cz β (.tuple #[a,b]) (.tuple #[v,w]):=
 .tuple rfl λi f v' c d=>by grind
set_option maxHeartbeats 4000000 in
theorem AD{W B:bm->ag}(g:∀x,cz β (W x) (B x)){o:aR}{v:ag}(h:eN P W o=aa v)(w:aU):
  ∃v',(execOp B o).run P w = .ok (.value v') w/\cz β v v':=by
 unfold eN at h;unfold execOp;split at h
 ·next x A=>obtain rfl:=aG h;simp only[A];exact⟨_,rfl,g _⟩
 ·next x A=>obtain rfl:=aG h;simp only[A];exact⟨_,rfl,g _⟩
 ·next c a b A=>
  simp only[A];split at h
  ·next t ht=>
   have M:=g c;rw[ht]at M;obtain rfl:=aG h;refine⟨if t then B a else B b,?_,?_⟩
   ·simp[M.pQ,asBool]
   ·cases t
    ·exact g b
    ·exact g a
  ·cases h
 ·next t K A=>
  simp only[A];obtain⟨v',E,I⟩:=TO (parts':=K.toList.map λp=>(p.1,B p.2)) h (EK.map K.toList (·.1) λp _=>g p.2) w;refine⟨v',?_,I⟩;have C:(K.toList.map λp=>(p.1,B p.2)).toArray=K.map λ(i,x)=>(i,B x):=by
   apply fS;simp
  rw[C]at E;exact lD E
 ·next x A=>
  simp only[A];have m:=g x;split at h
  ·cases h
  ·cases h
  ·cases h
  ·cases h
  ·cases h
  ·next v0 F J h3 h4 h5=>
   obtain rfl:=aG h;refine⟨B x,?_,m⟩;revert m F J h3 h4 h5;generalize W x=a;generalize B x=b;intro m F J h3 h4 h5
   cases m with
   |qd v=>exact absurd rfl (h5 _)
   |nilPtr=>exact absurd rfl F
   |nilIface=>exact absurd rfl J
   |nilFunc=>exact absurd rfl h3
   |@func fn a T c c' H M ra rc=>cases fn<;>first|rfl|exact absurd rfl (h4 _ _ _)
   |_=>rfl
 ·next op t x y yt A=>
  simp only[A];obtain⟨E,I⟩:=TK (xo:=x) (yo:=y) h (g x) (g y) w;exact⟨v,lD E,I⟩
 ·next op t x A=>
  simp only[A];obtain⟨E,I⟩:=aal h (g x) w;exact⟨v,lD E,I⟩
 ·next s d x A=>
  simp only[A];obtain⟨E,I⟩:=Ng h (g x) w;exact⟨v,lD E,I⟩
 ·next t x A=>
  simp only[A];split at h
  ·cases h
  ·cases h
  ·next d L G=>
   obtain rfl:=aG h;refine⟨.iface t (B x),lD ?_,.iface t (g x)⟩;simp only[Instr.makeInterface,aV,cM G,aL]
   cases d<;>first|rfl|exact absurd rfl (L _)
 ·next fn first X A=>
  simp only[A];split at h
  ·cases h
  ·next y1=>
   obtain rfl:=aG h;refine⟨.func fn (first.map B) (X.map B),rfl,.func (by cases fn<;>first|rfl|exact absurd rfl (y1 _)) (by simp) (by simp) ?_ ?_⟩
   ·intro i a T F J;simp only[Array.getElem?_map,bo]at F J;obtain⟨p,hp,rfl⟩:=F;obtain⟨q,hq,rfl⟩:=J;rw[hp]at hq;obtain rfl:=aG hq;exact g p
   ·intro i a T F J;simp only[Array.getElem?_map,bo]at F J;obtain⟨p,hp,rfl⟩:=F;obtain⟨q,hq,rfl⟩:=J;rw[hp]at hq;obtain rfl:=aG hq;exact g p
 ·next s x f A=>
  simp only[A];have m:=g x;split at h
  ·next x0 a G H=>
   rw[H]at m;obtain⟨N,F,hm,hs,C⟩:=m.tM;split at h
   ·next fd hf=>
    split at h
    ·next Q=>
     obtain rfl:=aG h
     cases x1:bZ P fd.type with
     |none=>simp[x1]at Q
     |some n=>
      have h0:n≠0:=by simpa[x1]using Q
      refine⟨.pointer (aa ((⟨N.b,N.s+a.off,none⟩:aJ).add fd.offset)),lD ?_,?_⟩
      ·simp only[Instr.fieldAt,aV,cM G,aL,hf,C,mw,bp,fieldPlace,ic x1,eJ];rw[iN h0];rfl
      ·obtain⟨ab,ao,x3⟩:=a;simp only at hs F;subst hs;rw[gk,gk,add_assoc];exact .ptr F hm
    ·cases h
   ·cases h
  ·cases h
 ·next t x f A=>
  simp only[A];have m:=g x;split at h
  ·next x0 cs G H=>
   rw[H]at m;obtain⟨y2,C,M⟩:=m.r9;split at h
   ·next fd hf=>
    obtain⟨v',E,I⟩:=Ot h M w;refine⟨v',lD ?_,I⟩;simp only[Instr.field,aV,cM G,aL,hf,C,asAgg,bp,E]
   ·cases h
  ·cases h
 ·next t x i A=>
  simp only[A];have m:=g x;have O:=g i;split at h
  ·next x5 e a k j G H U=>
   rw[H]at m;rw[U]at O;obtain⟨N,F,hm,hs,C⟩:=m.tM;split at h
   ·next n Q=>
    split at h
    ·next E=>
     obtain rfl:=aG h;refine⟨.pointer (aa ((⟨N.b,N.s+a.off,none⟩:aJ).add (j.toNat*n))),lD ?_,?_⟩
     ·simp only[Instr.indexAt,aV,O.hI,asIntOf,bp,aL,cM G,C,mw,ic Q,eJ];rw[iP E]
     ·obtain⟨ab,ao,x3⟩:=a;simp only at hs F;subst hs;rw[gk,gk,add_assoc];exact .ptr F hm
    ·cases h
   ·cases h
  ·next e a x5 c k j G H U=>
   rw[H]at m;rw[U]at O;obtain⟨ab,ao,x3⟩:=a;split at h
   ·next n Q=>
    split at h
    ·next E=>
     obtain rfl:=aG h;have x7:x3=none:=by
      rcases m.Aq with⟨k',i',e⟩|⟨_,y8,_⟩
      ·injection e
      ·exact absurd E (by omega)
     subst x7;obtain⟨N,i',c',F,hm,y3,C,x4,y7,L,R,y6⟩:=m.lb
     ·clear y3;have x9:i'=N.s+ao:=by rcases R with R|R;exact R;exact absurd R.1 (by omega)
      subst x9;refine⟨.pointer (aa ((⟨N.b,N.s+ao,none⟩:aJ).add (j.toNat*n))),lD ?_,?_⟩
      ·simp only[Instr.indexAt,aV,O.hI,asIntOf,bp,aL,cM G,C,ic Q,eJ];rw[iP E]
      ·rw[gk,gk,add_assoc];exact .ptr F hm
    ·cases h
   ·cases h
  ·cases h
 ·next t x i A=>
  simp only[A];have m:=g x;have O:=g i;split at h
  ·next x5 e cs k j G H U=>
   rw[H]at m;rw[U]at O;obtain⟨y2,C,M⟩:=m.r9;split at h
   ·next n Q=>
    split at h
    ·next E=>
     obtain⟨v',hp,I⟩:=Ot h M w;refine⟨v',lD ?_,I⟩;simp only[Instr.index,aV,O.hI,asIntOf,bp,aL,cM G,C,ic Q,eJ,hp];rw[iP E]
    ·cases h
   ·cases h
  ·next s k j G H U=>
   rw[H]at m;rw[U]at O;split at h
   ·next E=>
    split at h
    ·next b hb=>
     obtain rfl:=aG h;refine⟨_,lD ?_,.int _ _⟩;have y0:s[j.toNat]?=aa b:=by
      rw[getElem?_toList]at hb;exact hb
     simp only[Instr.index,aV,O.hI,asIntOf,bp,aL,cM G,m.jQ];rw[iP E,y0];rfl
    ·cases h
   ·cases h
  ·cases h
 ·next x xt u ok A=>
  simp only[A];have m:=g x;split at h
  ·cases h
  ·cases h
  ·next d L G H=>
   rw[H]at m;split at h
   ·next x2=>
    obtain⟨z,hz,rfl⟩:=bo.1 h;refine⟨.tuple #[z,.bool aj],lD ?_,HJ (.ti (jH hz).1) (.bool _)⟩;simp only[Instr.typeAssert,aV,cM G,aL,m.Lf]
    cases d<;>first
     |exact absurd rfl (L _)
     |(rw[iP x2];simp[tw hz])
   ·cases h
  ·next d t v1 L G H=>
   rw[H]at m;obtain⟨v2,C,I⟩:=m.Um;split at h
   ·next Z=>
    obtain rfl:=aG h;refine⟨if ok then .tuple #[v2,.bool af]else v2,lD ?_,?_⟩
    ·simp only[Instr.typeAssert,aV,cM G,aL,C]
     cases d<;>first
      |exact absurd rfl (L _)
      |(rw[iP Z];rfl)
    ·cases ok
     ·exact I
     ·exact HJ I (.bool _)
   ·next Z=>
    split at h
    ·next x2=>
     obtain⟨z,hz,rfl⟩:=bo.1 h;refine⟨.tuple #[z,.bool aj],lD ?_,HJ (.ti (jH hz).1) (.bool _)⟩;simp only[Instr.typeAssert,aV,cM G,aL,C]
     cases d<;>first
      |exact absurd rfl (L _)
      |(rw[iN Z,iP x2];simp[tw hz])
    ·cases h
  ·cases h
 ·next x i A=>
  simp only[A];have m:=g x;split at h
  ·next vs H=>
   rw[H]at m;obtain⟨y5,C,M⟩:=m.yF;obtain⟨v',y4,E⟩:=M.get h;exact⟨v',lD (by simp[Instr.extract,C,y4]),E⟩
  ·cases h
 ·next D x6 A=>
  simp only[A];have S:dx β (D.toList.map W) (D.toList.map B):=dx.map _ λx _=>g x;have C:(D.map B).toList=D.toList.map B:=by simp
  revert S h;generalize D.toList.map W=l;generalize V:D.toList.map B=l';intro h S
  cases l with
  |nil=>simp[ud]at h
  |cons x l=>
   obtain⟨x',r,rfl,m,E⟩:=S.fX;rcases Lk af l r x x' v m E h with⟨F,J⟩|⟨rfl,rfl⟩
   ·exact⟨v,by
     simp only[resolve,aV,bp,aL,invoke,builtin,Builtin.max_,C,V];have:=F w;simp only[if_true]at this;rw[this];rfl,J⟩
   ·exact⟨x',by
     rw[E.jf]at V;simp only[resolve,aV,bp,aL,invoke,builtin,Builtin.max_,C,V];rfl,m⟩
 ·next D x6 A=>
  simp only[A];have S:dx β (D.toList.map W) (D.toList.map B):=dx.map _ λx _=>g x;have C:(D.map B).toList=D.toList.map B:=by simp
  revert S h;generalize D.toList.map W=l;generalize V:D.toList.map B=l';intro h S
  cases l with
  |nil=>simp[ud]at h
  |cons x l=>
   obtain⟨x',r,rfl,m,E⟩:=S.fX;rcases Lk aj l r x x' v m E h with⟨F,J⟩|⟨rfl,rfl⟩
   ·exact⟨v,by
     simp only[resolve,aV,bp,aL,invoke,builtin,Builtin.min_,C,V];have:=F w;simp only[dG,if_false]at this;rw[this];rfl,J⟩
   ·exact⟨x',by
     rw[E.jf]at V;simp only[resolve,aV,bp,aL,invoke,builtin,Builtin.min_,C,V];rfl,m⟩
 ·next D x6 A=>
  simp only[A];split at h
  ·next x t m ht=>
   split at h
   ·next e a n c G H=>
    split at h
    ·next M=>
     obtain rfl:=aG h;have Y:=g x;rw[H]at Y;have x8:∃T ,B x = .slice T n c:=by
      cases a with
      |none=>obtain⟨rfl,rfl,C⟩:=Y.ko;exact⟨none,C⟩
      |some a=>
       rcases Y.Aq with⟨k',i',rfl⟩|⟨rfl,rfl,rfl,T,C⟩
       ·obtain⟨N,i',c',_,_,_,C,x4,_⟩:=Y.lb;rw[x4 M]at C;exact⟨_,C⟩
       ·exact⟨_,C⟩
     obtain⟨T,C⟩:=x8;refine⟨aE c,?_,.int _ _⟩;have h0:(D.map B)[0]?=aa (.slice T n c):=by simp[m,C]
     simp only[resolve,aV,bp,aL,invoke,builtin,Builtin.cap_,ht,h0,cM G];rfl
    ·cases h
   ·cases h
  ·cases h
 grind
end
variable{J:gC}{I:eA}{G:Slot}{h:au}{r:bm->ag}{m:Nat}
section
variable {β:gC} {P:aO}
def eA.wr:eA->Bool
 |.cells _ _ _ wr=>wr
 |.map _=>af
 |.loop .. =>af
def XN(a:Nat×Nat)(n:Nat):Prop:=∀x,a.1<=x->x<a.2->n<=x
def A9(β:gC)(b:List (ag×ag))(a:List gi):Prop:=
 b.length=a.length/\∀(i:Nat) p e,b[i]?=aa p->a[i]?=aa e->cz β p.1 e.key/\cz β p.2 e.val
def kN(β:gC)(cs:List ag)(s:Nat)(a:Array ag):Prop:=∀(i:Nat) v,cs[i]?=aa v->∃v',a[s+i]?=aa v'/\cz β v v'
def Pz:LSt->LoopState->Option Code->Prop
 |.ready,s,j=>s = .ready/\j=none
 |.busy,s,_=>s = .busy
 |.ret,s,j=>s = .done/\j=aa .ret
 |.exit a,s,j=>s = .done/\j=aa (.exit a)
def EF(β:gC)(B:eA)(a:Slot)(w:aU):Prop:=
 match B with
 |.cells cs t g k=>a.isMap=aj/\a.t=t/\(a.sz=g/\(g=0->a.s=0))/\∃b h,w.heap[a.b]?=aa (.cells b t h)/\b.size=a.n/\kN β cs a.s b/\(k=af->XN h b.size)
 |.map j=>a.isMap=af/\∃d c,w.heap[a.b]?=aa (.map d c)/\A9 β j d.toList
 |.loop l i m f e _=>a.isMap=af/\∃r:Loop,w.heap[a.b]?=aa (.loop r)/\Pz l r.state r.pending/\dx β i r.tmps.toList/\r.params.toList=m/\r.assign=f/\r.body=e
structure oV(β:gC)(h:au)(w:aU):Prop where
 lt:∀k sl,β k=aa sl->k<h.aD/\sl.b<w.heap.size
 blk:∀k B sl,h.get k=aa B->β k=aa sl->EF β B sl w
 own:∀k k' B B' sl sl',k≠k'->h.get k=aa B->h.get k'=aa B'->β k=aa sl->β k'=aa sl'->B.wr=af->sl.b≠sl'.b
 wf:∀k B,h.get k=aa B->k<h.aD
theorem A9.mono{β:gC}(a:β.le J){d:List (ag×ag)}{b:List gi}(h:A9 β d b):A9 J d b:=
 ⟨h.1,λi p e c f=>⟨(h.2 i p e c f).1.mono a,(h.2 i p e c f).2.mono a⟩⟩
theorem kN.mono{β:gC}(b:β.le J){cs:List ag}{s:Nat}{a:Array ag}(h:kN β cs s a):kN J cs s a:=
 λi v c=>let⟨v',d,e⟩:=h i v c;⟨v',d,e.mono b⟩
theorem EF.mono{β:gC}(a:β.le J){B:eA}{j:Slot}{w:aU}(h:EF β B j w):EF J B j w:=by
 cases B with
 |cells cs t q v=>
  obtain⟨c,d,b,k,m,f,g,o,n⟩:=h;exact⟨c,d,b,k,m,f,g,o.mono a,n⟩
 |map u=>
  obtain⟨c,i,e,d,b⟩:=h;exact⟨c,i,e,d,b.mono a⟩
 |loop x s y p l z=>
  obtain⟨c,r,d,b,f,g⟩:=h;exact⟨c,r,d,b,f.mono a,g⟩
theorem EF.of_heap{e:aU}(h:EF β I G W)(u:e.heap[G.b]?=W.heap[G.b]?):EF β I G e:=by
 cases I with
 |cells cs t o s=>
  obtain⟨b,d,a,g,j,v,m,l,k⟩:=h;exact⟨b,d,a,g,j,by grind,m,l,k⟩
 |map q=>
  obtain⟨b,f,c,d,a⟩:=h;exact⟨b,f,c,by grind,a⟩
 |loop w p x n i y=>
  obtain⟨b,r,d,a⟩:=h;exact⟨b,r,by grind,a⟩
theorem rX{b:Nat}{cs:Array ag}{t:aF}{a:Nat×Nat}(h:W.heap[b]?=aa (.cells cs t a)):W.cell? ⟨b,i,none⟩=cs[i]?:=by
 simp[World.cell?,h]
theorem oV.row(i:oV β h W){k:Nat}{cs:List ag}{t:aF}{c:Nat}{e:Bool}{a:Slot}(n:h.get k=aa (.cells cs t c e))(f:β k=aa a):
  a.isMap=aj/\a.t=t/\a.sz=c/\∃b d,W.heap[a.b]?=aa (.cells b t d)/\b.size=a.n/\kN β cs a.s b/\(e=af->XN d b.size):=
 let⟨j,l,g,m⟩:=i.blk k _ a n f;⟨j,l,g.1,m⟩
theorem oV.ahW(d:oV β h W){k:Nat}{cs:List ag}{t:aF}{e:Bool}{a:Slot}(f:h.get k=aa (.cells cs t 0 e))(b:β k=aa a):a.s=0:=
 let⟨_,_,c,_⟩:=d.blk k _ a f b;c.2 rfl
theorem yO{w:aU}{b s:Nat}{cs:List ag}{t:aF}{m:Nat×Nat}(p:w.heap[b]?=aa (.cells V t m))(r:kN β cs s V)(i n:Nat)(l:((cs.drop i).take n).length=n):
  ∃l',(loadCells ⟨b,s+i,none⟩ n).run P w = .ok l'.toArray w/\dx β ((cs.drop i).take n) l':=by
 have h:i+n<=cs.length\/n=0:=by
  simp only[bq,da]at l;omega
 have d:∀j,j<n->∃v v',cs[i+j]?=aa v/\V[s+(i+j)]?=aa v'/\cz β v v':=by
  intro j e;have f:i+j<cs.length:=by omega
  obtain⟨v',a,c⟩:=r (i+j) _ (gE f);exact⟨_,v',gE f,a,c⟩
 refine⟨(dA n).map λj=>V.getD (s+(i+j)) undef,?_,?_,?_⟩
 ·refine run_loadCells w ⟨b,s+i,none⟩ n _ λj e=>?_;obtain⟨v,v',_,c,_⟩:=d j e;rw[gk,rX p,show s+i+j=s+(i+j) by omega,c]
  simp_all
 ·grind
 ·intro j v v' a c;simp only[List.getElem?_map,bo]at c;obtain⟨x,g,rfl⟩:=c;rw[getElem?_take,getElem?_drop]at a;split at a
  ·next e=>
   rw[List.getElem?_range e]at g;obtain rfl:=aG g;obtain⟨u,y,k,q,o⟩:=d j e;rw[k]at a;obtain rfl:=aG a;simpa[dg,q]using o
  grind
theorem NY(u:oV β h W){t:aF}{a p v:ag}(b:aS P t h a=aa v)(x:cz β a p):
  ∃o,p=bw o/\∃v',(loadVar t o).run P W = .ok v' W/\cz β v v':=by
 unfold aS at b;split at b
 ·next d k i w=>
  obtain⟨F,s,C,rfl⟩:=x.yE;refine⟨_,rfl,?_⟩;split at b
  ·next cs H D G y=>
   obtain⟨_,_,_,A,E,q,B,r,_⟩:=u.row y s;simp only[loadVar,aV,yP w,aL,eJ];split at b
   ·next c=>
    rw[iP c];split at b
    ·next n m=>
     split at b
     ·next f=>
      obtain rfl:=aG b;obtain⟨l',z,e⟩:=yO (P:=P) q r i n f;refine⟨.agg l'.toArray,by simp[ic m,z],.agg (by simpa using e.1) λj v v' g l=>e.2 j v v' (by simpa using g) (by simpa using l)⟩
     ·cases b
    ·cases b
   ·next c=>
    rw[iN c];obtain⟨v',g,l⟩:=r i v b;exact⟨v',by simp[run_load,rX q,g],l⟩
  ·cases b
 grind
theorem Qg(s:ByteArray)(l h:Nat):(⟨((s.data.toList.drop l).take (h-l)).toArray⟩:ByteArray)=s.extract l h:=by
 apply WZ;simp
def qW(β:gC)(x a:Option ag):Prop:=match x,a with|none,none=>True|some v,aa v'=>cz β v v'|_,_=>False
theorem qW.map{a:bm->ag}(b:∀x,cz β (r x) (a x))(x:Option bm):qW β (x.map r) (x.map a):=by
 cases x with
 |none=>trivial
 |some x=>exact b x
theorem qW.none_{a:Option ag}(h:qW β none a):a=none:=by cases a with|none=>rfl|some _=>exact h.elim
theorem qW.some_{a:Option ag}(h:qW β (aa v) a):∃v',a=aa v'/\cz β v v':=by cases a with|none=>exact h.elim|some v'=>exact⟨v',rfl,h⟩
theorem rv{x a:Option ag}(h:iY x n=aa z)(b:qW β x a):
  (x=none/\a=none/\z=n)\/ ∃k,x=aa (aC k z)/\a=aa (aC k z):=by
 cases x with
 |none=>simp only[iY,aZ]at h;exact .inl ⟨rfl,b.none_,h.symm⟩
 |some v=>
  obtain⟨v',rfl,c⟩:=b.some_
  cases v with
  |int k m=>simp only[iY,aZ]at h;subst h;exact .inr ⟨k,rfl,by rw[c.hI]⟩
  |_=>simp[iY]at h
theorem qw{k:ee}{c:BoundsCode}(b:0<=z)(a:z<=n)(w:aU):(Instr.sliceBound (aC k z) n c).run P w = .ok z.toNat w:=by simp_all[Instr.sliceBound,asIntOf]
theorem tR{f e a c:Option ag}{l:Int}(h:iY f 0=aa l)(i:iY e n=aa z)
  (g:qW β f a) (d:qW β e c)
  (q:0<=l) (o:l<=z) (p:z<=m) (w:aU):(mT b n m a c none).run P w = .ok (l.toNat,z.toNat,m) w:=by
 unfold mT;rcases rv i d with⟨rfl,rfl,rfl⟩|⟨k,rfl,rfl⟩
 ·grind[rv,aV,bp,aL,qw]
 ·rcases rv h g with⟨rfl,rfl,rfl⟩|⟨j,rfl,rfl⟩
  all_goals grind[aV,bp,aL,qw]
theorem OS{f c a b:Option ag}{l h:Int}{k:ee}(i:iY f 0=aa l)(j:iY c n=aa z)(p:c≠none)
  (g:qW β f a) (d:qW β c b)
  (o:0<=l) (s:l<=z) (t:z<=h) (e:h<=m) (w:aU):(mT af n m a b (aa (aC k h))).run P w = .ok (l.toNat,z.toNat,h.toNat) w:=by
 unfold mT;rcases rv j d with⟨rfl,rfl,rfl⟩|⟨r,rfl,rfl⟩
 ·grind
 ·rcases rv i g with⟨rfl,rfl,rfl⟩|⟨q,rfl,rfl⟩
  ·simp only[aV];rw[qw (by omega) e];simp only[aL];rw[qw (by omega) (by omega)];simp
  ·simp only[aV];rw[qw (by omega) e];simp only[aL];rw[qw (by omega) (by omega)];simp only[aL];rw[qw o (by omega)];simp
theorem VS(hs:oV β h W){t:aF}{x x' v:ag}{lo U mx R S q:Option ag}(a:dN P t x lo U mx h=aa v)(Q:cz β x x')
  (A:qW β lo R) (F:qW β U S) (z:qW β mx q):∃v',(kV t x' R S q).run P W = .ok v' W/\cz β v v':=by
 unfold dN at a;split at a
 ·next s=>
  cases Q.jQ
  split at a
  ·next D=>
   split at a
   ·next _ l r B C=>
    split at a
    ·next g=>
     obtain rfl:=aG a;have f:q=none:=z.none_;subst f;refine⟨.string (s.extract l.toNat r.toNat),?_,?_⟩
     ·have j:s.size=s.data.toList.length:=by simp
      simp only[kV,aV,cM D,aL,Instr.slice];simp only[Option.isSome_none,dG,if_false,aV,bp];rw[j,tR B C A F g.1 g.2.1 g.2.2];simp
     ·rw[strOf,show(r-l).toNat=r.toNat-l.toNat by omega,Qg];exact .string _
    ·cases a
   ·cases a
  ·cases a
 ·split at a
  ·next e D=>
   split at a
   ·next n B C j=>
    obtain rfl:=aG a;obtain⟨_,_,rfl⟩:=Q.ko;have f:q=none:=z.none_;subst f;refine⟨.slice none 0 0,?_,.rp⟩;simp only[kV,aV,cM D,aL,Instr.slice];rw[tR B C A F (by omega) (by omega) (by omega)];simp[ic j]
   ·cases a
  ·cases a
 ·next k i x8 b=>
  split at a
  ·next e D=>
   split at a
   ·next l r O cs t' x9 wr B C j V=>
    split at a
    ·next L=>
     obtain⟨d,J,w,u,H,_,rfl,M,E,x7,T,c⟩:=Q.lb;obtain⟨_,_,G,_⟩:=hs.row V u;have x6:dw b<=w:=by
      unfold dw;split
      ·next g=>exact E g
      ·next g=>rw[M (by omega)];exact aT _
     split at a
     ·split at a
      ·next g=>
       obtain rfl:=aG a;have f:q=none:=z.none_;subst f;have x0:l.toNat<=w:=by omega
       refine⟨.slice (if w=l.toNat then aa ⟨d.b,J,none⟩else aa ⟨d.b,J+l.toNat*O,none⟩) (r-l).toNat (w-l.toNat),?_,?_⟩
       ·simp only[kV,aV,cM D,aL,Instr.slice];rw[tR B C A F g.1 g.2.1 (by omega)];simp only[aL,ic j,bp,gf,gk];rw[show r.toNat-l.toNat=(r-l).toNat by omega]
       ·by_cases o:w=l.toNat
        ·rw[iP o];refine .slice u H ?_ ?_ ?_ (.inr ⟨by omega,by omega⟩) ?_
         ·intro Y;by_cases p:b<fg
          ·have:=M p;omega
          ·have:=E (by omega);have N:dw b=b-fg:=by unfold dw;rw[iP (by omega)]
           omega
         ·intro x3;have p:fg<=b:=by omega
          have:=E p;omega
         ·have:(r-l).toNat=0:=by omega
          omega
         ·rcases c with c|c
          ·exact .inl c
          ·right;rw[show w-l.toNat=0 by omega];simp;exact bN (du _ _) c
        ·rw[iN o];have x4:J=d.s+i:=by rcases T with y|⟨y,I⟩;exact y;exact absurd I (by omega)
         refine .slice u H ?_ ?_ ?_ (.inl (by omega)) ?_
         ·intro Y;by_cases p:b<fg
          ·have:=M p;omega
          ·have:=E (by omega);have N:dw b=b-fg:=by unfold dw;rw[iP (by omega)]
           omega
         ·intro x3;have p:fg<=b:=by omega
          have:=E p;omega
         ·by_cases p:b<fg
          ·have N:dw b=b:=by unfold dw;rw[iN (by omega)]
           have h6:dw (b-l.toNat)=b-l.toNat:=by unfold dw;rw[iN (by omega)]
           omega
          ·have N:dw b=b-fg:=by unfold dw;rw[iP (by omega)]
           have h6:dw (b-l.toNat)=b-l.toNat-fg:=by unfold dw;rw[iP (by omega)]
           omega
         ·rcases L with K|K
          ·rcases c with c|c
           ·exact .inl c
           ·right;subst K;rw[<-G];rw[Nat.sub_mul];have:l.toNat*d.sz<=w*d.sz:=bM _ x0;omega
          ·exact .inl (by omega)
      ·cases a
     ·next k m=>
      split at a
      ·next g=>
       obtain rfl:=aG a;obtain⟨X,y,I,h3,h4,N⟩:=g;obtain⟨vm,rfl,x5⟩:=z.some_
       cases x5.hI
       have x1:U≠none:=by intro e;subst e;cases N
       have Z:m.toNat<=w:=by omega
       refine⟨.slice (if m.toNat=l.toNat then aa ⟨d.b,J,none⟩else aa ⟨d.b,J+l.toNat*O,none⟩) (r-l).toNat (m.toNat-l.toNat),?_,?_⟩
       ·simp only[kV,aV,cM D,aL,Instr.slice];rw[OS B C x1 A F X y I (by omega)];simp only[aL,ic j,bp,gf,gk];rw[show r.toNat-l.toNat=(r-l).toNat by omega]
       ·have x2:dw (m-l).toNat=(m-l).toNat:=by unfold dw;rw[iN (by omega)]
        by_cases o:m.toNat=l.toNat
        ·rw[iP o];refine .slice u H (by omega) (by omega) (by omega) (.inr ⟨by omega,by omega⟩) ?_;rcases c with c|c
         ·exact .inl c
         ·right;rw[show m.toNat-l.toNat=0 by omega];simp;exact bN (du _ _) c
        ·rw[iN o];have x4:J=d.s+i:=by rcases T with y|⟨y,I⟩;exact y;exact absurd I (by omega)
         refine .slice u H (by omega) (by omega) (by omega) (.inl (by omega)) ?_;rcases L with K|K
         ·rcases c with c|c
          ·exact .inl c
          ·right;subst K;rw[<-G];have e2:l.toNat*d.sz+(m.toNat-l.toNat)*d.sz=m.toNat*d.sz:=by rw[<-dh];congr 1;omega
           have:m.toNat*d.sz<=w*d.sz:=bM _ Z;omega
         ·exact .inl (by omega)
      ·cases a
     ·cases a
    ·cases a
   ·cases a
  ·cases a
 ·next k i=>
  obtain⟨d,u,H,rfl⟩:=Q.yE;split at a
  ·next n e D=>
   split at a
   ·next _ l r O cs t' wr B C j V=>
    split at a
    ·next g=>
     obtain⟨X,y,I,h3⟩:=g;obtain rfl:=aG a;have f:q=none:=z.none_;subst f;obtain⟨_,_,G,_⟩:=hs.row V u;have x2:dw (n-l.toNat)=n-l.toNat:=by unfold dw;rw[iN (by omega)]
     refine⟨.slice (aa (if n=l.toNat then⟨d.b,d.s+i,none⟩else⟨d.b,d.s+i+l.toNat*O,none⟩)) (r-l).toNat (n-l.toNat),?_,?_⟩
     ·simp only[kV,aV,cM D,aL,mw,bp];rw[tR B C A F X y I];simp only[aL,ic j,gk];rw[show r.toNat-l.toNat=(r-l).toNat by omega]
     ·by_cases o:n=l.toNat
      ·rw[iP o];exact .slice u H (by omega) (by omega) (by omega) (.inr ⟨by omega,by omega⟩) (.inl (by omega))
      ·rw[iN o];exact .slice u H (by omega) (by omega) (by omega) (.inl (by omega)) (.inl (by omega))
    ·cases a
   ·cases a
  ·cases a
 grind
theorem Gc:∀{l:List ag}{a:List UInt8},bytesOf l=aa a->∃ns:List Int,l=ns.map (aC aK)/\∀s:ByteArray,ns.foldl (λr n=>r.push (UInt8.ofNat n.toNat)) s=⟨s.data++a.toArray⟩
 |[],a,h=>by simp_all[bytesOf]
 | v::l,a,h=>by
  unfold bytesOf at h;split at h
  ·next e=>cases e
  ·next n r e=>
   simp only[gI]at e;obtain⟨rfl,rfl⟩:=e;split at h
   ·obtain⟨d,b,rfl⟩:=bo.1 h;obtain⟨ns,rfl,c⟩:=Gc b;refine⟨n::ns,rfl,λs=>?_⟩;rw[j7,c];apply WZ;simp[ByteArray.push]
   ·cases h
  grind
theorem dx.ints{k:ee}{ns:List Int}{l':List ag}(h:dx β (ns.map (aC k)) l'):l'=ns.map (aC k):=by
 apply dH;intro i;by_cases d:i<ns.length
 ·have a:(ns.map (aC k))[i]?=aa (aC k ns[i]):=by simp[d]
  obtain⟨v',c,b⟩:=h.get a;rw[a,c,b.hI]
 ·have a:(ns.map (aC k)).length<=i:=by simp;omega
  rw[getElem?_eq_none a,getElem?_eq_none (h.1▸a)]
theorem IH(y:oV β h W){k i n:Nat}{cs:List ag}{t:aF}{w:Nat}{A:Bool}{a:Slot}(C:h.get k=aa (.cells cs t w A))(q:β k=aa a)
  (x:((cs.drop i).take n).length=n) {l:List UInt8} (f:bytesOf ((cs.drop i).take n)=aa l):
  ∃ns:List Int,(cs.drop i).take n=ns.map (aC aK)/\(loadCells ⟨a.b,a.s+i,none⟩ n).run P W = .ok (ns.map (aC aK)).toArray W/\(∀s:ByteArray,ns.foldl (λr n=>r.push (UInt8.ofNat n.toNat)) s=⟨s.data++l.toArray⟩)/\
   (∀j u,(ns.map (aC aK))[j]?=aa u->W.cell? ((⟨a.b,a.s+i,none⟩:aJ).add j)=aa u):=by
 obtain⟨ns,b,v⟩:=Gc f;obtain⟨_,_,_,D,F,g,E,p,_⟩:=y.row C q;obtain⟨l',o,c⟩:=yO (P:=P) g p i n x;rw[b]at c;rw[c.ints]at o;refine⟨ns,b,o,v,λj u d=>?_⟩;have e:((cs.drop i).take n)[j]?=aa u:=by rw[b];exact d
 rw[getElem?_take,getElem?_drop]at e;split at e
 ·obtain⟨G,z,B⟩:=p _ _ e;rw[gk,rX g,show a.s+i+j=a.s+(i+j) by omega,z];simp only[List.getElem?_map,bo]at d;obtain⟨m,_,rfl⟩:=d;rw[B.hI]
 grind
theorem Bx(u:oV β h W){k i n c:Nat}{cs:List ag}{t:aF}{r:Nat}{w:Bool}(x:h.get k=aa (.cells cs t r w))
  (s:((cs.drop i).take n).length=n) {e:List UInt8} (a:bytesOf ((cs.drop i).take n)=aa e) {f:ag} (v:cz β (gJ k i n c) f):
  (Conv.bytesToString f).run P W = .ok (strOf e) W:=by
 obtain⟨d,y,q,o,F,_,rfl,B,E,C,g,D⟩:=v.lb;by_cases j:n=0
 ·subst j;have:e=[]:=by simp[bytesOf]at a;exact a
  subst this;rfl
 ·have l:y=d.s+i:=by rcases g with b|⟨b,G⟩;exact b;exact absurd b j
  subst l;obtain⟨ns,A,z,p,m⟩:=IH (P:=P) u x o s a;rw[run_bytesToString (P:=P) W ⟨d.b,d.s+i,none⟩ n q ns z,p];congr 2;simp
end
section
variable {β:gC} {P:aO}
theorem OU{a b:ag}(h:Kb a b=af):a=b:=by
 unfold Kb at h;split at h
 ·rw[beq_iff_eq.1 h]
 ·simp only[bg,decide_eq_true_eq]at h;rw[h.1,h.2]
 ·next a b=>
  simp only[decide_eq_true_eq]at h;obtain⟨⟨a⟩⟩:=a;obtain⟨⟨b⟩⟩:=b;simp only at h;rw[h]
 grind
theorem OX:∀{a b:List ag},Hy a b=af->a=b
 |[],[],_=>rfl
 |[],_::_,h=>by grind[Hy]
 |_::_,[],h=>by grind[Hy]
 |a::x,b::y,h=>by
  simp only[Hy,bg]at h;rw[OU h.1,OX h.2]
theorem Zs{a b:ag}(h:OW a b=af):a=b:=by
 unfold OW at h
 grind[fS,OX,OU]
theorem cz.OZ{v':ag}(a:Ev v=af)(h:cz β v v'):v'=v:=by
 cases h<;>first|rfl|(simp[Ev]at a)
theorem cz.Ol(a:Ev v=af):cz β v v:=by
 cases v<;>first|exact .bool _|exact .int _ _|exact .string _|(simp[Ev]at a)
theorem cz.vu{v':ag}(a:nQ v=af)(h:cz β v v'):v'=v:=by
 unfold nQ at a;split at a
 ·next cs=>
  obtain⟨b,rfl,c⟩:=h.r9;have:b=cs:=by
   refine Array.ext c.1.symm λi e f=>?_;have d:=c.2 i cs[i] b[i] (getElem?_eq_getElem f) (getElem?_eq_getElem e);exact d.OZ (bY.1 a _ (by simp))
  grind
 ·exact h.OZ a
theorem cz.SU(a:nQ v=af):cz β v v:=by
 unfold nQ at a;split at a
 ·next cs=>
  refine .agg rfl λi v v' b c=>?_;rw[b]at c;obtain rfl:=aG c;refine .Ol (bY.1 a _ ?_);rw[<-getElem?_toList]at b;exact aM b
 grind[Ol]
theorem tr{t:aF}{cs:Array ag}(h:partOf P t cs n=aa v)(w:aU):(part t cs n).run P w = .ok v w:=by
 unfold partOf at h
 cases a:P.underlying t with
 |none=>grind
 |some d=>
 simp only[a]at h;simp only[part,aV,yP a,aL,eJ];split at h
 ·next c=>
  obtain⟨e,b,rfl⟩:=bo.1 h;rw[iP c];simp only[ic b,aL,bp]
 simp_all
theorem Nt{e:aF->ag->ag->Option Bool}{d:Nat}(w:aU)(j:∀t x y b,e t x y=aa b->(fZ d t x y).run P w = .ok b w)(g i:Array ag):∀(a:List Field){b:Bool},XD P e g i a=aa b->
  (Op.eqFields d g i a).run P w = .ok b w
 |[],b,h=>by simp only[XD]at h;obtain rfl:=aG h;rfl
 | f::a,b,h=>by
  simp only[XD]at h;split at h
  ·next m=>
   split at h
   ·next p q k l=>
    unfold Op.eqFields;rw[iP m];split at h
    ·next c=>
     simp only[aV,tr k,tr l,aL,j _ _ _ _ c];simp only[Bool.not_true,dG,if_false];exact Nt w j g i a h
    ·next c=>
     obtain rfl:=aG h;simp only[aV,tr k,tr l,aL,j _ _ _ _ c];rfl
    ·cases h
   ·cases h
  grind
theorem Am(w:aU):∀(d n:Nat)(t:aF)(x y:ag)(b:Bool),kY P d t x y=aa b->(fZ (n+d) t x y).run P w = .ok b w
 |0,_,_,_,_,_,h=>by simp[kY]at h
 | d+1,n,t,x,y,b,h=>by
  unfold kY at h;split at h
  ·next g a f e=>
   split at h
   ·next j=>
    have c:P.fieldsOf t=g:=by simp[Program.fieldsOf,e]
    rw[show n+(d+1)=(n+d)+1 from rfl,run_equalIn_struct w (n+d) t a f (by rw[c];exact e) j,c];exact Nt w (λt x y b i=>Am w d n t x y b i) a f g.toList h
   ·cases h
  grind[Gm]
theorem Jh{c:aF->ag->Bool}{em:Bool}{d:Nat}(w:aU)(g:∀t v,c t v=af->(jd em d t v).run P w = .ok () w)(cs:Array ag):∀(a:List Field),Sd P c cs a=af->
  (forIn a PUnit.unit (λf _=>do
   if f.name≠ "_" then jd em d f.type (<-part f.type cs f.offset)
   pure (ForInStep.yield PUnit.unit)):Sem PUnit).run P w = .ok PUnit.unit w
 |[],_=>rfl
 | f::a,h=>by
  simp only[Sd,bg,decide_eq_true_eq]at h;obtain⟨⟨i,b⟩,j⟩:=h
  cases e:partOf P f.type cs f.offset with
  |none=>grind
  |some p=>
   rw[e]at b;simp only[List.forIn_cons,aV,i,ne_eq,not_false_eq_true,if_true,aL,tr e,g _ _ b,bp];simpa using Jh w g cs a j
theorem GN(b:Bool)(w:aU):∀(d n:Nat)(t:aF)(v:ag),Dm P d t v=af->(jd b (n+d) t v).run P w = .ok () w
 |0,_,_,_,h=>by simp[Dm]at h
 | d+1,n,t,v,h=>by
  rw[show n+(d+1)=(n+d)+1 from rfl];unfold Dm at h;split at h
  ·next f a e=>
   have:=Jh (em:=b) w (λt v c=>GN b w d n t v c) a f.toList h;rw[jd];simp only[aV,cM e,aL];rw[<-Array.forIn_toList];simp only[ne_eq,ite_not,bind_pure_comp]at this⊢;simp at this⊢;rw[this];rfl
  all_goals simp_all[cM,jd]
theorem Ef{kt:aF}{k:ag}(h:rk P kt k=af)(a:Bool)(w:aU):(jd a 10000 kt k).run P w = .ok () w:=by
 unfold rk at h;simp only[bg]at h;exact GN a w 3 9997 kt k h.2
theorem Ff{kt:aF}{k:ag}(h:rk P kt k=af):nQ k=af:=by simp_all[rk]
theorem yG{kt:aF}{a b:ag}{r:Bool}(h:tN P kt a b=aa r):nQ b=af/\kY P 3 kt a b=aa r/\(r=af->a=b):=by
 unfold tN at h
 grind[Zs]
theorem Un{kt:aF}{k:ag}(h:rk P kt k=af):(∃e a,P.underlying kt=aa (.struct e)/\k=al a)\/(∃g,P.underlying kt=aa g/\∀b r,kY P 3 kt k b=aa r->kU g k b=aa r):=by
 unfold rk at h;simp only[bg]at h;have f:=h.2;unfold Dm at f;split at f
 ·next e a d=>exact .inl ⟨e,a,d,rfl⟩
 ·next b d=>
  refine .inr ⟨_,d,λy r c=>?_⟩;simp only[kY,Gk,d]at c
  cases y<;>simp at c
  simp[kU,c]
 ·next j i n d=>
  refine .inr ⟨_,d,λy r c=>?_⟩;simp only[kY,Gk,d]at c
  cases y<;>simp at c
  obtain⟨rfl,rfl⟩:=c;simp[kU]
 ·next b d=>
  refine .inr ⟨_,d,λy r c=>?_⟩;simp only[kY,Gk,d]at c
  cases y with
  |string s=>
   obtain rfl:=aG c;simp only[kU];rw[Jd]
  |_=>simp at c
 grind
theorem A9.Z1{p:ag×ag}{b:List (ag×ag)}{e:gi}{a:List gi}(c:A9 β (p::b) (e::a)):A9 β b a:=
 ⟨by have:=c.1;grind,λj p e d f=>c.2 (j+1) p e (by grind) (by grind)⟩
structure Fz(P:aO)(kt:aF)(k:ag){α:Type}(fnd:List gi->Nat->α)(R:Option (Nat×ag)->α):Prop where
 nil:∀i,fnd [] i=R none
 hit:∀(e:gi) es i,kY P 3 kt k e.key=aa af->fnd (e::es) i=R (aa (i,e.val))
 aca:∀(e:gi) es i,kY P 3 kt k e.key=aa aj->fnd (e::es) i=fnd es (i+1)
theorem Qk{kt:aF}{a:TypeDesc}{k:ag}(d:∀b r,kY P 3 kt k b=aa r->kU a k b=aa r):Fz P kt k (nL a k) aa where
 nil:=λ_=>rfl
 hit:=λe c i h=>by grind[nL]
 aca:=λe c i h=>by grind[nL]
theorem Iw{kt:aF}{k:ag}(w:aU):Fz P kt k (λa i=>(oe kt k a i).run P w) (λr=> .ok r w) where
 nil:=λ_=>by rfl
 hit:=λe a i h=>by
  have b:(Op.equal kt k e.key).run P w = .ok af w:=Am w 3 9997 kt k e.key af h;simp[oe,b]
 aca:=λe a i h=>by
  have b:(Op.equal kt k e.key).run P w = .ok aj w:=Am w 3 9997 kt k e.key aj h;simp[oe,b]
section
variable {kt:aF} {k:ag} {α:Type} {fnd:List gi->Nat->α} {R:Option (Nat×ag)->α}
theorem NB(l:Fz P kt k fnd R):∀(f:List (ag×ag))(a:List gi)(i:Nat){r:Option ag},A9 β f a->rS P kt k f=aa r->
  ∃g,fnd a i=R g/\((r=none/\g=none)\/ ∃v j v',r=aa v/\g=aa (j,v')/\cz β v v')
 |[],a,i,r,c,h=>by
  have:a=[]:=bE c.1.symm;subst this;simp only[rS,aZ]at h;exact⟨none,l.nil i,.inl ⟨h.symm,rfl⟩⟩
 |(q,v)::f,[],i,r,c,h=>by have:=c.1;grind
 | (q,v)::f,e::a,i,r,c,h=>by
  obtain⟨d,m⟩:=c.2 0 (q,v) e rfl rfl;dsimp only at d m;simp only[rS]at h;split at h
  ·next n=>
   obtain⟨o,p,_⟩:=yG n;have b:=d.vu o;obtain rfl:=aG h;exact⟨aa (i,e.val),l.hit e a i (by rw[b];exact p),.inr ⟨v,i,e.val,rfl,rfl,m⟩⟩
  ·next n=>
   obtain⟨o,p,_⟩:=yG n;have b:=d.vu o;obtain⟨g,s,t⟩:=NB l f a (i+1) c.Z1 h;exact⟨g,by rw[l.aca e a i (by rw[b];exact p)];exact s,t⟩
  grind
theorem Ee(w:Fz P kt k fnd R){x z:ag}(B:nQ k=af)(y:cz β x z):∀(n:List (ag×ag))(a:List gi){r:List (ag×ag)},A9 β n a->nP P kt k x n=aa r->∀i b,
  (∃j e,fnd a i=R (aa (i+j,e.val))/\a[j]?=aa e/\e.key=k/\A9 β r (a.modify j λe=>{ e with key:=k,val:=z }))\/
  (fnd a i=R none/\A9 β r (a++[{ key:=k,val:=z,born:=b }]))
 |[],a,r,m,h,i,b=>by
  have:a=[]:=bE m.1.symm;subst this;simp only[nP,aZ]at h;subst h;refine .inr ⟨w.nil i,rfl,λj p e g l=>?_⟩
  cases j with
  |zero=>simp at g l;subst g;subst l;exact⟨.SU B,y⟩
  |succ j=>grind
 |(F,v)::n,[],r,m,h,i,b=>by have:=m.1;grind
 | (F,v)::n,e::a,r,m,h,i,b=>by
  obtain⟨f,o⟩:=m.2 0 (F,v) e rfl rfl;dsimp only at f o;have d:∀{p:ag×ag}{t:gi}{q:List (ag×ag)}{H:List gi},cz β p.1 t.key->cz β p.2 t.val->A9 β q H->A9 β (p::q) (t::H):=λg l u=>
   ⟨by simp[u.1],λj p e s E=>by
    cases j with
    |zero=>simp at s E;subst s;subst E;exact⟨g,l⟩
    |succ j=>exact u.2 j p e (by simpa using s) (by simpa using E)⟩
  simp only[nP]at h;split at h
  ·next A=>
   obtain⟨C,D,I⟩:=yG A;have c:=f.vu C;obtain rfl:=aG h;refine .inl ⟨0,e,w.hit e a i (by rw[c];exact D),rfl,by rw[c,I rfl],?_⟩;simp only[List.modify_zero_cons];exact d (.SU B) y m.Z1
  ·next A=>
   obtain⟨C,D,_⟩:=yG A;have c:=f.vu C;obtain⟨K,J,rfl⟩:=bo.1 h;have G:=w.aca e a i (by rw[c];exact D);rcases Ee w B y n a m.Z1 J (i+1) b with⟨j,t,g,l,u,s⟩|⟨g,l⟩
   ·refine .inl ⟨j+1,t,?_,by simpa using l,u,?_⟩
    ·rw[G,g];congr 3;omega
    ·simp only[List.modify_succ_cons];exact d f o s
   ·exact .inr ⟨G.trans g,d f o l⟩
  grind
end
theorem Gz{kt:aF}{k:ag}(g:rk P kt k=af)(w:aU)(b:List gi):
  ∃(α:Type)(fnd:List gi->Nat->α)(R:Option (Nat×ag)->α),Fz P kt k fnd R/\∀c,fnd b 0=R c->(nK kt k b).run P w = .ok c w:=by
 rcases Un g with⟨j,a,f,rfl⟩|⟨i,f,d⟩
 ·refine⟨_,_,_,Iw w,λc h=>?_⟩
  cases b with
  |nil=>simp_all[cM,oe,nK,nL]
  |cons e b=>simp_all[cM,nK,nL,kU]
 ·exact⟨_,_,_,Qk d,λc h=>by simp_all[cM,nK]⟩
theorem xX(d:Nat){v:ag}(h:Ev v=af):mu d v v=af:=by
 cases v<;>first|(simp[Ev]at h;done)|(cases d<;>simp[mu];done)|(cases d<;>(simp only[mu];rw[<-Jd];simp))
theorem IM(h:nQ v=af)(d:Nat):mu (d+1) v v=af:=by
 unfold nQ at h;split at h
 ·next cs=>
  simp only[mu,BEq.rfl,dz];rw[bY]at h⊢;rintro⟨x,y⟩ e;obtain⟨i,c⟩:=List.getElem?_of_mem e;rw[List.getElem?_zip_eq_some]at c;obtain⟨b,a⟩:=c;dsimp only at b a⊢;rw[b]at a;obtain rfl:=aG a;exact xX d (h x (aM b))
 grind[xX]
set_option maxHeartbeats 1000000 in
theorem AE{L B:bm->ag}(D:∀x,cz β (L x) (B x)){o:aR}{v:ag}{h:au}{w:aU}(U:oV β h w)(f:dW P L o h=aa v):
  ∃v',(execOp B o).run P w = .ok (.value v') w/\cz β v v':=by
 unfold dW at f;unfold execOp;split at f
 ·next t a J=>
  simp only[J];obtain⟨ad,q,v',G,l⟩:=NY (P:=P) U f (D a);exact⟨v',lD (by simp[Instr.loadAt,q,mw,G]),l⟩
 ·next t x lo hi mx J=>
  simp only[J];obtain⟨v',G,l⟩:=VS (P:=P) U f (D x) (qW.map D lo) (qW.map D hi) (qW.map D mx);exact⟨v',lD G,l⟩
 ·next s d x J=>
  simp only[J];have N:=D x;split at f
  ·next e a n c K O I=>
   rw[I]at N;split at f
   ·next q=>
    obtain rfl:=aG f;obtain⟨_,_,S⟩:=N.ko;refine⟨strOf [],lD ?_,.string _⟩;simp only[convert,aV,cM K,cM O,aL,S,cM q,Conv.bytesToString];rfl
   ·next k i q=>
    split at f
    ·next cs t sz wr hk=>
     split at f
     ·next hl=>
      obtain⟨bs,x5,rfl⟩:=bo.1 f;refine⟨strOf bs,lD ?_,.string _⟩;have M:=Bx (P:=P) U hk hl x5 N;obtain⟨sl,i',c',_,_,_,S,_⟩:=N.lb;rw[S]at M⊢;simp only[convert,aV,cM K,cM O,aL,cM q];exact M
     ·cases f
    ·cases f
   ·cases f
  ·cases f
 ·next t m k F J=>
  simp only[J];have Y:=D m;have hk:=D k;split at f
  ·next kt e E=>
   split at f
   ·next W z H hz=>
    split at f
    ·next V=>
     have x6:=hk.vu (Ff V);have Q:∃g,A9 β W g.toList/\((B m = .map none/\g = #[])\/ ∃b A,B m = .map (aa b)/\(getObj b).run P w = .ok (.map g A) w):=by
      split at H
      ·next T=>
       obtain rfl:=aG H;rw[T]at Y;exact⟨#[],⟨rfl,λi p e K=>by simp at K⟩,.inl ⟨Y.GL,rfl⟩⟩
      ·next r T=>
       rw[T]at Y;split at H
       ·next y1 G=>
        obtain rfl:=aG H;obtain⟨sl,M,x3,q⟩:=Y.Le;obtain⟨_,g,A,hw,l⟩:=U.blk _ _ _ G M;exact⟨g,l,.inr ⟨sl.b,A,q,by simp[getObj,Sem.run,hw]⟩⟩
       ·cases H
      ·cases H
     obtain⟨g,l,x2⟩:=Q;have y0:∀{v:ag},(∃r,rS P kt (L k) W=aa r/\v=match r with|some v=>(if F then .tuple #[v,.bool af]else v)|none=>(if F then .tuple #[z,.bool aj]else z))->
       ∃v',(Instr.lookup t (B m) (B k) F).run P w = .ok v' w/\cz β v v':=by
      rintro v ⟨r,G,rfl⟩;rw[x6];obtain⟨α,fnd,R,hF,Z⟩:=Gz V w g.toList;obtain⟨r',K,O⟩:=NB hF W g.toList 0 l G;have x7:=Z r' K;have hL:(Instr.lookup t (B m) (L k) F).run P w=((do
         jd g.isEmpty 10000 kt (L k)
         let(v,x8) <-match <-nK kt (L k) g.toList with
          |some (_,v)=>pure (v,af)
          |none=>pure (<-zeroValue e,aj)
         pure (if F then .tuple #[v,.bool x8]else v)):Sem ag).run P w:=by
       rcases x2 with⟨q,rfl⟩|⟨b,A,q,hg⟩
       ·simp only[Instr.lookup,aV,cM E,aL,q,bp];rfl
       ·simp only[Instr.lookup,aV,cM E,aL,q,hg,bp];rfl
      rw[hL];have x4:=Ef V g.isEmpty w;simp only[aV,x4,aL,x7];rcases O with⟨rfl,rfl⟩|⟨u,j,u',rfl,rfl,x1⟩
      ·refine⟨if F then .tuple #[z,.bool aj]else z,by simp[tw hz],?_⟩;have x0:cz β z z:= .ti (jH hz).1
       cases F
       ·exact x0
       ·exact HJ x0 (.bool _)
      ·refine⟨if F then .tuple #[u',.bool af]else u',by simp,?_⟩
       cases F
       ·exact x1
       ·exact HJ x1 (.bool _)
     have:∃r,rS P kt (L k) W=aa r/\v=match r with|some v=>(if F then .tuple #[v,.bool af]else v)|none=>(if F then .tuple #[z,.bool aj]else z):=by
      split at f
      ·next u hf=>exact⟨aa u,hf,(aG f).symm⟩
      ·next hf=>exact⟨none,hf,(aG f).symm⟩
      ·cases f
     obtain⟨v',K,O⟩:=y0 this;exact⟨v',lD K,O⟩
    ·cases f
   ·cases f
  ·cases f
 ·next X x9 J=>
  simp only[J];split at f
  ·next x t N ht=>
   have C:=D x;have h0:(X.map B)[0]?=aa (B x):=by simp[N]
   have Q:∃n,v=aE n/\(Builtin.len_ x9 o.type (X.map B)).run P w = .ok (aE n) w:=by
    simp only[Builtin.len_,ht,h0];split at f
    ·next s E I=>
     rw[I]at C;obtain rfl:=aG f;refine⟨_,rfl,?_⟩;simp only[aV,cM E,aL,C.jQ,bp,goInt];simp
    ·next n e y E=>
     obtain rfl:=aG f;refine⟨_,rfl,?_⟩;simp only[aV,cM E,aL,bp,goInt]
    ·next e a n c E I=>
     rw[I]at C;obtain rfl:=aG f;refine⟨_,rfl,?_⟩
     cases a with
     |none=>obtain⟨rfl,rfl,q⟩:=C.ko;simp only[aV,cM E,aL,q,bp,goInt]
     |some a=>obtain⟨a',c',q⟩:=C.NU;simp only[aV,cM E,aL,q,bp,goInt]
    ·next kt e E I=>
     rw[I]at C;obtain rfl:=aG f;refine⟨_,rfl,?_⟩;simp only[aV,cM E,aL,C.GL,bp,goInt]
    ·next kt e r E I=>
     rw[I]at C;split at f
     ·next W G=>
      obtain rfl:=aG f;refine⟨_,rfl,?_⟩;obtain⟨sl,M,x3,q⟩:=C.Le;obtain⟨_,g,A,hw,l⟩:=U.blk _ _ _ G M;have hg:(getObj sl.b).run P w = .ok (.map g A) w:=by simp[getObj,Sem.run,hw]
      simp only[aV,cM E,aL,q,hg,bp,goInt];rw[l.1];simp
     ·cases f
    ·cases f
   obtain⟨n,rfl,G⟩:=Q;refine⟨aE n,?_,.int _ _⟩;simp only[resolve,aV,bp,aL,invoke,builtin,G]
  ·cases f
 grind
end
variable{g:au}
section
variable {β:gC} {P:aO}
def Wr(β:gC)(h:au)(b:Nat):Prop:=∃k B a,h.get k=aa B/\B.wr=af/\β k=aa a/\a.b=b
def sS(w a:aU):Prop:=a.tape=w.tape/\w.drawn<=a.drawn
theorem sS.refl(w:aU):sS w w:=⟨rfl,aT _⟩
theorem sS.trans{b a:aU}(h:sS W b)(c:sS b a):sS W a:=⟨c.1.trans h.1,bN h.2 c.2⟩
structure Step(β:gC)(h:au)(w:aU)(β':gC)(h':au)(w':aU):Prop where
 le:β.le β'
 aD:h.aD<=h'.aD
 um:oV β' h' w'
 size:w.heap.size<=w'.heap.size
 os:w'.os=w.os
 tape:sS w w'
 output:w'.output=w.output
 kept:∀b,b<w.heap.size->¬Wr β h b->w'.heap[b]?=w.heap[b]?
 back:∀b,b<w.heap.size->Wr β' h' b->Wr β h b
 fresh:∀k sl,β' k=aa sl->β k=aa sl\/(h.aD<=k/\(w.heap.size<=sl.b\/Wr β h sl.b))
 keys:∀k B,h'.get k=aa B->k<h.aD->∃B₀,h.get k=aa B₀
theorem Step.refl(a:oV β h W):Step β h W β h W:=
 ⟨β.le_refl,aT _,a,aT _,rfl,.refl _,rfl,λ_ _ _=>rfl,λ_ _ h=>h,λ_ _ h=> .inl h,λ_ B h _=>⟨B,h⟩⟩
theorem Step.trans{d:gC}{e:au}{l j:aU}(a:Step β h W J g l)(b:Step J g l d e j):Step β h W d e j where
 le:=gC.le_trans a.le b.le
 aD:=bN a.aD b.aD
 um:=b.um
 size:=bN a.size b.size
 os:=b.os.trans a.os
 tape:=a.tape.trans b.tape
 output:=b.output.trans a.output
 kept:=λk c q=>(b.kept k (cD c a.size) λp=>q (a.back k c p)).trans (a.kept k c q)
 back:=λk c p=>a.back k c (b.back k (cD c a.size) p)
 fresh:=λk o c=>by
  rcases b.fresh k o c with f|⟨f,i⟩
  ·exact a.fresh k o f
  ·refine .inr ⟨bN a.aD f,?_⟩;rcases i with i|i
   ·exact .inl (bN a.size i)
   ·rcases db o.b W.heap.size with r|r
    ·exact .inr (a.back _ r i)
    omega
 keys:=λk B c m=>by
  obtain⟨n,f⟩:=b.keys k B c (cD m a.aD);exact a.keys k n f m
theorem oV.of_heap{c:aU}(a:oV β h W)(d:c.heap=W.heap):oV β h c:=
 ⟨λk b g=>by rw[d];exact a.lt k b g,λk B b e f=>(a.blk k B b e f).of_heap (by rw[d]),a.own,a.wf⟩
theorem Step.of_heap{a:aU}(d:oV β h W)(b:a.heap=W.heap)(e:a.os=W.os)(f:sS W a)(c:a.output=W.output):Step β h W β h a:=
 ⟨β.le_refl,aT _,d.of_heap b,by grind,e,f,c,λ_ _ _=>by rw[b],λ_ _ h=>h,λ_ _ h=> .inl h,λ_ B h _=>⟨B,h⟩⟩
def gC.ext(β:gC)(k:Nat)(a:Slot):gC:=λj=>if j=k then aa a else β j
theorem gC.fB(β:gC)(k:Nat)(a:Slot):β.ext k a k=aa a:=by simp[gC.ext]
theorem gC.iE(β:gC){k j:Nat}(a:Slot)(h:j≠k):β.ext k a j=β j:=by simp[gC.ext,h]
theorem gC.GP(a:Slot)(h:β k=none):β.le (β.ext k a):=λj c b=>by
 rw[β.iE a (by rintro rfl;rw[h]at b;cases b)];omega
theorem oV.qp(b:oV β h W){k:Nat}(d:h.aD<=k):β k=none:=by
 cases a:β k with
 |none=>rfl
 |some c=>exact absurd (b.lt k c a).1 (by omega)
structure uU(β:gC)(w:aU)(B:eA)(f:Nat->ag)(v':ag)(w':aU):Prop where
 size:w'.heap.size=w.heap.size+1
 os:w'.os=w.os
 tape:sS w w'
 output:w'.output=w.output
 kept:∀b,b<w.heap.size->w'.heap[b]?=w.heap[b]?
 new:∃sl:Slot,sl.b=w.heap.size/\∀(β':gC)(k:Nat),β.le β'->β' k=aa sl->EF β' B sl w'/\cz β' (f k) v'
theorem au.sB(c:∀k B,h.get k=aa B->k<h.aD)(B:eA):∀k b,(h.push B).get k=aa b->k<(h.push B).aD:=λk b a=>by
 rw[h.cY]at a;split at a
 ·simp_all
 ·have:=c k b a;simp;omega
theorem au.wf_set(c:∀k B,h.get k=aa B->k<h.aD){j:Nat}(B:eA)(d:j<h.aD):∀k b,(h.set j B).get k=aa b->k<(h.set j B).aD:=λk b a=>by
 rw[h.cE]at a;split at a
 all_goals simp_all
theorem au.RM(c:∀k B,h.get k=aa B->k<h.aD)(j:Nat):∀k a,(h.del j).get k=aa a->k<(h.del j).aD:=λk a b=>by
 rw[h.iD]at b
 simp_all
theorem uU.step{A:aU}(o:oV β h W){B:eA}{f:Nat->ag}{v':ag}(l:uU β W B f v' A):
  ∃u,Step β h W u (h.push B) A/\cz u (f h.aD) v':=by
 obtain⟨e,D,x⟩:=l.new;have s:=o.qp (aT h.aD);have r:β.le (β.ext h.aD e):=gC.GP e s;obtain⟨H,F⟩:=x _ h.aD r (β.fB _ _);have z:∀k a,β k=aa a->a.b<W.heap.size:=λk a d=>(o.lt k a d).2;have y:∀b,b<W.heap.size->Wr (β.ext h.aD e) (h.push B) b->Wr β h b:=by
  rintro b t ⟨k,p,a,i,g,j,m⟩;by_cases d:k=h.aD
  ·subst d;rw[β.fB]at j
   grind
  ·rw[h.mV k B d]at i;rw[β.iE e d]at j;exact⟨k,p,a,i,g,j,m⟩
 refine⟨β.ext h.aD e,⟨r,by simp,⟨?_,?_,?_,au.sB o.wf B⟩,by rw[l.size];omega,l.os,l.tape,l.output,λb t _=>l.kept b t,y,?_,?_⟩,F⟩
 ·intro k a d;by_cases c:k=h.aD
  ·subst c;rw[β.fB]at d;obtain rfl:=aG d;exact⟨by simp,by rw[l.size,D];omega⟩
  ·rw[β.iE e c]at d;have:=o.lt k a d;exact⟨by simp;omega,by rw[l.size];omega⟩
 ·intro k p a i g;by_cases c:k=h.aD
  ·subst c;rw[β.fB]at g;obtain rfl:=aG g;rw[h.mg]at i
   grind
  ·rw[h.mV k B c]at i;rw[β.iE e c]at g;exact((o.blk k p a i g).mono r).of_heap (l.kept _ (z k a g))
 ·intro k v p C a w q i g j m G;by_cases c:k=h.aD
  ·subst c;rw[β.fB]at j;obtain rfl:=aG j;rw[β.iE e (Ne.symm q)]at m
   grind
  ·by_cases n:v=h.aD
   ·subst n;rw[β.fB]at m;obtain rfl:=aG m;rw[β.iE e q]at j
    grind
   ·rw[h.mV k B c]at i;rw[h.mV v B n]at g;rw[β.iE e c]at j;rw[β.iE e n]at m;exact o.own k v p C a w q i g j m G
 ·intro k a d;by_cases c:k=h.aD
  ·subst c;rw[β.fB]at d
   grind
  ·rw[β.iE e c]at d
   grind
 ·intro k p d E;rw[h.mV k B (by omega)]at d
  grind
theorem kN.ack{cs:List ag}{l':List ag}(h:dx β cs l'):kN β cs 0 l'.toArray:=λi v a=>by
 obtain⟨v',b,c⟩:=h.get a
 grind
theorem Jt(n:Nat):XN (0,0) n:=λx _ h=>absurd h (by simp)
theorem oy{w:aU}(o:Obj):(w.alloc o).heap[w.heap.size]?=aa o:=by
 unfold World.alloc;grind
theorem qK{w:aU}(o:Obj){b:Nat}(h:b<w.heap.size):(w.alloc o).heap[b]?=w.heap[b]?:=by
 simp only[World.alloc,getElem?_push]
 grind
theorem ve{cs l':List ag}{t:aF}{f:Nat->ag}{v':ag}(h:dx β cs l')
  (g:∀(a:gC)(k:Nat)(c:Slot),a k=aa c->c.b=W.heap.size->c.s=0->c.n=l'.length->c.sz=n->c.isMap=aj->cz a (f k) v'):
  uU β W (.cells cs t n af) f v' (W.alloc (.cells l'.toArray t)) where
 size:=by simp
 os:=rfl
 tape:= .refl _
 output:=rfl
 kept:=λb e=>qK _ e
 new:=⟨⟨W.heap.size,0,l'.length,t,n,aj⟩,rfl,λa k d i=>
  ⟨⟨rfl,rfl,⟨rfl,λ_=>rfl⟩,l'.toArray,(0,0),oy _,by simp,kN.ack (h.mono d),λ_=>Jt _⟩,g a k _ i rfl rfl rfl rfl rfl⟩⟩
theorem dx.vH{z:ag}(h:plain z=af):dx β z.cells.toList z.cells.toList:=mM.toList.1 (mM.xp h)
theorem tV{l l':List ag}(h:dx β l l'):∀n,dx β (fb l n) (fb l' n)
 |0=> .nil β
 |n+1=>h.append (tV h n)
theorem nD(l:List ag):∀n,(fb l n).length=n*l.length
 |0=>by simp[fb]
 |n+1=>by simp[fb,nD l n,dh,Nat.add_comm]
theorem EC(l:List ag):∀(n i:Nat),i<n*l.length->(fb l n)[i]?=l[i%l.length]?
 |0,i,h=>by omega
 | n+1,i,h=>by
  have b:0<l.length:=by
   rcases dv l.length with a|a
   ·grind
   ·omega
  simp only[fb];by_cases c:i<l.length
  ·grind[ef]
  ·rw[getElem?_append_right (by omega),EC l n (i-l.length) (by rw[dh]at h;omega)]
   grind[Nat.mod_eq_sub_mod]
theorem A1(z:Array ag)(n:Nat)(a:0<z.size):((Array.range (n*z.size)).map (λi=>z[i%z.size]!))=(fb z.toList n).toArray:=by
 apply fS;apply dH
 grind[EC,nD]
end
section
variable {β:gC} {P:aO}
theorem ni(e:aF)(cs:Array ag)(w:aU):(newRow e cs).run P w = .ok ⟨w.heap.size,0,none⟩ (w.alloc (.cells cs e)):=by rfl
theorem SY(h:J k=aa G)(b:G.b=W.heap.size)(c:G.s=0)(a:G.isMap=aj):cz J (df k 0) (df W.heap.size 0):=by
 have:=cz.ptr (i:=0) h a
 grind
theorem yR{w:aU}{c:Nat}(h:J k=aa G)(j:G.b=w.heap.size)(d:G.s=0)(b:G.isMap=aj)(e:c<fg->m=c)(f:fg<=c->c-fg<=m)(a:n<=dw c)
  (g:G.sz=0\/m*G.sz<=G.n):cz J (gJ k 0 n c) (gJ w.heap.size 0 n m):=by
 have:=cz.slice (i:=0) (i':=0) h b e f a (.inl (by rw[d])) (by simpa using g)
 grind
theorem Gd{c:Nat}(h:c<fg):dw c=c:=by simp_all[iN,dw]
theorem fk(c:Nat):dw (fg+c)=c:=by simp_all[dw]
theorem Fa:fg=36893488147419103232:=rfl
def frz(a:aJ)(n:Nat):Obj->Obj
 |.cells c b (e,d)=> .cells c b (if e==d then(a.off,a.off+n)else(min e a.off,max d (a.off+n)))
 |o=>o
theorem tL(w:aU)(a:aJ){n:Nat}(c:n≠0)(b:Nat):(w.freeze a n).heap[b]?=if a.block=b then(w.heap[b]?).map (frz a n)else w.heap[b]?:=by
 unfold World.freeze;rw[iN c];simp only[Array.getElem?_modify];rfl
theorem Eb(w:aU)(a:aJ)(n:Nat):(w.freeze a n).heap.size=w.heap.size:=by grind[World.freeze]
theorem wY(w:aU)(a:aJ)(n:Nat):(w.freeze a n).os=w.os/\sS w (w.freeze a n)/\(w.freeze a n).output=w.output:=by
 unfold World.freeze;split<;>exact⟨rfl,.refl _,rfl⟩
theorem GC(b:Nat):∀(q:List (ag×Nat))(a:Array ag),(q.foldl (λcs (c,j)=>cs.setIfInBounds (b+j) c) a).size=a.size
 |[],_=>rfl
 |c::q,a=>by simp only[j7];rw[GC b q];simp
theorem Jo(b:Nat->Option (Nat×Nat)):∀(l:List (Nat×ag))(a r:Array ag),jC b a l=aa r->r.size=a.size
 |[],a,r,h=>by grind[jC]
 | (i,v)::l,a,r,h=>by
  simp only[jC]at h;split at h
  ·cases h
  ·split at h
   ·cases h
   ·rw[Jo b l _ _ h,<-oW];simp[GC]
theorem xv(f:Nat->ag)(n:Nat)(h:n=0):(Array.range n).map f = #[]:=by grind
set_option maxHeartbeats 1000000 in
theorem xq{ρ A:bm->ag}(I:∀x,cz β (ρ x) (A x)){o:aR}{B:eA}{f:Nat->ag}{w:aU}(a:dK P ρ o=aa (B,f)):
  ∃v' J,(execOp A o).run P w = .ok (.value v') J/\uU β w B f v' J:=by
 unfold dK at a;unfold execOp;split at a
 ·next t C=>
  simp only[C];split at a
  ·next z M=>
   split at a
   ·next W=>
    simp only[aZ,bu]at a;obtain⟨rfl,rfl⟩:=a;refine⟨_,_,lD (v:= df w.heap.size 0) (w':=w.alloc (.cells z.cells.toList.toArray t)) ?_,ve (dx.vH (jH M).1) λL k sl y F Y h4 h5 T=>SY y F Y T⟩;simp[Instr.alloc,tw M,newVar,ni]
   ·cases a
  ·cases a
 ·next t x C=>
  simp only[C];split at a
  ·next W=>
   simp only[aZ,bu]at a;obtain⟨rfl,rfl⟩:=a;have Z:=I x;have hj:ρ x≠Ab.qd:=by
    intro e;rw[e]at W
    cases W
   have hc:=Z.cells hj;refine⟨_,_,lD (v:= df w.heap.size 0) (w':=w.alloc (.cells (A x).cells.toList.toArray t)) ?_,ve (mM.toList.1 hc) λL k sl y F Y h4 h5 T=>SY y F Y T⟩;simp[Instr.box,newVar,ni]
  ·cases a
 ·next t g u C=>
  simp only[C];split at a
  ·next e hu=>
   split at a
   ·next Q z U M=>
    split at a
    ·next hc=>
     obtain⟨H,S,y9⟩:=hc;split at a
     ·next cs D=>
      split at D
      ·next hj=>
       split at a
       ·next W=>
        simp only[aZ,bu]at a;obtain⟨rfl,rfl⟩:=a;have R:mM β (fb z.cells.toList g).toArray (fb z.cells.toList g).toArray:=mM.toList.2 (by simpa using tV (dx.vH (jH M).1) g);have y4:EK β (u.toList.map λp=>(p.1,ρ p.2)) (u.toList.map λp=>(p.1,A p.2)):=EK.map u.toList (·.1) λp _=>I p.2;obtain⟨x0,hf,hr⟩:=BL _ _ _ _ _ _ y4 (by
         intro p hp;simp only[cI]at hp;obtain⟨q,hq,rfl⟩:=hp;exact bY.1 hj q hq) R D
        have x4:x0.size=g*Q:=by
         rw[Jo _ _ _ _ hf];simp[nD,H]
        refine⟨_,_,lD (v:= gJ w.heap.size 0 g g) (w':=w.alloc (.cells x0.toList.toArray e)) ?_,ve (mM.toList.1 hr) λL k sl y F Y h4 h5 T=>
         yR y F Y T (λ_=>rfl) (λh=>absurd h (by rw[Fa];have:g<=g*Q:=Nat.le_mul_of_pos_right _ S;omega))
          (by rw[Gd (by rw[Fa];have:g<=g*Q:=Nat.le_mul_of_pos_right _ S;omega)];exact aT _) (.inr (by rw[h5,h4];simp[x4]))⟩
        have he:(u.map λ(i,x)=>(i,A x)).toList=(u.toList.map λp=>(p.1,A p.2)):=by simp
        have V:((Array.range (g*Q)).map (z.cells[· % z.cells.size]!))=(fb z.cells.toList g).toArray:=by
         rw[<-H];exact A1 z.cells g (by omega)
        simp only[Instr.buildSlice,aV,cM hu,aL,ic U,eJ];rw[iN (by omega)];by_cases x1:g*Q=0
        ·rw[iP x1];have:g=0:=by rcases Nat.mul_eq_zero.1 x1 with h|h;exact h;omega
         subst this;simp only[fb]at hf;simp only[bp,aL,he];rw[xv _ _ (by simp)];have y7:jC (λi=>aa (i*Q,Q)) #[] (u.toList.map λp=>(p.1,A p.2))=aa x0:=hf;rw[y7];simp[ni]
        ·rw[iN x1];simp only[aV,tw M,bp,aL,V,he,hf];simp[ni]
       ·cases a
      ·cases D
     ·cases a
    ·cases a
   ·cases a
  ·cases a
 ·next t l c C=>
  simp only[C];have hl:=I l;have hc:=I c;split at a
  ·next e l0 G hu y5 y2=>
   rw[y5]at hl;rw[y2]at hc;split at a
   ·next i z hi M=>
    split at a
    ·next x3=>
     obtain⟨H,S,h0,y,F,Y⟩:=x3;simp only[aZ,bu]at a;obtain⟨rfl,rfl⟩:=a;have R:dx β (fb z.cells.toList G.toNat) (fb z.cells.toList G.toNat):=tV (dx.vH (jH M).1) _;have U:bZ P e=aa i.size:=by simp[bZ,hi]
     refine⟨_,_,lD (v:= gJ w.heap.size 0 l0.toNat G.toNat) (w':=w.alloc (.cells (fb z.cells.toList G.toNat).toArray e)) ?_,ve R λL k sl y0 x9 y1 h4 h5 T=>
      yR y0 x9 y1 T (λ_=>rfl) (λh=>absurd h (by rw[Fa];omega)) (by rw[Gd (by rw[Fa];omega)];omega) (.inr (by rw[h5,h4,nD];simp[H]))⟩
     have y3:ak.wrap l0=l0:=by rw[wrap_i64];omega
     have x8:ak.wrap G=G:=by rw[wrap_i64];omega
     simp only[Instr.makeSlice,aV,cM hu,aL,hl.hI,hc.hI,asInt,asIntOf,bp,xT hi,y3,x8,eJ];have z0:(i.bytes:Int)*G<=140737488355328:=by rw[Int.mul_comm];exact F
     rw[iN (by simp;omega)];simp only[run_askRoom,aL,ic U];by_cases X:G.toNat*i.size=0
     ·rw[iP X];have:G.toNat=0:=by rcases Nat.mul_eq_zero.1 X with h|h;exact h;omega
      rw[xv _ _ X,ni,this];rfl
     ·rw[iN X];have V:=A1 z.cells G.toNat (by omega);rw[H]at V;simp only[tw M,aL,H];rw[V,ni];rfl
    ·cases a
   ·cases a
  ·cases a
 ·next t r C=>
  simp only[C];have K:∀v',v'=Value.map (aa w.heap.size)->uU β w (.map []) (λk=> .map (aa k)) v' (w.alloc (.map #[] 0)):=λv' he=>
   {
    size:=by simp,os:=rfl,tape:= .refl _,output:=rfl,kept:=λb N=>qK _ N
    new:=⟨⟨w.heap.size,0,0,0,0,af⟩,rfl,λL k _ hk=>⟨⟨rfl,#[],0,oy _,rfl,λi p e h=>by simp at h⟩,by rw[he];exact .map (sl:=⟨w.heap.size,0,0,0,0,af⟩) hk rfl⟩⟩ }
  split at a
  ·next kt e hu=>
   split at a
   ·simp only[aZ,bu]at a;obtain⟨rfl,rfl⟩:=a;refine⟨_,_,lD (v:= .map (aa w.heap.size)) (w':=w.alloc (.map #[] 0)) ?_,K _ rfl⟩;simp[Instr.makeMap]
   ·next x=>
    split at a
    ·next k n Z=>
     have x5:=I x;rw[Z]at x5;simp only[aZ,bu]at a;obtain⟨rfl,rfl⟩:=a;refine⟨_,_,lD (v:= .map (aa w.heap.size)) (w':=w.alloc (.map #[] 0)) ?_,K _ rfl⟩;simp[Instr.makeMap,cM hu,x5.hI,asInt,asIntOf]
    ·cases a
  ·cases a
 ·next s d x C=>
  simp only[C];have Z:=I x;split at a
  ·next ds e E y F ha=>
   rw[ha]at Z;split at a
   ·next he=>
    split at a
    ·next U=>
     simp only[aZ,bu]at a;obtain⟨rfl,rfl⟩:=a;have x6:(Question.appendCap E.size 0 e).forced=aj:=rfl;obtain⟨m,x7,z1⟩:∃m,(Question.appendCap E.size 0 e).cut (w.tape w.drawn (.appendCap E.size 0 e))=m/\E.size<=m:=⟨_,rfl,by simp[Question.cut]⟩
     let j:Array ag:=(E.data.map λb=>aC aK b.toNat)++Array.replicate (m-E.size) (.int aK 0)
     have D:j.size=m:=by simp[j];omega
     let O:aU:=w.drew.alloc (.cells j e)
     let w2:aU:=O.freeze ⟨w.heap.size,m,none⟩ 1
     have K:w2.heap[w.heap.size]?=aa (.cells j e (m,m+1)):=by
      have y:O.heap[w.heap.size]?=aa (.cells j e):=oy (w:=w.drew) _;simp only[w2,tL _ _ (Nat.succ_ne_zero 0),if_true,y,gf,frz,BEq.rfl]
     refine⟨_,w2,lD (v:= gJ w.heap.size 0 E.size m) (w':=w2) ?_,?_⟩
     ·have y6:O.shape? w.heap.size=aa (e,m):=by
       have y:O.heap[w.heap.size]?=aa (.cells j e):=oy (w:=w.drew) _;simp[World.shape?,y,D]
      have x2:(convert s d (A x)).run P w=(Conv.stringToBytes e E).run P w:=by
       rw[Z.jQ];simp only[convert,aV,cM y,cM F,aL]
       cases ds<;>simp only[cM he,aL]
      rw[x2];simp only[Conv.stringToBytes,aV,run_choose,x6,dG,if_false,aL,x7,ni];show(Sem.run P (markStringish ⟨w.heap.size,0,none⟩) O).andThen _=_;simp only[markStringish,aV,run_shape,y6,aL,run_freeze,bp];rfl
     ·refine{ size:= ?_,os:=rfl,tape:=⟨rfl,fA _⟩,output:=rfl,kept:= ?_,new:=⟨⟨w.heap.size,0,m,e,1,aj⟩,rfl,?_⟩ }
      ·simp[w2,O,Eb]
      ·intro b N;have:O.heap[b]?=w.heap[b]?:=qK (w:=w.drew) _ N;simp only[w2,tL _ _ (Nat.succ_ne_zero 0)];rw[iN (by omega)];exact this
      ·intro L k y8 hk;refine⟨⟨rfl,rfl,⟨rfl,λ_=>rfl⟩,j,(m,m+1),K,D,?_,λ_ x y F=>by rw[D];exact y⟩,?_⟩
       ·intro i v a;simp only[List.getElem?_map,bo]at a;obtain⟨b,N,rfl⟩:=a;refine⟨_,?_,.int _ _⟩;have hi:i<E.data.size:=by
         have:=(List.getElem?_eq_some_iff.1 N).1;simpa using this
        simp only[j,bJ];rw[Array.getElem?_append_left (by simpa using hi)];rw[getElem?_toList]at N;simp[N]
       ·have:E.data.toList.length=E.size:=by simp
        rw[this];exact yR (w:=w) hk rfl rfl rfl (λh=>absurd h (by omega)) (λ_=>by omega) (by rw[fk];exact aT _) (.inr (by simp))
    ·cases a
   ·cases a
  ·cases a
 grind
end
variable{d:List ag}
section
variable {β:gC} {P:aO}
structure At(w w':aU)(b:Nat):Prop where
 size:w'.heap.size=w.heap.size
 os:w'.os=w.os
 tape:sS w w'
 output:w'.output=w.output
 kept:∀b',b'≠b->w'.heap[b']?=w.heap[b']?
theorem At.refl(w:aU)(b:Nat):At w w b:=⟨rfl,rfl,.refl _,rfl,λ_ _=>rfl⟩
theorem At.trans{d c:aU}{b:Nat}(h:At W d b)(a:At d c b):At W c b:=
 ⟨a.size.trans h.size,a.os.trans h.os,h.tape.trans a.tape,a.output.trans h.output,λf e=>(a.kept f e).trans (h.kept f e)⟩
theorem Step.at_{v:aU}(o:oV β h W){k:Nat}{f B:eA}{m:Slot}(z:h.get k=aa f)(u:β k=aa m)(y:f.wr=af)(n:At W v m.b)(G:EF β B m v):Step β h W β (h.set k B) v:=by
 have A:∀a l d,a≠k->h.get a=aa l->β a=aa d->d.b≠m.b:=λa l d c e g=>(o.own k a f l m d (Ne.symm c) z e u g y).symm;refine⟨β.le_refl,aT _,⟨?_,?_,?_,au.wf_set o.wf B (o.lt k m u).1⟩,by rw[n.size];omega,n.os,n.tape,n.output,?_,?_,λ_ _ h=> .inl h,?_⟩
 ·intro a d e;rw[n.size];exact o.lt a d e
 ·intro a l d e g;by_cases c:a=k
  ·subst c;rw[h.gK]at e
   grind
  ·rw[h.eW k a B c]at e;exact(o.blk a l d e g).of_heap (n.kept _ (A a l d c e g))
 ·intro i j w x s q c e g p r F;by_cases t:i=k
  ·subst t;rw[h.eW i j B (Ne.symm c)]at g
   grind
  ·rw[h.eW k i B t]at e;by_cases C:j=k
   ·grind
   ·rw[h.eW k j B C]at g;exact o.own i j w x s q c e g p r F
 ·intro b D E;refine n.kept b ?_;rintro rfl;exact E ⟨k,f,m,z,y,u,rfl⟩
 ·rintro b D ⟨a,l,d,e,g,p,r⟩;by_cases c:a=k
  ·subst c;exact⟨a,f,d,z,y,p,r⟩
  ·rw[h.eW k a B c]at e;exact⟨a,l,d,e,g,p,r⟩
 ·intro a l e g;by_cases c:a=k
  ·grind
  ·rw[h.eW k a B c]at e;grind
def pg(a:Array ag)(o:Nat)(b:List ag):Array ag:=(a.toList.take o++b++a.toList.drop (o+b.length)).toArray
theorem Rt(a:Array ag)(o:Nat):pg a o []=a:=by grind[pg]
theorem yg(h:n+c.length<=V.size):(pg V n c).size=V.size:=by grind[pg]
theorem O8(h:n+(c.length+1)<=V.size):pg (V.setIfInBounds n v) (n+1) c=pg V n (v::c):=by
 have a:n<V.toList.length:=by simp;omega
 have b:(V.toList.set n v).take (n+1)=V.toList.take n++[v]:=by
  rw[eH (by simpa using a),List.take_set_of_le (aT _)];simp
 have d:(V.toList.set n v).drop (n+1+c.length)=V.toList.drop (n+(c.length+1)):=by
  rw[List.drop_set_of_lt (by omega)];congr 1;omega
 simp_all[pg]
theorem Ro(w:aU){b o:Nat}{a:Array ag}{t:aF}{c:Nat×Nat}(v:ag)(e:w.heap[b]?=aa (.cells a t c)):
  At w (w.setCell ⟨b,o,none⟩ v) b/\(w.setCell ⟨b,o,none⟩ v).heap[b]?=aa (.cells (a.setIfInBounds o v) t c):=by
 refine⟨⟨by simp[World.setCell],rfl,⟨rfl,aT _⟩,rfl,λf d=>?_⟩,?_⟩
 all_goals simp_all[Array.getElem?_modify,Ne.symm,World.setCell]
theorem vJ(b o:Nat)(t:aF)(e:Nat×Nat):∀(c:List ag)(i:Nat)(a:Array ag)(w:aU),w.heap[b]?=aa (.cells a t e)->XN e a.size->o+i+c.length<=a.size->
  (∀v∈c,v.oneCell'=af)->∃d,(storeCells ⟨b,o,none⟩ c i).run P w = .ok () d/\At w d b/\d.heap[b]?=aa (.cells (pg a (o+i) c) t e)
 |[],i,a,w,f,_,_,_=>⟨w,rfl,At.refl w b,by grind[Rt]⟩
 | v::c,i,a,w,f,h,p,j=>by
  simp only[bU]at p;have s:w.cell? ⟨b,o+i,none⟩=aa a[o+i]:=by rw[rX f];exact getElem?_eq_getElem (by omega)
  have m:w.frozen? ⟨b,o+i,none⟩=aj:=by
   simp only[World.frozen?,f];rw[Bool.and_eq_false_iff];by_cases k:e.1<=o+i
   ·right;simp only[decide_eq_false_iff_not];intro n;have:=h _ k n;omega
   ·left;simpa using k
  have x:(store ((⟨b,o,none⟩:aJ).add i) v).run P w = .ok () (w.setCell ⟨b,o+i,none⟩ v):=by
   rw[gk,run_store P w _ v .plain (j v cj),s];simp[m]
  obtain⟨r,g⟩:=Ro w (o:=o+i) v f;obtain⟨d,z,l,y⟩:=vJ b o t e c (i+1) _ _ g (by simpa using h) (by simp;omega) λu q=>j u (cF _ q);refine⟨d,?_,r.trans l,?_⟩
  all_goals grind[aV,aL,O8,storeCells]
theorem dx.scalars{l l':List ag}(h:dx β l l')(d:l.all eZ=af):∀v∈l',v.oneCell'=af:=λv c=>by
 obtain⟨i,b,rfl⟩:=List.mem_iff_getElem.1 c;have a:i<l.length:=h.1▸b;exact((h.2 i _ _ (gE a) (gE b)).Rk (bY.1 d _ (List.getElem_mem a))).1
theorem kN.pg{cs:List ag}{s:Nat}(h:kN β cs s V)(f:dx β c d)(m:i+c.length<=cs.length)(l:s+i+c.length<=V.size):
  kN β (cs.take i++c++cs.drop (i+c.length)) s (Ab.pg V (s+i) d):=by
 have k:d.length=c.length:=f.1.symm;intro j v a;have g:∀j,(Ab.pg V (s+i) d)[s+j]?=if j<i then V[s+j]? else if j<i+c.length then d[j-i]? else V[s+j]?:=by
  intro j;simp only[Ab.pg,List.getElem?_toArray];by_cases b:j<i
  ·grind
  ·rw[iN b];by_cases e:j<i+c.length
   ·rw[iP e,getElem?_append_left (by simp;omega),getElem?_append_right (by simp;omega)]
    grind
   ·rw[iN e,getElem?_append_right (by simp;omega),getElem?_drop,getElem?_toList]
    grind
 rw[g];by_cases b:j<i
 ·rw[iP b];rw[bP,getElem?_append_left (by grind),getElem?_take,iP b]at a;exact h j v a
 ·rw[iN b];by_cases e:j<i+c.length
  ·rw[iP e];rw[getElem?_append_left (by grind),getElem?_append_right (by grind)]at a;have:j-(cs.take i).length=j-i:=by simp;omega
   rw[this]at a;exact f.get a
  ·rw[iN e];rw[getElem?_append_right (by grind),getElem?_drop]at a;have:i+c.length+(j-(cs.take i++c).length)=j:=by simp;omega
   rw[this]at a;exact h j v a
theorem yT(o:oV β h W){k i:Nat}{c:Slot}{d f:List ag}{u:ek}(b:storeAt h k i d=aa u)(n:β k=aa c)(e:dx β d f):
  ∃m,(storeCells ⟨c.b,c.s+i,none⟩ f).run P W = .ok () m/\Step β h W β (u.app h) m:=by
 unfold storeAt at b;split at b
 ·next cs t H q=>
  split at b
  ·next G=>
   obtain⟨A,z⟩:=G;obtain rfl:=aG b;obtain⟨s,y,x,g,p,v,r,a,j⟩:=o.blk k _ c q n;by_cases w:d=[]
   ·subst w;have:=e.jf;subst this;refine⟨W,rfl,Step.at_ o q n rfl (At.refl W _) ?_⟩;simp only[cp,List.length_nil,eR,dM];exact⟨s,y,x,g,p,v,r,a,j⟩
   ·have D:0<d.length:=fE.2 w;have l:c.s+i+d.length<=g.size:=by
     obtain⟨v',C,_⟩:=a (i+d.length-1) _ (gE (by omega));have:=(Array.getElem?_eq_some_iff.1 C).1;omega
    obtain⟨m,F,E,B⟩:=vJ (P:=P) c.b (c.s+i) t p f 0 g W v (j rfl) (by rw[<-e.1];omega) (e.scalars z);refine⟨m,F,Step.at_ o q n rfl E ⟨s,y,x,_,p,B,?_,a.pg e A l,λ_=>?_⟩⟩
    ·rw[yg (by rw[<-e.1];omega)];exact r
    ·rw[yg (by rw[<-e.1];omega)];exact j rfl
  ·cases b
 grind
end
section
variable {β:gC} {P:aO}
theorem Mi{i:TypeInfo}(h:fI P T=aa i):P.info? T=aa i/\0<i.size/\∃z,i.zero=aa z/\z.cells.size=i.size/\zeroOf P T=aa z:=by
 unfold fI at h;split at h
 ·next f z b c=>
  split at h
  ·next e=>
   obtain rfl:=aG h;obtain⟨_,j,d,a⟩:=jH c;rw[b]at d;obtain rfl:=aG d;exact⟨b,e.2,z,a,e.1,c⟩
  ·cases h
 grind
theorem vM(N:oV β h W){d:Nat}{x G:ag}{u:List ag}{m:Nat}(e:gZ h d x=aa (u,m))(v:cz β x G):
  (∀W,(Builtin.lenOf G).run P W = .ok m W)/\∀j,j<=m->∃l',(∀g,(∀b,b<W.heap.size->g.heap[b]?=W.heap[b]?)->(eE d j G).run P g = .ok l'.toArray g)/\dx β (u.take (j*d)) l':=by
 unfold gZ at e;split at e
 ·simp only[aZ,bu]at e;obtain⟨rfl,rfl⟩:=e;obtain⟨_,_,rfl⟩:=v.ko;refine⟨λW=>rfl,λj z=>⟨[],λg _=>by simp[eE],by simp;exact .nil β⟩⟩
 ·simp only[aZ,bu]at e;obtain⟨rfl,rfl⟩:=e
  cases v
  refine⟨λW=>rfl,λj z=>⟨[],λg _=>?_,by simp;exact .nil β⟩⟩;obtain rfl:j=0:=by omega
  simp[eE,loadCells,loadCellsFrom]
 ·next k i n c=>
  split at e
  ·next cs t x2 wr hk=>
   split at e
   ·next Y=>
    simp only[aZ,bu]at e;obtain⟨rfl,rfl⟩:=e;obtain⟨a,i',c',H,hm,_,rfl,x0,x4,x1,Q,x3⟩:=v.lb;obtain⟨_,_,_,D,fr,y,hn,f,_⟩:=N.row hk H;refine⟨λW=>rfl,λj z=>?_⟩;by_cases K:j=0
    ·subst K;exact⟨[],λg _=>by simp[eE,loadCells,loadCellsFrom],by simp;exact .nil β⟩
    ·have S:i'=a.s+i:=by rcases Q with p|⟨p,w⟩;exact p;exact absurd p (by omega)
     subst S;have M:j*d<=n*d:=bM _ z;have o:((cs.drop i).take (j*d)).length=j*d:=by
      simp only[bq,da]at Y⊢;omega
     have A:=(N.lt k a H).2;have I:=yO (P:=P) y f i (j*d) o;obtain⟨l',hr,l⟩:=I;refine⟨l',λg B=>?_,?_⟩
     ·obtain⟨l2,x5,V⟩:=yO (P:=P) (w:=g) (by rw[B _ A];exact y) f i (j*d) o;have:(loadCells ⟨a.b,a.s+i,none⟩ (j*d)).run P g = .ok l'.toArray g:=by
       have X:∀q,q<j*d->W.cell? ((⟨a.b,a.s+i,none⟩:aJ).add q)=aa (l'.getD q undef):=by
        intro q r;have E:l'.length=j*d:=by rw[<-l.1,o]
        have R:q<((cs.drop i).take (j*d)).length:=by omega
        have U:=gE R;rw[getElem?_take,iP r,getElem?_drop]at U;obtain⟨v',p,_⟩:=f _ _ U;have w:=run_loadCells (P:=P) W ⟨a.b,a.s+i,none⟩ (j*d) (λq=>D.getD (a.s+(i+q)) undef) (by
         intro F T;have J:F<((cs.drop i).take (j*d)).length:=by omega
         have C:=gE J;rw[getElem?_take,iP T,getElem?_drop]at C;obtain⟨v2,L,_⟩:=f _ _ C;rw[gk,rX y,show a.s+i+F=a.s+(i+F) by omega,L];simp[dg,L])
        rw[hr]at w;simp only[Result.ok.injEq,and_true]at w;have Z:l'=(dA (j*d)).map λq=>D.getD (a.s+(i+q)) undef:=by simpa using congrArg Array.toList w
        rw[gk,rX y,show a.s+i+q=a.s+(i+q) by omega,p,Z];simp[List.getD,r,dg,p]
       have E:l'.length=j*d:=by rw[<-l.1,o]
       have e2:=run_loadCells (P:=P) g ⟨a.b,a.s+i,none⟩ (j*d) (λq=>l'.getD q undef) (by
        intro q r;have:g.cell? ((⟨a.b,a.s+i,none⟩:aJ).add q)=W.cell? ((⟨a.b,a.s+i,none⟩:aJ).add q):=by
         rw[gk];simp[World.cell?,B _ A]
        rw[this];exact X q r)
       rw[e2];congr 2;apply dH;intro q;by_cases r:q<j*d
       ·simp[r,List.getD,gE (show q<l'.length by omega)]
       ·rw[getElem?_eq_none (by simp;omega),getElem?_eq_none (by omega)]
      exact this
     ·rw[List.take_take,dI M];exact l
   ·cases e
  ·cases e
 ·next s=>
  split at e
  ·next O=>
   subst O;simp only[aZ,bu]at e;obtain⟨rfl,rfl⟩:=e
   cases v.jQ
   refine⟨λW=>by simp[Builtin.lenOf],λj z=>⟨(s.data.toList.map λb=>aC aK b.toNat).take j,λg _=>?_,?_⟩⟩
   ·simp only[eE,bp];congr 1;apply fS;simp[ByteArray.data_extract,Array.toList_extract]
   ·rw[dB,<-List.map_take];exact dx.map _ λb _=> .int _ _
  ·cases e
 grind
theorem yi(h:eI P T=af):P.underlying T=aa .string\/ ∃e,P.underlying T=aa (.slice e):=by grind[eI]
theorem qR{t q e:aF}{i:TypeInfo}(v:P.underlying t=aa (.slice e))(A:P.info? e=aa i)(g:eI P T=af){b:Option aJ}{n c m:Nat}{d:ag}{f:List ag}{w h:aU}
  (o:∀w,(Builtin.lenOf d).run P w = .ok m w) (l:(eE i.size m d).run P w = .ok f.toArray w) (x:n+m<=c)
  (y:(match b with|some a=>storeCells (a.add (n*i.size)) f|none=>pure ():Sem Unit).run P w = .ok () h):
  (mr #[t,T] q #[ae b n c,d]).run P w = .ok (ae b (n+m) c) h:=by
 have u:(#[t,T]:Array aF)[0]?=aa t:=rfl;have r:(#[t,T]:Array aF)[1]?=aa T:=rfl;have s:(#[ae b n c,d]:Array ag)[0]?=aa (ae b n c):=rfl;have p:(#[ae b n c,d]:Array ag)[1]?=aa d:=rfl;have k:∀w,(sizeOf e).run P w = .ok i.size w:=ic (by grind[bZ]);rcases yi g with j|⟨z,j⟩
 all_goals
  simp only[mr,u,r,s,p,aV,cM v,aL,k,cM j,bp,dG,if_false,o,eJ];rw[iP x];simp only[Bool.not_false,if_true,l,aL]
  cases b with
  |none=>simp_all
  |some a=>simp_all
theorem tq{t ty e:aF}{i:TypeInfo}{z:ag}(y:P.underlying t=aa (.slice e))(s:P.info? e=aa i)(E:i.zero=aa z)(f:eI P T=af){base:Option aJ}{n c m:Nat}{a:ag}
  {olds b:List ag} {w:aU} (o:∀w,(Builtin.lenOf a).run P w = .ok m w) (u:(eE i.size n (ae base n c)).run P w.drew = .ok olds.toArray w.drew)
  (l:(eE i.size m a).run P w.drew = .ok b.toArray w.drew) (A:c<n+m) (B:(n+m)*i.bytes<=70368744177664) (D:n+m<=1099511627776):
  (mr #[t,T] ty #[ae base n c,a]).run P w = .ok (gJ w.heap.size 0 (n+m) (grownCap w (n+m) c e))
   (w.drew.alloc (.cells (olds++b++(gR z.cells (grownCap w (n+m) c e-(n+m))).toList).toArray e)):=by
 have v:(#[t,T]:Array aF)[0]?=aa t:=rfl;have q:(#[t,T]:Array aF)[1]?=aa T:=rfl;have r:(#[ae base n c,a]:Array ag)[0]?=aa (ae base n c):=rfl;have p:(#[ae base n c,a]:Array ag)[1]?=aa a:=rfl;have j:∀w,(sizeOf e).run P w = .ok i.size w:=ic (by grind[bZ]);have g:∀w,(zeroValue e).run P w = .ok z w:=λw=>by simp_all[xT,zeroValue]
 have k:=growslice_fits (need:=n+m) (old:=c) (bytes:=i.bytes) A (by omega);have d:(Question.appendCap (n+m) c e).forced=aj:=rfl;have x:ak.max=9223372036854775807:=by decide
 rcases yi f with h|⟨C,h⟩
 all_goals
  simp only[mr,v,q,r,p,aV,cM y,aL,j,cM h,bp,dG,if_false,o,eJ,xT s,false_or,Bool.not_false,if_true];rw[iN (by omega),iN (by omega),iN (by omega)];simp only[run_choose,d,dG,if_false,aL,run_askRoom,World.drew_eq,u,l,g,ni];congr 2
  simp_all[grownCap]
theorem S9(c:oV β h W)(k:Nat):oV β (h.del k) W:=
 ⟨λf l q=>c.lt f l q,λf B l a b=>by
  rw[h.iD]at a;split at a
  ·grind
  ·exact c.blk f B l a b,λj m g i e d n a b o p r=>by
  rw[h.iD]at a b;split at a
  ·grind
  ·split at b
   ·grind
   ·exact c.own j m g i e d n a b o p r,au.RM c.wf k⟩
theorem ZR(f:oV β h W)(k:Nat):Step β h W β (h.del k) W:=
 ⟨β.le_refl,aT _,S9 f k,aT _,rfl,.refl _,rfl,λ_ _ _=>rfl,λb j ⟨c,B,g,a,d,e,i⟩=>⟨c,B,g,by
  rw[h.iD]at a;grind,d,e,i⟩,λ_ _ h=> .inl h,λc B a d=>⟨B,by
  rw[h.iD]at a;grind⟩⟩
theorem VV{I:aU}(s:oV β h W){k:Nat}{i B:eA}{o sl':Slot}(F:h.get k=aa i)(z:β k=aa o)(E:i.wr=af)(v:At W I o.b)(t:sl'.b=o.b)
  (N:EF (β.ext h.aD sl') B sl' I):Step β h W (β.ext h.aD sl') ((h.del k).push B) I:=by
 have P:=(s.lt k o z).1;have D:=s.qp (aT h.aD);have H:β.le (β.ext h.aD sl'):=gC.GP sl' D;have j:∀d,d≠h.aD->∀g,((h.del k).push B).get d=aa g->d≠k/\h.get d=aa g:=by
  intro d a g G;rw[(h.del k).mV d B a,h.iD]at G;split at G
  ·cases G
  ·next m=>exact⟨m,G⟩
 have K:((h.del k).push B).get h.aD=aa B:=(h.del k).mg B;have w:∀d g e,d≠k->h.get d=aa g->β d=aa e->e.b≠o.b:=λd g e a c f=>(s.own k d i g o e (Ne.symm a) F c z f E).symm;refine⟨H,by simp,⟨?_,?_,?_,au.sB (h:=h.del k) (au.RM s.wf k) B⟩,by rw[v.size];exact aT _,v.os,v.tape,v.output,?_,?_,?_,?_⟩
 ·intro d e c;rw[v.size];by_cases a:d=h.aD
  ·subst a;rw[β.fB]at c;obtain rfl:=aG c;exact⟨by simp,by rw[t];exact(s.lt k o z).2⟩
  ·rw[β.iE sl' a]at c;have:=s.lt d e c;exact⟨by simp;omega,this.2⟩
 ·intro d g e c f;by_cases a:d=h.aD
  ·subst a;rw[β.fB]at f;obtain rfl:=aG f;rw[K]at c;obtain rfl:=aG c;exact N
  ·rw[β.iE sl' a]at f;obtain⟨m,c⟩:=j d a g c;exact((s.blk d g e c f).mono H).of_heap (v.kept _ (w d g e m c f))
 ·intro q l u p y x a c f n r O;by_cases C:q=h.aD
  ·subst C;rw[β.fB]at n;obtain rfl:=aG n;rw[β.iE _ (Ne.symm a)]at r;obtain⟨m,f⟩:=j l (Ne.symm a) p f;rw[t];exact(w l p x m f r).symm
  ·rw[β.iE _ C]at n;obtain⟨J,c⟩:=j q C u c;by_cases A:l=h.aD
   ·subst A;rw[β.fB]at r;obtain rfl:=aG r;rw[t];exact w q u y J c n
   ·rw[β.iE _ A]at r;obtain⟨_,f⟩:=j l A p f;exact s.own q l u p y x a c f n r O
 ·intro b L M;refine v.kept b ?_;rintro rfl;exact M ⟨k,i,o,F,E,z,rfl⟩
 ·rintro b L ⟨d,g,e,c,f,n,r⟩;by_cases a:d=h.aD
  ·subst a;rw[β.fB]at n;obtain rfl:=aG n;exact⟨k,i,o,F,E,z,by rw[<-r,t]⟩
  ·rw[β.iE _ a]at n;obtain⟨_,c⟩:=j d a g c;exact⟨d,g,e,c,f,n,r⟩
 ·intro d e c;by_cases a:d=h.aD
  ·subst a;rw[β.fB]at c;obtain rfl:=aG c;exact .inr ⟨aT _,.inr ⟨k,i,o,F,E,z,t.symm⟩⟩
  ·rw[β.iE _ a]at c;exact .inl c
 grind
theorem Rr(z:Array ag)(n:Nat):(gR z n).size=n*z.size:=by simp[gR]
theorem vd{w:aU}{e:aF}{need cap:Nat}{z:Array ag}(a:dx β c d)(l:c.length=need*n)(q:z.size=n)(t:need<=cap):
  uU β w (.cells c e n af) (λk=> gJ k 0 need (fg+need)) (gJ w.heap.size 0 need cap) (w.drew.alloc (.cells (d++(gR z (cap-need)).toList).toArray e)) where
 size:=by simp
 os:=rfl
 tape:=⟨rfl,fA _⟩
 output:=rfl
 kept:=λb j=>qK (w:=w.drew) _ j
 new:=by
  have f:(d++(gR z (cap-need)).toList).toArray.size=cap*n:=by
   simp only[List.size_toArray,bF,gn,Rr,q,<-a.1,l,<-dh];congr 1;omega
  refine⟨⟨w.heap.size,0,cap*n,e,n,aj⟩,rfl,λr k g p=>⟨⟨rfl,rfl,⟨rfl,λ_=>rfl⟩,_,(0,0),oy (w:=w.drew) _,f,?_,λ_=>Jt _⟩,?_⟩⟩
  ·intro i v o;obtain⟨v',s,m⟩:=a.get o;refine⟨v',?_,m.mono g⟩
   grind
  ·exact yR (w:=w) p rfl rfl rfl (λh=>absurd h (by omega)) (λ_=>by omega) (by simp[fk]) (.inr (aT _))
end
section
variable {β:gC} {P:aO}
theorem IA{l l':List ag}(h:dx β (l.take n) l')(a:l.length=n):dx β l l':=by grind
theorem vt(w:aU)(a b:Nat)(e:aF):a<=grownCap w a b e:=by simp[grownCap,Question.cut]
theorem UW(l:oV β h W){k j n c:Nat}{cs:List ag}{e:aF}{a:Nat}{o:Bool}{f:ag}(q:h.get k=aa (.cells cs e a o))(i:((cs.drop j).take (n*a)).length=n*a)
  (g:cz β (gJ k j n c) f):∃l',(∀d,(∀b,b<W.heap.size->d.heap[b]?=W.heap[b]?)->(eE a n f).run P d = .ok l'.toArray d)/\dx β ((cs.drop j).take (n*a)) l':=by
 have m:gZ h a (gJ k j n c)=aa ((cs.drop j).take (n*a),n):=by
  simp only[gZ,q];rw[iP i]
 obtain⟨_,p⟩:=vM (P:=P) l m g;obtain⟨l',r,s⟩:=p n (aT _)
 grind
set_option maxHeartbeats 1000000 in
theorem PR{h:au}{w:aU}(r:oV β h w){t t' ty:aF}{s x s' x' v:ag}{u:ek}(a:cG P t t' s x h=aa (v,u))(T:cz β s s')(z3:cz β x x'):
  ∃v' V p,(mr #[t,t'] ty #[s',x']).run P w = .ok v' V/\Step β h w p (u.app h) V/\cz p v v':=by
 unfold cG at a;split at a
 ·next e O=>
  split at a
  ·next i z6=>
   obtain⟨M,u1,z,hz,x0,u5⟩:=Mi z6;split at a
   ·next y=>
    split at a
    ·next X m y7=>
     obtain⟨f,x1⟩:=vM (P:=P) r y7 z3;obtain⟨l,y2,d⟩:=x1 m (aT _);split at a
     ·next z8=>
      obtain⟨u0,Q⟩:=z8;have d:=IA d Q;have K:l.length=m*i.size:=by rw[<-d.1,Q]
      have E:=y2 w λ_ _=>rfl;have N:=y2 w.drew λ_ _=>rfl;split at a
      ·obtain⟨_,_,rfl⟩:=T.ko;split at a
       ·next F=>
        simp only[aZ,bu]at a;obtain⟨rfl,rfl⟩:=a;subst F;refine⟨_,w,β,qR O M y f E (aT _) (by simp),Step.refl r,.rp⟩
       ·next F=>
        split at a
        ·next U=>
         simp only[aZ,bu]at a;obtain⟨rfl,rfl⟩:=a;have o:=tq (ty:=ty) (n:=0) (c:=0) (base:=none) (olds:=[]) O M hz y f (by simp[eE]) N (by omega) (by simpa using U.1) (by omega);have B:=vd (β:=β) (w:=w) (e:=e) (need:=m) (cap:=grownCap w (0+m) 0 e) (z:=z.cells) d Q x0 (by have:=vt w (0+m) 0 e;omega);simp only[bJ,dL]at o B;obtain⟨p,A,H⟩:=B.step r;exact⟨_,_,p,o,A,H⟩
        ·cases a
      ·next k j n c=>
       obtain⟨b,i',I,U,z4,_,rfl,Y,y4,u6,y1,y3⟩:=T.lb;have u3:dw c<=I:=by
        unfold dw;split
        ·next hc=>exact y4 hc
        ·next hc=>rw[Y (by omega)];exact aT _
       split at a
       ·next F=>
        simp only[aZ,bu]at a;obtain⟨rfl,rfl⟩:=a;subst F;have:l=[]:=bE (by simpa using K);subst this;exact⟨_,w,β,qR O M y f E (by omega) (by simp[storeCells]),Step.refl r,T⟩
       ·next F=>
        split at a
        ·next D=>
         obtain⟨u',A,he⟩:=bo.1 a;simp only[bu]at he;obtain⟨rfl,rfl⟩:=he;have x4:i'=b.s+j:=by rcases y1 with g|⟨g,L⟩;exact g;exact absurd L (by omega)
         subst x4;obtain⟨V,hr,x7⟩:=yT (P:=P) r A U d;refine⟨_,V,β,qR O M y f E (by omega) ?_,x7,.slice U z4 Y y4 D (.inl rfl) y3⟩;dsimp only;rw[gk,add_assoc];exact hr
        ·next D=>
         unfold lO at a;split at a
         ·next R=>
          split at a
          ·next cs C u8 wr hk=>
           split at a
           ·next x6=>
            obtain⟨rfl,rfl,G⟩:=x6;obtain⟨x5,z5,x8⟩:=UW (P:=P) r hk G T;have x2:=z5 w.drew λ_ _=>rfl;have x3:dx β ((cs.drop j).take (n*i.size)++X) (x5++l):=x8.append d;have J:((cs.drop j).take (n*i.size)++X).length=(n+m)*i.size:=by rw[bF,G,Q,dh]
            split at a
            ·next W=>
             simp only[aZ,bu]at a;obtain⟨rfl,rfl⟩:=a;have z7:I=c:=Y W;subst z7;rw[Gd W]at D;have o:=tq (ty:=ty) O M hz y f x2 N (by omega) R.1 R.2;have B:=vd (β:=β) (w:=w) (e:=C) (z:=z.cells) x3 J x0 (vt w (n+m) I C);obtain⟨p,A,H⟩:=B.step r;exact⟨_,_,p,o,A,H⟩
            ·next W=>
             split at a
             ·next z2=>
              obtain⟨rfl,u7⟩:=z2;simp only[aZ,bu]at a;obtain⟨rfl,rfl⟩:=a;by_cases x9:n+m<=I
              ·have x4:i'=b.s+j:=by rcases y1 with g|⟨g,L⟩;exact g;exact absurd L (by omega)
               subst x4;obtain⟨_,u2,y8,S,fr,hw,hn,z0,y6⟩:=r.row hk U;have y9:b.s+j+I*i.size<=b.n:=by
                rcases y3 with g|g
                ·omega
                ·rw[y8]at g;exact g
               have z1:(n+m)*i.size<=I*i.size:=bM _ x9;rw[dh]at z1;obtain⟨V,hr,ha,hh⟩:=vJ (P:=P) b.b (b.s+j+n*i.size) C fr l 0 S w hw (y6 rfl) (by rw[K,hn];omega) (d.scalars u0);have Z:(Ab.pg S (b.s+j+n*i.size+0) l).size=S.size:=yg (by rw[K,hn];omega);refine⟨_,V,β.ext h.aD ⟨b.b,b.s+j,b.n,C,i.size,aj⟩,qR O M y f E x9 ?_,VV (sl':=⟨b.b,b.s+j,b.n,C,i.size,aj⟩) r hk U rfl ha rfl ?_,?_⟩
               ·dsimp only;rw[gk];exact hr
               ·have y5:β.le (β.ext h.aD ⟨b.b,b.s+j,b.n,C,i.size,aj⟩):=gC.GP _ (r.qp (aT _));refine⟨rfl,rfl,⟨rfl,λh0=>absurd h0 (by omega)⟩,_,fr,hh,by rw[Z];exact hn,?_,λ_=>by rw[Z];exact y6 rfl⟩;intro q u hq;simp only[Ab.pg,eR,List.getElem?_toArray];by_cases y0:q<n*i.size
                ·rw[getElem?_append_left (by rw[G];exact y0),getElem?_take,iP y0,getElem?_drop]at hq;obtain⟨u',g,L⟩:=z0 _ _ hq;refine⟨u',?_,L.mono y5⟩;have u4:=(Array.getElem?_eq_some_iff.1 g).1;rw[bP,getElem?_append_left (by simp;omega),getElem?_take,iP (by omega),getElem?_toList,add_assoc];exact g
                ·have z9:=(List.getElem?_eq_some_iff.1 hq).1;rw[J,dh]at z9;rw[getElem?_append_right (by rw[G];omega),G]at hq;obtain⟨u',g,L⟩:=d.get hq;refine⟨u',?_,L.mono y5⟩;rw[getElem?_append_left (by simp;omega),getElem?_append_right (by simp;omega)];have:b.s+j+q-(S.toList.take (b.s+j+n*i.size)).length=q-n*i.size:=by simp;omega
                 rw[this];exact g
               ·exact .slice (sl:=⟨b.b,b.s+j,b.n,C,i.size,aj⟩) (β.fB _ _) rfl (λh=>absurd h (by omega)) (λ_=>by omega) (by rw[fk];exact aT _) (.inl rfl) (.inr y9)
              ·have o:=tq (ty:=ty) O M hz y f x2 N (by omega) R.1 R.2;have B:=vd (β:=β) (w:=w) (e:=C) (z:=z.cells) x3 J x0 (vt w (n+m) I C);obtain⟨p,A,H⟩:=B.step (S9 r k);exact⟨_,_,p,o,(ZR r k).trans A,H⟩
             ·cases a
           ·cases a
          ·cases a
         ·cases a
      ·cases a
     ·cases a
    ·cases a
   ·cases a
  ·cases a
 grind
end
section
variable {β:gC} {P:aO}
theorem Xq(E:oV β h W){t:aF}{ts:List aF}{ty:aF}{d s i p v:ag}{u:ek}(b:copyV P t d s h=aa (v,u))(G:cz β d i)(R:cz β s p):
  ∃v' w A,(Builtin.copy_ (t::ts).toArray ty #[i,p]).run P W = .ok v' w/\Step β h W A (u.app h) w/\cz A v v':=by
 unfold copyV at b;split at b
 ·next e Q=>
  split at b
  ·next sz a n c C=>
   split at b
   ·next cs m D=>
    obtain⟨o,r⟩:=vM (P:=P) E D R;have N:(t::ts).toArray[0]?=aa t:=rfl;have l:(#[i,p]:Array ag)[0]?=aa i:=rfl;have F:(#[i,p]:Array ag)[1]?=aa p:=rfl;obtain⟨K,H,f⟩:=r (min m n) (Nat.min_le_left _ _);have g:=H W λ_ _=>rfl;have q:Nat.min m n=min m n:=rfl;have I:∃y x,i = .slice y n x:=by
     cases a with
     |none=>obtain⟨rfl,rfl,rfl⟩:=G.ko;exact⟨_,_,rfl⟩
     |some a=>obtain⟨y,x,rfl⟩:=G.NU;exact⟨_,_,rfl⟩
    split at b
    ·next U=>
     simp only[aZ,bu]at b;obtain⟨rfl,rfl⟩:=b;have B:min m n=0:=by omega
     rw[B]at g f;have:K=[]:=by simpa using f.1.symm
     subst this;obtain⟨y,x,rfl⟩:=I;refine⟨aE 0,W,β,?_,Step.refl E,.int _ _⟩;simp only[Builtin.copy_,N,l,F,aV,cM Q,aL,o,ic C,q,B,g,goInt]
     cases y<;>simp[storeCells]
    ·next U=>
     split at b
     ·next k j=>
      obtain⟨u',J,L⟩:=bo.1 b;simp only[bu]at L;obtain⟨rfl,rfl⟩:=L;obtain⟨T,V,x,S,Y,_,rfl,Z,x2,x0,M,x1⟩:=G.lb;have O:V=T.s+j:=by rcases M with l|⟨l,F⟩;exact l;exact absurd l (by omega)
      subst O;obtain⟨w,X,z⟩:=yT (P:=P) E J S f;refine⟨aE (min m n:Nat),w,β,?_,z,.int _ _⟩;simp only[Builtin.copy_,N,l,F,aV,cM Q,aL,o,ic C,q,g,bp,goInt,X]
     ·cases b
   ·cases b
  ·cases b
 grind
theorem MC(z:Array ag):∀n,(gR z n).toList=fb z.toList n:=by
 intro n;rcases dv z.size with h|h
 all_goals grind[nD,bE,A1,gR]
theorem TU(p:oV β h W){t:aF}{ty:aF}{x r v:ag}{u:ek}(a:PZ P t x h=aa (v,u))(F:cz β x r):
  ∃v' d g,(Builtin.clear_ #[t] ty #[r]).run P W = .ok v' d/\Step β h W g (u.app h) d/\cz g v v':=by
 unfold PZ at a;split at a
 ·next e k j n c D=>
  split at a
  ·next z B=>
   obtain⟨i,l,o,E,H,_,rfl,I,L,J,y,K⟩:=F.lb;have A:(#[t]:Array aF)[0]?=aa t:=rfl;have b:(#[ae (aa ⟨i.b,l,none⟩) n o]:Array ag)[0]?=aa (gJ i.b l n o):=rfl;split at a
   ·next m=>
    subst m;simp only[aZ,bu]at a;obtain⟨rfl,rfl⟩:=a;refine⟨undef,W,β,?_,Step.refl p,.undef β⟩;simp only[Builtin.clear_,A,b,aV,cM D,aL];rfl
   ·next m=>
    obtain⟨N,q,w⟩:=bo.1 a;simp only[bu]at w;obtain⟨rfl,rfl⟩:=w;have C:l=i.s+j:=by rcases y with b|⟨b,M⟩;exact b;exact absurd b (by omega)
    subst C;obtain⟨d,G,f⟩:=yT (P:=P) p q E (tV (dx.vH (jH B).1) n);refine⟨undef,d,β,?_,f,.undef β⟩;obtain⟨s,rfl⟩:∃s,n=s+1:=⟨n-1,by omega⟩
    simp only[Builtin.clear_,A,b,aV,cM D,aL,tw B,MC,G];rfl
  ·cases a
 grind
theorem zE(i:oV β h W){t u J:aF}{r:Nat}{s m:List (ag×ag)}{k E x l:ag}(V:P.underlying t=aa (.map u J))(w:rk P u k=af)
  (A:h.get r=aa (.map s)) (z:nP P u k x s=aa m) (G:cz β (.map (aa r)) E) (H:cz β x l):
  ∃B,(Instr.mapUpdate t E k l).run P W = .ok () B/\Step β h W β (h.set r (.map m)) B:=by
 obtain⟨c,g,f,rfl⟩:=G.Le;obtain⟨_,b,a,I,y⟩:=i.blk _ _ _ A g;have N:c.b<W.heap.size:=(i.lt _ _ g).2;have Y:(getObj c.b).run P W = .ok (.map b a) W:=by simp[getObj,Sem.run,I]
 have L:∀o,(setObj c.b o).run P W = .ok () { W with heap:=W.heap.setIfInBounds c.b o }:=λo=>by grind[setObj,Sem.run]
 have n:∀o,At W { W with heap:=W.heap.setIfInBounds c.b o } c.b/\({ W with heap:=W.heap.setIfInBounds c.b o }:aU).heap[c.b]?=aa o:=λo=>
  ⟨⟨by simp,rfl,⟨rfl,aT _⟩,rfl,λX O=>by grind⟩,by grind⟩
 have Q:=Ef w aj W;have F:=Ff w;obtain⟨T,S,R,M,d⟩:=Gz w W b.toList;rcases Ee M F H s b.toList y z 0 a with⟨j,e,q,D,U,K⟩|⟨q,D⟩
 ·have C:=d _ q;obtain⟨v,p⟩:=n (.map (b.modify j λe=>{ e with key:=k,val:=l }) a);refine⟨_,?_,Step.at_ i A g rfl v ⟨f,_,a,p,by simpa using K⟩⟩
  simp_all[IM,cM,Instr.mapUpdate,Instr.keyThatStays]
 ·have C:=d _ q;obtain⟨v,p⟩:=n (.map (b.push { key:=k,val:=l,born:=a }) (a+1));refine⟨_,?_,Step.at_ i A g rfl v ⟨f,_,a+1,p,by simpa using D⟩⟩
  simp_all[cM,Instr.mapUpdate]
end
section
variable {β:gC} {P:aO}
theorem GR{s:Nat}(g:P.cellsOf T=s)(e:0<s)(a b n:Nat)(f:b%s=0)(d:b/s+n<=a):liesAt P P.depth T a b T n=af:=by
 have c:P.depth=(2*(P.types.size+Made.depth)+1)+1:=rfl;rw[c];simp only[liesAt,or_eq_true]
 grind[rowAt,sameLayout]
theorem Ge(h:bZ P T=aa n):P.cellsOf T=n:=by
 obtain⟨i,a,rfl⟩:=sw h
 grind[Program.cellsOf]
theorem At.freeze(w:aU)(a:aJ)(n:Nat):At w (w.freeze a n) a.block:=
 ⟨Eb w a n,(wY w a n).1,(wY w a n).2.1,(wY w a n).2.2,λb d=>by
  by_cases c:n=0
  ·subst c;rfl
  ·rw[tL w a c,iN (Ne.symm d)]⟩
theorem tY:∀{l:List ag}{a:List UInt8},bytesOf l=aa a->l=a.map λb=>aC aK b.toNat
 |[],a,h=>by grind[bytesOf]
 | v::l,a,h=>by
  unfold bytesOf at h;split at h
  ·next e=>cases e
  ·next n r e=>
   simp only[gI]at e;obtain⟨rfl,rfl⟩:=e;split at h
   ·next f=>
    obtain⟨d,c,rfl⟩:=bo.1 h;rw[eK,<-tY c];congr 2;have:(UInt8.ofNat n.toNat).toNat=n.toNat:=by
     simp[UInt8.toNat_ofNat'];omega
    omega
   ·cases h
  grind
set_option maxHeartbeats 1000000 in
theorem DT{h:au}{w:aU}(B:oV β h w){k i:Nat}{n:Int}{kk:ee}{f e:aF}{cs:List ag}{l:List UInt8}{y:ag}{ats:Array aF}{ty:aF}(F:h.get k=aa (.cells cs e 1 af))(z:ats[0]?=aa f)
  (N:P.underlying f=aa (.pointer e)) (C:bZ P e=aa 1) (W:0<n) (U:n<9223372036854775807) (A:((cs.drop i).take n.toNat).length=n.toNat) (t:bytesOf ((cs.drop i).take n.toNat)=aa l) (R:cz β (df k i) y):
  ∃v,(Builtin.unsafeString_ ats ty #[y,aC kk n]).run P w = .ok (strOf l) v/\Step β h w β (h.set k (.cells cs e 1 aj)) v:=by
 obtain⟨a,m,X,rfl⟩:=R.yE;obtain⟨E,T,O,c,L,q,H,b,V⟩:=B.blk _ _ _ F m;refine⟨w.freeze ⟨a.b,a.s+i,none⟩ n.toNat,?_,Step.at_ B F m rfl (At.freeze w _ _) ?_⟩
 ·have o:l.length=n.toNat:=by
   have:=congrArg List.length (tY t);rw[A]at this;simpa using this.symm
  have I:a.s+i+n.toNat<=c.size:=by
   have u:i+n.toNat-1<cs.length:=by simp only[bq,da]at A;omega
   obtain⟨v',p,_⟩:=b _ _ (gE u);have:=(Array.getElem?_eq_some_iff.1 p).1;omega
  have G:w.shape? a.b=aa (e,c.size):=by simp[World.shape?,q]
  have J:=Ge C;have g:liesAt P P.depth e (c.size/P.cellsOf e) (a.s+i) e n.toNat=af:=GR J (by omega) _ _ _ (by omega) (by grind);have K:(loadBytes ⟨a.b,a.s+i,none⟩ .empty n.toNat).run P w = .ok (⟨l.toArray⟩:ByteArray) w:=by
   rw[<-o];rw[Lib.run_loadBytes (P:=P) w l ⟨a.b,a.s+i,none⟩ .empty]
   ·simp
   ·intro j x S;have d:((cs.drop i).take n.toNat)[j]?=aa (aC aK x.toNat):=by rw[tY t];simp[S]
    rw[getElem?_take,getElem?_drop]at d;split at d
    ·obtain⟨v',p,M⟩:=b _ _ d;rw[gk,rX q,show a.s+i+j=a.s+(i+j) by omega,p,M.hI]
    grind
  have Q:ak.max=9223372036854775807:=by decide
  have r:Builtin.unsafeString_ ats ty #[df a.b (a.s+i),aC kk n] =
    (do
     let n <-asInt (aC kk n)
     let aa f:=ats[0]?|stuck "unsafe.String: no argument types"
     if n<0 then runtimePanic (.error "unsafe.String: len out of range")
     if n>ak.max then unsupported (.unsafePointer "String: a length above the largest int")
     if n=0 then pure (bt .empty)
     else if <-variablesAt ⟨a.b,a.s+i,none⟩ (<-elemOf f) n.toNat then do
      let s <-loadBytes ⟨a.b,a.s+i,none⟩ .empty n.toNat
      freeze ⟨a.b,a.s+i,none⟩ n.toNat
      pure (bt s)
     else unsupported (.unsafePointer "String: not so many bytes at ptr")):=rfl
  rw[r];simp only[aV,asInt,asIntOf,bp,aL,z,eJ];rw[iN (by omega),iN (by omega),iN (by omega)];simp only[elemOf,aV,cM N,bp,aL,variablesAt,run_program,run_shape,G,g,if_true,K,run_freeze];rfl
 ·have D:(w.freeze ⟨a.b,a.s+i,none⟩ n.toNat).heap[a.b]?=aa (frz ⟨a.b,a.s+i,none⟩ n.toNat (.cells c e L)):=by
   rw[tL w _ (by omega)];simp[q]
  exact⟨E,T,O,c,_,D,H,b,λh=>by cases h⟩
end
section
variable {β:gC} {P:aO}
def ahm(r:Result Next)(v':ag)(a:aU):Prop:=r = .ok (.value v') a\/(r = .ok .skip a/\v'=undef)
def eh(o:aR):Bool:=match o.op with
 |.call { callee:= .value _,.. }=>af
 |_=>aj
theorem SJ{c:Array bm}{a b:bm}(h:c.toList=[a,b]):c.map r = #[r a,r b]:=by
 apply fS;simp[h]
set_option maxHeartbeats 2000000 in
theorem JJ{ρ B:bm->ag}(q:∀x,cz β (ρ x) (B x)){cf:fO}{o:aR}(z6:eh o=aj){v:ag}{u:ek}{h:au}{w:aU}(I:oV β h w)(b:ia P cf ρ o h=aa (v,u)):
  ∃v' G M,ahm ((execOp B o).run P w) v' G/\Step β h w M (u.app h) G/\cz M v v':=by
 unfold ia at b;unfold execOp;split at b
 ·next t a x E=>
  simp only[E];have Q:=q a;have hx:=q x;split at b
  ·next k i y7=>
   rw[y7]at Q;obtain⟨D,V,F,U⟩:=Q.yE;split at b
   ·next N=>
    obtain⟨u',S,y3⟩:=bo.1 b;simp only[bu]at y3;obtain⟨rfl,rfl⟩:=y3;have hj:ρ x≠Ab.qd:=by
     intro e;rw[e]at S;unfold storeAt at S;split at S
     ·split at S
      ·next K=>exact absurd K.2 (by simp[Value.cells,eZ])
      ·cases S
     ·cases S
    have K:=hx.cells hj;obtain⟨G,L,g⟩:=yT (P:=P) I S V (mM.toList.1 K);refine⟨undef,G,β,.inr ⟨?_,rfl⟩,g,.undef β⟩;have z8:(storeVar t ⟨D.b,D.s+i,none⟩ (B x)).run P w = .ok () G:=by
     simp only[storeVar,aV,ic N,aL,eJ];rw[iN (by simp[K.1])];exact L
    simp only[Instr.storeAt,aV,U,mw,bp,aL,z8]
   ·cases b
  ·cases b
 ·next t m k x E=>
  simp only[E];have F:=q m;have W:=q k;split at b
  ·next kt et r hu x9=>
   rw[x9]at F;split at b
   ·next es L=>
    split at b
    ·next Z=>
     obtain⟨z1,x3,U⟩:=bo.1 b;simp only[bu]at U;obtain⟨rfl,rfl⟩:=U;obtain⟨G,x1,g⟩:=zE (P:=P) I hu Z L x3 F (q x);exact⟨undef,G,β,.inr ⟨by rw[W.vu (Ff Z)];simp[x1],rfl⟩,g,.undef β⟩
    ·cases b
   ·cases b
  ·cases b
 ·next t m k x E=>
  simp only[E];have F:=q m;have W:=q k;split at b
  ·next kt et r hu x9=>
   rw[x9]at F;split at b
   ·next es L=>
    split at b
    ·next Z=>
     obtain⟨z1,x3,U⟩:=bo.1 b;simp only[bu]at U;obtain⟨rfl,rfl⟩:=U;obtain⟨G,x1,g⟩:=zE (P:=P) I hu Z L x3 F (q x);exact⟨undef,G,β,.inr ⟨by rw[W.vu (Ff Z)];simp[x1],rfl⟩,g,.undef β⟩
    ·cases b
   ·cases b
  ·cases b
 ·next f p C E=>simp[eh,E]at z6
 ·next p C E=>
  simp only[E];split at b
  ·next s x t t' Q ht=>
   obtain⟨v',G,M,L,g,x0⟩:=PR (P:=P) (ty:=o.type) I b (q s) (q x);refine⟨v',G,M,.inl ?_,g,x0⟩;have A:C = #[t,t']:=by apply fS;simp[ht]
   simp only[resolve,aV,bp,aL,invoke,builtin,SJ Q,A,L]
  ·cases b
 ·next p C E=>
  simp only[E];split at b
  ·next d s t ts Q ht=>
   obtain⟨v',G,M,L,g,x0⟩:=Xq (P:=P) (ts:=ts) (ty:=o.type) I b (q d) (q s);refine⟨v',G,M,.inl ?_,g,x0⟩;have A:C=(t::ts).toArray:=by apply fS;simp[ht]
   simp only[resolve,aV,bp,aL,invoke,builtin,SJ Q,A,L]
  ·cases b
 ·next p C E=>
  simp only[E];have O:dx β (p.toList.map ρ) (p.toList.map B):=dx.map _ λx _=>q x;split at b
  ·next x t F ht=>
   rw[F]at O;obtain⟨y,r,Y,H,J⟩:=O.fX;have:=J.jf;subst this;obtain⟨v',G,M,L,g,x0⟩:=TU (P:=P) (ty:=o.type) I b H;refine⟨v',G,M,.inl ?_,g,x0⟩;have A:C = #[t]:=by apply fS;simp[ht]
   have Q:p.map B = #[y]:=by apply fS;simp[Y]
   simp only[resolve,aV,bp,aL,invoke,builtin,Q,A,L]
  ·cases b
 ·next p C E=>
  simp only[E];have O:dx β (p.toList.map ρ) (p.toList.map B):=dx.map _ λx _=>q x;split at b
  ·next n c F=>
   rw[F]at O;obtain⟨y,r,Y,H,J⟩:=O.fX;have:=J.jf;subst this;obtain⟨rfl,rfl,rfl⟩:=H.ko;simp only[aZ,bu]at b;obtain⟨rfl,rfl⟩:=b;have A:p.map B = #[.slice none 0 0]:=by apply fS;simp[Y]
   refine⟨.pointer none,w,β,.inl ?_,Step.refl I,.nilPtr⟩;simp only[resolve,aV,bp,aL,invoke,builtin,A,Lib.run_unsafeSliceData_nil]
  ·next a n c F=>
   rw[F]at O;obtain⟨y,r,Y,H,J⟩:=O.fX;have:=J.jf;subst this;obtain⟨ab,ao,z3⟩:=a;have R:z3=none\/ ¬0<dw c:=by
    rcases H.Aq with⟨k',i',e⟩|⟨_,_,u0,_⟩
    ·injection e with _ _ e;exact .inl e
    ·subst u0;exact .inr (by unfold dw;rw[iN (by decide)];decide)
   rcases R with R|R
   rotate_left
   ·rw[iN R]at b;cases b
   subst R;obtain⟨D,i',c',V,y9,z5,rfl,z2,z7,u3,z4,u4⟩:=H.lb;clear z5;split at b
   ·next K=>
    simp only[aZ,bu]at b;obtain⟨rfl,rfl⟩:=b;have u2:dw c<=c':=by
     unfold dw;split
     ·next K=>exact z7 K
     ·next K=>rw[z2 (by omega)];exact aT _
    have z9:i'=D.s+ao:=by rcases z4 with h1|⟨h1,h2⟩;exact h1;exact absurd h2 (by omega)
    subst z9;have A:p.map B = #[gJ D.b (D.s+ao) n c']:=by apply fS;simp[Y]
    refine⟨df D.b (D.s+ao),w,β,.inl ?_,Step.refl I,.ptr V y9⟩;simp only[resolve,aV,bp,aL,invoke,builtin,A,Lib.run_unsafeSliceData_row (P:=P) w C o.type ⟨D.b,D.s+ao,none⟩ n c' (by omega)]
   ·cases b
  ·cases b
 ·next p C E=>
  simp only[E];have O:dx β (p.toList.map ρ) (p.toList.map B):=dx.map _ λx _=>q x;split at b
  ·next kk pt F x5=>
   rw[F]at O;obtain⟨y,r,Y,H,J⟩:=O.fX;obtain⟨z,r2,rfl,x7,x2⟩:=J.fX;have:=x2.jf;subst this
   cases H.Qv
   cases x7.hI
   simp only[aZ,bu]at b;obtain⟨rfl,rfl⟩:=b;have A:p.map B = #[.pointer none,.int kk 0]:=by apply fS;simp[Y]
   refine⟨strOf [],w,β,.inl ?_,Step.refl I,.string _⟩;have u1:ak.max=9223372036854775807:=by decide
   have y6:Builtin.unsafeString_ C o.type #[.pointer none,.int kk 0] =
     (do
      let n <-asInt (.int kk 0)
      let aa pt:=C[0]?|stuck "unsafe.String: no argument types"
      if n<0 then runtimePanic (.error "unsafe.String: len out of range")
      if n>ak.max then unsupported (.unsafePointer "String: a length above the largest int")
      if n=0 then pure (.string .empty)
      else runtimePanic (.error "unsafe.String: ptr is nil and len is not zero")):=rfl
   simp only[resolve,aV,bp,aL,invoke,builtin,A,y6,asInt,asIntOf,x5,eJ];rw[iN (by omega),iN (by omega)];rfl
  ·next k i kk n pt F x5=>
   rw[F]at O;obtain⟨y,r,Y,H,J⟩:=O.fX;obtain⟨z,r2,rfl,x7,x2⟩:=J.fX;have:=x2.jf;subst this
   cases x7.hI
   have A:p.map B = #[y,.int kk n]:=by apply fS;simp[Y]
   split at b
   ·next cs e e' W hu=>
    split at b
    ·next K=>
     obtain⟨rfl,N,hn,y8,y5⟩:=K;split at b
     ·next l V=>
      simp only[aZ,bu]at b;obtain⟨rfl,rfl⟩:=b;obtain⟨G,L,g⟩:=DT (P:=P) (kk:=kk) (ats:=C) (ty:=o.type) I W x5 hu N hn y8 y5 V H;refine⟨strOf l,G,β,.inl ?_,g,.string _⟩;simp only[resolve,aV,bp,aL,invoke,builtin,A,L]
     ·cases b
    ·cases b
   ·cases b
  ·cases b
 ·next s d x E=>
  simp only[E];have hx:=q x;split at b
  ·next t k h1 h2 Q=>
   rw[Q]at hx;split at b
   ·next cs t' wr W=>
    split at b
    ·next K=>
     obtain⟨rfl,N,X⟩:=K;simp only[aZ,bu]at b;obtain⟨rfl,rfl⟩:=b;obtain⟨D,V,F,U⟩:=hx.yE;obtain⟨_,_,_,x4,fr,hw,hn,T,_⟩:=I.row W V;obtain⟨j,hj,z0⟩:=sw N;obtain⟨v0,x6,_⟩:=T 0 _ (gE X);have y1:=(Array.getElem?_eq_some_iff.1 x6).1;have x8:w.shape? D.b=aa (t,x4.size):=by simp[World.shape?,hw]
     refine⟨B x,w,β,.inl ?_,Step.refl I,q x⟩;rw[U];simp only[aV,Lib.run_to_unsafe (P:=P) w ⟨D.b,D.s+0,none⟩ h1 h2 hj (by omega) x8 y1,aL,bp]
    ·cases b
   ·cases b
  ·next t k h1 h2 Q=>
   rw[Q]at hx;split at b
   ·next cs t' wr W=>
    split at b
    ·next K=>
     obtain⟨rfl,N,X⟩:=K;simp only[aZ,bu]at b;obtain⟨rfl,rfl⟩:=b;obtain⟨D,V,F,U⟩:=hx.yE;have y2:=I.ahW W V;obtain⟨_,_,_,x4,fr,hw,hn,T,_⟩:=I.row W V;obtain⟨j,hj,z0⟩:=sw N;have y4:=Ge N;obtain⟨v0,x6,_⟩:=T (cs.length-1) _ (gE (by omega));have y1:=(Array.getElem?_eq_some_iff.1 x6).1;have x8:w.shape? D.b=aa (t,x4.size):=by simp[World.shape?,hw]
     have y0:liesAt P P.depth t (x4.size/P.cellsOf t) (D.s+0) t 1=af:=by
      refine GR y4 X _ _ _ (by rw[y2];simp) ?_;rw[y2,y4];simp only[eR,Nat.zero_div,bJ];exact(Nat.le_div_iff_mul_le X).2 (by omega)
     refine⟨B x,w,β,.inl ?_,Step.refl I,q x⟩;rw[U];simp only[aV,Lib.run_from_unsafe (P:=P) w ⟨D.b,D.s+0,none⟩ h1 h2 hj x8 y0,aL,bp]
    ·cases b
   ·cases b
  ·cases b
 grind
end
variable{f:bW}{U:Array aR}
section
variable {β:gC} {P:aO} {gl:Nat->Bool}
def pP(r:Option Nat):Fence:={ Fence.wide with round:=r }
theorem zy{r:Option Nat}{R:Ending->aU->Prop}(h:Calls P f V W R):CallsIn (pP r) n P f V W R:=
 (callsIn_wide (n:=n)).2 h
def Gl(gl:Nat->Bool)(β:gC):Prop:=∀g,gl g=af->∃a,β g=aa a/\a.b=g/\a.s=0/\a.isMap=aj
theorem Gl.mono{β:gC}(h:Gl gl β)(a:β.le J):Gl gl J:=λg e=>let⟨c,b,d⟩:=h g e;⟨c,a _ _ b,d⟩
theorem dx.getD{l l':List ag}(h:dx β l l')(i:Nat):cz β (l.getD i undef) (l'.getD i undef):=by
 by_cases b:i<l.length
 ·have a:i<l'.length:=h.1▸b;simp only[List.getD,gE b,gE a,getD_some];exact h.2 i _ _ (gE b) (gE a)
 ·have a:l'.length<=i:=by rw[<-h.1];omega
  simp only[List.getD,getElem?_eq_none (Nat.le_of_not_lt b),getElem?_eq_none a,Option.getD_none];exact .undef β
theorem K0{a:Act}(j:Gl gl β)(e:dx β c a.tmps.toList)(x:bm):cz β (ev gl c x) (a.eval x):=by
 cases x with
 |tmp t=>
  simp only[ev,Act.eval];have:=e.getD t
  simp_all
 |const v=>
  simp only[ev,Act.eval];split
  ·next h=>exact .ti h
  ·exact .qd v
 | global g=>
  simp only[ev,Act.eval];split
  ·next h=>
   obtain⟨l,b,m,k,d⟩:=j g h;have:=cz.ptr (i:=0) b d
   grind
  ·exact .qd _
 |func f=>
  simp only[ev,Act.eval];exact .func rfl rfl rfl (λi v v' h=>by grind) (λi v v' h=>by grind)
theorem vC{a:Act}(g:dx β c a.tmps.toList)(b:Option Tmp){v v':ag}(k:cz β v v'):dx β (lR c b v) (a.put b v').tmps.toList:=by
 cases b with
 |none=>exact g
 | some d=>
  simp only[lR,Act.put,Array.toList_setIfInBounds];refine⟨by simp[g.1],λi u j e f=>?_⟩;rw[List.getElem?_set]at e f;split at e
  ·grind
  ·next h=>
   rw[iN h]at f;exact g.2 i u j e f
theorem put_defers(a:Act)(b:Option Tmp)(v:ag):(a.put b v).defers=a.defers:=by cases b<;>rfl
theorem Jv{l:List ag}(h:l.getD n undef=ah b):l[n]?=aa (ah b):=by
 rw[gD]at h
 cases a:l[n]? with
 |none=>rw[a]at h;cases h
 |some v=>grind
theorem GG{l:List ag}(h:l.getD n undef=av V):l[n]?=aa (av V)\/l[n]?=none:=by grind
theorem vS{a:Act}(l:dx β c a.tmps.toList){o:aR}{b:Bool}(h:jX U c o=aa b):Region.wanted o (yielded U a.tmps)=b:=by
 unfold jX at h;unfold Region.wanted;split at h
 ·grind
 ·next j g n=>
  rw[n];simp only[yielded];split at h
  ·next d k=>
   rw[k];simp only[bind_some];split at h
   ·next m e=>
    obtain⟨v',f,i⟩:=l.get (Jv e);rw[i.pQ]at f;rw[getElem?_toList]at f;rw[f];simp only[aZ]at h;subst h
    cases m<;>cases g<;>rfl
   ·next q e=>
    simp only[aZ]at h;subst h;rcases GG e with e|e
    ·obtain⟨v',f,i⟩:=l.get e;obtain⟨p,rfl,_⟩:=i.yF;rw[getElem?_toList]at f;rw[f];rfl
    ·have k:a.tmps[d]?=none:=by
      rw[<-getElem?_toList];exact getElem?_eq_none (by rw[<-l.1];exact List.getElem?_eq_none_iff.1 e)
     rw[k];rfl
   ·cases h
  grind
def wO(β:gC)(h:au)(w:aU)(v:ag)(c:au):Ending->aU->Prop:=λe b=>∃v' a,e = .returned v'/\Step β h w a c b/\cz a v v'
def ahn(P:aO)(gl:Nat->Bool)(i:fO):Prop:=
 ∀f b h v d,f<YB->i f b h=aa (v,d)->∀β w (a:Array ag),oV β h w->Gl gl β->dx β b a.toList->
  ∃g,P.funcs[f]?=aa g/\((g.body.isSome=af/\Calls P f a w (wO β h w v d))\/
   (∃v' e c,(callFunc f a).run P w = .ok (.value v') e/\Step β h w c d e/\cz c v v'))
def ahq(P:aO)(gl:Nat->Bool)(j:fO):Prop:=
 ∀k d h v i,j (YB+k) d h=aa (v,i)->∀β w (a:Array ag) e,oV β h w->Gl gl β->dx β d a.toList->β k=aa e->
  ∃g b f c,(Instr.yield e.b a).run P w = .ok (.round e.b g b f c) w/\∀(r:Option Nat)(n:Nat),RoundIn (pP r) n P e.b g b f c w (wO β h w v i)
structure uo(P:aO)(gl:Nat->Bool)(cf:fO):Prop where
 fn:ahn P gl cf
 yd:ahq P gl cf
def jx(P:aO):Prop:=∀(f:bW)(a:Func),P.funcs[f]?=aa a->(a.name == "runtime.NumGoroutine")=aj
theorem lW(e:jx P){f:bW}{a:Func}(c:P.funcs[f]?=aa a)(i:a.body.isSome=af)(b:Array ag)(w:aU):(callFunc f b).run P w = .ok (.enter f b) w:=by
 have d:=e f a c;have g:a.body.isNone=aj:=by cases h:a.body<;>simp_all
 simp only[callFunc,aV,run_program,aL,c];rw[d,g];rfl
theorem cz.XX{first:Array ag}{x:ag}(c:cz β (aN (.func f) first V) x):∃b a,x=aN (.func f) b a/\mM β first b/\mM β V a:=by
 cases c with
 |func i g h e d=>exact⟨_,_,rfl,⟨g,e⟩,⟨h,d⟩⟩
theorem cz.Jx{first:Array ag}{x:ag}(b:cz β (aN (.yield k) first V) x):∃a,β k=aa a/\x=aN (.yield a.b) first V:=by
 cases b with
 |func e c d g f=>cases e
 |yield h c d=>grind
theorem Na(hN:jx P){U:fO}(F:uo P gl U){r:Option Nat}{n:Nat}{a:Act}{h:au}{w:aU}{o:aR}{f:bm}{args:Array bm}{W:Array aF}(V:o.op = .call { callee:= .value f,args:=args,argTypes:=W })
  {D:bm->ag} {v:ag} {u:ek} (O:oV β h w) (Y:Gl gl β) (B:∀x,cz β (D x) (a.eval x)) (p:wQ U (D f) (args.toList.map D) h=aa (v,u)) (next:Act->aU->Prop) (Q:Exit->Act->aU->Prop)
  (J:∀v' l c,Step β h w c (u.app h) l->cz c v v'->next (a.put o.dst v') l):o.uponIn (pP r) n P a next Q ((execOp a.eval o).run P w):=by
 unfold wQ at p;have E:=B f;split at p
 ·next g first d C=>
  split at p
  ·next S=>
   rw[C]at E;obtain⟨⟨Z,I⟩,j,A⟩:=bo.1 p;simp only[bu]at A;obtain⟨rfl,rfl⟩:=A;obtain⟨m,b,q,X,T⟩:=E.XX;have i:dx β (first.toList++args.toList.map D++d.toList) (m++args.map a.eval++b).toList:=by
    simp only[Array.toList_append,Array.toList_map];exact((mM.toList.1 X).append (dx.map _ λx _=>B x)).append (mM.toList.1 T)
   have s:(execOp a.eval o).run P w=(callFunc g (m++args.map a.eval++b)).run P w:=by
    unfold execOp;simp only[V,resolve,q,Deferred.ofValue,aV,bp,aL,invoke]
   rw[s];obtain⟨fn,N,L⟩:=F.fn g _ h _ I S j β w _ O Y i;rcases L with⟨G,y⟩|⟨v',l,c,H,z,t⟩
   ·rw[lW hN N G];refine⟨λK=>by simp[pP,Fence.wide]at K,zy (y.mono ?_)⟩;rintro e l ⟨v',c,rfl,z,t⟩;exact J v' l c z t
   ·rw[H];exact J v' l c z t
  ·cases p
 ·next k first d C=>
  split at p
  ·next hz=>
   rw[C]at E;obtain⟨⟨Z,I⟩,j,A⟩:=bo.1 p;simp only[bu]at A;obtain⟨rfl,rfl⟩:=A;obtain⟨R,G,q⟩:=E.Jx;have M:first = #[]:=Array.eq_empty_of_size_eq_zero hz.1
   have i:dx β (args.toList.map D) (args.map a.eval).toList:=by
    simp only[Array.toList_map];exact dx.map _ λx _=>B x
   have s:(execOp a.eval o).run P w=(Instr.yield R.b (args.map a.eval)).run P w:=by
    unfold execOp;simp only[V,resolve,q,Deferred.ofValue,aV,bp,aL,invoke,M,Array.empty_append]
   rw[s];obtain⟨fn,x0,x2,x1,H,z⟩:=F.yd k _ h _ I j β w _ R O Y i G;rw[H];refine⟨λK=>by simp[pP,Fence.wide]at K,(z r (n-1)).mono ?_⟩;rintro e l ⟨v',c,rfl,t,h4⟩;exact J v' l c t h4
  ·cases p
 grind
theorem agC(D:jx P){y:fO}(x:uo P gl y){r:Option Nat}{n:Nat}{t:List ag}{a:Act}{h:au}{w:aU}{o:aR}{v:ag}{u:ek}(k:oV β h w)(A:Gl gl β)(G:dx β t a.tmps.toList)
  (b:fK P y (ev gl t) o h=aa (v,u)) (next:Act->aU->Prop) (Q:Exit->Act->aU->Prop)
  (l:∀v' j d,Step β h w d (u.app h) j->cz d v v'->next (a.put o.dst v') j):o.wpIn (pP r) n P a w next Q:=by
 refine⟨λ_ _=>trivial,?_⟩;have i:=K0 (β:=β) A G;have s:∀c,o.op≠ .defer c:=by
  intro c p;unfold fK at b;simp[eN,dW,dK,ia,p]at b
 rw[Oper.semAt_eq _ _ _ s];unfold fK at b;split at b
 ·next C m=>
  simp only[aZ,bu]at b;obtain⟨rfl,rfl⟩:=b;obtain⟨v',e,g⟩:=AD i m w;rw[e];exact l v' w β (Step.refl k) g
 ·split at b
  ·next C m=>
   simp only[aZ,bu]at b;obtain⟨rfl,rfl⟩:=b;obtain⟨v',e,g⟩:=AE i k m;rw[e];exact l v' w β (Step.refl k) g
  ·split at b
   ·next B f m=>
    simp only[aZ,bu]at b;obtain⟨rfl,rfl⟩:=b;obtain⟨v',j,e,g⟩:=xq i (w:=w) m;obtain⟨d,q,E⟩:=g.step k;rw[e];exact l v' j d q E
   ·by_cases p:eh o=aj
    ·obtain⟨v',j,d,e,g,q⟩:=JJ i p k b;rcases e with e|⟨e,rfl⟩
     ·rw[e];exact l v' j d g q
     ·rw[e];exact l undef j d g q
    ·unfold eh at p;split at p
     ·next f F H z=>
      simp only[ia,z]at b;exact Na D x z k A i b next Q l
     grind
theorem QT(C:jx P){H:fO}(l:uo P gl H){r:Option Nat}{n:Nat}{c:Array aR}(Q:Exit->Act->aU->Prop):∀(b:List aR)(i:Nat){β:gC}{q g:List ag}{a:Act}{h s:au}{w:aU},
  c.toList.drop i=b->pV P gl H c b q h=aa (g,s)->oV β h w->Gl gl β->dx β q a.tmps.toList->
  (∀e z k,Step β h w k s z->dx k g e.tmps.toList->e.defers=a.defers->Q .normal e z)->wpOpsIn (pP r) n P c Q (List.range' i b.length) a w
 |[],i,β,q,g,a,h,s,w,G,d,p,x,f,t=>by
  simp only[pV,aZ,bu]at d;obtain⟨rfl,rfl⟩:=d;exact t a w β (Step.refl p) f rfl
 | o::b,i,β,q,g,a,h,s,w,G,d,p,x,f,t=>by
  have K:c[i]?=aa o:=by
   have:(c.toList.drop i)[0]?=aa o:=by rw[G];rfl
   rw[getElem?_drop]at this;rw[<-getElem?_toList];simpa using this
  have y:c.toList.drop (i+1)=b:=by rw[<-drop_drop,G];rfl
  simp only[bU,List.range'_succ,wpOpsIn,K];simp only[pV]at d;split at d
  ·next E=>
   rw[vS f E];simp only[if_true];split at d
   ·next v u I=>
    refine agC C l p x f I _ _ λv' z k j J=>?_;refine QT C l Q b (i+1) y d j.um (x.mono j.le) (vC (f.mono j.le) o.dst J) λe F m B D A=>?_;exact t e F m (j.trans B) D (A.trans (put_defers a o.dst v'))
   ·cases d
  ·next E=>
   rw[vS f E];simp only[dG,if_false];refine⟨λ_ _=>trivial,?_⟩;refine QT C l Q b (i+1) y d p x (vC f o.dst (.undef β)) λe F m B D A=>?_;exact t e F m B D (A.trans (put_defers a o.dst undef))
  grind
theorem Vw(o:jx P){j:fO}(l:uo P gl j){r:Option Nat}{n:Nat}{k:Nat}{b:Array aR}(Q:Exit->Act->aU->Prop){g c:List ag}{a:Act}{h i:au}{w:aU}
  (s:pV P gl j b b.toList g h=aa (c,i)) (m:oV β h w) (t:Gl gl β) (q:dx β g a.tmps.toList)
  (p:∀e f d,Step β h w d i f->dx d c e.tmps.toList->e.defers=a.defers->Q .normal e f):(Code.region k b aj).wpIn (pP r) n P Q a w:=by grind[wpIn_region,QT,List.range_eq_range',gn]
theorem My{F:Fence}{c:Code}{Q:Exit->Act->aU->Prop}(I:Nat->Act->aU->Prop)(E:∀a w,¬I 0 a w)
  (p:∀j a w,I (j+1) a w->c.wpIn F n P (Exit.then (I j) Q) a w) {j:Nat} {a:Act} {w:aU} (s:I j a w):(Code.loop c).wpIn F n P Q a w:=by
 intro b k cs A r y;have z:∀j a w,I j a w->∃e o m,Q e o m/\ArrivesIn (Machine.fenced P F) P (lone (b.atR a (.code c :: .inLoop c::k)) cs w) b k cs e o m:=by
  intro j
  induction j with
  |zero=>grind
  | succ j C=>
   intro a w B;obtain⟨e,f,g,h,d⟩:=p j a w B b (.inLoop c::k) cs A r y
   cases e with
   |normal=>
    obtain⟨v,u,t,q,i⟩:=C f g h;exact⟨v,u,t,q,.of_steps (StepsIn.trans d (.one (fenced_calm r y rfl) stepR_inLoop)) i⟩
   |exit D=>exact⟨_,f,g,h,.pass (x:= .inLoop c) rfl (λ_ _=> .inl (by simp)) d⟩
   |goto l=>exact⟨_,f,g,h,.pass (x:= .inLoop c) rfl (λ_ _=> .inl (by simp)) d⟩
   |ret=>exact⟨_,f,g,h,.pass (x:= .inLoop c) rfl (λ_ _=> .inl (by simp)) d⟩
   |panic ch=>exact⟨_,f,g,h,.pass (x:= .inLoop c) rfl (λ_ _=> .inl (by simp)) d⟩
   |outgrown=>exact⟨_,f,g,h,.pass (x:= .inLoop c) rfl (λ_ _=> .inl (by simp)) d⟩
 obtain⟨e,o,m,h,d⟩:=z j a w s;exact⟨e,o,m,h,.of_steps (.one (fenced_calm r y rfl) stepR_loop) d⟩
def qG(P:aO)(gl:Nat->Bool)(l:fO)(c:Code):Prop:=
 ∀i b,c = .region i b af->∀β j d (a:Act) h k (w:aU) (r:Option Nat) (n:Nat) (Q:Exit->Act->aU->Prop),D8 P gl l b j h=aa (d,k)->oV β h w->Gl gl β->dx β j a.tmps.toList->
  (∀f g e,Step β h w e k g->dx e d f.tmps.toList->f.defers=a.defers->Q .normal f g)->(Code.region i b af).wpIn (pP r) n P Q a w
inductive Part:Code->Code->Prop where
 |refl (c:Code):Part c c
 |aeY {c a b:Code} (h:Part c a):Part c (.seq a b)
 |agL {c a b:Code} (h:Part c b):Part c (.seq a b)
 |ads {c a b:Code} {o:bm} (h:Part c a):Part c (.cond o a b)
 |adq {c a b:Code} {o:bm} (h:Part c b):Part c (.cond o a b)
 |block {c a:Code} {id:Nat} (h:Part c a):Part c (.block id a)
 |loop {c a:Code} (h:Part c a):Part c (.loop a)
def Yi(b:Nat):Deferred:={ target:= .collected b,args:= #[] }
def Marks(w:aU)(e:List Deferred)(β:gC)(h:au)(c:aU)(d:List Deferred):Prop:=
 ∃a:List Nat,d=a.map Yi++e/\a.Nodup/\∀b∈a,w.heap.size<=b/\b<c.heap.size/\c.heap[b]?=aa (.deferred (aa []))/\¬Wr β h b
theorem Marks.same{w c:aU}{b a:List Deferred}{h:au}(e:a=b):Marks w b β h c a:=⟨[],by grind,by simp,by simp⟩
theorem Marks.trans{c:gC}{d f:aU}{p i j:List Deferred}(m:Marks W p J h d i)(B:W.heap.size<=d.heap.size)(n:Step J h d c g f)(y:Marks d i c g f j):Marks W p c g f j:=by
 obtain⟨u,rfl,t,s⟩:=m;obtain⟨o,rfl,r,z⟩:=y;refine⟨o++u,by simp,fx.2 ⟨r,t,λa C b A e=>?_⟩,λb k=>?_⟩
 ·grind
 ·rcases bG.1 k with k|k
  ·grind
  ·obtain⟨w,l,v,q⟩:=s b k;exact⟨w,cD l n.size,(n.kept b l q).trans v,λx=>q (n.back b l x)⟩
theorem Rv(a:oV β h W)(o:Obj):Step β h W β h (W.alloc o):=by
 have d:∀b,b<W.heap.size->(W.alloc o).heap[b]?=W.heap[b]?:=λb e=>by
  show(W.heap.push o)[b]?=_;rw[getElem?_push,iN (by omega)]
 refine⟨β.le_refl,aT _,⟨λk c d=>⟨(a.lt k c d).1,?_⟩,λk B c g f=>(a.blk k B c g f).of_heap (d _ (a.lt k c f).2),a.own,a.wf⟩,?_,rfl,⟨rfl,aT _⟩,rfl,λb e _=>d b e,λ_ _ h=>h,λ_ _ h=> .inl h,λ_ B h _=>⟨B,h⟩⟩
 ·have:=(a.lt k c d).2;simp;omega
 simp
theorem VU(f:oV β h W){tm:List ag}{r:Loop}(n:r.state = .ready)(l:r.pending=none)(m:dx β tm r.tmps.toList)(e:qn r.assign r.body=af):
  ∃a,Step β h W a (h.push (.loop .ready tm r.params.toList r.assign r.body e)) (W.alloc (.loop r))/\∃c,a h.aD=aa c/\c.b=W.heap.size:=by
 have i:uU β W (.loop .ready tm r.params.toList r.assign r.body e) (λk=> .func (.yield k) #[] #[]) (.func (.yield W.heap.size) #[] #[]) (W.alloc (.loop r)):=by
  refine⟨by simp,rfl,⟨rfl,aT _⟩,rfl,λb o=>?_,⟨W.heap.size,0,0,0,0,af⟩,rfl,λa k d j=>⟨⟨rfl,r,World.alloc_heap_new W _,⟨n,l⟩,m.mono d,rfl,rfl,rfl⟩,?_⟩⟩
  ·show(W.heap.push _)[b]?=_;rw[getElem?_push,iN (by omega)]
  ·exact .yield (sl:=⟨W.heap.size,0,0,0,0,af⟩) j rfl rfl
 obtain⟨a,q,g⟩:=i.step f;obtain⟨c,p,s⟩:=g.Jx
 grind
theorem VT{z:aU}(m:oV β h W){k:Nat}{g:eA}{n:Slot}(C:h.get k=aa g)(y:β k=aa n)(B:g.wr=af)(l:At W z n.b):Step β h W β (h.del k) z:=by
 have i:∀a e,(h.del k).get a=aa e->a≠k/\h.get a=aa e:=λa e q=>by
  rw[h.iD]at q;split at q
  ·cases q
  ·next f=>exact⟨f,q⟩
 have x:∀a e c,a≠k->h.get a=aa e->β a=aa c->c.b≠n.b:=λa e c f d j=>(m.own k a g e n c (Ne.symm f) C d y j B).symm;refine⟨β.le_refl,aT _,⟨?_,?_,?_,au.RM m.wf k⟩,by rw[l.size];exact aT _,l.os,l.tape,l.output,?_,?_,λ_ _ h=> .inl h,?_⟩
 ·intro a c d;rw[l.size];exact m.lt a c d
 ·intro a e c d j;obtain⟨f,d⟩:=i _ _ d;exact(m.blk a e c d j).of_heap (l.kept _ (x a e c f d j))
 ·intro u v r t p o f d j s w E;exact m.own u v r t p o f (i _ _ d).2 (i _ _ j).2 s w E
 ·intro b A D;refine l.kept b ?_;rintro rfl;exact D ⟨k,g,n,C,B,y,rfl⟩
 ·rintro b A ⟨a,e,c,d,j,s,w⟩;exact⟨a,e,c,(i _ _ d).2,j,s,w⟩
 grind
theorem C9(w:aU)(b:Nat)(o:Obj):At w (w.putObj b o) b:=⟨by simp,rfl,.refl _,rfl,λc a=>iH a⟩
theorem D7{P:aO}(h:wS P f=af):∃a,P.funcs[f]?=aa a/\a.body.isSome=af:=by grind[wS]
theorem Lu{a:Bool}(h:(a&&b)=af):a=af:=by grind
theorem SR{a:Bool}(h:(a&&b)=af):b=af:=by grind
theorem KT(hN:jx P){cf:fO}(z9:uo P gl cf){r:Option Nat}{n N:Nat}:∀(c:Code),(r=none\/sf c=af)->(∀d,Part d c->qG P gl cf d)->∀{β:gC}{H F:List ag}{a:Act}{h T:au}{w:aU}{e:Exit}(Q:Exit->Act->aU->Prop),
  dj P gl cf N c H h=aa (e,F,T)->oV β h w->Gl gl β->dx β H a.tmps.toList->
  (∀a' w' X,Step β h w X T w'->dx X F a'.tmps.toList->Marks w a.defers X T w' a'.defers->Q e a' w')->c.wpIn (pP r) n P Q a w:=by
 intro c
 induction c with
 |skip=>
  intro p q β H F a h T w e Q i v A u C;simp only[dj,aZ,bu]at i;obtain⟨rfl,rfl,rfl⟩:=i;exact wpIn_skip (C a w β (Step.refl v) u (.same rfl))
 |region id v3 u5=>
  intro p q β H F a h T w e Q i v A u C
  cases u5
  ·simp only[dj]at i;obtain⟨⟨x1,L⟩,y8,U⟩:=bo.1 i;simp only[bu]at U;obtain⟨rfl,rfl,rfl⟩:=U;exact Vw hN z9 Q y8 v A u λa' w' X K L h3=>C a' w' X K L (.same h3)
  ·simp only[dj]at i;obtain⟨⟨x1,L⟩,y8,U⟩:=bo.1 i;simp only[bu]at U;obtain⟨rfl,rfl,rfl⟩:=U;exact q _ (.refl _) id v3 rfl β H x1 a h L w r n Q y8 v A u λa' w' X K L h3=>C a' w' X K L (.same h3)
 | seq x y y0 y6=>
  intro p q β H F a h T w e Q i v A u C;simp only[dj]at i;refine wpIn_seq ?_;split at i
  ·next x5 K hx=>
   refine y0 (p.imp id Lu) (λd G=>q d (.aeY G)) _ hx v A u λa1 Z z m V R=>?_;exact y6 (p.imp id SR) (λd G=>q d (.agL G)) _ i m.um (A.mono m.le) V λa2 w2 x3 J x2 x4=>C a2 w2 x3 (m.trans J) x2 (R.trans m.size J x4)
  ·next u0=>
   refine y0 (p.imp id Lu) (λd G=>q d (.aeY G)) _ i v A u λa1 Z z m V R=>?_;have:=C a1 Z z m V R
   cases e with
   |normal=>grind
   |_=>exact this
 | cond o x y y0 y6=>
  intro p q β H F a h T w e Q i v A u C;simp only[dj]at i;split at i
  ·next t v1=>
   have hc:a.eval o=ah t:=by
    have:=K0 (β:=β) A u o;rw[v1]at this;exact this.pQ
   cases t
   ·exact wpIn_cond hc (y6 (p.imp id SR) (λd G=>q d (.adq G)) Q i v A u C)
   ·exact wpIn_cond hc (y0 (p.imp id Lu) (λd G=>q d (.ads G)) Q i v A u C)
  grind
 | block id x ih=>
  intro p q β H F a h T w e Q i v A u C;simp only[dj]at i;refine wpIn_block ?_;split at i
  ·next v9 x5 K hx=>
   refine ih p (λd G=>q d (.block G)) _ hx v A u λa1 Z z m V R=>?_;split at i
   ·next U=>
    simp only[aZ,bu]at i;obtain⟨rfl,rfl,rfl⟩:=i;simp only[Exit.inBlock,U,if_true]
    grind
   ·next U=>
    simp only[aZ,bu]at i;obtain⟨rfl,rfl,rfl⟩:=i;simp only[Exit.inBlock,U,if_false]
    grind
  ·next u0=>
   refine ih p (λd G=>q d (.block G)) _ i v A u λa1 Z z m V R=>?_;have:=C a1 Z z m V R
   cases e with
   |exit v9=>grind
   |_=>exact this
 | loop x ih=>
  intro p q β H F a h T w e Q i v A u C;simp only[dj]at i;refine My (λj a1 Z=>∃z x5 K,Step β h w z K Z/\dx z x5 a1.tmps.toList/\Marks w a.defers z K Z a1.defers/\iter (dj P gl cf N x) j x5 K=aa (e,F,T)) ?_ ?_ (j:=N) ⟨β,H,h,Step.refl v,u,.same rfl,i⟩
  ·grind[iter]
  ·rintro j a1 Z ⟨z,x5,K,m,V,R,x8⟩;simp only[iter]at x8;split at x8
   ·next x1 L hx=>
    refine ih p (λd G=>q d (.loop G)) _ hx m.um (A.mono m.le) V λa2 w2 x3 J x2 x4=>?_;exact⟨x3,x1,L,m.trans J,x2,R.trans m.size J x4,x8⟩
   ·next u0=>
    refine ih p (λd G=>q d (.loop G)) _ x8 m.um (A.mono m.le) V λa2 w2 x3 J x2 x4=>?_;have:=C a2 w2 x3 (m.trans J) x2 (R.trans m.size J x4)
    cases e with
    |normal=>grind
    |_=>exact this
 |exit id=>
  intro p q β H F a h T w e Q i v A u C;simp only[dj,aZ,bu]at i;obtain⟨rfl,rfl,rfl⟩:=i;exact wpIn_exit (C a w β (Step.refl v) u (.same rfl))
 |ret=>
  intro p q β H F a h T w e Q i v A u C;simp only[dj,aZ,bu]at i;obtain⟨rfl,rfl,rfl⟩:=i;exact wpIn_ret (C a w β (Step.refl v) u (.same rfl))
 |label l=>
  intro p q β H F a h T w e Q i v A u C;simp only[dj,aZ,bu]at i;obtain⟨rfl,rfl,rfl⟩:=i;exact wpIn_label (C a w β (Step.refl v) u (.same rfl))
 | rangeFunc f Y x y _ _=>
  intro p q β H F a h T w e Q i v A u C;rcases p with rfl|p
  ·simp only[dj]at i;split at i
   ·next g first x7 v7=>
    split at i
    ·next y3=>
     split at i
     ·next u3=>
      split at i
      ·next v2 L z4=>
       obtain⟨e2,E,U⟩:=bo.1 i;simp only[bu]at U;obtain⟨rfl,rfl,rfl⟩:=U;refine wpIn_rangeFunc λO w8=>?_;have z6:Step β h w β h (w.alloc (.deferred (aa []))):=Rv v _;obtain⟨z,m,sl,u2,u4⟩:=VU z6.um (tm:=H) (r:={ state:= .ready,pending:=none,fn:=O,tmps:=a.tmps,params:=Y,assign:=x,body:=y,defers:=w.heap.size }) rfl rfl u y3;have M:=z6.trans m;have hf:=K0 (β:=β) A u f;rw[v7]at hf;obtain⟨S,D,u8,v8,v5⟩:=hf.XX;have x0:sl.b=w.heap.size+1:=by rw[u4];simp
       have z2:dx z (first.toList++[aN (.yield h.aD) #[] #[]]++x7.toList) (S ++ #[aN (.yield (w.heap.size+1)) #[] #[]]++D).toList:=by
        simp only[Array.toList_append];refine(((mM.toList.1 v8).mono M.le).append ?_).append ((mM.toList.1 v5).mono M.le);exact .cons (by have:=cz.yield u2 (a:= #[]) (c:= #[]) rfl rfl;rwa[x0]at this) (.nil _)
       obtain⟨fn,z7,u6⟩:=z9.fn g _ _ _ L u3.1 z4 z _ _ m.um (A.mono M.le) z2;obtain⟨w9,y7,z3⟩:=D7 u3.2;rw[y7]at z7;obtain rfl:=aG z7;have y9:=lW hN y7 z3 (S ++ #[aN (.yield (w.heap.size+1)) #[] #[]]++D);have y5:Calls P g (S ++ #[aN (.yield (w.heap.size+1)) #[] #[]]++D) ((w.alloc (.deferred (aa []))).alloc (.loop { state:= .ready,pending:=none,fn:=O,tmps:=a.tmps,params:=Y,assign:=x,body:=y,defers:=w.heap.size })) (wO z (h.push (.loop .ready H Y.toList x y y3)) ((w.alloc (.deferred (aa []))).alloc (.loop { state:= .ready,pending:=none,fn:=O,tmps:=a.tmps,params:=Y,assign:=x,body:=y,defers:=w.heap.size })) v2 L):=by
        rcases u6 with⟨_,hc⟩|⟨v',w',X,hc,_⟩
        ·exact hc
        ·rw[y9]at hc;cases hc
       have y1:(Instr.enterLoop O a.tmps Y x y (pP none).round).run P w = .ok (w.heap.size+1,[Yi w.heap.size]) ((w.alloc (.deferred (aa []))).alloc (.loop { state:= .ready,pending:=none,fn:=O,tmps:=a.tmps,params:=Y,assign:=x,body:=y,defers:=w.heap.size })):=run_enterLoop_outer O a.tmps Y x y;have z1:(resolve a.eval (rangeCall f (w.heap.size+1)) 0).run P ((w.alloc (.deferred (aa []))).alloc (.loop { state:= .ready,pending:=none,fn:=O,tmps:=a.tmps,params:=Y,assign:=x,body:=y,defers:=w.heap.size })) = .ok { target:= .fn (.func g) D,args:=S ++ #[aN (.yield (w.heap.size+1)) #[] #[]] } ((w.alloc (.deferred (aa []))).alloc (.loop { state:= .ready,pending:=none,fn:=O,tmps:=a.tmps,params:=Y,assign:=x,body:=y,defers:=w.heap.size })):=by
        have U:resolve a.eval (rangeCall f (w.heap.size+1)) 0=Deferred.ofValue (a.eval f) #[aN (.yield (w.heap.size+1)) #[] #[]]:=by
         unfold resolve rangeCall;simp only[List.map_toArray,eK,List.map_nil];rfl
        rw[U,u8];rfl
       refine⟨_,_,_,_,_,g,_,_,y1,z1,λ_ _=>trivial,y9 _,λG=>by simp[pP,Fence.wide]at G,zy (y5.mono ?_)⟩;rintro e' w3 ⟨v',x9,rfl,I,w5⟩
       cases hB:L.get h.aD with
       |none=>rw[hB]at E;cases E
       | some B=>
        rw[hB]at E;have y4:=I.le _ _ u2
        cases B with
        |cells _ _ _ _=>cases E
        |map _=>cases E
        | loop st x1 w6 w4 w0 w7=>
         obtain⟨_,r,z8,x6,_⟩:=I.um.blk _ _ _ hB y4;rw[x0]at z8;have v4:Marks w a.defers x9 (L.del h.aD) (w3.putObj (w.heap.size+1) (.loop { r with state:= .exhausted })) ([Yi w.heap.size]++a.defers):=by
          have u1:¬Wr z (h.push (.loop .ready H Y.toList x y y3)) w.heap.size:=λhw=>by
           have:=m.back w.heap.size (by simp) hw;obtain⟨k,B,z0,_,_,h3,h4⟩:=this;have:=(v.lt k z0 h3).2;omega
          have y2:w.heap.size<((w.alloc (.deferred (aa []))).alloc (.loop { state:= .ready,pending:=none,fn:=O,tmps:=a.tmps,params:=Y,assign:=x,body:=y,defers:=w.heap.size })).heap.size:=by simp;omega
          refine⟨[w.heap.size],rfl,by simp,λb hb=>?_⟩;obtain rfl:=ba.1 hb;refine⟨aT _,?_,?_,λhw=>?_⟩
          ·rw[World.putObj_size];exact cD y2 I.size
          ·rw[iH (by omega),I.kept _ y2 u1];show((w.heap.push _).push _)[w.heap.size]?=_;rw[getElem?_push,iN (by simp),getElem?_push,iP rfl]
          ·obtain⟨k,B,z0,K,u9,h3,h4⟩:=hw;refine u1 (I.back _ y2 ⟨k,B,z0,?_,u9,h3,h4⟩);rw[au.iD]at K;split at K
           ·cases K
           ·exact K
         have z5:Step x9 L w3 x9 (L.del h.aD) (w3.putObj (w.heap.size+1) (.loop { r with state:= .exhausted })):=VT I.um hB y4 rfl (by rw[x0];exact C9 _ _ _);have u7:=(M.trans I).trans z5;have v6:=u.mono (M.trans I).le;have W:=C { a with defers:=[Yi w.heap.size]++a.defers } _ x9 u7 v6 v4;have v0:r.state≠ .busy:=by
          cases st<;>simp only[Pz]at x6<;>first|(rw[x6.1];simp;done)|cases E
         refine⟨r.pending,_,run_endLoop z8 v0,?_⟩
         cases st with
         |ready=>
          obtain rfl:=aG E;have hp:r.pending=none:=x6.2;rw[hp]at W⊢;exact W
         |busy=>cases E
         |ret=>
          obtain rfl:=aG E;have hp:r.pending=aa .ret:=x6.2;rw[hp]at W⊢;exact wpIn_ret W
         |exit id=>
          obtain rfl:=aG E;have hp:r.pending=aa (.exit id):=x6.2;rw[hp]at W⊢;exact wpIn_exit W
      ·cases i
     ·cases i
    ·cases i
   grind
  ·cases p
 |scope x _=>grind[dj]
 |goto l=>grind[dj]
 |refuse s=>grind[dj]
end
section
variable {β:gC} {P:aO} {gl:Nat->Bool}
def OM(a:Array ag):ResultVar->Sem ag
 |.tmp t=>pure (a.getD t undef)
 |.cell x t=>do loadVar t (<-asAddr (a.getD x undef))
theorem Ri(c:Func)(a:Array ag):results c a=(do let b <-c.results.mapM (OM a);pure (if h:b.size=1 then b[0]else av b)):=by rfl
theorem vI{a:Act}{h:au}{w:aU}(i:oV β h w){m:List ag}(f:dx β m a.tmps.toList):∀(l:List ResultVar){d:List ag},fY P m h l=aa d->
  ∃b,(l.mapM (OM a.tmps)).run P w = .ok b w/\dx β d b
 |[],d,h=>by simp only[fY,aZ]at h;subst h;exact⟨[],by simp,.nil β⟩
 |.tmp t::l,d,c=>by
  simp only[fY]at c;obtain⟨p,k,rfl⟩:=bo.1 c;obtain⟨b,n,j⟩:=vI i f l k;have e:=f.getD t;rw[show a.tmps.toList.getD t undef=a.tmps.getD t undef by simp[List.getD,dg]]at e;refine⟨a.tmps.getD t undef::b,?_,.cons e j⟩
  grind[aV,bp,aL,OM]
 | .cell x t::l,d,c=>by
  simp only[fY]at c;split at c
  ·next v q=>
   obtain⟨p,k,rfl⟩:=bo.1 c;obtain⟨b,n,j⟩:=vI i f l k;have e:=f.getD x;rw[show a.tmps.toList.getD x undef=a.tmps.getD x undef by simp[List.getD,dg]]at e;obtain⟨s,r,v',g,o⟩:=NY (P:=P) i q e;refine⟨v'::b,?_,.cons o j⟩;rw[List.mapM_cons];simp only[aV,OM,r,asAddr,bp,aL,g,n]
  grind
theorem OP{fn:Func}{a:Act}(l:oV β h W){f:List ag}(o:dx β f a.tmps.toList){d:List ag}(e:fY P f h fn.results.toList=aa d):
  ∃v',(results fn a.tmps).run P W = .ok v' W/\cz β (fP d) v':=by
 obtain⟨b,m,c⟩:=vI (P:=P) l o fn.results.toList e;have p:(fn.results.mapM (OM a.tmps)).run P W = .ok b.toArray W:=by
  rw[Array.mapM_eq_mapM_toList];simp only[Sem.run_map,m,aL]
 refine⟨if h:b.toArray.size=1 then b.toArray[0]else .tuple b.toArray,?_,?_⟩
 ·grind[Ri,aV,aL,bp]
 ·match d,b,c with
  |[],b,c=>rw[c.jf];exact .tuple rfl λi v v' h=>by grind
  |[v],b,c=>
   obtain⟨v',r,rfl,j,e⟩:=c.fX;rw[e.jf];exact j
  |v::u::d,b,c=>
   have k:=c.1;have g:¬b.toArray.size=1:=by simp only[List.size_toArray];simp only[bU]at k;omega
   rw[dif_neg g];exact .tuple (by omega) λi x n q s=>c.2 i x n (by grind) (by grind)
theorem EF.Lt(h:EF β I G W){d:Option (List Deferred)}(q:W.heap[G.b]?=aa (.deferred d)):False:=by
 cases I with
 |cells cs t i m=>obtain⟨_,_,_,g,k,n,_⟩:=h;grind
 |map l=>obtain⟨_,f,a,c,_⟩:=h;grind
 |loop o j p e b s=>obtain⟨_,r,c,_⟩:=h;grind
theorem VW{w:aU}(a:Step J g W β h w){b:Nat}{d l:Option (List Deferred)}(r:W.heap.size<=b)(j:w.heap[b]?=aa (.deferred d)):Step J g W β h (w.putObj b (.deferred l)):=by
 refine⟨a.le,a.aD,⟨λk c q=>?_,λk B c m n=>?_,a.um.own,a.um.wf⟩,?_,a.os,a.tape,a.output,λp f o=>?_,a.back,a.fresh,a.keys⟩
 ·rw[World.putObj_size];exact a.um.lt k c q
 ·have i:=a.um.blk k B c m n;refine i.of_heap (iH λe=>?_);rw[<-e]at j;exact i.Lt j
 ·grind[World.putObj_size]
 ·rw[iH (by omega)];exact a.kept p f o
theorem BU{F:Fence}{n:Nat}{fn:Func}{d f:gC}{g m:au}{c:aU}{q:List ag}{tmps:Array ag}{o:List ag}(i:fY P q m fn.results.toList=aa o)(r:dx f q tmps.toList):
  ∀(h:List Nat)(e:aU),h.Nodup->(∀b∈h,c.heap.size<=b/\e.heap[b]?=aa (.deferred (aa [])))->Step d g c f m e->LeavesInM F n P fn tmps (wO d g c (fP o) m) (h.map Yi) .returning e
 |[],e,_,_,k=>by
  obtain⟨v',l,j⟩:=OP (P:=P) (fn:=fn) (a:={ tmps:=tmps,defers:=[] }) k.um r i;exact⟨v',l,v',f,rfl,k,j⟩
 |b::h,e,t,s,k=>by
  obtain⟨l,j⟩:=s b (by simp);obtain⟨u,p⟩:=List.nodup_cons.1 t;refine⟨by simp,.inl ⟨b,_,rfl,run_takeDeferred j,?_⟩⟩;refine BU i r h _ p (λw v=>?_) (VW k l j)
  grind[iH]
def pH(P:aO)(gl:Nat->Bool)(f:bW)(p:rW):Prop:=
 ∀i,uo P gl i->∀b h v d,p i b h=aa (v,d)->∀β w (a:Array ag),oV β h w->Gl gl β->dx β b a.toList->
  ∃g,P.funcs[f]?=aa g/\((g.body.isSome=af/\Calls P f a w (wO β h w v d))\/
   (∃v' e c,(callFunc f a).run P w = .ok (.value v') e/\Step β h w c d e/\cz c v v'))
def vc(P:aO)(gl:Nat->Bool)(a:bW->Option rW):Prop:=∀f p,a f=aa p->pH P gl f p
def MJ(P:aO)(gl:Nat->Bool):Prop:=∀b,uo P gl b->∀(f:bW)(a:Func)(c d:Code),P.funcs[f]?=aa a->a.body=aa c->Part d c->qG P gl b d
theorem FY(Q:jx P){x:fO}(G:uo P gl x){N:Nat}{f:bW}{l:Func}{c:Code}(L:P.funcs[f]?=aa l)(J:l.body=aa c)(T:∀d,Part d c->qG P gl x d)
  {j:List ag} {h u:au} {E:List ag} {e:Exit} {z:List ag} (V:dj P gl x N c (j++aQ (l.ntmps-j.length) undef) h=aa (e,E,u)) (R:e = .normal\/e = .ret)
  (y:fY P E u l.results.toList=aa z) {w:aU} {g:Array ag} (O:oV β h w) (W:Gl gl β) (I:dx β j g.toList):
  Calls P f g w (wO β h w (fP z) u):=by
 refine(callsIn_wide (n:=0)).1 (callsIn_of_wp_marks (F:=Fence.wide) L J trivial ?_);have q:∀k,dx β (aQ k undef) (aQ k undef):=λk=>⟨rfl,λi v v' s t=>by
  rw[List.getElem?_replicate]at s t;split at s
  ·next S=>rw[iP S]at t;obtain rfl:=aG s;obtain rfl:=aG t;exact .undef β
  grind⟩
 have U:dx β (j++aQ (l.ntmps-j.length) undef) (g++Array.replicate (l.ntmps-g.size) undef).toList:=by
  have:g.size=j.length:=by rw[I.1];simp
  rw[this];simp only[Array.toList_append,Array.toList_replicate];exact I.append (q _)
 refine KT (r:=none) Q G c (.inl rfl) T _ V O W U λa K X H A D=>?_;obtain⟨M,p,B,o⟩:=D;simp only[cp]at p;have m:=BU (P:=P) (F:=Fence.wide) (n:=0) (fn:=l) y A M K B (λb C=>⟨(o b C).1,(o b C).2.2.1⟩) H;rw[<-p]at m;rcases R with rfl|rfl
 ·exact m
 ·exact m
theorem GB:∀(l:List (Tmp×ag))(T:Array ag),(l.foldl (λa (p:Tmp×ag)=>a.setIfInBounds p.1 p.2) T).toList=ye T.toList l
 |[],_=>rfl
 |p::l,T=>by
  simp only[j7,ye];rw[GB l,ye,Array.toList_setIfInBounds]
theorem dx.set{l l':List ag}(h:dx β l l')(i:Nat){v v':ag}(e:cz β v v'):dx β (l.set i v) (l'.set i v'):=by
 refine⟨by simp[h.1],λj u d a b=>?_⟩;rw[List.getElem?_set]at a b;split at a
 ·grind
 ·next c=>rw[iN c]at b;exact h.2 j u d a b
theorem Kf:∀(b:List Tmp){h d c a:List ag},dx β h d->dx β c a->dx β (ye h (b.zip c)) (ye d (b.zip a))
 |[],_,_,_,_,f,_=>by simp_all[ye]
 |p::b,_,_,[],_,f,e=>by rw[e.jf];simp_all[ye]
 |p::b,_,_,v::j,_,f,e=>by
  obtain⟨v',k,rfl,i,g⟩:=e.fX;exact Kf b (f.set p i) g
theorem wh{a:fO}(b:∀(d c:Code),Part d c->fN c=af->qG P gl a d){c:Code}(h:fN c=af):∀d,Part d c->qG P gl a d:=λd e=>b d c e h
theorem aaJ(hN:jx P){cf:fO}(L:uo P gl cf)(hD:∀(d c:Code),Part d c->fN c=af->qG P gl cf d){N k:Nat}{s:List ag}{h h':au}{v:ag}(j:uT (dj P gl cf N) k s h=aa (v,h')){w:aU}{i:Array ag}{p:Slot}
  (hs:oV β h w) (hg:Gl gl β) (ha:dx β s i.toList) (hb:β k=aa p):
  ∃fn tmps z q,(Instr.yield p.b i).run P w = .ok (.round p.b fn tmps z q) w/\∀(r:Option Nat)(n:Nat),RoundIn (pP r) n P p.b fn tmps z q w (wO β h w v h'):=by
 unfold uT at j;split at j
 ·next tm ps z q ok hk=>
  split at j
  ·next T=>
   split at j
   ·next z4 h1 S=>
    split at j
    ·next x6 y5 Z E y4 R=>
     split at j
     ·next e x h2 H=>
      split at j
      ·next z2 x8 x9 x3 G y7 b st K f=>
       simp only[aZ,bu]at j;obtain⟨rfl,rfl⟩:=j;obtain⟨_,o,y0,z5,y9,M,rfl,rfl⟩:=hs.blk _ _ _ hk hb;have y1:i.size=o.params.size:=by
        have:=ha.1;rw[<-gn,<-this,T,<-M];simp
       refine⟨o.fn,_,o.assign,o.body,run_yield y0 y1,λr n=>?_⟩;simp only[qn,bg]at ok;obtain⟨⟨⟨x7,Y⟩,y6⟩,z0⟩:=ok;have x2:dx β (ye tm (ps.zip s)) ((o.params.zip i).foldl (λtmps (t,a)=>tmps.setIfInBounds t a) o.tmps).toList:=by
        rw[<-oW,Array.toList_zip,M];have:=Kf ps y9 ha;rw[<-GB (ps.zip i.toList) o.tmps]at this;exact this
       refine roundIn_of_wpIn trivial ?_;refine KT (r:=aa p.b) hN L o.assign (.inr y6) (wh hD x7) _ S hs hg (a:={ tmps:=_,defers:=[] }) x2 λa1 w1 Q m y8 _=>?_;have u:=m.le _ _ hb;obtain⟨_,O,x1,W,U,V,F,B⟩:=m.um.blk _ _ _ R u;have C:Step Q h1 w1 Q (h1.set k (.loop .busy x6 y5 Z E y4)) (w1.putObj p.b (.loop { O with state:= .busy })):=
        Step.at_ m.um R u rfl (C9 _ _ _) ⟨by assumption,{ O with state:= .busy },World.putObj_heap_same (m.um.lt _ _ u).2,rfl,U,V,F,B⟩
       refine⟨_,run_beginRound x1 W.1,?_⟩;have y:=m.trans C;refine KT (r:=aa p.b) hN L o.body (.inr z0) (wh hD Y) _ H C.um (hg.mono y.le) y8 λa2 w2 y3 l z3 _=>?_;have A:=l.le _ _ u;obtain⟨x5,z6,x0,z1,x4,X,I,D⟩:=l.um.blk _ _ _ K A;have J:=y.trans l;have fin:∀g:Option Code,b=g.isNone->Pz st (if g.isNone then .ready else .done) g->
         ∃v w',(Instr.endRound p.b g).run P w2 = .ok v w'/\wO β h w (.bool b) (h2.set k (.loop st x8 x9 x3 G y7)) (.returned v) w':=λg hj y2=>by
        refine⟨_,_,run_endRound g x0,.bool g.isNone,y3,rfl,J.trans (Step.at_ l.um K A rfl (C9 _ _ _) ⟨x5,_,World.putObj_heap_same (l.um.lt _ _ A).2,y2,x4,X,I,D⟩),?_⟩;rw[hj];exact .bool _
       cases e with
       |normal=>simp only[N2,aZ,bu]at f;obtain⟨rfl,rfl⟩:=f;exact fin none rfl ⟨rfl,rfl⟩
       |ret=>simp only[N2,aZ,bu]at f;obtain⟨rfl,rfl⟩:=f;exact fin (aa .ret) rfl ⟨rfl,rfl⟩
       |exit id=>simp only[N2,aZ,bu]at f;obtain⟨rfl,rfl⟩:=f;exact fin (aa (.exit id)) rfl ⟨rfl,rfl⟩
       |_=>cases f
      ·cases j
     ·cases j
    ·cases j
   ·cases j
  ·cases j
 grind
def IV(P:aO)(gl:Nat->Bool):Prop:=∀a,uo P gl a->∀(d c:Code),Part d c->fN c=af->qG P gl a d
theorem KQ(t:jx P){A:bW->Option rW}(D:vc P gl A)(y:MJ P gl)(C:IV P gl):∀n,uo P gl (dP P gl A n)
 |0=>⟨λf b h v u _ a=>by grind[dP],λk b h v u a=>by grind[dP]⟩
 | n+1=>by
  have g:=KQ t D y C n;refine⟨λf b h v u H a β w j m s r=>?_,λk b h v u a β w j I m s r e=>?_⟩
  ·simp only[dP]at a;rw[iN (by omega)]at a;split at a
   ·next p B=>exact D f p B _ g b h v u a β w j m s r
   ·split at a
    ·next x l=>
     split at a
     ·next c e=>
      refine⟨x,l,.inl ⟨by simp[e],?_⟩⟩;split at a
      ·next F G o=>
       obtain⟨E,i,q⟩:=bo.1 a;simp only[bu]at q;obtain⟨rfl,rfl⟩:=q;exact FY t g l e (λd z=>y _ g f x c d l e z) o (.inl rfl) i m s r
      ·next F G o=>
       obtain⟨E,i,q⟩:=bo.1 a;simp only[bu]at q;obtain⟨rfl,rfl⟩:=q;exact FY t g l e (λd z=>y _ g f x c d l e z) o (.inr rfl) i m s r
      ·cases a
     ·cases a
    grind
  ·simp only[dP]at a;rw[iP (by omega),Nat.add_sub_cancel_left]at a;exact aaJ t g (C _ g) a m s r e
end
section
variable {β:gC} {P:aO}
structure C6(h h':au):Prop where
 aD:h.aD=h'.aD
 get:∀k,h.get k=h'.get k
theorem C6.refl(h:au):C6 h h:=⟨rfl,λ_=>rfl⟩
theorem C6.symm(e:C6 h g):C6 g h:=⟨e.aD.symm,λk=>(e.get k).symm⟩
theorem oV.same{h f:au}{w:aU}(e:C6 h f)(b:oV β h w):oV β f w:=
 ⟨λk a g=>by rw[<-e.aD];exact b.lt k a g,λk B a m d=>b.blk k B a (by rw[e.get];omega) d,
  λk j B o a i c m d l n p=>b.own k j B o a i c (by rw[e.get];omega) (by rw[e.get];omega) l n p,
  λk B g=>by rw[<-e.aD];exact b.wf k B (by rw[e.get];omega)⟩
theorem Wr.same{h a:au}(e:C6 h a){b:Nat}:Wr β h b->Wr β a b:=λ⟨k,B,c,f,d⟩=>⟨k,B,c,by rw[<-e.get];omega,d⟩
theorem Step.same{h c m a:au}{g:gC}{w l:aU}(e:C6 h c)(f:C6 m a)(s:Step β h w g m l):Step β c w g a l:=
 ⟨s.le,by rw[<-e.aD,<-f.aD];exact s.aD,s.um.same f,s.size,s.os,s.tape,s.output,λb i o=>s.kept b i λd=>o (d.same e),λb i d=>(s.back b i (d.same f.symm)).same e,
  λk p n=>(s.fresh k p n).imp id λ⟨t,q⟩=>⟨by rw[<-e.aD];omega,q.imp id λd=>d.same e⟩,
  λk B n r=>let⟨j,u⟩:=s.keys k B (by rw[f.get];omega) (by rw[e.aD];omega);⟨j,by rw[<-e.get];omega⟩⟩
theorem oV.sub(b:oV β h W)(j:g.aD=h.aD)(c:∀k B,g.get k=aa B->h.get k=aa B):oV β g W:=
 ⟨λk a f=>by rw[j];exact b.lt k a f,λk B a d e=>b.blk k B a (c k B d) e,λk i B m a n l d e o p q=>b.own k i B m a n l (c k B d) (c i m e) o p q,
  λk B f=>by rw[j];exact b.wf k B (c k B f)⟩
theorem Step.frame{E V V':au}{F:aU}(s:Step β g W J E F)(p:oV β V W)(D:V.aD=g.aD)(x:V'.aD=E.aD)(R:Nat->eA->Prop)
  (u:∀k B,R k B->k<g.aD/\g.get k=none) (n:∀k B,V.get k=aa B↔g.get k=aa B\/R k B) (l:∀k B,V'.get k=aa B↔E.get k=aa B\/R k B):Step β V W J V' F:=by
 have m:∀k a,k<g.aD->J k=aa a->β k=aa a:=λk a f e=>by
  rcases s.fresh k a e with h|⟨h,_⟩
  all_goals omega
 have C:∀k B a,R k B->β k=aa a->¬Wr β g a.b:=by
  rintro k B a H e ⟨G,N,I,c,d,q,o⟩;have r:G≠k:=by rintro rfl;rw[(u _ _ H).2]at c;cases c
  exact p.own G k N B I a r ((n _ _).2 (.inl c)) ((n _ _).2 (.inr H)) q e d o
 have A:∀b,Wr β g b->Wr β V b:=λb ⟨k,B,a,c,d⟩=>⟨k,B,a,(n _ _).2 (.inl c),d⟩
 refine⟨s.le,by rw[D,x];exact s.aD,⟨?_,?_,?_,?_⟩,s.size,s.os,s.tape,s.output,λb e K=>s.kept b e λh=>K (A b h),?_,?_,?_⟩
 ·intro k a f;rw[x];exact s.um.lt k a f
 ·intro k B a c d;rcases(l k B).1 c with c|c
  ·exact s.um.blk k B a c d
  ·have e:=m k a (u _ _ c).1 d;exact((p.blk k B a ((n _ _).2 (.inr c)) e).mono s.le).of_heap (s.kept _ (p.lt k a e).2 (C k B a c e))
 ·intro k j B v a i r c d q o z;rcases(l k B).1 c with c|c
  ·rcases(l j v).1 d with d|d
   ·exact s.um.own k j B v a i r c d q o z
   ·have e:=m j i (u _ _ d).1 o;intro L;exact C j v i d e (s.back _ (p.lt j i e).2 ⟨k,B,a,c,z,q,L⟩)
  ·have e:=m k a (u _ _ c).1 q;rcases(l j v).1 d with d|d
   ·rcases s.fresh j i o with y|⟨_,y|y⟩
    ·have w:=(p.lt j i y).1;obtain⟨t,M⟩:=s.keys j v d (by rw[<-D];exact w);exact p.own k j B t a i r ((n _ _).2 (.inr c)) ((n _ _).2 (.inl M)) e y z
    ·have:=(p.lt k a e).2;omega
    grind
   ·exact p.own k j B v a i r ((n _ _).2 (.inr c)) ((n _ _).2 (.inr d)) e (m j i (u _ _ d).1 o) z
 ·intro k B f;rw[x];rcases(l k B).1 f with f|f
  ·exact s.um.wf k B f
  ·exact cD (u _ _ f).1 s.aD
 ·rintro b e ⟨k,B,a,c,d,q,o⟩;rcases(l k B).1 c with c|c
  ·exact A b (s.back b e ⟨k,B,a,c,d,q,o⟩)
  ·exact⟨k,B,a,(n _ _).2 (.inr c),d,m k a (u _ _ c).1 q,o⟩
 ·intro k a f;rcases s.fresh k a f with h|⟨c,d⟩
  all_goals grind
 ·intro k B f w;rcases(l k B).1 f with f|f
  ·obtain⟨t,O⟩:=s.keys k B f (by rw[<-D];exact w);exact⟨t,(n _ _).2 (.inl O)⟩
  grind
theorem uU.WW{w M:aU}(m:Step J h W β g w){B:eA}{f:Nat->ag}{v':ag}(p:uU β w B f v' M){k:Nat}(I:β k=none)(V:h.aD<=k)(N:k<g.aD):
  ∃t,Step J h W t (g.set k B) M/\cz t (f k) v'/\β.le t/\∀j,j≠k->t j=β j:=by
 obtain⟨l,O,K⟩:=p.new;have y:=m.um;have u:β.le (β.ext k l):=gC.GP l I;obtain⟨U,Q⟩:=K _ k u (β.fB _ _);have L:∀a d,β a=aa d->d.b<w.heap.size:=λa d I=>(y.lt a d I).2;have T:=m.size;refine⟨β.ext k l,⟨gC.le_trans m.le u,m.aD,⟨?_,?_,?_,au.wf_set y.wf B N⟩,by rw[p.size];omega,p.os.trans m.os,m.tape.trans p.tape,p.output.trans m.output,
  λb x P=>(p.kept b (by omega)).trans (m.kept b x P),?_,?_,?_⟩,Q,u,λj R=>β.iE l R⟩
 ·intro a d e;by_cases c:a=k
  ·subst c;rw[β.fB]at e;obtain rfl:=aG e;exact⟨N,by rw[p.size,O];omega⟩
  ·rw[β.iE l c]at e;have:=y.lt a d e;exact⟨this.1,by rw[p.size];omega⟩
 ·intro a C d i n;by_cases c:a=k
  ·subst c;rw[β.fB]at n;obtain rfl:=aG n;rw[g.gK]at i
   grind
  ·rw[g.eW k a B c]at i;rw[β.iE l c]at n;exact((y.blk a C d i n).mono u).of_heap (p.kept _ (L a d n))
 ·intro q s F G E D z i n o r S;by_cases A:q=k
  ·subst A;rw[β.fB]at o;obtain rfl:=aG o;rw[β.iE l (Ne.symm z)]at r
   grind
  ·by_cases v:s=k
   ·subst v;rw[β.fB]at r;obtain rfl:=aG r;rw[β.iE l z]at o
    grind
   ·rw[g.eW k q B A]at i;rw[g.eW k s B v]at n;rw[β.iE l A]at o;rw[β.iE l v]at r;exact y.own q s F G E D z i n o r S
 ·rintro b x ⟨a,C,d,i,n,o,r⟩;by_cases c:a=k
  ·subst c;rw[β.fB]at o
   grind
  ·rw[g.eW k a B c]at i;rw[β.iE l c]at o;exact m.back b x ⟨a,C,d,i,n,o,r⟩
 ·intro a d e;by_cases c:a=k
  ·subst c;rw[β.fB]at e
   grind
  ·rw[β.iE l c]at e;exact m.fresh a d e
 ·intro a C i H;rw[g.eW k a B (by omega)]at i;exact m.keys a C i H
end
variable{q:aR}
section
variable {P:aO} {ρ ρ':bm->ag}
theorem agn{l:List (Nat×bm)}(h:∀x∈l.map (·.2),ρ x=ρ' x):l.map (λp=>(p.1,ρ p.2))=l.map (λp=>(p.1,ρ' p.2)):=
 oX λp a=>by grind
theorem ahJ{r:Option bm}(h:∀x∈r.toList,ρ x=ρ' x):r.map ρ=r.map ρ':=by
 cases r with
 |none=>rfl
 |some x=>grind
theorem ahu{l:List (Nat×bm)}(h:∀x∈l.map (·.2),ρ x=ρ' x)(q:ag->Bool):(l.all λp=>q (ρ p.2))=l.all λp=>q (ρ' p.2):=by grind
theorem LA(h:∀x∈q.op.operands,ρ x=ρ' x):eN P ρ q=eN P ρ' q:=by
 obtain⟨l,j,n,k,g,f⟩:=q
 cases j
 case call c=>
  obtain⟨d,e,m⟩:=c
  cases d with
  |builtin b=>
   have i:e.toList.map ρ=e.toList.map ρ':=oX λx a=>h x (by simpa[eD,jI]using a)
   cases b<;>simp only[eN,i]
   split
   ·next x t a p=>rw[h x (by simp[eD,jI];exact Array.mem_of_getElem? a)]
   ·rfl
  |_=>rfl
 all_goals first
  |rfl
  |(simp only[eD,Array.mem_append,List.mem_toArray,cW,List.not_mem_nil,or_false,forall_eq_or_imp,forall_eq]at h;simp only[eN,h];done)
  |skip
 case build t o=>
  simp only[eN];rw[agn λx a=>h x (by simpa[eD]using a)]
 grind[Array.map_congr_left,eD,eN]
theorem LC(h:∀x∈q.op.operands,ρ x=ρ' x):dW P ρ q g=dW P ρ' q g:=by
 obtain⟨l,i,n,k,e,d⟩:=q
 cases i
 case call c=>
  obtain⟨a,j,m⟩:=c
  cases a with
  |builtin b=>
   cases b<;>simp only[dW]
   split
   ·next x t f o=>rw[h x (by simp[eD,jI];exact Array.mem_of_getElem? f)]
   ·rfl
  |_=>rfl
 all_goals first
  |rfl
  |(simp only[eD,Array.mem_append,List.mem_toArray,cW,List.not_mem_nil,or_false,forall_eq_or_imp,forall_eq]at h;simp only[dW,h];done)
  |skip
 grind[ahJ,eD,dW]
theorem IF(h:∀x∈q.op.operands,ρ x=ρ' x):dK P ρ q=dK P ρ' q:=by
 obtain⟨i,e,k,g,c,b⟩:=q
 cases e
 all_goals first
  |rfl
  |(simp only[eD,List.mem_toArray,cW,List.not_mem_nil,or_false,forall_eq_or_imp,forall_eq]at h;simp only[dK,h];done)
  |skip
 case buildSlice t j f=>
  have a:∀x∈f.toList.map (·.2),ρ x=ρ' x:=λx d=>h x (by simpa[eD]using d);simp only[dK];rw[agn a,ahu a]
 grind[dK,eD]
theorem Om{k:fO}(h:∀x∈q.op.operands,ρ x=ρ' x):ia P k ρ q g=ia P k ρ' q g:=by
 obtain⟨r,n,v,p,m,l⟩:=q
 cases n
 case call c=>
  obtain⟨e,a,u⟩:=c
  cases e with
  | builtin b=>
   have j:a.toList.map ρ=a.toList.map ρ':=oX λx d=>h x (by simpa[eD,jI]using d)
   cases b<;>simp only[ia,j]
   all_goals
    split
    ·next s x t w d z=>
     have i:∀y∈a.toList,ρ y=ρ' y:=λy o=>h y (by simpa[eD,jI]using o);rw[d]at i;rw[i s (by simp),i x (by simp)]
    ·rfl
  |value f=>
   have j:a.toList.map ρ=a.toList.map ρ':=oX λx d=>h x (by simp[eD,jI];right;simpa using d);simp only[ia,j,h f (by simp[eD,jI])]
  |_=>rfl
 all_goals simp_all[eD,ia]
end
end Go.Ab
end
section
namespace Go.Ab
open Go Region
variable{U:Array aR}{i:Nat}{j:Nat}
structure KH(ops:Array aR)(L:List Nat):Prop where
 mem:∀i,i∈L↔i<ops.size
 nodup:L.Nodup
 ahB:∀pre i suf,L=pre++i::suf->∀o,ops[i]?=aa o->∀e∈o.after,binds .any e=af->e.on∈pre
theorem TL{m:hO}{e:Edge}(h:binds .any e=af):binds m e=af:=by grind[binds]
def may(m:hO)(b:Array aR)(a:Array Bool)(i:Nat):Prop:=
 a.getD i af=aj/\∃o,b[i]?=aa o/\∀e∈o.after,binds m e=af->a.getD e.on aj=af
theorem Ax{m:hO}{a:Array Bool}:
  i∈(dA U.size).filter (λi=> !a.getD i af&&((U[i]?).map (·.after.all λe=> !binds m e||a.getD e.on aj)).getD aj)↔i<U.size/\may m U a i:=by
 simp only[fe,mem_range,bg,cK,may]
 grind[Array.all_eq_true']
def left(b:Array aR)(a:Array Bool):List Nat:=(dA b.size).filter λi=> !a.getD i af
theorem GD{l:Array Bool}(d:Bool)(a:i<l.size):(l.setIfInBounds i af).getD j d=if j=i then af else l.getD j d:=by
 simp only[dg,Array.getElem?_setIfInBounds]
 grind
theorem NO(m:hO)(k:Array aR):
  ∀(q t:Nat)(c:Array Bool)(d:List Nat),c.size=k.size->(∀i,i∈d↔i<k.size/\c.getD i af=af)->d.Nodup->
   (∀g i r,d.reverse=g++i::r->∀o,k[i]?=aa o->∀e∈o.after,binds m e=af->e.on∈g)->
   let L:=linearise.go m k q t c d
   (∀i,i∈L->i<k.size)/\L.Nodup/\∀g i r,L=g++i::r->∀o,k[i]?=aa o->∀e∈o.after,binds m e=af->e.on∈g
 |0,t,c,d,H,w,F,K=>by grind[linearise.go]
 | q+1,t,c,d,H,w,F,K=>by
  simp only[linearise.go];split
  ·next i B=>
   have B:=aM B;obtain⟨I,v,o,J,A⟩:=Ax.1 B;have z:i<c.size:=by omega
   have M:i∉d:=λh=>by have:=((w i).1 h).2;rw[v]at this;cases this
   have s:∀e∈o.after,binds m e=af->e.on∈d.reverse:=λe p u=>by
    rw[List.mem_reverse,w];have y:=A e p u;have:e.on<c.size:=by
     rcases db e.on c.size with D|D
     ·exact D
     ·simp[dg,Array.getElem?_eq_none D]at y
    exact⟨by omega,by simp only[dg,getElem?_eq_getElem this]at y⊢;exact y⟩
   refine NO m k q (t/_) (c.setIfInBounds i af) (i::d) (by simpa using H) ?_ (List.nodup_cons.2 ⟨M,F⟩) ?_
   ·intro j;rw[cW,w,GD _ z];constructor
    ·rintro(rfl|⟨l,f⟩)
     ·exact⟨I,by simp⟩
     ·exact⟨l,by split<;>simp_all⟩
    ·rintro⟨l,f⟩;split at f
     ·next p=>exact .inl p
     ·exact .inr ⟨l,f⟩
   ·intro g j r x N n e p u;rw[List.reverse_cons]at x;rcases List.append_eq_append_iff.1 x with⟨E,l,f⟩|⟨C,l,f⟩
    ·cases E with
     |nil=>
      simp only[dL,gI]at f;obtain⟨rfl,rfl⟩:=f;rw[J]at n;obtain rfl:=aG n;rw[l,cp];exact s e p u
     |cons a E=>
      simp only[fh,gI]at f;obtain⟨_,f⟩:=f;have:=congrArg List.length f;simp at this
    ·cases C with
     |nil=>
      simp only[dL,gI]at f;obtain⟨rfl,rfl⟩:=f;rw[J]at n;obtain rfl:=aG n;have G:g=d.reverse:=by simpa using l.symm
      rw[G];exact s e p u
     |cons b C=>
      simp only[fh,gI]at f;obtain⟨rfl,_⟩:=f;exact K g j C l N n e p u
  grind
theorem XS(m:hO)(b:Array aR)(f:∀a:Array Bool,a.size=b.size->(∃i,i<b.size/\a.getD i af=aj)->∃i,i<b.size/\may m b a i):
  ∀(c t:Nat)(a:Array Bool)(d:List Nat),a.size=b.size->(left b a).length<=c->(∀i,i<b.size->a.getD i af=af->i∈d)->
   ∀i,i<b.size->i∈linearise.go m b c t a d
 |0,t,a,d,q,x,A=>λi h=>by simp_all[linearise.go,left]
 | c+1,t,a,d,q,x,A=>by
  simp only[linearise.go];split
  ·next i k=>
   have k:=aM k;obtain⟨s,l,_⟩:=Ax.1 k;have g:i<a.size:=by omega
   refine XS m b f c (t/_) (a.setIfInBounds i af) (i::d) (by grind) ?_ ?_
   ·have o:∀j,j∈left b (a.setIfInBounds i af)->j∈left b a/\j≠i:=by
     intro j e;simp only[left,fe,mem_range,cK,GD _ g]at e⊢;split at e
     ·exact absurd e.2 (by simp)
     ·next r=>exact⟨e,r⟩
    have C:i∈left b a:=fe.2 ⟨mem_range.2 s,by rw[l];rfl⟩;have p:(left b (a.setIfInBounds i af)).Nodup:=List.Pairwise.filter _ List.nodup_range;have:(left b (a.setIfInBounds i af)).length<=((left b a).erase i).length:=by
     refine List.Nodup.length_le_of_subset p λj e=>?_;obtain⟨w,B⟩:=o j e;exact(List.mem_erase_of_ne B).2 w
    grind
   ·intro j e n;rw[GD _ g]at n
    grind
  ·next u=>
   intro i k;rw[List.mem_reverse]
   cases n:a.getD i af with
   |true=>grind
   |false=>
    obtain⟨D,y,z⟩:=f a q ⟨i,k,n⟩;have v:=Ax.2 ⟨y,z⟩
    grind[dJ]
theorem NX(b:Array aR)(a:Array Bool):(left b a).length<=b.size:=by grind[left]
theorem Jz(m:hO)(a:Array aR)(t:Nat):
  (∀i,i∈linearise m a t->i<a.size)/\(linearise m a t).Nodup/\∀b i c,linearise m a t=b++i::c->∀o,a[i]?=aa o->∀e∈o.after,binds m e=af->e.on∈b:=by
 refine NO m a a.size t _ [] (by simp) (λi=>?_) List.nodup_nil (λb i c h=>by simp at h)
 simp_all
theorem abX(m:hO)(a:Array aR)(t:Nat)(c:∀b:Array Bool,b.size=a.size->(∃i,i<a.size/\b.getD i af=aj)->∃i,i<a.size/\may m a b i):
  ∀i,i<a.size->i∈linearise m a t:=by
 refine XS m a c a.size t _ [] (by simp) (NX _ _) λi d e=>?_
 simp_all
def Px(a:Array aR):Prop:=∀i o,a[i]?=aa o->∀e∈o.after,e.on<i\/binds .any e=aj/\binds .text e=aj
theorem adA{p:Nat->Prop}[DecidablePred p]:∀(n:Nat),(∃i,i<n/\p i)->∃i,i<n/\p i/\∀j,j<i->¬p j
 |0,⟨_,h,_⟩=>absurd h (by omega)
 |n+1,h=>by
  by_cases c:∃i,i<n/\p i
  ·obtain⟨i,d,b,a⟩:=adA n c;exact⟨i,by omega,b,a⟩
  grind
theorem JN{m:hO}(g:∀i o,U[i]?=aa o->∀e∈o.after,binds m e=af->e.on<i):
  ∀a:Array Bool,a.size=U.size->(∃i,i<U.size/\a.getD i af=aj)->∃i,i<U.size/\may m U a i:=by
 intro a j b;obtain⟨i,c,d,h⟩:=adA U.size b;refine⟨i,c,d,U[i],getElem?_eq_getElem c,λe k f=>?_⟩
 grind
theorem NC{p:Nat->Prop}[DecidablePred p]:∀(L:List Nat),(∃i∈L,p i)->∃a i b,L=a++i::b/\p i/\∀j∈a,¬p j
 |[],⟨_,h,_⟩=>by cases h
 | x::L,h=>by
  by_cases d:p x
  ·exact⟨[],x,L,rfl,d,λj k=>by grind⟩
  ·obtain⟨i,c,e⟩:=h;rcases cW.1 c with rfl|c
   ·grind
   ·obtain⟨a,j,b,rfl,f,g⟩:=NC L ⟨i,c,e⟩
    grind
theorem U0{m:hO}(z:(linearise m U 0).length=U.size):
  ∀a:Array Bool,a.size=U.size->(∃i,i<U.size/\a.getD i af=aj)->∃i,i<U.size/\may m U a i:=by
 intro a x k;obtain⟨n,t,s⟩:=Jz m U 0;have f:∀i,i<U.size->i∈linearise m U 0:=by
  intro i d;refine Classical.byContradiction λq=>?_;have g:(i::linearise m U 0).Nodup:=List.nodup_cons.2 ⟨q,t⟩;have:=List.Nodup.length_le_of_subset (l₂:=dA U.size) g λj b=>by
   rcases cW.1 b with rfl|b
   ·exact mem_range.2 d
   ·exact mem_range.2 (n j b)
  simp at this;omega
 obtain⟨i,d,r⟩:=k;obtain⟨o,j,h,c,v,y⟩:=NC (p:=λi=>a.getD i af=aj) _ ⟨i,f i d,r⟩;have b:j<U.size:=n j (by rw[c];simp);refine⟨j,b,v,U[j],getElem?_eq_getElem b,λe u l=>?_⟩;have w:=s o j h c _ (getElem?_eq_getElem b) e u l
 grind
theorem zP(l:Px U)(v:departs U=af->(linearise .gc U 0).length=U.size)(g:Bool)(t:Nat):KH U (schedule g U t):=by
 have b:∀(m:hO)(t:Nat),(∀a:Array Bool,a.size=U.size->(∃i,i<U.size/\a.getD i af=aj)->∃i,i<U.size/\may m U a i)->KH U (linearise m U t):=by
  intro m t u;obtain⟨r,s,q⟩:=Jz m U t;exact⟨λi=>⟨r i,abX m U t u i⟩,s,λp i n h o f e d c=>q p i n h o f e d (TL c)⟩
 have k:∀i o,U[i]?=aa o->∀e∈o.after,binds .any e=af->e.on<i:=λi o f e d c=>by
  rcases l i o f e d with h|⟨h,_⟩
  all_goals grind
 have j:∀i o,U[i]?=aa o->∀e∈o.after,binds .text e=af->e.on<i:=λi o f e d c=>by
  rcases l i o f e d with h|⟨_,h⟩
  all_goals grind
 unfold schedule;split
 ·exact b _ _ (JN k)
 ·next w=>
  split
  ·exact b _ _ (JN j)
  ·refine b _ _ (U0 (v ?_))
   grind
end Go.Ab
end
section
namespace Go.Ab
open Go
variable{j:Nat}{q:aR}{c:List ag}{v:ag}{h:au}
section
variable {P:aO} {gl:Nat->Bool}
theorem yy{e:ag->ag->Bool}(c:∀a b,e a b=af->a=b):∀{x y:List ag},Sk e x y=af->x=y
 |[],[],_=>rfl
 |[],_::_,h=>by grind[Sk]
 |_::_,[],h=>by grind[Sk]
 |a::x,b::y,h=>by
  simp only[Sk,bg]at h;rw[c a b h.1,yy c h.2]
theorem sI:∀(d:Nat)(a b:ag),oQ d a b=af->a=b
 |0,_,_,h=>by grind[oQ]
 | d+1,a,b,h=>by
  have e:=sI d;have f:∀{x y:Array ag},Sk (oQ d) x.toList y.toList=af->x=y:=λc=>fS (yy e c);unfold oQ at h;split at h
  ·simpa using h
  ·simp only[bg,decide_eq_true_eq]at h;rw[h.1,h.2]
  ·next x y=>
   simp only[decide_eq_true_eq]at h;have:x=y:=by
    obtain⟨x⟩:=x;obtain⟨y⟩:=y;congr 1;exact fS h
   rw[this]
  all_goals grind
structure FL(ops:Array aR)(bf:Nat->Nat->Bool):Prop where
 lt:∀j i,bf j i=af->i<j
 trans:∀k j i,bf k j=af->bf j i=af->bf k i=af
 V6:∀L,KH ops L->∀pre j suf,L=pre++j::suf->∀i,bf j i=af->i∈pre
 names:∀(j:Nat)(o:aR)(t:Tmp),ops[j]?=aa o->Operand.tmp t∈o.op.operands->∀(i:Nat)(o':aR),ops[i]?=aa o'->o'.dst=aa t->i=j\/bf j i=af\/bf i j=af
 guards:∀(j:Nat)(o:aR)(i:Nat)(b:Bool),ops[j]?=aa o->o.guard=aa (i,b)->bf j i=af
 uniq:∀(i j:Nat)(o o':aR)(t:Tmp),ops[i]?=aa o->ops[j]?=aa o'->o.dst=aa t->o'.dst=aa t->i=j
abbrev Py:=List ag×au×List (Nat×eA)
def One(P:aO)(gl:Nat->Bool)(cf:fO)(ops:Array aR)(bf:Nat->Nat->Bool)(base j:Nat)(o:aR)(s:Py)(e:rI)(a:Py):Prop:=
 match e with
 |.skip=>jX ops s.1 o=aa aj/\a=(lR s.1 o.dst undef,s.2.1,s.2.2)
 |.pure v=>jX ops s.1 o=aa af/\eN P (ev gl s.1) o=aa v/\a=(lR s.1 o.dst v,s.2.1,s.2.2)
 |.read v=>jX ops s.1 o=aa af/\dW P (ev gl s.1) o s.2.1=aa v/\a=(lR s.1 o.dst v,s.2.1,s.2.2)
 |.alloc B v=>jX ops s.1 o=aa af/\(∃f,dK P (ev gl s.1) o=aa (B,f)/\v=f (base+j))/\a=(lR s.1 o.dst v,s.2.1,(j,B)::s.2.2)
 | .zD v b=>jX ops s.1 o=aa af/\(∃u,ia P cf (ev gl s.1) o (cr s.2.1 base (s.2.2.filter λp=>bf j p.1))=aa (v,u)/\b=u.app (cr s.2.1 base (s.2.2.filter λp=>bf j p.1)))/\
   a=(lR s.1 o.dst v,b,s.2.2.filter λp=> !bf j p.1)
theorem wV{cf:fO}{ops:Array aR}{bf:Nat->Nat->Bool}{base:Nat}:∀(a:List aR)(j:Nat)(s:Py)(b:List (List ag×rI))(d:Py),
  hE P gl cf ops bf base a j s.1 s.2.1 s.2.2=aa (b,d)->∃(st:Nat->Py)(en:Nat->rI),st j=s/\st (j+a.length)=d/\b.length=a.length/\
   ∀i o,a[i]?=aa o->One P gl cf ops bf base (j+i) o (st (j+i)) (en (j+i)) (st (j+i+1))/\b[i]?=aa ((st (j+i)).1,en (j+i))
 |[],j,s,b,d,h=>by
  simp only[hE,aZ,bu]at h;obtain⟨rfl,rfl⟩:=h;exact⟨λ_=>s,λ_=> .skip,rfl,rfl,rfl,λi o A=>by grind⟩
 | o::a,j,s,b,d,h=>by
  have k:∀(e:rI)(m:Py)(r:List (List ag×rI)×Py),One P gl cf ops bf base j o s e m->hE P gl cf ops bf base a (j+1) m.1 m.2.1 m.2.2=aa r->((s.1,e)::r.1,r.2)=(b,d)->
    ∃(st:Nat->Py)(en:Nat->rI),st j=s/\st (j+(o::a).length)=d/\b.length=(o::a).length/\
     ∀i q,(o::a)[i]?=aa q->One P gl cf ops bf base (j+i) q (st (j+i)) (en (j+i)) (st (j+i+1))/\b[i]?=aa ((st (j+i)).1,en (j+i)):=by
   intro e m r t c p;obtain⟨st,en,x,y,w,z⟩:=wV a (j+1) m r.1 r.2 c;simp only[bu]at p;obtain⟨rfl,rfl⟩:=p;refine⟨λi=>if i=j then s else st i,λi=>if i=j then e else en i,by simp,?_,by grind,?_⟩
   ·grind
   ·grind
  simp only[hE]at h;split at h
  ·cases h
  ·next n=>
   obtain⟨r,c,g⟩:=bo.1 h;exact k .skip (lR s.1 o.dst undef,s.2.1,s.2.2) r ⟨n,rfl⟩ c g
  ·next n=>
   split at h
   ·next v l=>
    obtain⟨r,c,g⟩:=bo.1 h;exact k (.pure v) (lR s.1 o.dst v,s.2.1,s.2.2) r ⟨n,l,rfl⟩ c g
   ·split at h
    ·next v l=>
     obtain⟨r,c,g⟩:=bo.1 h;exact k (.read v) (lR s.1 o.dst v,s.2.1,s.2.2) r ⟨n,l,rfl⟩ c g
    ·split at h
     ·next B f l=>
      obtain⟨r,c,g⟩:=bo.1 h;exact k (.alloc B (f (base+j))) (lR s.1 o.dst (f (base+j)),s.2.1,(j,B)::s.2.2) r ⟨n,⟨f,l,rfl⟩,rfl⟩ c g
     ·split at h
      ·next v u l=>
       obtain⟨r,c,g⟩:=bo.1 h;exact k (.zD v _) (lR s.1 o.dst v,_,_) r ⟨n,⟨u,l,rfl⟩,rfl⟩ c g
      grind
def rI.jE:rI->Bool
 |.zD .. =>af
 |_=>aj
structure R3(P:aO)(gl:Nat->Bool)(cf:fO)(ops:Array aR)(bf:Nat->Nat->Bool)(base:Nat)(st:Nat->Py)(en:Nat->rI):Prop where
 one:∀i o,ops[i]?=aa o->One P gl cf ops bf base i o (st i) (en i) (st (i+1))
 chain:∀e₁ e₂,e₁<e₂->e₂<ops.size->(en e₁).jE=af->(en e₂).jE=af->bf e₂ e₁=af
 reads:∀j o v,ops[j]?=aa o->en j = .read v->∀c,c<=ops.size->(∀e,e<c->(en e).jE=af->bf e j=aj)->(∀e,c<=e->e<ops.size->(en e).jE=af->bf j e=aj)->
  dW P (ev gl (st j).1) o (st c).2.1=aa v
section
variable {cf:fO} {ops:Array aR} {bf:Nat->Nat->Bool} {base:Nat} {st:Nat->Py} {en:Nat->rI}
theorem One.heap{s a:Py}{e:rI}(h:One P gl cf ops bf base j q s e a):(∀v b,e = .zD v b->a.2.1=b)/\(e.jE=aj->a.2.1=s.2.1):=by
 cases e<;>simp only[One]at h
 all_goals grind[rI.jE]
theorem One.tm{s a:Py}{e:rI}(h:One P gl cf ops bf base j q s e a):a.1=lR s.1 q.dst e.val:=by
 cases e<;>simp only[One]at h
 ·rw[h.2];rfl
 ·rw[h.2.2];rfl
 ·rw[h.2.2];rfl
 ·rw[h.2.2];rfl
 ·rw[h.2.2];rfl
theorem vi(b:∀k j i,bf k j=af->bf j i=af->bf k i=af):∀(a:List (List ag×rI))(i x:Nat)(c:au),chained bf ((x,c)::iV a i)=af->
  ∀k r,a[k]?=aa r->r.2.jE=af->bf (i+k) x=af
 |[],i,x,c,h,k,r,f,d=>by grind
 | (l,e)::a,i,x,c,h,k,r,f,d=>by
  cases e with
  | zD v g=>
   simp only[iV,chained,bg]at h
   cases k with
   |zero=>grind
   |succ k=>
    have:=vi b a (i+1) i g h.2 k r (by simpa using f) d
    grind
  | _=>
   simp only[iV]at h
   cases k with
   |zero=>grind[rI.jE]
   |succ k=>
    have:=vi b a (i+1) x c h k r (by simpa using f) d
    grind
theorem KS{x:Nat×au}{l:List (Nat×au)}(h:chained bf (x::l)=af):chained bf l=af:=by
 cases l with
 |nil=>rfl
 |cons y l=>simp_all[chained]
theorem zC(g:∀k j i,bf k j=af->bf j i=af->bf k i=af):∀(c:List (List ag×rI))(i:Nat),chained bf (iV c i)=af->
  ∀b a f d,b<a->c[b]?=aa f->c[a]?=aa d->f.2.jE=af->d.2.jE=af->bf (i+a) (i+b)=af
 |[],i,h,b,a,f,d,m,l,p,o,q=>by grind
 | (t,e)::c,i,h,b,a,f,d,m,l,p,o,q=>by
  cases a with
  |zero=>omega
  | succ a=>
   have n:c[a]?=aa d:=by simpa using p
   cases b with
   |zero=>
    simp only[List.getElem?_cons_zero,aZ]at l;subst l
    cases e with
    |zD v r=>grind[vi,iV]
    |_=>grind[rI.jE]
   | succ b=>
    have s:chained bf (iV c (i+1))=af:=by
     cases e with
     |zD v r=>simp only[iV]at h;exact KS h
     |_=>simpa only[iV]using h
    have:=zC g c (i+1) s b a f d (by omega) (by simpa using l) n o q
    grind
theorem xY(a:nu P gl q c v h=af):dW P (ev gl c) q h=aa v:=by grind[sI,nu]
theorem su{j:Nat}{o:aR}{w:List ag}{v:ag}{N:Nat}(C:j<N)(m:∀c,c<=N->(∀e,j<=e->e<c->(en e).jE=aj)->(∀e,c<=e->e<j->(en e).jE=aj)->dW P (ev gl w) o (st c).2.1=aa v):
  ∀(a:List (List ag×rI))(i:Nat)(b:Bool),(∀k r,a[k]?=aa r->r.2=en (i+k))->i+a.length=N->
  (∀k,i<=k->k<i+a.length->(∀v s,en k = .zD v s->(st (k+1)).2.1=s)/\((en k).jE=aj->(st (k+1)).2.1=(st k).2.1))->
  (b=af->∀e,j<=e->e<i->(en e).jE=aj)->
  pY P gl bf j o w v (st i).2.1 (iV a i) b=af->∀c,i<=c->c<=i+a.length->(∀e,i<=e->e<c->(en e).jE=af->bf e j=aj)->
  (∀e,c<=e->e<i+a.length->(en e).jE=af->bf j e=aj)->dW P (ev gl w) o (st c).2.1=aa v
 |[],i,b,q,A,g,H,h,c,F,B,z,t=>by
  simp only[iV,pY,or_eq_true]at h;simp only[List.length_nil]at B A
  grind[xY]
 | (D,e)::a,i,b,q,A,g,H,h,c,F,B,z,t=>by
  simp only[bU]at B t g A;have G:e=en i:=q 0 (D,e) rfl;have n:∀k r,a[k]?=aa r->r.2=en (i+1+k):=λk r O=>by
   rw[show i+1+k=i+(k+1) by omega];exact q (k+1) r (by grind)
  have l:∀k,i+1<=k->k<i+1+a.length->_:=λk K I=>g k (by omega) (by omega)
  cases J:e.jE with
  | true=>
   cases e with
   | zD u s=>
    simp only[iV,pY,bg,or_eq_true]at h;have x:=(g i (by omega) (by omega)).1 u s G.symm;by_cases E:c=i
    ·grind[blt_eq,xY]
    ·rcases h.2 with p|p
     ·grind
     ·rw[<-x]at p;refine su C m a (i+1) _ n (by omega) l ?_ p c (by omega) (by omega) (λe f d=>z e (by omega) d) (λe f d=>t e f (by omega))
      grind[blt_eq]
   |_=>grind[rI.jE]
  | false=>
   have x:=(g i (by omega) (by omega)).2 (by grind);have p:pY P gl bf j o w v (st (i+1)).2.1 (iV a (i+1)) b=af:=by
    rw[x]
    cases e with
    |zD u s=>grind[rI.jE]
    |_=>grind[iV]
   have y:b=af->∀e,j<=e->e<i+1->(en e).jE=aj:=λM L f d=>by grind
   by_cases E:c=i
   ·subst E;rw[<-x];exact su C m a (c+1) b n (by omega) l y p (c+1) (by omega) (by omega) (λe f d=>by omega) (λe f d=>t e (by omega) (by omega))
   ·exact su C m a (i+1) b n (by omega) l y p c (by omega) (by omega) (λe f d=>z e (by omega) d) (λe f d=>t e f (by omega))
theorem zL{f:au}{d:List (Nat×au)}:∀(c:List aR)(a:List (List ag×rI))(j:Nat),lT P gl bf f d c a j=af->
  ∀(i:Nat)(o:aR)(b:List ag)(v:ag),c[i]?=aa o->a[i]?=aa (b,.read v)->pY P gl bf (j+i) o b v f d af=af
 |[],_,_,_,i,o,b,v,g,_=>by grind
 |_::_,[],_,_,i,o,b,v,_,k=>by grind
 | n::c,(m,e)::a,j,h,i,o,b,v,g,k=>by
  have l:lT P gl bf f d c a (j+1)=af:=by
   cases e<;>simp only[lT,bg]at h<;>first|exact h|grind
  cases i with
  |zero=>simp_all[lT]
  |succ i=>
   have:=zL c a (j+1) l i o b v (by simpa using g) (by simpa using k)
   grind
theorem Nk(S:FL ops bf){B z:List ag}{h N:au}(p:yx P gl cf ops bf B h=aa (z,N)):
  ∃st en,R3 P gl cf ops bf h.aD st en/\st 0=(B,{ h with aD:=h.aD+ops.size },[])/\(st ops.size).1=z/\N=cr (st ops.size).2.1 h.aD (st ops.size).2.2:=by
 unfold yx at p;split at p
 ·next f F T V W=>
  split at p
  ·next s=>
   simp only[bg]at s;simp only[aZ,bu]at p;obtain⟨rfl,rfl⟩:=p;obtain⟨st,en,L,q,H,g⟩:=wV (P:=P) (gl:=gl) (cf:=cf) ops.toList 0 (B,{ h with aD:=h.aD+ops.size },[]) f (F,T,V) W;simp only[bJ,gn,getElem?_toList]at q H g;refine⟨st,en,⟨λi o n=>(g i o n).1,?_,?_⟩,L,by rw[q],by rw[q]⟩
   ·intro x w b K O Q;have:=zC S.trans f 0 s.1 x w _ _ b (g x _ (getElem?_eq_getElem (by omega))).2 (g w _ (getElem?_eq_getElem K)).2 O Q;simpa using this
   ·intro j o v n A c X J G;have u:=(g j o n).2;rw[A]at u;have C:=zL ops.toList f 0 s.2 j o _ v (by simpa using n) u;rw[bJ]at C;have U:(st 0).2.1={ h with aD:=h.aD+ops.size }:=by rw[L]
    rw[<-U]at C;have m:∀c d,c+d<=ops.size->(∀e,c<=e->e<c+d->(en e).jE=aj)->(st (c+d)).2.1=(st c).2.1:=by
     intro c d
     induction d with
     |zero=>intros;rfl
     |succ d R=>
      intro Z D;have:=((g (c+d) _ (getElem?_eq_getElem (by omega))).1).heap.2 (D (c+d) (by omega) (by omega));rw[show c+(d+1)=c+d+1 by omega,this];exact R (by omega) λe a t=>D e a (by omega)
    have I:j<ops.size:=(Array.getElem?_eq_some_iff.1 n).1;have l:=(g j o n).1;rw[A]at l;simp only[One]at l;refine su (st:=st) (en:=en) I ?_ f 0 af (λk r y=>by
      have b:k<ops.size:=by rw[<-H];exact(List.getElem?_eq_some_iff.1 y).1
      have:=(g k _ (getElem?_eq_getElem b)).2;rw[this]at y;obtain rfl:=aG y;simp) (by omega)
     (λk _ y=>by
      have b:k<ops.size:=by omega
      exact((g k _ (getElem?_eq_getElem b)).1).heap) (λ_ e _ he=>by omega) C c (by omega) (by omega) (λe _=>J e) (λe a t=>G e a (by omega))
    intro c X M E;rcases db j c with b|Y
    ·have:=m j (c-j) (by omega) λe a t=>M e a (by omega);rw[show j+(c-j)=c by omega]at this;rw[this];exact l.2.1
    ·have:=m c (j-c) (by omega) λe a t=>E e a (by omega);rw[show c+(j-c)=j by omega]at this;rw[<-this];exact l.2.1
  ·cases p
 grind
end
end
variable{x:List Nat}{J:gC}
section
variable {P:aO} {gl:Nat->Bool}
theorem sW{h:au}{base:Nat}:∀(R:List (Nat×eA)),(∀i B a,(i,B)∈R->(i,a)∈R->B=a)->(∀i B,(i,B)∈R->h.get (base+i)=none)->
  ∀k B,(cr h base R).get k=aa B↔h.get k=aa B\/ ∃i,k=base+i/\(i,B)∈R
 |[],_,_,k,B=>by simp[cr]
 |(j,c)::R,e,d,k,B=>by
  have g:=sW R (λi B a b f=>e i B a (cF _ b) (cF _ f)) (λi B b=>d i B (cF _ b)) k B;simp only[cr,au.cE]
  grind
theorem lI{h:au}{base:Nat}:∀(R:List (Nat×eA)),(cr h base R).aD=h.aD
 |[]=>rfl
 |_::R=>lI R
theorem pv(a:List ag)(d:Option Tmp)(v:ag):(lR a d v).length=a.length:=by cases d<;>simp[lR]
theorem LP{d:Option Tmp}{t:Tmp}(h:d≠aa t):(lR c d v)[t]?=c[t]?:=by
 cases d with
 |none=>rfl
 |some d=>simp_all[lR]
theorem JO{t:Tmp}(h:t<c.length):(lR c (aa t) v)[t]?=aa v:=by grind[lR]
section
variable {cf:fO} {ops:Array aR} {bf:Nat->Nat->Bool} {base:Nat} {st:Nat->Py} {en:Nat->rI}
theorem R3.qC(a:R3 P gl cf ops bf base st en):∀i,i<=ops.size->(st i).1.length=(st 0).1.length
 |0,_=>rfl
 |i+1,h=>by
  rw[(a.one i _ (getElem?_eq_getElem (by omega))).tm,pv];exact a.qC i (by omega)
theorem R3.RD(e:R3 P gl cf ops bf base st en)(t:Tmp):∀i,i<=ops.size->(∀(b:Nat)(a:aR),b<i->ops[b]?=aa a->a.dst≠aa t)->(st i).1[t]?=(st 0).1[t]?
 |0,_,_=>rfl
 |i+1,h,c=>by
  have d:=getElem?_eq_getElem (xs:=ops) (i:=i) (by omega);rw[(e.one i _ d).tm,LP (c i _ (by omega) d)];exact e.RD t i (by omega) λb a g f=>c b a (by omega) f
theorem R3.Ms(j:FL ops bf)(e:R3 P gl cf ops bf base st en){t:Tmp}(l:t<(st 0).1.length){b:Nat}{d:aR}(a:ops[b]?=aa d)(f:d.dst=aa t):∀i,i<=ops.size->b<i->(st i).1[t]?=aa (en b).val
 |0,_,h=>absurd h (by omega)
 |i+1,h,m=>by
  have c:=getElem?_eq_getElem (xs:=ops) (i:=i) (by omega);rw[(e.one i _ c).tm];by_cases k:b=i
  ·subst k;rw[a]at c;obtain rfl:=aG c;rw[f,JO (by rw[e.qC _ (by omega)];omega)]
  ·rw[LP λg=>k (j.uniq b i d _ t a c f g)];exact e.Ms j l a f i (by omega) (by omega)
theorem R3.DP(b:R3 P gl cf ops bf base st en){c:Nat}:∀(d:Nat),c+d<=ops.size->(∀e,c<=e->e<c+d->(en e).jE=aj)->(st (c+d)).2.1=(st c).2.1
 |0,_,_=>rfl
 |d+1,h,a=>by
  rw[show c+(d+1)=c+d+1 by omega,(b.one (c+d) _ (getElem?_eq_getElem (by omega))).heap.2 (a _ (by omega) (by omega))];exact b.DP d (by omega) λe f g=>a e f (by omega)
def EL(bf:Nat->Nat->Bool)(en:Nat->rI)(c i:Nat)(B:eA):Prop:=(∃v,en i = .alloc B v)/\∀e,e<c->(en e).jE=af->bf e i=aj
theorem R3.aeE(p:FL ops bf)(q:R3 P gl cf ops bf base st en)(t:(st 0).2.2=[]):∀m,m<=ops.size->∀i B,(i,B)∈(st m).2.2↔i<m/\EL bf en m i B
 |0,_,i,B=>by grind
 | m+1,h,i,B=>by
  have l:=q.aeE p t m (by omega) i B;have a:=q.one m _ (getElem?_eq_getElem (by omega));have f:(en m).jE=aj->(∀B v,en m≠ .alloc B v)->(i<m+1/\EL bf en (m+1) i B↔i<m/\EL bf en m i B):=λx w=>by
   constructor
   ·rintro⟨k,⟨v,c⟩,d⟩;refine⟨?_,⟨v,c⟩,λe j=>d e (by omega)⟩
    grind
   ·rintro⟨k,c,d⟩;refine⟨by omega,c,λe j g=>?_⟩
    grind
  cases b:en m with
  |skip=>
   rw[b]at a;simp only[One]at a;rw[a.2,l,f (by rw[b];rfl) (by grind)]
  |pure v=>
   rw[b]at a;simp only[One]at a;rw[a.2.2,l,f (by rw[b];rfl) (by grind)]
  |read v=>
   rw[b]at a;simp only[One]at a;rw[a.2.2,l,f (by rw[b];rfl) (by grind)]
  | alloc s v=>
   rw[b]at a;simp only[One]at a;rw[a.2.2];simp only[cW,bu];rw[l];constructor
   ·rintro(⟨rfl,rfl⟩|⟨k,c,d⟩)
    ·refine⟨by omega,⟨v,b⟩,λe j _=>?_⟩
     cases r:bf e i with
     |false=>rfl
     |true=>have:=p.lt _ _ r;omega
    ·refine⟨by omega,c,λe j g=>?_⟩;rcases db e m with n|n
     ·grind
     ·obtain rfl:e=m:=by omega
      rw[b]at g;cases g
   ·rintro⟨k,⟨v',c⟩,d⟩;rcases db i m with n|n
    ·exact .inr ⟨n,⟨v',c⟩,λe j=>d e (by omega)⟩
    grind
  | zD v y=>
   rw[b]at a;simp only[One]at a;rw[a.2.2];simp only[fe,cK];rw[l];constructor
   ·rintro⟨⟨k,c,d⟩,n⟩;refine⟨by omega,c,λe j g=>?_⟩
    grind
   ·rintro⟨k,⟨v',c⟩,d⟩;have o:i<m:=by
     rcases db i m with u|u
     ·omega
     ·grind
    exact⟨⟨o,⟨v',c⟩,λe j=>d e (by omega)⟩,d m (by omega) (by rw[b];rfl)⟩
def WG(ops:Array aR)(en:Nat->rI)(b:List ag)(S:List Nat)(c:gC)(a:Act):Prop:=
 a.tmps.size=b.length/\∀(t:Tmp)(v':ag),a.tmps[t]?=aa v'->(∀(i:Nat)(o:aR),i∈S->ops[i]?=aa o->o.dst=aa t->cz c (en i).val v')/\
  ((∀(i:Nat)(o:aR),i∈S->ops[i]?=aa o->o.dst≠aa t)->∀v,b[t]?=aa v->cz c v v')
theorem WG.mono{b:gC}{a:Act}(h:WG ops en c x J a)(d:J.le b):WG ops en c x b a:=
 ⟨h.1,λt v' g=>⟨λi o e f j=>((h.2 t v' g).1 i o e f j).mono d,λe v f=>((h.2 t v' g).2 e v f).mono d⟩⟩
theorem WG.put(r:FL ops bf){c:List ag}{S:List Nat}{g:gC}{a:Act}(h:WG ops en c S g a){j:Nat}{o:aR}(p:ops[j]?=aa o){v':ag}(v:cz g (en j).val v'):WG ops en c (S++[j]) g (a.put o.dst v'):=by
 refine⟨by cases e:o.dst<;>simp[Act.put,h.1],λt u b=>?_⟩;by_cases e:o.dst=aa t
 ·have k:u=v':=by
   rw[e]at b;simp only[Act.put,Array.getElem?_setIfInBounds,if_true]at b;split at b
   ·exact(aG b).symm
   ·cases b
  subst k;refine⟨λi s _ n q=>?_,λl=>absurd e (l j o (by simp) p)⟩;obtain rfl:=r.uniq i j s o t n p q e;omega
 ·have m:a.tmps[t]?=aa u:=by
   cases f:o.dst with
   |none=>rw[f]at b;exact b
   |some d=>
    rw[f]at b e;simp only[Act.put,Array.getElem?_setIfInBounds]at b;rw[iN (by rintro rfl;exact e rfl)]at b;exact b
  obtain⟨w,n⟩:=h.2 t u m
  grind
theorem WG.ah0(d:FL ops bf)(y:R3 P gl cf ops bf base st en){L l m:List Nat}{j:Nat}(p:KH ops L)(q:L=l++j::m){r:gC}{a:Act}(h:WG ops en (st 0).1 l r a)(M:Gl gl r){o:aR}(w:ops[j]?=aa o):
  ∀x∈o.op.operands,cz r (ev gl (st j).1 x) (a.eval x):=by
 have N:j<ops.size:=(Array.getElem?_eq_some_iff.1 w).1;intro x C
 cases x with
 | tmp t=>
  simp only[ev,Act.eval];by_cases B:t<(st 0).1.length
  ·have k:t<a.tmps.size:=by rw[h.1];exact B
   obtain⟨D,I⟩:=h.2 t _ (getElem?_eq_getElem k);rw[dg,getElem?_eq_getElem k,getD_some];by_cases E:∃(i:Nat)(e:aR),i∈l/\ops[i]?=aa e/\e.dst=aa t
   ·obtain⟨i,e,F,b,n⟩:=E;have s:i<j:=by
     rcases d.names j o t w C i e b n with rfl|c|c
     ·have:=p.nodup;rw[q]at this;exact absurd rfl (fx.1 this |>.2.2 i F i cj)
     ·exact d.lt _ _ c
     ·obtain⟨K,G,rfl⟩:=List.append_of_mem F;have:=d.V6 L p K i (G++j::m) (by rw[q];simp) j c;have u:=p.nodup;rw[q]at u;exact absurd rfl ((fx.1 u).2.2 j (ey _ this) j cj)
    rw[gD,y.Ms d B b n j (by omega) s]
    grind
   ·have H:=y.RD t j (by omega) λA e s b n=>by
     rcases d.names j o t w C A e b n with rfl|c|c
     ·omega
     ·exact E ⟨A,e,d.V6 L p l j m q A c,b,n⟩
     ·have:=d.lt _ _ c;omega
    grind
  ·have k:¬t<a.tmps.size:=by rw[h.1];exact B
   rw[gD,getElem?_eq_none (by rw[y.qC j (by omega)];grind),dg,Array.getElem?_eq_none (Nat.le_of_not_lt k)];exact .undef r
 |const v=>
  simp only[ev,Act.eval];split
  ·next z=>exact .ti z
  ·exact .qd v
 | global g=>
  simp only[ev,Act.eval];split
  ·next z=>
   obtain⟨Q,D,I,O,J⟩:=M g z;have:=cz.ptr (i:=0) D J
   grind
  ·exact .qd _
 |func f=>
  simp only[ev,Act.eval];exact .func rfl rfl rfl (λi v v' h=>by grind) (λi v v' h=>by grind)
theorem WG.wanted(m:FL ops bf)(w:R3 P gl cf ops bf base st en){L k q:List Nat}{j:Nat}(E:KH ops L)(F:L=k++j::q){C:gC}{a:Act}(h:WG ops en (st 0).1 k C a){o:aR}(z:ops[j]?=aa o){b:Bool}
  (e:jX ops (st j).1 o=aa b):Region.wanted o (yielded ops a.tmps)=b:=by
 have I:j<ops.size:=(Array.getElem?_eq_some_iff.1 z).1;unfold jX at e;unfold Region.wanted;split at e
 ·grind
 ·next i f B=>
  rw[B];simp only[yielded];have x:=m.guards j o i f z B;have H:=m.V6 L E k j q F i x;split at e
  ·next d A=>
   rw[A];simp only[bind_some];obtain⟨D,p,n⟩:=Option.bind_eq_some_iff.1 A;have g:∀v,(st j).1[d]?=aa v->v=(en i).val/\∃v',a.tmps[d]?=aa v'/\cz C v v':=by
    intro v t;have r:d<(st 0).1.length:=by rw[<-w.qC j (by omega)];exact(List.getElem?_eq_some_iff.1 t).1
    have s:d<a.tmps.size:=by rw[h.1];exact r
    have:=w.Ms m r p n j (by omega) (m.lt _ _ x);rw[this]at t;obtain rfl:=aG t;exact⟨rfl,_,getElem?_eq_getElem s,(h.2 d _ (getElem?_eq_getElem s)).1 i D H p n⟩
   split at e
   ·next G c=>
    obtain⟨_,v',l,u⟩:=g _ (Jv c);rw[u.pQ]at l;rw[l];simp only[aZ]at e;subst e
    cases G<;>cases f<;>rfl
   ·next K c=>
    simp only[aZ]at e;subst e;rcases GG c with c|c
    ·obtain⟨_,v',l,u⟩:=g _ c;obtain⟨J,rfl,_⟩:=u.yF;rw[l];rfl
    ·have y:a.tmps[d]?=none:=Array.getElem?_eq_none (by rw[h.1,<-w.qC j (by omega)];exact List.getElem?_eq_none_iff.1 c);rw[y];rfl
   ·cases e
  grind
end
end
variable{n:Nat}{W:aU}{r:bm->ag}{i:Nat}{I:eA}
section
variable {β:gC} {P:aO} {gl:Nat->Bool}
theorem DV{r:Option Nat}{a:Act}{w:aU}{v':ag}(d:∀c,q.op≠ .defer c)(b:(execOp a.eval q).run P w = .ok (.value v') W){next:Act->aU->Prop}{Q:Exit->Act->aU->Prop}
  (h:next (a.put q.dst v') W):q.wpIn (pP r) n P a w next Q:=by
 refine⟨λ_ _=>trivial,?_⟩;rw[Oper.semAt_eq _ _ _ d,b];exact h
theorem Xz(z:jx P){cf:fO}(q:uo P gl cf){r:Option Nat}{n:Nat}{y:bm->ag}{a:Act}{h:au}{w:aU}{o:aR}{v:ag}{u:ek}(p:oV β h w)(B:Gl gl β)(j:∀x,cz β (y x) (a.eval x))
  (i:ia P cf y o h=aa (v,u)) (next:Act->aU->Prop) (Q:Exit->Act->aU->Prop)
  (k:∀v' d b,Step β h w b (u.app h) d->cz b v v'->next (a.put o.dst v') d):o.wpIn (pP r) n P a w next Q:=by
 refine⟨λ_ _=>trivial,?_⟩;have l:∀c,o.op≠ .defer c:=by
  intro c g;simp[ia,g]at i
 rw[Oper.semAt_eq _ _ _ l];by_cases g:eh o=aj
 ·obtain⟨v',d,b,e,s,m⟩:=JJ j g p i;rcases e with e|⟨e,rfl⟩
  ·rw[e];exact k v' d b s m
  ·rw[e];exact k undef d b s m
 ·unfold eh at g;split at g
  ·next f A C t=>
   simp only[ia,t]at i;exact Na z q t p B j i next Q k
  grind
open Classical in
noncomputable def only(o:aR)(a:bm->ag):bm->ag:=λx=>if x∈o.op.operands then a x else qd
theorem Fm:∀x∈q.op.operands,r x=only q r x:=λx a=>by grind[only]
theorem YG{a:bm->ag}(h:∀x∈q.op.operands,cz β (r x) (a x)):∀x,cz β (only q r x) (a x):=λx=>by
 unfold only;split
 ·grind
 ·exact .qd _
section
variable {cf:fO} {ops:Array aR} {bf:Nat->Nat->Bool} {st:Nat->Py} {en:Nat->rI}
structure Inv(ops:Array aR)(bf:Nat->Nat->Bool)(st:Nat->Py)(en:Nat->rI)(β₀:gC)(h:au)(w₀:aU)(a₀:Act)(pre:List Nat)(β:gC)(w:aU)(a:Act)(c:Nat)(R:List (Nat×eA)):Prop where
 le:c<=ops.size
 Iu:∀e,e<ops.size->(en e).jE=af->(e∈pre↔e<c)
 mem:∀i B,(i,B)∈R↔i∈pre/\EL bf en c i B
 step:Step β₀ h w₀ β (cr (st c).2.1 h.aD R) w
 room:h.aD+ops.size<=(st c).2.1.aD
 Og:∀i B,i<ops.size->(st c).2.1.get (h.aD+i)=aa B->∃e,e<c/\(en e).jE=af/\bf e i=af
 free:∀i,i<ops.size->i∉pre->(∃B v,en i = .alloc B v)->β (h.aD+i)=none
 Wt:WG ops en (st 0).1 pre β a
 dfs:a.defers=a₀.defers
theorem EL.abG{c:Nat}{a:eA}(h:EL bf en c i I)(b:EL bf en c i a):I=a:=by
 obtain⟨v,d⟩:=h.1;obtain⟨v',e⟩:=b.1
 grind
variable {β₀:gC} {h:au} {w₀:aU} {a₀:Act} {pre:List Nat} {w:aU} {a:Act} {c:Nat} {R:List (Nat×eA)}
theorem Inv.none_(b:Inv ops bf st en β₀ h w₀ a₀ pre β w a c R){i:Nat}{B:eA}(j:i<ops.size)(l:EL bf en c i B):(st c).2.1.get (h.aD+i)=none:=by
 cases m:(st c).2.1.get (h.aD+i)with
 |none=>rfl
 |some k=>
  obtain⟨e,f,g,d⟩:=b.Og i k j m;rw[l.2 e f g]at d;grind
theorem Inv.get(b:Inv ops bf st en β₀ h w₀ a₀ pre β w a c R)(e:∀i∈pre,i<ops.size)(k:Nat)(B:eA):
  (cr (st c).2.1 h.aD R).get k=aa B↔(st c).2.1.get k=aa B\/ ∃i,k=h.aD+i/\(i,B)∈R:=
 sW R (λi B g d f=>((b.mem i B).1 d).2.abG ((b.mem i g).1 f).2) (λi B d=>b.none_ (e i ((b.mem i B).1 d).1) ((b.mem i B).1 d).2) k B
theorem Inv.sub(d:Inv ops bf st en β₀ h w₀ a₀ pre β w a c R)(b:∀i∈pre,i<ops.size):oV β (st c).2.1 w:=
 d.step.um.sub (lI R).symm λk B e=>(d.get b k B).2 (.inl e)
theorem Inv.calm(m:FL ops bf)(b:Inv ops bf st en β₀ h w₀ a₀ pre β w a c R){j:Nat}{o:aR}(p:ops[j]?=aa o)(r:(en j).jE=aj)(q:∀B v,en j≠ .alloc B v){v':ag}(g:cz β (en j).val v'):
  Inv ops bf st en β₀ h w₀ a₀ (pre++[j]) β w (a.put o.dst v') c R where
 le:=b.le
 Iu:=λe n k=>by
  rw[bG,b.Iu e n k]
  grind
 mem:=λi B=>by
  rw[b.mem,bG];refine⟨λ⟨d,f⟩=>⟨.inl d,f⟩,λ⟨d,f⟩=>⟨?_,f⟩⟩;rcases d with d|d
  ·omega
  ·simp only[ba]at d;subst d;obtain⟨v,g⟩:=f.1
   grind
 step:=b.step
 room:=b.room
 Og:=b.Og
 free:=λi d f=>b.free i d λl=>f (ey _ l)
 Wt:=b.Wt.put m p g
 dfs:=(put_defers a o.dst v').trans b.dfs
theorem Nl(hN:jx P)(y9:uo P gl cf)(z:FL ops bf)(A:R3 P gl cf ops bf h.aD st en)(x8:(st 0).2.2=[]){L:List Nat}(C:KH ops L){r:Option Nat}{n:Nat}{Q:Exit->Act->aU->Prop}(x6:Gl gl β₀)
  (hk:∀a' w' I,Step β₀ h w₀ I (cr (st ops.size).2.1 h.aD (st ops.size).2.2) w'->dx I (st ops.size).1 a'.tmps.toList->a'.defers=a₀.defers->Q .normal a' w'):
  ∀(J pre:List Nat)(β:gC)(w:aU)(a:Act)(c:Nat)(R:List (Nat×eA)),L=pre++J->Inv ops bf st en β₀ h w₀ a₀ pre β w a c R->wpOpsIn (pP r) n P ops Q J a w
 | [],pre,β,w,a,c,R,O,d=>by
  rw[cp]at O;subst O;have E:∀i∈L,i<ops.size:=λi hi=>(C.mem i).1 hi;have M:∀e,c<=e->e<ops.size->(en e).jE=aj:=λe b g=>by
   cases x3:(en e).jE with
   |false=>rfl
   |true=>have:=(d.Iu e g x3).1 ((C.mem e).2 g);omega
  have u1:=d.le;have W:(st ops.size).2.1=(st c).2.1:=by
   have:=A.DP (c:=c) (ops.size-c) (by omega) λe b g=>M e b (by omega);rwa[show c+(ops.size-c)=ops.size by omega]at this
  have y5:∀i B,EL bf en ops.size i B↔EL bf en c i B:=λi B=>by
   refine⟨λhp=>⟨hp.1,λe b=>hp.2 e (by omega)⟩,λhp=>⟨hp.1,λe b g=>hp.2 e ?_ g⟩⟩
   grind
  have K:∀i B,(i,B)∈(st ops.size).2.2↔(i,B)∈R:=λi B=>by
   rw[A.aeE z x8 ops.size (aT _),d.mem,y5,C.mem]
  have z1:=d.get E;have y6:∀k B,(cr (st ops.size).2.1 h.aD (st ops.size).2.2).get k=aa B↔(st c).2.1.get k=aa B\/ ∃i,k=h.aD+i/\(i,B)∈(st ops.size).2.2:=by
   rw[W];exact sW _ (λi B X b g=>((d.mem i B).1 ((K i B).1 b)).2.abG ((d.mem i X).1 ((K i X).1 g)).2)
    (λi B b=>d.none_ (E i ((d.mem i B).1 ((K i B).1 b)).1) ((d.mem i B).1 ((K i B).1 b)).2)
  have hS:C6 (cr (st c).2.1 h.aD R) (cr (st ops.size).2.1 h.aD (st ops.size).2.2):=by
   refine⟨by grind[lI],λk=>Option.ext λB=>?_⟩;rw[z1,y6];simp only[K]
  refine hk a w β (d.step.same (C6.refl h) hS) ?_ d.dfs;refine⟨?_,λt v v' b g=>?_⟩
  ·rw[A.qC _ (aT _),gn,d.Wt.1]
  ·rw[getElem?_toList]at g;obtain⟨y,x⟩:=d.Wt.2 t v' g;have z5:t<(st 0).1.length:=by rw[<-A.qC _ (aT _)];exact(List.getElem?_eq_some_iff.1 b).1
   by_cases T:∃(i:Nat)(o:aR),ops[i]?=aa o/\o.dst=aa t
   ·obtain⟨i,o,q,hd⟩:=T;have hi:i<ops.size:=(Array.getElem?_eq_some_iff.1 q).1;rw[A.Ms z z5 q hd _ (aT _) hi]at b;obtain rfl:=aG b;exact y i o ((C.mem i).2 hi) q hd
   ·rw[A.RD t _ (aT _) λi o _ q hd=>T ⟨i,o,q,hd⟩]at b
    grind
 | j::J,pre,β,w,a,c,R,O,d=>by
  have E:∀i∈pre,i<ops.size:=λi hi=>(C.mem i).1 (by grind);have hj:j<ops.size:=(C.mem j).1 (by grind);have y0:j∉pre:=λhm=>by
   have z9:=C.nodup
   grind
  have x2:∀i,bf j i=af->i∈pre:=z.V6 L C pre j J O;have y8:∀i∈pre,bf i j=aj:=λi hi=>by
   cases hb:bf i j with
   |false=>rfl
   |true=>
    obtain⟨p1,p2,rfl⟩:=List.append_of_mem hi;exact absurd (ey _ (z.V6 L C p1 i (p2++j::J) (by grind) j hb)) y0
  have q:=getElem?_eq_getElem hj;generalize ops[j]=o at q;have m:=A.one j o q;have hg:Gl gl β:=x6.mono d.step.le;have z2:=d.Wt.ah0 z A C O hg q;have x5:=YG z2;have N:=Nl hN y9 z A x8 C (r:=r) (n:=n) x6 hk J (pre++[j]);have Z:L=(pre++[j])++J:=by rw[O];simp
  simp only[wpOpsIn,q]
  cases l:en j with
  |skip=>
   rw[l]at m;simp only[One]at m;rw[d.Wt.wanted z A C O q m.1];simp only[dG,if_false];refine⟨λ_ _=>trivial,?_⟩;exact N β w _ c R Z (d.calm z q (by rw[l];rfl) (by grind) (by rw[l];exact .undef β))
  |pure v=>
   rw[l]at m;simp only[One]at m;obtain⟨T,s,_⟩:=m;rw[d.Wt.wanted z A C O q T];simp only[if_true];rw[LA Fm]at s;obtain⟨v',b,g⟩:=AD x5 s w;refine DV ?_ b (N β w _ c R Z (d.calm z q (by rw[l];rfl) (by rw[l];intro B v h;cases h) (by rw[l];exact g)))
   grind[eN]
  | read v=>
   rw[l]at m;simp only[One]at m;obtain⟨T,_,_⟩:=m;rw[d.Wt.wanted z A C O q T];simp only[if_true];have s:=A.reads j o v q l c d.le
    (λe b g=>y8 e ((d.Iu e (by have:=d.le;omega) g).2 b))
    (λe b g y=>by
     cases hb:bf j e with
     |false=>rfl
     |true=>have:=(d.Iu e g y).1 (x2 e hb);omega)
   rw[LC Fm]at s;obtain⟨v',b,g⟩:=AE x5 (d.sub E) s;refine DV ?_ b (N β w _ c R Z (d.calm z q (by rw[l];rfl) (by rw[l];intro B v h;cases h) (by rw[l];exact g)))
   grind[dW]
  | alloc B v=>
   rw[l]at m;simp only[One]at m;obtain⟨T,⟨f,s,rfl⟩,_⟩:=m;rw[d.Wt.wanted z A C O q T];simp only[if_true];rw[IF Fm]at s;obtain⟨v',w',b,g⟩:=xq x5 (w:=w) s;have y3:=d.free j hj y0 ⟨B,_,l⟩;have y7:=d.room;obtain⟨I,y,x,h5,h6⟩:=g.WW d.step y3 (by omega) (by grind[lI]);refine DV (by grind[dK]) b (N I w' _ c ((j,B)::R) Z ⟨d.le,?_,?_,y,d.room,d.Og,?_,?_,(put_defers a o.dst v').trans d.dfs⟩)
   ·intro e S G;rw[bG,d.Iu e S G];refine⟨λD=>?_,.inl⟩;rcases D with D|D
    ·omega
    ·simp only[ba]at D;subst D;rw[l]at G;cases G
   ·intro i X;rw[cW,d.mem,bG];constructor
    ·rintro(D|⟨S,G⟩)
     ·simp only[bu]at D;obtain⟨rfl,rfl⟩:=D;refine⟨.inr cj,⟨_,l⟩,λe S G=>y8 e ((d.Iu e (by have:=d.le;omega) G).2 S)⟩
     grind
    ·rintro⟨S|S,G⟩
     ·grind
     ·simp only[ba]at S;subst S;obtain⟨v2,h9⟩:=G.1
      grind
   ·intro i S G h9;rw[h6 _ λD=>G (by grind)];exact d.free i S (λD=>G (ey _ D)) h9
   ·exact(d.Wt.mono h5).put z q (by rw[l];exact x)
  | zD v h'=>
   rw[l]at m;simp only[One]at m;have y4:(st (j+1)).2.1=h':=by rw[m.2.2]
   obtain⟨T,⟨u,s,hu⟩,_⟩:=m;rw[d.Wt.wanted z A C O q T];simp only[if_true];have u0:c<=j:=by
    rcases db j c with b|b
    ·exact absurd ((d.Iu j hj (by rw[l];rfl)).2 b) y0
    ·omega
   have M:∀e,c<=e->e<j->(en e).jE=aj:=λe b g=>by
    cases x3:(en e).jE with
    |false=>rfl
    |true=>
     have:=(d.Iu e (by omega) x3).1 (x2 e (A.chain e j g hj x3 (by rw[l];rfl)));omega
   have W:(st j).2.1=(st c).2.1:=by
    have:=A.DP (c:=c) (j-c) (by omega) λe b g=>M e b (by omega);rwa[show c+(j-c)=j by omega]at this
   rw[W]at s hu;have Y:∀i B,(i,B)∈(st j).2.2.filter (λp=>bf j p.1)↔EL bf en c i B/\bf j i=af:=λi B=>by
    rw[fe,A.aeE z x8 j (by omega)];constructor
    ·rintro⟨⟨b,g,y⟩,x⟩;exact⟨⟨g,λe h5=>y e (by omega)⟩,x⟩
    ·rintro⟨⟨g,y⟩,x⟩;refine⟨⟨z.lt _ _ x,g,λe h5 h6=>?_⟩,x⟩
     grind
   generalize (st j).2.2.filter (λp=>bf j p.1)=F at Y s hu;have x1:=sW (h:=(st c).2.1) (base:=h.aD) F (λi B X b g=>((Y i B).1 b).1.abG ((Y i X).1 g).1)
    (λi B b=>d.none_ (by grind) ((Y i B).1 b).1)
   have x4:=d.get E;have z3:oV β (cr (st c).2.1 h.aD F) w:=d.step.um.sub (by grind[lI]) λk B z4=>by
    rw[x4];rcases(x1 k B).1 z4 with b|⟨i,b,g⟩
    ·grind
    ·exact .inr ⟨i,b,(d.mem i B).2 ⟨x2 i ((Y i B).1 g).2,((Y i B).1 g).1⟩⟩
   rw[Om Fm]at s;refine Xz hN y9 z3 hg x5 s _ _ λv' w' I U hv=>?_;rw[<-hu,<-y4]at U;have y7:=d.room;have x9:(cr (st c).2.1 h.aD F).aD=(st c).2.1.aD:=lI F;have H:∀i B,(i,B)∈R.filter (λp=> !bf j p.1)↔i∈pre/\EL bf en c i B/\bf j i=aj:=λi B=>by
    rw[fe,d.mem];grind
   have z7:∀i B,(i,B)∈R.filter (λp=> !bf j p.1)->(cr (st c).2.1 h.aD F).get (h.aD+i)=none:=λi B hm=>by
    obtain⟨b,g,y⟩:=(H i B).1 hm
    cases z0:(cr (st c).2.1 h.aD F).get (h.aD+i)with
    |none=>rfl
    |some X=>
     rcases(x1 _ _).1 z0 with x|⟨i',x,h5⟩
     ·rw[d.none_ (E i b) g]at x;cases x
     grind
   have y2:∀k B,(st (j+1)).2.1.get k=aa B->k<(st c).2.1.aD->∃x0,(cr (st c).2.1 h.aD F).get k=aa x0:=λk B b g=>U.keys k B b (by omega);have z6:=sW (h:=(st (j+1)).2.1) (base:=h.aD) (R.filter λp=> !bf j p.1) (λi B X b g=>((H i B).1 b).2.1.abG ((H i X).1 g).2.1)
    (λi B hm=>by
     cases z0:(st (j+1)).2.1.get (h.aD+i)with
     |none=>rfl
     |some X=>grind)
   have x7:=U.frame (V:=cr (st c).2.1 h.aD R) (V':=cr (st (j+1)).2.1 h.aD (R.filter λp=> !bf j p.1)) d.step.um (by grind[lI]) (lI _)
    (λk B=>∃i,k=h.aD+i/\(i,B)∈R.filter λp=> !bf j p.1)
    (λk B ⟨i,b,g⟩=>by grind)
    (λk B=>by
     rw[x4,x1];constructor
     ·rintro(b|⟨i,b,g⟩)
      ·grind
      ·obtain⟨y,x⟩:=(d.mem i B).1 g
       grind
     ·rintro((b|⟨i,b,g⟩)|⟨i,b,g⟩)
      ·exact .inl b
      ·exact .inr ⟨i,b,(d.mem i B).2 ⟨x2 i ((Y i B).1 g).2,((Y i B).1 g).1⟩⟩
      grind)
    z6
   have y1:=U.aD;rw[x9]at y1;refine N I w' _ (j+1) _ Z ⟨by omega,?_,?_,d.step.trans x7,by omega,?_,?_,(d.Wt.mono U.le).put z q (by rw[l];exact hv),(put_defers a o.dst v').trans d.dfs⟩
   ·intro e b g;rw[bG,d.Iu e b g,ba]
    grind
   ·intro i B;rw[H,bG];constructor
    ·rintro⟨b,⟨g,y⟩,x⟩;refine⟨.inl b,g,λe h5 h6=>?_⟩
     grind
    ·rintro⟨b,⟨v2,g⟩,y⟩;rcases b with b|b
     ·exact⟨b,⟨⟨v2,g⟩,λe x=>y e (by omega)⟩,y j (by omega) (by rw[l];rfl)⟩
     grind
   ·intro i B b g;obtain⟨x0,y⟩:=y2 _ _ g (by omega);rcases(x1 _ _).1 y with x|⟨i',x,h5⟩
    ·obtain⟨e,h6,S,G⟩:=d.Og i x0 b x
     grind
    ·obtain rfl:i=i':=by omega
     exact⟨j,by omega,by rw[l];rfl,((Y _ _).1 h5).2⟩
   ·intro i b g y;have z8:=d.free i b (λD=>g (ey _ D)) y
    cases hb:I (h.aD+i)with
    |none=>rfl
    |some sl=>
     rcases U.fresh _ sl hb with x|⟨x,_⟩
     all_goals grind
end
end
variable{g:au}{k:Nat}{U:Array aR}
section
variable {P:aO} {gl:Nat->Bool}
theorem BJ:∀{x y:List (ag×ag)},Dg x y=af->x=y
 |[],[],_=>rfl
 |[],_::_,h=>by grind[Dg]
 |_::_,[],h=>by grind[Dg]
 |(a,b)::x,(c,d)::y,h=>by
  simp only[Dg,bg]at h;rw[sI _ _ _ h.1.1,sI _ _ _ h.1.2,BJ h.2]
theorem M5{C:eA}(h:Xb I C=af):I=C:=by
 unfold Xb at h;split at h
 ·simp only[bg,beq_eq,beq_iff_eq]at h;obtain⟨⟨⟨a,rfl⟩,rfl⟩,rfl⟩:=h;rw[yy (sI 4) a]
 all_goals grind[BJ]
theorem FX(e:aaX h g k=af):h.get k=g.get k:=by grind[M5,aaX]
def Tz(a:au)(s:Pt):Prop:=s.2.1.aD=a.aD/\∀k,k∉s.2.2->s.2.1.get k=a.get k
theorem Tz.lay{s:Pt}(h:Tz g s)(c:Option Tmp)(v:ag)(u:Option (Nat×eA)):Tz g (NW s c v u):=by
 cases u with
 |none=>exact h
 |some p=>
  obtain⟨k,b⟩:=p;refine⟨h.1,λj a=>?_⟩;simp only[NW,cW,not_or]at a;show(s.2.1.set k b).get j=_;rw[au.cE,iN a.1];exact h.2 j a.2
theorem Ki{s b:Pt}(h:Tz g s)(a:Pb P gl U n j s=aa b):Tz g b:=by
 unfold Pb at a;split at a
 ·split at a
  ·split at a
   ·obtain rfl:=aG a;exact h.lay _ _ _
   ·cases a
  ·obtain rfl:=aG a;exact h.lay _ _ _
  ·cases a
 grind
theorem Kp{e:Array aR}{d:Nat}{a:au}:∀(n j:Nat){s c:Pt},Tz a s->Pd P gl e d n j s=aa c->Tz a c
 |0,_,_,_,h,b=>by simp_all[Pd]
 |n+1,j,s,c,h,b=>by
  simp only[Pd]at b;split at b
  ·next g f=>exact Kp n (j+1) (Ki h f) b
  grind
theorem Nq{s a:Pt}(h:Tz g s)(b:Tz g a)(e:XC s a=af):s.1=a.1/\C6 s.2.1 a.2.1:=by
 unfold XC at e;simp only[bg]at e;obtain⟨⟨c,j⟩,i⟩:=e;refine⟨yy (sI 4) c,h.1.trans b.1.symm,λk=>?_⟩;by_cases f:k∈s.2.2
 ·grind[FX]
 ·by_cases d:k∈a.2.2
  ·grind[FX]
  ·rw[h.2 k f,b.2 k d]
theorem KH.length(h:KH U x):x.length=U.size:=by
 have:=((List.perm_ext_iff_of_nodup h.nodup List.nodup_range).2 λi=>by rw[h.mem,mem_range]).length_eq
 grind
theorem acj:uo P gl mZ:=⟨(by intro f a h v c _ b;cases b),(by intro k a h v c b;cases b)⟩
theorem UQ(S:jx P){d:Array aR}(R:FL d (gw (l5 d))){L:List Nat}(K:KH d L){r:Option Nat}{n:Nat}{Q:Exit->Act->aU->Prop}{base:Nat}{fin:Pt}{M hb:au}{E:gC}{V:aU}{a₀:Act}(l:Gl gl E)
  (h:hb.aD=base+d.size) (H:M.aD<=base) (x:Tz hb fin)
  (T:∀W I z,Step E M V z fin.2.1 I->dx z fin.1 W.tmps.toList->W.defers=a₀.defers->Q .normal W I):
  ∀(g b:List Nat)(t:gC)(w:aU)(a:Act)(s:Pt),L=b++g->WL P gl d (gw (l5 d)) base fin g.length b.reverse s=af->Tz hb s->Step E M V t s.2.1 w->
   (∀i,i<d.size->i∉b->t (base+i)=none)->dx t s.1 a.tmps.toList->a.defers=a₀.defers->wpOpsIn (pP r) n P d Q g a w
 |[],b,t,w,a,s,he,hA,C,p,D,G,N=>by
  obtain⟨e1,e2⟩:=Nq x C hA;refine T a w t (p.same (C6.refl _) e2.symm) (by grind) N
 | j::g,b,t,w,a,s,he,hA,C,p,D,G,N=>by
  have hj:j<d.size:=(K.mem j).1 (by grind);have x4:j∉b:=λhm=>by
   have x5:=K.nodup
   grind
  have x6:∀i,gw (l5 d) j i=af->i∈b:=R.V6 L K b j g he;simp only[bU,WL]at hA;have m:=bY.1 hA j (mem_range.2 hj);simp only[or_eq_true]at m;rcases m with(m|m)|m
  ·grind
  ·grind
  ·split at m
   ·next s' q=>
    have e:=Ki C q;have ho:=getElem?_eq_getElem hj;generalize d[j]=o at ho;unfold Pb at q;rw[ho]at q;dsimp only at q;have J:L=(b++[j])++g:=by rw[he];simp
    have A:(b++[j]).reverse=j::b.reverse:=by simp
    have k:∀i,i<d.size->i∉b++[j]->t (base+i)=none:=λi m X=>D i m λhh=>X (ey _ hh);have hg:Gl gl t:=l.mono p.le;simp only[wpOpsIn,ho];split at q
    ·next hw=>
     rw[vS G hw];simp only[if_true];split at q
     ·next v u c=>
      obtain rfl:=aG q;have O:=K0 (β:=t) hg G;unfold agB at c;split at c
      ·next v0 y=>
       simp only[aZ,bu]at c;obtain⟨rfl,rfl⟩:=c;obtain⟨v',Y,U⟩:=AD O y w;refine DV (by intro cc Z;simp[eN,Z]at y) Y (UQ S R K l h H x T g (b++[j]) t w _ _ J (by rw[A];exact m) e p k (vC G o.dst U) ((put_defers a o.dst v').trans N))
      ·split at c
       ·next v0 y=>
        simp only[aZ,bu]at c;obtain⟨rfl,rfl⟩:=c;obtain⟨v',Y,U⟩:=AE O p.um y;refine DV (by intro cc Z;simp[dW,Z]at y) Y (UQ S R K l h H x T g (b++[j]) t w _ _ J (by rw[A];exact m) e p k (vC G o.dst U) ((put_defers a o.dst v').trans N))
       ·split at c
        ·next B f y=>
         simp only[aZ,bu]at c;obtain⟨rfl,rfl⟩:=c;obtain⟨v',I,Y,U⟩:=xq O (w:=w) y;obtain⟨z,g3,g4,g5,g6⟩:=U.WW p (D j hj x4) (by omega) (by rw[C.1,h];omega);refine DV (by intro cc Z;simp[dK,Z]at y) Y (UQ S R K l h H x T g (b++[j]) z I _ _ J (by rw[A];exact m) e g3 ?_ (vC (G.mono g5) o.dst g4) ((put_defers a o.dst v').trans N));intro i X h3;rw[g6 _ λhh=>h3 (by rw[show i=j by omega];simp)];exact k i X h3
        ·have x0:∀{u':ek}{v:ag},ia P mZ (ev gl s.1) o s.2.1=aa (v,u')->u'.app s.2.1=(NW s o.dst v u).2.1->(NW s o.dst v u).1=lR s.1 o.dst v->WL P gl d (gw (l5 d)) base fin g.length (j::b.reverse) (NW s o.dst v u)=af->Tz hb (NW s o.dst v u)->
           o.wpIn (pP r) n P a w (λW I=>wpOpsIn (pP r) n P d Q g W I) Q:=by
          intro u' v c hu x2 m e;refine Xz S acj p.um hg O c _ _ λv' I z F hv=>?_;rw[hu]at F;refine UQ S R K l h H x T g (b++[j]) z I _ _ J (by rw[A];exact m) e (p.trans F) (λi X h3=>?_) (by rw[x2];exact vC (G.mono F.le) o.dst hv) ((put_defers a o.dst v').trans N);have x1:=k i X h3
          cases x3:z (base+i)with
          |none=>rfl
          |some sl=>
           rcases F.fresh _ sl x3 with h4|⟨h4,_⟩
           ·rw[x1]at h4;cases h4
           ·rw[C.1,h]at h4;omega
         split at c
         ·next v0 y=>
          simp only[aZ,bu]at c;obtain⟨rfl,rfl⟩:=c;exact x0 y rfl rfl m e
         ·next v0 k0 b0 y=>
          simp only[aZ,bu]at c;obtain⟨rfl,rfl⟩:=c;exact x0 y rfl rfl m e
         ·cases c
     ·cases q
    ·next hw=>
     obtain rfl:=aG q;rw[vS G hw];simp only[dG,if_false];refine⟨λ_ _=>trivial,?_⟩;exact UQ S R K l h H x T g (b++[j]) t w _ _ J (by rw[A];exact m) e p k (vC G o.dst (.undef t)) ((put_defers a o.dst undef).trans N)
    ·cases q
   grind
end
section
variable {P:aO} {gl:Nat->Bool}
theorem Step.room{w:aU}(a:oV J h w)(m:Nat):Step J h w J { h with aD:=h.aD+m } w:=
 ⟨J.le_refl,du _ _,⟨λk c b=>⟨cD (a.lt k c b).1 (du _ _),(a.lt k c b).2⟩,a.blk,a.own,λk B b=>cD (a.wf k B b) (du _ _)⟩,aT _,rfl,.refl _,rfl,
  λ_ _ _=>rfl,λ_ _ h=>h,λ_ _ h=> .inl h,λ_ B h _=>⟨B,h⟩⟩
theorem Xy(C:jx P){D:fO}(A:uo P gl D){H:Nat}{b:Array aR}(p:FL b (gw (l5 b)))(z:Px b)(y:Region.departs b=af->(Region.linearise .gc b 0).length=b.size):
  qG P gl D (.region H b af):=by
 intro N J E c I M a h U w r n Q e f F u K
 cases E
 refine wpIn_region_draw λt=>?_;have d:Step c h w c { h with aD:=h.aD+b.size } { w with drawn:=w.drawn+1 }:=
  (Step.of_heap f rfl rfl ⟨rfl,fA _⟩ rfl:Step c h w c h { w with drawn:=w.drawn+1 }).trans (Step.room (w:={ w with drawn:=w.drawn+1 }) (f.of_heap rfl) b.size)
 unfold D8 at e;split at e
 ·unfold Jj at e;split at e
  ·next fin m=>
   split at e
   ·next s=>
    simp only[aZ,bu]at e;obtain⟨rfl,rfl⟩:=e;have j:=zP z y (P.follows .mixedOrders) t;have g:Tz { h with aD:=h.aD+b.size } (I,{ h with aD:=h.aD+b.size },[]):=⟨rfl,λ_ _=>rfl⟩
    have l:(Region.schedule (P.follows .mixedOrders) b t).length=b.size:=j.length;exact UQ C p j (base:=h.aD) (fin:=fin) (a₀:=a) F rfl (aT _) (Kp _ _ g m) K _ [] c _ a _ rfl (by rw[l];exact s) g d (λi q _=>f.qp (by omega)) u rfl
   ·cases e
  grind
 have d:True:=trivial;obtain⟨V,R,L,k,S,T⟩:=Nk p e;have j:=zP z y (P.follows .mixedOrders) t;have d:Step c h w c { h with aD:=h.aD+b.size } { w with drawn:=w.drawn+1 }:=
  (Step.of_heap f rfl rfl ⟨rfl,fA _⟩ rfl:Step c h w c h { w with drawn:=w.drawn+1 }).trans (Step.room (w:={ w with drawn:=w.drawn+1 }) (f.of_heap rfl) b.size)
 refine Nl (β₀:=c) (h:=h) (w₀:=w) (a₀:=a) C A p L (by rw[k]) j F ?_ _ [] c _ a 0 [] rfl ⟨ck _,?_,?_,?_,?_,?_,?_,?_,rfl⟩
 ·grind
 ·grind
 ·grind
 ·rw[k];exact d
 ·grind
 ·intro i B q x;rw[k]at x;have:h.get (h.aD+i)=aa B:=x;have:=f.wf _ _ this;omega
 ·intro i q _ _;exact f.qp (by omega)
 ·rw[k];refine⟨by rw[u.1,gn],λt v' O=>⟨λi o q=>by grind,λ_ v G=>?_⟩⟩;exact u.2 t v v' G (by grind)
theorem NI(g:Nat->Nat)(i:Nat):∀(a:List Edge)(s:Nat),(a.foldl (λs e=>if iq .any e then s|||2^e.on|||g e.on else s) s).testBit i=af↔
  s.testBit i=af\/ ∃e∈a,iq .any e=af/\(e.on=i\/(g e.on).testBit i=af)
 |[],s=>by simp
 |e::a,s=>by
  rw[j7,NI g i a]
  grind
def xd(a:Array Nat)(o:aR):Nat:=o.after.foldl (λs e=>if iq .any e then s|||2^e.on|||a.getD e.on 0 else s) 0
theorem Js:∀(l:List aR)(a:Array Nat),(l.foldl (λa o=>a.push (xd a o)) a).size=a.size+l.length/\
  (∀i,i<a.size->(l.foldl (λa o=>a.push (xd a o)) a)[i]?=a[i]?)/\
  ∀i o,l[i]?=aa o->∃b,(l.foldl (λa o=>a.push (xd a o)) a)[a.size+i]?=aa (xd b o)/\∀k,k<a.size+i->b[k]?=(l.foldl (λa o=>a.push (xd a o)) a)[k]?
 |[],a=>⟨by simp,λ_ _=>rfl,λi o h=>by grind⟩
 |o::l,a=>by
  obtain⟨d,e,c⟩:=Js l (a.push (xd a o))
  grind
theorem TJ(a:Array aR):Region.before a=a.toList.foldl (λb o=>b.push (xd b o)) #[]:=by
 unfold Region.before;rw[<-oW];rfl
theorem aaZ(m:Px U)(j i:Nat):gw (l5 U) j i=af↔ ∃o,U[j]?=aa o/\∃e∈o.after,iq .any e=af/\(e.on=i\/gw (l5 U) e.on i=af):=by
 have q:∀k,(l5 U).getD k 0=(Region.before U).getD k 0:=λk=>by simp[l5,List.getD,dg]
 obtain⟨n,_,f⟩:=Js U.toList #[];rw[<-TJ]at n f;simp only[List.size_toArray,List.length_nil,bJ,getElem?_toList,gn]at n f
 cases g:U[j]? with
 |none=>grind[gw]
 | some o=>
  obtain⟨d,p,r⟩:=f j o g;simp only[gw,q];rw[dg,p,getD_some,xd,<-oW,NI (λk=>d.getD k 0)];simp only[Nat.zero_testBit,dG,false_or,aZ,exists_eq_left',Array.mem_toList_iff];constructor
  ·rintro⟨e,c,a,b⟩;refine⟨e,c,a,b.imp id λb=>?_⟩;have l:e.on<j:=by
    rcases m j o g e c with h|⟨h,_⟩
    ·exact h
    ·rw[h]at a;cases a
   simp_all
  ·rintro⟨e,c,a,b⟩;refine⟨e,c,a,b.imp id λb=>?_⟩;have l:e.on<j:=by
    rcases m j o g e c with h|⟨h,_⟩
    ·exact h
    ·rw[h]at a;cases a
   simp_all
theorem Px.lt(a:Px U){j:Nat}{o:aR}(c:U[j]?=aa o){e:Edge}(b:e∈o.after)(d:iq .any e=af):e.on<j:=by
 rcases a j o c e b with h|⟨h,_⟩
 all_goals grind
theorem Bu:∀(l:List aR)(j:Nat),KN l j=af->∀i o,l[i]?=aa o->∀e∈o.after,e.on<j+i\/iq .any e=aj/\iq .text e=aj
 |[],_,_,i,o,a,_,_=>by grind
 | c::l,j,h,i,o,a,e,b=>by
  simp only[KN,bg]at h
  cases i with
  |zero=>grind
  |succ i=>
   have:=Bu l (j+1) h.2 i o (by simpa using a) e b
   grind
theorem yp{a:List Nat}{j:Nat}{t:Tmp}:∀(l:List aR)(k:Nat),ym a j t l k=af->∀i o,l[i]?=aa o->o.dst=aa t->k+i=j\/gw a j (k+i)=af\/gw a (k+i) j=af
 |[],_,_,i,o,b,_=>by grind
 | d::l,k,h,i,o,b,c=>by
  simp only[ym,bg]at h
  cases i with
  |zero=>grind
  |succ i=>
   have:=yp l (k+1) h.2 i o (by simpa using b) c
   grind
theorem vA{c:List Nat}{all:List aR}:∀(l:List aR)(k:Nat),LF c all l k=af->∀i o,l[i]?=aa o->
  (∀t,Operand.tmp t∈o.op.operands->ym c (k+i) t all 0=af)/\∀g b,o.guard=aa (g,b)->gw c (k+i) g=af
 |[],_,_,i,o,a=>by grind
 | e::l,k,h,i,o,a=>by
  simp only[LF,bg]at h
  cases i with
  |zero=>
   simp only[List.getElem?_cons_zero,aZ]at a;subst a;refine⟨λt d=>?_,λg b f=>?_⟩
   ·exact bY.1 h.1.1 (.tmp t) (by simpa using d)
   grind
  |succ i=>
   have:=vA l (k+1) h.2 i o (by simpa using a)
   grind
theorem vR:∀(l:List aR)(m:Nat),DS l m=af->(∀(i:Nat)(o:aR)(t:Tmp),l[i]?=aa o->o.dst=aa t->m.testBit t=aj)/\
  ∀(i j:Nat)(o a:aR)(t:Tmp),l[i]?=aa o->l[j]?=aa a->o.dst=aa t->a.dst=aa t->i=j
 |[],_,_=>⟨λi o t h=>by grind,λi j o a t h=>by grind⟩
 | x::l,m,h=>by
  cases b:x.dst with
  |none=>
   simp only[DS,b]at h;obtain⟨c,e⟩:=vR l m h
   grind
  |some d=>
   simp only[DS,b,bg,cK]at h;obtain⟨c,e⟩:=vR l _ h.2
   grind
theorem KV(h:Qd U=af):FL U (gw (l5 U))/\Px U/\(Region.departs U=af->(Region.linearise .gc U 0).length=U.size):=by
 simp only[Qd,bg]at h;obtain⟨⟨⟨D,E⟩,I⟩,z⟩:=h;have l:Px U:=λi o a e d=>by
  have:=Bu U.toList 0 D i o (by simpa using a) e d;rwa[bJ]at this
 have f:=aaZ l;have x:∀j i,gw (l5 U) j i=af->i<j:=by
  intro j
  induction j using fj with
  |_ j m=>
   intro i s;obtain⟨o,a,e,d,c,hh⟩:=(f j i).1 s;have:=l.lt a d c;rcases hh with hh|hh
   ·omega
   ·have:=m _ this i hh;omega
 refine⟨⟨x,?_,?_,?_,?_,?_⟩,l,?_⟩
 ·intro k
  induction k using fj with
  |_ k m=>
   intro j i g A;obtain⟨o,a,e,d,c,hh⟩:=(f k j).1 g;refine(f k i).2 ⟨o,a,e,d,c,.inr ?_⟩;rcases hh with rfl|hh
   ·exact A
   ·exact m _ (l.lt a d c) j i hh A
 ·intro L C q j
  induction j using fj generalizing q with
  |_ j m=>
   intro p r i s;obtain⟨o,a,e,d,c,hh⟩:=(f j i).1 s;have y:=C.ahB q j p r o a e d c;rcases hh with rfl|hh
   ·exact y
   ·obtain⟨G,B,rfl⟩:=List.append_of_mem y;exact ey _ (m _ (l.lt a d c) G (B++j::p) (by rw[r];simp) i hh)
 ·intro j o t a v i u n F;have g:=(vA U.toList 0 z j o (by simpa using a)).1 t v;rw[bJ]at g;have:=yp U.toList 0 g i u (by simpa using n) F;rwa[bJ]at this
 ·intro j o i b a H;have g:=(vA U.toList 0 z j o (by simpa using a)).2 i b H;rwa[bJ]at g
 ·intro i j o u t a n v w;exact(vR U.toList 0 E).2 i j o u t (by simpa using a) (by simpa using n) v w
 grind
theorem wj(l:jx P){b:fO}(e:uo P gl b):∀{d c:Code},Part d c->fN c=af->qG P gl b d:=by
 have o:∀c,fN c=af->qG P gl b c:=by
  intro c h j f g;subst g;obtain⟨k,m,i⟩:=KV h;exact Xy l e k m i j f rfl
 intro d c n
 induction n with
 |refl=>grind
 |aeY _ a=>simp_all[fN]
 |agL _ a=>simp_all[fN]
 |ads _ a=>simp_all[fN]
 |adq _ a=>simp_all[fN]
 |block _ a=>grind[fN]
 |loop _ a=>grind[fN]
theorem BE(b:jx P):IV P gl:=λ_ a _ _ c h=>wj b a c h
def iF(a:Func):Bool:=match a.body with|some c=>fN c|none=>af
theorem D6(i:jx P)(h:∀(f:bW) (a:Func),P.funcs[f]?=aa a->iF a=af):MJ P gl:=λj b f a c d g e k=>by grind[wj,iF]
end
variable{b:Bool}{A:Type}
section
variable {α:Type}
def Ref(a x:Bool)(b:Option α)(K:α->Bool):Prop:=x=a\/ ∃r,b=aa r/\x=K r
theorem Ref.bad{a:Option α}{K:α->Bool}:Ref b b a K:= .inl rfl
theorem Ref.of{x:Bool}{a:Option α}{K:α->Bool}{r:α}(h:a=aa r)(c:x=K r):Ref b x a K:= .inr ⟨r,h,c⟩
theorem mD(n:Nat)(c:Nat->Bool):r5 n c=c n:=by cases n<;>rfl
theorem aby(n:Int)(c:Int->Bool):af6 n c=c n:=by
 cases n with
 |ofNat n=>exact mD n λn=>c (.ofNat n)
 |negSucc n=>exact mD n λn=>c (.negSucc n)
theorem Nx(a:Option aJ)(K:Option aJ->Bool):Sn a K=K a:=by
 rcases a with _|⟨b,o,s⟩
 ·rfl
 ·show r5 b (λb=>r5 o λo=>K (aa ⟨b,o,s⟩))=_;rw[mD,mD]
theorem mE(v:ag)(K:ag->Bool):ub v K=K v:=by
 cases v with
 |int k n=>exact aby n λn=>K (aC k n)
 |pointer a=>exact Nx a λa=>K (.pointer a)
 |slice a n c=>
  show Sn a (λa=>r5 n λn=>r5 c λc=>K (ae a n c))=_;rw[Nx,mD,mD]
 |_=>rfl
theorem yw{x:Option α}{K:α->Bool}{c:Option A}{d:A->Bool}(h:∀a,x=aa a->Ref b (K a) c d):Ref b (TM b x K) c d:=by
 cases x with
 |none=>exact .bad
 |some a=>exact h a rfl
theorem rY{a x y:Bool}{c:Option A}{d:A->Bool}(e:b=af->Ref a x c d)(f:b=aj->Ref a y c d):Ref a (oj b x y) c d:=by
 cases b with
 |true=>exact e rfl
 |false=>exact f rfl
theorem Di(l:List ag):∀(K:List ag->Bool),Dh l K=K l:=by
 induction l with
 |nil=>intro K;rfl
 |cons a l b=>intro K;exact b λr=>K (a::r)
theorem BK(b:eA)(K:eA->Bool):Ny b K=K b:=by
 cases b with
 |cells cs t a c=>exact Di cs λcs=>K (.cells cs t a c)
 |map d=>rfl
 |loop=>rfl
theorem KL(u:ek)(h:au)(K:au->Bool):aaU u h K=K (u.app h):=by
 cases u with
 |no=>rfl
 |set k b=>show aao k b h K=_;unfold aao;rw[BK,HT.kC];rfl
 |push b=>show DU b h K=_;unfold DU;rw[BK,HT.kC,mD];rfl
 |move k b=>show RH k b h K=_;unfold RH;rw[BK,HT.kC,HT.kC,mD];rfl
 |all a=>rfl
theorem XW(a b:Int):adw a b=(a==b):=by
 cases a with
 |ofNat m=>cases b with
  |ofNat n=>show dk m n=_;rw[Bool.eq_iff_iff];simp[beq_eq];omega
  |negSucc n=>show aj=_;rw[Bool.eq_iff_iff];simp
 |negSucc m=>cases b with
  |ofNat n=>show aj=_;rw[Bool.eq_iff_iff];simp
  |negSucc n=>show dk n m=_;rw[Bool.eq_iff_iff];simp[beq_eq];omega
end
variable{P:aO}
section
def A7(cx:Cx)(cf:fO):Prop:=∀f a h K,Ref cx.bad (cx.cf f a h K) (cf f a h) λr=>K r.1 r.2
noncomputable abbrev Wz(h:au)(K:ag->au->Bool)(r:ag×ek):Bool:=K r.1 (r.2.app h)
theorem Oq{r:Option (ag×ek)}{h:au}{K:ag->au->Bool}{a:Option (ag×ek)}(d:∀x,r=aa x->a=aa x):Ref b (UU b r h K) a (Wz h K):=by
 unfold UU;refine yw λx c=> .of (d x c) ?_;obtain⟨v,u⟩:=x;show aaU u h (λh=>ub v λv=>K v h)=_;rw[KL,mE]
theorem AA{cf:fO}{ρ:bm->ag}{h:au}(g:eh q=aj):ia P mZ ρ q h=ia P cf ρ q h:=by
 obtain⟨dst,d,ty,pos,after,guard⟩:=q
 cases d<;>try rfl
 rename_i c;obtain⟨a,e,i⟩:=c
 cases a with
 |value f=>simp[eh]at g
 |invoke r m=>rfl
 |builtin b=>cases b<;>rfl
theorem Hb{cf:fO}{ρ:bm->ag}{h:au}(a:eh q=aj):fK P mZ ρ q h=fK P cf ρ q h:=by
 unfold fK;rw[AA a]
variable {cx:Cx} {cf:fO} {ρ:bm->ag} {h:au} {K:ag->au->Bool} {dst:Option Tmp} {ty:aF} {pos:String} {after:Array Edge} {guard:Option (Nat×Bool)}
theorem Sy{o:aR}(b:eh o=aj):Ref cx.bad (gen cx o ρ h K) (fK cx.P cf ρ o h) (Wz h K):=
 Oq λx a=>by rw[<-Hb b];exact a
theorem Ud{K:Fn->Array ag->Array ag->Bool}{d:Option A}{g:A->Bool}(h:∀f a c,v=aN f a c->Ref b (K f a c) d g):Ref b (funcF v b K) d g:=by
 rcases NK v b K with⟨e,_⟩|⟨f,a,c,e,i⟩
 ·rw[e];exact .bad
 ·rw[i];exact h f a c e
end
section
variable {cx:Cx} {cf:fO} {ρ:bm->ag} {h:au} {K:ag->au->Bool} {dst:Option Tmp} {ty:aF} {pos:String} {after:Array Edge} {guard:Option (Nat×Bool)}
theorem Gv:∀(l:List bm)(K:List ag->Bool),fArgs ρ l K=K (l.map ρ)
 |[],_=>rfl
 |x::l,K=>by
  show ub (ρ x) (λv=>fArgs ρ l λr=>K (v::r))=_;rw[mE,Gv l];rfl
theorem T5{a:Array ag}(h:Df a=af):a.size=0:=by
 unfold Df at h;rw[<-gn];generalize a.toList=l at h
 cases l with
 |nil=>rfl
 |cons x l=>cases h
theorem Xj(l:A7 cx cf){c:Call}:Ref cx.bad (ado c cx ⟨dst,.call c,ty,pos,after,guard⟩ ρ h K) (fK cx.P cf ρ ⟨dst,.call c,ty,pos,after,guard⟩ h) (Wz h K):=by
 obtain⟨j,a,e⟩:=c
 cases j with
 | value f=>
  show Ref cx.bad (KR f a e cx ⟨dst,.call ⟨.value f,a,e⟩,ty,pos,after,guard⟩ ρ h K) _ _;unfold KR;refine Ud λq first d v=>?_
  cases q with
  | func g=>
   show Ref cx.bad (oj (cQ g YB) (fArgs ρ a.toList λi=>Dh (first.toList++i++d.toList) λi=>cx.cf g i h K) cx.bad) _ _;refine rY (λp=>?_) (λ_=> .bad);have p:g<YB:=by simpa[blt_eq]using p
   rw[Gv,Di];rcases l g (first.toList++a.toList.map ρ++d.toList) h K with n|⟨r,t,o⟩
   ·rw[n];exact .bad
   ·refine .of (r:=(r.1,.all r.2)) ?_ o;show ia cx.P cf ρ ⟨dst,.call ⟨.value f,a,e⟩,ty,pos,after,guard⟩ h=_
    simp_all[ia,wQ]
  | yield k=>
   show Ref cx.bad (oj (Df first) (oj (Df d) (fArgs ρ a.toList λi=>r5 (YB+k) λs=>cx.cf s i h K) cx.bad) cx.bad) _ _;refine rY (λt=>rY (λo=>?_) (λ_=> .bad)) (λ_=> .bad);rw[Gv,mD];rcases l (YB+k) (a.toList.map ρ) h K with n|⟨r,w,u⟩
   ·rw[n];exact .bad
   ·refine .of (r:=(r.1,.all r.2)) ?_ u;show ia cx.P cf ρ ⟨dst,.call ⟨.value f,a,e⟩,ty,pos,after,guard⟩ h=_
    simp_all[T5,ia,wQ]
  |method _=>exact .bad
  |methodOf _ _=>exact .bad
  |via _ _ _ _=>exact .bad
 |invoke r m=>exact .bad
 |builtin b=>exact Sy rfl
theorem rj:Ref cx.bad (K8 cx q ρ h K) (fK cx.P cf ρ q h) (Wz h K):=by
 refine yw λv a=> .of (r:=(v,.no)) ?_ (mE v _);unfold fK;rw[a]
theorem Fo(b:A7 cx cf)(o:aR):Ref cx.bad (opF o.op cx o ρ h K) (fK cx.P cf ρ o h) (Wz h K):=by
 obtain⟨dst,e,ty,pos,after,guard⟩:=o
 cases e with
 |call c=>exact Xj b
 |move x=>exact .of (r:=(ρ x,.no)) rfl (mE _ _)
 |assign x=>exact .of (r:=(ρ x,.no)) rfl (mE _ _)
 |load t x=>
  refine yw λv d=> .of (r:=(v,.no)) ?_ (mE v _);show(match aS cx.P t h (ρ x)with|some v=>aa (v,ek.no)|none=>_)=_;rw[d]
 |store t a x=>exact Oq λr f=>f
 |pick _ _ _=>exact rj
 |nilCheck _=>exact rj
 |binOp _ _ _ _ _=>exact rj
 |unOp _ _ _=>exact rj
 |fieldAddr _ _ _=>exact rj
 |field _ _ _=>exact rj
 |indexAddr _ _ _=>exact rj
 |index _ _ _=>exact rj
 |go _=>exact .bad
 |defer _=>exact .bad
 |panic _=>exact .bad
 |send _ _=>exact .bad
 |recv _ _ _=>exact .bad
 |select _ _=>exact .bad
 |_=>exact Sy (o:=⟨dst,_,ty,pos,after,guard⟩) rfl
end
section
variable {cx:Cx} {cf:fO}
def kD(n:Nat)(e:Env)(l:List ag):Prop:=l.length=n/\n<=256/\∀t,Env.get t e=l.getD t undef
theorem Gr{e:Env}{l:List ag}(b:kD n e l)(a:Nat->Bool):Sl a e=ev a l:=by
 funext x
 cases x with
 |tmp t=>exact b.2.2 t
 |const v=>
  show abf (plain v) v qd=if plain v then v else qd
  cases plain v<;>rfl
 |global g=>
  show abf (a g) _ qd=if a g then _ else qd
  cases a g<;>rfl
 |func f=>rfl
theorem Ci{e:Env}{l:List ag}(a:kD n e l)(b:Option Tmp)(v:ag):∃i,kD n i (lR l b v)/\∀(K:Env->Bool),zk n b e v K=K i:=by
 cases b with
 |none=>exact⟨e,a,λK=>rfl⟩
 | some d=>
  cases c:cQ d n with
  | true=>
   have f:d<n:=by simpa[blt_eq]using c
   refine⟨Env.new d e v,⟨by rw[pv];exact a.1,a.2.1,λt=>?_⟩,λK=>?_⟩
   ·rw[Env.Lb (cD f a.2.1),gD];split
    ·next g=>subst g;rw[JO (by rw[a.1];exact f)];rfl
    ·next g=>rw[LP (λk=>g (aG k).symm),<-gD];exact a.2.2 t
   ·show oj (cQ d n) (Env.put d e v K) (K e)=_;rw[c];exact Env.put_eq d e v K
  | false=>
   have j:n<=d:=by
    rcases db d n with h|h
    ·have:cQ d n=af:=by simpa[blt_eq]using h
     rw[c]at this;cases this
    ·exact h
   refine⟨e,?_,λK=>?_⟩
   ·have:lR l (aa d) v=l:=by simp only[lR];exact List.set_eq_of_length_le (by rw[a.1];exact j)
    rw[this];exact a
   ·show oj (cQ d n) (Env.put d e v K) (K e)=_;rw[c];rfl
theorem Uf(v:ag)(a:Bool)(f:Bool->Bool)(c:Bool):GH v a f c=a\/(∃b,v=ah b/\GH v a f c=f b)\/ ∃d,v=av d/\GH v a f c=c:=by
 cases v with
 |bool b=>exact .inr (.inl ⟨b,rfl,rfl⟩)
 |tuple d=>exact .inr (.inr ⟨d,rfl,rfl⟩)
 |_=>exact .inl rfl
theorem Pn{e:Env}{l:List ag}(q:kD n e l){ops:Array aR}(o:aR)(c f a:Bool):
  HN ops e c o.guard f a=c\/(jX ops l o=aa af/\HN ops e c o.guard f a=f)\/(jX ops l o=aa aj/\HN ops e c o.guard f a=a):=by
 unfold jX
 cases s:o.guard with
 |none=>exact .inr (.inl ⟨rfl,rfl⟩)
 | some g=>
  obtain⟨j,h⟩:=g
  cases m:(ops[j]?).bind (·.dst)with
  |none=>
   left;show TM c (XQ ops j) _=c;unfold XQ;rw[m];rfl
  | some d=>
   have p:HN ops e c (aa (j,h)) f a=GH (Env.get d e) c (λb=>Bool.rec (motive:=λ_=>Bool) (oj h a f) (oj h f a) b) a:=by
    show TM c (XQ ops j) _=_;unfold XQ;rw[m];rfl
   rw[p];simp only[m];rw[q.2.2 d];rcases Uf (l.getD d undef) c (λb=>Bool.rec (motive:=λ_=>Bool) (oj h a f) (oj h f a) b) a with i|⟨b,i,k⟩|⟨r,i,k⟩
   ·exact .inl i
   ·rw[k];simp only[i]
    cases b<;>cases h<;>first|exact .inr (.inl ⟨rfl,rfl⟩)|exact .inr (.inr ⟨rfl,rfl⟩)
   ·rw[k];simp only[i];exact .inr (.inr ⟨trivial,trivial⟩)
def PN{b:Type}(n:Nat)(c x:Bool)(d:Option (List ag×b))(K:Env->b->Bool):Prop:=x=c\/ ∃l a e,d=aa (l,a)/\kD n e l/\x=K e a
theorem Hc(c:A7 cx cf){ops:Array aR}:∀(a:List aR){e:Env}{l:List ag}{h:au}{K:Env->au->Bool},kD cx.n e l->PN cx.n cx.bad (Oo cx ops a e h K) (pV cx.P cx.gl cf ops a l h) K
 |[],e,l,h,K,b=> .inr ⟨l,h,e,rfl,b,rfl⟩
 | o::a,e,l,h,K,b=>by
  show PN cx.n cx.bad (aeD cx ops o e h λe h=>Oo cx ops a e h K) _ K;unfold aeD;rcases Pn b o cx.bad (opF o.op cx o (Sl cx.gl e) h λv h=>zk cx.n o.dst e v λe=>Oo cx ops a e h K) (zk cx.n o.dst e undef λe=>Oo cx ops a e h K)with d|⟨d,g⟩|⟨d,g⟩
  ·exact .inl d
  ·rw[g];rcases Fo c (ρ:=Sl cx.gl e) (h:=h) (K:=λv h=>zk cx.n o.dst e v λe=>Oo cx ops a e h K) o with f|⟨⟨v,u⟩,f,m⟩
   ·exact .inl f
   ·rw[m];rw[Gr b]at f;obtain⟨k,j,i⟩:=Ci b o.dst v;show PN cx.n cx.bad (zk cx.n o.dst e v λe=>Oo cx ops a e (u.app h) K) _ K;rw[i];simp only[pV,d,f];exact Hc c a j
  ·rw[g];obtain⟨k,j,i⟩:=Ci b o.dst undef;rw[i];simp only[pV,d];exact Hc c a j
end
end Go.Ab
end
