/- Whatever is handed to it, in whatever memory, on every schedule, FunctionSingle returns true. No condition. -/
import Derived.Test.YtnlccnpbjeiccaaGreatDoorPart5
import Derived.Test.YtnlccnpbjeiccaaGreatDoorPart2
import Derived.OpenShut
import Derived.MakeChecks
import Derived.FnData
import Derived.ChangeSame
import Derived.Test.YtnlccnpbjeiccaaGreatDoorRows
import Derived.ProofKit
import Derived.LaidLaws
import Derived.LaidHandle
import Derived.ChangeVars
import Derived.Test.YtnlccnpbjeiccaaGreatDoorCards
import Derived.Test.YtnlccnpbjeiccaaGreatDoorTie
import Derived.WalkKit
import Derived.Carry
import Derived.SevenTiedAt
set_option linter.unusedVariables false
set_option linter.unusedSimpArgs false
set_option maxRecDepth 100000
open Bool renaming and_eq_true → bg, false → aj, true → af
open Go renaming Addr → aJ, FuncId → bW, Program → aO, TypeId → aF, Value → ag, World → aU
open Go.DataW renaming trod → fv, trod_int → nJ, weightsEach → ke
open Go.Value renaming agg → al, bool → ah, slice → ae, string → bt
open List renaming all_append → gH, all_eq_true → bY, append_nil → cp, length_map → aH, map_cons → eK, mem_append_left → ey, mem_cons → cW, mem_cons_of_mem → cF, mem_cons_self → cj, mem_map → cI
open List.cons renaming injEq → gI
open Option renaming map_eq_some_iff → bo, some → aa
open Option.some renaming inj → aG, injEq → aZ
section
namespace Go.Proofs.YtnlccnpbjeiccaaGreatDoor
open Go Go.Ab Go.Num
theorem XF:uu Tryz.prog 13 [] (ah af):=px sx aev (n:=2000) (by kernel_rfl) (by kernel_rfl)
end Go.Proofs.YtnlccnpbjeiccaaGreatDoor
end
section
namespace Go.Proofs.YtnlccnpbjeiccaaGreatDoor
open Go Go.Ab Go.RowKit
theorem GY:pH Tryz.prog gl1 296 qy:=Eh (fn:=(Tryz.prog.funcs[296]?).getD default) (by kernel_rfl) (by kernel_rfl) (by kernel_rfl) (by kernel_rfl) (by kernel_rfl)
theorem EU:pH Tryz.prog gl1 290 nq:=BS (fn:=(Tryz.prog.funcs[290]?).getD default) (by kernel_rfl) (by kernel_rfl) (by kernel_rfl) (by kernel_rfl) (by kernel_rfl)
theorem ab0:sM Tryz.prog gl1 agm:=oY (rE XF (by kernel_rfl) vP) (sT GY (sT EU I6))
theorem Rs:pH Tryz.prog gl1 146 Ml:=ZN acM (f5:=Tryz.f146) Tryz.func146 (by kernel_rfl)
theorem YS:vc Tryz.prog gl1 prS:=LN Rs (SX ab0)
end Go.Proofs.YtnlccnpbjeiccaaGreatDoor
end
section
namespace Go.Proofs.YtnlccnpbjeiccaaGreatDoor
open Go Go.Ab Go.ChangeShapes Go.RowKit
variable{n:Nat}{J:gC}{s:List UInt8}{v:ag}{h:au}
section
theorem co3:Tryz.prog.cellsOf 3=1:=by kernel_rfl
theorem co9:Tryz.prog.cellsOf 9=1:=by kernel_rfl
theorem ahy:Tryz.prog.cellsOf 22=1:=by kernel_rfl
theorem ahz:Tryz.prog.cellsOf 24=4:=by kernel_rfl
theorem ahA:Tryz.prog.cellsOf 42=1:=by kernel_rfl
theorem afX:Tryz.prog.cellsOf 44=2:=by kernel_rfl
theorem afY:Tryz.prog.cellsOf 46=4:=by kernel_rfl
theorem afW:Tryz.prog.cellsOf 240=1:=by kernel_rfl
theorem ahv:Tryz.prog.bytesOf 46=40:=by kernel_rfl
theorem QE{a c:Type}{p:a->c}{P:a->Prop}:∀{l:List c},(∀x∈l,∃q,x=p q/\P q)->∃k:List a,l=k.map p/\∀q∈k,P q
 |[],_=>⟨[],rfl,λ_ h=>by cases h⟩
 | x::l,h=>by
  obtain⟨q,rfl,e⟩:=h x (cj ..);obtain⟨k,rfl,f⟩:=QE λx d=>h x (cF _ d);exact⟨q::k,rfl,λy b=>by
   rcases cW.1 b with rfl|b
   ·exact e
   ·exact f y b⟩
def WD(W:aU)(q:il×ag):Prop:=I4 W q.2 4 (q.1.bB.map iU)/\q.1.bB.length<=281474976710656/\q.1.f.length<=281474976710656/\∀a∈q.1.bB,a.w.length<=281474976710656
section
variable {H:Type} {enc:aF×ag->H} {W:aU} {held:Bool}
theorem Mq{t:aF}{y:DataW H×List MemPlace}{l:List UInt8}{p:List MemPlace}(e:y=(.lit (.string l),p))(a:(y.1.weights Tryz.prog t).all (· <=reachBytes)=af):l.length<=281474976710656:=by
 subst e;have h:l.length<=reachBytes:=by simpa[DataW.weights]using a
 unfold reachBytes at h;omega
theorem WT{cs:List ag}{y:DataW H×List MemPlace}(h:fv enc Tryz.prog W 0 (λ_=>af) held n 46 cs=aa y)(v:(y.1.weights Tryz.prog 46).all (· <=reachBytes)=af):∃q:eC,cs=iU q/\q.w.length<=281474976710656:=by
 obtain⟨r,m,_,rfl,l,a,b⟩:=DataW.trod_struct Tryz.underlying46 h;rw[afY]at l;have a:r.length=4:=a
 match r,a,cs,l with
 |[k,z,g,p],_,[f,c,e,d],_=>
  obtain⟨i,B,_,_⟩:=nJ (x:=k) Tryz.underlying3 (show fv enc Tryz.prog W 0 (λ_=>af) held m 3 (([f,c,e,d].drop 0).take (Tryz.prog.cellsOf 3))=aa k from b 0 _ rfl);obtain⟨o,j,_,_⟩:=nJ (x:=z) Tryz.underlying3 (show fv enc Tryz.prog W 0 (λ_=>af) held m 3 (([f,c,e,d].drop 1).take (Tryz.prog.cellsOf 3))=aa z from b 1 _ rfl);obtain⟨s,A,w,_⟩:=DataW.trod_string (x:=g) Tryz.underlying9 (show fv enc Tryz.prog W 0 (λ_=>af) held m 9 (([f,c,e,d].drop 2).take (Tryz.prog.cellsOf 9))=aa g from b 2 _ rfl);obtain⟨t,u,_,_⟩:=nJ (x:=p) Tryz.underlying3 (show fv enc Tryz.prog W 0 (λ_=>af) held m 3 (([f,c,e,d].drop 3).take (Tryz.prog.cellsOf 3))=aa p from b 3 _ rfl);simp only[co3,co9,List.drop,List.take,gI,and_true]at B j A u;subst B;subst j;subst A;subst u;simp only[DataW.weights,Tryz.underlying46,ke,List.map,cp,gH,bg]at v;have C:=Mq w v.2.2.1;exact⟨⟨i,o,s.data.toList,t⟩,rfl,C⟩
theorem Ru{cs:List ag}{y:DataW H×List MemPlace}(h:fv enc Tryz.prog W 0 (λ_=>af) held n 44 cs=aa y)(a:(y.1.weights Tryz.prog 44).all (· <=reachBytes)=af):∃q:il×ag,cs=rG q/\WD W q:=by
 obtain⟨t,u,m,rfl,d,k,i⟩:=trod_struct2 Tryz.underlying44 h;rw[afX]at d
 match cs,d with
 |[x,j],_=>
  obtain⟨s,f,e,_⟩:=DataW.trod_string Tryz.underlying9 k;simp only[DataW.weights,Tryz.underlying44,ke,List.map,cp,gH,bg]at a;obtain⟨v,w,c,r,o,b⟩:=JS (P:=Tryz.prog) (p:=λcs=>∃q:eC,cs=iU q/\q.w.length<=281474976710656) Tryz.underlying42 afY (by decide) (λn cs y h a=>WT h a) i a.2;simp only[co9,ahA,List.drop,List.take,gI,and_true]at f c;subst f;subst c;obtain⟨l,rfl,g⟩:=QE o;refine⟨(⟨s.data.toList,l⟩,j),rfl,r,?_,Mq e a.1,g⟩;rw[ahv,aH]at b;unfold reachBytes at b;show l.length<=_;omega
theorem Lj{cs:List ag}{y:DataW H×List MemPlace}(h:fv enc Tryz.prog W 0 (λ_=>af) held n 24 cs=aa y)(b:(y.1.weights Tryz.prog 24).all (· <=reachBytes)=af):
  ∃(k s:Int)(i:List UInt8)(v:ag)(o:List (il×ag)),cs=[aE k,aE s,strOf i,v]/\i.length<=281474976710656/\I4 W v 2 (o.map rG)/\∀q∈o,WD W q:=by
 obtain⟨A,m,_,rfl,e,a,d⟩:=DataW.trod_struct Tryz.underlying24 h;rw[ahz]at e;have a:A.length=4:=a
 match A,a,cs,e with
 |[w,D,t,z],_,[j,f,g,c],_=>
  obtain⟨k,F,_,_⟩:=nJ (x:=w) Tryz.underlying3 (show fv enc Tryz.prog W 0 (λ_=>af) held m 3 (([j,f,g,c].drop 0).take (Tryz.prog.cellsOf 3))=aa w from d 0 _ rfl);obtain⟨s,u,_,_⟩:=nJ (x:=D) Tryz.underlying3 (show fv enc Tryz.prog W 0 (λ_=>af) held m 3 (([j,f,g,c].drop 1).take (Tryz.prog.cellsOf 3))=aa D from d 1 _ rfl);obtain⟨i,E,C,_⟩:=DataW.trod_string (x:=t) Tryz.underlying9 (show fv enc Tryz.prog W 0 (λ_=>af) held m 9 (([j,f,g,c].drop 2).take (Tryz.prog.cellsOf 9))=aa t from d 2 _ rfl);simp only[DataW.weights,Tryz.underlying24,ke,List.map,cp,gH,bg]at b;obtain⟨v,I,B,r,G,_⟩:=JS (P:=Tryz.prog) (x:=z) (p:=λcs=>∃q:il×ag,cs=rG q/\WD W q) Tryz.underlying22 afX (by decide) (λn cs y h b=>Ru h b) (show fv enc Tryz.prog W 0 (λ_=>af) held m 22 (([j,f,g,c].drop 3).take (Tryz.prog.cellsOf 22))=aa z from d 3 _ rfl) b.2.2.2;simp only[co3,co9,ahy,List.drop,List.take,gI,and_true]at F u E B;subst F;subst u;subst E;subst B;obtain⟨l,rfl,e⟩:=QE G;exact⟨k,s,i.data.toList,c,l,rfl,Mq C b.2.2.1,r,e⟩
end
section
variable {W:aU}
theorem TG(q:eC):(iU q).all Go.Ab.bare=af:=rfl
theorem acP{v':ag}(h:cz J v v'):dx J [strOf s,v] [strOf s,v']:= .cons (.string _) (.cons h (.nil J))
theorem JA:∀(a:List (il×ag)),(∀q∈a,WD W q)->∀{c:gC}{h:au},zW c h W->
  ∃(d:gC)(m:au)(b:List (il×ag)),zW d m W/\c.le d/\Ok h m/\b.length=a.length/\b.map (·.1)=a.map (·.1)/\(∀p∈b,kS m p.2 p.1.bB)/\
   ∀(k:Nat) r s,(b.map rG)[k]?=aa r->(a.map rG)[k]?=aa s->dx d r s
 |[],_,c,h,i=>⟨c,h,[],i,c.le_refl,Ok.refl i.wf,rfl,rfl,λ_ f=>absurd f (by simp),λk v q h=>absurd h (by simp)⟩
 | q::a,u,c,h,i=>by
  obtain⟨r,_⟩:=u q (cj ..);obtain⟨J,g,v,A,G,z,C,I⟩:=i.row (e:=46) r (rs:=q.1.bB.map iU) rfl (λk r s g j=>by
    rw[g]at j;obtain rfl:=aG j;rw[List.getElem?_map]at g;obtain⟨x,_,rfl⟩:=bo.1 g;exact dx.xm (TG x))
  obtain⟨t,j,b,B,y,w,D,f,F,H⟩:=JA a (λq f=>u q (cF _ f)) A;refine⟨t,j,(q.1,v)::b,B,gC.le_trans G y,z.trans w,by simp[D],by simp[f],λp o=>?_,λk v' E n l=>?_⟩
  ·rcases cW.1 o with rfl|o
   ·exact kS.ok I w
   ·exact F p o
  ·cases k with
   |zero=>
    simp only[eK,List.getElem?_cons_zero,aZ]at n l;subst n;subst l;exact acP (C.mono y)
   |succ k=>exact H k v' E (by simpa using n) (by simpa using l)
theorem NZ(i:zW J h W){v:ag}{b:List (il×ag)}(r:I4 W v 2 (b.map rG))(x:∀q∈b,WD W q)(E:∀a,v=ae (aa a) 0 0->a.spot=none/\∃cs t w,W.heap[a.block]?=aa (.cells cs t w)):
  ∃c d v',zW c d W/\J.le c/\Ok h d/\cz c v' v/\eY d v' (b.map (·.1)):=by
 obtain⟨G,H,g,m,A,k,s,l,z,C⟩:=JA b x i;obtain⟨f,y,v',n,F,j,u,o,B⟩:=m.Zi (e:=44) (rs:=g.map rG) r (by simp[s]) C E;exact⟨f,y,v',n,gC.le_trans A F,k.trans j,u,g,l,o,λp D=>kS.ok (z p D) j,B⟩
end
end
end Go.Proofs.YtnlccnpbjeiccaaGreatDoor
end
section
namespace Go.Proofs.YtnlccnpbjeiccaaGreatDoor
open Go Go.ChangeShapes Go.WideShapes Go.ChangeAt Go.RowKit
theorem Zx:ownKnob Tryz.prog.godebug=none:=by kernel_rfl
abbrev rm{H:Type}:List (String×DataW H):=[("math/bits.deBruijn32tab",Rows.laid_math_bits_deBruijn32tab),("math/bits.deBruijn64tab",Rows.laid_math_bits_deBruijn64tab),("internal/strconv.uint64pow10",Rows.laid_internal_strconv_uint64pow10)]
def aes:DataW Unit->ag
 |.lit (.int k n)=> .int k n
 |_=>undef
def Gh:DataW Unit->Array ag
 |.agg l=>(l.map aes).toArray
 |_=> #[]
def X2(c:Array ag):Obj->Obj
 |.cells _ t a=> .cells c t a
 |o=>o
noncomputable def Jy(a:Os):aU:=
 { World.holding Tryz.prog a ⟨#[],#[],[]⟩with heap:=(((World.holding Tryz.prog a ⟨#[],#[],[]⟩).heap.modify 2 (X2 (Gh Rows.laid_math_bits_deBruijn32tab))).modify 3 (X2 (Gh Rows.laid_math_bits_deBruijn64tab))).modify 1 (X2 (Gh Rows.laid_internal_strconv_uint64pow10)) }
theorem Iy(b:Os)(a:Array ag):laidMetH Tryz.prog rm ((Jy b).forCall (λ_ _=>0) ⟨#[],a,[]⟩).memory:=
 laidMetH_of_parts (laidMet_of_run' 24 (by kernel_rfl) (by kernel_rfl)) (by kernel_rfl)
end Go.Proofs.YtnlccnpbjeiccaaGreatDoor
end
section
namespace Go.Proofs.YtnlccnpbjeiccaaGreatDoor
open Go Go.Ab Go.ChangeShapes Go.WideShapes Go.RowKit
variable{n:Nat}{v:ag}
section
theorem GO{P:aO}{w:aU}:∀{l:List (String×DataW Unit)}{c:List MemPlace},DataW.LaidVars P w l c->∀n d,(n,d)∈l->
  ∃g t cs a p,P.globalNamed n=aa g/\(P.globals[g]?).map (·.type)=aa t/\w.var? P n=aa cs/\fv (λ_=>()) P w 0 (λ_=>af) aj a t cs.toList=aa (d,p)
 |[],_,_,_,_,b=>by cases b
 | (s,o)::r,c,h,n,d,b=>by
  obtain⟨g,t,cs,a,p,q,i,j,f,k,m,_⟩:=h;rcases cW.1 b with e|e
  ·cases e
   exact⟨g,t,cs,a,p,i,j,f,k⟩
  ·exact GO m n d e
theorem YQ:Rows.laid_internal_strconv_uint64pow10=(.agg ((List.range 20).map λi=>(.lit (.int .u64 ((10^i:Nat):Int)):DataW Unit)):DataW Unit):=by kernel_rfl
section
variable {W:aU}
theorem acq(j:laidMetH Tryz.prog rm W):∃cs t a,W.heap[1]?=some (.cells cs t a)/\∀s,kN s Pc 0 cs:=by
 rw[MakeChecks.laidMetH_plain _ _ _ (by kernel_rfl)]at j;obtain⟨F,l,_⟩:=j;obtain⟨g,t,cs,x,p,r,E,b,C⟩:=GO l "internal/strconv.uint64pow10" Rows.laid_internal_strconv_uint64pow10 (by simp[rm]);obtain rfl:=oI ((show Tryz.prog.globalNamed "internal/strconv.uint64pow10" = some 1 by kernel_rfl).symm.trans r);obtain rfl:=oI ((show(Tryz.prog.globals[1]?).map (·.type)=some 328 by kernel_rfl).symm.trans E);obtain⟨f,m,_,D,_,l,o⟩:=DataW.trod_array Tryz.underlying328 C;have w:f.map (·.1)=(List.range 20).map λi=>(.lit (.int .u64 ((10^i:Nat):Int)):DataW Unit):=by
  have:=(Prod.mk.inj D).1.symm.trans YQ;exact DataW.agg.inj this
 have d:∃t a,W.heap[1]?=some (.cells cs t a):=by
  simp only[World.var?,r,Option.bind_some]at b;split at b
  ·next c t a d=>obtain rfl:=oI b;exact⟨t,a,d⟩
  ·cases b
 obtain⟨t,a,d⟩:=d;refine⟨cs,t,a,d,λs k v h=>?_⟩;have e:k<20:=by
  have:=(List.getElem?_eq_some_iff.1 h).1;simpa[Pc]using this
 have b:v=uv (10^k):=by
  simp[Pc,List.getElem?_range e]at h;exact h.symm
 have n:=o k e;rw[afW,Nat.mul_one,gE (by omega)]at n;obtain⟨z,u,B,_⟩:=DataW.trod_int Tryz.underlying240 n;have q:(f.map (·.1))[k]?=some (.lit (.int .u64 ((10^k:Nat):Int))):=by rw[w];simp[List.getElem?_range e]
 rw[List.getElem?_map,gE (by omega:k<f.length),B]at q;have A:z=((10^k:Nat):Int):=by
  simpa using q
 subst A;have:cs.toList[k]?=some (.int .u64 ((10^k:Nat):Int)):=by
  have y:((cs.toList.drop k).take 1)[0]?=some (.int .u64 ((10^k:Nat):Int)):=by rw[u];rfl
  simpa using y
 refine⟨.int .u64 ((10^k:Nat):Int),by simpa using this,?_⟩;rw[b];exact .int _ _
theorem abL(c:laidMetH Tryz.prog rm W):∃a h,zW a h W/\Gl gl1 a/\za h:=by
 obtain⟨cs,t,f,b,e⟩:=acq c;refine⟨_,_,(ahF 1 W).push b (e _),λg d=>?_,t,aj,au.mg ⟨1,.nil⟩ _⟩;have:g=1:=by simpa[gl1]using d
 subst this;exact⟨_,gC.fB _ _ _,rfl,rfl,rfl⟩
theorem aad{k s:Int}{p:List UInt8}(b:Value.okWide Tryz.prog W .any n 24 (.agg #[aE k,aE s,strOf p,v]))(a:aJ)(e:v=ae (aa a) 0 0):a.spot=none/\∃cs t f,W.heap[a.block]?=aa (.cells cs t f):=by
 simp only[Value.okWide,Tryz.underlying24]at b;obtain⟨cs,h,_,w,i,_,q⟩:=b;obtain rfl:=Value.agg.inj h;obtain rfl:=aG ((show Tryz.prog.cellTypes Tryz.prog.depth 24=aa [3,3,9,22] by kernel_rfl).symm.trans i);obtain⟨u,o,g⟩:=q 3 v rfl;obtain rfl:22=u:=aG o;subst e;simp only[Cell.okWide,Cell.ok,Tryz.underlying22]at g;obtain⟨_,_,_,m,r,j,d,_⟩:=g;refine⟨m,?_⟩;unfold World.shape? at d;split at d
 ·next c t f l=>exact⟨c,t,f,l⟩
 ·cases d
end
end
variable{c:List ag}{f:bW}{F:Func}
section
section
variable {W:aU}
def Ldx(W:aU)(v:ag)(S:ag->au->Prop):Prop:=(∀v' h a,Ok h a->S v' h->S v' a)/\∀{c:gC}{h:au},zW c h W->∃b a v',zW b a W/\c.le b/\Ok h a/\cz b v' v/\S v' a
def Lds(W:aU)(e:List ag)(T:List ag->au->Prop):Prop:=∀{d:gC}{h:au},zW d h W->∃a c b,zW a c W/\d.le a/\Ok h c/\dx a b e/\T b c
theorem abU:Lds W [] λa _=>a=[]:=λ{b h} i=>⟨b,h,[],i,b.le_refl,Ok.refl i.wf,.nil _,rfl⟩
theorem X3{S:ag->au->Prop}{T:List ag->au->Prop}(a:Ldx W v S)(b:Lds W c T):Lds W (v::c) λe h=>∃x r,e=x::r/\S x h/\T r h:=λ{w h} i=>by
 obtain⟨t,u,x,l,q,j,n,s⟩:=a.2 i;obtain⟨d,p,r,m,g,f,o,k⟩:=b l;exact⟨d,p,x::r,m,gC.le_trans q g,j.trans f,.cons (n.mono g) o,x,r,rfl,a.1 _ _ _ f s,k⟩
def afq(v:ag)(h:au):Prop:=∃(M:cm)(a:Option aJ)(c:Nat),v=al ⟨cU M a M.aI.length c⟩/\Bnd M/\adU M/\eY h (ae a M.aI.length c) M.aI
variable {H:Type} {enc:aF×ag->H}
theorem abT{D:DataW H}{p:List MemPlace}(g:Value.okWide Tryz.prog W .any n 24 v)(u:DataW.Trod enc Tryz.prog W 0 (λ_=>af) af 24 v D p)(J:(D.weights Tryz.prog 24).all (· <=reachBytes)=af):Ldx W v afq:=by
 refine⟨λQ h R o s=>?_,λ{S h} i=>?_⟩
 ·obtain⟨M,a,c,e,b,N,r⟩:=s;exact⟨M,a,c,e,b,N,r.ok o⟩
 obtain⟨cs,rfl,_⟩:=okWide_struct Tryz.underlying24 g;obtain⟨K,u⟩:=u;obtain⟨k,s,w,Q,f,m,C,P,t⟩:=Lj u J;have m:cs = #[aE k,aE s,strOf w,Q]:=by
  rw[<-Array.toList_inj];exact m
 subst m;obtain⟨B,I,v',G,L,F,y,j⟩:=NZ i P t (aad g);obtain⟨O,z,A,_,_⟩:=id j;obtain⟨a,c,rfl⟩:=A.tB;have E:(O.map rG).length=(f.map (·.1)).length:=by rw[<-z,aH,aH]
 rw[E]at y j;refine⟨B,I,.agg ⟨cU ⟨k,s,w,f.map (·.1)⟩ a (f.map (·.1)).length c⟩,G,L,F,?_,⟨k,s,w,f.map (·.1)⟩,a,c,rfl,λx l=>?_,⟨C,λx l=>?_,λx l=>?_⟩,j⟩
 ·exact .agg rfl (mM.toList.2 (.cons (.int _ _) (.cons (.int _ _) (.cons (.string _) (.cons y (.nil _)))))).2
 ·obtain⟨q,d,rfl⟩:=cI.1 l;exact(t q d).2.1
 ·obtain⟨q,d,rfl⟩:=cI.1 l;exact(t q d).2.2.1
 ·obtain⟨q,d,rfl⟩:=cI.1 l;exact(t q d).2.2.2
theorem Uq(m:Tryz.prog.funcs[f]?=aa F)(b:F.body.isSome=af)(q:f<YB){a:Array ag}{T:List ag->au->Prop}(l:Lds W a.toList T)(p:laidMetH Tryz.prog rm W)
  (i:∀{h:au}{c:List ag}(_:za h)(_:Wf h),T c h->aX f c h (EQ h)):Calls Tryz.prog f a W λe d=>e = .returned (ah af)/\Below W.heap.size W d:=by
 obtain⟨t,C,k,v,n⟩:=abL p;obtain⟨y,z,c,g,s,j,o,u⟩:=l k;refine(Nb sx YS (i (n.ok j) g.wf u) q m b g (v.mono s) (args':=a) o).mono ?_;rintro e d ⟨x,A,B,w,rfl,⟨rfl,_⟩,r,_,b⟩
 cases r
 exact⟨rfl,b⟩
end
end
end Go.Proofs.YtnlccnpbjeiccaaGreatDoor
end
section
namespace Go.Proofs.YtnlccnpbjeiccaaGreatDoor
open Go Go.Ab Go.ChangeShapes Go.WideShapes Go.ChangeAt Go.RowKit
theorem Nc:(Rows.functionSingleRow.inPlace==Tryz.prog.inPlace 4)=af:=by kernel_rfl
theorem aa8:(Rows.functionSingleRow.unfollowed==Tryz.prog.unfollowed 4)=af:=by kernel_rfl
theorem aa7:(Rows.functionSingleRow.recurses==Tryz.prog.recurses 4)=af:=by kernel_rfl
theorem TR:(Rows.functionSingleRow.named==Tryz.prog.varsNamed 4)=af:=by kernel_rfl
theorem aa9:joinedFacts Tryz.prog 4 Tryz.f4 Rows.functionSingleSpec Rows.functionSingleRow=af:=by
 unfold joinedFacts;simp only[Nc,aa8,aa7,TR,Bool.and_true];kernel_rfl
theorem aed:Rows.functionSingleRow.wfByText (OpenSpec.ofChange Rows.functionSingleSpec)=af:=by kernel_rfl
theorem Xn:Tryz.prog.mainIs=aa (af,"ff3441c17bcda657332785e9cffc769a5e1afd95a52b44779d36b3cd125930a8".toList):=by kernel_rfl
theorem TQ:af=Tryz.prog.looks []:=by kernel_rfl
theorem Xm:aj=Rows.functionSingleRow.goesBy Tryz.prog:=by kernel_rfl
theorem Up:laidOutB Tryz.prog=af:=by kernel_rfl
set_option maxRecDepth 100000 in
theorem wy(f:Os)(d:f.Started)(H:Type)(b:aF×ag->H):
  ReturnsInHanded {} Tryz.checked f 4 .any (λw a=>(Rows.functionSingleSpec.pre b Tryz.prog Tryz.f4 [] aj w a/\laidMetH Tryz.prog rm w)/\sizedMet b Tryz.prog Tryz.f4 (OpenSpec.ofChange Rows.functionSingleSpec) aj w a)
   (Rows.functionSingleSpec.post b Tryz.prog Tryz.f4 aj af aj aj):=by
 refine returnsInHanded_of_change_and (C:=Tryz.checked) (X:=λw _=>laidMetH Tryz.prog rm w) (λ_ _ _ P h=>h.of_heap P) Zx d (by kernel_rfl) Tryz.func4
  (ChangeSpec.witness_at (enc:=b) (C:=Tryz.checked) (os:=f) (X:=λw _=>laidMetH Tryz.prog rm w) aj (Jy f) #[.agg #[aE 0,aE 0,bt ⟨#[]⟩,nA]] 8 rfl (by kernel_rfl) (by kernel_rfl) (by kernel_rfl) (by kernel_rfl) (by kernel_rfl) (Iy f _)) ?_
 intro W n a B gs u l E _ K O _;have i:∀(j:Nat) t v,Tryz.f4.params[j]?=aa t->a[j]?=aa v->Value.okWide Tryz.prog W .any n t v:=l;have g:=E;obtain⟨p,q,y,M,rfl,x1,Z⟩:=E;have L:DataW.TrodAll b Tryz.prog W 0 (λ_=>af) af Tryz.f4.params.toList a.toList B p:=y;rw[Tryz.params4]at L i;obtain⟨m,x3,o,x2,D,q0,c,rfl,rfl,z,J⟩:=trodAll_cons L;obtain⟨rfl,rfl,rfl⟩:=trodAll_nil J;have c:a = #[m]:=by
  rw[<-Array.toList_inj];exact c
 subst c;obtain⟨rfl,rfl⟩:=trodVars_none M;rw[cp]at g;have F:(ke Tryz.prog (Tryz.f4.params.toList++Rows.functionSingleSpec.plain.varTypes Tryz.prog) ([o]++[])).all (· <=reachBytes)=af:=K;rw[Tryz.params4]at F;have G:(o.weights Tryz.prog 24++(ke Tryz.prog (Rows.functionSingleSpec.plain.varTypes Tryz.prog) [])).all (· <=reachBytes)=af:=F;simp only[gH,bg]at G;obtain⟨N,_⟩:=G;have Y:Lds W #[m].toList _:=X3 (abT (i 0 24 m rfl rfl) z N) (abU);refine(Uq Tryz.func4 (by kernel_rfl) (by unfold YB;decide) Y O λS w T=>?_).mono λe W2 ⟨R,r⟩=>?_
 ·obtain⟨x0,A,rfl,U,rfl⟩:=T;obtain⟨M0,a0,c0,rfl,Q,V,A⟩:=U;exact Qz S w Q V A
 subst R;have s:∀x∈D++([]),x.block<W.heap.size:=λx k=>g.lt x k;exact⟨_,rfl,X1 (ds:=[o]) (places:=D++([])) rfl g r rfl rfl (λ_ _ _=>(trodAll_cons_mk (shut_bool Tryz.underlying4 _) trodAll_mk0))
  (ok_one (by kernel_rfl) rfl (okWide_bool_mk Tryz.underlying4 _)) (λsp I=>by
   rw[Tryz.params4];exact trodAll_cons_mk (WideElems.Trod_stays Up (by kernel_rfl) (dT (by kernel_rfl)) z (λx k=>r.same (s x (ey _ k))) (λx k=>I x (ey _ k))) (trodAll_mk0))⟩
theorem zd:Rows.FunctionSingleSaid:=
 OpenClaim.holds_of_wide 4 Tryz.f4 rfl rfl rfl rfl rfl rfl rfl ⟨rfl,rfl,rfl,rfl,rfl⟩ rfl rfl rfl rfl rfl (by kernel_rfl) Tryz.func4 aa9
  (dT (by kernel_rfl)) (by unfold Func.isWrapper;first|(rw[iP (by decide +kernel)];kernel_rfl)|(rw[iN (by decide +kernel)];exact⟨rfl,rfl⟩))
  (λc a H b _=>wy c a H b)
theorem functionSingle_holds:Rows.FunctionSingleCardSaid:=
 Claim7.holds_tied_plain_at .later [] [.data,.data,.data] af (af,"ff3441c17bcda657332785e9cffc769a5e1afd95a52b44779d36b3cd125930a8") af
  zd (λ_ h=>by cases h) aed (λ_ h=>by cases h) functionSingle_row_tie rfl ⟨rfl,rfl⟩ Xn rfl
  (λf d e b=>by
   obtain rfl:f=4:=aG ((show Tryz.prog.funcNamed "abugida/abugidalaw17.FunctionSingle" = aa 4 by kernel_rfl).symm.trans e) |>.symm
   obtain rfl:d=Tryz.f4:=(aG (Tryz.func4.symm.trans b)).symm;exact⟨TQ,λj t c=>by
    rw[Tryz.params4]at c;have g:t∈[24]:=by simpa using Array.mem_of_getElem? c
    have a:([24].all λu=> !Tryz.prog.wantsStandIn u)=af:=by kernel_rfl
    exact(show Tryz.prog.wantsStandIn t=aj by simpa using bY.1 a t g)⟩)
  Xm
end Go.Proofs.YtnlccnpbjeiccaaGreatDoor
end
