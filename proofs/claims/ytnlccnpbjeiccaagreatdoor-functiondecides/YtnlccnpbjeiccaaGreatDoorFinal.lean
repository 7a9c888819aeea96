/- Whatever is handed to it, in whatever memory, on every schedule, FunctionDecides returns true. No condition. -/
import Derived.Test.YtnlccnpbjeiccaaGreatDoorPart6
import Derived.Test.YtnlccnpbjeiccaaGreatDoorPart2
import Derived.Test.YtnlccnpbjeiccaaGreatDoorPart5
import Derived.OpenShut
import Derived.MakeChecks
import Derived.FnData
import Derived.ChangeSame
import Derived.Test.YtnlccnpbjeiccaaGreatDoorRows
import Derived.ProofKit
import Derived.LaidLaws
import Derived.LaidHandle
import Derived.ChangeVars
import Derived.Test.YtnlccnpbjeiccaaGreatDoorCards
import Derived.Test.YtnlccnpbjeiccaaGreatDoorTie
import Derived.WalkKit
import Derived.Carry
import Derived.SevenTiedAt
set_option linter.unusedVariables false
set_option linter.unusedSimpArgs false
set_option maxRecDepth 100000
open Bool renaming and_eq_true → bj, false → ak, true → af
open Go renaming Addr → aF, FuncId → ck, Program → aO, TypeId → aD, Value → ah, World → aU
open Go.DataW renaming trod → fF, trod_int → oK, weightsEach → kW
open Go.Value renaming agg → aq, bool → ai, slice → ae
open List renaming all_append → gX, all_eq_true → cw, append_nil → cF, length_map → aG, mem_append_left → dY, mem_cons → cO, mem_cons_of_mem → cJ, mem_cons_self → cH, mem_map → dZ
open List.cons renaming injEq → gY
open Option renaming map_eq_some_iff → bq, some → aa
open Option.some renaming inj → aC, injEq → bc
section
namespace Go.Proofs.YtnlccnpbjeiccaaGreatDoor
open Go Go.Ab Go.Num
theorem aaa:vJ Tryz.prog 13 [] (ai af):=qf tO ahx (n:=2000) (by kernel_rfl) (by kernel_rfl)
end Go.Proofs.YtnlccnpbjeiccaaGreatDoor
end
section
namespace Go.Proofs.YtnlccnpbjeiccaaGreatDoor
open Go Go.Ab Go.RowKit
theorem IL:qt Tryz.prog gl1 296 rL:=FF (fn:=(Tryz.prog.funcs[296]?).getD default) (by kernel_rfl) (by kernel_rfl) (by kernel_rfl) (by kernel_rfl) (by kernel_rfl)
theorem Gx:qt Tryz.prog gl1 290 ou:=Da (fn:=(Tryz.prog.funcs[290]?).getD default) (by kernel_rfl) (by kernel_rfl) (by kernel_rfl) (by kernel_rfl) (by kernel_rfl)
theorem aer:tZ Tryz.prog gl1 ajF:=pR (sO aaa (by kernel_rfl) xD) (uf IL (uf Gx KY))
theorem TU:qt Tryz.prog gl1 146 Jk:=acm afq (f5:=Tryz.f146) Tryz.func146 (by kernel_rfl)
theorem abz:wE Tryz.prog gl1 prS:=NP TU (Vo aer)
end Go.Proofs.YtnlccnpbjeiccaaGreatDoor
end
section
namespace Go.Proofs.YtnlccnpbjeiccaaGreatDoor
open Go Go.Ab Go.ChangeShapes Go.RowKit
variable{n:Nat}{J:gR}{s:List UInt8}{v:ah}{w:ah}{h:aw}
section
theorem co3:Tryz.prog.cellsOf 3=1:=by kernel_rfl
theorem co9:Tryz.prog.cellsOf 9=1:=by kernel_rfl
theorem akN:Tryz.prog.cellsOf 22=1:=by kernel_rfl
theorem akO:Tryz.prog.cellsOf 24=4:=by kernel_rfl
theorem akP:Tryz.prog.cellsOf 42=1:=by kernel_rfl
theorem ajb:Tryz.prog.cellsOf 44=2:=by kernel_rfl
theorem ajc:Tryz.prog.cellsOf 46=4:=by kernel_rfl
theorem aja:Tryz.prog.cellsOf 240=1:=by kernel_rfl
theorem akK:Tryz.prog.bytesOf 46=40:=by kernel_rfl
theorem SL{a c:Type}{p:a->c}{P:a->Prop}:∀{l:List c},(∀x∈l,∃q,x=p q/\P q)->∃k:List a,l=k.map p/\∀q∈k,P q
 |[],_=>⟨[],rfl,λ_ h=>by cases h⟩
 | x::l,h=>by
  obtain⟨q,rfl,e⟩:=h x (cH ..);obtain⟨k,rfl,f⟩:=SL λx d=>h x (cJ _ d);exact⟨q::k,rfl,λy b=>by
   rcases cO.1 b with rfl|b
   ·exact e
   ·exact f y b⟩
def Zf(W:aU)(q:kH×ah):Prop:=KU W q.2 4 (q.1.bG.map jU)/\q.1.bG.length<=281474976710656/\q.1.f.length<=281474976710656/\∀a∈q.1.bG,a.w.length<=281474976710656
section
variable {H:Type} {enc:aD×ah->H} {W:aU} {held:Bool}
theorem Oe{t:aD}{y:DataW H×List MemPlace}{l:List UInt8}{p:List MemPlace}(e:y=(.lit (.string l),p))(a:(y.1.weights Tryz.prog t).all (· <=reachBytes)=af):l.length<=281474976710656:=by
 subst e;have h:l.length<=reachBytes:=by simpa[DataW.weights]using a
 unfold reachBytes at h;omega
theorem Zu{cs:List ah}{y:DataW H×List MemPlace}(h:fF enc Tryz.prog W 0 (λ_=>af) held n 46 cs=aa y)(v:(y.1.weights Tryz.prog 46).all (· <=reachBytes)=af):∃q:iu,cs=jU q/\q.w.length<=281474976710656:=by
 obtain⟨r,m,_,rfl,l,a,b⟩:=DataW.trod_struct Tryz.underlying46 h;rw[ajc]at l;have a:r.length=4:=a
 match r,a,cs,l with
 |[k,z,g,p],_,[f,c,e,d],_=>
  obtain⟨i,B,_,_⟩:=oK (x:=k) Tryz.underlying3 (show fF enc Tryz.prog W 0 (λ_=>af) held m 3 (([f,c,e,d].drop 0).take (Tryz.prog.cellsOf 3))=aa k from b 0 _ rfl);obtain⟨o,j,_,_⟩:=oK (x:=z) Tryz.underlying3 (show fF enc Tryz.prog W 0 (λ_=>af) held m 3 (([f,c,e,d].drop 1).take (Tryz.prog.cellsOf 3))=aa z from b 1 _ rfl);obtain⟨s,A,w,_⟩:=DataW.trod_string (x:=g) Tryz.underlying9 (show fF enc Tryz.prog W 0 (λ_=>af) held m 9 (([f,c,e,d].drop 2).take (Tryz.prog.cellsOf 9))=aa g from b 2 _ rfl);obtain⟨t,u,_,_⟩:=oK (x:=p) Tryz.underlying3 (show fF enc Tryz.prog W 0 (λ_=>af) held m 3 (([f,c,e,d].drop 3).take (Tryz.prog.cellsOf 3))=aa p from b 3 _ rfl);simp only[co3,co9,List.drop,List.take,gY,and_true]at B j A u;subst B;subst j;subst A;subst u;simp only[DataW.weights,Tryz.underlying46,kW,List.map,cF,gX,bj]at v;have C:=Oe w v.2.2.1;exact⟨⟨i,o,s.data.toList,t⟩,rfl,C⟩
theorem TW{cs:List ah}{y:DataW H×List MemPlace}(h:fF enc Tryz.prog W 0 (λ_=>af) held n 44 cs=aa y)(a:(y.1.weights Tryz.prog 44).all (· <=reachBytes)=af):∃q:kH×ah,cs=yC q/\Zf W q:=by
 obtain⟨t,u,m,rfl,d,k,i⟩:=trod_struct2 Tryz.underlying44 h;rw[ajb]at d
 match cs,d with
 |[x,j],_=>
  obtain⟨s,f,e,_⟩:=DataW.trod_string Tryz.underlying9 k;simp only[DataW.weights,Tryz.underlying44,kW,List.map,cF,gX,bj]at a;obtain⟨v,w,c,r,o,b⟩:=LJ (P:=Tryz.prog) (p:=λcs=>∃q:iu,cs=jU q/\q.w.length<=281474976710656) Tryz.underlying42 ajc (by decide) (λn cs y h a=>Zu h a) i a.2;simp only[co9,akP,List.drop,List.take,gY,and_true]at f c;subst f;subst c;obtain⟨l,rfl,g⟩:=SL o;refine⟨(⟨s.data.toList,l⟩,j),rfl,r,?_,Oe e a.1,g⟩;rw[akK,aG]at b;unfold reachBytes at b;show l.length<=_;omega
theorem Nl{cs:List ah}{y:DataW H×List MemPlace}(h:fF enc Tryz.prog W 0 (λ_=>af) held n 24 cs=aa y)(b:(y.1.weights Tryz.prog 24).all (· <=reachBytes)=af):
  ∃(k s:Int)(i:List UInt8)(v:ah)(o:List (kH×ah)),cs=[aA k,aA s,strOf i,v]/\i.length<=281474976710656/\KU W v 2 (o.map yC)/\∀q∈o,Zf W q:=by
 obtain⟨A,m,_,rfl,e,a,d⟩:=DataW.trod_struct Tryz.underlying24 h;rw[akO]at e;have a:A.length=4:=a
 match A,a,cs,e with
 |[w,D,t,z],_,[j,f,g,c],_=>
  obtain⟨k,F,_,_⟩:=oK (x:=w) Tryz.underlying3 (show fF enc Tryz.prog W 0 (λ_=>af) held m 3 (([j,f,g,c].drop 0).take (Tryz.prog.cellsOf 3))=aa w from d 0 _ rfl);obtain⟨s,u,_,_⟩:=oK (x:=D) Tryz.underlying3 (show fF enc Tryz.prog W 0 (λ_=>af) held m 3 (([j,f,g,c].drop 1).take (Tryz.prog.cellsOf 3))=aa D from d 1 _ rfl);obtain⟨i,E,C,_⟩:=DataW.trod_string (x:=t) Tryz.underlying9 (show fF enc Tryz.prog W 0 (λ_=>af) held m 9 (([j,f,g,c].drop 2).take (Tryz.prog.cellsOf 9))=aa t from d 2 _ rfl);simp only[DataW.weights,Tryz.underlying24,kW,List.map,cF,gX,bj]at b;obtain⟨v,I,B,r,G,_⟩:=LJ (P:=Tryz.prog) (x:=z) (p:=λcs=>∃q:kH×ah,cs=yC q/\Zf W q) Tryz.underlying22 ajb (by decide) (λn cs y h b=>TW h b) (show fF enc Tryz.prog W 0 (λ_=>af) held m 22 (([j,f,g,c].drop 3).take (Tryz.prog.cellsOf 22))=aa z from d 3 _ rfl) b.2.2.2;simp only[co3,co9,akN,List.drop,List.take,gY,and_true]at F u E B;subst F;subst u;subst E;subst B;obtain⟨l,rfl,e⟩:=SL G;exact⟨k,s,i.data.toList,c,l,rfl,Oe C b.2.2.1,r,e⟩
end
section
variable {W:aU}
theorem V7(q:iu):(jU q).all Go.Ab.bare=af:=rfl
theorem aft(h:cA J v w):dE J [strOf s,v] [strOf s,w]:= .cons (.string _) (.cons h (.nil J))
theorem Lp:∀(a:List (kH×ah)),(∀q∈a,Zf W q)->∀{c:gR}{h:aw},Bw c h W->
  ∃(d:gR)(m:aw)(b:List (kH×ah)),Bw d m W/\c.le d/\Ok h m/\b.length=a.length/\b.map (·.1)=a.map (·.1)/\(∀p∈b,nM m p.2 p.1.bG)/\
   ∀(k:Nat) r s,(b.map yC)[k]?=aa r->(a.map yC)[k]?=aa s->dE d r s
 |[],_,c,h,i=>⟨c,h,[],i,c.le_refl,Ok.refl i.wf,rfl,rfl,λ_ f=>absurd f (by simp),λk v q h=>absurd h (by simp)⟩
 | q::a,u,c,h,i=>by
  obtain⟨r,_⟩:=u q (cH ..);obtain⟨K,g,v,A,G,z,C,I⟩:=i.row (e:=46) r (rs:=q.1.bG.map jU) rfl (λk r s g j=>by
    rw[g]at j;obtain rfl:=aC j;rw[List.getElem?_map]at g;obtain⟨x,_,rfl⟩:=bq.1 g;exact dE.zu (V7 x))
  obtain⟨t,j,b,B,y,w,D,f,F,H⟩:=Lp a (λq f=>u q (cJ _ f)) A;refine⟨t,j,(q.1,v)::b,B,gR.le_trans G y,z.trans w,by simp[D],by simp[f],λp o=>?_,λk J E n l=>?_⟩
  ·rcases cO.1 o with rfl|o
   ·exact nM.ok I w
   ·exact F p o
  ·cases k with
   |zero=>
    simp only[List.map_cons,List.getElem?_cons_zero,bc]at n l;subst n;subst l;exact aft (C.mono y)
   |succ k=>exact H k J E (by simpa using n) (by simpa using l)
theorem PX(i:Bw J h W){v:ah}{b:List (kH×ah)}(r:KU W v 2 (b.map yC))(y:∀q∈b,Zf W q)(F:∀a,v=ae (aa a) 0 0->a.spot=none/\∃cs t x,W.heap[a.block]?=aa (.cells cs t x)):
  ∃c f d,Bw c f W/\J.le c/\Ok h f/\cA c d v/\iY f d (b.map (·.1)):=by
 obtain⟨H,I,j,n,B,l,u,m,A,D⟩:=Lp b y i;obtain⟨g,z,d,o,G,k,w,s,C⟩:=n.ab8 (e:=44) (rs:=j.map yC) r (by simp[u]) D F;exact⟨g,z,d,o,gR.le_trans B G,l.trans k,w,j,m,s,λp E=>nM.ok (A p E) k,C⟩
end
end
end Go.Proofs.YtnlccnpbjeiccaaGreatDoor
end
section
namespace Go.Proofs.YtnlccnpbjeiccaaGreatDoor
open Go Go.ChangeShapes Go.WideShapes Go.ChangeAt Go.RowKit
theorem aca:ownKnob Tryz.prog.godebug=none:=by kernel_rfl
abbrev sD{H:Type}:List (String×DataW H):=[("math/bits.deBruijn32tab",Rows.laid_math_bits_deBruijn32tab),("math/bits.deBruijn64tab",Rows.laid_math_bits_deBruijn64tab),("internal/strconv.uint64pow10",Rows.laid_internal_strconv_uint64pow10)]
def ahv:DataW Unit->ah
 |.lit (.int k n)=> .int k n
 |_=>undef
def HU:DataW Unit->Array ah
 |.agg l=>(l.map ahv).toArray
 |_=> #[]
def aaI(c:Array ah):Obj->Obj
 |.cells _ t a=> .cells c t a
 |o=>o
noncomputable def Ln(a:Os):aU:=
 { World.holding Tryz.prog a ⟨#[],#[],[]⟩with heap:=(((World.holding Tryz.prog a ⟨#[],#[],[]⟩).heap.modify 2 (aaI (HU Rows.laid_math_bits_deBruijn32tab))).modify 3 (aaI (HU Rows.laid_math_bits_deBruijn64tab))).modify 1 (aaI (HU Rows.laid_internal_strconv_uint64pow10)) }
theorem Kh(b:Os)(a:Array ah):laidMetH Tryz.prog sD ((Ln b).forCall (λ_ _=>0) ⟨#[],a,[]⟩).memory:=
 laidMetH_of_parts (laidMet_of_run' 24 (by kernel_rfl) (by kernel_rfl)) (by kernel_rfl)
end Go.Proofs.YtnlccnpbjeiccaaGreatDoor
end
section
namespace Go.Proofs.YtnlccnpbjeiccaaGreatDoor
open Go Go.Ab Go.ChangeShapes Go.WideShapes Go.RowKit
variable{n:Nat}{z:Int}{s:List UInt8}{v:ah}
section
theorem ID{P:aO}{w:aU}:∀{l:List (String×DataW Unit)}{c:List MemPlace},DataW.LaidVars P w l c->∀n d,(n,d)∈l->
  ∃g t cs a p,P.globalNamed n=aa g/\(P.globals[g]?).map (·.type)=aa t/\w.var? P n=aa cs/\fF (λ_=>()) P w 0 (λ_=>af) ak a t cs.toList=aa (d,p)
 |[],_,_,_,_,b=>by cases b
 | (s,o)::r,c,h,n,d,b=>by
  obtain⟨g,t,cs,a,p,q,i,j,f,k,m,_⟩:=h;rcases cO.1 b with e|e
  ·cases e
   exact⟨g,t,cs,a,p,i,j,f,k⟩
  ·exact ID m n d e
theorem abx:Rows.laid_internal_strconv_uint64pow10=(.agg ((List.range 20).map λi=>(.lit (.int .u64 ((10^i:Nat):Int)):DataW Unit)):DataW Unit):=by kernel_rfl
section
variable {W:aU}
theorem aeO(j:laidMetH Tryz.prog sD W):∃cs t a,W.heap[1]?=some (.cells cs t a)/\∀s,lH s Rg 0 cs:=by
 rw[MakeChecks.laidMetH_plain _ _ _ (by kernel_rfl)]at j;obtain⟨F,l,_⟩:=j;obtain⟨g,t,cs,x,p,r,E,b,C⟩:=ID l "internal/strconv.uint64pow10" Rows.laid_internal_strconv_uint64pow10 (by simp[sD]);obtain rfl:=oI ((show Tryz.prog.globalNamed "internal/strconv.uint64pow10" = some 1 by kernel_rfl).symm.trans r);obtain rfl:=oI ((show(Tryz.prog.globals[1]?).map (·.type)=some 328 by kernel_rfl).symm.trans E);obtain⟨f,m,_,D,_,l,o⟩:=DataW.trod_array Tryz.underlying328 C;have w:f.map (·.1)=(List.range 20).map λi=>(.lit (.int .u64 ((10^i:Nat):Int)):DataW Unit):=by
  have:=(Prod.mk.inj D).1.symm.trans abx;exact DataW.agg.inj this
 have d:∃t a,W.heap[1]?=some (.cells cs t a):=by
  simp only[World.var?,r,Option.bind_some]at b;split at b
  ·next c t a d=>obtain rfl:=oI b;exact⟨t,a,d⟩
  ·cases b
 obtain⟨t,a,d⟩:=d;refine⟨cs,t,a,d,λs k v h=>?_⟩;have e:k<20:=by
  have:=(List.getElem?_eq_some_iff.1 h).1;simpa[Rg]using this
 have b:v=uv (10^k):=by
  simp[Rg,List.getElem?_range e]at h;exact h.symm
 have n:=o k e;rw[aja,Nat.mul_one,gE (by omega)]at n;obtain⟨z,u,B,_⟩:=DataW.trod_int Tryz.underlying240 n;have q:(f.map (·.1))[k]?=some (.lit (.int .u64 ((10^k:Nat):Int))):=by rw[w];simp[List.getElem?_range e]
 rw[List.getElem?_map,gE (by omega:k<f.length),B]at q;have A:z=((10^k:Nat):Int):=by
  simpa using q
 subst A;have:cs.toList[k]?=some (.int .u64 ((10^k:Nat):Int)):=by
  have y:((cs.toList.drop k).take 1)[0]?=some (.int .u64 ((10^k:Nat):Int)):=by rw[u];rfl
  simpa using y
 refine⟨.int .u64 ((10^k:Nat):Int),by simpa using this,?_⟩;rw[b];exact .int _ _
theorem aef(c:laidMetH Tryz.prog sD W):∃a h,Bw a h W/\Gl gl1 a/\BG h:=by
 obtain⟨cs,t,f,b,e⟩:=aeO c;refine⟨_,_,(akU 1 W).push b (e _),λg d=>?_,t,ak,aw.mV ⟨1,.nil⟩ _⟩;have:g=1:=by simpa[gl1]using d
 subst this;exact⟨_,gR.fK _ _ _,rfl,rfl,rfl⟩
theorem acR{k:Int}(b:Value.okWide Tryz.prog W .any n 24 (.agg #[aA k,aA z,strOf s,v]))(a:aF)(e:v=ae (aa a) 0 0):a.spot=none/\∃cs t f,W.heap[a.block]?=aa (.cells cs t f):=by
 simp only[Value.okWide,Tryz.underlying24]at b;obtain⟨cs,h,_,r,i,_,p⟩:=b;obtain rfl:=Value.agg.inj h;obtain rfl:=aC ((show Tryz.prog.cellTypes Tryz.prog.depth 24=aa [3,3,9,22] by kernel_rfl).symm.trans i);obtain⟨u,o,g⟩:=p 3 v rfl;obtain rfl:22=u:=aC o;subst e;simp only[Cell.okWide,Cell.ok,Tryz.underlying22]at g;obtain⟨_,_,_,m,q,j,d,_⟩:=g;refine⟨m,?_⟩;unfold World.shape? at d;split at d
 ·next c t f l=>exact⟨c,t,f,l⟩
 ·cases d
end
end
variable{c:List ah}{f:ck}{F:Func}
section
section
variable {W:aU}
def Ldx(W:aU)(v:ah)(S:ah->aw->Prop):Prop:=(∀c h a,Ok h a->S c h->S c a)/\∀{d:gR}{h:aw},Bw d h W->∃b a c,Bw b a W/\d.le b/\Ok h a/\cA b c v/\S c a
def Lds(W:aU)(e:List ah)(T:List ah->aw->Prop):Prop:=∀{d:gR}{h:aw},Bw d h W->∃a c b,Bw a c W/\d.le a/\Ok h c/\dE a b e/\T b c
theorem aen:Lds W [] λa _=>a=[]:=λ{b h} i=>⟨b,h,[],i,b.le_refl,Ok.refl i.wf,.nil _,rfl⟩
theorem aaJ{S:ah->aw->Prop}{T:List ah->aw->Prop}(a:Ldx W v S)(b:Lds W c T):Lds W (v::c) λe h=>∃x r,e=x::r/\S x h/\T r h:=λ{w h} i=>by
 obtain⟨t,u,x,l,q,j,n,s⟩:=a.2 i;obtain⟨d,p,r,m,g,f,o,k⟩:=b l;exact⟨d,p,x::r,m,gR.le_trans q g,j.trans f,.cons (n.mono g) o,x,r,rfl,a.1 _ _ _ f s,k⟩
def aiD(v:ah)(h:aw):Prop:=∃(M:cG)(a:Option aF)(c:Nat),v=aq ⟨dK M a M.aE.length c⟩/\Bnd M/\agD M/\iY h (ae a M.aE.length c) M.aE
variable {H:Type} {enc:aD×ah->H}
theorem aem{D:DataW H}{p:List MemPlace}(g:Value.okWide Tryz.prog W .any n 24 v)(u:DataW.Trod enc Tryz.prog W 0 (λ_=>af) af 24 v D p)(J:(D.weights Tryz.prog 24).all (· <=reachBytes)=af):Ldx W v aiD:=by
 refine⟨λQ h R o s=>?_,λ{T h} i=>?_⟩
 ·obtain⟨M,a,c,e,b,N,r⟩:=s;exact⟨M,a,c,e,b,N,r.ok o⟩
 obtain⟨cs,rfl,_⟩:=okWide_struct Tryz.underlying24 g;obtain⟨K,u⟩:=u;obtain⟨k,s,w,Q,f,m,C,P,t⟩:=Nl u J;have m:cs = #[aA k,aA s,strOf w,Q]:=by
  rw[<-Array.toList_inj];exact m
 subst m;obtain⟨B,I,S,G,L,F,y,j⟩:=PX i P t (acR g);obtain⟨O,z,A,_,_⟩:=id j;obtain⟨a,c,rfl⟩:=A.rM;have E:(O.map yC).length=(f.map (·.1)).length:=by rw[<-z,aG,aG]
 rw[E]at y j;refine⟨B,I,.agg ⟨dK ⟨k,s,w,f.map (·.1)⟩ a (f.map (·.1)).length c⟩,G,L,F,?_,⟨k,s,w,f.map (·.1)⟩,a,c,rfl,λx l=>?_,⟨C,λx l=>?_,λx l=>?_⟩,j⟩
 ·exact .agg rfl (nL.toList.2 (.cons (.int _ _) (.cons (.int _ _) (.cons (.string _) (.cons y (.nil _)))))).2
 ·obtain⟨q,d,rfl⟩:=dZ.1 l;exact(t q d).2.1
 ·obtain⟨q,d,rfl⟩:=dZ.1 l;exact(t q d).2.2.1
 ·obtain⟨q,d,rfl⟩:=dZ.1 l;exact(t q d).2.2.2
theorem Xe(m:Tryz.prog.funcs[f]?=aa F)(b:F.body.isSome=af)(q:f<YB){a:Array ah}{T:List ah->aw->Prop}(l:Lds W a.toList T)(p:laidMetH Tryz.prog sD W)
  (i:∀{h:aw}{c:List ah}(_:BG h)(_:Wf h),T c h->aW f c h (EQ h)):Calls Tryz.prog f a W λe d=>e = .returned (ai af)/\Below W.heap.size W d:=by
 obtain⟨t,C,k,v,n⟩:=aef p;obtain⟨y,z,c,g,s,j,o,u⟩:=l k;refine(Pa tO abz (i (n.ok j) g.wf u) q m b g (v.mono s) (args':=a) o).mono ?_;rintro e d ⟨x,A,B,w,rfl,⟨rfl,_⟩,r,_,b⟩
 cases r
 exact⟨rfl,b⟩
end
end
end Go.Proofs.YtnlccnpbjeiccaaGreatDoor
end
section
namespace Go.Proofs.YtnlccnpbjeiccaaGreatDoor
open Go Go.Ab Go.ChangeShapes Go.WideShapes Go.ChangeAt Go.RowKit
theorem Pc:(Rows.functionDecidesRow.inPlace==Tryz.prog.inPlace 3)=af:=by kernel_rfl
theorem adB:(Rows.functionDecidesRow.unfollowed==Tryz.prog.unfollowed 3)=af:=by kernel_rfl
theorem adA:(Rows.functionDecidesRow.recurses==Tryz.prog.recurses 3)=af:=by kernel_rfl
theorem Wk:(Rows.functionDecidesRow.named==Tryz.prog.varsNamed 3)=af:=by kernel_rfl
theorem adC:joinedFacts Tryz.prog 3 Tryz.f3 Rows.functionDecidesSpec Rows.functionDecidesRow=af:=by
 unfold joinedFacts;simp only[Pc,adB,adA,Wk,Bool.and_true];kernel_rfl
theorem ag8:Rows.functionDecidesRow.wfByText (OpenSpec.ofChange Rows.functionDecidesSpec)=af:=by kernel_rfl
theorem ZN:Tryz.prog.mainIs=aa (af,"ff3441c17bcda657332785e9cffc769a5e1afd95a52b44779d36b3cd125930a8".toList):=by kernel_rfl
theorem Wj:af=Tryz.prog.looks []:=by kernel_rfl
theorem ZM:ak=Rows.functionDecidesRow.goesBy Tryz.prog:=by kernel_rfl
theorem Xb:laidOutB Tryz.prog=af:=by kernel_rfl
set_option maxRecDepth 100000 in
theorem wV(f:Os)(d:f.Started)(H:Type)(b:aD×ah->H):
  ReturnsInHanded {} Tryz.checked f 3 .any (λw a=>(Rows.functionDecidesSpec.pre b Tryz.prog Tryz.f3 [] ak w a/\laidMetH Tryz.prog sD w)/\sizedMet b Tryz.prog Tryz.f3 (OpenSpec.ofChange Rows.functionDecidesSpec) ak w a)
   (Rows.functionDecidesSpec.post b Tryz.prog Tryz.f3 ak af ak ak):=by
 refine returnsInHanded_of_change_and (C:=Tryz.checked) (X:=λw _=>laidMetH Tryz.prog sD w) (λ_ _ _ P h=>h.of_heap P) aca d (by kernel_rfl) Tryz.func3
  (ChangeSpec.witness_at (enc:=b) (C:=Tryz.checked) (os:=f) (X:=λw _=>laidMetH Tryz.prog sD w) ak (Ln f) #[.agg #[aA 0,aA 0,.string ⟨#[]⟩,nA]] 8 rfl (by kernel_rfl) (by kernel_rfl) (by kernel_rfl) (by kernel_rfl) (by kernel_rfl) (Kh f _)) ?_
 intro W n a B gs u l E _ K O _;have i:∀(j:Nat) t v,Tryz.f3.params[j]?=aa t->a[j]?=aa v->Value.okWide Tryz.prog W .any n t v:=l;have g:=E;obtain⟨p,q,y,M,rfl,x1,Z⟩:=E;have L:DataW.TrodAll b Tryz.prog W 0 (λ_=>af) af Tryz.f3.params.toList a.toList B p:=y;rw[Tryz.params3]at L i;obtain⟨m,x3,o,x2,D,q0,c,rfl,rfl,z,J⟩:=trodAll_cons L;obtain⟨rfl,rfl,rfl⟩:=trodAll_nil J;have c:a = #[m]:=by
  rw[<-Array.toList_inj];exact c
 subst c;obtain⟨rfl,rfl⟩:=trodVars_none M;rw[cF]at g;have F:(kW Tryz.prog (Tryz.f3.params.toList++Rows.functionDecidesSpec.plain.varTypes Tryz.prog) ([o]++[])).all (· <=reachBytes)=af:=K;rw[Tryz.params3]at F;have G:(o.weights Tryz.prog 24++(kW Tryz.prog (Rows.functionDecidesSpec.plain.varTypes Tryz.prog) [])).all (· <=reachBytes)=af:=F;simp only[gX,bj]at G;obtain⟨N,_⟩:=G;have Y:Lds W #[m].toList _:=aaJ (aem (i 0 24 m rfl rfl) z N) (aen);refine(Xe Tryz.func3 (by kernel_rfl) (by unfold YB;decide) Y O λS w T=>?_).mono λe W2 ⟨R,r⟩=>?_
 ·obtain⟨x0,A,rfl,U,rfl⟩:=T;obtain⟨M0,a0,c0,rfl,Q,V,A⟩:=U;exact Xd S w Q V A
 subst R;have s:∀x∈D++([]),x.block<W.heap.size:=λx k=>g.lt x k;exact⟨_,rfl,aaH (ds:=[o]) (places:=D++([])) rfl g r rfl rfl (λ_ _ _=>(trodAll_cons_mk (shut_bool Tryz.underlying4 _) trodAll_mk0))
  (ok_one (by kernel_rfl) rfl (okWide_bool_mk Tryz.underlying4 _)) (λsp I=>by
   rw[Tryz.params3];exact trodAll_cons_mk (WideElems.Trod_stays Xb (by kernel_rfl) (dT (by kernel_rfl)) z (λx k=>r.same (s x (dY _ k))) (λx k=>I x (dY _ k))) (trodAll_mk0))⟩
theorem zh:Rows.FunctionDecidesSaid:=
 OpenClaim.holds_of_wide 3 Tryz.f3 rfl rfl rfl rfl rfl rfl rfl ⟨rfl,rfl,rfl,rfl,rfl⟩ rfl rfl rfl rfl rfl (by kernel_rfl) Tryz.func3 adC
  (dT (by kernel_rfl)) (by unfold Func.isWrapper;first|(rw[iP (by decide +kernel)];kernel_rfl)|(rw[iN (by decide +kernel)];exact⟨rfl,rfl⟩))
  (λc a H b _=>wV c a H b)
theorem functionDecides_holds:Rows.FunctionDecidesCardSaid:=
 Claim7.holds_tied_plain_at .later [] [.data,.data,.data] af (af,"ff3441c17bcda657332785e9cffc769a5e1afd95a52b44779d36b3cd125930a8") af
  zh (λ_ h=>by cases h) ag8 (λ_ h=>by cases h) functionDecides_row_tie rfl ⟨rfl,rfl⟩ ZN rfl
  (λf d e b=>by
   obtain rfl:f=3:=aC ((show Tryz.prog.funcNamed "abugida/abugidalaw17.FunctionDecides" = aa 3 by kernel_rfl).symm.trans e) |>.symm
   obtain rfl:d=Tryz.f3:=(aC (Tryz.func3.symm.trans b)).symm;exact⟨Wj,λj t c=>by
    rw[Tryz.params3]at c;have g:t∈[24]:=by simpa using Array.mem_of_getElem? c
    have a:([24].all λu=> !Tryz.prog.wantsStandIn u)=af:=by kernel_rfl
    exact(show Tryz.prog.wantsStandIn t=ak by simpa using cw.1 a t g)⟩)
  ZM
end Go.Proofs.YtnlccnpbjeiccaaGreatDoor
end
