/- Whatever is handed to it, in whatever memory, on every schedule, BuildWords returns true. No condition. -/
import Derived.Test.YtaaichlgdgjgjaaGreatDoorPart6
import Derived.Shelf.SortM.Plain
import Derived.Shelf.SortM.SortNone
import Derived.Test.YtaaichlgdgjgjaaGreatDoorProg
import Derived.Test.YtaaichlgdgjgjaaGreatDoorPart3
import Derived.Test.YtaaichlgdgjgjaaGreatDoorPart2
import Derived.OpenShut
import Derived.MakeChecks
import Derived.FnData
import Derived.ChangeSame
import Derived.Test.YtaaichlgdgjgjaaGreatDoorRows
import Derived.ProofKit
import Derived.LaidLaws
import Derived.LaidHandle
import Derived.ChangeVars
import Derived.Test.YtaaichlgdgjgjaaGreatDoorCards
import Derived.Test.YtaaichlgdgjgjaaGreatDoorTie
import Derived.WalkKit
import Derived.Carry
import Derived.SevenTiedAt
set_option linter.unusedVariables false
set_option linter.unusedSimpArgs false
set_option maxRecDepth 100000
open List (mem_append_left mem_append_right)
open Bool (and_eq_true not_eq_true')
open Go.IntKind (wrap)
section
namespace Go.Proofs.YtaaichlgdgjgjaaGreatDoor
open Go Go.Ab Go.Num
variable{M:bC}{k:Nat}{v:Value}{w:Value}{z:Int}
section
def EQ(h:ae):VH:=λv g=>v = .bool true/\Ok h g
section
variable {h g:ae}
theorem Ip(d:nz h)(a:Ok h g):FW SS 12 [] g λv c=>yB v λb=>EQ h (.bool b) c:=by
 refine(Rv a.wf (d.ok a)).mono ?_;rintro _ e ⟨rfl,o⟩;exact⟨_,rfl,rfl,a.trans o⟩
theorem holds_of{K:Type}{S:ba K}{b:List UInt8->K}(d:wy S b M.kind)(c:cI M=true){xs ys:List Int}(g:dn xs=true)(i:dn ys=true){a:List UInt8}(f:aM M.kind a=true)(k:X7 S b M xs ys=b a):te M M.kind xs ys a=true:=by
 unfold te;rw[c];rcases aaD d c g i with⟨w,e,h,j⟩|e
 ·rw[e];have:=d.inj h f (j.trans k);subst this;simp
 ·rw[e];simp
def BW(b a:Value):dN:= .cells [b,a] 24 0 true
theorem YA(a b:Option Addr)(n c m d:Nat):eV SS.P 24 (.agg ⟨[.slice a n c,.slice b m d]⟩)=some (BW (.slice a n c) (.slice b m d),kZ):=by kernel_rfl
theorem qg(k:Nat):aD SS.P 24 (pA k) 0=some (.pointer (some ⟨k,0,none⟩)):=by kernel_rfl
theorem qh(k:Nat):aD SS.P 24 (pA k) 1=some (.pointer (some ⟨k,1,none⟩)):=by kernel_rfl
theorem Vx(e:g.get k=some (BW v w)):aj SS.P 22 g (.pointer (some ⟨k,0,none⟩))=some v:=cq sc Rl e (by simp)
theorem Vy(e:g.get k=some (BW v w)):aj SS.P 22 g (.pointer (some ⟨k,1,none⟩))=some w:=cq sc Rl e (by simp)
variable {kind:Int} {xa ya ua va:Option Addr} {xc yc uc vc:Nat} {xs ys us vs:List Int} {wt:List UInt8}
theorem F4(j:nz h)(e:Ok h g){k km l:Nat}{M:bC}{a:Option Addr}{n c:Nat}(m:Small M)(f:MB g l M a n c)(o:z=0->Gr M=true):
  au (!((z:Int)==0)) (FW SS 12 [] g λv d=>yB v λb=>EQ h (.bool b) d) (xA (aj SS.P 29 g (pA l)) λc=>FW SS 20 [.agg ⟨c⟩] g λv i=>yB v λb=>au b (FW SS 12 [] i λv d=>yB v λb=>EQ h (.bool b) d) (EQ h (.bool false) i)):=by
 refine aa (λ_=>Ip j e) (λq=>⟨_,f.all,(Xu e.wf m f.row).mono ?_⟩);rintro _ r ⟨rfl,p⟩;have:z=0:=by simpa using q
 rw[o this];exact⟨_,rfl,aa (λ_=>Ip j (e.trans p)) (λq=>by cases q)⟩
theorem zW(Z:nz h)(ok:Ok h g){m N s:Nat}{M:bC}{a:Option Addr}{n c:Nat}(w:Small M)(u:MB g s M a n c)(X:z=0->Gr M=true)
  (C:g.get m=some (BW (.slice xa xs.length xc) (.slice ya ys.length yc))) (W:g.get N=some (BW (.slice ua us.length uc) (.slice va vs.length vc)))
  (rx:cM g (.slice xa xs.length xc) xs) (ry:cM g (.slice ya ys.length yc) ys) (ru:cM g (.slice ua us.length uc) us) (rv:cM g (.slice va vs.length vc) vs)
  (hx:dn xs=true) (hy:dn ys=true) (hn:M.af.length=max xs.length ys.length+1) {f:List UInt8} (h1:te M kind us vs f=true) (j:te M kind xs ys wt=true):
  au (((0:Int)==0)) (xP (aD SS.P 29 (pA s) 3) λp=>xL (aj SS.P 27 g (.pointer (some p))) λ_ S _=>xP (aD SS.P 24 (pA m) 0) λp=>xL (aj SS.P 22 g (.pointer (some p))) λ_ V _=>xP (aD SS.P 24 (pA m) 1) λp=>xL (aj SS.P 22 g (.pointer (some p))) λ_ Q _=>xI .i64 (oS true [(iA V),(iA Q)]) λR=>au (decide (((S:Int):Int)<=wrap .i64 (R+1)))
   (xA (aj SS.P 29 g (pA s)) λy=>xP (aD SS.P 24 (pA N) 0) λp=>xL (aj SS.P 22 g (.pointer (some p))) λA J L=>xP (aD SS.P 24 (pA N) 1) λp=>xL (aj SS.P 22 g (.pointer (some p))) λU D F=>FW SS 19 [(.agg ⟨y⟩),(.int .i64 kind),(.slice A J L),(.slice U D F),(strOf f)] g λv d=>yB v λb=>au b
    (xP (aD SS.P 24 (pA m) 0) λp=>xL (aj SS.P 22 d (.pointer (some p))) λ_ G _=>xP (aD SS.P 24 (pA m) 1) λp=>xL (aj SS.P 22 d (.pointer (some p))) λ_ P _=>au (decide ((wrap .i64 ((G:Int)+(P:Int)):Int)>40))
     (au (!((z:Int)==0)) (FW SS 12 [] d λv l=>yB v λb=>EQ h (.bool b) l) (xA (aj SS.P 29 d (pA s)) λc=>FW SS 20 [.agg ⟨c⟩] d λv j=>yB v λb=>au b (FW SS 12 [] j λv l=>yB v λb=>EQ h (.bool b) l) (EQ h (.bool false) j)))
     (xA (aj SS.P 29 d (pA s)) λE=>xP (aD SS.P 24 (pA m) 0) λp=>xL (aj SS.P 22 d (.pointer (some p))) λK O I=>xP (aD SS.P 24 (pA m) 1) λp=>xL (aj SS.P 22 d (.pointer (some p))) λH B T=>FW SS 19 [(.agg ⟨E⟩),(.int .i64 kind),(.slice K O I),(.slice H B T),(strOf wt)] d λv e=>yB v λb=>au b
      (au (!((z:Int)==0)) (FW SS 12 [] e λv l=>yB v λb=>EQ h (.bool b) l) (xA (aj SS.P 29 e (pA s)) λc=>FW SS 20 [.agg ⟨c⟩] e λv j=>yB v λb=>au b (FW SS 12 [] j λv l=>yB v λb=>EQ h (.bool b) l) (EQ h (.bool false) j)))
      (EQ h (.bool false) e))) (EQ h (.bool false) d)) (EQ h (.bool false) g)) (EQ h (.bool false) g):=by
 have lx:=kJ hx;have ly:=kJ hy;have hl:=u.len;refine aa (λ_=>⟨_,dy _,_,_,_,u.l3,_,qg _,_,_,_,Vx C,_,qh _,_,_,_,Vy C,_,qE _ _ _,aa (λ_=>⟨_,u.all,_,qg _,_,_,_,Vx W,_,qh _,_,_,_,Vy W,(Fc ok.wf w u.row ru rv kind f).mono ?_⟩) (λq=>?_)⟩) (λq=>by cases q)
 ·rintro _ g2 ⟨rfl,t⟩;have x:=ok.trans t;have o:=u.ok t;have r:=t.ext _ _ C;refine⟨_,rfl,aa (λ_=>⟨_,qg _,_,_,_,Vx r,_,qh _,_,_,_,Vy r,aa (λ_=>F4 (k:=0) (km:=0) Z x w o X) (λ_=>⟨_,o.all,_,qg _,_,_,_,Vx r,_,qh _,_,_,_,Vy r,(Fc t.wf w o.row (cM.ok rx t) (cM.ok ry t) kind wt).mono ?_⟩)⟩) (λq=>by rw[h1]at q;cases q)⟩;rintro _ g3 ⟨rfl,Y⟩;exact⟨_,rfl,aa (λ_=>F4 (k:=0) (km:=0) Z (x.trans Y) w (o.ok Y) X) (λq=>by rw[j]at q;cases q)⟩
 ·exfalso;have q:=dF q;have hm:(if(ys.length:Int)>(xs.length:Int)then(ys.length:Int)else(xs.length:Int))=((max xs.length ys.length:Nat):Int):=by
   split<;>omega
  rw[hm,aO (i:=max xs.length ys.length) (n:=max xs.length ys.length+1) (by omega) (by omega)]at q;omega
theorem Oo(w:Wf h)(O:nz h)(o:cM h (.slice xa xs.length xc) xs)(p:cM h (.slice ya ys.length yc) ys)(F:cM h (.slice ua us.length uc) us)(D:cM h (.slice va vs.length vc) vs)(hu:us.length<=281474976710656)(hv:vs.length<=281474976710656):
  FW SS 3 [.int .i64 kind,.agg ⟨[.slice xa xs.length xc,.slice ya ys.length yc]⟩,strOf wt,.agg ⟨[.slice ua us.length uc,.slice va vs.length vc]⟩] h (EQ h):=by
 have o1:=(Ok.refl w).push (BW (.slice xa xs.length xc) (.slice ya ys.length yc));have i:=aI h (BW (.slice xa xs.length xc) (.slice ya ys.length yc));refine On kind xa _ xc ya _ yc wt ua _ uc va _ vc h _ ⟨_,YA ..,_,YA ..,?_⟩;generalize h.push (BW (.slice xa xs.length xc) (.slice ya ys.length yc))=g2 at*;have o2:=(Ok.refl o1.wf).push (BW (.slice ua us.length uc) (.slice va vs.length vc));have x:=aI g2 (BW (.slice ua us.length uc) (.slice va vs.length vc));generalize g2.push (BW (.slice ua us.length uc) (.slice va vs.length vc))=g4 at*;have j:=o1.trans o2;have i:=o2.ext _ _ i;have o:=cM.ok o j;have p:=cM.ok p j;have F:=cM.ok F j;have D:=cM.ok D j;refine aa (λ_=>Ip O j) (λhl=>⟨_,qg _,_,_,_,Vx x,_,qh _,_,_,_,Vy x,(O1 F D hu hv).mono ?_⟩);have hl:wt.length<=40:=by have:=dF hl;omega
 rintro _ g5 ⟨rfl,C⟩;obtain rfl:g4=g5:=C.symm;refine⟨_,rfl,aa (λ_=>Ip O j) (λhw=>⟨_,qg _,_,_,_,Vx i,_,qh _,_,_,_,Vy i,oP (wI j.wf (O.ok j) o p (by omega)) (e:=(qN kind xs ys wt).2) (R:=(qN kind xs ys wt).1) rfl λx5 a n c u ob st P Y=>⟨_,qy,u,st,?_⟩⟩)⟩;rw[Bool.not_eq_false']at hw;unfold Mx at hw;rw[and_eq_true,and_eq_true]at hw;obtain⟨_,wu,wv⟩:=hw;generalize u.app (x5.push mG)=g at*;generalize x5.next=kn at*;have E:=j.trans P;have i:=P.ext _ _ i;have x:=P.ext _ _ x;have o:=cM.ok o P;have p:=cM.ok p P;have F:=cM.ok F P;have D:=cM.ok D P;have x6:¬(dn xs&&(dn ys&&bj kind wt))=true->qN kind xs ys wt=(tP,1):=λc=>if_neg c;have B:∀{V:ae},Ok h V->¬(dn xs&&(dn ys&&bj kind wt))=true->au ((((qN kind xs ys wt).2:Int)==1)) (FW SS 12 [] V λv h'=>yB v λb=>EQ h (.bool b) h') (EQ h (.bool false) V):=λy2 c=>by
  rw[x6 c];exact aa (λ_=>Ip O y2) (λq=>by cases q)
 refine(m9 kind g).mono ?_;rintro _ T ⟨rfl,C⟩;obtain rfl:g=T:=C.symm;refine⟨_,rfl,aa (λq=>B E λc=>?_) (λq=>⟨_,qg _,_,_,_,Vx i,(qM o).mono ?_⟩)⟩
 ·rw[and_eq_true,and_eq_true]at c;have:=c.2.2;unfold bj at this;rw[and_eq_true,and_eq_true,decide_eq_true_eq]at this;rw[not_eq_true',decide_eq_true this.1.1.1,decide_eq_true this.1.1.2]at q
  cases q
 rintro _ T ⟨rfl,C⟩;obtain rfl:g=T:=C.symm;refine⟨_,rfl,aa (λq=>B E λc=>?_) (λs=>⟨_,qh _,_,_,_,Vy i,(qM p).mono ?_⟩)⟩
 ·rw[not_eq_true']at q;rw[q]at c;cases c
 rintro _ T ⟨rfl,C⟩;obtain rfl:g=T:=C.symm;refine⟨_,rfl,aa (λq=>B E λc=>?_) (λG=>(mU kind wt (by omega) E.wf).mono ?_)⟩
 ·rw[not_eq_true']at q;rw[q,Bool.false_and,Bool.and_false]at c;cases c
 rintro _ T ⟨rfl,I⟩;refine⟨_,rfl,aa (λq=>B (E.trans I) λc=>?_) (λy=>?_)⟩
 ·rw[not_eq_true']at q;rw[q,Bool.and_false,Bool.and_false]at c;cases c
 rw[Bool.not_eq_false']at s G y;have U:1<=kind/\kind<=3:=by
  unfold bj at y;rw[and_eq_true,and_eq_true,decide_eq_true_eq]at y;exact y.1.1
 have hr:qN kind xs ys wt=(jd kind xs ys wt,0):=if_pos (by rw[s,G,y];rfl);rw[hr]at Y⊢;dsimp only at Y⊢;have lx:=kJ s;have ly:=kJ G;have lu:=kJ wu;have lv:=kJ wv;obtain⟨K,S,y6,Z⟩:=wC U;have Q:=NL U s G y;have t:=zU (kind:=kind) (xs:=xs) (ys:=ys) (wt:=wt);have sm:Small (jd kind xs ys wt):=Q.small (by rw[t];omega) (by rw[F3];omega);have H:=λu v=>U4 (wt:=wt) U Z s G u v;have x0:aM kind (bE kind)=true:=ss U;have A:te (jd kind xs ys wt) kind xs ys wt=true:=holds_of (M:=jd kind xs ys wt) Z Q.valid s G (mF y) (by rw[H,if_pos ⟨rfl,rfl⟩]);have L:∀{e:Int},(e=0↔xs=ys)->e=0->Gr (jd kind xs ys wt)=true:=λhe e=>by
  have:=he.1 e;subst this;exact QO U s y
 have X:∀{g:ae}{a b:Option Addr}{n c m d:Nat}{l l':List Int},Wf g->l.length<=200->cM g (.slice a n c) l->cM g (.slice b m d) l'->FW SS 17 [.slice a n c,.slice b m d] g (λv V=>(∃z:Int,v = .int .i64 z/\(z=0↔l=l'))/\Ok g V):=λw hl r r'=>R8 w (by omega) r r';have y5:=E.trans I;have x1:=I.ext _ _ i;have y3:=cM.ok o I;have y0:=cM.ok p I;refine⟨_,qg _,_,_,_,Vx x1,_,qh _,_,_,_,Vy x1,(X I.wf lx y3 y0).mono ?_⟩;rintro _ g7 ⟨⟨z0,rfl,W⟩,o7⟩;refine⟨_,rfl,(gO U g7).mono ?_⟩;rintro _ g8 ⟨rfl,C⟩;obtain rfl:g7=g8:=C.symm;have p7:=I.trans o7;have y4:=p7.ext _ _ i;have x8:=p7.ext _ _ x;refine⟨_,rfl,_,qg _,_,_,_,Vx y4,_,qg _,_,_,_,Vx x8,(X o7.wf lx (cM.ok o p7) (cM.ok F p7)).mono ?_⟩;rintro _ g9 ⟨⟨z1,rfl,x4⟩,o9⟩;have k:=p7.trans o9;have y1:=k.ext _ _ i;have x9:=k.ext _ _ x;have x3:¬(us=xs/\vs=ys)->te (jd kind xs ys wt) kind us vs (bE kind)=true:=λc=>holds_of (M:=jd kind xs ys wt) Z Q.valid wu wv x0 (by rw[H,if_neg c];exact Z.zero.symm);refine⟨_,rfl,aa (λN=>⟨_,qh _,_,_,_,Vy y1,_,qh _,_,_,_,Vy x9,(X o9.wf ly (cM.ok p k) (cM.ok D k)).mono ?_⟩) (λN=>?_)⟩
 ·have N:z1=0:=by simpa using N
  have e1:=x4.1 N;rintro _ y7 ⟨⟨z2,rfl,x2⟩,x7⟩;have f:=k.trans x7;refine⟨_,rfl,aa (λJ=>?_) (λJ=>?_)⟩
  ·have J:z2=0:=by simpa using J
   have e2:=x2.1 J;exact zW O (E.trans f) sm (Y.ok f) (L W) (f.ext _ _ i) (f.ext _ _ x) (cM.ok o f) (cM.ok p f) (cM.ok F f) (cM.ok D f) s G t (holds_of (M:=jd kind xs ys wt) Z Q.valid wu wv (mF y) (by rw[H,if_pos ⟨e1.symm,e2.symm⟩])) A
  ·have J:¬z2=0:=by simpa using J
   exact zW O (E.trans f) sm (Y.ok f) (L W) (f.ext _ _ i) (f.ext _ _ x) (cM.ok o f) (cM.ok p f) (cM.ok F f) (cM.ok D f) s G t (x3 λc=>J (x2.2 c.2.symm)) A
 ·have N:¬z1=0:=by simpa using N
  exact zW O (E.trans k) sm (Y.ok k) (L W) (k.ext _ _ i) (k.ext _ _ x) (cM.ok o k) (cM.ok p k) (cM.ok F k) (cM.ok D k) s G t (x3 λc=>N (x4.2 c.1.symm)) A
end
end
end Go.Proofs.YtaaichlgdgjgjaaGreatDoor
end
section
namespace Go.Proofs.YtaaichlgdgjgjaaGreatDoor
open Go.Shelf Go.RowKit Go.Lib Go.Sort
def J6:Go.Shelf.Ren:=⟨fun|5=>81|8=>101|7=>100|19=>134|20=>135|10=>125|11=>126|12=>127|13=>128|14=>129|15=>130|16=>131|17=>132|18=>133|30=>160|31=>161|32=>162|33=>163|34=>164|35=>165|40=>182|n=>n,fun|23=>22|25=>3|3=>3|32=>111|22=>22|0=>0|44=>148|46=>150|4=>4|36=>140|35=>139|41=>145|5=>5|9=>9|53=>166|57=>170|63=>185|64=>186|n=>n,fun|n=>n⟩
theorem XQ:Go.Proofs.SlLaysM.n5 Tryz.prog J6:={
 mixed:=by kernel_rfl,
 f5:=⟨Tryz.f81.name,by decide,Tryz.func81.trans (congrArg some (by kernel_rfl))⟩,
 f7:=⟨Tryz.f100.name,by decide,Tryz.func100.trans (congrArg some (by kernel_rfl))⟩,
 f8:=Tryz.func101.trans (congrArg some (by kernel_rfl)),
 f10:=⟨Tryz.f125.name,by decide,Tryz.func125.trans (congrArg some (by kernel_rfl))⟩,
 f11:=⟨Tryz.f126.name,by decide,Tryz.func126.trans (congrArg some (by kernel_rfl))⟩,
 f12:=⟨Tryz.f127.name,by decide,Tryz.func127.trans (congrArg some (by kernel_rfl))⟩,
 f13:=⟨Tryz.f128.name,by decide,Tryz.func128.trans (congrArg some (by kernel_rfl))⟩,
 f14:=⟨Tryz.f129.name,by decide,Tryz.func129.trans (congrArg some (by kernel_rfl))⟩,
 f15:=⟨Tryz.f130.name,by decide,Tryz.func130.trans (congrArg some (by kernel_rfl))⟩,
 f16:=⟨Tryz.f131.name,by decide,Tryz.func131.trans (congrArg some (by kernel_rfl))⟩,
 f17:=⟨Tryz.f132.name,by decide,Tryz.func132.trans (congrArg some (by kernel_rfl))⟩,
 f18:=⟨Tryz.f133.name,by decide,Tryz.func133.trans (congrArg some (by kernel_rfl))⟩,
 f19:=Tryz.func134.trans (congrArg some (by kernel_rfl)),
 f20:=Tryz.func135.trans (congrArg some (by kernel_rfl)),
 f30:=⟨Tryz.f160.name,by decide,Tryz.func160.trans (congrArg some (by kernel_rfl))⟩,
 f31:=Tryz.func161.trans (congrArg some (by kernel_rfl)),
 f32:=Tryz.func162.trans (congrArg some (by kernel_rfl)),
 f33:=⟨Tryz.f163.name,by decide,Tryz.func163.trans (congrArg some (by kernel_rfl))⟩,
 f34:=⟨Tryz.f164.name,by decide,Tryz.func164.trans (congrArg some (by kernel_rfl))⟩,
 f35:=⟨Tryz.f165.name,by decide,Tryz.func165.trans (congrArg some (by kernel_rfl))⟩,
 f40:=⟨Tryz.f182.name,by decide,Tryz.func182.trans (congrArg some (by kernel_rfl))⟩,
 t0:=Tryz.underlying0,
 a0:=Tryz.isAgg0,
 z0:=Tryz.sizeOf0,
 v0:=Tryz.zeroValue0,
 t3:=Tryz.underlying3,
 a3:=Tryz.isAgg3,
 z3:=Tryz.sizeOf3,
 v3:=Tryz.zeroValue3,
 t4:=Tryz.underlying4,
 a4:=Tryz.isAgg4,
 z4:=Tryz.sizeOf4,
 v4:=Tryz.zeroValue4,
 t5:=Tryz.underlying5,
 a5:=Tryz.isAgg5,
 z5:=Tryz.sizeOf5,
 v5:=Tryz.zeroValue5,
 t9:=Tryz.underlying9,
 a9:=Tryz.isAgg9,
 z9:=Tryz.sizeOf9,
 v9:=Tryz.zeroValue9,
 t22:=Tryz.underlying22,
 a22:=Tryz.isAgg22,
 z22:=Tryz.sizeOf22,
 v22:=Tryz.zeroValue22,
 t23:=Tryz.underlying22,
 a23:=Tryz.isAgg22,
 z23:=Tryz.sizeOf22,
 v23:=Tryz.zeroValue22,
 t25:=Tryz.underlying3,
 a25:=Tryz.isAgg3,
 z25:=Tryz.sizeOf3,
 v25:=Tryz.zeroValue3,
 t32:=Tryz.underlying111,
 a32:=Tryz.isAgg111,
 z32:=Tryz.sizeOf111,
 v32:=Tryz.zeroValue111,
 t35:=Tryz.underlying139,
 a35:=Tryz.isAgg139,
 z35:=Tryz.sizeOf139,
 v35:=Tryz.zeroValue139,
 t36:=Tryz.underlying140,
 a36:=Tryz.isAgg140,
 z36:=Tryz.sizeOf140,
 v36:=Tryz.zeroValue140,
 t41:=Tryz.underlying145,
 a41:=Tryz.isAgg145,
 z41:=Tryz.sizeOf145,
 v41:=Tryz.zeroValue145,
 t44:=Tryz.underlying148,
 a44:=Tryz.isAgg148,
 z44:=Tryz.sizeOf148,
 v44:=Tryz.zeroValue148,
 t46:=Tryz.underlying150,
 a46:=Tryz.isAgg150,
 z46:=Tryz.sizeOf150,
 v46:=Tryz.zeroValue150,
 t53:=Tryz.underlying166,
 a53:=Tryz.isAgg166,
 z53:=Tryz.sizeOf166,
 v53:=Tryz.zeroValue166,
 t57:=Tryz.underlying170,
 a57:=Tryz.isAgg170,
 z57:=Tryz.sizeOf170,
 v57:=Tryz.zeroValue170,
 t63:=Tryz.underlying185,
 a63:=Tryz.isAgg185,
 z63:=Tryz.sizeOf185,
 v63:=Tryz.zeroValue185,
 t64:=Tryz.underlying186,
 a64:=Tryz.isAgg186,
 z64:=Tryz.sizeOf186,
 v64:=Tryz.zeroValue186 }
end Go.Proofs.YtaaichlgdgjgjaaGreatDoor
end
section
namespace Go.Proofs.YtaaichlgdgjgjaaGreatDoor
open Go Go.Ab Go.RowKit
theorem CR:oF Tryz.prog Vz 222 qI:=Jo (fn:=(Tryz.prog.funcs[222]?).getD default) (by kernel_rfl) (by kernel_rfl) (by kernel_rfl) (by kernel_rfl) (by kernel_rfl)
theorem AV:oF Tryz.prog Vz 226 pj:=GK (fn:=(Tryz.prog.funcs[226]?).getD default) (by kernel_rfl) (by kernel_rfl) (by kernel_rfl) (by kernel_rfl) (by kernel_rfl)
theorem Ex:oF Tryz.prog Vz 166 (wb Tryz.prog Vz Tryz.f166 (Mh EV) (Hs (Hs EV)) 5):=
 Sg NG.names Tryz.func166 rfl rfl rfl rfl rfl rfl rfl Tryz.func183 rfl GJ (by kernel_rfl) (by kernel_rfl)
theorem Mn:oF Tryz.prog Vz 81 De:=Uy XQ (f5:=Tryz.f81) Tryz.func81 (by kernel_rfl)
theorem Tv:q9 Tryz.prog Vz prS:=nV Mn (nV CR (nV AV (nV Ex Jy)))
end Go.Proofs.YtaaichlgdgjgjaaGreatDoor
end
section
namespace Go.Proofs.YtaaichlgdgjgjaaGreatDoor
open Go Go.Ab Go.ChangeShapes Go.RowKit
theorem co3:Tryz.prog.cellsOf 3=1:=by kernel_rfl
theorem aby:Tryz.prog.cellsOf 150=1:=by kernel_rfl
theorem Tb{a c:Type}{p:a->c}{P:a->Prop}:∀{l:List c},(∀x∈l,∃q,x=p q/\P q)->∃k:List a,l=k.map p/\∀q∈k,P q
 |[],_=>⟨[],rfl,λ_ h=>by cases h⟩
 | x::l,h=>by
  obtain⟨q,rfl,e⟩:=h x (List.mem_cons_self ..);obtain⟨k,rfl,f⟩:=Tb λx d=>h x (List.mem_cons_of_mem _ d);exact⟨q::k,rfl,λy b=>by
   rcases List.mem_cons.1 b with rfl|b
   ·exact e
   ·exact f y b⟩
end Go.Proofs.YtaaichlgdgjgjaaGreatDoor
end
section
namespace Go.Proofs.YtaaichlgdgjgjaaGreatDoor
open Go Go.ChangeShapes Go.WideShapes Go.ChangeAt Go.RowKit
theorem Up:ownKnob Tryz.prog.godebug=none:=by kernel_rfl
abbrev m4{H:Type}:List (String×DataW H):=[("math/bits.deBruijn32tab",Rows.laid_math_bits_deBruijn32tab),("math/bits.deBruijn64tab",Rows.laid_math_bits_deBruijn64tab),("internal/strconv.uint64pow10",Rows.laid_internal_strconv_uint64pow10)]
def ZY:DataW Unit->Value
 |.lit (.int k n)=> .int k n
 |_=>undef
def Ck:DataW Unit->Array Value
 |.agg l=>(l.map ZY).toArray
 |_=> #[]
def S0(c:Array Value):Obj->Obj
 |.cells _ t a=> .cells c t a
 |o=>o
noncomputable def Fe(a:Os):World:=
 { World.holding Tryz.prog a ⟨#[],#[],[]⟩with heap:=(((World.holding Tryz.prog a ⟨#[],#[],[]⟩).heap.modify 2 (S0 (Ck Rows.laid_math_bits_deBruijn32tab))).modify 3 (S0 (Ck Rows.laid_math_bits_deBruijn64tab))).modify 1 (S0 (Ck Rows.laid_internal_strconv_uint64pow10)) }
theorem Eh(b:Os)(a:Array Value):laidMetH Tryz.prog m4 ((Fe b).forCall (λ_ _=>0) ⟨#[],a,[]⟩).memory:=
 laidMetH_of_parts (laidMet_of_run' 24 (by kernel_rfl) (by kernel_rfl)) (by kernel_rfl)
end Go.Proofs.YtaaichlgdgjgjaaGreatDoor
end
section
namespace Go.Proofs.YtaaichlgdgjgjaaGreatDoor
open Go Go.Ab Go.ChangeShapes Go.WideShapes Go.RowKit
section
theorem CG{P:Program}{w:World}:∀{l:List (String×DataW Unit)}{c:List MemPlace},DataW.LaidVars P w l c->∀n d,(n,d)∈l->
  ∃g t cs a p,P.globalNamed n=some g/\(P.globals[g]?).map (·.type)=some t/\w.var? P n=some cs/\DataW.trod (λ_=>()) P w 0 (λ_=>true) false a t cs.toList=some (d,p)
 |[],_,_,_,_,b=>by cases b
 | (s,o)::r,c,h,n,d,b=>by
  obtain⟨g,t,cs,a,p,q,i,j,f,k,m,_⟩:=h;rcases List.mem_cons.1 b with e|e
  ·cases e
   exact⟨g,t,cs,a,p,i,j,f,k⟩
  ·exact CG m n d e
theorem Tu:Rows.laid_internal_strconv_uint64pow10=(.agg ((List.range 20).map λi=>(.lit (.int .u64 ((10^i:Nat):Int)):DataW Unit)):DataW Unit):=by kernel_rfl
section
variable {W:World}
theorem Xm(j:laidMetH Tryz.prog m4 W):∃cs t a,W.heap[1]?=some (.cells cs t a)/\∀s,gB s Kc 0 cs:=by
 rw[MakeChecks.laidMetH_plain _ _ _ (by kernel_rfl)]at j;obtain⟨F,l,_⟩:=j;obtain⟨g,t,cs,x,p,r,E,b,C⟩:=CG l "internal/strconv.uint64pow10" Rows.laid_internal_strconv_uint64pow10 (by simp[m4]);obtain rfl:=oI ((show Tryz.prog.globalNamed "internal/strconv.uint64pow10" = some 1 by kernel_rfl).symm.trans r);obtain rfl:=oI ((show(Tryz.prog.globals[1]?).map (·.type)=some 230 by kernel_rfl).symm.trans E);obtain⟨f,m,_,D,_,l,o⟩:=DataW.trod_array Tryz.underlying230 C;have w:f.map (·.1)=(List.range 20).map λi=>(.lit (.int .u64 ((10^i:Nat):Int)):DataW Unit):=by
  have:=(Prod.mk.inj D).1.symm.trans Tu;exact DataW.agg.inj this
 have d:∃t a,W.heap[1]?=some (.cells cs t a):=by
  simp only[World.var?,r,Option.bind_some]at b;split at b
  ·next c t a d=>obtain rfl:=oI b;exact⟨t,a,d⟩
  ·cases b
 obtain⟨t,a,d⟩:=d;refine⟨cs,t,a,d,λs k v h=>?_⟩;have e:k<20:=by
  have:=(List.getElem?_eq_some_iff.1 h).1;simpa[Kc]using this
 have b:v=uv (10^k):=by
  simp[Kc,List.getElem?_range e]at h;exact h.symm
 have n:=o k e;rw[aby,Nat.mul_one,gE (by omega)]at n;obtain⟨z,u,B,_⟩:=DataW.trod_int Tryz.underlying150 n;have q:(f.map (·.1))[k]?=some (.lit (.int .u64 ((10^k:Nat):Int))):=by rw[w];simp[List.getElem?_range e]
 rw[List.getElem?_map,gE (by omega:k<f.length),B]at q;have A:z=((10^k:Nat):Int):=by
  simpa using q
 subst A;have:cs.toList[k]?=some (.int .u64 ((10^k:Nat):Int)):=by
  have y:((cs.toList.drop k).take 1)[0]?=some (.int .u64 ((10^k:Nat):Int)):=by rw[u];rfl
  simpa using y
 refine⟨.int .u64 ((10^k:Nat):Int),by simpa using this,?_⟩;rw[b];exact .int _ _
theorem WN(c:laidMetH Tryz.prog m4 W):∃a h,EA a h W/\Gl Vz a/\nz h:=by
 obtain⟨cs,t,f,b,e⟩:=Xm c;refine⟨_,_,(ac5 1 W).push b (e _),λg d=>?_,t,false,ae.iI ⟨1,.nil⟩ _⟩;have:g=1:=by simpa[Vz]using d
 subst this;exact⟨_,dO.cP _ _ _,rfl,rfl,rfl⟩
end
end
variable{n:Nat}{J:dO}{h:ae}
section
theorem bo3:Tryz.prog.bytesOf 3=8:=by kernel_rfl
section
variable {H:Type} {enc:TypeId×Value->H} {W:World} {held:Bool}
theorem Fa{cs:List Value}{y:DataW H×List MemPlace}(h:DataW.trod enc Tryz.prog W 0 (λ_=>true) held n 22 cs=some y)(c:(y.1.weights Tryz.prog 22).all (· <=reachBytes)=true):
  ∃(v:Value)(l:List Int),cs=[v]/\Rg W v 1 (l.map qi)/\l.length<=281474976710656:=by
 obtain⟨v,f,b,r,d,a⟩:=PU (P:=Tryz.prog) (p:=λcs=>∃z:Int,cs=qi z/\True) Tryz.underlying22 co3 (by decide) (λn cs y h _=>by
  obtain⟨z,e,_,_⟩:=DataW.trod_int Tryz.underlying3 h;exact⟨z,e,trivial⟩) h c
 obtain⟨l,rfl,_⟩:=Tb d;refine⟨v,l,b,r,?_⟩;rw[bo3,lM]at a;unfold reachBytes at a;omega
theorem Fg(i:EA J h W){v:Value}{l:List Int}(r:Rg W v 1 (l.map qi))(B:∀a,v = .slice (some a) 0 0->a.spot=none/\∃cs t s,W.heap[a.block]?=some (.cells cs t s)):
  ∃g u a c,EA g u W/\J.le g/\Ok h u/\aG g (.slice a l.length c) v/\cM u (.slice a l.length c) l/\l.length<=bN c:=by
 obtain⟨D,⟨rfl,q⟩|⟨a,rfl,q⟩|⟨b,d,f,cs,t,s,rfl,y,E,p,F,C⟩⟩:=r
 ·obtain rfl:l=[]:=by simpa using q
  exact⟨J,h,none,0,i,J.le_refl,Ok.refl i.wf,.oW,.inl ⟨rfl,rfl⟩,Nat.zero_le _⟩
 ·obtain rfl:l=[]:=by simpa using q
  obtain⟨x,cs,t,s,p⟩:=B a rfl;obtain⟨b,d,w⟩:=a
  cases (show w=none from x)
  have o:=i.push (cs:=[]) p (λk v e=>by simp at e);exact⟨_,_,some ⟨h.next,0,none⟩,0,o,i.le _,(Ok.refl i.wf).push _,aG.slice (n:=0) (c:=0) (c':=0) (sl:=Ho b cs.size t) (dO.cP _ _ _) rfl (λ_=>rfl) (λh=>by unfold di at h;omega) (by unfold bN;split<;>omega) (.inr ⟨rfl,rfl⟩) (.inl rfl),.inr ⟨h.next,0,_,0,false,t,0,rfl,ae.iI _ _,.inr rfl,rfl⟩,Nat.zero_le _⟩
 ·rw[lM]at y⊢;have j:gB J (List.replicate d iC++l.map zV) 0 cs:=λk v e=>by
   rw[Nat.zero_add];rw[List.getElem?_append]at e;split at e
   ·next m=>
    rw[List.length_replicate]at m;rw[List.getElem?_replicate,if_pos m]at e;obtain rfl:=oI e;exact⟨_,Array.getElem?_eq_getElem (by omega),.iC _⟩
   ·next m=>
    rw[List.length_replicate]at m e;rw[List.getElem?_map]at e;obtain⟨z,A,rfl⟩:=Option.map_eq_some_iff.1 e;have:=C (k-d) (qi z) (by rw[List.getElem?_map,A];rfl) 0 (by omega);rw[show d+((k-d)*1+0)=k by omega]at this;exact⟨_,this,.int _ _⟩
  have o:=i.push p j;refine⟨_,_,some ⟨h.next,d,none⟩,f,o,i.le _,(Ok.refl i.wf).push _,aG.slice (sl:=Ho b cs.size t) (i:=d) (n:=l.length) (c:=f) (i':=d) (c':=f) (dO.cP _ _ _) rfl (λ_=>rfl) (λh=>by omega) (by unfold bN;split<;>omega) (.inl (by simp)) (.inl rfl),.inr ⟨h.next,d,_,f,false,t,0,rfl,ae.iI _ _,.inr rfl,?_⟩,by unfold bN;split<;>omega⟩;rw[List.drop_append,List.length_replicate,List.drop_eq_nil_of_le (by simp),List.nil_append,Nat.sub_self,List.drop_zero,List.take_of_length_le (by simp)];rfl
end
end
variable{v:Value}{c:List Value}{g:ae}{f:FuncId}{F:Func}
section
section
variable {W:World}
def Ldx(W:World)(v:Value)(S:Value->ae->Prop):Prop:=(∀c h a,Ok h a->S c h->S c a)/\∀{d:dO}{h:ae},EA d h W->∃b a c,EA b a W/\d.le b/\Ok h a/\aG b c v/\S c a
def Lds(W:World)(e:List Value)(T:List Value->ae->Prop):Prop:=∀{d:dO}{h:ae},EA d h W->∃a c b,EA a c W/\d.le a/\Ok h c/\bA a b e/\T b c
theorem WV:Lds W [] λa _=>a=[]:=λ{b h} i=>⟨b,h,[],i,b.le_refl,Ok.refl i.wf,.nil _,rfl⟩
theorem wZ{S:Value->ae->Prop}{T:List Value->ae->Prop}(a:Ldx W v S)(b:Lds W c T):Lds W (v::c) λe h=>∃x r,e=x::r/\S x h/\T r h:=λ{w h} i=>by
 obtain⟨t,u,x,l,q,j,n,s⟩:=a.2 i;obtain⟨d,p,r,m,g,f,o,k⟩:=b l;exact⟨d,p,x::r,m,dO.le_trans q g,j.trans f,.cons (n.mono g) o,x,r,rfl,a.1 _ _ _ f s,k⟩
def acE(v:Value)(_:ae):Prop:=∃z:Int,v = .int .i64 z
def acF(v:Value)(_:ae):Prop:=∃l:List UInt8,v=strOf l
def Ri(v:Value)(h:ae):Prop:=∃(l:List Int)(a:Option Addr)(c:Nat),v = .slice a l.length c/\cM h (.slice a l.length c) l/\l.length<=281474976710656/\l.length<=bN c
def acG(v:Value)(h:ae):Prop:=∃x y,v = .agg ⟨[x,y]⟩/\Ri x h/\Ri y h
theorem Ri.ok(o:Ok h g)(s:Ri v h):Ri v g:=by
 obtain⟨l,a,c,d,e,b,f⟩:=s;exact⟨l,a,c,d,e.ok o,b,f⟩
theorem ZW{base:Nat}(a:Value.okWide Tryz.prog W .any base 3 v):Ldx W v acE:=by
 obtain⟨z,rfl⟩:=okWide_int Tryz.underlying3 a;exact⟨λ_ _ _ _ s=>s,λ{b h} i=>⟨b,h,_,i,b.le_refl,Ok.refl i.wf,.int _ _,z,rfl⟩⟩
theorem ZX{base:Nat}(a:Value.okWide Tryz.prog W .any base 9 v):Ldx W v acF:=by
 obtain⟨s,rfl⟩:=okWide_string Tryz.underlying9 a;exact⟨λ_ _ _ _ s=>s,λ{b h} i=>⟨b,h,_,i,b.le_refl,Ok.refl i.wf,.string _,s.data.toList,rfl⟩⟩
theorem J4{b:Nat}{t:TypeId}(h:W.shape? b=some (t,n)):∃cs t a,W.heap[b]?=some (.cells cs t a):=by
 unfold World.shape? at h;split at h
 ·next c t a d=>exact⟨c,t,a,d⟩
 ·cases h
variable {H:Type} {enc:TypeId×Value->H}
theorem ac0:Tryz.prog.cellsOf 24=2:=by kernel_rfl
theorem S1{base:Nat}{B:DataW H}{p:List MemPlace}(b:Value.okWide Tryz.prog W .any base 24 v)(A:DataW.Trod enc Tryz.prog W 0 (λ_=>true) true 24 v B p)(w:(B.weights Tryz.prog 24).all (· <=reachBytes)=true):Ldx W v acG:=by
 refine⟨λE h h' o s=>?_,λ{β h} i=>?_⟩
 ·obtain⟨x,y,e,s1,s2⟩:=s;exact⟨x,y,e,s1.ok o,s2.ok o⟩
 have U:=b;simp only[Value.okWide,Tryz.underlying24]at b;obtain⟨cs,rfl,G,ts,Q,_,hc⟩:=b;obtain rfl:=oI ((show Tryz.prog.cellTypes Tryz.prog.depth 24=some [22,22] by kernel_rfl).symm.trans Q);obtain⟨x0,A⟩:=A;obtain⟨y0,y1,m,ex,hl,h0,K⟩:=trod_struct2 Tryz.underlying24 A;obtain rfl:B = .agg [y0.1,y1.1]:=(Prod.mk.inj ex).1;simp only[DataW.weights,Tryz.underlying24,DataW.weightsEach,List.map,List.append_nil,List.all_append,and_eq_true]at w;obtain⟨g⟩:=cs;have N:g.length=2:=G.trans ac0
 match g,N with
 | [q,k],_=>
  obtain⟨u,l,z,r0,n0⟩:=Fa h0 w.1;obtain⟨O,L,r,r1,Y⟩:=Fa K w.2;have z:q=u:=by
   have:[q]=[u]:=z;simpa using this
  have r:k=O:=by
   have:[k]=[O]:=r;simpa using this
  subst z;subst r;have f:∀(j:Nat)(E:Value),[q,k][j]?=some E->∀a,E = .slice (some a) 0 0->a.spot=none/\∃cs t fr,W.heap[a.block]?=some (.cells cs t fr):=λj E n a e=>by
   obtain⟨u,d,P⟩:=hc j E (by simpa using n);obtain rfl:22=u:=by
    match j,n,d with
    |0,_,d=>exact oI d
    |1,_,d=>exact oI d
    |j+2,n,_=>simp at n
   subst e;simp only[Cell.okWide,Cell.ok,Tryz.underlying22]at P;obtain⟨_,_,_,hs,x2,V,S,_⟩:=P;exact⟨hs,J4 S⟩
  obtain⟨x1,K,a,c,Z,l1,X,q1,T,D⟩:=Fg i r0 (f 0 q rfl);obtain⟨J,h2,M,C,i2,g,R,q2,F,I⟩:=Fg Z r1 (f 1 k rfl);exact⟨J,h2,.agg ⟨[.slice a l.length c,.slice M L.length C]⟩,i2,dO.le_trans l1 g,X.trans R,.agg rfl (jG.toList.2 (.cons (q1.mono g) (.cons q2 (.nil _)))).2,_,_,rfl,⟨l,a,c,rfl,T.ok R,n0,D⟩,⟨L,M,C,rfl,F,Y,I⟩⟩
theorem O2(m:Tryz.prog.funcs[f]?=some F)(b:F.body.isSome=true)(q:f<YB){a:Array Value}{T:List Value->ae->Prop}(l:Lds W a.toList T)(p:laidMetH Tryz.prog m4 W)
  (i:∀{h:ae}{c:List Value}(_:nz h)(_:Wf h),T c h->FW SS f c h (EQ h)):Calls Tryz.prog f a W λe d=>e = .returned (.bool true)/\Below W.heap.size W d:=by
 obtain⟨t,C,k,v,n⟩:=WN p;obtain⟨y,z,c,g,s,j,o,u⟩:=l k;refine(Iy NG Tv (i (n.ok j) g.wf u) q m b g (v.mono s) (args':=a) o).mono ?_;rintro e d ⟨x,A,B,w,rfl,⟨rfl,_⟩,r,_,b⟩
 cases r
 exact⟨rfl,b⟩
end
end
end Go.Proofs.YtaaichlgdgjgjaaGreatDoor
end
section
namespace Go.Proofs.YtaaichlgdgjgjaaGreatDoor
open Go Go.Ab Go.ChangeShapes Go.WideShapes Go.ChangeAt Go.RowKit
theorem uf:laidOutB Tryz.prog=true:=by kernel_rfl
set_option maxRecDepth 100000 in
theorem wL(l:Os)(k:l.Started)(H:Type)(d:TypeId×Value->H):
  ReturnsInHanded {} Tryz.checked l 3 .any (λw b=>(Rows.buildWordsSpec.pre d Tryz.prog Tryz.f3 [] false w b/\laidMetH Tryz.prog m4 w)/\sizedMet d Tryz.prog Tryz.f3 (OpenSpec.ofChange Rows.buildWordsSpec) false w b)
   (Rows.buildWordsSpec.post d Tryz.prog Tryz.f3 false true false false):=by
 refine returnsInHanded_of_change_and (C:=Tryz.checked) (X:=λw _=>laidMetH Tryz.prog m4 w) (λ_ _ _ hh h=>h.of_heap hh) Up k (by kernel_rfl) Tryz.func3
  (ChangeSpec.witness_at (enc:=d) (C:=Tryz.checked) (os:=l) (X:=λw _=>laidMetH Tryz.prog m4 w) false (Fe l) #[.int .i64 0,.agg #[.slice none 0 0,.slice none 0 0],.string ⟨#[]⟩,.agg #[.slice none 0 0,.slice none 0 0]] 8 rfl (by kernel_rfl) (by kernel_rfl) (by kernel_rfl) (by kernel_rfl) (by kernel_rfl) (Eh l _)) ?_
 intro W base b N gs G o Q _ x5 hL _;have c:∀(j:Nat) t v,Tryz.f3.params[j]?=some t->b[j]?=some v->Value.okWide Tryz.prog W .any base t v:=o;have n:=Q;obtain⟨p,q,I,hV,rfl,z9,y2⟩:=Q;have hA:DataW.TrodAll d Tryz.prog W 0 (λ_=>true) true Tryz.f3.params.toList b.toList N p:=I;rw[Tryz.params3]at hA c;obtain⟨r,u9,F,u4,O,q0,f,rfl,rfl,t0,Z⟩:=trodAll_cons hA;obtain⟨E,u7,D,z6,p1,q1,rfl,rfl,rfl,t1,x4⟩:=trodAll_cons Z;obtain⟨y,y4,u,u6,K,q2,rfl,rfl,rfl,t2,L⟩:=trodAll_cons x4;obtain⟨s,u8,A,u5,p3,q3,rfl,rfl,rfl,V,P⟩:=trodAll_cons L;obtain⟨rfl,rfl,rfl⟩:=trodAll_nil P;have f:b = #[r,E,y,s]:=by
  rw[<-Array.toList_inj];exact f
 subst f;obtain⟨rfl,rfl⟩:=trodVars_none hV;rw[List.append_nil]at n;have R:(DataW.weightsEach Tryz.prog (Tryz.f3.params.toList++Rows.buildWordsSpec.plain.varTypes Tryz.prog) ([F,D,u,A]++[])).all (· <=reachBytes)=true:=x5;rw[Tryz.params3]at R;have S:(F.weights Tryz.prog 3++(D.weights Tryz.prog 24++(u.weights Tryz.prog 9++(A.weights Tryz.prog 24++(DataW.weightsEach Tryz.prog (Rows.buildWordsSpec.plain.varTypes Tryz.prog) []))))).all (· <=reachBytes)=true:=R;simp only[List.all_append,and_eq_true]at S;obtain⟨w0,w1,w2,w3,_⟩:=S;have ld:Lds W #[r,E,y,s].toList _:=wZ (ZW (c 0 3 r rfl rfl)) (wZ (S1 (c 1 24 E rfl rfl) t1 w1) (wZ (ZX (c 2 9 y rfl rfl)) (wZ (S1 (c 3 24 s rfl rfl) V w3) (WV))));refine(O2 Tryz.func3 (by kernel_rfl) (by unfold YB;decide) ld hL λtb w T=>?_).mono λe W2 ⟨he,m⟩=>?_
 ·obtain⟨x0,r0,rfl,s0,x1,r1,rfl,B,x2,r2,rfl,s2,x3,r3,rfl,z,rfl⟩:=T;obtain⟨z0,rfl⟩:=s0;obtain⟨y1,z1,rfl,B,u1⟩:=B;obtain⟨y0,y8,x8,rfl,Y,z4,y5⟩:=B;obtain⟨y6,u0,x9,rfl,x7,z8,z2⟩:=u1;obtain⟨l2,rfl⟩:=s2;obtain⟨y3,z3,rfl,z,u3⟩:=z;obtain⟨v4,z7,y9,rfl,M,x6,z5⟩:=z;obtain⟨u2,v6,y7,rfl,J,U,v5⟩:=u3;exact Oo w tb Y x7 M J x6 U
 subst he;have g:∀x∈O++(p1++(K++(p3++([])))),x.block<W.heap.size:=λx a=>n.lt x a;exact⟨_,rfl,SZ (ds:=[F,D,u,A]) (places:=O++(p1++(K++(p3++([]))))) rfl n m rfl rfl (λ_ _ _=>(trodAll_cons_mk (shut_bool Tryz.underlying4 _) trodAll_mk0))
  (ok_one (by kernel_rfl) rfl (okWide_bool_mk Tryz.underlying4 _)) (λsp i=>by
   rw[Tryz.params3];exact trodAll_cons_mk (WideElems.Trod_stays uf (by kernel_rfl) (dT (by kernel_rfl)) t0 (λx a=>m.same (g x (mem_append_left _ a))) (λx a=>i x (mem_append_left _ a))) (trodAll_cons_mk (WideElems.Trod_stays uf (by kernel_rfl) (dT (by kernel_rfl)) t1 (λx a=>m.same (g x (mem_append_right _ (mem_append_left _ a)))) (λx a=>i x (mem_append_right _ (mem_append_left _ a)))) (trodAll_cons_mk (WideElems.Trod_stays uf (by kernel_rfl) (dT (by kernel_rfl)) t2 (λx a=>m.same (g x (mem_append_right _ (mem_append_right _ (mem_append_left _ a))))) (λx a=>i x (mem_append_right _ (mem_append_right _ (mem_append_left _ a))))) (trodAll_cons_mk (WideElems.Trod_stays uf (by kernel_rfl) (dT (by kernel_rfl)) V (λx a=>m.same (g x (mem_append_right _ (mem_append_right _ (mem_append_right _ (mem_append_left _ a)))))) (λx a=>i x (mem_append_right _ (mem_append_right _ (mem_append_right _ (mem_append_left _ a)))))) (trodAll_mk0)))))⟩
theorem AR:Rows.BuildWordsSaid:=
 OpenClaim.holds_of_wide 3 Tryz.f3 rfl rfl rfl rfl rfl rfl rfl ⟨rfl,rfl,rfl,rfl,rfl⟩ rfl rfl rfl rfl rfl (by kernel_rfl) Tryz.func3 (by kernel_rfl)
  (dT (by kernel_rfl)) (by unfold Func.isWrapper;first|(rw[if_pos (by decide +kernel)];kernel_rfl)|(rw[if_neg (by decide +kernel)];exact⟨rfl,rfl⟩))
  (λc a H b _=>wL c a H b)
theorem buildWords_holds:Rows.BuildWordsCardSaid:=
 Claim7.holds_tied_plain_at .later [] [.data,.data,.data] true (true,"c6fdbccbd4f7b918257715cfda7cd04cead22867ce6bb9351446e2ee10eec580") true
  AR (λ_ h=>by cases h) (by kernel_rfl) (λ_ h=>by cases h) buildWords_row_tie rfl ⟨rfl,rfl⟩ (by kernel_rfl) rfl
  (λf d e b=>by
   obtain rfl:f=3:=oI ((show Tryz.prog.funcNamed "abugida/abugidalaw09.BuildWords" = some 3 by kernel_rfl).symm.trans e) |>.symm
   obtain rfl:d=Tryz.f3:=(oI (Tryz.func3.symm.trans b)).symm;exact⟨by kernel_rfl,λj t c=>by
    rw[Tryz.params3]at c;have g:t∈[3,24,9,24]:=by simpa using Array.mem_of_getElem? c
    have a:([3,24,9,24].all λu=> !Tryz.prog.wantsStandIn u)=true:=by kernel_rfl
    exact(show Tryz.prog.wantsStandIn t=false by simpa using List.all_eq_true.1 a t g)⟩)
  (by kernel_rfl)
end Go.Proofs.YtaaichlgdgjgjaaGreatDoor
end
