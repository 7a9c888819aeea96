/- Whatever is handed to it, in whatever memory, on every schedule, FunctionLess returns true. No condition. -/
import Derived.Test.YtnlccnpbjeiccaaGreatDoorPart6
import Derived.Test.YtnlccnpbjeiccaaGreatDoorPart3
import Derived.Shelf.SortM.Plain
import Derived.Shelf.SortM.SortNone
import Derived.Test.YtnlccnpbjeiccaaGreatDoorProg
import Derived.OpenShut
import Derived.MakeChecks
import Derived.FnData
import Derived.ChangeSame
import Derived.Test.YtnlccnpbjeiccaaGreatDoorRows
import Derived.ProofKit
import Derived.LaidLaws
import Derived.LaidHandle
import Derived.ChangeVars
import Derived.Test.YtnlccnpbjeiccaaGreatDoorCards
import Derived.Test.YtnlccnpbjeiccaaGreatDoorTie
import Derived.WalkKit
import Derived.Carry
import Derived.SevenTiedAt
set_option linter.unusedVariables false
set_option linter.unusedSimpArgs false
set_option maxRecDepth 100000
open List (all_append append_nil length_drop length_nil length_take map_drop map_take mem_append_left mem_append_right mem_cons mem_map)
open Bool (and_eq_true)
open Go.IntKind (wrap)
section
namespace Go.Proofs.YtnlccnpbjeiccaaGreatDoor
open Go Go.Ab Go.Num
variable{g:aa}
section
theorem acL:az SS.P 42 0 []=some (.cells [] 46 4 true,jc 0 0):=by kernel_rfl
theorem TM{d:aa}(w:Wf g)(A:Ok g d){v:Value}{b:List cq}(hA:b.length<=2000){j:Nat}(hj:j<b.length)(ox:cT g d 46 4 v (b.map dk)):
  ∃(a:Option Addr)(n c:Nat),v = .slice a n c/\∃(a1:Option Addr)(F L:Nat),bm SS.P 42 v none (some (.int .i64 (j:Int))) none (room d 16)=some (.slice a1 F L)/\
  ∃(R:Option Addr)(H N:Nat)(f:aY),aE SS.P 42 42 (sA (d.next+3) 0 0) (.slice a1 F L) (av (room d 16) d.next [(3,.cells [] 46 4 true)])=some (.slice R H N,f)/\
  ∃(C:Option Addr)(t D:Nat),(∀u,(∀k B,d.get k=some B->u.get k=some B)->bm SS.P 42 v (some (.int .i64 (wrap .i64 ((j:Int)+1)))) none none u=some (.slice C t D))/\cZ 4 (.slice C t D) (.slice C t D)=true/\
  ∃(K:Option Addr)(O I:Nat)(J:aY),aE SS.P 42 42 (.slice R H N) (.slice C t D) (f.app (av (room d 16) d.next [(3,.cells [] 46 4 true)]))=some (.slice K O I,J)/\
   (∀k B,d.get k=some B->(f.app (av (room d 16) d.next [(3,.cells [] 46 4 true)])).get k=some B)/\
   cT g (J.app (f.app (av (room d 16) d.next [(3,.cells [] 46 4 true)]))) 46 4 (.slice K O I) ((b.eraseIdx j).map dk)/\(∀k,bE (.slice K O I)=some k->d.next<=k)/\Ok d (J.app (f.app (av (room d 16) d.next [(3,.cells [] 46 4 true)]))):=by
 obtain⟨h,⟨_,U⟩|⟨k,x0,cs,c,rfl,h2,z,W,h5,Z⟩⟩:=ox
 ·rw[List.map_eq_nil_iff]at U;subst U;cases hj
 have hl:(b.map dk).length=b.length:=lM ..;obtain⟨X,b6⟩:=vV A.wf (n:=16) (j:=3) (by omega) (.cells [] 46 4 true);have eR:=(Ok.refl A.wf).room 16;have Q:=A.wf;have G:cT d (av (room d 16) d.next [(3,.cells [] 46 4 true)]) 46 4 (sA (d.next+3) 0 0) []:=cT.made (rs:=[]) b6 (λr h=>by cases h) (Nat.le_add_right _ _) (by decide);have o:∀{u:aa},u.get k=some (.cells cs 46 4 true)->_:=λ{u} s=>NM (hi:=some (.int .i64 (j:Int))) (lo:=none) (x:=0) (y:=j) zQ E1 h W h5 Z rfl rfl (Nat.zero_le _) (by omega) s;have m:∀{u:aa},u.get k=some (.cells cs 46 4 true)->_:=λ{u} s=>NM (lo:=some (.int .i64 (wrap .i64 ((j:Int)+1)))) (hi:=none) (x:=j+1) (y:=(b.map dk).length) zQ E1 h W h5 Z (by rw[bF hj (by omega)];rfl) rfl (by omega) (Nat.le_refl _) s;obtain⟨b1,F,L,S,p1,p2,p3,Y,p5,p6,p7⟩:=cT.add zQ GS xX ab0 Q X G (o (X.ext _ _ z)).2 (λr q=>h r (List.mem_of_mem_drop (List.mem_of_mem_take q))) (by rw[<-map_drop,<-map_take];exact rL _) (by rw[uc,length_nil,length_take,length_drop];omega) (by rw[length_nil,length_take,length_drop];omega) (.inr λa n c e=>by injection e with _ i p;rw[<-i,<-p];rfl);have P:=WU (λa n c e=>by injection e with _ i p;rw[<-i,<-p];rfl) p1;have T:∀k B,d.get k=some B->(S.app (av (room d 16) d.next [(3,.cells [] 46 4 true)])).get k=some B:=λk B M=>Y.ext _ _ M;obtain⟨b2,H,N,f,q1,q2,E,V,q5,q6,q7⟩:=cT.add zQ GS xX ab0 Q Y p3 (m (T _ _ z)).2 (λr q=>h r (List.mem_of_mem_drop (List.mem_of_mem_take q))) (by rw[<-map_drop,<-map_take];exact rL _) (by simp only[uc,List.length_append,length_take,length_drop,length_nil];omega) (by simp only[List.length_append,length_take,length_drop,length_nil];omega) (.inr λa n c e=>by injection e with _ i p;rw[<-i,<-p];exact P);have el:[]++((b.map dk).drop 0).take (j-0)++((b.map dk).drop (j+1)).take ((b.map dk).length-(j+1))=(b.eraseIdx j).map dk:=by
  rw[List.nil_append,List.drop_zero,Nat.sub_zero,List.take_of_length_le (l:=(b.map dk).drop (j+1)) (by simp),List.eraseIdx_eq_take_drop_succ,List.map_append,map_take,map_drop]
 rw[el]at E;refine⟨_,_,_,rfl,_,_,_,(o (eR.ext _ _ z)).1,_,_,_,S,p1,_,_,_,λu s=>(m (s _ _ z)).1,pM ..,_,_,_,f,q1,T,E.base A,λk M=>?_,V⟩;exact(E.lt V.wf M).2
section
variable {h:aa} {M:aH} {a:Option Addr} {n c:Nat}
theorem LI(tb:sO h)(w:Wf h)(bd:Bnd M)(st:aaz M)(r:ep h (.slice a n c) M.ak)(s k:Int):FW SS 7 [.agg ⟨ba M a n c⟩,.int .i64 s,.int .i64 k] h (EQ h):=by
 obtain⟨mb,ok⟩:=oQ w r;refine LH (ba M a n c) s k h _ ⟨_,pZ M a n c,_,mb.all,(TC ok.wf bd mb.row).mono ?_⟩;generalize h.push (Bm M a n c)=g1 at*;rintro _ g2 ⟨rfl,o2⟩;have S:=ok.trans o2;have Y:=mb.ok o2;refine⟨_,rfl,ah (λq=>Bn S) (λql=>?_)⟩;have J:=Vm st ql;refine⟨_,Y.all,(xJ (tb.ok S) S.wf J Y.row).mono ?_⟩;rintro _ g3 ⟨rfl,o3⟩;have m:=S.trans o3;have C:=Y.ok o3;have hn:=C.len;refine⟨_,rfl,ah (λq=>Bn m) (λq=>ah (λ_=>Bn m) (λx7=>⟨_,dp _,_,_,_,C.l3,ah (λ_=>Bn m) (λy0=>ah (λ_=>Bn m) (λx9=>?_))⟩))⟩;have I:cn M=true:=by simpa using q
 have x7:=dF x7;have y0:=dF y0;have x9:=dF x9;obtain⟨i,rfl⟩:∃i:Nat,s=(i:Int):=⟨s.toNat,by omega⟩
 obtain⟨j,rfl⟩:∃j:Nat,k=(j:Int):=⟨k.toNat,by omega⟩
 have hi:i<M.ak.length:=by omega
 have hx:=J6 hi;obtain⟨x,x8⟩:∃x,M.ak.getD i ⟨[],[]⟩=x:=⟨_,rfl⟩
 rw[x8]at hx;have u9:=J.an x (List.mem_of_getElem? hx);obtain⟨bb,oo,ya,yn,yc,d1,d2,d3,d4,ar⟩:=C.row.Ky (Ok.refl m.wf) hx;have v1:yn=x.an.length:=ar.len;refine⟨_,dp _,_,_,_,C.l3,_,d1,_,fL _ _,_,_,_,d4,ah (λ_=>Bn m) (λy5=>?_)⟩;have y5:=dF y5;have hj:j<x.an.length:=by omega
 refine⟨_,C.all,(Qb m.wf (by have:=J.He;omega) (λs hs=>by have:=J.an s hs;omega) C.row).mono ?_⟩;rintro _ d ⟨E,A,t,ps,rfl,x0,om,o4⟩;refine⟨_,rfl,_,HQ,?_⟩;have e4:=(Ok.refl o4.wf).push mY;have b4:=aI d mY;have z0:aj SS.P 24 (pA d.next) (.agg ⟨ba M E A t⟩) (d.push mY)=some (undef,.set d.next (Bm M E A t)):=du iZ rfl b4 rfl (by simp[ba,bc,strOf]);refine⟨_,z0,?_⟩;have e5:Ok d ((aY.set d.next (Bm M E A t)).app (d.push mY)):=e4.set _ (Nat.le_refl _) (Nat.lt_succ_self _) o4.wf;have b5:((aY.set d.next (Bm M E A t)).app (d.push mY)).get d.next=some (Bm M E A t):=by
  show((d.push mY).set _ _).get _=_;rw[aa.aw,if_pos rfl]
 have G:=om.ok e5;have F:=o4.trans e5;have v6:d.next<((aY.set d.next (Bm M E A t)).app (d.push mY)).next:=Nat.lt_succ_self _;have nr:∀{u:Value}{rs:List (List Value)}{e:TypeId}{z:Nat},cT g3 d e z u rs->bE u≠some d.next:=λo e=>by have:=(o.lt o4.wf e).1;omega
 have z6:=nr om.row;have v2:∀(i:Nat)(p:eC×Value),ps[i]?=some p->bE p.2≠some d.next:=λi p U=>nr (om.an i p U);clear nr z0 b4 e4;generalize (aY.set d.next (Bm M E A t)).app (d.push mY)=g5 at*;generalize d.next=K at*;have v4:ps.length=M.ak.length:=by rw[<-x0,lM]
 obtain⟨p,U⟩:∃p,ps[i]?=some p:=⟨_,gE (by omega)⟩
 have y8:p.1=x:=by
  have:(ps.map (·.1))[i]?=some p.1:=by rw[List.getElem?_map,U];rfl
  rw[x0,hx]at this;exact(oI this).symm
 obtain⟨kr,R,cr,er,_⟩:=G.row.blk (by rw[lM];omega);rw[lM]at er;injection er with z7 er2 u1
 subst z7;subst u1;have v8:=G;obtain⟨w1,w2,w3⟩:=G.at_ U;have ox:=G.an i p U;rw[y8]at ox;obtain⟨ya,yn,yc,hy,a1,n1,c1,s1,a2,n2,c2,u2,s2,a3,n3,c3,s3,v3,a4,n4,c4,u4,s4,kp,z2,z4,e6⟩:=TM m.wf F u9 hj ox;have l5:∀{g:aa},(∀k B,g5.get k=some B->g.get k=some B)->ae SS.P 22 g (.pointer (some ⟨K,3,none⟩))=some (.slice (some ⟨kr,R,none⟩) A t):=λhg=>aN rz zG (hg _ _ b5) (by simp[ba]);have eR:=(Ok.refl F.wf).room 16;refine⟨_,dp _,_,_,_,l5 (λ_ _ h=>h),_,w1,_,fL _ _,_,_,_,by rw[w2,hy],_,dp _,_,_,_,l5 eR.ext,_,_,_,acL,_,_,_,by rw[<-hy];exact s1,_,_,_,_,s2,?_⟩;obtain⟨u7,t1,z8,y7,z3,_⟩:=iq.adJ m.wf (F.trans e6) G U (λk B hk _=>e6.ext _ _ hk) z2 (λk hk=> .inl (z4 k hk)) F.wf;refine⟨_,_,_,by rw[<-hy];exact s3 _ kp,_,_,_,_,s4,?_⟩;have y2:bm SS.P 42 p.2 (some (.int .i64 (wrap .i64 ((j:Int)+1)))) none none (room g5 16)=some (.slice a3 n3 c3):=s3 _ eR.ext;rw[hy]at y2;have l7:=l5 kp;clear s1 s2 s3 s4 kp;generalize u4.app (u2.app (av (room g5 16) g5.next [(3,.cells [] 46 4 true)]))=g7 at*;refine⟨_,w1,_,fL _ _,_,t1,⟨l7,pM ..⟩,⟨l5 e6.ext,pM ..⟩,⟨y2,v3⟩,?_⟩;have b7:=z3 _ _ (e6.ext _ _ b5) (λe=>z6 (by rw[e];rfl));have V:=m.trans y7;have x5:=C.ok y7;have y9:=LJ (s:=i) (k:=j) hi J;have vN:=LK (s:=i) (k:=j) hi I;have y3:=TL (M:=M) (s:=i) (k:=j);have rN:ep (u7.app g7) (.slice (some ⟨kr,R,none⟩) A t) (qe M i j).ak:=by
  have:=z8.st;rw[List.map_set,x0,y8]at this;unfold qe TK;rw[x8];exact this
 have b7:(u7.app g7).get K=some (Bm (qe M i j) (some ⟨kr,R,none⟩) A t):=b7;generalize u7.app g7=g8 at*;have fq:∀{N:aH}{g:aa}{v:Value}{H:aa},cn N=true->N.ak.length<=8->aaa g N v H->∃(b:Bool)(a:Option Addr)(n c:Nat)(E:Option Addr)(A t:Nat)(u0:Option Addr)(z9 u8:Nat),v = .tuple ⟨[.bool b,.slice a n c,.slice E A t,.slice u0 z9 u8,.int .i64 0]⟩/\Ok g H/\(b=true↔Av N):=by
  rintro N g _ H I hl ⟨b,W,xn,xc,ya,yn,yc,za,zn,zc,e,rfl,F,D⟩;rcases D with⟨L,_⟩|⟨_,L,_⟩|⟨_,rfl,h2⟩
  ·rw[I]at L;cases L
  ·omega
  ·refine⟨_,_,_,_,_,_,_,_,_,_,rfl,F,?_⟩;rcases h2 with⟨rfl,_,_,_,h3⟩|⟨rfl,l,l',x,y,z,a1,a2,x4,_⟩
   ·exact⟨λ_=>h3,λ_=>rfl⟩
   ·exact⟨λe=>(by cases e),λhf=>absurd (hf _ _ _ _ _ a1 a2) x4⟩
 have uq:∀{N:aH}{g:aa}{v:Value}{H:aa},cn N=true->N.ak.length<=8->aav g N v H->∃(b:Bool)(a:Option Addr)(n c:Nat),v = .tuple ⟨[.bool b,.slice a n c,.int .i64 0]⟩/\Ok g H/\(b=true↔sP N):=by
  rintro N g _ H I hl ⟨b,W,xn,xc,e,rfl,F,D⟩;rcases D with⟨L,_⟩|⟨_,L,_⟩|⟨_,rfl,h2⟩
  ·rw[I]at L;cases L
  ·omega
  ·refine⟨_,_,_,_,rfl,F,?_⟩;rcases h2 with⟨rfl,_,h3⟩|⟨rfl,l,l',x,y,z,a1,a2,x4,_⟩
   ·exact⟨λ_=>h3,λ_=>rfl⟩
   ·exact⟨λe=>(by cases e),λhf=>absurd (hf _ _ _ _ _ a1 a2) x4⟩
 have sz:M.ak.length<=8:=by
  unfold lrg at ql;rw[Bool.or_eq_false_iff,decide_eq_false_iff_not]at ql;omega
 have y4:(qe M i j).ak.length<=8:=by rw[qM];exact sz
 have ld:∀{g:aa},Ok g8 g->ae SS.P 24 g (pA K)=some (.agg ⟨ba (qe M i j) (some ⟨kr,R,none⟩) A t⟩):=λo=>fE ym wQ iZ (o.ext _ _ b7) (by simp[ba]);refine⟨_,x5.all,(qY (tb.ok V) V.wf J x5.row).mono ?_⟩;intro v g9 D;obtain⟨f,W,xn,xc,xb,xm,xd,xe,xo,xf,rfl,T,y6⟩:=fq I sz D;have u5:=x5.ok T;have Z:=V.trans T;refine⟨_,_,_,_,_,_,_,_,_,_,_,rfl,_,ld T,(qY (tb.ok Z) Z.wf y9 (rN.ok T)).mono ?_⟩;intro v v7 D;obtain⟨f',W,xn,xc,xb,xm,xd,xe,xo,xf,rfl,Q,u6⟩:=fq vN y4 D;have x6:=u5.ok Q;have P:=Z.trans Q;refine⟨_,_,_,_,_,_,_,_,_,_,_,rfl,_,x6.all,(Ju (tb.ok P) P.wf J x6.row).mono ?_⟩;intro v v5 D;obtain⟨u,W,xn,xc,rfl,X,y1⟩:=uq I sz D;have O:=P.trans X;refine⟨_,_,_,_,_,rfl,_,ld ((T.trans Q).trans X),(Ju (tb.ok O) O.wf y9 (rN.ok ((T.trans Q).trans X))).mono ?_⟩;intro v v0 D;obtain⟨u',W,xn,xc,rfl,u3,z5⟩:=uq vN y4 D;have z1:=O.trans u3;have x1:f=true->f'=true:=λe=>u6.2 (y3.func (y6.1 e));have x2:u=true->u'=true:=λe=>z5.2 (y3.aec (y1.1 e));have x3:u=true->f=true:=λe=>y6.2 (y1.1 e).func;refine⟨_,_,_,_,_,rfl,ah (λ_=>ah (λ_=>ah (λ_=>ah (λ_=>?_) (λq=>by cases q)) (λq=>by cases q)) (λq=>by cases q)) (λq=>by cases q)⟩
 cases f<;>cases f'<;>cases u<;>cases u'<;>first|exact Bn z1|exact absurd (x1 rfl) (by decide)|exact absurd (x2 rfl) (by decide)|exact absurd (x3 rfl) (by decide)
end
end
end Go.Proofs.YtnlccnpbjeiccaaGreatDoor
end
section
namespace Go.Proofs.YtnlccnpbjeiccaaGreatDoor
open Go.Shelf Go.RowKit Go.Lib Go.Sort
def J2:Go.Shelf.Ren:=⟨fun|5=>146|8=>142|7=>187|19=>185|20=>186|10=>216|11=>217|12=>218|13=>219|14=>220|15=>221|16=>222|17=>223|18=>224|30=>244|31=>212|32=>213|33=>245|34=>246|35=>175|40=>270|n=>n,fun|23=>27|25=>3|3=>3|32=>210|22=>27|0=>0|44=>238|46=>240|4=>4|36=>232|35=>231|41=>89|5=>5|9=>9|53=>264|57=>268|63=>286|64=>287|n=>n,fun|n=>n⟩
theorem Zn:Go.Proofs.SlLaysM.n5 Tryz.prog J2:={
 mixed:=by kernel_rfl,
 f5:=⟨Tryz.f146.name,by decide,Tryz.func146.trans (congrArg some (by kernel_rfl))⟩,
 f7:=⟨Tryz.f187.name,by decide,Tryz.func187.trans (congrArg some (by kernel_rfl))⟩,
 f8:=Tryz.func142.trans (congrArg some (by kernel_rfl)),
 f10:=⟨Tryz.f216.name,by decide,Tryz.func216.trans (congrArg some (by kernel_rfl))⟩,
 f11:=⟨Tryz.f217.name,by decide,Tryz.func217.trans (congrArg some (by kernel_rfl))⟩,
 f12:=⟨Tryz.f218.name,by decide,Tryz.func218.trans (congrArg some (by kernel_rfl))⟩,
 f13:=⟨Tryz.f219.name,by decide,Tryz.func219.trans (congrArg some (by kernel_rfl))⟩,
 f14:=⟨Tryz.f220.name,by decide,Tryz.func220.trans (congrArg some (by kernel_rfl))⟩,
 f15:=⟨Tryz.f221.name,by decide,Tryz.func221.trans (congrArg some (by kernel_rfl))⟩,
 f16:=⟨Tryz.f222.name,by decide,Tryz.func222.trans (congrArg some (by kernel_rfl))⟩,
 f17:=⟨Tryz.f223.name,by decide,Tryz.func223.trans (congrArg some (by kernel_rfl))⟩,
 f18:=⟨Tryz.f224.name,by decide,Tryz.func224.trans (congrArg some (by kernel_rfl))⟩,
 f19:=Tryz.func185.trans (congrArg some (by kernel_rfl)),
 f20:=Tryz.func186.trans (congrArg some (by kernel_rfl)),
 f30:=⟨Tryz.f244.name,by decide,Tryz.func244.trans (congrArg some (by kernel_rfl))⟩,
 f31:=Tryz.func212.trans (congrArg some (by kernel_rfl)),
 f32:=Tryz.func213.trans (congrArg some (by kernel_rfl)),
 f33:=⟨Tryz.f245.name,by decide,Tryz.func245.trans (congrArg some (by kernel_rfl))⟩,
 f34:=⟨Tryz.f246.name,by decide,Tryz.func246.trans (congrArg some (by kernel_rfl))⟩,
 f35:=⟨Tryz.f175.name,by decide,Tryz.func175.trans (congrArg some (by kernel_rfl))⟩,
 f40:=⟨Tryz.f270.name,by decide,Tryz.func270.trans (congrArg some (by kernel_rfl))⟩,
 t0:=Tryz.underlying0,
 a0:=Tryz.isAgg0,
 z0:=Tryz.sizeOf0,
 v0:=Tryz.zeroValue0,
 t3:=Tryz.underlying3,
 a3:=Tryz.isAgg3,
 z3:=Tryz.sizeOf3,
 v3:=Tryz.zeroValue3,
 t4:=Tryz.underlying4,
 a4:=Tryz.isAgg4,
 z4:=Tryz.sizeOf4,
 v4:=Tryz.zeroValue4,
 t5:=Tryz.underlying5,
 a5:=Tryz.isAgg5,
 z5:=Tryz.sizeOf5,
 v5:=Tryz.zeroValue5,
 t9:=Tryz.underlying9,
 a9:=Tryz.isAgg9,
 z9:=Tryz.sizeOf9,
 v9:=Tryz.zeroValue9,
 t22:=Tryz.underlying27,
 a22:=Tryz.isAgg27,
 z22:=Tryz.sizeOf27,
 v22:=Tryz.zeroValue27,
 t23:=Tryz.underlying27,
 a23:=Tryz.isAgg27,
 z23:=Tryz.sizeOf27,
 v23:=Tryz.zeroValue27,
 t25:=Tryz.underlying3,
 a25:=Tryz.isAgg3,
 z25:=Tryz.sizeOf3,
 v25:=Tryz.zeroValue3,
 t32:=Tryz.underlying210,
 a32:=Tryz.isAgg210,
 z32:=Tryz.sizeOf210,
 v32:=Tryz.zeroValue210,
 t35:=Tryz.underlying231,
 a35:=Tryz.isAgg231,
 z35:=Tryz.sizeOf231,
 v35:=Tryz.zeroValue231,
 t36:=Tryz.underlying232,
 a36:=Tryz.isAgg232,
 z36:=Tryz.sizeOf232,
 v36:=Tryz.zeroValue232,
 t41:=Tryz.underlying89,
 a41:=Tryz.isAgg89,
 z41:=Tryz.sizeOf89,
 v41:=Tryz.zeroValue89,
 t44:=Tryz.underlying238,
 a44:=Tryz.isAgg238,
 z44:=Tryz.sizeOf238,
 v44:=Tryz.zeroValue238,
 t46:=Tryz.underlying240,
 a46:=Tryz.isAgg240,
 z46:=Tryz.sizeOf240,
 v46:=Tryz.zeroValue240,
 t53:=Tryz.underlying264,
 a53:=Tryz.isAgg264,
 z53:=Tryz.sizeOf264,
 v53:=Tryz.zeroValue264,
 t57:=Tryz.underlying268,
 a57:=Tryz.isAgg268,
 z57:=Tryz.sizeOf268,
 v57:=Tryz.zeroValue268,
 t63:=Tryz.underlying286,
 a63:=Tryz.isAgg286,
 z63:=Tryz.sizeOf286,
 v63:=Tryz.zeroValue286,
 t64:=Tryz.underlying287,
 a64:=Tryz.isAgg287,
 z64:=Tryz.sizeOf287,
 v64:=Tryz.zeroValue287 }
end Go.Proofs.YtnlccnpbjeiccaaGreatDoor
end
section
namespace Go.Proofs.YtnlccnpbjeiccaaGreatDoor
open Go Go.Ab Go.Num
theorem adA:nU Tryz.prog 24 [.int .i64 1] (.string ⟨#[48]⟩):=iW lY Ad (n:=2000) (by kernel_rfl) (by kernel_rfl)
noncomputable def t24:List (List Value×Value):=[([.int .i64 1],.string ⟨#[48]⟩)]
theorem abS:qC Tryz.prog 24 t24:=lf adA (by kernel_rfl) (pK)
theorem abz:nU Tryz.prog 203 [.string ⟨#[48]⟩] (.bool true):=iW lY Ad (n:=2000) (by kernel_rfl) (by kernel_rfl)
theorem abA:nU Tryz.prog 203 [.string ⟨#[49]⟩] (.bool true):=iW lY Ad (n:=2000) (by kernel_rfl) (by kernel_rfl)
noncomputable def adU:List (List Value×Value):=[([.string ⟨#[48]⟩],.bool true),([.string ⟨#[49]⟩],.bool true)]
theorem Zt:qC Tryz.prog 203 adU:=lf abz (by kernel_rfl) (lf abA (by kernel_rfl) (pK))
noncomputable def lt1:lG:=(24,.Gm t24)::(203,.Gm adU)::abf
theorem TU:mj Tryz.prog sD lt1:=iK abS (iK Zt (Ad))
theorem abB:nU Tryz.prog 204 [.string ⟨#[48]⟩,.string ⟨#[49]⟩] (.tuple #[.string ⟨#[49]⟩,.int .i64 0]):=iW lY TU (n:=2000) (by kernel_rfl) (by kernel_rfl)
noncomputable def adV:List (List Value×Value):=[([.string ⟨#[48]⟩,.string ⟨#[49]⟩],.tuple #[.string ⟨#[49]⟩,.int .i64 0])]
theorem Zu:qC Tryz.prog 204 adV:=lf abB (by kernel_rfl) (pK)
noncomputable def lt2:lG:=(204,.Gm adV)::lt1
theorem TV:mj Tryz.prog sD lt2:=iK Zu (TU)
theorem aby:nU Tryz.prog 169 [.string ⟨#[48]⟩] (.tuple #[.agg #[.bool false,.string ⟨#[48]⟩,.string ⟨#[49]⟩],.bool true]):=iW lY TV (n:=2000) (by kernel_rfl) (by kernel_rfl)
noncomputable def adT:List (List Value×Value):=[([.string ⟨#[48]⟩],.tuple #[.agg #[.bool false,.string ⟨#[48]⟩,.string ⟨#[49]⟩],.bool true])]
theorem Zs:qC Tryz.prog 169 adT:=lf aby (by kernel_rfl) (pK)
noncomputable def lt3:lG:=(169,.Gm adT)::lt2
theorem TW:mj Tryz.prog sD lt3:=iK Zs (TV)
theorem abx:nU Tryz.prog 155 [.string ⟨#[48]⟩] (.bool true):=iW lY TW (n:=2000) (by kernel_rfl) (by kernel_rfl)
noncomputable def adS:List (List Value×Value):=[([.string ⟨#[48]⟩],.bool true)]
theorem Zr:qC Tryz.prog 155 adS:=lf abx (by kernel_rfl) (pK)
noncomputable def lt4:lG:=(155,.Gm adS)::lt3
theorem TX:mj Tryz.prog sD lt4:=iK Zr (TW)
theorem adB:nU Tryz.prog 73 [.int .i64 1,.string ⟨#[48]⟩] (.bool true):=iW lY TX (n:=2000) (by kernel_rfl) (by kernel_rfl)
noncomputable def t73:List (List Value×Value):=[([.int .i64 1,.string ⟨#[48]⟩],.bool true)]
theorem abT:qC Tryz.prog 73 t73:=lf adB (by kernel_rfl) (pK)
noncomputable def lt5:lG:=(73,.Gm t73)::lt4
theorem abg:mj Tryz.prog sD lt5:=iK abT (TX)
theorem Tb:nU Tryz.prog 13 [] (.bool true):=iW lY abg (n:=2000) (by kernel_rfl) (by kernel_rfl)
end Go.Proofs.YtnlccnpbjeiccaaGreatDoor
end
section
namespace Go.Proofs.YtnlccnpbjeiccaaGreatDoor
open Go Go.Ab Go.RowKit
theorem BU:jj Tryz.prog Ye 296 jU:=yW (fn:=(Tryz.prog.funcs[296]?).getD default) (by kernel_rfl) (by kernel_rfl) (by kernel_rfl) (by kernel_rfl) (by kernel_rfl)
theorem zH:jj Tryz.prog Ye 290 hE:=vz (fn:=(Tryz.prog.funcs[290]?).getD default) (by kernel_rfl) (by kernel_rfl) (by kernel_rfl) (by kernel_rfl) (by kernel_rfl)
theorem Yw:mj Tryz.prog Ye adh:=iK (lf Tb (by kernel_rfl) pK) (mu BU (mu zH DU))
theorem ML:jj Tryz.prog Ye 146 Cu:=Vo Zn (f5:=Tryz.f146) Tryz.func146 (by kernel_rfl)
theorem UG:oK Tryz.prog Ye prS:=GP ML (Oi Yw)
end Go.Proofs.YtnlccnpbjeiccaaGreatDoor
end
section
namespace Go.Proofs.YtnlccnpbjeiccaaGreatDoor
open Go Go.Ab Go.ChangeShapes Go.RowKit
variable{n:Nat}{J:cO}{s:List UInt8}{v:Value}{h:aa}
section
theorem co3:Tryz.prog.cellsOf 3=1:=by kernel_rfl
theorem co9:Tryz.prog.cellsOf 9=1:=by kernel_rfl
theorem aew:Tryz.prog.cellsOf 22=1:=by kernel_rfl
theorem aex:Tryz.prog.cellsOf 24=4:=by kernel_rfl
theorem aey:Tryz.prog.cellsOf 42=1:=by kernel_rfl
theorem acR:Tryz.prog.cellsOf 44=2:=by kernel_rfl
theorem acS:Tryz.prog.cellsOf 46=4:=by kernel_rfl
theorem acQ:Tryz.prog.cellsOf 240=1:=by kernel_rfl
theorem aet:Tryz.prog.bytesOf 46=40:=by kernel_rfl
theorem LQ{a c:Type}{p:a->c}{P:a->Prop}:∀{l:List c},(∀x∈l,∃q,x=p q/\P q)->∃k:List a,l=k.map p/\∀q∈k,P q
 |[],_=>⟨[],rfl,λ_ h=>by cases h⟩
 | x::l,h=>by
  obtain⟨q,rfl,e⟩:=h x (List.mem_cons_self ..);obtain⟨k,rfl,f⟩:=LQ λx d=>h x (List.mem_cons_of_mem _ d);exact⟨q::k,rfl,λy b=>by
   rcases mem_cons.1 b with rfl|b
   ·exact e
   ·exact f y b⟩
def RZ(W:World)(q:eC×Value):Prop:=DP W q.2 4 (q.1.an.map dk)/\q.1.an.length<=281474976710656/\q.1.f.length<=281474976710656/\∀a∈q.1.an,a.w.length<=281474976710656
section
variable {H:Type} {enc:TypeId×Value->H} {W:World} {held:Bool}
theorem Hd{t:TypeId}{y:DataW H×List MemPlace}{l:List UInt8}{p:List MemPlace}(e:y=(.lit (.string l),p))(a:(y.1.weights Tryz.prog t).all (· <=reachBytes)=true):l.length<=281474976710656:=by
 subst e;have h:l.length<=reachBytes:=by simpa[DataW.weights]using a
 unfold reachBytes at h;omega
theorem Sh{cs:List Value}{y:DataW H×List MemPlace}(h:DataW.trod enc Tryz.prog W 0 (λ_=>true) held n 46 cs=some y)(v:(y.1.weights Tryz.prog 46).all (· <=reachBytes)=true):∃q:cq,cs=dk q/\q.w.length<=281474976710656:=by
 obtain⟨r,m,_,rfl,l,a,b⟩:=DataW.trod_struct Tryz.underlying46 h;rw[acS]at l;have a:r.length=4:=a
 match r,a,cs,l with
 |[k,z,g,p],_,[f,c,e,d],_=>
  obtain⟨i,B,_,_⟩:=DataW.trod_int (x:=k) Tryz.underlying3 (show DataW.trod enc Tryz.prog W 0 (λ_=>true) held m 3 (([f,c,e,d].drop 0).take (Tryz.prog.cellsOf 3))=some k from b 0 _ rfl);obtain⟨o,j,_,_⟩:=DataW.trod_int (x:=z) Tryz.underlying3 (show DataW.trod enc Tryz.prog W 0 (λ_=>true) held m 3 (([f,c,e,d].drop 1).take (Tryz.prog.cellsOf 3))=some z from b 1 _ rfl);obtain⟨s,A,w,_⟩:=DataW.trod_string (x:=g) Tryz.underlying9 (show DataW.trod enc Tryz.prog W 0 (λ_=>true) held m 9 (([f,c,e,d].drop 2).take (Tryz.prog.cellsOf 9))=some g from b 2 _ rfl);obtain⟨t,u,_,_⟩:=DataW.trod_int (x:=p) Tryz.underlying3 (show DataW.trod enc Tryz.prog W 0 (λ_=>true) held m 3 (([f,c,e,d].drop 3).take (Tryz.prog.cellsOf 3))=some p from b 3 _ rfl);simp only[co3,co9,List.drop,List.take,List.cons.injEq,and_true]at B j A u;subst B;subst j;subst A;subst u;simp only[DataW.weights,Tryz.underlying46,DataW.weightsEach,List.map,append_nil,all_append,and_eq_true]at v;have C:=Hd w v.2.2.1;exact⟨⟨i,o,s.data.toList,t⟩,rfl,C⟩
theorem MN{cs:List Value}{y:DataW H×List MemPlace}(h:DataW.trod enc Tryz.prog W 0 (λ_=>true) held n 44 cs=some y)(a:(y.1.weights Tryz.prog 44).all (· <=reachBytes)=true):∃q:eC×Value,cs=jd q/\RZ W q:=by
 obtain⟨t,u,m,rfl,d,k,i⟩:=trod_struct2 Tryz.underlying44 h;rw[acR]at d
 match cs,d with
 |[x,j],_=>
  obtain⟨s,f,e,_⟩:=DataW.trod_string Tryz.underlying9 k;simp only[DataW.weights,Tryz.underlying44,DataW.weightsEach,List.map,append_nil,all_append,and_eq_true]at a;obtain⟨v,w,c,r,o,b⟩:=EI (P:=Tryz.prog) (p:=λcs=>∃q:cq,cs=dk q/\q.w.length<=281474976710656) Tryz.underlying42 acS (by decide) (λn cs y h a=>Sh h a) i a.2;simp only[co9,aey,List.drop,List.take,List.cons.injEq,and_true]at f c;subst f;subst c;obtain⟨l,rfl,g⟩:=LQ o;refine⟨(⟨s.data.toList,l⟩,j),rfl,r,?_,Hd e a.1,g⟩;rw[aet,lM]at b;unfold reachBytes at b;show l.length<=_;omega
theorem Gj{cs:List Value}{y:DataW H×List MemPlace}(h:DataW.trod enc Tryz.prog W 0 (λ_=>true) held n 24 cs=some y)(b:(y.1.weights Tryz.prog 24).all (· <=reachBytes)=true):
  ∃(k s:Int)(i:List UInt8)(v:Value)(o:List (eC×Value)),cs=[.int .i64 k,.int .i64 s,strOf i,v]/\i.length<=281474976710656/\DP W v 2 (o.map jd)/\∀q∈o,RZ W q:=by
 obtain⟨A,m,_,rfl,e,a,d⟩:=DataW.trod_struct Tryz.underlying24 h;rw[aex]at e;have a:A.length=4:=a
 match A,a,cs,e with
 |[w,D,t,z],_,[j,f,g,c],_=>
  obtain⟨k,F,_,_⟩:=DataW.trod_int (x:=w) Tryz.underlying3 (show DataW.trod enc Tryz.prog W 0 (λ_=>true) held m 3 (([j,f,g,c].drop 0).take (Tryz.prog.cellsOf 3))=some w from d 0 _ rfl);obtain⟨s,u,_,_⟩:=DataW.trod_int (x:=D) Tryz.underlying3 (show DataW.trod enc Tryz.prog W 0 (λ_=>true) held m 3 (([j,f,g,c].drop 1).take (Tryz.prog.cellsOf 3))=some D from d 1 _ rfl);obtain⟨i,E,C,_⟩:=DataW.trod_string (x:=t) Tryz.underlying9 (show DataW.trod enc Tryz.prog W 0 (λ_=>true) held m 9 (([j,f,g,c].drop 2).take (Tryz.prog.cellsOf 9))=some t from d 2 _ rfl);simp only[DataW.weights,Tryz.underlying24,DataW.weightsEach,List.map,append_nil,all_append,and_eq_true]at b;obtain⟨v,I,B,r,G,_⟩:=EI (P:=Tryz.prog) (x:=z) (p:=λcs=>∃q:eC×Value,cs=jd q/\RZ W q) Tryz.underlying22 acR (by decide) (λn cs y h b=>MN h b) (show DataW.trod enc Tryz.prog W 0 (λ_=>true) held m 22 (([j,f,g,c].drop 3).take (Tryz.prog.cellsOf 22))=some z from d 3 _ rfl) b.2.2.2;simp only[co3,co9,aew,List.drop,List.take,List.cons.injEq,and_true]at F u E B;subst F;subst u;subst E;subst B;obtain⟨l,rfl,e⟩:=LQ G;exact⟨k,s,i.data.toList,c,l,rfl,Hd C b.2.2.1,r,e⟩
end
section
variable {W:World}
theorem O6(q:cq):(dk q).all Go.Ab.bare=true:=rfl
theorem Zp{v':Value}(h:aB J v v'):aW J [strOf s,v] [strOf s,v']:= .cons (.string _) (.cons h (.nil J))
theorem Eo:∀(a:List (eC×Value)),(∀q∈a,RZ W q)->∀{c:cO}{h:aa},tx c h W->
  ∃(d:cO)(m:aa)(b:List (eC×Value)),tx d m W/\c.le d/\Ok h m/\b.length=a.length/\b.map (·.1)=a.map (·.1)/\(∀p∈b,gk m p.2 p.1.an)/\
   ∀(k:Nat) r s,(b.map jd)[k]?=some r->(a.map jd)[k]?=some s->aW d r s
 |[],_,c,h,i=>⟨c,h,[],i,c.le_refl,Ok.refl i.wf,rfl,rfl,λ_ f=>absurd f (by simp),λk v q h=>absurd h (by simp)⟩
 | q::a,u,c,h,i=>by
  obtain⟨r,_⟩:=u q (List.mem_cons_self ..);obtain⟨J,g,v,A,G,z,C,I⟩:=i.row (e:=46) r (rs:=q.1.an.map dk) rfl (λk r s g j=>by
    rw[g]at j;obtain rfl:=oI j;rw[List.getElem?_map]at g;obtain⟨x,_,rfl⟩:=Option.map_eq_some_iff.1 g;exact aW.qU (O6 x))
  obtain⟨t,j,b,B,y,w,D,f,F,H⟩:=Eo a (λq f=>u q (List.mem_cons_of_mem _ f)) A;refine⟨t,j,(q.1,v)::b,B,cO.le_trans G y,z.trans w,by simp[D],by simp[f],λp o=>?_,λk v' E n l=>?_⟩
  ·rcases mem_cons.1 o with rfl|o
   ·exact gk.ok I w
   ·exact F p o
  ·cases k with
   |zero=>
    simp only[List.map_cons,List.getElem?_cons_zero,Option.some.injEq]at n l;subst n;subst l;exact Zp (C.mono y)
   |succ k=>exact H k v' E (by simpa using n) (by simpa using l)
theorem I1(i:tx J h W){v:Value}{b:List (eC×Value)}(r:DP W v 2 (b.map jd))(x:∀q∈b,RZ W q)(E:∀a,v = .slice (some a) 0 0->a.spot=none/\∃cs t w,W.heap[a.block]?=some (.cells cs t w)):
  ∃c d v',tx c d W/\J.le c/\Ok h d/\aB c v' v/\ep d v' (b.map (·.1)):=by
 obtain⟨G,H,g,m,A,k,s,l,z,C⟩:=Eo b x i;obtain⟨f,y,v',n,F,j,u,o,B⟩:=m.U6 (e:=44) (rs:=g.map jd) r (by simp[s]) C E;exact⟨f,y,v',n,cO.le_trans A F,k.trans j,u,g,l,o,λp D=>gk.ok (z p D) j,B⟩
end
end
end Go.Proofs.YtnlccnpbjeiccaaGreatDoor
end
section
namespace Go.Proofs.YtnlccnpbjeiccaaGreatDoor
open Go Go.ChangeShapes Go.WideShapes Go.ChangeAt Go.RowKit
theorem Ve:ownKnob Tryz.prog.godebug=none:=by kernel_rfl
abbrev kS{H:Type}:List (String×DataW H):=[("math/bits.deBruijn32tab",Rows.laid_math_bits_deBruijn32tab),("math/bits.deBruijn64tab",Rows.laid_math_bits_deBruijn64tab),("internal/strconv.uint64pow10",Rows.laid_internal_strconv_uint64pow10)]
def abe:DataW Unit->Value
 |.lit (.int k n)=> .int k n
 |_=>undef
def A2:DataW Unit->Array Value
 |.agg l=>(l.map abe).toArray
 |_=> #[]
def TE(c:Array Value):Obj->Obj
 |.cells _ t a=> .cells c t a
 |o=>o
noncomputable def Em(a:Os):World:=
 { World.holding Tryz.prog a ⟨#[],#[],[]⟩with heap:=(((World.holding Tryz.prog a ⟨#[],#[],[]⟩).heap.modify 2 (TE (A2 Rows.laid_math_bits_deBruijn32tab))).modify 3 (TE (A2 Rows.laid_math_bits_deBruijn64tab))).modify 1 (TE (A2 Rows.laid_internal_strconv_uint64pow10)) }
theorem Ds(b:Os)(a:Array Value):laidMetH Tryz.prog kS ((Em b).forCall (λ_ _=>0) ⟨#[],a,[]⟩).memory:=
 laidMetH_of_parts (laidMet_of_run' 24 (by kernel_rfl) (by kernel_rfl)) (by kernel_rfl)
end Go.Proofs.YtnlccnpbjeiccaaGreatDoor
end
section
namespace Go.Proofs.YtnlccnpbjeiccaaGreatDoor
open Go Go.Ab Go.ChangeShapes Go.WideShapes Go.RowKit
variable{n:Nat}{z:Int}{s:List UInt8}{v:Value}
section
theorem BJ{P:Program}{w:World}:∀{l:List (String×DataW Unit)}{c:List MemPlace},DataW.LaidVars P w l c->∀n d,(n,d)∈l->
  ∃g t cs a p,P.globalNamed n=some g/\(P.globals[g]?).map (·.type)=some t/\w.var? P n=some cs/\DataW.trod (λ_=>()) P w 0 (λ_=>true) false a t cs.toList=some (d,p)
 |[],_,_,_,_,b=>by cases b
 | (s,o)::r,c,h,n,d,b=>by
  obtain⟨g,t,cs,a,p,q,i,j,f,k,m,_⟩:=h;rcases mem_cons.1 b with e|e
  ·cases e
   exact⟨g,t,cs,a,p,i,j,f,k⟩
  ·exact BJ m n d e
theorem UE:Rows.laid_internal_strconv_uint64pow10=(.agg ((List.range 20).map λi=>(.lit (.int .u64 ((10^i:Nat):Int)):DataW Unit)):DataW Unit):=by kernel_rfl
section
variable {W:World}
theorem YV(j:laidMetH Tryz.prog kS W):∃cs t a,W.heap[1]?=some (.cells cs t a)/\∀s,fb s Kb 0 cs:=by
 rw[MakeChecks.laidMetH_plain _ _ _ (by kernel_rfl)]at j;obtain⟨F,l,_⟩:=j;obtain⟨g,t,cs,x,p,r,E,b,C⟩:=BJ l "internal/strconv.uint64pow10" Rows.laid_internal_strconv_uint64pow10 (by simp[kS]);obtain rfl:=oI ((show Tryz.prog.globalNamed "internal/strconv.uint64pow10" = some 1 by kernel_rfl).symm.trans r);obtain rfl:=oI ((show(Tryz.prog.globals[1]?).map (·.type)=some 328 by kernel_rfl).symm.trans E);obtain⟨f,m,_,D,_,l,o⟩:=DataW.trod_array Tryz.underlying328 C;have w:f.map (·.1)=(List.range 20).map λi=>(.lit (.int .u64 ((10^i:Nat):Int)):DataW Unit):=by
  have:=(Prod.mk.inj D).1.symm.trans UE;exact DataW.agg.inj this
 have d:∃t a,W.heap[1]?=some (.cells cs t a):=by
  simp only[World.var?,r,Option.bind_some]at b;split at b
  ·next c t a d=>obtain rfl:=oI b;exact⟨t,a,d⟩
  ·cases b
 obtain⟨t,a,d⟩:=d;refine⟨cs,t,a,d,λs k v h=>?_⟩;have e:k<20:=by
  have:=(List.getElem?_eq_some_iff.1 h).1;simpa[Kb]using this
 have b:v=uv (10^k):=by
  simp[Kb,List.getElem?_range e]at h;exact h.symm
 have n:=o k e;rw[acQ,Nat.mul_one,gE (by omega)]at n;obtain⟨z,u,B,_⟩:=DataW.trod_int Tryz.underlying240 n;have q:(f.map (·.1))[k]?=some (.lit (.int .u64 ((10^k:Nat):Int))):=by rw[w];simp[List.getElem?_range e]
 rw[List.getElem?_map,gE (by omega:k<f.length),B]at q;have A:z=((10^k:Nat):Int):=by
  simpa using q
 subst A;have:cs.toList[k]?=some (.int .u64 ((10^k:Nat):Int)):=by
  have y:((cs.toList.drop k).take 1)[0]?=some (.int .u64 ((10^k:Nat):Int)):=by rw[u];rfl
  simpa using y
 refine⟨.int .u64 ((10^k:Nat):Int),by simpa using this,?_⟩;rw[b];exact .int _ _
theorem Yi(c:laidMetH Tryz.prog kS W):∃a h,tx a h W/\Gl Ye a/\sO h:=by
 obtain⟨cs,t,f,b,e⟩:=YV c;refine⟨_,_,(aeC 1 W).push b (e _),λg d=>?_,t,false,aa.gf ⟨1,.nil⟩ _⟩;have:g=1:=by simpa[Ye]using d
 subst this;exact⟨_,cO.bW _ _ _,rfl,rfl,rfl⟩
theorem VX{k:Int}(b:Value.okWide Tryz.prog W .any n 24 (.agg #[.int .i64 k,.int .i64 z,strOf s,v]))(a:Addr)(e:v = .slice (some a) 0 0):a.spot=none/\∃cs t f,W.heap[a.block]?=some (.cells cs t f):=by
 simp only[Value.okWide,Tryz.underlying24]at b;obtain⟨cs,h,_,r,i,_,p⟩:=b;obtain rfl:=Value.agg.inj h;obtain rfl:=oI ((show Tryz.prog.cellTypes Tryz.prog.depth 24=some [3,3,9,22] by kernel_rfl).symm.trans i);obtain⟨u,o,g⟩:=p 3 v rfl;obtain rfl:22=u:=oI o;subst e;simp only[Cell.okWide,Cell.ok,Tryz.underlying22]at g;obtain⟨_,_,_,m,q,j,d,_⟩:=g;refine⟨m,?_⟩;unfold World.shape? at d;split at d
 ·next c t f l=>exact⟨c,t,f,l⟩
 ·cases d
end
end
variable{c:List Value}{f:FuncId}{F:Func}
section
section
variable {W:World}
def Ldx(W:World)(v:Value)(S:Value->aa->Prop):Prop:=(∀v' h a,Ok h a->S v' h->S v' a)/\∀{c:cO}{h:aa},tx c h W->∃b a v',tx b a W/\c.le b/\Ok h a/\aB b v' v/\S v' a
def Lds(W:World)(e:List Value)(T:List Value->aa->Prop):Prop:=∀{d:cO}{h:aa},tx d h W->∃a c b,tx a c W/\d.le a/\Ok h c/\aW a b e/\T b c
theorem Yr:Lds W [] λa _=>a=[]:=λ{b h} i=>⟨b,h,[],i,b.le_refl,Ok.refl i.wf,.nil _,rfl⟩
theorem BL{S:Value->aa->Prop}{T:List Value->aa->Prop}(a:Ldx W v S)(b:Lds W c T):Lds W (v::c) λe h=>∃x r,e=x::r/\S x h/\T r h:=λ{w h} i=>by
 obtain⟨t,u,x,l,q,j,n,s⟩:=a.2 i;obtain⟨d,p,r,m,g,f,o,k⟩:=b l;exact⟨d,p,x::r,m,cO.le_trans q g,j.trans f,.cons (n.mono g) o,x,r,rfl,a.1 _ _ _ f s,k⟩
def aem(v:Value)(_:aa):Prop:=∃z:Int,v = .int .i64 z
def acj(v:Value)(h:aa):Prop:=∃(M:aH)(a:Option Addr)(c:Nat),v = .agg ⟨ba M a M.ak.length c⟩/\Bnd M/\aaz M/\ep h (.slice a M.ak.length c) M.ak
theorem TF(a:Value.okWide Tryz.prog W .any n 3 v):Ldx W v aem:=by
 obtain⟨z,rfl⟩:=okWide_int Tryz.underlying3 a;exact⟨λ_ _ _ _ s=>s,λ{b h} i=>⟨b,h,_,i,b.le_refl,Ok.refl i.wf,.int _ _,z,rfl⟩⟩
variable {H:Type} {enc:TypeId×Value->H}
theorem Yq{D:DataW H}{p:List MemPlace}(g:Value.okWide Tryz.prog W .any n 24 v)(u:DataW.Trod enc Tryz.prog W 0 (λ_=>true) true 24 v D p)(J:(D.weights Tryz.prog 24).all (· <=reachBytes)=true):Ldx W v acj:=by
 refine⟨λQ h R o s=>?_,λ{S h} i=>?_⟩
 ·obtain⟨M,a,c,e,b,N,r⟩:=s;exact⟨M,a,c,e,b,N,r.ok o⟩
 obtain⟨cs,rfl,_⟩:=okWide_struct Tryz.underlying24 g;obtain⟨K,u⟩:=u;obtain⟨k,s,w,Q,f,m,C,P,t⟩:=Gj u J;have m:cs = #[.int .i64 k,.int .i64 s,strOf w,Q]:=by
  rw[<-Array.toList_inj];exact m
 subst m;obtain⟨B,I,v',G,L,F,y,j⟩:=I1 i P t (VX g);obtain⟨O,z,A,_,_⟩:=id j;obtain⟨a,c,rfl⟩:=A.mU;have E:(O.map jd).length=(f.map (·.1)).length:=by rw[<-z,lM,lM]
 rw[E]at y j;refine⟨B,I,.agg ⟨ba ⟨k,s,w,f.map (·.1)⟩ a (f.map (·.1)).length c⟩,G,L,F,?_,⟨k,s,w,f.map (·.1)⟩,a,c,rfl,λx l=>?_,⟨C,λx l=>?_,λx l=>?_⟩,j⟩
 ·exact .agg rfl (gM.toList.2 (.cons (.int _ _) (.cons (.int _ _) (.cons (.string _) (.cons y (.nil _)))))).2
 ·obtain⟨q,d,rfl⟩:=mem_map.1 l;exact(t q d).2.1
 ·obtain⟨q,d,rfl⟩:=mem_map.1 l;exact(t q d).2.2.1
 ·obtain⟨q,d,rfl⟩:=mem_map.1 l;exact(t q d).2.2.2
theorem P0(m:Tryz.prog.funcs[f]?=some F)(b:F.body.isSome=true)(q:f<YB){a:Array Value}{T:List Value->aa->Prop}(l:Lds W a.toList T)(p:laidMetH Tryz.prog kS W)
  (i:∀{h:aa}{c:List Value}(_:sO h)(_:Wf h),T c h->FW SS f c h (EQ h)):Calls Tryz.prog f a W λe d=>e = .returned (.bool true)/\Below W.heap.size W d:=by
 obtain⟨t,C,k,v,n⟩:=Yi p;obtain⟨y,z,c,g,s,j,o,u⟩:=l k;refine(H7 lY UG (i (n.ok j) g.wf u) q m b g (v.mono s) (args':=a) o).mono ?_;rintro e d ⟨x,A,B,w,rfl,⟨rfl,_⟩,r,_,b⟩
 cases r
 exact⟨rfl,b⟩
end
end
end Go.Proofs.YtnlccnpbjeiccaaGreatDoor
end
section
namespace Go.Proofs.YtnlccnpbjeiccaaGreatDoor
open Go Go.Ab Go.ChangeShapes Go.WideShapes Go.ChangeAt Go.RowKit
theorem H9:(Rows.functionLessRow.inPlace==Tryz.prog.inPlace 7)=true:=by kernel_rfl
theorem Xk:(Rows.functionLessRow.unfollowed==Tryz.prog.unfollowed 7)=true:=by kernel_rfl
theorem Xj:(Rows.functionLessRow.recurses==Tryz.prog.recurses 7)=true:=by kernel_rfl
theorem Pj:(Rows.functionLessRow.named==Tryz.prog.varsNamed 7)=true:=by kernel_rfl
theorem Xl:joinedFacts Tryz.prog 7 Tryz.f7 Rows.functionLessSpec Rows.functionLessRow=true:=by
 unfold joinedFacts;simp only[H9,Xk,Xj,Pj,Bool.and_true];kernel_rfl
theorem aaT:Rows.functionLessRow.wfByText (OpenSpec.ofChange Rows.functionLessSpec)=true:=by kernel_rfl
theorem SJ:Tryz.prog.mainIs=some (true,"ff3441c17bcda657332785e9cffc769a5e1afd95a52b44779d36b3cd125930a8".toList):=by kernel_rfl
theorem Ph:true=Tryz.prog.looks []:=by kernel_rfl
theorem SI:false=Rows.functionLessRow.goesBy Tryz.prog:=by kernel_rfl
theorem xz:laidOutB Tryz.prog=true:=by kernel_rfl
set_option maxRecDepth 100000 in
theorem ss(i:Os)(g:i.Started)(H:Type)(c:TypeId×Value->H):
  ReturnsInHanded {} Tryz.checked i 7 .any (λw b=>(Rows.functionLessSpec.pre c Tryz.prog Tryz.f7 [] false w b/\laidMetH Tryz.prog kS w)/\sizedMet c Tryz.prog Tryz.f7 (OpenSpec.ofChange Rows.functionLessSpec) false w b)
   (Rows.functionLessSpec.post c Tryz.prog Tryz.f7 false true false false):=by
 refine returnsInHanded_of_change_and (C:=Tryz.checked) (X:=λw _=>laidMetH Tryz.prog kS w) (λ_ _ _ hh h=>h.of_heap hh) Ve g (by kernel_rfl) Tryz.func7
  (ChangeSpec.witness_at (enc:=c) (C:=Tryz.checked) (os:=i) (X:=λw _=>laidMetH Tryz.prog kS w) false (Em i) #[.agg #[.int .i64 0,.int .i64 0,.string ⟨#[]⟩,.slice none 0 0],.int .i64 0,.int .i64 0] 8 rfl (by kernel_rfl) (by kernel_rfl) (by kernel_rfl) (by kernel_rfl) (by kernel_rfl) (Ds i _)) ?_
 intro W A b K gs D o M _ R hL _;have d:∀(j:Nat) t v,Tryz.f7.params[j]?=some t->b[j]?=some v->Value.okWide Tryz.prog W .any A t v:=o;have l:=M;obtain⟨p,q,E,V,rfl,x6,x3⟩:=M;have U:DataW.TrodAll c Tryz.prog W 0 (λ_=>true) true Tryz.f7.params.toList b.toList K p:=E;rw[Tryz.params7]at U d;obtain⟨r,y0,B,x7,L,q0,f,rfl,rfl,F,P⟩:=trodAll_cons U;obtain⟨z,x9,y,x5,S,q1,rfl,rfl,rfl,t1,Q⟩:=trodAll_cons P;obtain⟨u,x4,s,x8,G,q2,rfl,rfl,rfl,Z,J⟩:=trodAll_cons Q;obtain⟨rfl,rfl,rfl⟩:=trodAll_nil J;have f:b = #[r,z,u]:=by
  rw[<-Array.toList_inj];exact f
 subst f;obtain⟨rfl,rfl⟩:=trodVars_none V;rw[append_nil]at l;have N:(DataW.weightsEach Tryz.prog (Tryz.f7.params.toList++Rows.functionLessSpec.plain.varTypes Tryz.prog) ([B,y,s]++[])).all (· <=reachBytes)=true:=R;rw[Tryz.params7]at N;have O:(B.weights Tryz.prog 24++(y.weights Tryz.prog 3++(s.weights Tryz.prog 3++(DataW.weightsEach Tryz.prog (Rows.functionLessSpec.plain.varTypes Tryz.prog) [])))).all (· <=reachBytes)=true:=N;simp only[all_append,and_eq_true]at O;obtain⟨Y,w1,w2,_⟩:=O;have ld:Lds W #[r,z,u].toList _:=BL (Yq (d 0 24 r rfl rfl) F Y) (BL (TF (d 1 3 z rfl rfl)) (BL (TF (d 2 3 u rfl rfl)) (Yr)));refine(P0 Tryz.func7 (by kernel_rfl) (by unfold YB;decide) ld hL λtb w T=>?_).mono λe W2 ⟨he,n⟩=>?_
 ·obtain⟨x0,I,rfl,s0,x1,r1,rfl,s1,x2,r2,rfl,s2,rfl⟩:=T;obtain⟨M0,a0,c0,rfl,b0,e0,I⟩:=s0;obtain⟨z1,rfl⟩:=s1;obtain⟨z2,rfl⟩:=s2;exact LI tb w b0 e0 I z1 z2
 subst he;have k:∀x∈L++(S++(G++([]))),x.block<W.heap.size:=λx a=>l.lt x a;exact⟨_,rfl,TD (ds:=[B,y,s]) (places:=L++(S++(G++([])))) rfl l n rfl rfl (λ_ _ _=>(trodAll_cons_mk (shut_bool Tryz.underlying4 _) trodAll_mk0))
  (ok_one (by kernel_rfl) rfl (okWide_bool_mk Tryz.underlying4 _)) (λsp m=>by
   rw[Tryz.params7];exact trodAll_cons_mk (WideElems.Trod_stays xz (by kernel_rfl) (dT (by kernel_rfl)) F (λx a=>n.same (k x (mem_append_left _ a))) (λx a=>m x (mem_append_left _ a))) (trodAll_cons_mk (WideElems.Trod_stays xz (by kernel_rfl) (dT (by kernel_rfl)) t1 (λx a=>n.same (k x (mem_append_right _ (mem_append_left _ a)))) (λx a=>m x (mem_append_right _ (mem_append_left _ a)))) (trodAll_cons_mk (WideElems.Trod_stays xz (by kernel_rfl) (dT (by kernel_rfl)) Z (λx a=>n.same (k x (mem_append_right _ (mem_append_right _ (mem_append_left _ a))))) (λx a=>m x (mem_append_right _ (mem_append_right _ (mem_append_left _ a))))) (trodAll_mk0))))⟩
theorem vx:Rows.FunctionLessSaid:=
 OpenClaim.holds_of_wide 7 Tryz.f7 rfl rfl rfl rfl rfl rfl rfl ⟨rfl,rfl,rfl,rfl,rfl⟩ rfl rfl rfl rfl rfl (by kernel_rfl) Tryz.func7 Xl
  (dT (by kernel_rfl)) (by unfold Func.isWrapper;first|(rw[if_pos (by decide +kernel)];kernel_rfl)|(rw[if_neg (by decide +kernel)];exact⟨rfl,rfl⟩))
  (λc a H b _=>ss c a H b)
theorem functionLess_holds:Rows.FunctionLessCardSaid:=
 Claim7.holds_tied_plain_at .later [] [.data,.data,.data] true (true,"ff3441c17bcda657332785e9cffc769a5e1afd95a52b44779d36b3cd125930a8") true
  vx (λ_ h=>by cases h) aaT (λ_ h=>by cases h) functionLess_row_tie rfl ⟨rfl,rfl⟩ SJ rfl
  (λf d e b=>by
   obtain rfl:f=7:=oI ((show Tryz.prog.funcNamed "abugida/abugidalaw17.FunctionLess" = some 7 by kernel_rfl).symm.trans e) |>.symm
   obtain rfl:d=Tryz.f7:=(oI (Tryz.func7.symm.trans b)).symm;exact⟨Ph,λj t c=>by
    rw[Tryz.params7]at c;have g:t∈[24,3,3]:=by simpa using Array.mem_of_getElem? c
    have a:([24,3,3].all λu=> !Tryz.prog.wantsStandIn u)=true:=by kernel_rfl
    exact(show Tryz.prog.wantsStandIn t=false by simpa using List.all_eq_true.1 a t g)⟩)
  SI
end Go.Proofs.YtnlccnpbjeiccaaGreatDoor
end
