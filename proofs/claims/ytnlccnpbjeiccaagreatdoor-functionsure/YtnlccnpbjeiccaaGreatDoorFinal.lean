/- Whatever is handed to it, in whatever memory, on every schedule, FunctionSure returns true. No condition. -/
import Derived.Test.YtnlccnpbjeiccaaGreatDoorPart6
import Derived.Test.YtnlccnpbjeiccaaGreatDoorPart3
import Derived.Test.YtnlccnpbjeiccaaGreatDoorPart5
import Derived.Shelf.SortM.Plain
import Derived.Shelf.SortM.SortNone
import Derived.Test.YtnlccnpbjeiccaaGreatDoorProg
import Derived.OpenShut
import Derived.MakeChecks
import Derived.FnData
import Derived.ChangeSame
import Derived.Test.YtnlccnpbjeiccaaGreatDoorRows
import Derived.ProofKit
import Derived.LaidLaws
import Derived.LaidHandle
import Derived.ChangeVars
import Derived.Test.YtnlccnpbjeiccaaGreatDoorCards
import Derived.Test.YtnlccnpbjeiccaaGreatDoorTie
import Derived.WalkKit
import Derived.Carry
import Derived.SevenTiedAt
set_option linter.unusedVariables false
set_option linter.unusedSimpArgs false
set_option maxRecDepth 100000
open List (all_append append_assoc append_nil getElem?_map getElem?_of_mem map_append mem_cons mem_cons_self mem_map mem_singleton)
open Nat (zero_add zero_le)
open Bool (and_eq_true)
open Go.IntKind (wrap)
section
namespace Go.Proofs.YtnlccnpbjeiccaaGreatDoor
open Go Go.Ab Go.Num
section
section
variable {h0:aa} {M:aG}
theorem Se(w0:Wf h0){S:Option Addr}{R P:Nat}(y0:ey h0 (.slice S R P) M.ak)(gd:Good M)(zA:∀s∈M.ak,s.an.length<=2000){h:aa}{L:List cC}{k:Pl}(hp:k.1<M.ak.length)(hq:k.2.1<M.ak.length){A:Nat}{fa fc:List Value}(hf:Nat.blt A YB=true)
  (I:List (Int×Pl)->aa->List cC->Prop) (Y:∀l g L,I l g L->OL h0 g L) (hG:∀l g L t,I l g L->Ok g t->I l t L) (hi:I [] h L)
  (hs:∀D x z8,RG M k=D++x::z8->∀g L,I D g L->FW SS A (fa++[.int .i64 x.1,.agg ⟨qV x.2⟩]++fc) g (λv t=>v = .tuple ⟨[]⟩/\∃m,I (D++[x]) t m/\eU g L t m)):
  FW SS 69 [.agg ⟨bD M S R P⟩,.agg ⟨qV k⟩,.func (.func A) ⟨fa⟩ ⟨fc⟩] h (λv t=>v = .tuple ⟨[]⟩/\∃m,I (RG M k) t m/\eU h L t m):=by
 obtain⟨p,q,d⟩:=k;refine O2 (bD M S R P) (qV (p,q,d)) A fa fc h _ ⟨_,oy M S R P,_,Su (p,q,d),?_⟩;have o:=Y _ _ _ hi;have e1:=(Ok.refl o.ok.wf).push (Bm M S R P);have m1:=o.fg (Bm M S R P);have i1:=hG _ _ _ _ hi e1;have c1:=(o.grow e1).2;generalize h.push (Bm M S R P)=O at*;have o1:=Y _ _ _ i1;have e2:=(Ok.refl o1.ok.wf).push (dU (p,q,d));have m2:=o1.fg (dU (p,q,d));have i2:=hG _ _ _ _ i1 e2;have z7:=(o1.grow e2).2;have m1:=z7 _ _ m1;have c2:=c1.trans z7;generalize O.push (dU (p,q,d))=g2 at*;have o2:=Y _ _ _ i2;have e3:=(Ok.refl o2.ok.wf).room 18;have y3:=(o2.grow e3).2;have m1:=y3 _ _ m1;have m2:=y3 _ _ m2;have i2:=hG _ _ _ _ i2 e3;have c2:=c2.trans y3;dsimp only;generalize v6:room g2 18=g3 at*;obtain⟨s,u3,ea,_,ms⟩:=iy hp;obtain⟨f,u8,eb,_,z0⟩:=iy hq;obtain⟨b,o,x,y,z,d1,d2,d3,d4,ar⟩:=y0.Kr (Y _ _ _ i2).ok u3;obtain⟨b',o',K,E,J,u9,v8,v5,u4,y6⟩:=y0.Kr (Y _ _ _ i2).ok u8;have hy:y=s.an.length:=ar.len;have v9:E=f.an.length:=y6.len;have v7:=zA s ms;have v3:=zA f z0;have l1:ae SS.P 22 g3 (.pointer (some ⟨h.next,3,none⟩))=some (.slice S R P):=aR Cn HO m1.1 (by simp[bD]);refine⟨_,eJ _,_,_,_,l1,_,ph _,_,rQ _ _,_,dU.l0 m2.1,_,d1,_,iw _ _,_,_,_,d4,_,eJ _,_,_,_,l1,_,ph _,_,nD _ _,_,dU.l1 m2.1,_,u9,_,iw _ _,_,_,_,u4,?_⟩;dsimp only at ea eb;have x4:RG M (p,q,d)=zW q d f.an s.an 0++(if d=1 then f.an.flatMap (Nz p)else[]):=by unfold RG;dsimp only;rw[ea,eb]
 refine uU (bD M S R P) (qV (p,q,d)) A fa fc O.next x y z K E J (λmz i g=>i<=s.an.length/\mz=s.an.length-i/\∃m,I (zW q d f.an (s.an.take i) 0) g m/\eU g3 L g m) _ (λmz i=>?_) s.an.length (i:=0) ⟨zero_le _,rfl,L,i2,eU.refl _ _⟩;intros;rename_i g x9;obtain⟨f1,rfl,m,iL,hc⟩:=x9;have og:=Y _ _ _ iL;have B:=hc _ _ m2;refine ah (λG=>?_) (λG=>?_)
 ·have G:=dT G;have z1:i<s.an.length:=by omega
  obtain⟨a,ha⟩:∃a,s.an[i]?=some a:=⟨_,gE z1⟩
  have x9:=gd.an s ms a (List.mem_of_getElem? ha);obtain⟨t1,t2⟩:=fT ha;obtain⟨bb,oo,x1,x2,_⟩:=(ar.ok og.ok).at_ ha;obtain⟨u,p1,p2,p3⟩:=wc og.ok.wf a;refine⟨_,x1,_,x2,_,Fk,u,p1,?_⟩;have i3:=hG _ _ _ _ iL p2;have c3:=(og.grow p2).2;have N:Im (u.app (g.push Hr)) m g.next _:=og.new (Nat.le_refl _) p3;have B:=c3 _ _ B;have hc:=hc.trans c3;generalize u.app (g.push Hr)=V at*;have o3:=Y _ _ _ i3;have y4:(s.an.take i).length=i:=by rw[List.length_take];omega
  have y9:RG M (p,q,d)=zW q d f.an (s.an.take i) 0++(Hs q d a++(uT d i a f.an 0++(zW q d f.an (s.an.drop (i+1)) (i+1)++(if d=1 then f.an.flatMap (Nz p)else[])))):=by
   rw[x4]
   conv=>lhs;rw[t1,Fm,y4,zero_add,zW]
   simp only[append_assoc]
  have v0:zW q d f.an (s.an.take (i+1)) 0=zW q d f.an (s.an.take i) 0++(Hs q d a++uT d i a f.an 0):=by
   rw[t2,Fm,y4,zero_add];show _++(Hs q d a++uT d i a f.an 0++zW q d f.an [] (i+1))=_;rw[zW,append_nil]
  have u2:wrap .i64 ((i:Int)+1)=((i+1:Nat):Int):=bA z1 (by omega);have z6:a.t=((a.t.toNat:Nat):Int):=by have:=x9.t0;omega
  generalize v4:zW q d f.an (s.an.take i) 0=D at*;have Z:∀(W:aa)(T:List cC),I (D++Hs q d a) W T->eU V m W T->LL SS bc [1,1,0,1,0,0,1,1,0,0,1,1,1,0,0] (bB A fa fc O.next x y z K E J g.next i 0) W (KK SS bc [1,1,0,0,1,1,1,0] [1,1,0,1,0,0] (RR bc [1,1,0,1,0,0] (fD (dD A fa fc O.next x y z K E J) (λmz i g=>i<=s.an.length/\mz=s.an.length-i/\∃m,I (zW q d f.an (s.an.take i) 0) g m/\eU g3 L g m)) (s.an.length-i) (KK SS bc [1,1,0,1,0] [] (EE SS bc (λv t=>v = .tuple ⟨[]⟩/\∃m,I (RG M (p,q,d)) t m/\eU h L t m))))):=by
   intro W T i5 c5;refine uV (bD M S R P) (qV (p,q,d)) A fa fc O.next x y z K E J g.next _ _ i (λF j t=>j<=f.an.length/\F=f.an.length-j/\∃w,I (D++Hs q d a++uT d i a (f.an.take j) 0) t w/\eU V m t w) _ (λF j=>?_) f.an.length (j:=0) ⟨zero_le _,rfl,T,by rw[List.take_zero,uT,append_nil];exact i5,c5⟩;intros;rename_i g6 u0;obtain⟨f6,rfl,L6,i6,x7⟩:=u0;have o6:=Y _ _ _ i6;have B:=x7 _ _ B;have N:=x7 _ _ N;refine ah (λG=>?_) (λG=>?_)
   ·have G:=dT G;have x3:j<f.an.length:=by omega
    obtain⟨c,Q⟩:∃c,f.an[j]?=some c:=⟨_,gE x3⟩
    have x5:=gd.an f z0 c (List.mem_of_getElem? Q);obtain⟨v1,v2⟩:=fT Q;obtain⟨cc,oc,y1,y2,_⟩:=(y6.ok o6.ok).at_ Q;obtain⟨u6,r1,r2,r3⟩:=wc o6.ok.wf c;refine⟨_,y1,_,y2,_,Fk,u6,r1,?_⟩;have i7:=hG _ _ _ _ i6 r2;have c7:=(o6.grow r2).2;have B:_=some (dU (p,q,d)):=(c7 _ _ B).1;have N:AB _ _ a:=(c7 _ _ N).1;have z4:=x7.trans c7;generalize u6.app (g6.push Hr)=g7 at*;have x0:wrap .i64 ((j:Int)+1)=((j+1:Nat):Int):=bA x3 (by omega);have y5:c.t=((c.t.toNat:Nat):Int):=by have:=x5.t0;omega
    have z2:(f.an.take j).length=j:=by rw[List.length_take];omega
    have z3:uT d i a (f.an.take (j+1)) 0=uT d i a (f.an.take j) 0++HR d i a j c:=by
     rw[v2,Fl,z2,zero_add];show _++(HR d i a j c++uT d i a [] (j+1))=_;rw[uT,append_nil]
    have u1:uT d i a f.an 0=uT d i a (f.an.take j) 0++(HR d i a j c++uT d i a (f.an.drop (j+1)) (j+1)):=by
     conv=>lhs;rw[v1,Fl,z2,zero_add,uT]
    have z5:HR d i a j c=[]->aH (fD (bB A fa fc O.next x y z K E J g.next i) (λF j t=>j<=f.an.length/\F=f.an.length-j/\∃w,I (D++Hs q d a++uT d i a (f.an.take j) 0) t w/\eU V m t w)) (f.an.length-j) [(.func (.func A) ⟨fa⟩ ⟨fc⟩),(pA O.next),(.slice K E J),(iA i),(pA g.next),(.slice x y z),(iA y),(iA i),(.slice K E J),(iA E),(.int .i64 (wrap .i64 ((j:Int)+1)))] g7:=λhB=>by
     rw[x0];exact cG (a:=j+1) (f.an.length-(j+1)) (by omega) ⟨by omega,rfl,L6,by rw[z3,hB,append_nil];exact i7,z4⟩
    have u7:∀xx:Int×Pl,HR d i a j c=[xx]->FW SS A (fa++[.int .i64 xx.1,.agg ⟨qV xx.2⟩]++fc) g7 (λv h=>v = .tuple ⟨[]⟩/\aH (fD (bB A fa fc O.next x y z K E J g.next i) (λF j t=>j<=f.an.length/\F=f.an.length-j/\∃w,I (D++Hs q d a++uT d i a (f.an.take j) 0) t w/\eU V m t w)) (f.an.length-j) [(.func (.func A) ⟨fa⟩ ⟨fc⟩),(pA O.next),(.slice K E J),(iA i),(pA g.next),(.slice x y z),(iA y),(iA i),(.slice K E J),(iA E),(.int .i64 (wrap .i64 ((j:Int)+1)))] h):=λxx hB=>by
     have x6:RG M (p,q,d)=(D++Hs q d a++uT d i a (f.an.take j) 0)++xx::(uT d i a (f.an.drop (j+1)) (j+1)++(zW q d f.an (s.an.drop (i+1)) (i+1)++(if d=1 then f.an.flatMap (Nz p)else[]))):=by
      rw[y9,u1,hB];simp only[append_assoc,List.cons_append,List.nil_append]
     refine(hs _ _ _ x6 g7 L6 i7).mono ?_;rintro _ g8 ⟨rfl,L8,i8,c8⟩;refine⟨rfl,?_⟩;rw[x0];exact cG (a:=j+1) (f.an.length-(j+1)) (by omega) ⟨by omega,rfl,L8,by rw[z3,hB,<-append_assoc];exact i8,z4.trans c8⟩
    have x8:∀r:Nat,HR d i a j c=[(a.i,(a.t.toNat,c.t.toNat,r))]->∀(Kx:Prop),aS (Nat.blt A YB) (FW SS A (fa++[.int .i64 a.i,.agg ⟨[.int .i64 a.t,.int .i64 c.t,.int .i64 (r:Int)]⟩]++fc) g7 (λv h=>v = .tuple ⟨[]⟩/\aH (fD (bB A fa fc O.next x y z K E J g.next i) (λF j t=>j<=f.an.length/\F=f.an.length-j/\∃w,I (D++Hs q d a++uT d i a (f.an.take j) 0) t w/\eU V m t w)) (f.an.length-j) [(.func (.func A) ⟨fa⟩ ⟨fc⟩),(pA O.next),(.slice K E J),(iA i),(pA g.next),(.slice x y z),(iA y),(iA i),(.slice K E J),(iA E),(.int .i64 (wrap .i64 ((j:Int)+1)))] h)) False:=λr hB Kx=>by
     refine ah (λ_=>?_) (λqx=>by rw[hf]at qx;cases qx);rw[OG z6 y5 rfl];exact u7 _ hB
    refine⟨_,gj _ _,_,N.l0,_,gj _ _,_,r3.l0,ah (λn=>?_) (λn=>?_)⟩
    ·have n:a.i≠c.i:=by simpa using n
     exact z5 (by unfold HR;rw[if_neg n])
    have n:a.i=c.i:=by simpa using n
    refine⟨_,pj _,_,dU.l2 B,ah (λC=>?_) (λC=>?_)⟩
    ·have C:d=0:=by
      have:(d:Int)=0:=by simpa using C
      omega
     refine ah (λH=>?_) (λH=>?_)
     ·have H:i=j:=by
       have:(i:Int)=j:=by simpa using H
       omega
      exact⟨_,gj _ _,_,N.l0,_,eV _ _,_,N.l3,_,eV _ _,_,r3.l3,_,my _ _,_,tF _ _ _,x8 0 (by unfold HR;rw[if_pos n,if_pos C,if_pos H]) True⟩
     ·have H:i≠j:=by
       intro e;rw[e]at H;simp at H
      refine⟨_,pj _,_,dU.l2 B,ah (λq4=>?_) (λq4=>?_)⟩
      ·refine ah (λU=>?_) (λU=>by rw[q4]at U;cases U);exact⟨_,gj _ _,_,N.l0,_,eV _ _,_,N.l3,_,eV _ _,_,r3.l3,_,my _ _,_,tF _ _ _,x8 1 (by unfold HR;rw[if_pos n,if_pos C,if_neg H]) True⟩
      ·exfalso;have:¬(d:Int)=0:=by simpa using q4
       omega
    ·have C:d≠0:=by
      intro e;rw[e]at C;simp at C
     refine⟨_,pj _,_,dU.l2 B,ah (λq4=>?_) (λq4=>?_)⟩
     ·exfalso;have:(d:Int)=0:=by simpa using q4
      omega
     ·refine⟨_,gj _ _,_,N.l0,ah (λU=>?_) (λU=>?_)⟩
      ·have U:0<a.i:=dT U;exact⟨_,gj _ _,_,N.l0,_,eV _ _,_,N.l3,_,eV _ _,_,r3.l3,_,my _ _,_,tF _ _ _,x8 1 (by unfold HR;rw[if_pos n,if_neg C,if_pos U]) True⟩
      ·have U:¬0<a.i:=dF U;exact z5 (by unfold HR;rw[if_pos n,if_neg C,if_neg U])
   ·have G:=dF G;have e:f.an.take j=f.an:=List.take_of_length_le (by omega);rw[e]at i6;rw[u2];refine cG (s.an.length-(i+1)) (by omega) ⟨by omega,rfl,L6,?_,hc.trans x7⟩;rw[v0,<-append_assoc];exact i6
  have y7:AB V g.next a:=N.1;refine⟨_,gj _ _,_,y7.l0,ah (λn=>?_) (λn=>?_)⟩
  ·have n:a.i=0:=by simpa using n
   have y8:∀r:Nat,(if d=0 then 2 else d)=r->∀(Kx:aa->Prop),(∀(W:aa)(T:List cC),I (D++Hs q d a) W T->eU V m W T->Kx W)->aS (Nat.blt A YB) (FW SS A (fa++[.int .i64 0,.agg ⟨[.int .i64 a.t,.int .i64 (q:Int),.int .i64 (r:Int)]⟩]++fc) V (λv h=>v = .tuple ⟨[]⟩/\Kx h)) False:=λr hr Kx hK=>by
    refine ah (λ_=>?_) (λqx=>by rw[hf]at qx;cases qx);rw[OG z6 rfl rfl];have hS:Hs q d a=[(0,(a.t.toNat,q,r))]:=by unfold Hs;rw[if_pos n,hr]
    rw[hS]at y9 hK;refine(hs D (0,(a.t.toNat,q,r)) _ y9 V m i3).mono ?_;rintro _ g8 ⟨rfl,L8,i8,c8⟩;exact⟨rfl,hK g8 L8 i8 c8⟩
   refine⟨_,pj _,_,dU.l2 B.1,ah (λC=>?_) (λC=>?_)⟩
   ·have C:d=0:=by
     have:(d:Int)=0:=by simpa using C
     omega
    exact⟨_,eV _ _,_,y7.l3,_,ph _,_,nD _ _,_,dU.l1 B.1,_,my _ _,_,tF _ _ _,y8 2 (if_pos C) _ Z⟩
   ·have C:d≠0:=by
     intro e;rw[e]at C;simp at C
    exact⟨_,eV _ _,_,y7.l3,_,ph _,_,nD _ _,_,dU.l1 B.1,_,my _ _,_,pj _,_,dU.l2 B.1,_,tF _ _ _,y8 d (if_neg C) _ Z⟩
  ·have n:a.i≠0:=by simpa using n
   have hS:Hs q d a=[]:=by unfold Hs;rw[if_neg n]
   exact Z V m (by rw[hS,append_nil];exact i3) (eU.refl _ _)
 ·have G:=dF G;have e:s.an.take i=s.an:=List.take_of_length_le (by omega);rw[e]at iL;refine⟨_,pj _,_,dU.l2 B.1,ah (λn=>?_) (λn=>?_)⟩
  rotate_left
  ·have n:d≠1:=by
    intro e;rw[e]at n;simp at n
   rw[x4,if_neg n,append_nil];exact⟨rfl,m,iL,c2.trans hc⟩
  have n:d=1:=by
   have:(d:Int)=1:=by simpa using n
   omega
  rw[if_pos n]at x4;refine uW (bD M S R P) (qV (p,q,d)) A fa fc O.next K E J (λF j t=>j<=f.an.length/\F=f.an.length-j/\∃w,I (zW q d f.an s.an 0++(f.an.take j).flatMap (Nz p)) t w/\eU g m t w) _ (λF j=>?_) f.an.length (i:=0) ⟨zero_le _,rfl,m,by simpa using iL,eU.refl _ _⟩;intros;rename_i W z9;obtain⟨f5,rfl,T,i5,X⟩:=z9;have o5:=Y _ _ _ i5;have B:=X _ _ B;refine ah (λG=>?_) (λG=>?_)
  ·have G:=dT G;have x3:j<f.an.length:=by omega
   obtain⟨c,Q⟩:∃c,f.an[j]?=some c:=⟨_,gE x3⟩
   have x5:=gd.an f z0 c (List.mem_of_getElem? Q);obtain⟨v1,v2⟩:=fT Q;obtain⟨cc,oc,y1,y2,_⟩:=(y6.ok o5.ok).at_ Q;obtain⟨u5,r1,r2,r3⟩:=wc o5.ok.wf c;refine⟨_,y1,_,y2,_,Fk,u5,r1,?_⟩;have i6:=hG _ _ _ _ i5 r2;have c6:=(o5.grow r2).2;have B:=c6 _ _ B;have X:=X.trans c6;generalize u5.app (W.push Hr)=g6 at*;have x0:wrap .i64 ((j:Int)+1)=((j+1:Nat):Int):=bA x3 (by omega);have y5:c.t=((c.t.toNat:Nat):Int):=by have:=x5.t0;omega
   refine⟨_,gj _ _,_,r3.l0,ah (λH=>?_) (λH=>?_)⟩
   ·have H:c.i=0:=by simpa using H
    have hC:Nz p c=[(0,(p,c.t.toNat,1))]:=by unfold Nz;rw[if_pos H]
    refine⟨_,ph _,_,rQ _ _,_,dU.l0 B.1,_,eV _ _,_,r3.l3,_,my _ _,_,tF _ _ _,ah (λ_=>?_) (λq=>by rw[hf]at q;cases q)⟩;have x6:RG M (p,q,d)=(zW q d f.an s.an 0++(f.an.take j).flatMap (Nz p))++(0,(p,c.t.toNat,1))::(f.an.drop (j+1)).flatMap (Nz p):=by
     rw[x4];have e:=congrArg (List.flatMap (Nz p)) v1;rw[List.flatMap_append,List.flatMap_cons,hC]at e;rw[e];simp only[append_assoc,List.cons_append,List.nil_append]
    rw[show([.int .i64 (((p,q,d):Pl).1:Int),.int .i64 c.t,.int .i64 1]:List Value)=qV (p,c.t.toNat,1)from OG rfl y5 rfl];refine(hs _ _ _ x6 g6 T i6).mono ?_;rintro _ g7 ⟨rfl,L7,i7,c7⟩;refine⟨rfl,?_⟩;rw[x0];refine cG (f.an.length-(j+1)) (by omega) ⟨by omega,rfl,L7,?_,X.trans c7⟩;rw[v2,List.flatMap_append,List.flatMap_cons,hC,<-append_assoc];exact i7
   ·have H:c.i≠0:=by simpa using H
    rw[x0];refine cG (f.an.length-(j+1)) (by omega) ⟨by omega,rfl,T,?_,X⟩;rw[v2,List.flatMap_append,List.flatMap_cons,show Nz p c=[] by unfold Nz;rw[if_neg H]];simpa using i6
  ·have G:=dF G;have e:f.an.take j=f.an:=List.take_of_length_le (by omega);rw[e,<-x4]at i5;exact⟨rfl,T,i5,c2.trans (hc.trans X)⟩
end
end
variable{h:aa}{k:Nat}{M:aG}{a:Option Addr}{n:Nat}{m:Nat}{g:aa}
theorem SV(a b c d:Int):eI SS.P 2 105 (.agg ⟨[.int .i64 a,.int .i64 b]⟩) (.agg ⟨[.int .i64 c,.int .i64 d]⟩)=some ((a==c)&&(b==d)):=by
 have e:eI SS.P 2 105 (.agg ⟨[.int .i64 a,.int .i64 b]⟩) (.agg ⟨[.int .i64 c,.int .i64 d]⟩)=Bool.rec (motive:=λ_=>Option Bool) (some false) (Bool.rec (motive:=λ_=>Option Bool) (some false) (some true) (b==d)) (a==c):=by kernel_rfl
 rw[e]
 cases (a==c)<;>cases (b==d)<;>rfl
theorem XH(a b c d e f:Int):eI SS.P 3 107 (.agg ⟨[.int .i64 a,.int .i64 b,.int .i64 c]⟩) (.agg ⟨[.int .i64 d,.int .i64 e,.int .i64 f]⟩)=some ((a==d)&&(b==e)&&(c==f)):=by
 have h:eI SS.P 3 107 (.agg ⟨[.int .i64 a,.int .i64 b,.int .i64 c]⟩) (.agg ⟨[.int .i64 d,.int .i64 e,.int .i64 f]⟩)=match eI SS.P 2 105 (.agg ⟨[.int .i64 a,.int .i64 b]⟩) (.agg ⟨[.int .i64 d,.int .i64 e]⟩)with
  |some true=>Bool.rec (motive:=λ_=>Option Bool) (some false) (some true) (c==f)
  |some false=>some false
  |none=>none:=by kernel_rfl
 rw[h,SV]
 cases (a==d)<;>cases (b==e)<;>cases (c==f)<;>rfl
theorem TA(x y:Pl):qi SS.P 107 (.agg ⟨qV x⟩) (.agg ⟨qV y⟩)=some (decide (x=y)):=by
 unfold qi;rw[if_pos (show xJ (Value.agg ⟨qV y⟩)=true from rfl)];rw[show eI SS.P 3 107 (.agg ⟨qV x⟩) (.agg ⟨qV y⟩)=_ from XH ..];by_cases h:x=y
 ·subst h;simp[qV,JP,zh,EK]
 ·have:((x.1:Int)==(y.1:Int)&&(x.2.1:Int)==(y.2.1:Int)&&(x.2.2:Int)==(y.2.2:Int))=false:=by
   refine Bool.eq_false_iff.2 λe=>h ?_;simp only[and_eq_true,beq_iff_eq]at e;obtain⟨⟨a,c⟩,b⟩:=e;exact Prod.ext (by omega) (Prod.ext (by omega) (by omega))
  rw[this];simp[h]
def lO(l:List Pl):List (Value×Value):=l.map λk=>(.agg ⟨qV k⟩,.bool true)
theorem aaj(x:Pl):∀(l:List Pl),oz SS.P 107 (.agg ⟨qV x⟩) (lO l)=some (if x∈l then some (.bool true)else none)
 |[]=>rfl
 | k::l=>by
  show(match qi SS.P 107 (.agg ⟨qV x⟩) (.agg ⟨qV k⟩)with|some true=>some (some (Value.bool true))|some false=>oz SS.P 107 (.agg ⟨qV x⟩) (lO l)|none=>none)=_;rw[TA];by_cases h:x=k
  ·rw[decide_eq_true h,if_pos (by rw[h];exact mem_cons_self ..)]
  ·rw[decide_eq_false h];dsimp only;rw[aaj x l];by_cases a:x∈l
   ·rw[if_pos a,if_pos (List.mem_cons_of_mem _ a)]
   ·rw[if_neg a,if_neg (λe=>(mem_cons.1 e).elim h a)]
theorem NW{x:Pl}:∀{l:List Pl},x∉l->jv SS.P 107 (.agg ⟨qV x⟩) (.bool true) (lO l)=some (lO (l++[x]))
 |[],_=>rfl
 |k::l,h=>by
  show(match qi SS.P 107 (.agg ⟨qV x⟩) (.agg ⟨qV k⟩)with|some true=>some ((Value.agg ⟨qV x⟩,Value.bool true)::lO l)|some false=>(jv SS.P 107 (.agg ⟨qV x⟩) (.bool true) (lO l)).map ((Value.agg ⟨qV k⟩,Value.bool true)::·)|none=>none)=_;rw[TA,decide_eq_false (λe=>h (by rw[e];exact mem_cons_self ..))];dsimp only;rw[NW λe=>h (List.mem_cons_of_mem _ e)];rfl
theorem N7:SS.P.underlying 110=some (.map 107 4):=by kernel_rfl
theorem aer:zeroOf SS.P 4=some (.bool false):=by kernel_rfl
theorem Yz{l:List Pl}(c:h.get k=some (.map (lO l)))(x:Pl):jF SS.P 110 (.map (some k)) (.agg ⟨qV x⟩) false h=some (.bool (decide (x∈l))):=by
 have b:jF SS.P 110 (.map (some k)) (.agg ⟨qV x⟩) false h=match (match h.get k with|some (.map a)=>some a|_=>none),zeroOf SS.P 4 with
  |some a,some z=>if kW SS.P 107 (.agg ⟨qV x⟩)then match oz SS.P 107 (.agg ⟨qV x⟩) a with
   |some (some v)=>some v
   |some none=>some z
   |none=>none else none
  |_,_=>none:=by
  unfold jF bj;dsimp only;rw[N7];rfl
 rw[b,c,aer];dsimp only;rw[show kW SS.P 107 (.agg ⟨qV x⟩)=true by kernel_rfl,if_pos rfl,aaj];by_cases h:x∈l
 ·rw[if_pos h,decide_eq_true h]
 ·rw[if_neg h,decide_eq_false h]
theorem Wg{l:List Pl}(b:h.get k=some (.map (lO l))){x:Pl}(a:x∉l):gH SS.P 110 (.map (some k)) (.agg ⟨qV x⟩) (.bool true) h=some (undef,.set k (.map (lO (l++[x])))):=by
 unfold gH;rw[N7];dsimp only;rw[b];dsimp only;rw[show kW SS.P 107 (.agg ⟨qV x⟩)=true by kernel_rfl,if_pos rfl,NW a];rfl
theorem Z2:Go.Ab.isAgg SS.P 110=false:=by kernel_rfl
theorem Ow:SS.P.underlying 108=some (.slice 107):=by kernel_rfl
theorem Z1:Go.Ab.isAgg SS.P 108=false:=by kernel_rfl
noncomputable def VO:TypeInfo:=(SS.P.info? 107).getD default
theorem adO:dC SS.P 107=some VO:=by kernel_rfl
theorem MY:VO.size=3:=by kernel_rfl
theorem J8:VO.bytes=24:=by kernel_rfl
theorem ad5:ch SS.P 108=true:=by kernel_rfl
theorem VE:au SS.P 108=some 1:=by kernel_rfl
theorem aac(x:Pl):az SS.P 108 1 [(0,(.agg ⟨qV x⟩))]=some (.cells (qV x) 107 3 true,jE 1 1):=by kernel_rfl
theorem adP:dC SS.P 112=some OE:=by kernel_rfl
theorem ad6:ch SS.P 109=true:=by kernel_rfl
theorem aad(p:Option Addr):az SS.P 109 1 [(0,(.pointer p))]=some (.cells [.pointer p] 112 1 true,jE 1 1):=by cases p<;>kernel_rfl
theorem Xg(a:Int):aD SS.P 116 [(0,(.int .i64 a))]=some (.agg ⟨rX ⟨a,0,0⟩⟩):=by kernel_rfl
structure PT where
 k:Pl
 ms:List Mv
 p:Option Addr
def inP(M:aG)(k:Pl):Prop:=k.1<M.ak.length/\k.2.1<M.ak.length/\k.2.2<=2
structure UC where
 k5:Nat
 k7:Nat
 k8:Nat
 k9:Nat
 km:Nat
def ZL(K:UC)(b d:Value)(a:List PT)(e c:cC):List cC:=[[(K.k7,.cells [b] 108 0 true)],e,[(K.k8,.cells [d] 109 0 true)],c,[(K.km,.map (lO (a.map PT.k)))]]
structure US(h0:aa)(K:UC)(M:aG)(sa:Option Addr)(sn sc:Nat)(us:List PT)(g:aa)(L:List cC):Prop where
 o:OL h0 g L
 e:∃lv tv Gl Gt,L=ZL K lv tv us Gl Gt/\fj 107 3 lv (us.map λu=>qV u.k) Gl/\dw 112 tv (us.map λu=> .pointer u.p) Gt
 m5:Im g L K.k5 (Bm M sa sn sc)
 m9:Im g L K.k9 (.cells [.map (some K.km)] 110 0 true)
 nd:(us.map PT.k).Nodup
 at_:∀(j:Nat)(u:PT),us[j]?=some u->inP M u.k/\Rel M (wI u.ms.reverse) u.k/\(∀m∈u.ms,Qh m)/\u.ms.length<=j/\nR (Im g L) u.p u.ms
theorem US.aa7{K:UC}{e:List PT}{d:aa}{L b:List cC}(r:US h K M a n m e g L)(c:eU g L d b):∀(j:Nat)(u:PT),e[j]?=some u->inP M u.k/\Rel M (wI u.ms.reverse) u.k/\(∀q∈u.ms,Qh q)/\u.ms.length<=j/\nR (Im d b) u.p u.ms:=λj u l=>by
 obtain⟨i,k,f,o,p⟩:=r.at_ j u l;exact⟨i,k,f,o,p.mono c⟩
theorem US.grow{K:UC}{d:List PT}{c:aa}{L:List cC}(r:US h K M a n m d g L)(o:Ok g c):US h K M a n m d c L/\eU g L c L:=by
 obtain⟨e,b⟩:=r.o.grow o;exact⟨⟨e,r.e,b _ _ r.m5,b _ _ r.m9,r.nd,r.aa7 b⟩,b⟩
theorem Nc{a:List PT}(i:(a.map PT.k).Nodup)(h:∀u∈a,inP M u.k):a.length<=M.ak.length*(3*M.ak.length):=by
 have n:((a.map PT.k).map λk:Pl=>((k.1,3*k.2.1+k.2.2):NN)).Nodup:=by
  refine List.pairwise_map.2 (List.Pairwise.imp_of_mem (λ{x y} b p f e=>f ?_) i);obtain⟨u,c,rfl⟩:=mem_map.1 b;obtain⟨v,j,rfl⟩:=mem_map.1 p;have d:=(h u c).2.2;have m:=(h v j).2.2;injection e with l e2
  exact Prod.ext l (Prod.ext (by omega) (by omega))
 have g:=nI (N:=M.ak.length) (M:=3*M.ak.length) n λk o=>by
  obtain⟨x,b,rfl⟩:=mem_map.1 o;obtain⟨u,c,rfl⟩:=mem_map.1 b;obtain⟨d,m,q⟩:=h u c;exact⟨d,by dsimp only;omega⟩
 rw[lM,lM]at g;exact g
section
section
variable {h0:aa} {K:UC} {M:aG} {sa:Option Addr} {sn sc:Nat} {us us0:List PT} {g:aa} {L:List cC} {ki i:Nat}
def UV(h0:aa)(K:UC)(M:aG)(sa:Option Addr)(sn sc:Nat)(us0:List PT)(ki i:Nat)(a:List (Int×Pl))(g:aa)(L:List cC):Prop:=
 ∃us,US h0 K M sa sn sc us g L/\Im g L ki (.cells [iA i] 3 0 true)/\(∃r,us=us0++r)/\∀x∈a,x.2∈us.map PT.k
theorem UV.ol{a:List (Int×Pl)}(v:UV h0 K M sa sn sc us0 ki i a g L):OL h0 g L:=by
 obtain⟨us,r,_⟩:=v;exact r.o
theorem UV.grow{a:List (Int×Pl)}(v:UV h0 K M sa sn sc us0 ki i a g L)(o:Ok g h):UV h0 K M sa sn sc us0 ki i a h L:=by
 obtain⟨us,r,c,d⟩:=v;obtain⟨b,e⟩:=r.grow o;exact⟨us,b,e _ _ c,d⟩
theorem Ru(T:Wf h0)(gd:Good M)(sz:M.ak.length<=300){s:PT}(S:us0[i]?=some s){c:Int}{d:Pl}(hs:RU M s.k c d)(hk:inP M d)(hc:0<=c){x2:List (Int×Pl)}(hv:UV h0 K M sa sn sc us0 ki i x2 g L):
  FW SS 70 [.int .i64 c,.agg ⟨qV d⟩,pA K.k9,pA K.k7,pA K.k8,pA ki] g (λv g'=>v = .tuple ⟨[]⟩/\∃L',UV h0 K M sa sn sc us0 ki i (x2++[(c,d)]) g' L'/\eU g L g' L'):=by
 refine Rt c (qV d) K.k9 K.k7 K.k8 ki g _ ⟨_,Su d,?_⟩;obtain⟨us,r,C,⟨V,A⟩,Z⟩:=hv;have b:=r.o.fg (dU d);obtain⟨r,p⟩:=r.grow ((Ok.refl r.o.ok.wf).push (dU d));have C:=p _ _ C;generalize g.push (dU d)=g1 at*;obtain⟨o,⟨lv,tv,Gl,G,rfl,rl,rt⟩,U,J,nd,P⟩:=id r;obtain⟨la,lc,x1⟩:=rl.oa;obtain⟨B,tc,x5⟩:=rt.oa;rw[lM]at x1 x5;subst x1;subst x5;have z1:=Nc nd λu S=>by
  obtain⟨j,D⟩:=getElem?_of_mem S;exact(P j u D).1
 have z3:M.ak.length*(3*M.ak.length)<=300*900:=Nat.mul_le_mul sz (by omega);refine⟨_,J.ld N7 Z2,_,dU.all b.1,_,Yz (o.get 4 rfl) d,ah (λq=>?_) (λq=>?_)⟩
 rotate_left
 ·have hm:d∈us.map PT.k:=by simpa using q
  refine⟨rfl,_,⟨us,r,C,⟨V,A⟩,λx hx=>?_⟩,p⟩;rcases List.mem_append.1 hx with h|h
  ·exact Z x h
  ·rw[mem_singleton.1 h];exact hm
 have hm:d∉us.map PT.k:=by simpa using q
 obtain⟨o2,t⟩:=o.kJ T 4 rfl (.map (lO (us.map PT.k++[d])));refine⟨_,J.ld N7 Z2,_,dU.all b.1,_,Wg (o.get 4 rfl) hm,?_⟩;have b:=t _ _ b;have p:=p.trans t;generalize (bp.set K.km (.map (lO (us.map PT.k++[d])))).app g1=g2 at*;refine⟨_,_,_,aR Ow Z1 (o2.get 0 rfl) (by simp),_,dU.all b.1,_,_,_,aac d,?_⟩;have k4:=aI g2 (.cells (qV d) 107 3 true);obtain⟨o4,c4⟩:=o2.grow ((Ok.refl o2.ok.wf).push (.cells (qV d) 107 3 true));have p:=p.trans c4;generalize g2.push (.cells (qV d) 107 3 true)=g4 at*;obtain⟨m,l,f,u,p1,p2,w,y3,o5,c5⟩:=rl.add Ow adO MY ad5 T o4 (j:=1) rfl (GY k4 rfl) (λr hr=>by rw[mem_singleton.1 hr];rfl) rfl (by rw[J8,lM,List.length_singleton];omega) (by rw[lM,List.length_singleton];omega) (.inl (Nat.le_refl _));refine⟨_,_,_,_,p1,?_⟩;have p:=p.trans c5;generalize u.app g4=H at*;obtain⟨R,c6⟩:=o5.kJ T 0 rfl (.cells [.slice m l f] 108 0 true);have s6:aj SS.P 108 (pA K.k7) (.slice m l f) H=some (undef,.set K.k7 (.cells [.slice m l f] 108 0 true)):=bG VE (cs:=[.slice la us.length lc]) (o5.get 0 rfl) (by simp) (aV ..) (cK ..);refine⟨_,s6,?_⟩;have p:=p.trans c6;have F:=((t.trans c4).trans c5).trans c6;have C:=F _ _ C;have U:=F _ _ U;have J:=F _ _ J;have N:∀(j:Nat)(u:PT),us[j]?=some u->nR (Im _ _) u.p u.ms:=λj u S=>(P j u S).2.2.2.2.mono F;clear t c4 c5 c6 F o2 o4 o5 k4 p1 b;change OL h0 ((bp.set K.k7 (.cells [.slice m l f] 108 0 true)).app H) [[(K.k7,.cells [.slice m l f] 108 0 true)],w,[(K.k8,.cells [.slice B us.length tc] 109 0 true)],G,[(K.km,.map (lO (us.map PT.k++[d])))]]at R;have p:eU g _ ((bp.set K.k7 (.cells [.slice m l f] 108 0 true)).app H) [[(K.k7,.cells [.slice m l f] 108 0 true)],w,[(K.k8,.cells [.slice B us.length tc] 109 0 true)],G,[(K.km,.map (lO (us.map PT.k++[d])))]]:=p;have C:Im ((bp.set K.k7 (.cells [.slice m l f] 108 0 true)).app H) [[(K.k7,.cells [.slice m l f] 108 0 true)],w,[(K.k8,.cells [.slice B us.length tc] 109 0 true)],G,[(K.km,.map (lO (us.map PT.k++[d])))]] ki (.cells [iA i] 3 0 true):=C;have U:Im ((bp.set K.k7 (.cells [.slice m l f] 108 0 true)).app H) [[(K.k7,.cells [.slice m l f] 108 0 true)],w,[(K.k8,.cells [.slice B us.length tc] 109 0 true)],G,[(K.km,.map (lO (us.map PT.k++[d])))]] K.k5 _:=U;have J:Im ((bp.set K.k7 (.cells [.slice m l f] 108 0 true)).app H) [[(K.k7,.cells [.slice m l f] 108 0 true)],w,[(K.k8,.cells [.slice B us.length tc] 109 0 true)],G,[(K.km,.map (lO (us.map PT.k++[d])))]] K.k9 _:=J;have N:∀(j:Nat)(u:PT),us[j]?=some u->nR (Im ((bp.set K.k7 (.cells [.slice m l f] 108 0 true)).app H) [[(K.k7,.cells [.slice m l f] 108 0 true)],w,[(K.k8,.cells [.slice B us.length tc] 109 0 true)],G,[(K.km,.map (lO (us.map PT.k++[d])))]]) u.p u.ms:=N;clear s6;generalize (bp.set K.k7 (.cells [.slice m l f] 108 0 true)).app H=E at*;have O:us[i]?=some s:=by
  rw[A,List.getElem?_append_left (List.getElem?_eq_some_iff.1 S).1];exact S
 have z0:i<us.length:=(List.getElem?_eq_some_iff.1 O).1;obtain⟨y8,x8,y4,y7,_⟩:=P i s O;have y5:=N i s O;have e7:=(Ok.refl R.ok.wf).room 12;obtain⟨o7,c7⟩:=R.grow e7;obtain⟨p0,i1,i2⟩:=(rt.rd o7 (i:=3) rfl).at_ xX B0 OJ Nv (k:= .i64) (i:=(i:Int)) (by omega) (by rw[lM];omega);have i2:ae SS.P 112 (Go.Ab.room E 12) (.pointer (some p0))=some (.pointer s.p):=by
  rw[i2,Int.toNat_natCast,gD,getElem?_map,O];rfl
 have l8:ae SS.P 109 (Go.Ab.room E 12) (pA K.k8)=some (.slice B us.length tc):=aR xX JA (o7.get 2 rfl) (by simp);refine⟨_,_,_,l8,_,Xg c,_,_,_,l8,_,(c7 _ _ C).ld lC lB,_,i1,_,i2,_,KU ⟨c,0,0⟩ s.p,_,KY ⟨c,0,0⟩ s.p,_,_,_,aad _,?_⟩;obtain⟨e8,g8,g9⟩:=OH R.ok.wf (n:=12) (i:=8) (j:=9) (by omega) (by omega) (by omega) (zp ⟨c,0,0⟩ s.p) (.cells [.pointer (some ⟨E.next+8,0,none⟩)] 112 1 true);have m8:=R.new (Nat.le_add_right E.next 8) g8;obtain⟨o8,c8⟩:=R.grow e8;have p:=p.trans c8;clear e7 o7 c7 i2 l8 i1;generalize y9:E.next+8=I at*;generalize z2:E.next+9=ky at*;generalize aw (Go.Ab.room E 12) E.next [(9,.cells [.pointer (some ⟨I,0,none⟩)] 112 1 true),(8,zp ⟨c,0,0⟩ s.p)]=x3 at*;obtain⟨z,y,t,u2,y6,p3,Q,x7,x0,x6⟩:=rt.snoc xX adP Cv ad6 T o8 (j:=3) rfl (x:= .pointer (some ⟨I,0,none⟩)) rfl g9 (by rw[zo,lM];omega) (by rw[lM];omega);refine⟨_,_,_,_,y6,?_⟩;have p:=p.trans x6;generalize u2.app x3=Y at*;obtain⟨W,x4⟩:=x0.kJ T 2 rfl (.cells [.slice z y t] 109 0 true);have p:=p.trans x4;have eL:ZL K (.slice m l f) (.slice z y t) (us++[⟨d,⟨c,0,0⟩::s.ms,some ⟨I,0,none⟩⟩]) w Q=[[(K.k7,.cells [.slice m l f] 108 0 true)],w,[(K.k8,.cells [.slice z y t] 109 0 true)],Q,[(K.km,.map (lO (us.map PT.k++[d])))]]:=by
  unfold ZL;rw[map_append];rfl
 have cb:eU x3 ([[(K.k7,.cells [.slice m l f] 108 0 true)],w,[(K.k8,.cells [.slice B us.length tc] 109 0 true)],G,[(K.km,.map (lO (us.map PT.k++[d])))]]) ((bp.set K.k8 (.cells [.slice z y t] 109 0 true)).app Y) (ZL K (.slice m l f) (.slice z y t) (us++[⟨d,⟨c,0,0⟩::s.ms,some ⟨I,0,none⟩⟩]) w Q):=by rw[eL];exact x6.trans x4
 have X:=c8.trans cb;have W:OL h0 ((bp.set K.k8 (.cells [.slice z y t] 109 0 true)).app Y) (ZL K (.slice m l f) (.slice z y t) (us++[⟨d,⟨c,0,0⟩::s.ms,some ⟨I,0,none⟩⟩]) w Q):=by rw[eL];exact W
 have p:eU g (ZL K (.slice la us.length lc) (.slice B us.length tc) us Gl G) ((bp.set K.k8 (.cells [.slice z y t] 109 0 true)).app Y) (ZL K (.slice m l f) (.slice z y t) (us++[⟨d,⟨c,0,0⟩::s.ms,some ⟨I,0,none⟩⟩]) w Q):=by rw[eL];exact p
 refine⟨_,bG MS (x0.get 2 rfl) (by simp) (aV ..) (cK ..),rfl,_,⟨us++[⟨d,⟨c,0,0⟩::s.ms,some ⟨I,0,none⟩⟩],⟨W,⟨.slice m l f,.slice z y t,w,Q,rfl,by rw[map_append];exact y3,by rw[map_append];exact x7⟩,X _ _ U,X _ _ J,?_,λj u D=>?_⟩,X _ _ C,⟨V++[⟨d,⟨c,0,0⟩::s.ms,some ⟨I,0,none⟩⟩],by rw[A,append_assoc]⟩,λx hx=>?_⟩,p⟩
 ·rw[map_append];refine List.nodup_append.2 ⟨nd,by simp,λa ha b hb e=>?_⟩;have y1:b=d:=by simpa using hb
  rw[e,y1]at ha;exact hm ha
 ·by_cases y2:j<us.length
  ·rw[List.getElem?_append_left y2]at D;obtain⟨h1,h2,h3,h4,_⟩:=P j u D;exact⟨h1,h2,h3,h4,(N j u D).mono X⟩
  ·rw[List.getElem?_append_right (by omega)]at D;have y0:j-us.length=0:=by
    have:=(List.getElem?_eq_some_iff.1 D).1;simp at this;omega
   rw[y0]at D;obtain rfl:=oI D;refine⟨hk,?_,λmm x9=>?_,by show(s.ms.length+1)<=j;omega,.cons (cb _ _ m8) (y5.mono X)⟩
   ·show Rel M (wI (⟨c,0,0⟩::s.ms).reverse) d;rw[List.reverse_cons,Ng];exact x8.step hs
   ·rcases mem_cons.1 x9 with rfl|h
    ·exact⟨hc,Int.le_refl _,Int.le_refl _⟩
    ·exact y4 mm h
 ·rw[map_append];rcases List.mem_append.1 hx with h|h
  ·exact List.mem_append_left _ (Z x h)
  ·rw[mem_singleton.1 h];exact List.mem_append_right _ (mem_singleton.2 rfl)
end
end
noncomputable def kI:FD:=dY Tryz.f26 [([1,1,1,1,1,1,1,0,1,0,0],[5,7,8,9,10])]
abbrev ep(c e a d:Nat)(b:Nat):LV:=[(pA c),(pA e),(pA a),(pA d),(pA b)]
theorem Wd(u:LV)(h:aa)(Q:VH)(M:xN (dp SS.P 24 (.agg ⟨u⟩)) h λB1 w=>xA (ae SS.P 24 w (pA (h.next))) λN=>FW SS 39 [(.agg ⟨N⟩)] w λL d=>∃r:LV,∃s:Int,L=(.tuple ⟨[(.agg ⟨r⟩),(.int .i64 s)]⟩)/\xN (aA SS.P 24) d λB8 I=>xU (aj SS.P 24 (pA (d.next)) (.agg ⟨r⟩) I) I λY a=>aS (((s:Int) !=0)) (Q (.tuple ⟨[(.bool false),nA,(.int .i64 s)]⟩) a) (xP (af SS.P 24 (pA (d.next)) 3) λA=>xL (ae SS.P 22 a (.pointer (some A))) λZ v x2=>aS (decide (((v:Int):Int)>200)) (Q (.tuple ⟨[(.bool false),nA,(.int .i64 2)]⟩) a) (xP (af SS.P 24 (pA (d.next)) 1) λz=>xI .i64 (ae SS.P 3 a (.pointer (some z))) λJ=>xP (af SS.P 24 (pA (d.next)) 1) λE=>xI .i64 (ae SS.P 3 a (.pointer (some E))) λy=>xA (aD SS.P 105 [(0,(.int .i64 J)),(1,(.int .i64 y))]) λx=>xA (aD SS.P 107 [(0,(.agg ⟨x⟩)),(1,(.int .i64 0))]) λt=>xN (aA SS.P 107) a λx1 n=>xU (aj SS.P 107 (pA (a.next)) (.agg ⟨t⟩) n) n λS i=>xA (ae SS.P 107 i (pA (a.next))) λC=>xR (az SS.P 108 1 [(0,(.agg ⟨C⟩))]) i λx0 D F q=>xR (az SS.P 109 1 [(0,(.pointer none))]) q λx4 K G e=>xN (aA SS.P 108) e λV g=>xN (aA SS.P 109) g λX l=>xU (aj SS.P 108 (pA (e.next)) (sA (i.next) D F) l) l λR m=>xU (aj SS.P 109 (pA (g.next)) (sA (q.next) K G) m) m λT b=>∃c:bu,oC SS.P 110=some (c,λk=> .map (some k))/\xA (ae SS.P 107 (b.push c) (pA (a.next))) λB=>xU (gH SS.P 110 (.map (some b.next)) (.agg ⟨B⟩) (.bool true) (b.push c)) (b.push c) λO f=>xN (aA SS.P 110) f λW o=>xU (aj SS.P 110 (pA (f.next)) (.map (some b.next)) o) o λU j=>xN (aA SS.P 3) j λP p=>xU (aj SS.P 3 (pA (j.next)) (.int .i64 0) p) p λx3 H=>LL SS kI [1,1,1,1,1,1,1,0,1,0,0] (ep (d.next) (e.next) (g.next) (f.next) (j.next)) H (KK SS kI [1,1,1,1,1,1,1,0,1,0] [] (EE SS kI Q))))):FW SS 26 [(.agg ⟨u⟩)] h Q:=eh kI Tryz.func26 (av M)
theorem ym(mv:LV)(e f i j:Nat)(k:Nat->Nat->aa->Prop)(Q:VH)(step:∀(l:Nat) (b:Nat) (zz:Nat->Value) (h:aa),k l b h->xI .i64 (ae SS.P 3 h (pA b)) λx1=>xL (ae SS.P 108 h (pA f)) λv3 y2 v4=>aS (decide ((x1:Int)<(y2:Int))) (xL (ae SS.P 108 h (pA f)) λy4 x5 x9=>xI .i64 (ae SS.P 3 h (pA b)) λz1=>xP (ai SS.P 108 (.slice y4 x5 x9) (.int .i64 z1)) λy7=>xA (ae SS.P 107 h (.pointer (some y7))) λy6=>xN (aA SS.P 107) h λv5 v=>xU (aj SS.P 107 (pA (h.next)) (.agg ⟨y6⟩) v) v λv6 a=>xP (af SS.P 107 (pA (h.next)) 1) λz0=>xI .i64 (ae SS.P 3 a (.pointer (some z0))) λu3=>aS (((u3:Int) !=0)) (xP (af SS.P 24 (pA e) 3) λz7=>xL (ae SS.P 22 a (.pointer (some z7))) λY y8 u1=>xP (af SS.P 107 (pA (h.next)) 0) λx3=>xP (af SS.P 105 (.pointer (some x3)) 0) λz2=>xI .i64 (ae SS.P 3 a (.pointer (some z2))) λy5=>xP (ai SS.P 22 (.slice Y y8 u1) (.int .i64 y5)) λx4=>xP (af SS.P 44 (.pointer (some x4)) 0) λu2=>xS (ae SS.P 9 a (.pointer (some u2))) λz4=>aS (!((z4:LB)==[])) (xP (af SS.P 24 (pA e) 3) λZ=>xL (ae SS.P 22 a (.pointer (some Z))) λy0 x8 x6=>xP (af SS.P 107 (pA (h.next)) 0) λy3=>xP (af SS.P 105 (.pointer (some y3)) 1) λy1=>xI .i64 (ae SS.P 3 a (.pointer (some y1))) λW=>xP (ai SS.P 22 (.slice y0 x8 x6) (.int .i64 W)) λx7=>xP (af SS.P 44 (.pointer (some x7)) 0) λu0=>xS (ae SS.P 9 a (.pointer (some u0))) λz6=>aS (!((z6:LB)==[])) (xL (ae SS.P 109 a (pA i)) λz3 y9 x2=>xI .i64 (ae SS.P 3 a (pA b)) λz9=>xP (ai SS.P 109 (.slice z3 y9 x2) (.int .i64 z9)) λz5=>xO (ae SS.P 112 a (.pointer (some z5))) λz8=>FW SS 68 [(.pointer z8)] a λX x0=>∃(u:OA) (p r:Nat),∃(G:OA) (S F:Nat),∃(E:OA) (O P:Nat),X=(.tuple ⟨[(.slice u p r),(.slice G S F),(.slice E O P)]⟩)/\Q (.tuple ⟨[(.bool false),(.slice u p r),(.int .i64 0)]⟩) x0) (xA (ae SS.P 24 a (pA e)) λB=>xA (ae SS.P 107 a (pA (h.next))) λC=>FW SS 69 [(.agg ⟨B⟩),(.agg ⟨C⟩),(.func (.func 70) ⟨[]⟩ ⟨[(pA j),(pA f),(pA i),(pA b)]⟩)] a λw c=>w=(.tuple ⟨[]⟩)/\xI .i64 (ae SS.P 3 c (pA b)) λT=>xN (aA SS.P 3) c λu5 q=>xU (aj SS.P 3 (pA (c.next)) (.int .i64 T) q) q λu8 o=>xI .i64 (ae SS.P 3 o (pA (c.next))) λV=>xU (aj SS.P 3 (pA (c.next)) (.int .i64 (wrap .i64 (V+1))) o) o λu7 D=>aH (fD (ep e f i j) k) l [(pA e),(pA f),(pA i),(pA j),(pA (c.next))] D)) (xA (ae SS.P 24 a (pA e)) λJ=>xA (ae SS.P 107 a (pA (h.next))) λR=>FW SS 69 [(.agg ⟨J⟩),(.agg ⟨R⟩),(.func (.func 70) ⟨[]⟩ ⟨[(pA j),(pA f),(pA i),(pA b)]⟩)] a λK g=>K=(.tuple ⟨[]⟩)/\xI .i64 (ae SS.P 3 g (pA b)) λz=>xN (aA SS.P 3) g λv0 t=>xU (aj SS.P 3 (pA (g.next)) (.int .i64 z) t) t λu4 n=>xI .i64 (ae SS.P 3 n (pA (g.next))) λU=>xU (aj SS.P 3 (pA (g.next)) (.int .i64 (wrap .i64 (U+1))) n) n λv1 I=>aH (fD (ep e f i j) k) l [(pA e),(pA f),(pA i),(pA j),(pA (g.next))] I)) (xA (ae SS.P 24 a (pA e)) λL=>xA (ae SS.P 107 a (pA (h.next))) λy=>FW SS 69 [(.agg ⟨L⟩),(.agg ⟨y⟩),(.func (.func 70) ⟨[]⟩ ⟨[(pA j),(pA f),(pA i),(pA b)]⟩)] a λN d=>N=(.tuple ⟨[]⟩)/\xI .i64 (ae SS.P 3 d (pA b)) λA=>xN (aA SS.P 3) d λv2 s=>xU (aj SS.P 3 (pA (d.next)) (.int .i64 A) s) s λu6 m=>xI .i64 (ae SS.P 3 m (pA (d.next))) λM=>xU (aj SS.P 3 (pA (d.next)) (.int .i64 (wrap .i64 (M+1))) m) m λu9 x=>aH (fD (ep e f i j) k) l [(pA e),(pA f),(pA i),(pA j),(pA (d.next))] x)) (Q (.tuple ⟨[(.bool true),nA,(.int .i64 0)]⟩) h))(l:Nat){b:Nat}{h:aa}(H:k l b h):LL SS kI [1,1,1,1,1,1,1,0,1,0,0] (ep e f i j b) h (KK SS kI [1,1,1,1,1,1,1,0,1,0] [] (EE SS kI Q)):=
 dN (ep e f i j) k (λl b zz h H=>av (step l b zz h H)) l H
section
theorem Tv{M:aG}(m:Good M){k g:Pl}{c:Int}(r:inP M k)(l:RU M k c g):inP M g/\0<=c:=by
 have d:∀{s:Nat}{a:bJ},a∈bC M s->a.t.toNat<M.ak.length/\0<=a.i:=λb=>by
  have h:=iY m b;have h0:=h.t0;have i:=h.t1;exact⟨by omega,h.i0⟩
 obtain⟨i,o,j⟩:=r
 cases l with
 |@WI p q h a b h0=>exact⟨⟨(d b).1,o,by dsimp only at j⊢;split<;>omega⟩,Int.le_refl _⟩
 |same b f e=>exact⟨⟨(d (List.mem_of_getElem? b)).1,(d (List.mem_of_getElem? f)).1,zero_le _⟩,(d (List.mem_of_getElem? b)).2⟩
 |fork b f e n=>exact⟨⟨(d (List.mem_of_getElem? b)).1,(d (List.mem_of_getElem? f)).1,(show 1<=2 by decide)⟩,(d (List.mem_of_getElem? b)).2⟩
 |read b f e h0 t=>exact⟨⟨(d b).1,(d f).1,(show 1<=2 by decide)⟩,(d b).2⟩
 |U9 f h0=>exact⟨⟨i,(d f).1,(show 1<=2 by decide)⟩,Int.le_refl _⟩
theorem Z6:aA SS.P 107=some (.cells (qV (0,0,0)) 107 0 true,dR):=by kernel_rfl
theorem acS:Nat.blt 70 YB=true:=by kernel_rfl
def unQ(h:aa)(N:aG):VH:=λv g=>∃(b:Bool)(a:Option Addr)(n c:Nat),v = .tuple ⟨[.bool b,.slice a n c,.int .i64 0]⟩/\Ok h g/\((b=true/\n=0/\qd N)\/(b=false/\∃l l' x y z,uC N l x y/\uC N l' x z/\l≠l'/\Rd g 3 (.slice a n c) (x.map zV)))
section
variable {h0:aa} {K:UC} {M:aG} {sa:Option Addr} {sn sc:Nat}
def UI(h0:aa)(K:UC)(M:aG)(sa:Option Addr)(sn sc:Nat)(d e:Nat)(g:aa):Prop:=
 ∃(a:List PT)(i:Nat)(L:List cC),US h0 K M sa sn sc a g L/\Im g L e (.cells [iA i] 3 0 true)/\i<=a.length/\d=270000-i/\(∃u,a[0]?=some u/\u.k=(M.start.toNat,M.start.toNat,0))/\∀(j:Nat)(u:PT),j<i->a[j]?=some u->(u.k.2.2≠0->gz M u.k.1->gz M u.k.2.1->False)/\∀c b,RU M u.k c b->b∈a.map PT.k
theorem Rv(w0:Wf h0)(H:ey h0 (.slice sa sn sc) M.ak)(Y:Good M)(zA:∀s∈M.ak,s.an.length<=2000)(sz:M.ak.length<=300)(mv:LV){J mz:Nat}{g:aa}{Qf:VH}(hQ:∀v g,unQ h0 M v g->Qf v g)(b:UI h0 K M sa sn sc mz J g):
  LL SS kI [1,1,1,1,1,1,1,0,1,0,0] (ep K.k5 K.k7 K.k8 K.k9 J) g (KK SS kI [1,1,1,1,1,1,1,0,1,0] [] (EE SS kI Qf)):=by
 refine ym mv K.k5 K.k7 K.k8 K.k9 (λmz J g=>UI h0 K M sa sn sc mz J g) _ (λw9 Q=>?_) mz b;clear b g mz J;intro zz g b;obtain⟨d,i,L,r,T,v2,rfl,⟨uf,x5,x2⟩,cl⟩:=b;have v3:=Nc r.nd λu t=>by
  obtain⟨j,A⟩:=getElem?_of_mem t;exact(r.at_ j u A).1
 have w4:M.ak.length*(3*M.ak.length)<=300*900:=Nat.mul_le_mul sz (by omega);obtain⟨o,⟨lv,tv,Gl,Gt,rfl,rl,rt⟩,m5,m9,nd,z7⟩:=id r;obtain⟨la,lc,x1⟩:=rl.oa;obtain⟨ta,tc,x7⟩:=rt.oa;rw[lM]at x1 x7;subst x1;subst x7;have l7:ae SS.P 108 g (pA K.k7)=some (.slice la d.length lc):=aR Ow Z1 (o.get 0 rfl) (by simp);refine⟨_,T.ld lC lB,_,_,_,l7,ah (λq=>?_) (λq=>?_)⟩
 rotate_left
 ·have q:=dF q;have v5:i=d.length:=by omega
  refine hQ _ _ ⟨true,none,0,0,rfl,o.ok,.inl ⟨rfl,rfl,?_⟩⟩;refine Wc (P:=λk=>k∈d.map PT.k) (λk c U hk V=>?_) ?_ (λp q h hk hh f f'=>?_)
  ·obtain⟨u,t,rfl⟩:=mem_map.1 hk;obtain⟨j,A⟩:=getElem?_of_mem t;exact(cl j u (by have:=(List.getElem?_eq_some_iff.1 A).1;omega) A).2 c U V
  ·rw[<-x2];exact mem_map.2 ⟨uf,List.mem_of_getElem? x5,rfl⟩
  ·obtain⟨u,t,e⟩:=mem_map.1 hk;obtain⟨j,A⟩:=getElem?_of_mem t;refine(cl j u (by have:=(List.getElem?_eq_some_iff.1 A).1;omega) A).1 ?_ ?_ ?_
   ·rw[e];exact hh
   ·rw[e];exact f
   ·rw[e];exact f'
 have q:=dT q;have x0:i<d.length:=by omega
 obtain⟨u,t⟩:∃u,d[i]?=some u:=⟨_,gE x0⟩
 obtain⟨b,y3,u0,u3,w7⟩:=z7 i u t;obtain⟨kk,oo,d1,d2,_⟩:=(rl.rd o (i:=1) rfl).at_ Ow G0 aaA Z0 (ik:= .i64) (i:=(i:Int)) (by omega) (by rw[lM];omega);have d2:ae SS.P 107 g (.pointer (some ⟨kk,oo,none⟩))=some (.agg ⟨qV u.k⟩):=by
  rw[d2,Int.toNat_natCast,gD,getElem?_map,t];rfl
 refine⟨_,_,_,l7,_,T.ld lC lB,_,d1,_,d2,_,Z6,?_⟩;have e2:=((Ok.refl o.ok.wf).push (.cells (qV (0,0,0)) 107 0 true)).set (dU u.k) (Nat.le_refl _) (Nat.lt_succ_self _) o.ok.wf;have G:((g.push (.cells (qV (0,0,0)) 107 0 true)).set g.next (dU u.k)).get g.next=some (dU u.k):=by rw[aa.ay,if_pos rfl]
 have s2:aj SS.P 107 (pA g.next) (.agg ⟨qV u.k⟩) (g.push (.cells (qV (0,0,0)) 107 0 true))=some (undef,.set g.next (dU u.k)):=dM G0 rfl (aI g _) rfl (by simp[qV,bw]);refine⟨_,s2,?_⟩;have e2:Ok g ((bp.set g.next (dU u.k)).app (g.push (.cells (qV (0,0,0)) 107 0 true))):=e2;have G:((bp.set g.next (dU u.k)).app (g.push (.cells (qV (0,0,0)) 107 0 true))).get g.next=some (dU u.k):=G;have G:=o.new (Nat.le_refl g.next) G;obtain⟨I,c2⟩:=r.grow e2;have T:=c2 _ _ T;clear e2 s2;generalize ((bp.set g.next (dU u.k)).app (g.push (.cells (qV (0,0,0)) 107 0 true)))=O at*;generalize g.next=kx at*;have D:(u.k.2.2≠0->gz M u.k.1->gz M u.k.2.1->False)->xA (ae SS.P 24 O (pA K.k5)) λx9=>xA (ae SS.P 107 O (pA kx)) λy0=>FW SS 69 [(.agg ⟨x9⟩),(.agg ⟨y0⟩),(.func (.func 70) ⟨[]⟩ ⟨[(pA K.k9),(pA K.k7),(pA K.k8),(pA Q)]⟩)] O λx8 w=>x8=(.tuple ⟨[]⟩)/\xI .i64 (ae SS.P 3 w (pA Q)) λy7=>xN (aA SS.P 3) w λu1 W=>xU (aj SS.P 3 (pA (w.next)) (.int .i64 y7) W) W λu8 N=>xI .i64 (ae SS.P 3 N (pA (w.next))) λy8=>xU (aj SS.P 3 (pA (w.next)) (.int .i64 (wrap .i64 (y8+1))) N) N λu4 y1=>aH (fD (ep K.k5 K.k7 K.k8 K.k9) (λmz J g=>UI h0 K M sa sn sc mz J g)) (270000-i) [(pA K.k5),(pA K.k7),(pA K.k8),(pA K.k9),(pA (w.next))] y1:=λy2=>by
  have lM:ae SS.P 24 O (pA K.k5)=some (.agg ⟨bD M sa sn sc⟩):=gG Dx C4 mY I.m5.1 (by simp[bD]);refine⟨_,lM,_,dU.all G.1,?_⟩;refine(Se w0 H Y zA b.1 b.2.1 (fa:=[]) (fc:=[(pA K.k9),(pA K.k7),(pA K.k8),(pA Q)]) acS (λl g L=>UV h0 K M sa sn sc d Q i l g L) (λl g L v=>v.ol) (λl g L g' v e=>v.grow e) ⟨d,I,T,⟨[],(append_nil _).symm⟩,λx X=>(by cases X)⟩ (λv9 x u2 Z g' L' hv=>?_)).mono ?_
  ·have X:x∈RG M u.k:=by rw[Z];simp
   have x3:=(N5 Y).1 (show(x.1,x.2)∈RG M u.k from X);obtain⟨h1,h2⟩:=Tv Y b x3;exact Ru w0 Y sz t x3 h1 h2 hv
  ·rintro _ F ⟨rfl,L5,⟨R,S,z5,⟨u7,C⟩,y5⟩,c5⟩;have u5:=Nc S.nd λu t=>by
    obtain⟨j,A⟩:=getElem?_of_mem t;exact(S.at_ j u A).1
   have w6:d.length<=R.length:=by rw[C,List.length_append];omega
   refine⟨rfl,_,z5.ld lC lB,_,al3,?_⟩;obtain⟨u6,s6,e6,m6⟩:=S.o.cell (P:=SS.P) wM (.int .i64 0) (v:=iA i) rfl rfl;refine⟨u6,s6,?_⟩;generalize u9:u6.app (F.push (.cells [.int .i64 0] 3 0 true))=g6 at*;have hw:wrap .i64 ((i:Int)+1)=((i+1:Nat):Int):=bA x0 (by omega);have s7:aj SS.P 3 (pA F.next) (iA (i+1)) g6=some (undef,.set F.next (.cells [iA (i+1)] 3 0 true)):=bG wM (cs:=[iA i]) m6.1 (by simp) rfl rfl;refine⟨_,m6.ld lC lB,?_⟩;dsimp only;rw[hw];refine⟨_,s7,?_⟩;have e7:Ok F ((bp.set F.next (.cells [iA (i+1)] 3 0 true)).app g6):=e6.set _ (Nat.le_refl _) (e6.wf _ _ m6.1) S.o.ok.wf;have b7:((bp.set F.next (.cells [iA (i+1)] 3 0 true)).app g6).get F.next=some (.cells [iA (i+1)] 3 0 true):=by
    show(g6.set _ _).get _=_;rw[aa.ay,if_pos rfl]
   have m7:=S.o.new (Nat.le_refl F.next) b7;obtain⟨r7,c7⟩:=S.grow e7;have z8:∀(j:Nat)(v:PT),d[j]?=some v->R[j]?=some v:=λj v A=>by
    rw[C,List.getElem?_append_left (List.getElem?_eq_some_iff.1 A).1];exact A
   have z0:∀x,x∈d.map PT.k->x∈R.map PT.k:=λx X=>by
    rw[C,map_append];exact List.mem_append_left _ X
   refine cG (270000-(i+1)) (by omega) ⟨R,i+1,L5,r7,m7,by omega,rfl,⟨uf,z8 0 uf x5,x2⟩,λj v A hv=>?_⟩;have x6:d[j]?=some v:=by
    rw[C,List.getElem?_append_left (by omega)]at hv;exact hv
   by_cases z4:j<i
   ·obtain⟨h1,h2⟩:=cl j v z4 x6;exact⟨h1,λc U V=>z0 _ (h2 c U V)⟩
   ·obtain rfl:j=i:=by omega
    obtain rfl:=oI (t.symm.trans x6);exact⟨y2,λc U V=>y5 (c,U) ((N5 Y).2 V)⟩
 refine⟨_,pj _,_,dU.l2 G.1,ah (λE=>?_) (λE=>?_)⟩
 rotate_left
 ·have E:u.k.2.2=0:=by
   have:(u.k.2.2:Int)=0:=by simpa using E
   omega
  exact D λh=>absurd E h
 have E:u.k.2.2≠0:=by
  intro e;rw[e]at E;simp at E
 obtain⟨sp,Z,_,fp,_⟩:=iy b.1;obtain⟨sq,y4,_,fq,_⟩:=iy b.2.1;obtain⟨_,_,_,_,_,d1,_,d3,_,_⟩:=H.Kr I.o.ok Z;obtain⟨_,_,_,_,_,z9,_,y9,_,_⟩:=H.Kr I.o.ok y4;have x4:ae SS.P 22 O (.pointer (some ⟨K.k5,3,none⟩))=some (.slice sa sn sc):=aR Cn HO I.m5.1 (by simp[bD]);refine⟨_,eJ _,_,_,_,x4,_,ph _,_,rQ _ _,_,dU.l0 G.1,_,d1,_,pn _ _,_,d3,ah (λq3=>?_) (λq3=>?_)⟩
 rotate_left
 ·exact D λ_ h _=>by rw[<-fY,fp]at h;rw[h]at q3;cases q3
 refine⟨_,eJ _,_,_,_,x4,_,ph _,_,nD _ _,_,dU.l1 G.1,_,z9,_,pn _ _,_,y9,ah (λq4=>?_) (λq4=>?_)⟩
 rotate_left
 ·exact D λ_ _ h=>by rw[<-fY,fq]at h;rw[h]at q4;cases q4
 have f1:gz M u.k.1:=fY.1 (by rw[fp];exact q3);have f2:gz M u.k.2.1:=fY.1 (by rw[fq];exact q4);obtain⟨l,l',y,z,a1,a2,z6⟩:=Rel.end_ (p:=u.k.1) (q:=u.k.2.1) (h:=u.k.2.2) y3 E f1 f2;obtain⟨o3,⟨v7,v1,v4,z3,z1,v0,w8⟩,_⟩:=id I;have h2:(ZL K (.slice la d.length lc) (.slice ta d.length tc) d Gl Gt)[3]?=some z3:=by rw[z1];rfl
 have y6:ae SS.P 109 O (pA K.k8)=some (.slice ta d.length tc):=aR xX JA (o3.get 2 rfl) (by simp);obtain⟨p0,i1,i2⟩:=(rt.rd o3 (i:=3) rfl).at_ xX B0 OJ Nv (k:= .i64) (i:=(i:Int)) (by omega) (by rw[lM];omega);have i2:ae SS.P 112 O (.pointer (some p0))=some (.pointer u.p):=by
  rw[i2,Int.toNat_natCast,gD,getElem?_map,t];rfl
 have z2:=(I.at_ i u t).2.2.2.2;refine⟨_,_,_,y6,_,T.ld lC lB,_,i1,_,i2,(Kj o3.ok.wf (z2.mono λk B m=>m.1) u0 (by omega)).mono ?_⟩;rintro _ g4 ⟨e4,a,n,c,a',n',c',v8,v6,w5,rfl,w1,w2,w3⟩;exact⟨_,_,_,_,_,_,_,_,_,rfl,hQ _ _ ⟨false,a,n,c,rfl,o3.ok.trans e4,.inr ⟨rfl,l,l',_,y,z,a1,a2,z6,w1.rd⟩⟩⟩
end
end
variable{A:Type}
theorem acB:aA SS.P 108=some (.cells [nA] 108 0 true,dR):=by kernel_rfl
theorem acC:aA SS.P 110=some (.cells [.map none] 110 0 true,dR):=by kernel_rfl
theorem abW:au SS.P 110=some 1:=by kernel_rfl
theorem adv:oC SS.P 110=some (.map [],λk=> .map (some k)):=by kernel_rfl
theorem adG(a b c d e:A):List.Perm [a,b,c,d,e] [c,a,d,b,e]:=
 (List.perm_middle (l₁:=[a,b]) (a:=c) (l₂:=[d,e])).trans (.cons c (.cons a (.swap d b [e])))
def ael(h:aa)(M:aG):VH:=λv g=>∃(b:Bool)(a:Option Addr)(n c:Nat)(e:Int),v = .tuple ⟨[.bool b,.slice a n c,.int .i64 e]⟩/\Ok h g/\
 ((cL M=false/\b=false/\n=0/\e=1)\/(cL M=true/\200<M.ak.length/\b=false/\n=0/\e=2)\/
  (cL M=true/\e=0/\((b=true/\n=0/\qd M)\/(b=false/\∃l l' x y z,uC M l x y/\uC M l' x z/\l≠l'/\Rd g 3 (.slice a n c) (x.map zV)))))
theorem Ur{c:Nat}(tb:rK h)(w:Wf h)(sm:Small M)(r:ey h (.slice a n c) M.ak):FW SS 26 [.agg ⟨bD M a n c⟩] h (ael h M):=by
 refine Wd (bD M a n c) h _ ⟨_,oy M a n c,?_⟩;have Q:=(Ok.refl w).push (Bm M a n c);have b1:=aI h (Bm M a n c);have l1:ae SS.P 24 (h.push (Bm M a n c)) (pA h.next)=some (.agg ⟨bD M a n c⟩):=gG Dx C4 mY b1 (by simp[bD]);refine⟨_,l1,?_⟩;generalize h.push (Bm M a n c)=g1 at*;refine(I6 (tb.ok Q) Q.wf sm (r.ok Q)).mono ?_;rintro _ i ⟨C,E,t,ps,rfl,X,om,e2⟩;have o2:=Q.trans e2;refine⟨_,_,rfl,_,OY,?_⟩;have e3:=(Ok.refl o2.wf).push sk;have b3:=aI i sk;have st:aj SS.P 24 (pA i.next) (.agg ⟨bD (dS M).1 C E t⟩) (i.push sk)=some (undef,.set i.next (Bm (dS M).1 C E t)):=dM mY rfl b3 rfl (by simp[bD,bw,strOf]);refine⟨_,st,?_⟩;have e4:Ok i ((bp.set i.next (Bm (dS M).1 C E t)).app (i.push sk)):=e3.set _ (Nat.le_refl _) (Nat.lt_succ_self _) o2.wf;have b4:((bp.set i.next (Bm (dS M).1 C E t)).app (i.push sk)).get i.next=some (Bm (dS M).1 C E t):=by
  show((i.push sk).set _ _).get _=_;rw[aa.ay,if_pos rfl]
 generalize (bp.set i.next (Bm (dS M).1 C E t)).app (i.push sk)=f at*;have J:=o2.trans e4
 cases H:cL M with
 |false=>
  rw[yl H];exact ah (λ_=>⟨_,_,_,_,_,rfl,J,.inl ⟨H,rfl,rfl,rfl⟩⟩) (λq=>by cases q)
 | true=>
  obtain⟨t1,t2,t3,t4,t5⟩:=Kd H sm;have W:=(om.ok e4).st;rw[X]at W;rw[t1];refine ah (λq=>by cases q) (λ_=>?_);have l4:ae SS.P 22 f (.pointer (some ⟨i.next,3,none⟩))=some (.slice C E t):=aR Cn HO b4 (by simp[bD]);have l6:ae SS.P 3 f (.pointer (some ⟨i.next,1,none⟩))=some (.int .i64 (dS M).1.start):=aR lC lB b4 (by simp[bD]);have y6:E=(dS M).1.ak.length:=by have:=om.row.rd.len;rw[<-X,lM,this,lM]
  refine⟨_,eJ _,_,_,_,l4,ah (λq=>?_) (λq=>?_)⟩
  ·have q:=dT q;exact⟨_,_,_,_,_,rfl,J,.inr (.inl ⟨H,by omega,rfl,rfl,rfl⟩)⟩
  generalize hN:(dS M).1=N at*;have s0:=t2.ob;have s1:=t2.rA;have Y:N.start=((N.start.toNat:Nat):Int):=by omega
  refine⟨_,pk _,_,l6,_,pk _,_,l6,_,my _ _,_,tF _ _ _,_,Z6,?_⟩;rw[show([.int .i64 N.start,.int .i64 N.start,.int .i64 0]:List Value)=qV (N.start.toNat,N.start.toNat,0)from OG Y Y rfl];generalize I:((N.start.toNat,N.start.toNat,0):Pl)=d at*;have A:=J.wf;have q0:=OL.nil (Ok.refl A);have s5:aj SS.P 107 (pA f.next) (.agg ⟨qV d⟩) (f.push (.cells (qV (0,0,0)) 107 0 true))=some (undef,.set f.next (dU d)):=dM G0 rfl (aI f _) rfl (by simp[qV,bw]);refine⟨_,s5,?_⟩;have e5:Ok f ((bp.set f.next (dU d)).app (f.push (.cells (qV (0,0,0)) 107 0 true))):=((Ok.refl A).push _).set _ (Nat.le_refl _) (Nat.lt_succ_self _) A;have b5:((bp.set f.next (dU d)).app (f.push (.cells (qV (0,0,0)) 107 0 true))).get f.next=some (dU d):=by
   show((f.push _).set _ _).get _=_;rw[aa.ay,if_pos rfl]
  have e:=q0.old A b4;have o:=q0.new (Nat.le_refl f.next) b5;obtain⟨q1,c1⟩:=q0.grow e5;have e:=c1 _ _ e;clear s5 e5 b5;generalize z1:(bp.set f.next (dU d)).app (f.push (.cells (qV (0,0,0)) 107 0 true))=g5 at*;generalize f.next=kf at*;have A:Wf f:=J.wf;refine⟨_,dU.all o.1,_,_,_,aac d,?_⟩;obtain⟨q2,t⟩:=q1.push (.cells (qV d) 107 3 true);have e:=t _ _ e;have o:=t _ _ o;generalize z2:g5.next=p at*;generalize g5.push (.cells (qV d) 107 3 true)=g6 at*;refine⟨_,_,_,aad none,?_⟩;obtain⟨q3,c3⟩:=q2.push (.cells [.pointer none] 112 1 true);have e:=c3 _ _ e;have o:=c3 _ _ o;generalize y9:g6.next=s at*;generalize g6.push (.cells [.pointer none] 112 1 true)=g7 at*;refine⟨_,acB,_,Z7,?_⟩;obtain⟨q4,c4⟩:=q3.push (.cells [nA] 108 0 true);have e:=c4 _ _ e;have o:=c4 _ _ o;generalize z0:g7.next=G at*;generalize g7.push (.cells [nA] 108 0 true)=g8 at*;obtain⟨q5,c5⟩:=q4.push (.cells [nA] 109 0 true);have e:=c5 _ _ e;have o:=c5 _ _ o;generalize y4:g8.next=D at*;generalize g8.push (.cells [nA] 109 0 true)=g9 at*;change OL f g9 [[(p,.cells (qV d) 107 3 true)],[(s,.cells [.pointer none] 112 1 true)],[(G,.cells [nA] 108 0 true)],[(D,.cells [nA] 109 0 true)]]at q5;obtain⟨q6,c6⟩:=q5.kJ A 2 rfl (.cells [sA p 1 1] 108 0 true);have s6:aj SS.P 108 (pA G) (sA p 1 1) g9=some (undef,.set G (.cells [sA p 1 1] 108 0 true)):=bG VE (cs:=[nA]) (q5.get 2 rfl) (by simp) rfl rfl;refine⟨_,s6,?_⟩;have e:=c6 _ _ e;have o:=c6 _ _ o;generalize (bp.set G (.cells [sA p 1 1] 108 0 true)).app g9=Z at*;obtain⟨q7,c7⟩:=q6.kJ A 3 (k:=D) (B:= .cells [nA] 109 0 true) rfl (.cells [sA s 1 1] 109 0 true);have s7:aj SS.P 109 (pA D) (sA s 1 1) Z=some (undef,.set D (.cells [sA s 1 1] 109 0 true)):=bG MS (cs:=[nA]) (q6.get 3 rfl) (by simp) rfl rfl;refine⟨_,s7,?_⟩;have e:=c7 _ _ e;have o:=c7 _ _ o;generalize (bp.set D (.cells [sA s 1 1] 109 0 true)).app Z=L at*;obtain⟨q8,c8⟩:=q7.push (.map []);have e:=c8 _ _ e;have o:=c8 _ _ o;refine⟨_,adv,?_⟩;change xA (ae SS.P 107 (L.push (.map [])) (pA kf)) _;generalize y3:L.next=F at*;change OL f _ [[(p,.cells (qV d) 107 3 true)],[(s,.cells [.pointer none] 112 1 true)],[(G,.cells [sA p 1 1] 108 0 true)],[(D,.cells [sA s 1 1] 109 0 true)],[(F,.map [])]]at q8;refine⟨_,dU.all o.1,?_⟩;dsimp only;generalize L.push (.map [])=S at*;have s9:gH SS.P 110 (.map (some F)) (.agg ⟨qV d⟩) (.bool true) S=some (undef,.set F (.map (lO [d]))):=Wg (l:=[]) (q8.get 4 rfl) (x:=d) (by simp);refine⟨_,s9,?_⟩;obtain⟨q9,c9⟩:=q8.kJ A 4 (k:=F) (B:= .map []) rfl (.map (lO [d]));have e:=c9 _ _ e;generalize (bp.set F (.map (lO [d]))).app S=T at*;change OL f _ [[(p,.cells (qV d) 107 3 true)],[(s,.cells [.pointer none] 112 1 true)],[(G,.cells [sA p 1 1] 108 0 true)],[(D,.cells [sA s 1 1] 109 0 true)],[(F,.map (lO [d]))]]at q9;refine⟨_,acC,?_⟩;obtain⟨u,x9,x4,m9⟩:=q9.cell (P:=SS.P) abW (.map none) (v:= .map (some F)) rfl rfl;refine⟨u,x9,?_⟩;obtain⟨V,y1⟩:=q9.grow x4;have e:=y1 _ _ e;generalize y7:T.next=k9 at*;generalize u.app (T.push (.cells [.map none] 110 0 true))=U at*;refine⟨_,al3,?_⟩;obtain⟨u2,x2,y2,x6⟩:=V.cell (P:=SS.P) wM (.int .i64 0) (v:=iA 0) rfl rfl;refine⟨u2,x2,?_⟩;obtain⟨y0,x0⟩:=V.grow y2;have e:=x0 _ _ e;have m9:=x0 _ _ m9;generalize y5:U.next=ki at*;generalize u2.app (U.push (.cells [.int .i64 0] 3 0 true))=y8 at*
  let K:UC:=⟨i.next,G,D,k9,F⟩
  obtain⟨x8,O⟩:=OL.perm (L':=ZL K (sA p 1 1) (sA s 1 1) [⟨d,[],none⟩] [(p,.cells (qV d) 107 3 true)] [(s,.cells [.pointer none] 112 1 true)]) y0 (adG _ _ _ _ _);have x3:inP N d:=by rw[<-I];exact⟨by dsimp only;omega,by dsimp only;omega,zero_le _⟩
  have x1:Rel N (wI ([]:List Mv).reverse) d:=by rw[<-I];exact⟨rfl,[],[],.nil _⟩
  refine Rv (K:=K) (h0:=f) (mz:=270000) A W t2 t3.an t3.RL (bD M a n c) (λv g hq=>?_) ⟨[⟨d,[],none⟩],0,_,⟨x8,⟨_,_,_,_,rfl,fj.made (rs:=[qV d]) (by simp[qV]) (show 1<cj by decide +kernel),fj.made (rs:=[[.pointer none]]) (by simp) (show 1<cj by decide +kernel)⟩,O _ _ e,O _ _ m9,by simp,λj u R=>?_⟩,O _ _ x6,zero_le _,rfl,⟨_,rfl,I.symm⟩,λj u R=>absurd R (Nat.not_lt_zero _)⟩
  ·obtain⟨b,xa,xn,xc,rfl,ok,hh⟩:=hq;refine⟨b,xa,xn,xc,0,rfl,J.trans ok,.inr (.inr ⟨H,rfl,?_⟩)⟩;rcases hh with⟨rfl,h1,h2⟩|⟨rfl,l,l',x,y,z,h1,h2,h3,h4⟩
   ·exact .inl ⟨rfl,h1,t4.un.1 h2⟩
   ·obtain⟨k,k',a1,C,x7⟩:=t4.f2 l l' x y z h1 h2 h3;exact .inr ⟨rfl,k,k',x,y,z,a1,C,x7,h4⟩
  ·have x5:j=0:=by
    have:=(List.getElem?_eq_some_iff.1 R).1;simp at this;omega
   subst x5;obtain rfl:=oI R;exact⟨x3,x1,λm hm=>(by cases hm),Nat.le_refl _,.nil⟩
noncomputable def Yt:FD:=dY Tryz.f12 []
theorem TC(b:LV)(h:aa)(Q:VH)(g:xN (dp SS.P 24 (.agg ⟨b⟩)) h λk a=>xP (af SS.P 24 (pA (h.next)) 3) λj=>xL (ae SS.P 22 a (.pointer (some j))) λl d m=>aS (decide (((d:Int):Int)>8)) (Q (.bool true) a) (xA (ae SS.P 24 a (pA (h.next))) λe=>FW SS 23 [(.agg ⟨e⟩)] a λf i=>yI .i64 f λc=>Q (.bool (decide ((c:Int)>30))) i)):FW SS 12 [(.agg ⟨b⟩)] h Q:=eh Yt Tryz.func12 (av g)
noncomputable def aK:FD:=dY Tryz.f6 [([1,1,1,0,1,0,0],[1,3,4]),([1,1,1,0,1,0,0,1,0,0,1,1,0,0],[1,3,4,5,6]),([1,1,1,0,1,0,0,1,0,0,1,1,0,0,1,0,0,1,1,0,0],[1,3,4,5,6,7])]
abbrev cB(a:Nat)(s:Bool)(i:Nat):LV:=[(pA a),(.bool s),(iA i)]
abbrev dj(b i:Nat)(a:OA)(n c:Nat)(s:Bool)(j:Nat):LV:=[(pA b),(.bool s),(iA i),(.slice a n c),(iA j)]
abbrev dO(b i j:Nat)(a:OA)(n c:Nat)(s:Bool)(l:Nat):LV:=[(pA b),(.bool s),(iA i),(.slice a n c),(iA j),(iA l)]
theorem LD(c:LV)(h:aa)(Q:VH)(p:xN (dp SS.P 24 (.agg ⟨c⟩)) h λs g=>xA (ae SS.P 24 g (pA (h.next))) λr=>FW SS 12 [(.agg ⟨r⟩)] g λm b=>yB m λn=>aS n (FW SS 13 [] b λl o=>yB l λq=>Q (.bool q) o) (xA (ae SS.P 24 b (pA (h.next))) λj=>FW SS 30 [(.agg ⟨j⟩)] b λf a=>yB f λk=>aS (!k) (FW SS 13 [] a λd e=>yB d λi=>Q (.bool i) e) (LL SS aK [1,1,1,0,1,0,0] (cB (h.next) true 0) a (KK SS aK [1,1,1,0,1,0] [] (EE SS aK Q))))):FW SS 6 [(.agg ⟨c⟩)] h Q:=eh aK Tryz.func6 (av p)
theorem tS(mv:LV)(b:Nat)(d:Nat->Bool->Nat->aa->Prop)(Q:VH)(step:∀(c:Nat) (s:Bool) (i:Nat) (L:Nat->Value) (h:aa),d c s i h->xP (af SS.P 24 (pA b) 3) λC=>xL (ae SS.P 22 h (.pointer (some C))) λx6 G x7=>aS (decide (((i:Int):Int)<(G:Int))) (xP (af SS.P 24 (pA b) 3) λr=>xL (ae SS.P 22 h (.pointer (some r))) λI K X=>xP (ai SS.P 22 (.slice I K X) (iA i)) λE=>xP (af SS.P 44 (.pointer (some E)) 1) λq=>xL (ae SS.P 42 h (.pointer (some q))) λx1 P T=>LL SS aK [1,1,1,0,1,0,0,1,0,0,1,1,0,0] (dj b i x1 P T s 0) h (KK SS aK [1,0,0,1,1,0] [1,1,1,0,1,0,0] (RR aK [1,1,1,0,1,0,0] (qu (cB b) d) c (KK SS aK [1,1,1,0,1,0] [] (EE SS aK Q))))) (xA (ae SS.P 24 h (pA b)) λH=>FW SS 14 [(.agg ⟨H⟩)] h λx3 j=>∃e:Bool,∃(x:OA) (w u:Nat),∃(o:OA) (x4 Z:Nat),∃(R:OA) (S M:Nat),∃l:Int,x3=(.tuple ⟨[(.bool e),(.slice x w u),(.slice o x4 Z),(.slice R S M),(.int .i64 l)]⟩)/\xA (ae SS.P 24 j (pA b)) λJ=>FW SS 26 [(.agg ⟨J⟩)] j λt f=>∃g:Bool,∃(x5:OA) (V x2:Nat),∃k:Int,t=(.tuple ⟨[(.bool g),(.slice x5 V x2),(.int .i64 k)]⟩)/\aS (((l:Int) !=0)) (Q (.bool false) f) (aS (((k:Int) !=0)) (Q (.bool false) f) (xA (ae SS.P 24 f (pA b)) λO=>FW SS 31 [(.agg ⟨O⟩)] f λn a=>yB n λA=>aS A (aS (!e) (Q (.bool false) a) (aS (!s) (FW SS 13 [] a λY F=>yB Y λp=>Q (.bool p) F) (aS e (aS g (FW SS 13 [] a λv D=>yB v λW=>Q (.bool W) D) (Q (.bool false) a)) (Q (.bool false) a)))) (aS (!s) (FW SS 13 [] a λx0 N=>yB x0 λy=>Q (.bool y) N) (aS e (aS g (FW SS 13 [] a λU B=>yB U λz=>Q (.bool z) B) (Q (.bool false) a)) (Q (.bool false) a)))))))(c:Nat){s:Bool}{i:Nat}{h:aa}(m:d c s i h):LL SS aK [1,1,1,0,1,0,0] (cB b s i) h (KK SS aK [1,1,1,0,1,0] [] (EE SS aK Q)):=
 oJ (cB b) d (λc s i L h m=>av (step c s i L h m)) c m
theorem tT(q:LV)(d i:Nat)(a:OA)(n c:Nat)(f:Nat->Bool->Nat->aa->Prop)(g:Nat)(e:Nat->Bool->Nat->aa->Prop)(Q:VH)(step:∀(b:Nat) (s:Bool) (j:Nat) (m:Nat->Value) (h:aa),e b s j h->aS (decide (((j:Int):Int)<(n:Int))) (aS s (xP (ai SS.P 42 (.slice a n c) (iA j)) λl=>xP (af SS.P 46 (.pointer (some l)) 0) λo=>xI .i64 (ae SS.P 3 h (.pointer (some o))) λp=>LL SS aK [1,1,1,0,1,0,0,1,0,0,1,1,0,0,1,0,0,1,1,0,0] (dO d i j a n c (((p:Int) !=0)) 0) h (KK SS aK [1,0,0,1,1,0] [1,1,1,0,1,0,0,1,0,0,1,1,0,0] (RR aK [1,1,1,0,1,0,0,1,0,0,1,1,0,0] (qu (dj d i a n c) e) b (KK SS aK [1,0,0,1,1,0] [1,1,1,0,1,0,0] (RR aK [1,1,1,0,1,0,0] (qu (cB d) f) g (KK SS aK [1,1,1,0,1,0] [] (EE SS aK Q))))))) (LL SS aK [1,1,1,0,1,0,0,1,0,0,1,1,0,0,1,0,0,1,1,0,0] (dO d i j a n c false 0) h (KK SS aK [1,0,0,1,1,0] [1,1,1,0,1,0,0,1,0,0,1,1,0,0] (RR aK [1,1,1,0,1,0,0,1,0,0,1,1,0,0] (qu (dj d i a n c) e) b (KK SS aK [1,0,0,1,1,0] [1,1,1,0,1,0,0] (RR aK [1,1,1,0,1,0,0] (qu (cB d) f) g (KK SS aK [1,1,1,0,1,0] [] (EE SS aK Q)))))))) (aH (qu (cB d) f) g [(pA d),(.bool s),(.int .i64 (wrap .i64 ((i:Int)+1)))] h))(b:Nat){s:Bool}{j:Nat}{h:aa}(k:e b s j h):LL SS aK [1,1,1,0,1,0,0,1,0,0,1,1,0,0] (dj d i a n c s j) h (KK SS aK [1,0,0,1,1,0] [1,1,1,0,1,0,0] (RR aK [1,1,1,0,1,0,0] (qu (cB d) f) g (KK SS aK [1,1,1,0,1,0] [] (EE SS aK Q)))):=
 oJ (dj d i a n c) e (λb s j m h k=>av (step b s j m h k)) b k
theorem tU(x:LV)(e i j:Nat)(a:OA)(n c:Nat)(m:Nat->Bool->Nat->aa->Prop)(w:Nat)(f:Nat->Bool->Nat->aa->Prop)(g:Nat)(d:Nat->Bool->Nat->aa->Prop)(Q:VH)(step:∀(b:Nat) (s:Bool) (l:Nat) (t:Nat->Value) (h:aa),d b s l h->aS (decide (((l:Int):Int)<(j:Int))) (aS s (xP (ai SS.P 42 (.slice a n c) (iA l)) λv=>xP (af SS.P 46 (.pointer (some v)) 0) λo=>xI .i64 (ae SS.P 3 (room h 15) (.pointer (some o))) λu=>xP (ai SS.P 42 (.slice a n c) (iA j)) λr=>xP (af SS.P 46 (.pointer (some r)) 0) λp=>xI .i64 (ae SS.P 3 (room h 15) (.pointer (some p))) λq=>aH (qu (dO e i j a n c) d) b [(pA e),(.bool (((u:Int) !=q))),(iA i),(.slice a n c),(iA j),(.int .i64 (wrap .i64 ((l:Int)+1)))] (room h 15)) (aH (qu (dO e i j a n c) d) b [(pA e),(.bool false),(iA i),(.slice a n c),(iA j),(.int .i64 (wrap .i64 ((l:Int)+1)))] (room h 15))) (aH (qu (dj e i a n c) f) g [(pA e),(.bool s),(iA i),(.slice a n c),(.int .i64 (wrap .i64 ((j:Int)+1)))] h))(b:Nat){s:Bool}{l:Nat}{h:aa}(k:d b s l h):LL SS aK [1,1,1,0,1,0,0,1,0,0,1,1,0,0,1,0,0,1,1,0,0] (dO e i j a n c s l) h (KK SS aK [1,0,0,1,1,0] [1,1,1,0,1,0,0,1,0,0,1,1,0,0] (RR aK [1,1,1,0,1,0,0,1,0,0,1,1,0,0] (qu (dj e i a n c) f) g (KK SS aK [1,0,0,1,1,0] [1,1,1,0,1,0,0] (RR aK [1,1,1,0,1,0,0] (qu (cB e) m) w (KK SS aK [1,1,1,0,1,0] [] (EE SS aK Q)))))):=
 oJ (dO e i j a n c) d (λb s l t h k=>av (step b s l t h k)) b k
section
def EQ(h:aa):VH:=λv g=>v = .bool true/\Ok h g
structure aaG(M:aG):Prop where
 lead:M.lead.length<=281474976710656
 fin:∀s∈M.ak,s.f.length<=281474976710656
 w:∀s∈M.ak,∀q∈s.an,q.w.length<=281474976710656
theorem Ep{s:fF}:∀{l:List fF},s∈l->s.an.length<=mX l
 |[],h=>by cases h
 |x::l,h=>by
  rw[si];rcases mem_cons.1 h with rfl|h
  ·omega
  ·have:=Ep h;omega
def lrg(M:aG):Bool:=decide (8<M.ak.length)||decide (30<mX M.ak)
theorem Vp{M:aG}(a:aaG M)(q:lrg M=false):Small M:=by
 unfold lrg at q;rw[Bool.or_eq_false_iff,decide_eq_false_iff_not,decide_eq_false_iff_not]at q;exact⟨a.lead,by omega,a.fin,λs b=>by have:=Ep b;omega,a.w,by omega⟩
theorem abt:SS.pr 13=some (EJ [([],.bool true)]):=by kernel_rfl
theorem NK{h:aa}(c:Ok h g):FW SS 13 [] g λv a=>yB v λb=>EQ h (.bool b) a:=
 rR (by unfold YB;decide) abt (v:= .bool true) (h':=g) (λ_=>rfl) ⟨true,rfl,rfl,c⟩
section
variable {h:aa} {M:aG} {a:Option Addr} {n c:Nat}
theorem TD(w:Wf h)(g:Bnd M)(r:ey h (.slice a n c) M.ak):FW SS 12 [.agg ⟨bD M a n c⟩] h (λv i=>v = .bool (lrg M)/\Ok h i):=by
 obtain⟨b,d⟩:=nT w r;have j:=b.len;refine TC (bD M a n c) h _ ⟨_,oy M a n c,_,eJ _,_,_,_,b.l3,ah (λq=>?_) (λq=>?_)⟩
 ·have q:=dT q;refine⟨?_,d⟩;unfold lrg;rw[decide_eq_true (by omega)];rfl
 ·have q:=dF q;refine⟨_,b.all,(UO d.wf g (by omega) b.row).mono ?_⟩;rintro _ k ⟨rfl,f⟩;refine⟨_,rfl,?_,d.trans f⟩;unfold lrg;rw[decide_eq_false (by omega:¬8<M.ak.length),Bool.false_or];congr 1;by_cases e:30<mX M.ak
  ·rw[decide_eq_true e,decide_eq_true (by omega)]
  ·rw[decide_eq_false e,decide_eq_false (by omega)]
end
def yE(c:List bJ)(j:Nat):Prop:=∀(k:Nat)(a:bJ),k<j->c[k]?=some a->a.i≠0/\∀(l:Nat)(b:bJ),l<k->c[l]?=some b->a.i≠b.i
def yF(M:aG)(i:Nat):Prop:=∀(t:Nat)(a:fF),t<i->M.ak[t]?=some a->yE a.an a.an.length
theorem wC{M:aG}(h:yF M M.ak.length){s i:Nat}{a:bJ}(c:(bC M s)[i]?=some a):a.i≠0/\∀(l:Nat)(b:bJ),l<i->(bC M s)[l]?=some b->a.i≠b.i:=by
 by_cases d:s<M.ak.length
 ·obtain⟨g,e,f,_⟩:=iy d;rw[f]at c⊢;exact h s g d e i a (List.getElem?_eq_some_iff.1 c).1 c
 ·unfold bC at c;rw[gD,List.getElem?_eq_none (l:=M.ak) (by omega)]at c;simp at c
theorem Rk{M:aG}(h:yF M M.ak.length):qd M:=by
 have o:∀(l l':List Nat){s e m:Nat}{x y z:List Int},di M s l e x y->di M s l' m x z->l=l':=by
  intro l
  induction l with
  | nil=>
   intro l' s e m x y z r f;obtain⟨_,k,_⟩:=r.dZ
   cases l' with
   |nil=>rfl
   |cons j l'=>
    obtain⟨b,A,_,d,_,c,_⟩:=f.cons_inv;rw[ee (wC h d).1,k]at c
    cases c
  | cons i l v=>
   intro l' s e m x y z r f;obtain⟨a,C,_,n,t,k,_⟩:=r.cons_inv;rw[ee (wC h n).1]at k
   cases l' with
   |nil=>
    obtain⟨_,c,_⟩:=f.dZ;rw[k]at c;cases c
   | cons j l'=>
    obtain⟨b,B,_,d,u,c,_⟩:=f.cons_inv;rw[ee (wC h d).1,k]at c;injection c with p w
    have q:i=j:=by
     rcases Nat.lt_trichotomy i j with g|rfl|g
     ·exact absurd p.symm ((wC h d).2 i a g n)
     ·rfl
     ·exact absurd p ((wC h n).2 j b g d)
    subst q;obtain rfl:=oI (n.symm.trans d);subst w;rw[v l' t u]
 rintro l l' x y z ⟨e,r,_⟩ ⟨m,f,_⟩;exact o l l' r f
theorem RZ{M:aG}(h:aaI M=true):yx M:=by
 unfold aaI at h;rw[and_eq_true]at h;have d:=h.2;unfold O0 at d;have c:∀{s e:Nat}{l:List Nat}{x y:List Int},di M s l e x y->x=y:=by
  intro s e l x y r
  induction r with
  |nil=>rfl
  | @cons s i e a l x y b r o=>
   have g:a.i=a.o:=by
    by_cases n:s<M.ak.length
    ·obtain⟨p,t,j,_,k⟩:=iy n;rw[j]at b;have m:=List.all_eq_true.1 d p k;have f:=List.all_eq_true.1 m a (List.mem_of_getElem? b);unfold aaJ at f;simpa using f
    ·unfold bC at b;rw[gD,List.getElem?_eq_none (l:=M.ak) (by omega)]at b;simp at b
   rw[o,g]
 rintro l l' x y z ⟨e,r,_⟩ ⟨u,q,_⟩;rw[<-c r,<-c q]
end
variable{j:Nat}
section
section
variable {h:aa} {M:aG} {a:Option Addr} {n c:Nat}
theorem yE.succ{a:List bJ}(s:yE a j){x:bJ}(d:a[j]?=some x)(f:x.i≠0)(g:∀(l:Nat) (b:bJ),l<j->a[l]?=some b->x.i≠b.i):yE a (j+1):=λk y h c=>by
 by_cases e:k<j
 ·exact s k y e c
 ·obtain rfl:k=j:=by omega
  obtain rfl:=oI (d.symm.trans c);exact⟨f,g⟩
theorem LF(tb:rK h)(w:Wf h)(bd:Bnd M)(st:aaG M)(r:ey h (.slice a n c) M.ak):FW SS 6 [.agg ⟨bD M a n c⟩] h (EQ h):=by
 obtain⟨Z,ok⟩:=nT w r;have hl:=Z.len;refine LD (bD M a n c) h _ ⟨_,oy M a n c,_,Z.all,(TD ok.wf bd Z.row).mono ?_⟩;generalize h.push (Bm M a n c)=g1 at*;rintro _ g2 ⟨rfl,o2⟩;have N:=ok.trans o2;have R:=Z.ok o2;refine⟨_,rfl,ah (λq=>NK N) (λql=>?_)⟩;have Q:=Vp st ql;refine⟨_,R.all,(rW (tb.ok N) N.wf Q R.row).mono ?_⟩;rintro _ g3 ⟨rfl,o3⟩;have x7:=N.trans o3;have x8:=R.ok o3;refine⟨_,rfl,ah (λq=>NK x7) (λq=>?_)⟩;have hv:cL M=true:=by simpa using q
 have sz:M.ak.length<=8:=by
  have q0:=ql;unfold lrg at q0;rw[Bool.or_eq_false_iff,decide_eq_false_iff_not]at q0;omega
 obtain⟨o,z6⟩:∃k,h.next=k:=⟨_,rfl⟩
 rw[z6]at x8⊢;refine tS (bD M a n c) o (λW s i g=>Ok h g/\MB g o M a n c/\i<=M.ak.length/\W=M.ak.length-i/\(s=true->yF M i)) _ (λW s i=>?_) M.ak.length (s:=true) (i:=0) ⟨x7,x8,zero_le _,rfl,λ_ t x ht=>absurd ht (Nat.not_lt_zero _)⟩;intro zz g y5;obtain⟨D,p,hi,rfl,x3⟩:=y5;refine⟨_,eJ _,_,_,_,p.l3,ah (λq=>?_) (λq=>?_)⟩
 ·have q:=dT q;have x1:i<M.ak.length:=by omega
  obtain⟨x,hx⟩:∃x,M.ak[i]?=some x:=⟨_,gE x1⟩
  have z5:=List.mem_of_getElem? hx;have u5:=Q.an x z5;obtain⟨bb,oo,C,A,E,d1,d2,d3,d4,ar⟩:=p.row.Kr (Ok.refl D.wf) hx;have u2:A=x.an.length:=ar.len;refine⟨_,eJ _,_,_,_,p.l3,_,d1,_,iw _ _,_,_,_,d4,?_⟩;refine tT (bD M a n c) o i C A E _ _ (λK s j d=>Ok h d/\MB d o M a n c/\eT d (.slice C A E) x.an/\j<=x.an.length/\K=x.an.length-j/\(s=true->yF M i/\yE x.an j)) _ (λK s2 j=>?_) x.an.length (s:=s) (j:=0) ⟨D,p,ar,zero_le _,rfl,λe=>⟨x3 e,λk y hk=>absurd hk (Nat.not_lt_zero _)⟩⟩;intro u3 g5 y3;obtain⟨v,u,x0,hj,rfl,x2⟩:=y3;refine ah (λq=>?_) (λq=>?_)
  ·have q:=dT q;have x5:j<x.an.length:=by omega
   obtain⟨y,P⟩:∃y,x.an[j]?=some y:=⟨_,gE x5⟩
   obtain⟨b1,o1,f1,f2,f3,_⟩:=x0.at_ P;have O:∀(X:Bool),(X=true->yF M i/\yE x.an j/\y.i≠0)->LL SS aK [1,1,1,0,1,0,0,1,0,0,1,1,0,0,1,0,0,1,1,0,0] (dO o i j C A E X 0) g5 (KK SS aK [1,0,0,1,1,0] [1,1,1,0,1,0,0,1,0,0,1,1,0,0] (RR aK [1,1,1,0,1,0,0,1,0,0,1,1,0,0] (qu (dj o i C A E) (λK s j d=>Ok h d/\MB d o M a n c/\eT d (.slice C A E) x.an/\j<=x.an.length/\K=x.an.length-j/\(s=true->yF M i/\yE x.an j))) (x.an.length-j) (KK SS aK [1,0,0,1,1,0] [1,1,1,0,1,0,0] (RR aK [1,1,1,0,1,0,0] (qu (cB o) (λW s i g=>Ok h g/\MB g o M a n c/\i<=M.ak.length/\W=M.ak.length-i/\(s=true->yF M i))) (M.ak.length-i) (KK SS aK [1,1,1,0,1,0] [] (EE SS aK (EQ h))))))):=by
    intro X I;refine tU (bD M a n c) o i j C A E _ _ _ _ (λx4 s l d=>Ok h d/\MB d o M a n c/\eT d (.slice C A E) x.an/\l<=j/\x4=j-l/\(s=true->yF M i/\yE x.an j/\y.i≠0/\∀(k:Nat)(b:bJ),k<l->x.an[k]?=some b->y.i≠b.i)) _ (λx4 s4 l=>?_) j (s:=X) (l:=0) ⟨v,u,x0,zero_le _,rfl,λe=>⟨(I e).1,(I e).2.1,(I e).2.2,λk b hk=>absurd hk (Nat.not_lt_zero _)⟩⟩;intro u4 g6 y4;obtain⟨f,G,y0,u0,rfl,x9⟩:=y4;refine ah (λq=>?_) (λq=>?_)
    ·have q:=dT q;have z4:l<j:=by omega
     obtain⟨z,hz⟩:∃z,x.an[l]?=some z:=⟨_,gE (by omega)⟩
     have V:=(Ok.refl f.wf).room 15;have F:=f.trans V;have L:=y0.ok V;have y1:=G.ok V;obtain⟨b2,u6,p1,p2,p3,_⟩:=L.at_ hz;obtain⟨b3,u1,r1,r2,r3,_⟩:=L.at_ P;have T:wrap .i64 ((l:Int)+1)=((l+1:Nat):Int):=bA z4 (by omega);rw[T];refine ah (λB=>?_) (λB=>?_)
     ·refine⟨_,p1,_,gj _ _,_,p3,_,r1,_,gj _ _,_,r3,?_⟩;refine ju (j-(l+1)) (by omega) ⟨F,y1,L,by omega,rfl,λe=>?_⟩;obtain⟨H,J,e3,e4⟩:=x9 B;refine⟨H,J,e3,λk b hk hb=>?_⟩;by_cases ek:k<l
      ·exact e4 k b ek hb
      ·obtain rfl:k=l:=by omega
       obtain rfl:=oI (hz.symm.trans hb);have:z.i≠y.i:=by simpa using e
       exact λe=>this e.symm
     ·exact ju (j-(l+1)) (by omega) ⟨F,y1,L,by omega,rfl,λe=>by cases e⟩
    ·have q:=dF q;have y2:l=j:=by omega
     subst y2;have T:wrap .i64 ((l:Int)+1)=((l+1:Nat):Int):=bA x5 (by omega);rw[T];refine ju (x.an.length-(l+1)) (by omega) ⟨f,G,y0,by omega,rfl,λe=>?_⟩;obtain⟨H,J,e3,e4⟩:=x9 e;exact⟨H,J.succ P e3 e4⟩
   refine ah (λB=>?_) (λB=>?_)
   ·refine⟨_,f1,_,gj _ _,_,f3,O _ λe=>?_⟩;obtain⟨H,J⟩:=x2 B;exact⟨H,J,by simpa using e⟩
   ·exact O false λe=>by cases e
  ·have q:=dF q;have z0:j=x.an.length:=by omega
   have T:wrap .i64 ((i:Int)+1)=((i+1:Nat):Int):=bA x1 (by omega);rw[T];refine ju (M.ak.length-(i+1)) (by omega) ⟨v,u,by omega,rfl,λe=>?_⟩;obtain⟨H,J⟩:=x2 e;intro t y ht P;by_cases et:t<i
   ·exact H t y et P
   ·obtain rfl:t=i:=by omega
    obtain rfl:=oI (hx.symm.trans P);rw[<-z0];exact J
 ·have q:=dF q;have y9:i=M.ak.length:=by omega
  refine⟨_,p.all,(BX (tb.ok D) D.wf Q p.row).mono ?_⟩;rintro _ g5 ⟨b,xa,xn,xc,C,A,E,za,zn,zc,e,rfl,o5,hF⟩;have v:=D.trans o5;have u:=p.ok o5;have z7:e=0/\(b=true↔yx M):=by
   rcases hF with⟨m,_⟩|⟨_,m,_⟩|⟨_,m,h2⟩
   ·rw[hv]at m;cases m
   ·omega
   ·refine⟨m,?_⟩;rcases h2 with⟨rfl,_,_,_,I⟩|⟨rfl,l,l',x,y,z,a1,a2,S,_⟩
    ·exact⟨λ_=>I,λ_=>rfl⟩
    ·exact⟨λe=>(by cases e),λhf=>absurd (hf _ _ _ _ _ a1 a2) S⟩
  obtain⟨rfl,x6⟩:=z7;refine⟨_,_,_,_,_,_,_,_,_,_,_,rfl,_,u.all,(Ur (tb.ok v) v.wf Q u.row).mono ?_⟩;rintro _ g6 ⟨b2,ua,un,uc,e,rfl,o6,hU⟩;have f:=v.trans o6;have G:=u.ok o6;have y7:e=0/\(b2=true↔qd M):=by
   rcases hU with⟨m,_⟩|⟨_,m,_⟩|⟨_,m,h2⟩
   ·rw[hv]at m;cases m
   ·omega
   ·refine⟨m,?_⟩;rcases h2 with⟨rfl,_,I⟩|⟨rfl,l,l',x,y,z,a1,a2,S,_⟩
    ·exact⟨λ_=>I,λ_=>rfl⟩
    ·exact⟨λe=>(by cases e),λhf=>absurd (hf _ _ _ _ _ a1 a2) S⟩
  obtain⟨rfl,y8⟩:=y7;refine⟨_,_,_,_,_,rfl,ah (λq=>by cases q) (λ_=>ah (λq=>by cases q) (λ_=>?_))⟩;refine⟨_,G.all,(YE (tb.ok f) f.wf Q G.row).mono ?_⟩;rintro _ Y ⟨rfl,V⟩;have F:=f.trans V;have U:aS (!s) (FW SS 13 [] Y λz9 z3=>yB z9 λy6=>EQ h (.bool y6) z3) (aS b (aS b2 (FW SS 13 [] Y λz1 z2=>yB z1 λz8=>EQ h (.bool z8) z2) (EQ h (.bool false) Y)) (EQ h (.bool false) Y)):=by
   refine ah (λ_=>NK F) (λq=>?_);have hu:qd M:=Rk (by rw[<-y9];exact x3 (by simpa using q));rw[x6.2 hu.func,y8.2 hu];exact ah (λ_=>ah (λ_=>NK F) (λq=>by cases q)) (λq=>by cases q)
  refine⟨_,rfl,ah (λq=>ah (λB=>?_) (λ_=>U)) (λ_=>U)⟩;have:=x6.2 (RZ q);rw[this]at B;cases B
end
end
end Go.Proofs.YtnlccnpbjeiccaaGreatDoor
end
section
namespace Go.Proofs.YtnlccnpbjeiccaaGreatDoor
open Go.Shelf Go.RowKit Go.Lib Go.Sort
def JZ:Go.Shelf.Ren:=⟨fun|5=>146|8=>142|7=>187|19=>185|20=>186|10=>216|11=>217|12=>218|13=>219|14=>220|15=>221|16=>222|17=>223|18=>224|30=>244|31=>212|32=>213|33=>245|34=>246|35=>175|40=>270|n=>n,fun|23=>27|25=>3|3=>3|32=>210|22=>27|0=>0|44=>238|46=>240|4=>4|36=>232|35=>231|41=>89|5=>5|9=>9|53=>264|57=>268|63=>286|64=>287|n=>n,fun|n=>n⟩
theorem Zw:Go.Proofs.SlLaysM.n5 Tryz.prog JZ:={
 mixed:=by kernel_rfl,
 f5:=⟨Tryz.f146.name,by decide,Tryz.func146.trans (congrArg some (by kernel_rfl))⟩,
 f7:=⟨Tryz.f187.name,by decide,Tryz.func187.trans (congrArg some (by kernel_rfl))⟩,
 f8:=Tryz.func142.trans (congrArg some (by kernel_rfl)),
 f10:=⟨Tryz.f216.name,by decide,Tryz.func216.trans (congrArg some (by kernel_rfl))⟩,
 f11:=⟨Tryz.f217.name,by decide,Tryz.func217.trans (congrArg some (by kernel_rfl))⟩,
 f12:=⟨Tryz.f218.name,by decide,Tryz.func218.trans (congrArg some (by kernel_rfl))⟩,
 f13:=⟨Tryz.f219.name,by decide,Tryz.func219.trans (congrArg some (by kernel_rfl))⟩,
 f14:=⟨Tryz.f220.name,by decide,Tryz.func220.trans (congrArg some (by kernel_rfl))⟩,
 f15:=⟨Tryz.f221.name,by decide,Tryz.func221.trans (congrArg some (by kernel_rfl))⟩,
 f16:=⟨Tryz.f222.name,by decide,Tryz.func222.trans (congrArg some (by kernel_rfl))⟩,
 f17:=⟨Tryz.f223.name,by decide,Tryz.func223.trans (congrArg some (by kernel_rfl))⟩,
 f18:=⟨Tryz.f224.name,by decide,Tryz.func224.trans (congrArg some (by kernel_rfl))⟩,
 f19:=Tryz.func185.trans (congrArg some (by kernel_rfl)),
 f20:=Tryz.func186.trans (congrArg some (by kernel_rfl)),
 f30:=⟨Tryz.f244.name,by decide,Tryz.func244.trans (congrArg some (by kernel_rfl))⟩,
 f31:=Tryz.func212.trans (congrArg some (by kernel_rfl)),
 f32:=Tryz.func213.trans (congrArg some (by kernel_rfl)),
 f33:=⟨Tryz.f245.name,by decide,Tryz.func245.trans (congrArg some (by kernel_rfl))⟩,
 f34:=⟨Tryz.f246.name,by decide,Tryz.func246.trans (congrArg some (by kernel_rfl))⟩,
 f35:=⟨Tryz.f175.name,by decide,Tryz.func175.trans (congrArg some (by kernel_rfl))⟩,
 f40:=⟨Tryz.f270.name,by decide,Tryz.func270.trans (congrArg some (by kernel_rfl))⟩,
 t0:=Tryz.underlying0,
 a0:=Tryz.isAgg0,
 z0:=Tryz.sizeOf0,
 v0:=Tryz.zeroValue0,
 t3:=Tryz.underlying3,
 a3:=Tryz.isAgg3,
 z3:=Tryz.sizeOf3,
 v3:=Tryz.zeroValue3,
 t4:=Tryz.underlying4,
 a4:=Tryz.isAgg4,
 z4:=Tryz.sizeOf4,
 v4:=Tryz.zeroValue4,
 t5:=Tryz.underlying5,
 a5:=Tryz.isAgg5,
 z5:=Tryz.sizeOf5,
 v5:=Tryz.zeroValue5,
 t9:=Tryz.underlying9,
 a9:=Tryz.isAgg9,
 z9:=Tryz.sizeOf9,
 v9:=Tryz.zeroValue9,
 t22:=Tryz.underlying27,
 a22:=Tryz.isAgg27,
 z22:=Tryz.sizeOf27,
 v22:=Tryz.zeroValue27,
 t23:=Tryz.underlying27,
 a23:=Tryz.isAgg27,
 z23:=Tryz.sizeOf27,
 v23:=Tryz.zeroValue27,
 t25:=Tryz.underlying3,
 a25:=Tryz.isAgg3,
 z25:=Tryz.sizeOf3,
 v25:=Tryz.zeroValue3,
 t32:=Tryz.underlying210,
 a32:=Tryz.isAgg210,
 z32:=Tryz.sizeOf210,
 v32:=Tryz.zeroValue210,
 t35:=Tryz.underlying231,
 a35:=Tryz.isAgg231,
 z35:=Tryz.sizeOf231,
 v35:=Tryz.zeroValue231,
 t36:=Tryz.underlying232,
 a36:=Tryz.isAgg232,
 z36:=Tryz.sizeOf232,
 v36:=Tryz.zeroValue232,
 t41:=Tryz.underlying89,
 a41:=Tryz.isAgg89,
 z41:=Tryz.sizeOf89,
 v41:=Tryz.zeroValue89,
 t44:=Tryz.underlying238,
 a44:=Tryz.isAgg238,
 z44:=Tryz.sizeOf238,
 v44:=Tryz.zeroValue238,
 t46:=Tryz.underlying240,
 a46:=Tryz.isAgg240,
 z46:=Tryz.sizeOf240,
 v46:=Tryz.zeroValue240,
 t53:=Tryz.underlying264,
 a53:=Tryz.isAgg264,
 z53:=Tryz.sizeOf264,
 v53:=Tryz.zeroValue264,
 t57:=Tryz.underlying268,
 a57:=Tryz.isAgg268,
 z57:=Tryz.sizeOf268,
 v57:=Tryz.zeroValue268,
 t63:=Tryz.underlying286,
 a63:=Tryz.isAgg286,
 z63:=Tryz.sizeOf286,
 v63:=Tryz.zeroValue286,
 t64:=Tryz.underlying287,
 a64:=Tryz.isAgg287,
 z64:=Tryz.sizeOf287,
 v64:=Tryz.zeroValue287 }
end Go.Proofs.YtnlccnpbjeiccaaGreatDoor
end
section
namespace Go.Proofs.YtnlccnpbjeiccaaGreatDoor
open Go Go.Ab Go.Num
theorem adL:oh Tryz.prog 24 [.int .i64 1] (.string ⟨#[48]⟩):=je jB Ad (n:=2000) (by kernel_rfl) (by kernel_rfl)
noncomputable def t24:List (List Value×Value):=[([.int .i64 1],.string ⟨#[48]⟩)]
theorem ab2:qE Tryz.prog 24 t24:=lq adL (by kernel_rfl) (pU)
theorem abK:oh Tryz.prog 203 [.string ⟨#[48]⟩] (.bool true):=je jB Ad (n:=2000) (by kernel_rfl) (by kernel_rfl)
theorem abL:oh Tryz.prog 203 [.string ⟨#[49]⟩] (.bool true):=je jB Ad (n:=2000) (by kernel_rfl) (by kernel_rfl)
noncomputable def ad3:List (List Value×Value):=[([.string ⟨#[48]⟩],.bool true),([.string ⟨#[49]⟩],.bool true)]
theorem ZC:qE Tryz.prog 203 ad3:=lq abK (by kernel_rfl) (lq abL (by kernel_rfl) (pU))
noncomputable def lt1:lI:=(24,.Gg t24)::(203,.Gg ad3)::abp
theorem TR:mn Tryz.prog mJ lt1:=iV ab2 (iV ZC (Ad))
theorem abM:oh Tryz.prog 204 [.string ⟨#[48]⟩,.string ⟨#[49]⟩] (.tuple #[.string ⟨#[49]⟩,.int .i64 0]):=je jB TR (n:=2000) (by kernel_rfl) (by kernel_rfl)
noncomputable def ad4:List (List Value×Value):=[([.string ⟨#[48]⟩,.string ⟨#[49]⟩],.tuple #[.string ⟨#[49]⟩,.int .i64 0])]
theorem ZD:qE Tryz.prog 204 ad4:=lq abM (by kernel_rfl) (pU)
noncomputable def lt2:lI:=(204,.Gg ad4)::lt1
theorem TU:mn Tryz.prog mJ lt2:=iV ZD (TR)
theorem abJ:oh Tryz.prog 169 [.string ⟨#[48]⟩] (.tuple #[.agg #[.bool false,.string ⟨#[48]⟩,.string ⟨#[49]⟩],.bool true]):=je jB TU (n:=2000) (by kernel_rfl) (by kernel_rfl)
noncomputable def ad2:List (List Value×Value):=[([.string ⟨#[48]⟩],.tuple #[.agg #[.bool false,.string ⟨#[48]⟩,.string ⟨#[49]⟩],.bool true])]
theorem ZB:qE Tryz.prog 169 ad2:=lq abJ (by kernel_rfl) (pU)
noncomputable def lt3:lI:=(169,.Gg ad2)::lt2
theorem TV:mn Tryz.prog mJ lt3:=iV ZB (TU)
theorem abI:oh Tryz.prog 155 [.string ⟨#[48]⟩] (.bool true):=je jB TV (n:=2000) (by kernel_rfl) (by kernel_rfl)
noncomputable def ad1:List (List Value×Value):=[([.string ⟨#[48]⟩],.bool true)]
theorem ZA:qE Tryz.prog 155 ad1:=lq abI (by kernel_rfl) (pU)
noncomputable def lt4:lI:=(155,.Gg ad1)::lt3
theorem TW:mn Tryz.prog mJ lt4:=iV ZA (TV)
theorem adM:oh Tryz.prog 73 [.int .i64 1,.string ⟨#[48]⟩] (.bool true):=je jB TW (n:=2000) (by kernel_rfl) (by kernel_rfl)
noncomputable def t73:List (List Value×Value):=[([.int .i64 1,.string ⟨#[48]⟩],.bool true)]
theorem ab3:qE Tryz.prog 73 t73:=lq adM (by kernel_rfl) (pU)
noncomputable def lt5:lI:=(73,.Gg t73)::lt4
theorem abq:mn Tryz.prog mJ lt5:=iV ab3 (TW)
theorem Ta:oh Tryz.prog 13 [] (.bool true):=je jB abq (n:=2000) (by kernel_rfl) (by kernel_rfl)
end Go.Proofs.YtnlccnpbjeiccaaGreatDoor
end
section
namespace Go.Proofs.YtnlccnpbjeiccaaGreatDoor
open Go Go.Ab Go.RowKit
theorem BJ:gT Tryz.prog Tr 296 jX:=yW (fn:=(Tryz.prog.funcs[296]?).getD default) (by kernel_rfl) (by kernel_rfl) (by kernel_rfl) (by kernel_rfl) (by kernel_rfl)
theorem zG:gT Tryz.prog Tr 290 hJ:=vF (fn:=(Tryz.prog.funcs[290]?).getD default) (by kernel_rfl) (by kernel_rfl) (by kernel_rfl) (by kernel_rfl) (by kernel_rfl)
theorem Dz:gT Tryz.prog Tr 228 (um Tryz.prog Tr Tryz.f228 (MC DY) (GV (GV DY)) 5):=
 Ie jB.names Tryz.func228 rfl rfl rfl rfl rfl rfl rfl Tryz.func254 rfl vD (by kernel_rfl) (by kernel_rfl)
theorem YA:mn Tryz.prog Tr adr:=iV (lq Ta (by kernel_rfl) pU) (iU BJ (iU zG (iU Dz DP)))
theorem MI:gT Tryz.prog Tr 146 Ck:=Vr Zw (f5:=Tryz.f146) Tryz.func146 (by kernel_rfl)
theorem UG:oU Tryz.prog Tr prS:=GK MI (Of YA)
end Go.Proofs.YtnlccnpbjeiccaaGreatDoor
end
section
namespace Go.Proofs.YtnlccnpbjeiccaaGreatDoor
open Go Go.Ab Go.ChangeShapes Go.RowKit
variable{n:Nat}{J:cI}{s:List UInt8}{v:Value}{w:Value}{h:aa}
section
theorem co3:Tryz.prog.cellsOf 3=1:=by kernel_rfl
theorem co9:Tryz.prog.cellsOf 9=1:=by kernel_rfl
theorem aeE:Tryz.prog.cellsOf 22=1:=by kernel_rfl
theorem aeF:Tryz.prog.cellsOf 24=4:=by kernel_rfl
theorem aeG:Tryz.prog.cellsOf 42=1:=by kernel_rfl
theorem acY:Tryz.prog.cellsOf 44=2:=by kernel_rfl
theorem acZ:Tryz.prog.cellsOf 46=4:=by kernel_rfl
theorem acX:Tryz.prog.cellsOf 240=1:=by kernel_rfl
theorem aeB:Tryz.prog.bytesOf 46=40:=by kernel_rfl
theorem LK{a c:Type}{p:a->c}{P:a->Prop}:∀{l:List c},(∀x∈l,∃q,x=p q/\P q)->∃k:List a,l=k.map p/\∀q∈k,P q
 |[],_=>⟨[],rfl,λ_ h=>by cases h⟩
 | x::l,h=>by
  obtain⟨q,rfl,e⟩:=h x (mem_cons_self ..);obtain⟨k,rfl,f⟩:=LK λx d=>h x (List.mem_cons_of_mem _ d);exact⟨q::k,rfl,λy b=>by
   rcases mem_cons.1 b with rfl|b
   ·exact e
   ·exact f y b⟩
def RW(W:World)(q:fF×Value):Prop:=DK W q.2 4 (q.1.an.map gV)/\q.1.an.length<=281474976710656/\q.1.f.length<=281474976710656/\∀a∈q.1.an,a.w.length<=281474976710656
section
variable {H:Type} {enc:TypeId×Value->H} {W:World} {held:Bool}
theorem GZ{t:TypeId}{y:DataW H×List MemPlace}{l:List UInt8}{p:List MemPlace}(e:y=(.lit (.string l),p))(a:(y.1.weights Tryz.prog t).all (· <=reachBytes)=true):l.length<=281474976710656:=by
 subst e;have h:l.length<=reachBytes:=by simpa[DataW.weights]using a
 unfold reachBytes at h;omega
theorem Sg{cs:List Value}{y:DataW H×List MemPlace}(h:DataW.trod enc Tryz.prog W 0 (λ_=>true) held n 46 cs=some y)(v:(y.1.weights Tryz.prog 46).all (· <=reachBytes)=true):∃q:bJ,cs=gV q/\q.w.length<=281474976710656:=by
 obtain⟨r,m,_,rfl,l,a,b⟩:=DataW.trod_struct Tryz.underlying46 h;rw[acZ]at l;have a:r.length=4:=a
 match r,a,cs,l with
 |[k,z,g,p],_,[f,c,e,d],_=>
  obtain⟨i,B,_,_⟩:=DataW.trod_int (x:=k) Tryz.underlying3 (show DataW.trod enc Tryz.prog W 0 (λ_=>true) held m 3 (([f,c,e,d].drop 0).take (Tryz.prog.cellsOf 3))=some k from b 0 _ rfl);obtain⟨o,j,_,_⟩:=DataW.trod_int (x:=z) Tryz.underlying3 (show DataW.trod enc Tryz.prog W 0 (λ_=>true) held m 3 (([f,c,e,d].drop 1).take (Tryz.prog.cellsOf 3))=some z from b 1 _ rfl);obtain⟨s,A,w,_⟩:=DataW.trod_string (x:=g) Tryz.underlying9 (show DataW.trod enc Tryz.prog W 0 (λ_=>true) held m 9 (([f,c,e,d].drop 2).take (Tryz.prog.cellsOf 9))=some g from b 2 _ rfl);obtain⟨t,u,_,_⟩:=DataW.trod_int (x:=p) Tryz.underlying3 (show DataW.trod enc Tryz.prog W 0 (λ_=>true) held m 3 (([f,c,e,d].drop 3).take (Tryz.prog.cellsOf 3))=some p from b 3 _ rfl);simp only[co3,co9,List.drop,List.take,List.cons.injEq,and_true]at B j A u;subst B;subst j;subst A;subst u;simp only[DataW.weights,Tryz.underlying46,DataW.weightsEach,List.map,append_nil,all_append,and_eq_true]at v;have C:=GZ w v.2.2.1;exact⟨⟨i,o,s.data.toList,t⟩,rfl,C⟩
theorem MK{cs:List Value}{y:DataW H×List MemPlace}(h:DataW.trod enc Tryz.prog W 0 (λ_=>true) held n 44 cs=some y)(a:(y.1.weights Tryz.prog 44).all (· <=reachBytes)=true):∃q:fF×Value,cs=sg q/\RW W q:=by
 obtain⟨t,u,m,rfl,d,k,i⟩:=trod_struct2 Tryz.underlying44 h;rw[acY]at d
 match cs,d with
 |[x,j],_=>
  obtain⟨s,f,e,_⟩:=DataW.trod_string Tryz.underlying9 k;simp only[DataW.weights,Tryz.underlying44,DataW.weightsEach,List.map,append_nil,all_append,and_eq_true]at a;obtain⟨v,w,c,r,o,b⟩:=EF (P:=Tryz.prog) (p:=λcs=>∃q:bJ,cs=gV q/\q.w.length<=281474976710656) Tryz.underlying42 acZ (by decide) (λn cs y h a=>Sg h a) i a.2;simp only[co9,aeG,List.drop,List.take,List.cons.injEq,and_true]at f c;subst f;subst c;obtain⟨l,rfl,g⟩:=LK o;refine⟨(⟨s.data.toList,l⟩,j),rfl,r,?_,GZ e a.1,g⟩;rw[aeB,lM]at b;unfold reachBytes at b;show l.length<=_;omega
theorem Gd{cs:List Value}{y:DataW H×List MemPlace}(h:DataW.trod enc Tryz.prog W 0 (λ_=>true) held n 24 cs=some y)(b:(y.1.weights Tryz.prog 24).all (· <=reachBytes)=true):
  ∃(k s:Int)(i:List UInt8)(v:Value)(o:List (fF×Value)),cs=[.int .i64 k,.int .i64 s,strOf i,v]/\i.length<=281474976710656/\DK W v 2 (o.map sg)/\∀q∈o,RW W q:=by
 obtain⟨A,m,_,rfl,e,a,d⟩:=DataW.trod_struct Tryz.underlying24 h;rw[aeF]at e;have a:A.length=4:=a
 match A,a,cs,e with
 |[w,D,t,z],_,[j,f,g,c],_=>
  obtain⟨k,F,_,_⟩:=DataW.trod_int (x:=w) Tryz.underlying3 (show DataW.trod enc Tryz.prog W 0 (λ_=>true) held m 3 (([j,f,g,c].drop 0).take (Tryz.prog.cellsOf 3))=some w from d 0 _ rfl);obtain⟨s,u,_,_⟩:=DataW.trod_int (x:=D) Tryz.underlying3 (show DataW.trod enc Tryz.prog W 0 (λ_=>true) held m 3 (([j,f,g,c].drop 1).take (Tryz.prog.cellsOf 3))=some D from d 1 _ rfl);obtain⟨i,E,C,_⟩:=DataW.trod_string (x:=t) Tryz.underlying9 (show DataW.trod enc Tryz.prog W 0 (λ_=>true) held m 9 (([j,f,g,c].drop 2).take (Tryz.prog.cellsOf 9))=some t from d 2 _ rfl);simp only[DataW.weights,Tryz.underlying24,DataW.weightsEach,List.map,append_nil,all_append,and_eq_true]at b;obtain⟨v,I,B,r,G,_⟩:=EF (P:=Tryz.prog) (x:=z) (p:=λcs=>∃q:fF×Value,cs=sg q/\RW W q) Tryz.underlying22 acY (by decide) (λn cs y h b=>MK h b) (show DataW.trod enc Tryz.prog W 0 (λ_=>true) held m 22 (([j,f,g,c].drop 3).take (Tryz.prog.cellsOf 22))=some z from d 3 _ rfl) b.2.2.2;simp only[co3,co9,aeE,List.drop,List.take,List.cons.injEq,and_true]at F u E B;subst F;subst u;subst E;subst B;obtain⟨l,rfl,e⟩:=LK G;exact⟨k,s,i.data.toList,c,l,rfl,GZ C b.2.2.1,r,e⟩
end
section
variable {W:World}
theorem O3(q:bJ):(gV q).all Go.Ab.bare=true:=rfl
theorem Zz(h:aB J v w):aU J [strOf s,v] [strOf s,w]:= .cons (.string _) (.cons h (.nil J))
theorem El:∀(a:List (fF×Value)),(∀q∈a,RW W q)->∀{c:cI}{h:aa},tw c h W->
  ∃(d:cI)(m:aa)(b:List (fF×Value)),tw d m W/\c.le d/\Ok h m/\b.length=a.length/\b.map (·.1)=a.map (·.1)/\(∀p∈b,eT m p.2 p.1.an)/\
   ∀(k:Nat) r s,(b.map sg)[k]?=some r->(a.map sg)[k]?=some s->aU d r s
 |[],_,c,h,i=>⟨c,h,[],i,c.le_refl,Ok.refl i.wf,rfl,rfl,λ_ f=>absurd f (by simp),λk v q h=>absurd h (by simp)⟩
 | q::a,u,c,h,i=>by
  obtain⟨r,_⟩:=u q (mem_cons_self ..);obtain⟨K,g,v,A,G,z,C,I⟩:=i.row (e:=46) r (rs:=q.1.an.map gV) rfl (λk r s g j=>by
    rw[g]at j;obtain rfl:=oI j;rw[getElem?_map]at g;obtain⟨x,_,rfl⟩:=Option.map_eq_some_iff.1 g;exact aU.qX (O3 x))
  obtain⟨t,j,b,B,y,w,D,f,F,H⟩:=El a (λq f=>u q (List.mem_cons_of_mem _ f)) A;refine⟨t,j,(q.1,v)::b,B,cI.le_trans G y,z.trans w,by simp[D],by simp[f],λp o=>?_,λk J E n l=>?_⟩
  ·rcases mem_cons.1 o with rfl|o
   ·exact eT.ok I w
   ·exact F p o
  ·cases k with
   |zero=>
    simp only[List.map_cons,List.getElem?_cons_zero,Option.some.injEq]at n l;subst n;subst l;exact Zz (C.mono y)
   |succ k=>exact H k J E (by simpa using n) (by simpa using l)
theorem I0(i:tw J h W){v:Value}{b:List (fF×Value)}(r:DK W v 2 (b.map sg))(y:∀q∈b,RW W q)(F:∀a,v = .slice (some a) 0 0->a.spot=none/\∃cs t x,W.heap[a.block]?=some (.cells cs t x)):
  ∃c f d,tw c f W/\J.le c/\Ok h f/\aB c d v/\ey f d (b.map (·.1)):=by
 obtain⟨H,I,j,n,B,l,u,m,A,D⟩:=El b y i;obtain⟨g,z,d,o,G,k,w,s,C⟩:=n.U7 (e:=44) (rs:=j.map sg) r (by simp[u]) D F;exact⟨g,z,d,o,cI.le_trans B G,l.trans k,w,j,m,s,λp E=>eT.ok (A p E) k,C⟩
end
end
end Go.Proofs.YtnlccnpbjeiccaaGreatDoor
end
section
namespace Go.Proofs.YtnlccnpbjeiccaaGreatDoor
open Go Go.ChangeShapes Go.WideShapes Go.ChangeAt Go.RowKit
theorem Vg:ownKnob Tryz.prog.godebug=none:=by kernel_rfl
abbrev kY{H:Type}:List (String×DataW H):=[("math/bits.deBruijn32tab",Rows.laid_math_bits_deBruijn32tab),("math/bits.deBruijn64tab",Rows.laid_math_bits_deBruijn64tab),("internal/strconv.uint64pow10",Rows.laid_internal_strconv_uint64pow10)]
def abo:DataW Unit->Value
 |.lit (.int k n)=> .int k n
 |_=>undef
def A0:DataW Unit->Array Value
 |.agg l=>(l.map abo).toArray
 |_=> #[]
def TF(c:Array Value):Obj->Obj
 |.cells _ t a=> .cells c t a
 |o=>o
noncomputable def Ej(a:Os):World:=
 { World.holding Tryz.prog a ⟨#[],#[],[]⟩with heap:=(((World.holding Tryz.prog a ⟨#[],#[],[]⟩).heap.modify 2 (TF (A0 Rows.laid_math_bits_deBruijn32tab))).modify 3 (TF (A0 Rows.laid_math_bits_deBruijn64tab))).modify 1 (TF (A0 Rows.laid_internal_strconv_uint64pow10)) }
theorem Di(b:Os)(a:Array Value):laidMetH Tryz.prog kY ((Ej b).forCall (λ_ _=>0) ⟨#[],a,[]⟩).memory:=
 laidMetH_of_parts (laidMet_of_run' 24 (by kernel_rfl) (by kernel_rfl)) (by kernel_rfl)
end Go.Proofs.YtnlccnpbjeiccaaGreatDoor
end
section
namespace Go.Proofs.YtnlccnpbjeiccaaGreatDoor
open Go Go.Ab Go.ChangeShapes Go.WideShapes Go.RowKit
variable{v:Value}
section
theorem BA{P:Program}{w:World}:∀{l:List (String×DataW Unit)}{c:List MemPlace},DataW.LaidVars P w l c->∀n d,(n,d)∈l->
  ∃g t cs a p,P.globalNamed n=some g/\(P.globals[g]?).map (·.type)=some t/\w.var? P n=some cs/\DataW.trod (λ_=>()) P w 0 (λ_=>true) false a t cs.toList=some (d,p)
 |[],_,_,_,_,b=>by cases b
 | (s,o)::r,c,h,n,d,b=>by
  obtain⟨g,t,cs,a,p,q,i,j,f,k,m,_⟩:=h;rcases mem_cons.1 b with e|e
  ·cases e
   exact⟨g,t,cs,a,p,i,j,f,k⟩
  ·exact BA m n d e
theorem UE:Rows.laid_internal_strconv_uint64pow10=(.agg ((List.range 20).map λi=>(.lit (.int .u64 ((10^i:Nat):Int)):DataW Unit)):DataW Unit):=by kernel_rfl
section
variable {W:World}
theorem Y9(j:laidMetH Tryz.prog kY W):∃cs t a,W.heap[1]?=some (.cells cs t a)/\∀s,ff s J5 0 cs:=by
 rw[MakeChecks.laidMetH_plain _ _ _ (by kernel_rfl)]at j;obtain⟨F,l,_⟩:=j;obtain⟨g,t,cs,x,p,r,E,b,C⟩:=BA l "internal/strconv.uint64pow10" Rows.laid_internal_strconv_uint64pow10 (by simp[kY]);obtain rfl:=oI ((show Tryz.prog.globalNamed "internal/strconv.uint64pow10" = some 1 by kernel_rfl).symm.trans r);obtain rfl:=oI ((show(Tryz.prog.globals[1]?).map (·.type)=some 328 by kernel_rfl).symm.trans E);obtain⟨f,m,_,D,_,l,o⟩:=DataW.trod_array Tryz.underlying328 C;have w:f.map (·.1)=(List.range 20).map λi=>(.lit (.int .u64 ((10^i:Nat):Int)):DataW Unit):=by
  have:=(Prod.mk.inj D).1.symm.trans UE;exact DataW.agg.inj this
 have d:∃t a,W.heap[1]?=some (.cells cs t a):=by
  simp only[World.var?,r,Option.bind_some]at b;split at b
  ·next c t a d=>obtain rfl:=oI b;exact⟨t,a,d⟩
  ·cases b
 obtain⟨t,a,d⟩:=d;refine⟨cs,t,a,d,λs k v h=>?_⟩;have e:k<20:=by
  have:=(List.getElem?_eq_some_iff.1 h).1;simpa[J5]using this
 have b:v=uv (10^k):=by
  simp[J5,List.getElem?_range e]at h;exact h.symm
 have n:=o k e;rw[acX,Nat.mul_one,gE (by omega)]at n;obtain⟨z,u,B,_⟩:=DataW.trod_int Tryz.underlying240 n;have q:(f.map (·.1))[k]?=some (.lit (.int .u64 ((10^k:Nat):Int))):=by rw[w];simp[List.getElem?_range e]
 rw[getElem?_map,gE (by omega:k<f.length),B]at q;have A:z=((10^k:Nat):Int):=by
  simpa using q
 subst A;have:cs.toList[k]?=some (.int .u64 ((10^k:Nat):Int)):=by
  have y:((cs.toList.drop k).take 1)[0]?=some (.int .u64 ((10^k:Nat):Int)):=by rw[u];rfl
  simpa using y
 refine⟨.int .u64 ((10^k:Nat):Int),by simpa using this,?_⟩;rw[b];exact .int _ _
theorem Ym(c:laidMetH Tryz.prog kY W):∃a h,tw a h W/\Gl Tr a/\rK h:=by
 obtain⟨cs,t,f,b,e⟩:=Y9 c;refine⟨_,_,(aeK 1 W).push b (e _),λg d=>?_,t,false,aa.gb ⟨1,.nil⟩ _⟩;have:g=1:=by simpa[Tr]using d
 subst this;exact⟨_,cI.ca _ _ _,rfl,rfl,rfl⟩
theorem V2{base:Nat}{k s:Int}{o:List UInt8}(b:Value.okWide Tryz.prog W .any base 24 (.agg #[.int .i64 k,.int .i64 s,strOf o,v]))(a:Addr)(e:v = .slice (some a) 0 0):a.spot=none/\∃cs t f,W.heap[a.block]?=some (.cells cs t f):=by
 simp only[Value.okWide,Tryz.underlying24]at b;obtain⟨cs,h,_,r,i,_,p⟩:=b;obtain rfl:=Value.agg.inj h;obtain rfl:=oI ((show Tryz.prog.cellTypes Tryz.prog.depth 24=some [3,3,9,22] by kernel_rfl).symm.trans i);obtain⟨u,n,g⟩:=p 3 v rfl;obtain rfl:22=u:=oI n;subst e;simp only[Cell.okWide,Cell.ok,Tryz.underlying22]at g;obtain⟨_,_,_,m,q,j,d,_⟩:=g;refine⟨m,?_⟩;unfold World.shape? at d;split at d
 ·next c t f l=>exact⟨c,t,f,l⟩
 ·cases d
end
end
variable{c:List Value}{f:FuncId}{F:Func}
section
section
variable {W:World}
def Ldx(W:World)(v:Value)(S:Value->aa->Prop):Prop:=(∀c h a,Ok h a->S c h->S c a)/\∀{d:cI}{h:aa},tw d h W->∃b a c,tw b a W/\d.le b/\Ok h a/\aB b c v/\S c a
def Lds(W:World)(e:List Value)(T:List Value->aa->Prop):Prop:=∀{d:cI}{h:aa},tw d h W->∃a c b,tw a c W/\d.le a/\Ok h c/\aU a b e/\T b c
theorem Yv:Lds W [] λa _=>a=[]:=λ{b h} i=>⟨b,h,[],i,b.le_refl,Ok.refl i.wf,.nil _,rfl⟩
theorem TG{S:Value->aa->Prop}{T:List Value->aa->Prop}(a:Ldx W v S)(b:Lds W c T):Lds W (v::c) λe h=>∃x r,e=x::r/\S x h/\T r h:=λ{w h} i=>by
 obtain⟨t,u,x,l,q,j,n,s⟩:=a.2 i;obtain⟨d,p,r,m,g,f,o,k⟩:=b l;exact⟨d,p,x::r,m,cI.le_trans q g,j.trans f,.cons (n.mono g) o,x,r,rfl,a.1 _ _ _ f s,k⟩
def acu(v:Value)(h:aa):Prop:=∃(M:aG)(a:Option Addr)(c:Nat),v = .agg ⟨bD M a M.ak.length c⟩/\Bnd M/\aaG M/\ey h (.slice a M.ak.length c) M.ak
variable {H:Type} {enc:TypeId×Value->H}
theorem Yu{base:Nat}{C:DataW H}{p:List MemPlace}(g:Value.okWide Tryz.prog W .any base 24 v)(t:DataW.Trod enc Tryz.prog W 0 (λ_=>true) true 24 v C p)(I:(C.weights Tryz.prog 24).all (· <=reachBytes)=true):Ldx W v acu:=by
 refine⟨λP h Q o s=>?_,λ{S h} i=>?_⟩
 ·obtain⟨M,a,c,e,b,L,r⟩:=s;exact⟨M,a,c,e,b,L,r.ok o⟩
 obtain⟨cs,rfl,_⟩:=okWide_struct Tryz.underlying24 g;obtain⟨J,t⟩:=t;obtain⟨k,s,u,P,f,m,B,O,n⟩:=Gd t I;have m:cs = #[.int .i64 k,.int .i64 s,strOf u,P]:=by
  rw[<-Array.toList_inj];exact m
 subst m;obtain⟨A,G,R,F,K,E,w,j⟩:=I0 i O n (V2 g);obtain⟨N,y,z,_,_⟩:=id j;obtain⟨a,c,rfl⟩:=z.oa;have D:(N.map sg).length=(f.map (·.1)).length:=by rw[<-y,lM,lM]
 rw[D]at w j;refine⟨A,G,.agg ⟨bD ⟨k,s,u,f.map (·.1)⟩ a (f.map (·.1)).length c⟩,F,K,E,?_,⟨k,s,u,f.map (·.1)⟩,a,c,rfl,λx l=>?_,⟨B,λx l=>?_,λx l=>?_⟩,j⟩
 ·exact .agg rfl (gN.toList.2 (.cons (.int _ _) (.cons (.int _ _) (.cons (.string _) (.cons w (.nil _)))))).2
 ·obtain⟨q,d,rfl⟩:=mem_map.1 l;exact(n q d).2.1
 ·obtain⟨q,d,rfl⟩:=mem_map.1 l;exact(n q d).2.2.1
 ·obtain⟨q,d,rfl⟩:=mem_map.1 l;exact(n q d).2.2.2
theorem PZ(m:Tryz.prog.funcs[f]?=some F)(b:F.body.isSome=true)(q:f<YB){a:Array Value}{T:List Value->aa->Prop}(l:Lds W a.toList T)(p:laidMetH Tryz.prog kY W)
  (i:∀{h:aa}{c:List Value}(_:rK h)(_:Wf h),T c h->FW SS f c h (EQ h)):Calls Tryz.prog f a W λe d=>e = .returned (.bool true)/\Below W.heap.size W d:=by
 obtain⟨t,C,k,v,n⟩:=Ym p;obtain⟨y,z,c,g,s,j,o,u⟩:=l k;refine(H5 jB UG (i (n.ok j) g.wf u) q m b g (v.mono s) (args':=a) o).mono ?_;rintro e d ⟨x,A,B,w,rfl,⟨rfl,_⟩,r,_,b⟩
 cases r
 exact⟨rfl,b⟩
end
end
end Go.Proofs.YtnlccnpbjeiccaaGreatDoor
end
section
namespace Go.Proofs.YtnlccnpbjeiccaaGreatDoor
open Go Go.Ab Go.ChangeShapes Go.WideShapes Go.ChangeAt Go.RowKit
theorem H7:(Rows.functionSureRow.inPlace==Tryz.prog.inPlace 6)=true:=by kernel_rfl
theorem Xs:(Rows.functionSureRow.unfollowed==Tryz.prog.unfollowed 6)=true:=by kernel_rfl
theorem Xr:(Rows.functionSureRow.recurses==Tryz.prog.recurses 6)=true:=by kernel_rfl
theorem Pe:(Rows.functionSureRow.named==Tryz.prog.varsNamed 6)=true:=by kernel_rfl
theorem Xt:joinedFacts Tryz.prog 6 Tryz.f6 Rows.functionSureSpec Rows.functionSureRow=true:=by
 unfold joinedFacts;simp only[H7,Xs,Xr,Pe,Bool.and_true];kernel_rfl
theorem aa6:Rows.functionSureRow.wfByText (OpenSpec.ofChange Rows.functionSureSpec)=true:=by kernel_rfl
theorem SI:Tryz.prog.mainIs=some (true,"ff3441c17bcda657332785e9cffc769a5e1afd95a52b44779d36b3cd125930a8".toList):=by kernel_rfl
theorem Pd:true=Tryz.prog.looks []:=by kernel_rfl
theorem SH:false=Rows.functionSureRow.goesBy Tryz.prog:=by kernel_rfl
theorem PY:laidOutB Tryz.prog=true:=by kernel_rfl
set_option maxRecDepth 100000 in
theorem sw(os:Os)(started:os.Started)(H:Type)(enc:TypeId×Value->H):
  ReturnsInHanded {} Tryz.checked os 6 .any (λw args=>(Rows.functionSureSpec.pre enc Tryz.prog Tryz.f6 [] false w args/\laidMetH Tryz.prog kY w)/\sizedMet enc Tryz.prog Tryz.f6 (OpenSpec.ofChange Rows.functionSureSpec) false w args)
   (Rows.functionSureSpec.post enc Tryz.prog Tryz.f6 false true false false):=by
 refine returnsInHanded_of_change_and (C:=Tryz.checked) (X:=λw _=>laidMetH Tryz.prog kY w) (λ_ _ _ hh h=>h.of_heap hh) Vg started (by kernel_rfl) Tryz.func6
  (ChangeSpec.witness_at (enc:=enc) (C:=Tryz.checked) (os:=os) (X:=λw _=>laidMetH Tryz.prog kY w) false (Ej os) #[.agg #[.int .i64 0,.int .i64 0,.string ⟨#[]⟩,.slice none 0 0]] 8 rfl (by kernel_rfl) (by kernel_rfl) (by kernel_rfl) (by kernel_rfl) (by kernel_rfl) (Di os _)) ?_
 intro W base args ds gs before hval0 hW _ hwt hL _;have hval:∀(j:Nat) t v,Tryz.f6.params[j]?=some t->args[j]?=some v->Value.okWide Tryz.prog W .any base t v:=hval0;have hW':=hW;obtain⟨p,q,hA0,hV,rfl,hfz,hnd⟩:=hW;have hA:DataW.TrodAll enc Tryz.prog W 0 (λ_=>true) true Tryz.f6.params.toList args.toList ds p:=hA0;rw[Tryz.params6]at hA hval;obtain⟨v0,vs0,d0,ds0,p0,q0,hargs,rfl,rfl,t0,hA1⟩:=trodAll_cons hA;obtain⟨rfl,rfl,rfl⟩:=trodAll_nil hA1;have hargs:args = #[v0]:=by
  rw[<-Array.toList_inj];exact hargs
 subst hargs;obtain⟨rfl,rfl⟩:=trodVars_none hV;rw[append_nil]at hW';have h1:(DataW.weightsEach Tryz.prog (Tryz.f6.params.toList++Rows.functionSureSpec.plain.varTypes Tryz.prog) ([d0]++[])).all (· <=reachBytes)=true:=hwt;rw[Tryz.params6]at h1;have h2:(d0.weights Tryz.prog 24++(DataW.weightsEach Tryz.prog (Rows.functionSureSpec.plain.varTypes Tryz.prog) [])).all (· <=reachBytes)=true:=h1;simp only[all_append,and_eq_true]at h2;obtain⟨w0,_⟩:=h2;have ld:Lds W #[v0].toList _:=TG (Yu (hval 0 24 v0 rfl rfl) t0 w0) (Yv);refine(PZ Tryz.func6 (by kernel_rfl) (by unfold YB;decide) ld hL λtb w T=>?_).mono λe W2 ⟨he,hb⟩=>?_
 ·obtain⟨x0,r0,rfl,s0,rfl⟩:=T;obtain⟨M0,a0,c0,rfl,b0,e0,r0⟩:=s0;exact LF tb w b0 e0 r0
 subst he;have hlt:∀x∈p0++([]),x.block<W.heap.size:=λx hx=>hW'.lt x hx;exact⟨_,rfl,TE (ds:=[d0]) (places:=p0++([])) rfl hW' hb rfl rfl (λ_ _ _=>(trodAll_cons_mk (shut_bool Tryz.underlying4 _) trodAll_mk0))
  (ok_one (by kernel_rfl) rfl (okWide_bool_mk Tryz.underlying4 _)) (λsp hsp=>by
   rw[Tryz.params6];exact trodAll_cons_mk (WideElems.Trod_stays PY (by kernel_rfl) (dT (by kernel_rfl)) t0 (λx hx=>hb.same (hlt x (List.mem_append_left _ hx))) (λx hx=>hsp x (List.mem_append_left _ hx))) (trodAll_mk0))⟩
theorem vC:Rows.FunctionSureSaid:=
 OpenClaim.holds_of_wide 6 Tryz.f6 rfl rfl rfl rfl rfl rfl rfl ⟨rfl,rfl,rfl,rfl,rfl⟩ rfl rfl rfl rfl rfl (by kernel_rfl) Tryz.func6 Xt
  (dT (by kernel_rfl)) (by unfold Func.isWrapper;first|(rw[if_pos (by decide +kernel)];kernel_rfl)|(rw[if_neg (by decide +kernel)];exact⟨rfl,rfl⟩))
  (λos started H enc _=>sw os started H enc)
theorem functionSure_holds:Rows.FunctionSureCardSaid:=
 Claim7.holds_tied_plain_at .later [] [.data,.data,.data] true (true,"ff3441c17bcda657332785e9cffc769a5e1afd95a52b44779d36b3cd125930a8") true
  vC (λ_ h=>by cases h) aa6 (λ_ h=>by cases h) functionSure_row_tie rfl ⟨rfl,rfl⟩ SI rfl
  (λf fn hf hfn=>by
   obtain rfl:f=6:=oI ((show Tryz.prog.funcNamed "abugida/abugidalaw17.FunctionSure" = some 6 by kernel_rfl).symm.trans hf) |>.symm
   obtain rfl:fn=Tryz.f6:=(oI (Tryz.func6.symm.trans hfn)).symm;exact⟨Pd,λj t ht=>by
    rw[Tryz.params6]at ht;have hm:t∈[24]:=by simpa using Array.mem_of_getElem? ht
    have hall:([24].all λu=> !Tryz.prog.wantsStandIn u)=true:=by kernel_rfl
    exact(show Tryz.prog.wantsStandIn t=false by simpa using List.all_eq_true.1 hall t hm)⟩)
  SH
end Go.Proofs.YtnlccnpbjeiccaaGreatDoor
end
