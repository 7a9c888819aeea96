/- Laws and walks that the proof leans on (part 6): BA7; V11; BA16; BA17; V12; BA18 and others. No condition. -/
import Derived.Test.YtaaichlgdgjgjaaGreatDoorPart5
import Derived.Test.YtaaichlgdgjgjaaGreatDoorPart3
import Derived.Test.YtaaichlgdgjgjaaGreatDoorPart2
set_option linter.unusedVariables false
set_option linter.unusedSimpArgs false
set_option maxRecDepth 100000
open List (all_cons all_eq_true append_assoc drop_length drop_zero ext_getElem getElem?_map length_append length_cons length_drop length_replicate length_set length_take map_append map_map map_set mem_cons mem_cons_self mem_map mem_singleton range_succ take_length take_of_length_le take_take)
open Nat (lt_succ_self sub_zero)
open Option (map_eq_some_iff)
open Bool (and_eq_true not_eq_false' not_eq_true')
open Go.IntKind (wrap)
section
namespace Go.Proofs.YtaaichlgdgjgjaaGreatDoor
open Go Go.Ab Go.Num
variable{n:Nat}{d:List Value}{m:Nat}{i:Nat}{j:Nat}{b:Bool}
section
theorem km{g:ae}{k:Nat}{cs:List Value}{z:Nat}{e:Bool}(a:g.get k=some (.cells cs m z b))(f:g.get n=some (.cells d i j e))(h:m≠i):k≠n:=λc=>by
 rw[c,f]at a;injection a with a
 injection a with _ a
 exact h a.symm
def Kq(a:hO):Bool:=decide (a.i=0)&&decide (a.o=0)
def QZ(s:dW):Bool:=s.arcs.any Kq
theorem OD(M:bt):oA (gm M)=M.af.any QZ:=by
 unfold oA;show(M.af.map Bx).any _=_;rw[List.any_map];congr 1;funext s;show((s.arcs.map CH).any _)=_;rw[List.any_map];rfl
structure QI(h:ae)(M:bt)(x:Option Addr)(z N k kr q:Nat)(cur:Value)(ks cs:Nat->Nat)(R:LM)(g:ae):Prop where
 box:g.get k=some (.cells (bR M x N z) 29 0 true)
 out:g.get kr=some (.cells (rY N q ks cs cur) 107 1 true)
 row:∀a,a<q->VB g (ks a) (R.getD a [])
 new:h.next<=k/\h.next<=kr/\∀a,a<q->h.next<=ks a
 inj:∀a b,a<q->b<q->ks a=ks b->a=b
 ok:Ok h g
 len:R.length=q
 sq:∀a,a<q->VV M.kind N (R.getD a [])
section
variable {h:ae} {M:bt} {x:Option Addr} {z N k kr q kl:Nat} {cur:Value} {ks cs:Nat->Nat} {R:LM} {l:List (List UInt8)} {g g':ae}
theorem QI.mb(i:QI h M x z N k kr q cur ks cs R g)(r:dS h (.slice x N z) M.af):MB g k M x N z:=⟨i.box,r.ok i.ok⟩
theorem QI.ux(i:QI h M x z N k kr q cur ks cs R g)(o:Ok g g'):QI h M x z N k kr q cur ks cs R g':=⟨o.ext _ _ i.box,o.ext _ _ i.out,λa b=>o.ext _ _ (i.row a b),i.new,i.inj,i.ok.trans o,i.len,i.sq⟩
theorem QI.room(i:QI h M x z N k kr q cur ks cs R g)(n:Nat):QI h M x z N k kr q cur ks cs R (Go.Ab.room g n):=⟨i.box,i.out,i.row,i.new,i.inj,i.ok.room n,i.len,i.sq⟩
theorem QI.adu(i:QI h M x z N k kr q cur ks cs R g)(w:Wf h)(y:Value)(l:dM y=true)(j:y.cells = #[y])(d:q<N):∃u:dL,ah SS.P 107 (.pointer (some ⟨kr,q,none⟩)) y g=some (undef,u)/\QI h M x z N k kr q y ks cs R (u.app g)/\∀b B,g.get b=some B->b≠kr->(u.app g).get b=some B:=by
 refine⟨_,iX nq i.out (by rw[tB];exact d) l j,?_,λb B f c=>by show(g.set kr _).get b=_;rw[ae.aw,if_neg c];exact f⟩;rw[JP];refine⟨?_,by show(g.set kr _).get kr=_;rw[ae.aw,if_pos rfl],λa e=>?_,i.new,i.inj,i.ok.set _ i.new.2.1 (i.ok.wf _ _ i.out) w,i.len,i.sq⟩
 ·show(g.set kr _).get k=_;rw[ae.aw,if_neg (km i.box i.out (by decide))];exact i.box
 ·have:=i.row a e;show(g.set kr _).get (ks a)=_;rw[ae.aw,if_neg (km this i.out (by decide))];exact this
theorem QI.set(i:QI h M x z N k kr q cur ks cs R g)(w:Wf h)(c:VB g kl l)(e:h.next<=kl)(f:∀a,a<q->ks a≠kl)(b:List (List UInt8)):QI h M x z N k kr q cur ks cs R ((dL.set kl (.cells (eE b) 9 1 true)).app g)/\VB ((dL.set kl (.cells (eE b) 9 1 true)).app g) kl b:=by
 refine⟨⟨?_,?_,λa d=>?_,i.new,i.inj,i.ok.set _ e (i.ok.wf _ _ c) w,i.len,i.sq⟩,by show(g.set kl _).get kl=_;rw[ae.aw,if_pos rfl]⟩
 ·show(g.set kl _).get k=_;rw[ae.aw,if_neg (km i.box c (by decide))];exact i.box
 ·show(g.set kl _).get kr=_;rw[ae.aw,if_neg (km i.out c (by decide))];exact i.out
 ·have:=i.row a d;show(g.set kl _).get (ks a)=_;rw[ae.aw,if_neg (f a d)];exact this
theorem QI.next(i:QI h M x z N k kr q (vS kl N N) ks cs R g)(r:VB g kl l)(p:VV M.kind N l)(o:h.next<=kl)(m:∀a,a<q->ks a≠kl):QI h M x z N k kr (q+1) nA (λa=>if a=q then kl else ks a) (λa=>if a=q then N else cs a) (R++[l]) g:=by
 have e:∀a,a<q->(R++[l]).getD a []=R.getD a []:=λa j=>by
  rw[gD,List.getElem?_append_left (by rw[i.len];exact j),<-gD]
 have n:(R++[l]).getD q []=l:=by
  rw[gD,List.getElem?_append_right (by rw[i.len];exact Nat.le_refl _),i.len,Nat.sub_self];rfl
 refine⟨i.box,by rw[<-Fx];exact i.out,λa j=>?_,⟨i.new.1,i.new.2.1,λa j=>?_⟩,λa b j s f=>?_,i.ok,by rw[length_append,i.len];rfl,λa j=>?_⟩
 ·by_cases c:a=q
  ·subst c;rw[n,if_pos rfl];exact r
  ·rw[if_neg c,e a (by omega)];exact i.row a (by omega)
 ·by_cases c:a=q
  ·rw[if_pos c];exact o
  ·rw[if_neg c];exact i.new.2.2 a (by omega)
 ·by_cases c:a=q<;>by_cases d:b=q
  ·omega
  ·rw[if_pos c,if_neg d]at f;exact absurd f.symm (m b (by omega))
  ·rw[if_neg c,if_pos d]at f;exact absurd f (m a (by omega))
  ·rw[if_neg c,if_neg d]at f;exact i.inj a b (by omega) (by omega) f
 ·by_cases c:a=q
  ·subst c;rw[n];exact p
  ·rw[e a (by omega)];exact i.sq a (by omega)
theorem QI.mtx(i:QI h M x z N k kr N cur ks cs R g):sC 107 g kr ks cs R/\Sq M.kind N R:=by
 refine⟨⟨?_,λa c=>i.row a (by rw[<-i.len];exact c),λa c=>?_,λa b c d=>i.inj a b (by rw[<-i.len];exact c) (by rw[<-i.len];exact d)⟩,i.len,λa c=>(i.sq a c).len,λa b c d=>(i.sq a c).val b d⟩
 ·rw[i.out,i.len];congr 2;unfold rY;refine List.map_congr_left λa c=>?_;have c:=List.mem_range.1 c;rw[if_pos c,(i.sq a c).len]
 ·exact km (i.row a (by rw[<-i.len];exact c)) i.out (by decide)
end
def adZ(h:ae)(M:bt)(o:Option (Option LM)):VH:=λv g=>Ok h g/\match o with
 |none=>v = .tuple ⟨[nA,.int .i64 2]⟩
 |some none=>v = .tuple ⟨[nA,.int .i64 0]⟩
 |some (some B)=>∃(a:Addr)(d:Nat),v = .tuple ⟨[.slice (some a) M.af.length d,.int .i64 0]⟩/\Lf 107 g (.slice (some a) M.af.length d) B/\Sq M.kind M.af.length B
theorem YK{h:ae}{M:bt}{x:Option Addr}{z:Nat}(w:Wf h)(K:Oi M)(r:dS h (.slice x n z) M.af):FW SS 73 [.agg ⟨bR M x n z⟩,.bool false] h (adZ h M (dR (aX M.kind) (gm M))):=by
 obtain⟨W,P⟩:=fv w r;obtain rfl:n=M.af.length:=W.len;have hn:=K.n;obtain⟨N,hN⟩:∃N,N=M.af.length:=⟨_,rfl⟩
 refine YJ (bR M x M.af.length z) h _ ⟨_,ja M x _ z,_,cI _,_,_,_,W.l3,_,_,_,TD _ (by omega),?_⟩;generalize h.push (Bm M x M.af.length z)=C at*;have k1:=aI C (.cells (List.replicate M.af.length nA) 107 1 true);have o1:=(Ok.refl P.wf).push (.cells (List.replicate M.af.length nA) 107 1 true);obtain⟨G,hG⟩:∃G,G=dR (aX M.kind) (gm M):=⟨_,rfl⟩
 obtain⟨L,Q⟩:∃L,L=bg (gN (aX M.kind) (gm M)) M.af.length 0 []:=⟨_,rfl⟩
 have z0:L=none->G=none:=λe=>by
  rw[hG];unfold dR;rw[CK,<-Q,e]
 have S:∀A,L=some A->G=if M.af.any QZ=true then(if 60<M.af.length then none else match jR (aX M.kind) A with|none=>none|some B=>some (some B))else some none:=λA e=>by
  rw[hG];unfold dR;rw[CK,<-Q,e,OD];dsimp only
  cases jR (aX M.kind) A<;>rfl
 rw[<-hG];have i0:QI h M x z M.af.length h.next C.next 0 nA (λ_=>0) (λ_=>0) [] (C.push (.cells (List.replicate M.af.length nA) 107 1 true)):=by
  refine⟨o1.ext _ _ W.box,?_,λa t=>by omega,⟨Nat.le_refl _,P.nx,λa t=>by omega⟩,λa b t=>by omega,P.trans o1,rfl,λa t=>by omega⟩;rw[k1];congr 2;unfold rY;refine ext_getElem (by simp) λa h1 h2=>?_;simp
 refine Bj (bR M x M.af.length z) h.next C.next M.af.length (λmz q an g=>q<=M.af.length/\mz=M.af.length-q/\(an||(M.af.drop q).any QZ)=M.af.any QZ/\∃ks cs R,QI h M x z M.af.length h.next C.next q nA ks cs R g/\bg (gN (aX M.kind) (gm M)) (M.af.length-q) q R=L) _ (λmz q an=>?_) M.af.length (q:=0) (an:=false) ⟨by omega,rfl,by rw[drop_zero,Bool.false_or],_,_,_,i0,by rw[Q,sub_zero]⟩;intros;rename_i g y7;obtain⟨f1,f2,t,ks,cs,R,k,Y⟩:=y7;refine aa (λq1=>?_) (λq1=>?_)
 ·have p:q<M.af.length:=by have:=dT q1;omega
  obtain⟨s,hs⟩:∃s,M.af[q]?=some s:=⟨_,gE p⟩
  have x0:=List.mem_of_getElem? hs;rw[fk hs,List.any_cons]at t;rw[fg _ p]at Y;have hc:gN (aX M.kind) (gm M) R q=match bg (eV (aX M.kind) (Bx s).arcs) s.arcs.length 0 (bw (aX M.kind) M.af.length)with|none=>none|some r=>some (R++[r]):=by
   unfold gN;rw[S4 hs,S8,CK]
   cases bg (eV (aX M.kind) (Bx s).arcs) s.arcs.length 0 (bw (aX M.kind) M.af.length)<;>rfl
  rw[hc]at Y;refine⟨_,(k.mb r).all,(uO k.ok.wf K (r.ok k.ok)).mono ?_⟩;rintro _ g1 ⟨kl,rfl,x2,nl,o2⟩;have x5:=k.ux o2;have x6:h.next<=kl:=Nat.le_trans k.ok.nx nl;have hk:∀a,a<q->ks a≠kl:=λa t=>by have:=k.ok.wf _ _ (k.row a t);omega
  obtain⟨u,st,z4,kp⟩:=x5.adu w (vS kl M.af.length M.af.length) rfl rfl p;have z5:=kp _ _ x2 (λe=>km x2 x5.out (by decide) e);refine⟨_,_,_,rfl,_,CP nF nq p,u,st,?_⟩;generalize u.app g1=g2 at*;refine Bk (bR M x M.af.length z) h.next C.next M.af.length _ mz q (λx3 j an g=>j<=s.arcs.length/\x3=s.arcs.length-j/\(an||((s.arcs.drop j).any Kq||(M.af.drop (q+1)).any QZ))=M.af.any QZ/\∃l,QI h M x z M.af.length h.next C.next q (vS kl M.af.length M.af.length) ks cs R g/\VB g kl l/\VV M.kind M.af.length l/\(match bg (eV (aX M.kind) (Bx s).arcs) (s.arcs.length-j) j l with|none=>none|some r=>bg (gN (aX M.kind) (gm M)) (M.af.length-(q+1)) (q+1) (R++[r]))=L) _ (λx3 j an=>?_) s.arcs.length (j:=0) (an:=an) ⟨by omega,rfl,by rw[drop_zero];exact t,_,z4,z5,VV.Og K.kind _,?_⟩
  ·intros;rename_i g3 y5;obtain⟨d1,d2,i,l,J,y2,m,f⟩:=y5;have X:=J.mb r;obtain⟨b,o,xa,ya,za,u1,u2,u3,u4,ar⟩:=X.row.at_ hs;have hm:=ar.len;subst hm;have z7:=K.m s x0;refine⟨_,cI _,_,_,_,X.l3,_,u1,_,fY _ _,_,_,_,u4,aa (λE=>?_) (λE=>?_)⟩
   ·have hj:j<s.arcs.length:=by have:=dT E;omega
    obtain⟨d,I⟩:∃d,s.arcs[j]?=some d:=⟨_,gE hj⟩
    obtain⟨b2,z8,v1,v2,v3,v4,v5,v6⟩:=ar.at_ I;obtain⟨uu,p1,p2,p3⟩:=JT J.ok.wf d;have F:=J.ux p2;have V:VB _ kl l:=p2.ext _ _ y2;have hw:=K.arc s x0 d (List.mem_of_getElem? I);rw[fk I,List.any_cons]at i;rw[fg _ hj]at f;have O:d.t.toNat<M.af.length:=by omega
    have et:d.t=((d.t.toNat:Nat):Int):=by omega
    have z1:eV (aX M.kind) (Bx s).arcs l j=if d.i≠0\/d.o≠0 then some l else match eO M.kind (l.getD d.t.toNat []) d.w with|none=>none|some x=>some (l.set d.t.toNat x):=by
     unfold eV;rw[Zh I];have e1:(CH d).t=d.t.toNat:=rfl;have e2:(CH d).i=d.i:=rfl;have e3:(CH d).o=d.o:=rfl;have e4:(CH d).w=d.w:=rfl;rw[e1,e2,e3,e4,m.at_ O (aX M.kind).zero];have e5:(aX M.kind).plus (l.getD d.t.toNat []) d.w=eO M.kind (l.getD d.t.toNat []) d.w:=rfl;rw[e5]
     cases eO M.kind (l.getD d.t.toNat []) d.w<;>rfl
    rw[z1]at f;rw[aJ hj (by omega)];refine⟨_,cI _,_,_,_,X.l3,_,u1,_,fY _ _,_,_,_,u4,_,v1,_,v2,_,RS,uu,p1,?_⟩;generalize uu.app (g3.push Oh)=g4 at*;refine⟨_,rE _ _,_,p3.l0,aa (λy=>?_) (λy=>⟨_,vZ _ _,_,p3.l1,aa (λD=>?_) (λD=>?_)⟩)⟩
    ·have y:d.i≠0:=by simpa using y
     rw[if_pos (.inl y)]at f;have e:Kq d=false:=by unfold Kq;simp[y]
     rw[e,Bool.false_or]at i;exact jb (s.arcs.length-(j+1)) (by omega) ⟨by omega,rfl,i,l,F,V,m,f⟩
    ·have D:d.o≠0:=by simpa using D
     rw[if_pos (.inr D)]at f;have e:Kq d=false:=by unfold Kq;simp[D]
     rw[e,Bool.false_or]at i;exact jb (s.arcs.length-(j+1)) (by omega) ⟨by omega,rfl,i,l,F,V,m,f⟩
    ·have y:d.i=0:=by simpa using y
     have D:d.o=0:=by simpa using D
     rw[if_neg (by rintro(h|h)<;>exact h (by first|exact y|exact D))]at f;have e:Kq d=true:=by unfold Kq;simp[y,D]
     rw[e]at i;simp only[Bool.true_or,Bool.or_true]at i;have H:=F.room 18;have x9:VB (Go.Ab.room g4 18) kl l:=V;have z6:aj SS.P 107 (Go.Ab.room g4 18) (.pointer (some ⟨C.next,q,none⟩))=some (vS kl M.af.length M.af.length):=by rw[cx Dx IA H.out (by rw[tB];exact p),C8 p]
     have U:=p3.ok ((Ok.refl F.ok.wf).room 18);have y1:=U.l3;rw[et]at y1;have x1:=m.val _ O;refine⟨_,dZ _,_,(H.mb r).l0,_,CP nF nq p,_,_,_,z6,_,rF _ _,_,y1,_,VB.ix ty O,_,x9.ld ty (by rw[m.len];exact O),_,GO _ _,_,U.l2,(uB x1 hw.1 H.ok.wf).mono ?_⟩;rintro _ g6 ⟨rfl,o6⟩;have y0:=H.ux o6;have z3:VB g6 kl l:=o6.ext _ _ x9
     cases e6:eO M.kind (l.getD d.t.toNat []) d.w with
     |none=>
      rw[e6]at f;exact⟨_,_,rfl,aa (λ_=>⟨y0.ok,by rw[z0 f.symm]⟩) (λe=>by cases e)⟩
     |some sv=>
      rw[e6]at f;have y3:=y0.room 9;have x8:VB (Go.Ab.room g6 9) kl l:=z3;have y6:aj SS.P 107 (Go.Ab.room g6 9) (.pointer (some ⟨C.next,q,none⟩))=some (vS kl M.af.length M.af.length):=by rw[cx Dx IA y3.out (by rw[tB];exact p),C8 p]
      have y4:=(U.ok (o6.trans ((Ok.refl o6.wf).room 9))).l3;rw[et]at y4;obtain⟨y8,y9⟩:=y3.set w x8 x6 hk (l.set d.t.toNat sv);refine⟨_,_,rfl,aa (λe=>by cases e) (λ_=>⟨_,CP nF nq p,_,_,_,y6,_,rF _ _,_,y4,_,VB.ix ty O,_,x8.st ty (by rw[m.len];exact O) _,?_⟩)⟩;exact jb (s.arcs.length-(j+1)) (by omega) ⟨by omega,rfl,by rw[Bool.true_or];exact i,_,y8,y9,m.set (xM x1 hw.1 e6),f⟩
   ·obtain rfl:j=s.arcs.length:=by have:=dF E;omega
    rw[iH]at f;rw[List.drop_eq_nil_of_le (Nat.le_refl _)]at i;rw[aJ p (by omega)];exact jb (M.af.length-(q+1)) (by omega) ⟨by omega,rfl,by rw[<-i];rfl,_,_,_,J.next y2 m x6 hk,f⟩
  ·rw[sub_zero,<-Y]
   cases bg (eV (aX M.kind) (Bx s).arcs) s.arcs.length 0 (bw (aX M.kind) M.af.length)<;>rfl
 ·obtain rfl:q=M.af.length:=by have:=dF q1;omega
  rw[iH]at Y;have S:=S R Y.symm;rw[List.drop_eq_nil_of_le (Nat.le_refl _),List.any_nil,Bool.or_false]at t;rw[S,<-t];refine aa (λT=>?_) (λT=>?_)
  ·rw[not_eq_true']at T;rw[T];exact⟨k.ok,rfl⟩
  ·rw[not_eq_false']at T;rw[T,if_pos rfl];refine aa (λE=>?_) (λE=>?_)
   ·rw[if_pos (by have:=dT E;omega)];exact⟨k.ok,rfl⟩
   ·have x7:¬60<M.af.length:=by have:=dF E;omega
    rw[if_neg x7];obtain⟨mm,sq⟩:=k.mtx;have rm:=mm.rdM M.af.length;rw[sq.len]at rm;have x4:=Qd k.ok.wf K.kind (by omega) rm sq;rw[if_neg x7]at x4;refine⟨_,dZ _,_,(k.mb r).l0,x4.mono ?_⟩;rintro v g2 ⟨o2,Z⟩
    cases e:jR (aX M.kind) R with
    |none=>
     rw[e]at Z;subst Z;exact⟨_,_,_,_,rfl,k.ok.trans o2,rfl⟩
    |some B=>
     rw[e]at Z;obtain⟨a,c,rfl,z2,rd,sB⟩:=Z
     cases a with
     |none=>exact absurd rfl z2
     |some ps=>exact⟨_,_,_,_,rfl,k.ok.trans o2,ps,c,rfl,rd,sB⟩
end
noncomputable def Sh:FD:=cA Tryz.f42 []
theorem OK(g:Int)(h:ae)(Q:VH)(i:FW SS 70 [(.int .i64 g)] h λe f=>yS e λd=>xA (bh SS.P 29 [(0,(.int .i64 g)),(2,(strOf d))]) λc=>xA (bh SS.P 65 [(0,(.agg ⟨c⟩)),(1,(strOf d))]) λb=>xN (fi SS.P 65 (.agg ⟨b⟩)) f λ_ a=>Q (pA (f.next)) a):FW SS 42 [(.int .i64 g)] h Q:=cN Sh Tryz.func42 (ai i)
noncomputable def Si:FD:=cA Tryz.f43 []
theorem OL(k:Nat)(f:LB)(h:ae)(Q:VH)(u:fP 65 (pA k) 0 λt=>fP 29 (.pointer (some t)) 3 λs=>lL 27 h s λp q r=>xA (bh SS.P 73 [(0,(strOf f))]) λo=>xR (aF SS.P 27 1 [(0,(.agg ⟨o⟩))]) h λ_ l m n=>xE (bF SS.P 27 27 (.slice p q r) (sA (h.next) l m) n) n λg h i _ j=>fP 65 (pA k) 0 λf=>fP 29 (.pointer (some f)) 3 λe=>xU (ah SS.P 27 (.pointer (some e)) (.slice g h i) j) j λ_ d=>fP 65 (pA k) 0 λc=>fP 29 (.pointer (some c)) 3 λb=>lL 27 d b λ_ a _=>Q (.int .i64 (wrap .i64 ((a:Int)-1))) d):FW SS 43 [(pA k),(strOf f)] h Q:=cN Si Tryz.func43 (ai u)
noncomputable def ZX:FD:=cA Tryz.f44 []
theorem Wu(k:Nat)(s:Int)(C:LV)(h:ae)(Q:VH)(F:xN (fi SS.P 70 (.agg ⟨C⟩)) h λ_ B=>fP 65 (pA k) 2 λG=>lI B G λH=>fP 65 (pA k) 2 λE=>xU (ah SS.P 3 (.pointer (some E)) (.int .i64 (wrap .i64 (H+1))) B) B λ_ A=>fP 65 (pA k) 0 λD=>fP 29 (.pointer (some D)) 3 λz=>lL 27 (room A 21) z λw x y=>fP 65 (pA k) 0 λv=>fP 29 (.pointer (some v)) 3 λu=>lL 27 (room A 21) u λq r t=>iP 27 (.slice q r t) (.int .i64 s) λp=>fP 73 (.pointer (some p)) 1 λo=>lL 71 (room A 21) o λl m n=>lA 70 (room A 21) (pA (h.next)) λk=>zR (aF SS.P 71 1 [(0,(.agg ⟨k⟩))]) λh i j=>xE (bF SS.P 71 71 (.slice l m n) (sA (A.next+16) i j) (cd (room A 21) A.next [(16,h)])) (cd (room A 21) A.next [(16,h)]) λd e f _ g=>iP 27 (.slice w x y) (.int .i64 s) λc=>fP 73 (.pointer (some c)) 1 λb=>xU (ah SS.P 71 (.pointer (some b)) (.slice d e f) g) g λ_ a=>(aj SS.P 27 g (.pointer (some z))=some (.slice w x y)/\dC 4 (.slice w x y) (.slice w x y)=true)/\Q (.tuple ⟨[]⟩) a):FW SS 44 [(pA k),(.int .i64 s),(.agg ⟨C⟩)] h Q:=cN ZX Tryz.func44 (ai F)
noncomputable def ZZ:FD:=cA Tryz.f58 []
theorem WB(k:Nat)(s:Int)(w:LB)(t:Int)(h:ae)(Q:VH)(d:xA (bh SS.P 70 [(2,(strOf w)),(3,(.int .i64 t))]) λc=>FW SS 44 [(pA k),(.int .i64 s),(.agg ⟨c⟩)] h λa b=>a=(.tuple ⟨[]⟩)/\Q (.tuple ⟨[]⟩) b):FW SS 58 [(pA k),(.int .i64 s),(strOf w),(.int .i64 t)] h Q:=cN ZZ Tryz.func58 (ai d)
noncomputable def Sj:FD:=cA Tryz.f63 []
theorem ON(k:Nat)(a b:LB)(h:ae)(Q:VH)(l:fP 65 (pA k) 0 λj=>fP 29 (.pointer (some j)) 0 λi=>lI h i λg=>FW SS 86 [(.int .i64 g),(strOf a),(strOf b)] h λe f=>∃d:LB,∃c:Int,e=(.tuple ⟨[(strOf d),(.int .i64 c)]⟩)/\au (((c:Int) !=0)) (fP 65 (pA k) 3 λb=>xU (ah SS.P 30 (.pointer (some b)) (.int .i64 c) f) f λ_ a=>Q (strOf d) a) (Q (strOf d) f)):FW SS 63 [(pA k),(strOf a),(strOf b)] h Q:=cN Sj Tryz.func63 (ai l)
noncomputable def WA:FD:=cA Tryz.f64 []
theorem Se(k:Nat)(t:Int)(h:ae)(Q:VH)(c:xN (fi SS.P 62 (pA k)) h λ_ b=>xN (fi SS.P 3 (.int .i64 t)) b λ_ a=>Q (.func (.func 87) ⟨[]⟩ ⟨[(pA (h.next)),(pA (b.next))]⟩) a):FW SS 64 [(pA k),(.int .i64 t)] h Q:=cN WA Tryz.func64 (ai c)
noncomputable def Sd:FD:=cA Tryz.f87 []
theorem OH(s:Int)(f:LB)(q r:Nat)(h:ae)(Q:VH)(t:xO (aj SS.P 62 h (pA q)) λp=>HZ SS.P p h λn o=>fP 65 n 0 λm=>fP 29 (.pointer (some m)) 3 λl=>lL 27 o l λi j k=>iP 27 (.slice i j k) (.int .i64 s) λh=>fP 73 (.pointer (some h)) 0 λg=>xU (ah SS.P 9 (.pointer (some g)) (strOf []) o) o λ_ e=>xO (aj SS.P 62 e (pA q)) λd=>xI .i64 (aj SS.P 3 e (pA r)) λc=>FW SS 58 [(.pointer d),(.int .i64 s),(strOf f),(.int .i64 c)] e λa b=>a=(.tuple ⟨[]⟩)/\Q (.tuple ⟨[]⟩) b):FW SS 87 [(.int .i64 s),(strOf f),(pA q),(pA r)] h Q:=cN Sd Tryz.func87 (ai t)
noncomputable def Wx:FD:=cA Tryz.f60 []
theorem Sa(s:Int)(f:LB)(h:ae)(Q:VH)(a:Q (.tuple ⟨[]⟩) h):FW SS 60 [(.int .i64 s),(strOf f)] h Q:=cN Wx Tryz.func60 (ai a)
noncomputable def Ww:FD:=cA Tryz.f46 []
theorem R8(k:Nat)(h:ae)(Q:VH)(n:xN (bq SS.P 29) h λ_ m=>fP 65 (pA k) 3 λl=>xI .i64 (aj SS.P 30 m (.pointer (some l))) λj=>au (((j:Int) !=0)) (xA (bh SS.P 29 []) λb=>xU (ah SS.P 29 (pA (h.next)) (.agg ⟨b⟩) m) m λ_ a=>dY SS [((pA (h.next)),some 29),((.int .i64 2),none)] a Q) (fP 65 (pA k) 0 λi=>fP 29 (.pointer (some i)) 3 λg=>lL 27 m g λ_ f _=>au (decide (((f:Int):Int)>3000)) (xA (bh SS.P 29 []) λb=>xU (ah SS.P 29 (pA (h.next)) (.agg ⟨b⟩) m) m λ_ a=>dY SS [((pA (h.next)),some 29),((.int .i64 2),none)] a Q) (fP 65 (pA k) 2 λe=>lI m e λd=>au (decide ((d:Int)>30000)) (xA (bh SS.P 29 []) λb=>xU (ah SS.P 29 (pA (h.next)) (.agg ⟨b⟩) m) m λ_ a=>dY SS [((pA (h.next)),some 29),((.int .i64 2),none)] a Q) (fP 65 (pA k) 0 λc=>lA 29 m (.pointer (some c)) λb=>xU (ah SS.P 29 (pA (h.next)) (.agg ⟨b⟩) m) m λ_ a=>dY SS [((pA (h.next)),some 29),((.int .i64 0),none)] a Q)))):FW SS 46 [(pA k)] h Q:=cN Ww Tryz.func46 (ai n)
noncomputable def Z0:FD:=cA Tryz.f51 []
theorem WD(s:Int)(h:ae)(Q:VH)(a:au (decide ((s:Int)>=1)) (Q (.bool (decide ((s:Int)<=500))) h) (Q (.bool false) h)):FW SS 51 [(.int .i64 s)] h Q:=cN Z0 Tryz.func51 (ai a)
noncomputable def abP:FD:=cA Tryz.f45 []
theorem ZY(d:OA)(c e:Nat)(i:Nat)(h:ae)(Q:VH)(f:au (decide (((i:Int):Int)<(c:Int))) (iP 22 (.slice d c e) (iA i) λb=>lI h b λa=>Q (.int .i64 a) h) (Q (.int .i64 0) h)):FW SS 45 [(.slice d c e),(iA i)] h Q:=cN abP Tryz.func45 (ai f)
noncomputable def Sk:FD:=cA Tryz.f68 []
theorem OQ(s:Int)(h:ae)(Q:VH)(d:FW SS 51 [(.int .i64 s)] h λb c=>yB b λa=>Q (.bool (!a)) c):FW SS 68 [(.int .i64 s)] h Q:=cN Sk Tryz.func68 (ai d)
noncomputable def Wy:FD:=cA Tryz.f50 []
theorem Sb(s:Int)(h:ae)(Q:VH)(d:FW SS 51 [(.int .i64 s)] h λb c=>yB b λa=>Q (.bool (!a)) c):FW SS 50 [(.int .i64 s)] h Q:=cN Wy Tryz.func50 (ai d)
noncomputable def rJ:FD:=cA Tryz.f79 [([1,0,1,0,0],[0,1,7,8])]
abbrev mX(b:OA)(a c:Nat)(i:Nat):LV:=[(.slice b a c),(.func (.func 68) ⟨[]⟩ ⟨[]⟩),(iA a),(iA i)]
theorem Tc(a:OA)(c b:Nat)(h:ae)(Q:VH)(d:LL SS rJ [1,0,1,0,0] (mX a c b 0) h (KK SS rJ [1,0,1,0] [] (EE SS rJ Q))):FW SS 79 [(.slice a c b),(.func (.func 68) ⟨[]⟩ ⟨[]⟩)] h Q:=cN rJ Tryz.func79 (ai d)
theorem zA(k:OA)(g l:Nat)  (j:Nat->Nat->ae->Prop) (Q:VH) (step:∀(f:Nat)(i:Nat)(n:Nat->Value)(h:ae),j f i h->au (decide (((i:Int):Int)<(g:Int))) (iP 22 (.slice k g l) (iA i) λe=>lI h e λd=>FW SS 68 [(.int .i64 d)] h λb c=>yB b λa=>au a (Q (iA i) c) (aB (eR (mX k g l) j) f [(.slice k g l),(.func (.func 68) ⟨[]⟩ ⟨[]⟩),(iA g),(.int .i64 (wrap .i64 ((i:Int)+1)))] c)) (Q (.int .i64 (-1)) h)) (f:Nat) {i:Nat} {h:ae} (m:j f i h):LL SS rJ [1,0,1,0,0] (mX k g l i) h (KK SS rJ [1,0,1,0] [] (EE SS rJ Q)):=
 cY (mX k g l) j (λf i n h m=>ai (step f i n h m)) f m
noncomputable def SE:FD:=cA Tryz.f49 []
theorem O2(d:OA)(f e:Nat)(h:ae)(Q:VH)(g:FW SS 79 [(.slice d f e),(.func (.func 68) ⟨[]⟩ ⟨[]⟩)] h λb c=>yI .i64 b λa=>Q (.bool (decide ((a:Int)>=0))) c):FW SS 49 [(.slice d f e),(.func (.func 68) ⟨[]⟩ ⟨[]⟩)] h Q:=cN SE Tryz.func49 (ai g)
noncomputable def rI:FD:=cA Tryz.f79 [([1,0,1,0,0],[0,1,7,8])]
abbrev mW(b:OA)(a c:Nat)(i:Nat):LV:=[(.slice b a c),(.func (.func 50) ⟨[]⟩ ⟨[]⟩),(iA a),(iA i)]
theorem Tb(a:OA)(c b:Nat)(h:ae)(Q:VH)(d:LL SS rI [1,0,1,0,0] (mW a c b 0) h (KK SS rI [1,0,1,0] [] (EE SS rI Q))):FW SS 79 [(.slice a c b),(.func (.func 50) ⟨[]⟩ ⟨[]⟩)] h Q:=cN rI Tryz.func79 (ai d)
theorem zy(k:OA)(g l:Nat)  (j:Nat->Nat->ae->Prop) (Q:VH) (step:∀(f:Nat)(i:Nat)(n:Nat->Value)(h:ae),j f i h->au (decide (((i:Int):Int)<(g:Int))) (iP 22 (.slice k g l) (iA i) λe=>lI h e λd=>FW SS 50 [(.int .i64 d)] h λb c=>yB b λa=>au a (Q (iA i) c) (aB (eR (mW k g l) j) f [(.slice k g l),(.func (.func 50) ⟨[]⟩ ⟨[]⟩),(iA g),(.int .i64 (wrap .i64 ((i:Int)+1)))] c)) (Q (.int .i64 (-1)) h)) (f:Nat) {i:Nat} {h:ae} (m:j f i h):LL SS rI [1,0,1,0,0] (mW k g l i) h (KK SS rI [1,0,1,0] [] (EE SS rI Q)):=
 cY (mW k g l) j (λf i n h m=>ai (step f i n h m)) f m
noncomputable def SD:FD:=cA Tryz.f49 []
theorem O1(d:OA)(f e:Nat)(h:ae)(Q:VH)(g:FW SS 79 [(.slice d f e),(.func (.func 50) ⟨[]⟩ ⟨[]⟩)] h λb c=>yI .i64 b λa=>Q (.bool (decide ((a:Int)>=0))) c):FW SS 49 [(.slice d f e),(.func (.func 50) ⟨[]⟩ ⟨[]⟩)] h Q:=cN SD Tryz.func49 (ai g)
noncomputable def Sl:FD:=cA Tryz.f40 []
theorem OS(e:OA)(d f:Nat)(h:ae)(Q:VH)(g:au (decide (((d:Int):Int)<=200)) (FW SS 49 [(.slice e d f),(.func (.func 68) ⟨[]⟩ ⟨[]⟩)] h λb c=>yB b λa=>Q (.bool (!a)) c) (Q (.bool false) h)):FW SS 40 [(.slice e d f)] h Q:=cN Sl Tryz.func40 (ai g)
noncomputable def Z1:FD:=cA Tryz.f57 []
theorem WE(q p:LV)(h:ae)(Q:VH)(r:xN (fi SS.P 29 (.agg ⟨q⟩)) h λ_ o=>xN (fi SS.P 29 (.agg ⟨p⟩)) o λ_ n=>lA 29 n (pA (h.next)) λm=>FW SS 66 [(.agg ⟨m⟩)] n λk l=>yB k λj=>au (!j) (Q (.int .i64 1) l) (lA 29 l (pA (o.next)) λi=>FW SS 66 [(.agg ⟨i⟩)] l λf g=>yB f λe=>au (!e) (Q (.int .i64 1) g) (fP 29 (pA (h.next)) 0 λd=>lI g d λc=>fP 29 (pA (o.next)) 0 λb=>lI g b λa=>au (((c:Int) !=a)) (Q (.int .i64 6) g) (Q (.int .i64 0) g)))):FW SS 57 [(.agg ⟨q⟩),(.agg ⟨p⟩)] h Q:=cN Z1 Tryz.func57 (ai r)
variable{h:ae}{T:TypeId}{v:Value}{L:List (List Value)}
section
theorem nW{f:ae}(o:fh f h T n v L){k:Nat}(a:eX v=some k):∃cs,h.get k=some (.cells cs T n true):=by
 obtain⟨_,⟨b,_⟩|⟨d,g,cs,c,b,i,e,_⟩⟩:=o
 ·rw[b]at a;cases a
 ·rw[b]at a;obtain rfl:d=k:=oI a;exact⟨cs,e⟩
theorem kj.other{hb g:ae}{r:List (dW×Value)}(m:kj hb g v r){k:Nat}{cs:List Value}{e z:Nat}{w:Bool}(y:g.get k=some (.cells cs e z w))(t:¬(e=73/\z=2))(u:¬(e=70/\z=4))(B:dP):kj hb (g.set k B) v r:=by
 have d:∀{b a:Nat}{j:Value}{f:List (List Value)},fh hb g b a j f->¬(e=b/\z=a)->fh hb (g.set k B) b a j f:=λ{b a j f} o q=>o.kI λD E l n=>by
  rw[ae.aw,if_neg ?_]
  ·exact n
  ·intro c;obtain⟨C,h⟩:=nW o l;rw[c,y]at h;injection h with h
   injection h with _ s x
   exact q ⟨s,x⟩
 exact⟨d m.row t,λi p A=>d (m.arcs i p A) u,m.ne,m.Zd⟩
def Kp(g a:ae):Prop:=g.next<=a.next/\∀(j:Nat)(cs:List Value)(e z:Nat)(w:Bool),g.get j=some (.cells cs e z w)->¬(e=65/\z=0)->¬(e=73/\z=2)->¬(e=70/\z=4)->a.get j=some (.cells cs e z w)
theorem Kp.refl(g:ae):Kp g g:=⟨Nat.le_refl _,λ_ _ _ _ _ h _ _ _=>h⟩
theorem Kp.trans{g c d:ae}(a:Kp g c)(b:Kp c d):Kp g d:=⟨Nat.le_trans a.1 b.1,λj cs e z w h i k f=>b.2 j cs e z w (a.2 j cs e z w h i k f) i k f⟩
theorem L9{g a:ae}(o:Ok g a):Kp g a:=⟨o.nx,λj cs e z w h _ _ _=>o.ext _ _ h⟩
def Nc(kind start:Int)(lead:List UInt8)(a:Option Addr)(n c:Nat)(na:Nat):List Value:=[.int .i64 kind,.int .i64 start,strOf lead,.slice a n c,strOf (dc kind),.int .i64 (na:Int),.int .i64 0]
structure BU(hb g:ae)(k:Nat)(kind start:Int)(lead:List UInt8)(bE:List dW)(na:Nat):Prop where
 ex:∃(a:Option Addr)(n c:Nat)(ps:List (dW×Value)),g.get k=some (.cells (Nc kind start lead a n c na) 65 0 true)/\ps.map (·.1)=bE/\kj hb g (.slice a n c) ps
 ok:Ok hb g
 nk:hb.next<=k
theorem Yx(k o n c:Nat):dC 4 (.slice (some ⟨k,o,none⟩) n c) (.slice (some ⟨k,o,none⟩) n c)=true:=by simp[dC]
theorem kn(k:Nat):aW SS.P 65 (pA k) 0=some (.pointer (some ⟨k,0,none⟩)):=by kernel_rfl
theorem zw(k:Nat):aW SS.P 65 (pA k) 1=some (.pointer (some ⟨k,4,none⟩)):=by kernel_rfl
theorem Lw(k:Nat):aW SS.P 65 (pA k) 2=some (.pointer (some ⟨k,5,none⟩)):=by kernel_rfl
theorem aae(k:Nat):aW SS.P 65 (pA k) 3=some (.pointer (some ⟨k,6,none⟩)):=by kernel_rfl
theorem adp(f:List UInt8):bh SS.P 73 [(0,strOf f)]=some (.agg ⟨[strOf f,nA]⟩):=by kernel_rfl
theorem aeb:aE SS.P 27=some 1:=by kernel_rfl
theorem zs3:aE SS.P 3=some 1:=by kernel_rfl
theorem fw(kind start:Int)(lead:List UInt8)(a:Option Addr)(n c na:Nat):(Nc kind start lead a n c na).length=7:=rfl
theorem Ai(n:Nat)(a:n<=1000000000):wrap .i64 (((n+1:Nat):Int)-1)=((n:Nat):Int):=by rw[aD (by omega) (by omega)];omega
section
variable {hb g:ae} {k:Nat} {kind start:Int} {lead:List UInt8} {bE:List dW} {na:Nat}
theorem BU.ux(b:BU hb g k kind start lead bE na)(o:Ok g h):BU hb h k kind start lead bE na:=by
 obtain⟨a,n,c,i,e,f,d⟩:=b.ex;exact⟨⟨a,n,c,i,o.ext _ _ e,f,d.ok o⟩,b.ok.trans o,b.nk⟩
theorem OM(w:Wf hb)(b:BU hb g k kind start lead bE na)(hl:bE.length<=100000)(f:List UInt8):FW SS 43 [pA k,strOf f] g (λv I=>v = .int .i64 (bE.length:Nat)/\BU hb I k kind start lead (bE++[⟨f,[]⟩]) na/\Kp g I):=by
 obtain⟨a,n,c,T,N,t,W⟩:=b.ex;have D:T.length=bE.length:=by rw[<-t,lM]
 have r:=(Ok.refl b.ok.wf).push (.cells [strOf f,.slice none 0 0] 73 2 true);have J:=b.ok.push (.cells [strOf f,.slice none 0 0] 73 2 true);have y:=r.ext _ _ N;have q:=W.ok r;obtain⟨m,d,o,u,R,s,x,B,X,Y⟩:=q.snoc w J (f:=f) (arcs:=[]) (fh.nil hb _ 70 4) (λk' e=>by cases e) (aI g _) (by omega);have M:eX (.slice a n c)≠some k:=λe=>by
  obtain⟨cs,h⟩:=nW q.row e;rw[y]at h;injection h with h
  injection h with _ h
  exact absurd h (by decide)
 have p:=B _ _ y M;generalize L:u.app (g.push (.cells [strOf f,.slice none 0 0] 73 2 true))=F at*;have O:=s.other p (by omega) (by omega) (.cells (Nc kind start lead m d o na) 65 0 true);have C:(F.set k (.cells (Nc kind start lead m d o na) 65 0 true)).get k=some (.cells (Nc kind start lead m d o na) 65 0 true):=by rw[ae.aw,if_pos rfl]
 have K:d=bE.length+1:=by
  have:=s.st.len;rw[lM,length_append,D]at this;exact this
 have S:=iX aeb p (i:=3) (by simp[fw]) (v:= .slice m d o) (Dt _ _ _) (by cases m<;>rfl);have V:=cx zN Eh C (i:=3) (by simp[fw]);refine OL k f g _ ⟨_,kn k,_,cI k,a,n,c,cx zN Eh N (i:=3) (by simp[fw]),_,adp f,_,_,_,adj f none 0 0,m,d,o,u,R,?_⟩;rw[L];refine⟨_,kn k,_,cI k,_,S,_,kn k,_,cI k,m,d,o,V,?_,⟨⟨m,d,o,_,C,?_,O⟩,x.set _ b.nk (x.wf _ _ p) w,b.nk⟩,?_⟩
 ·rw[K,Ai _ (by omega)]
 ·rw[map_append,t];rfl
 ·refine⟨by show g.next<=F.next;have:g.next<=(g.push (.cells [strOf f,.slice none 0 0] 73 2 true)).next:=r.nx;omega,λj cs e z w' U P Q h3=>?_⟩;have A:=r.ext _ _ U;have l:=B _ _ A (λE=>by
   obtain⟨Z,h⟩:=nW q.row E;rw[A]at h;injection h with h
   injection h with _ G H
   exact Q ⟨G,H⟩)
  show(F.set k _).get j=_;rw[ae.aw,if_neg (λE=>by
   rw[E,p]at l;injection l with l
   injection l with _ G H
   exact P ⟨G.symm,H.symm⟩)]
  exact l
theorem ads(q:hO):fi SS.P 70 (.agg ⟨gC q⟩)=some (.cells (gC q) 70 0 true,lK):=by kernel_rfl
theorem KM(n:Nat)(a:n<=1000000000):wrap .i64 ((n:Int)+1)=((n+1:Nat):Int):=by rw[aD (by omega) (by omega)];omega
theorem Wv(w:Wf hb)(b:BU hb g k kind start lead bE na){s:Nat}{t:dW}(hs:bE[s]?=some t)(ha:t.arcs.length<=100000)(z6:na<=1000000)(q:hO):FW SS 44 [pA k,iA s,.agg ⟨gC q⟩] g (λv g'=>v = .tuple ⟨[]⟩/\BU hb g' k kind start lead (bE.set s ⟨t.f,t.arcs++[q]⟩) (na+1)/\Kp g g'):=by
 obtain⟨a,n,c,l,hk,T,om⟩:=b.ex;obtain⟨p,H,rfl⟩:∃p,l[s]?=some p/\p.1=t:=by
  rw[<-T,getElem?_map]at hs;exact map_eq_some_iff.1 hs
 have x3:0<(l.map AN).length:=by have:=(List.getElem?_eq_some_iff.1 H).1;rw[lM];omega
 obtain⟨f,d,cr,Y,z7⟩:=om.row.blk x3;injection Y with Y en ec
 subst Y en ec;have o1:=(Ok.refl b.ok.wf).push (.cells (gC q) 70 0 true);have P:=b.ok.push (.cells (gC q) 70 0 true);have m:=o1.ext _ _ hk;have y1:=om.ok o1;have x7:=aI g (.cells (gC q) 70 0 true);have z5:=b.ok.wf _ _ hk;generalize W:g.push (.cells (gC q) 70 0 true)=o at*;have y0:=cx HO GD m (i:=5) (by simp[fw]);have y5:=iX zs3 m (i:=5) (by simp[fw]) (v:= .int .i64 ((na+1:Nat):Int)) rfl rfl;have R:=y1.other m (by omega) (by omega) (.cells (Nc kind start lead (some ⟨f,d,none⟩) (l.map AN).length c (na+1)) 65 0 true);have u:=P.set (.cells (Nc kind start lead (some ⟨f,d,none⟩) (l.map AN).length c (na+1)) 65 0 true) b.nk (P.wf _ _ m) w;have O:(o.set k (.cells (Nc kind start lead (some ⟨f,d,none⟩) (l.map AN).length c (na+1)) 65 0 true)).get k=some (.cells (Nc kind start lead (some ⟨f,d,none⟩) (l.map AN).length c (na+1)) 65 0 true):=by rw[ae.aw,if_pos rfl]
 have z2:(o.set k (.cells (Nc kind start lead (some ⟨f,d,none⟩) (l.map AN).length c (na+1)) 65 0 true)).get g.next=some (.cells (gC q) 70 0 true):=by rw[ae.aw,if_neg (by omega)];exact x7
 refine Wu k s (gC q) g _ ⟨_,ads q,?_⟩;rw[W];refine⟨_,Lw k,_,y0,_,Lw k,?_⟩;rw[KM na (by omega)];refine⟨_,y5,?_⟩;have z8:(o.set k (.cells (Nc kind start lead (some ⟨f,d,none⟩) (l.map AN).length c (na+1)) 65 0 true)).next=o.next:=rfl;have z1:∀j cs e z L,g.get j=some (.cells cs e z L)->¬(e=65/\z=0)->(o.set k (.cells (Nc kind start lead (some ⟨f,d,none⟩) (l.map AN).length c (na+1)) 65 0 true)).get j=some (.cells cs e z L):=λj cs e z L I h1=>by
  have r:=o1.ext _ _ I;rw[ae.aw,if_neg (λA=>by
   rw[A,m]at r;injection r with r
   injection r with _ F J
   exact h1 ⟨F.symm,J.symm⟩)]
  exact r
 have z9:g.next<o.next:=by rw[<-W];exact lt_succ_self _
 generalize x6:o.set k (.cells (Nc kind start lead (some ⟨f,d,none⟩) (l.map AN).length c (na+1)) 65 0 true)=g2 at*;have e2:(dL.set k (.cells ((Nc kind start lead (some ⟨f,d,none⟩) (l.map AN).length c na).set 5 (.int .i64 ((na+1:Nat):Int))) 65 0 true)).app o=g2:=x6;rw[e2];obtain⟨E,y6⟩:=Yj u.wf (n:=21) (j:=16) (by omega) (Ok.refl (u.room 21).wf) (.cells (gC q) 70 4 true);have or:=(Ok.refl u.wf).room 21;have x5:=R.ok or;obtain⟨i1,i2,i3⟩:=x5.at_ H;obtain⟨Z,xn,xc,M⟩:∃(Z:Option Addr)(xn xc:Nat),p.2 = .slice Z xn xc:=by
  obtain⟨x1,x2,e⟩:=(om.arcs s p H).Yl;exact⟨x1,_,x2,e⟩
 rw[M]at i2;have z0:=or.ext _ _ z2;have Q:=or.ext _ _ O;have x:=R.ok E;have V:=u.trans E;have y:=x.arcs s p H;rw[M]at y;obtain⟨b4,n4,c4,u4,y2,x9,y8,C,y9,z4⟩:=RY w V y (q:=q) y6 ha;have K:=E.ext _ _ O;have X:eX (.slice Z xn xc)≠some k:=λe=>by
  obtain⟨D,h⟩:=nW y e;rw[K]at h;injection h with h
  injection h with _ h
  exact absurd h (by decide)
 have N:=C _ _ K X;obtain⟨u5,x0,y4,y7,S,x8⟩:=x.adV w y8 H (λj B I U=>C _ _ I (by rw[M]at U;exact U)) x9 (λj e=>by rw[M];exact y9 j e) V.wf;have x4:f≠k:=λe=>by
  obtain⟨D,h⟩:=nW x.row (k:=f) rfl;rw[e,K]at h;injection h with h
  injection h with _ h
  exact absurd h (by decide)
 have y3:aj SS.P 70 (Go.Ab.room g2 21) (pA g.next)=some (.agg ⟨gC q⟩):=by
  rw[pN aaV ZL Oa z0 (by simp[ID]),drop_zero,take_of_length_le (by simp[ID])]
 refine⟨_,kn k,_,cI k,_,_,_,cx zN Eh Q (i:=3) (by simp[fw]),_,kn k,_,cI k,_,_,_,cx zN Eh Q (i:=3) (by simp[fw]),_,i1,_,fY _ _,_,_,_,i2,_,y3,_,_,_,adk q,b4,n4,c4,u4,y2,_,i1,_,fY _ _,u5,x0,⟨cx zN Eh N (i:=3) (by simp[fw]),Yx _ _ _ _⟩,rfl,⟨⟨_,_,_,_,S _ _ N x4,?_,y4⟩,y7,b.nk⟩,?_⟩
 ·rw[<-T,map_set]
 ·refine⟨by rw[x8];have:=E.nx;omega,λj cs e z L I h1 h2 h3=>?_⟩;have G:=E.ext _ _ (z1 _ _ _ _ _ I h1);have z3:=C _ _ G (λA=>by
   obtain⟨D,h⟩:=nW y A;rw[G]at h;injection h with h
   injection h with _ F J
   exact h3 ⟨F,J⟩)
  refine S _ _ z3 (λA=>?_);obtain⟨D,h⟩:=nW x.row (k:=f) rfl;rw[A,G]at h;injection h with h
  injection h with _ F J
  exact h2 ⟨F,J⟩
end
end
variable{A:Type}{c:List Value}
section
theorem GU(l:List A)(a:A)(r:List A){n:Nat}(h:l.length=n):(l++a::r)[n]?=some a:=by
 subst h;rw[List.getElem?_append_right (Nat.le_refl _),Nat.sub_self];rfl
theorem uG(l:List A)(a b:A)(r:List A){n:Nat}(h:l.length=n):(l++a::r).set n b=l++b::r:=by
 subst h;rw[List.set_append_right _ _ (Nat.le_refl _),Nat.sub_self];rfl
theorem DB{l:List A}{a:A}(h:l[i]?=some a):l=l.take i++a::l.drop (i+1)/\(l.take i).length=i:=by
 have b:=(List.getElem?_eq_some_iff.1 h).1;have e:l[i]=a:=by rw[gE b]at h;exact oI h
 refine⟨?_,by rw[length_take];omega⟩;rw[<-e,<-List.drop_eq_getElem_cons b,List.take_append_drop]
theorem ey(l r:List dW):df (l++r)=df l+df r:=by unfold df;rw[map_append,List.sum_append]
theorem Kv{l:List dW}{s:dW}(h:l[i]?=some s):s.arcs.length<=df l:=by
 obtain⟨e,_⟩:=DB h;rw[e,ey,dt];omega
theorem DD{l:List dW}{s t:dW}(h:l[i]?=some s):df (l.set i t)+s.arcs.length=df l+t.arcs.length:=by
 obtain⟨e,a⟩:=DB h
 conv=>rhs;rw[e]
 conv=>lhs;rw[e]
 rw[uG _ _ _ _ a,ey,dt,ey,dt];omega
abbrev BS(hb g:ae)(k:Nat)(kind start:Int)(lead:List UInt8)(bE:List dW):Prop:=BU hb g k kind start lead bE (df bE)
section
variable {hb g:ae} {k:Nat} {kind start:Int} {lead:List UInt8} {bE:List dW}
theorem iu(w:Wf hb)(b:BS hb g k kind start lead bE)(d:bE.length<=100000)(f:List UInt8):FW SS 43 [pA k,strOf f] g (λv a=>v = .int .i64 (bE.length:Nat)/\BS hb a k kind start lead (bE++[⟨f,[]⟩])/\Kp g a):=by
 refine(OM w b d f).mono ?_;rintro v a ⟨e,h,c⟩;refine⟨e,?_,c⟩;unfold BS;rw[ey];exact h
theorem wX(w:Wf hb)(b:BS hb g k kind start lead bE){s:Nat}{t:dW}(c:bE[s]?=some t)(j:df bE<=100000)(q:hO):FW SS 44 [pA k,iA s,.agg ⟨gC q⟩] g (λv a=>v = .tuple ⟨[]⟩/\BS hb a k kind start lead (bE.set s ⟨t.f,t.arcs++[q]⟩)/\Kp g a):=by
 have:=Kv c;refine(Wv w b c (by omega) (by omega) q).mono ?_;rintro v a ⟨f,i,d⟩;refine⟨f,?_,d⟩;have e:=DD c (t:=⟨t.f,t.arcs++[q]⟩);have l:(t.arcs++[q]).length=t.arcs.length+1:=by simp
 have h:df (bE.set s ⟨t.f,t.arcs++[q]⟩)=df bE+1:=by
  have:df (bE.set s ⟨t.f,t.arcs++[q]⟩)+t.arcs.length=df bE+(t.arcs++[q]).length:=e;omega
 unfold BS;rw[h];exact i
theorem ado(w:List UInt8)(t:Int):bh SS.P 70 [(2,strOf w),(3,.int .i64 t)]=some (.agg ⟨gC ⟨0,0,w,t⟩⟩):=by kernel_rfl
theorem Bq(w:Wf hb)(b:BS hb g k kind start lead bE){s:Nat}{t:dW}(e:bE[s]?=some t)(d:df bE<=100000)(x:List UInt8)(a:Int):FW SS 58 [pA k,iA s,strOf x,.int .i64 a] g (λv c=>v = .tuple ⟨[]⟩/\BS hb c k kind start lead (bE.set s ⟨t.f,t.arcs++[⟨0,0,x,a⟩]⟩)/\Kp g c):=by
 refine WB k s x a g _ ⟨_,ado x a,(wX w b e d ⟨0,0,x,a⟩).mono ?_⟩;rintro _ c ⟨rfl,f⟩;exact⟨rfl,rfl,f⟩
theorem abX(kind:Int)(l:List UInt8):bh SS.P 29 [(0,.int .i64 kind),(2,strOf l)]=some (.agg ⟨[.int .i64 kind,.int .i64 0,strOf l,nA]⟩):=by kernel_rfl
theorem adn(kind:Int)(l a:List UInt8):bh SS.P 65 [(0,.agg ⟨[.int .i64 kind,.int .i64 0,strOf l,nA]⟩),(1,strOf a)]=some (.agg ⟨[.int .i64 kind,.int .i64 0,strOf l,nA,strOf a,.int .i64 0,.int .i64 0]⟩):=by kernel_rfl
theorem adr(kind:Int)(l a:List UInt8):fi SS.P 65 (.agg ⟨[.int .i64 kind,.int .i64 0,strOf l,nA,strOf a,.int .i64 0,.int .i64 0]⟩)=some (.cells [.int .i64 kind,.int .i64 0,strOf l,nA,strOf a,.int .i64 0,.int .i64 0] 65 0 true,lK):=by kernel_rfl
theorem mw(kind:Int)(w:Wf g):FW SS 42 [.int .i64 kind] g (λv b=>∃k,v=pA k/\BS g b k kind 0 (dc kind) []):=by
 refine OK kind g _ ((Yf kind w).mono ?_);rintro _ d ⟨rfl,a⟩;have c:=a.push (.cells [.int .i64 kind,.int .i64 0,strOf (dc kind),nA,strOf (dc kind),.int .i64 0,.int .i64 0] 65 0 true);exact⟨_,rfl,_,abX _ _,_,adn _ _ _,_,adr _ _ _,_,rfl,⟨none,0,0,[],aI d _,rfl,kj.nil _ _⟩,c,a.nx⟩
theorem E6{a b c:List UInt8}(w:Wf hb)(o:nO hb)(d:BS hb g k kind start lead bE)(l:aM kind a=true)(f:aM kind b=true)(p:dh kind a b=some c):FW SS 63 [pA k,strOf a,strOf b] g (λv h=>v=strOf c/\Ok g h):=by
 obtain⟨q,n,cc,r,m,_⟩:=d.ex;refine ON k a b g _ ⟨_,kn k,_,dZ k,_,cx HO GD m (i:=0) (by simp[fw]),(Kk l f p (o.ok d.ok) d.ok.wf).mono ?_⟩;rintro _ s ⟨rfl,j⟩;exact⟨_,_,rfl,aa (λe=>by cases e) (λ_=>⟨rfl,j⟩)⟩
theorem adq(k:Nat):fi SS.P 62 (pA k)=some (.cells [pA k] 62 0 true,lK):=by kernel_rfl
theorem bx3(t:Int):fi SS.P 3 (.int .i64 t)=some (.cells [.int .i64 t] 3 0 true,lK):=by kernel_rfl
noncomputable def acP:TypeDesc:=(SS.P.underlying 62).getD .bool
theorem acO:SS.P.underlying 62=some acP:=by kernel_rfl
theorem abi:Go.Ab.isAgg SS.P 62=false:=by kernel_rfl
def mi(k:Nat)(d:Option Int)(f:Nat)(e b:List Value)(g:ae):Prop:=e=[]/\match d with
 |none=>f=60/\b=[]
 |some t=>f=87/\∃a c,b=[pA a,pA c]/\g.get a=some (.cells [pA k] 62 0 true)/\g.get c=some (.cells [.int .i64 t] 3 0 true)
theorem mi.kp{k:Nat}{a:Option Int}{g b:ae}(l:mi k a n c d g)(h:Kp g b):mi k a n c d b:=by
 obtain⟨j,e⟩:=l;refine⟨j,?_⟩
 cases a with
 |none=>exact e
 |some t=>
  obtain⟨i,f,p,m,q,o⟩:=e;exact⟨i,f,p,m,h.2 _ _ _ _ _ q (by decide) (by decide) (by decide),h.2 _ _ _ _ _ o (by decide) (by decide) (by decide)⟩
theorem mi.blt{k:Nat}{a:Option Int}{g:ae}(l:mi k a n c d g):Nat.blt n YB=true:=by
 obtain⟨_,b⟩:=l
 cases a with
 |none=>rw[b.1];decide +kernel
 |some t=>rw[b.1];decide +kernel
theorem Cn(w:Wf g)(t:Int):FW SS 64 [pA k,.int .i64 t] g (λv a=>∃c,v = .func (.func 87) ⟨[]⟩ ⟨c⟩/\mi k (some t) 87 [] c a/\Ok g a):=by
 have b:=(Ok.refl w).push (.cells [pA k] 62 0 true);have d:=(Ok.refl b.wf).push (.cells [.int .i64 t] 3 0 true);exact Se k t g _ ⟨_,adq k,_,bx3 t,_,rfl,⟨rfl,rfl,_,_,rfl,d.ext _ _ (aI g _),aI _ _⟩,b.trans d⟩
def CU(a:Option Int)(t:dW):dW:=match a with
 |none=>t
 |some b=>⟨[],t.arcs++[⟨0,0,t.f,b⟩]⟩
theorem Tp{y:Option Int}{P:List Value}(w:Wf hb)(b:BS hb g k kind start lead bE)(l:mi k y n d P g){s:Nat}{t:dW}(m:bE[s]?=some t)(x3:df bE<=100000):
  FW SS n (d++[iA s,strOf t.f]++P) g (λv x=>v = .tuple ⟨[]⟩/\BS hb x k kind start lead (bE.set s (CU y t))/\Kp g x):=by
 obtain⟨rfl,l⟩:=l
 cases y with
 | none=>
  obtain⟨rfl,rfl⟩:=l;refine Sa s t.f g _ ⟨rfl,?_,Kp.refl g⟩;have e:bE.set s (CU none t)=bE:=by
   obtain⟨H,E⟩:=DB m
   conv=>lhs;rw[H]
   rw[uG _ _ _ _ E];exact H.symm
  rw[e];exact b
 | some to=>
  obtain⟨rfl,W,k3,rfl,B,K⟩:=l;obtain⟨a,x7,c,R,C,q,o⟩:=b.ex;obtain⟨p,F,rfl⟩:∃p,R[s]?=some p/\p.1=t:=by
   rw[<-q,getElem?_map]at m;exact map_eq_some_iff.1 m
  have A:0<(R.map AN).length:=by have:=(List.getElem?_eq_some_iff.1 F).1;rw[lM];omega
  obtain⟨N,x4,cr,r,x5⟩:=o.row.blk A;injection r with r X Y
  subst r X Y;obtain⟨U,_,_⟩:=o.at_ F;obtain⟨u,st,J,Q,h,L⟩:=o.acA w b.ok F [];have f:∃cs,g.get N=some (.cells cs 73 2 true):=nW o.row (k:=N) rfl;obtain⟨x6,f⟩:=f;have G:=h _ _ C (λe=>km f C (by decide) e);have E:=h _ _ B (λe=>km f B (by decide) e);have e3:=h _ _ K (λe=>km f K (by decide) e);have b2:BS hb (u.app g) k kind start lead (bE.set s ⟨[],p.1.arcs⟩):=by
   refine⟨⟨_,_,_,_,?_,by rw[map_set,q],J⟩,Q,b.nk⟩;have e:=DD m (t:=⟨[],p.1.arcs⟩);have V:df (bE.set s ⟨[],p.1.arcs⟩)=df bE:=by
    have:df (bE.set s ⟨[],p.1.arcs⟩)+p.1.arcs.length=df bE+p.1.arcs.length:=e;omega
   rw[V];exact G
  have S:(bE.set s ⟨[],p.1.arcs⟩)[s]?=some (⟨[],p.1.arcs⟩:dW):=by
   have x0:=(List.getElem?_eq_some_iff.1 m).1;rw[List.getElem?_set_self (by omega)]
  have M:Kp g (u.app g):=⟨Nat.le_of_eq L.symm,λj cs e z w' T _ Z _=>h _ _ T (λc=>by
   rw[c,T]at f;injection f with f
   injection f with _ x1 x2
   exact Z ⟨x1,x2⟩)⟩
  have D:df (bE.set s ⟨[],p.1.arcs⟩)<=100000:=by
   have:df (bE.set s ⟨[],p.1.arcs⟩)+p.1.arcs.length=df bE+p.1.arcs.length:=DD m (t:=⟨[],p.1.arcs⟩);omega
  refine OH s p.1.f W k3 g _ ⟨_,cx acO abi B (i:=0) (by simp),lF ⟨_,kn k,_,cI k,_,_,_,cx zN Eh C (i:=3) (by simp[fw]),_,U,_,oN _ _,u,st,_,cx acO abi E (i:=0) (by simp),_,cx HO GD e3 (i:=0) (by simp),(Bq w b2 S D p.1.f to).mono ?_⟩⟩;rintro _ x ⟨rfl,I,O⟩;refine⟨rfl,rfl,?_,M.trans O⟩;rw[List.set_set]at I;exact I
end
end
noncomputable def ej:FD:=cA Tryz.f59 [([1,1,0,1,0,0],[0,2,4,7,21,22,23]),([1,1,1,0,1,0,0],[0,2,4,7,33,34,35]),([1,1,1,0,1,0,0,1,1,0,0,1,0,1,0,0],[0,2,4,7,10,11,33,34,35,41,42,43])]
abbrev qf(k g:Nat)(e f:LV)(d b:Nat)(a:OA)(n c:Nat)(i:Nat):LV:=[(pA k),(.func (.func g) ⟨e⟩ ⟨f⟩),(pA d),(iA b),(.slice a n c),(iA n),(iA i)]
abbrev gF(k g:Nat)(e f:LV)(d b:Nat)(a:OA)(n c:Nat)(i:Nat):LV:=[(pA k),(.func (.func g) ⟨e⟩ ⟨f⟩),(pA d),(iA b),(.slice a n c),(iA n),(iA i)]
abbrev qg(k g:Nat)(l m:LV)(f b:Nat)(a:OA)(n c i o:Nat)(e:OA)(d h:Nat)(j:Nat):LV:=[(pA k),(.func (.func g) ⟨l⟩ ⟨m⟩),(pA f),(iA b),(iA i),(pA o),(.slice a n c),(iA n),(iA i),(.slice e d h),(iA d),(iA j)]
theorem R7(k:Nat)(l:LV)(g:Nat)(m n:LV)(h:ae)(Q:VH)(o:xN (fi SS.P 29 (.agg ⟨l⟩)) h λ_ j=>fP 65 (pA k) 0 λi=>fP 29 (.pointer (some i)) 3 λf=>lL 27 j f λ_ e _=>fP 29 (pA (h.next)) 3 λd=>lL 27 j d λa b c=>LL SS ej [1,1,0,1,0,0] [(pA k),(.func (.func g) ⟨m⟩ ⟨n⟩),(pA (h.next)),(iA e),(.slice a b c),(iA b),(.int .i64 0)] j (KK SS ej [1,1,0,1,0] [] (EE SS ej Q))):FW SS 59 [(pA k),(.agg ⟨l⟩),(.func (.func g) ⟨m⟩ ⟨n⟩)] h Q:=cN ej Tryz.func59 (ai o)
theorem zj(k:Nat)(x:LV)(g:Nat)(t u:LV)(s p:Nat)(a:OA)(n c:Nat)(r:Nat->Nat->ae->Prop)(Q:VH)(step:∀(q:Nat) (i:Nat) (w:Nat->Value) (h:ae),r q i h->au (decide (((i:Int):Int)<(n:Int))) (iP 27 (.slice a n c) (iA i) λo=>lA 73 h (.pointer (some o)) λm=>xN (bq SS.P 73) h λ_ l=>xU (ah SS.P 73 (pA (h.next)) (.agg ⟨m⟩) l) l λ_ j=>fP 73 (pA (h.next)) 0 λf=>lS j f λe=>FW SS 43 [(pA k),(strOf e)] j λb d=>yI .i64 b λ_=>aB (eR (qf k g t u s p a n c) r) q [(pA k),(.func (.func g) ⟨t⟩ ⟨u⟩),(pA s),(iA p),(.slice a n c),(iA n),(.int .i64 (wrap .i64 ((i:Int)+1)))] d) (fP 29 (pA s) 3 λd=>lL 27 h d λa b c=>LL SS ej [1,1,1,0,1,0,0] [(pA k),(.func (.func g) ⟨t⟩ ⟨u⟩),(pA s),(iA p),(.slice a b c),(iA b),(.int .i64 0)] h (KK SS ej [1,1,1,0,1,0] [] (EE SS ej Q))))(q:Nat){i:Nat}{h:ae}(v:r q i h):LL SS ej [1,1,0,1,0,0] (qf k g t u s p a n c i) h (KK SS ej [1,1,0,1,0] [] (EE SS ej Q)):=
 cY (qf k g t u s p a n c) r (λq i w h v=>ai (step q i w h v)) q v
theorem zk(k:Nat)(x:LV)(g:Nat)(t u:LV)(s r:Nat)(a:OA)(n c:Nat)(q:Nat->Nat->ae->Prop)(Q:VH)(step:∀(p:Nat) (i:Nat) (w:Nat->Value) (h:ae),q p i h->au (decide (((i:Int):Int)<(n:Int))) (iP 27 (.slice a n c) (iA i) λo=>lA 73 h (.pointer (some o)) λm=>xN (bq SS.P 73) h λ_ l=>xU (ah SS.P 73 (pA (h.next)) (.agg ⟨m⟩) l) l λ_ j=>fP 73 (pA (h.next)) 1 λf=>lL 71 j f λb d e=>LL SS ej [1,1,1,0,1,0,0,1,1,0,0,1,0,1,0,0] [(pA k),(.func (.func g) ⟨t⟩ ⟨u⟩),(pA s),(iA r),(iA i),(pA (h.next)),(.slice a n c),(iA n),(iA i),(.slice b d e),(iA d),(.int .i64 0)] j (KK SS ej [1,1,0,0,1,0,1,0] [1,1,1,0,1,0,0] (RR ej [1,1,1,0,1,0,0] (eR (gF k g t u s r a n c) q) p (KK SS ej [1,1,1,0,1,0] [] (EE SS ej Q))))) (fP 29 (pA s) 1 λb=>lI h b λa=>Q (.int .i64 (wrap .i64 ((r:Int)+a))) h))(p:Nat){i:Nat}{h:ae}(v:q p i h):LL SS ej [1,1,1,0,1,0,0] (gF k g t u s r a n c i) h (KK SS ej [1,1,1,0,1,0] [] (EE SS ej Q)):=
 cY (gF k g t u s r a n c) q (λp i w h v=>ai (step p i w h v)) p v
theorem zl(k:Nat)(H:LV)(g:Nat)(v w:LV)(x t:Nat)(a:OA)(n c:Nat)(A:Nat->Nat->ae->Prop)(D i:Nat)(B:Nat)(C:OA)(z E:Nat)(y:Nat->Nat->ae->Prop)(Q:VH)(step:∀(u:Nat) (j:Nat) (G:Nat->Value) (h:ae),y u j h->au (decide (((j:Int):Int)<(z:Int))) (iP 71 (.slice C z E) (iA j) λs=>lA 70 h (.pointer (some s)) λr=>xN (bq SS.P 70) h λ_ q=>xU (ah SS.P 70 (pA (h.next)) (.agg ⟨r⟩) q) q λ_ p=>fP 70 (pA (h.next)) 3 λo=>lI p o λm=>fP 70 (pA (h.next)) 3 λl=>xU (ah SS.P 3 (.pointer (some l)) (.int .i64 (wrap .i64 (m+(t:Int)))) p) p λ_ f=>lA 70 f (pA (h.next)) λe=>FW SS 44 [(pA k),(.int .i64 (wrap .i64 ((t:Int)+(i:Int)))),(.agg ⟨e⟩)] f λb d=>b=(.tuple ⟨[]⟩)/\aB (eR (qg k g v w x t a n c i B C z E) y) u [(pA k),(.func (.func g) ⟨v⟩ ⟨w⟩),(pA x),(iA t),(iA i),(pA B),(.slice a n c),(iA n),(iA i),(.slice C z E),(iA z),(.int .i64 (wrap .i64 ((j:Int)+1)))] d) (fP 73 (pA B) 0 λl=>lS h l λj=>au (!((j:LB)==[])) (fP 73 (pA B) 0 λf=>lS h f λe=>au (Nat.blt g YB) (FW SS g (v++[(.int .i64 (wrap .i64 ((t:Int)+(i:Int)))),(strOf e)]++w) h λb d=>b=(.tuple ⟨[]⟩)/\aB (eR (gF k g v w x t a n c) A) D [(pA k),(.func (.func g) ⟨v⟩ ⟨w⟩),(pA x),(iA t),(.slice a n c),(iA n),(.int .i64 (wrap .i64 ((i:Int)+1)))] d) False) (aB (eR (gF k g v w x t a n c) A) D [(pA k),(.func (.func g) ⟨v⟩ ⟨w⟩),(pA x),(iA t),(.slice a n c),(iA n),(.int .i64 (wrap .i64 ((i:Int)+1)))] h)))(u:Nat){j:Nat}{h:ae}(F:y u j h):LL SS ej [1,1,1,0,1,0,0,1,1,0,0,1,0,1,0,0] (qg k g v w x t a n c i B C z E j) h (KK SS ej [1,1,0,0,1,0,1,0] [1,1,1,0,1,0,0] (RR ej [1,1,1,0,1,0,0] (eR (gF k g v w x t a n c) A) D (KK SS ej [1,1,1,0,1,0] [] (EE SS ej Q)))):=
 cY (qg k g v w x t a n c i B C z E) y (λu j G h F=>ai (step u j G h F)) u F
variable{B:Type}{M:bt}
section
def bare(s:dW):dW:=⟨s.f,[]⟩
def ML(a:Nat)(q:hO):hO:=⟨q.i,q.o,q.w,q.t+a⟩
def pB(a:Nat)(b:Option Int)(s:dW):dW:=if s.f=[]then⟨[],s.arcs.map (ML a)⟩else CU b ⟨s.f,s.arcs.map (ML a)⟩
theorem mT(a:Nat)(b:Option Int):∀l:List dW,df (l.map (pB a b))<=df l+l.length
 |[]=>Nat.le_refl _
 | s::l=>by
  have c:=mT a b l;rw[List.map_cons,dt,dt,length_cons];have:(pB a b s).arcs.length<=s.arcs.length+1:=by
   unfold pB CU;split
   ·simp
   ·cases b<;>simp
  omega
theorem IJ:∀l:List dW,df (l.map bare)=0
 |[]=>rfl
 |s::l=>by rw[List.map_cons,dt,IJ l];rfl
theorem qt(f:A->B){l:List A}{i:Nat}{a:A}(h:l[i]?=some a):(l.take (i+1)).map f=(l.take i).map f++[f a]:=by
 have b:=(List.getElem?_eq_some_iff.1 h).1;rw[List.take_add_one,h,map_append];rfl
theorem VR(h:n+i<=1000000000):wrap .i64 ((n:Int)+(i:Int))=((n+i:Nat):Int):=by rw[aD (by omega) (by omega)];omega
section
variable {hb g:ae} {k:Nat} {kind start:Int} {lead:List UInt8} {bE:List dW}
theorem qE{x:Option Addr}{z:Nat}{p:Option Int}(w:Wf hb)(b:BS hb g k kind start lead bE)(r:dS hb (.slice x n z) M.af)(l:mi k p m c d g)(hl:bE.length+M.af.length<=100000)(z5:df bE+df M.af+M.af.length<=100000)(z7:0<=M.start/\M.start<M.af.length)(y4:∀s∈M.af,∀a∈s.arcs,0<=a.t/\a.t<M.af.length):
  FW SS 59 [pA k,.agg ⟨bR M x n z⟩,.func (.func m) ⟨c⟩ ⟨d⟩] g (λv o=>v = .int .i64 ((bE.length:Int)+M.start)/\BS hb o k kind start lead (bE++M.af.map (pB bE.length p))/\Kp g o):=by
 obtain⟨xa,xn,xc,ps,hk,z1,om⟩:=b.ex;obtain⟨R,Z⟩:=fv b.ok.wf (r.ok b.ok);obtain rfl:n=M.af.length:=R.len;have b0:=b.ux Z;have l0:=l.kp (L9 Z);have z0:xn=bE.length:=by have:=om.st.len;rw[this,z1]
 subst z0;refine R7 k (bR M x M.af.length z) m c d g _ ⟨_,ja M x _ z,_,kn k,_,cI k,_,_,_,cx zN Eh (Z.ext _ _ hk) (i:=3) (by simp[fw]),_,cI _,_,_,_,R.l3,?_⟩;have z4:=(L9 Z)
 have x2:∀o,Kp (g.push (Bm M x M.af.length z)) o->Ok hb o->MB o g.next M x M.af.length z:=λo h ok=>⟨h.2 _ _ _ _ _ R.box (by decide) (by decide) (by decide),r.ok ok⟩
 generalize z9:g.push (Bm M x M.af.length z)=g0 at*;obtain⟨f,U⟩:∃f,f=bE.length:=⟨_,rfl⟩
 rw[<-U]at hl⊢;refine zj k (bR M x M.af.length z) m c d g.next f x M.af.length z (λy i o=>i<=M.af.length/\y=M.af.length-i/\BS hb o k kind start lead (bE++(M.af.take i).map bare)/\Kp g0 o) _ (λy i=>?_) M.af.length (i:=0) ⟨by omega,rfl,by simpa using b0,Kp.refl _⟩;intros;rename_i g1 y3;obtain⟨f1,f2,J,Q⟩:=y3;refine aa (λq1=>?_) (λq1=>?_)
 ·have H:i<M.af.length:=by have:=dT q1;omega
  obtain⟨s,A⟩:∃s,M.af[i]?=some s:=⟨_,gE H⟩
  obtain⟨bb,oo,u,V,t,u1,K,u3,u4,ar⟩:=(r.ok J.ok).at_ A;obtain⟨L,p1,N,p3⟩:=NV J.ok.wf s.f u V t;have C:=J.ux N;refine⟨_,u1,_,K,_,Wo,L,p1,_,oN _ _,_,p3.l0,(iu w C (by rw[length_append,lM,length_take];omega) s.f).mono ?_⟩;rintro _ F ⟨rfl,Y,S⟩;rw[aJ H (by omega)];refine⟨_,rfl,bY (M.af.length-(i+1)) (by omega) ⟨by omega,rfl,?_,(Q.trans (L9 N)).trans S⟩⟩;rw[qt bare A,<-append_assoc];exact Y
 obtain rfl:i=M.af.length:=by have:=dF q1;omega
 rw[take_length]at J;have y9:=x2 _ Q J.ok;refine⟨_,cI _,_,_,_,y9.l3,?_⟩;refine zk k (bR M x M.af.length z) m c d g.next f x M.af.length z (λy i o=>i<=M.af.length/\y=M.af.length-i/\BS hb o k kind start lead (bE++(M.af.take i).map (pB f p)++(M.af.drop i).map bare)/\Kp g0 o) _ (λy i=>?_) M.af.length (i:=0) ⟨by omega,rfl,by simpa using J,Q⟩;intros;rename_i F x9;obtain⟨d1,d2,C,W⟩:=x9;have x1:∀i,i<=M.af.length->df (bE++(M.af.take i).map (pB f p))+df (M.af.drop i)<=99999+1:=λi H=>by
  have h1:=mT f p (M.af.take i);have h2:df (M.af.take i)+df (M.af.drop i)=df M.af:=by rw[<-ey,List.take_append_drop]
  rw[length_take]at h1;rw[ey];omega
 refine aa (λq2=>?_) (λq2=>?_)
 ·have H:i<M.af.length:=by have:=dT q2;omega
  obtain⟨s,A⟩:∃s,M.af[i]?=some s:=⟨_,gE H⟩
  have y6:=List.mem_of_getElem? A;obtain⟨bb,oo,u,V,t,u1,K,u3,u4,ar⟩:=r.at_ A;have K:=Jw C.ok K;obtain⟨L,p1,N,p3⟩:=NV C.ok.wf s.f u V t;have Y:=C.ux N;have hy:=ar.len;subst hy;refine⟨_,u1,_,K,_,Wo,L,p1,_,fY _ _,_,_,_,p3.l1,?_⟩;have hd:(M.af.drop i).map bare=⟨s.f,(s.arcs.take 0).map (ML f)⟩::(M.af.drop (i+1)).map bare:=by rw[fk A,List.map_cons];rfl
  rw[hd]at Y;have hL:(bE++(M.af.take i).map (pB f p)).length=f+i:=by rw[length_append,lM,length_take,<-U,Nat.min_eq_left (by omega)]
  have S:=W.trans (L9 N);have x4:SB (L.app (F.push Rx)) F.next s.f u s.arcs.length t:=p3;generalize L.app (F.push Rx)=g3 at*;have x8:∀o,Kp g3 o->SB o F.next s.f u s.arcs.length t:=λo h=>h.2 _ _ _ _ _ x4 (by decide) (by decide) (by decide);obtain⟨ks,z2⟩:∃ks,ks=F.next:=⟨_,rfl⟩
  rw[<-z2]at x4 x8⊢;have u5:=x1 i (by omega);have u6:df (M.af.drop i)=s.arcs.length+df (M.af.drop (i+1)):=by rw[fk A,dt]
  have x0:f+i<=1000000000:=by omega
  refine zl k (bR M x M.af.length z) m c d g.next f x M.af.length z _ y i ks u s.arcs.length t (λx3 j o=>j<=s.arcs.length/\x3=s.arcs.length-j/\BS hb o k kind start lead (bE++(M.af.take i).map (pB f p)++⟨s.f,(s.arcs.take j).map (ML f)⟩::(M.af.drop (i+1)).map bare)/\Kp g3 o) _ (λx3 j=>?_) s.arcs.length (j:=0) ⟨by omega,rfl,Y,Kp.refl _⟩;intros;rename_i G y0;obtain⟨e1,e2,B,P⟩:=y0;have E:=GU (bE++(M.af.take i).map (pB f p)) (⟨s.f,(s.arcs.take j).map (ML f)⟩:dW) ((M.af.drop (i+1)).map bare) hL;have O:df (bE++(M.af.take i).map (pB f p)++⟨s.f,(s.arcs.take j).map (ML f)⟩::(M.af.drop (i+1)).map bare)<=100000:=by
   rw[ey,dt,IJ];show _+(((s.arcs.take j).map (ML f)).length+0)<=_;rw[lM,length_take];omega
  rw[VR x0];refine aa (λq3=>?_) (λq3=>?_)
  ·have hj:j<s.arcs.length:=by have:=dT q3;omega
   obtain⟨q,T⟩:∃q,s.arcs[j]?=some q:=⟨_,gE hj⟩
   have z8:=y4 s y6 q (List.mem_of_getElem? T);obtain⟨z6,u0,v1,v2,v3,v4,v5,v6⟩:=(ar.ok B.ok).at_ T;obtain⟨ua,r1,r2,r3⟩:=JT B.ok.wf q;have b5:=B.ux r2;have x7:(ua.app (G.push Oh)).get G.next=some (.cells (gC q) 70 0 true):=r3;have y2:=iX zs3 x7 (i:=3) (by simp[gC]) (v:= .int .i64 (q.t+(f:Int))) rfl rfl;have o6:=r2.set (.cells (gC (ML f q)) 70 0 true) (Nat.le_refl _) (r2.wf _ _ x7) B.ok.wf;have b6:=B.ux o6;have y1:((ua.app (G.push Oh)).set G.next (.cells (gC (ML f q)) 70 0 true)).get G.next=some (.cells (gC (ML f q)) 70 0 true):=by rw[ae.aw,if_pos rfl]
   have ld:=pN aaV ZL Oa y1 (i:=0) (by simp[gC]);rw[drop_zero,take_of_length_le (by simp[gC])]at ld;have z3:wrap .i64 (q.t+(f:Int))=q.t+(f:Int):=aD (by omega) (by omega);refine⟨_,v1,_,v2,_,RS,ua,r1,_,rF _ _,_,r3.l3,_,rF _ _,?_⟩;rw[z3];refine⟨_,y2,_,ld,(wX w b6 E O (ML f q)).mono ?_⟩;rintro _ g6 ⟨rfl,b7,y5⟩;rw[uG _ _ _ _ hL]at b7;rw[aJ hj (by omega)];refine⟨rfl,bY (s.arcs.length-(j+1)) (by omega) ⟨by omega,rfl,?_,(P.trans (L9 o6)).trans y5⟩⟩;rw[qt (ML f) T];exact b7
  ·obtain rfl:j=s.arcs.length:=by have:=dF q3;omega
   rw[take_length]at B E O;have x5:=x8 _ P;have D:=S.trans P;have x6:∀I,BS hb I k kind start lead (bE++(M.af.take i).map (pB f p)++pB f p s::(M.af.drop (i+1)).map bare)->Kp g0 I->aB (eR (gF k m c d g.next f x M.af.length z) (λy i o=>i<=M.af.length/\y=M.af.length-i/\BS hb o k kind start lead (bE++(M.af.take i).map (pB f p)++(M.af.drop i).map bare)/\Kp g0 o)) y [(pA k),(.func (.func m) ⟨c⟩ ⟨d⟩),(pA g.next),(iA f),(.slice x M.af.length z),(iA M.af.length),(.int .i64 (wrap .i64 ((i:Int)+1)))] I:=λI h1 h2=>by
    rw[aJ H (by omega)];refine bY (M.af.length-(i+1)) (by omega) ⟨by omega,rfl,?_,h2⟩;rw[qt (pB f p) A];have:bE++((M.af.take i).map (pB f p)++[pB f p s])++(M.af.drop (i+1)).map bare=bE++(M.af.take i).map (pB f p)++pB f p s::(M.af.drop (i+1)).map bare:=by simp
    rw[this];exact h1
   refine⟨_,oN _ _,_,x5.l0,aa (λq4=>?_) (λq4=>?_)⟩
   ·have X:s.f≠[]:=ca (by simpa using q4);refine⟨_,oN _ _,_,x5.l0,aa (λ_=>(Tp w B (l0.kp D) E O).mono ?_) (λe=>by rw[l0.blt]at e;cases e)⟩;rintro _ I ⟨rfl,b5,y7⟩;rw[uG _ _ _ _ hL]at b5;refine⟨rfl,x6 I ?_ (D.trans y7)⟩;have:pB f p s=CU p ⟨s.f,s.arcs.map (ML f)⟩:=if_neg X;rw[this];exact b5
   ·have X:s.f=[]:=cj (by simpa using q4);refine x6 G ?_ D;have:pB f p s=⟨s.f,s.arcs.map (ML f)⟩:=by
     have:pB f p s=⟨[],s.arcs.map (ML f)⟩:=if_pos X;rw[this,X]
    rw[this];exact B
 ·obtain rfl:i=M.af.length:=by have:=dF q2;omega
  have y8:=x2 _ W C.ok;have hw:wrap .i64 ((f:Int)+M.start)=(f:Int)+M.start:=aD (by omega) (by omega);refine⟨_,ti _,_,y8.l1,by rw[hw],?_,z4.trans W⟩;rw[take_length,drop_length]at C;simpa using C
end
end
noncomputable def cz:FD:=cA Tryz.f48 [([1,1,1,1,1,0,1,0,0],[1,2,3,8,10,11]),([1,1,1,1,1,0,1,0,0,1,0,0,1,1,0,0],[1,2,3,8,10,11,12]),([1,1,1,1,1,1,1,0,1,0,0],[1,2,3,8,10,13]),([1,1,1,1,1,1,1,0,1,0,0,1,0,0,1,0,0],[1,2,3,8,10,13,14]),([1,1,1,1,1,1,1,0,1,0,0,1,0,0,1,0,0,1,0,0,1,1,1,1,0,0],[1,2,3,8,10,13,14,15,17])]
abbrev lD(a:OA)(l f:Nat)(e:OA)(c h k g N:Nat)(b:OA)(j d:Nat)(i:Nat):LV:=[(.slice a l f),(.slice e c h),(pA k),(.slice b j d),(sA g N N),(iA i)]
abbrev pY(a:OA)(m f:Nat)(e:OA)(c h k g N:Nat)(b:OA)(l d i:Nat)(j:Nat):LV:=[(.slice a m f),(.slice e c h),(pA k),(.slice b l d),(sA g N N),(iA i),(iA j)]
abbrev gz(a:OA)(l f:Nat)(e:OA)(c h k g N:Nat)(b:OA)(j d:Nat)(i:Nat):LV:=[(.slice a l f),(.slice e c h),(pA k),(.slice b j d),(sA g N N),(iA i)]
abbrev lE(a:OA)(m f:Nat)(e:OA)(c h k g N:Nat)(b:OA)(l d i:Nat)(j:Nat):LV:=[(.slice a m f),(.slice e c h),(pA k),(.slice b l d),(sA g N N),(iA i),(iA j)]
abbrev fD(a:OA)(n g:Nat)(f:OA)(c l k h N:Nat)(b:OA)(m d i j:Nat)(v:OA)(e o:Nat)(q:Nat):LV:=[(.slice a n g),(.slice f c l),(pA k),(.slice b m d),(sA h N N),(iA i),(iA j),(.slice v e o),(iA q)]
theorem aa2(C:LV)(x:OA)(t A:Nat)(z:OA)(y B:Nat)(h:ae)(Q:VH)(D:xN (fi SS.P 29 (.agg ⟨C⟩)) h λ_ s=>lA 29 s (pA (h.next)) λr=>FW SS 26 [(.agg ⟨r⟩)] s λp q=>yB p λo=>au (!o) (Q (.tuple ⟨[(strOf []),(.int .i64 1)]⟩) q) (FW SS 15 [(.slice x t A)] q λm n=>yB m λl=>au (!l) (Q (.tuple ⟨[(strOf []),(.int .i64 1)]⟩) n) (FW SS 15 [(.slice z y B)] n λj k=>yB j λi=>au (!i) (Q (.tuple ⟨[(strOf []),(.int .i64 1)]⟩) k) (lA 29 k (pA (h.next)) λg=>FW SS 73 [(.agg ⟨g⟩),(.bool false)] k λe f=>∃(v:OA) (w u:Nat),∃d:Int,e=(.tuple ⟨[(.slice v w u),(.int .i64 d)]⟩)/\au (((d:Int) !=0)) (Q (.tuple ⟨[(strOf []),(.int .i64 d)]⟩) f) (xR (bW SS.P 106 (.int .i64 (wrap .i64 ((t:Int)+1))) (.int .i64 (wrap .i64 ((t:Int)+1)))) f λ_ a b c=>LL SS cz [1,1,1,1,1,0,1,0,0] [(.slice x t A),(.slice z y B),(pA (h.next)),(.slice v w u),(sA (f.next) a b),(.int .i64 0)] c (KK SS cz [1,1,1,1,1,0,1,0] [] (EE SS cz Q))))))):FW SS 48 [(.agg ⟨C⟩),(.slice x t A),(.slice z y B)] h Q:=cN cz Tryz.func48 (ai D)
theorem DO(E:LV)(w:OA)(v z:Nat)(y:OA)(s A:Nat)(k t N:Nat)(b:OA)(B x:Nat)(u:Nat->Nat->ae->Prop)(Q:VH)(step:∀(r:Nat) (i:Nat) (D:Nat->Value) (h:ae),u r i h->au (decide (((i:Int):Int)<=(v:Int))) (xR (bW SS.P 103 (.int .i64 (wrap .i64 ((s:Int)+1))) (.int .i64 (wrap .i64 ((s:Int)+1)))) h λ_ d e f=>iP 106 (sA t N N) (iA i) λc=>xU (ah SS.P 103 (.pointer (some c)) (sA (h.next) d e) f) f λ_ a=>LL SS cz [1,1,1,1,1,0,1,0,0,1,0,0,1,1,0,0] (pY w v z y s A k t N b B x i 0) a (KK SS cz [1,0,0,1,1,0] [1,1,1,1,1,0,1,0,0] (RR cz [1,1,1,1,1,0,1,0,0] (eR (lD w v z y s A k t N b B x) u) r (KK SS cz [1,1,1,1,1,0,1,0] [] (EE SS cz Q))))) (iP 106 (sA t N N) (.int .i64 0) λq=>lL 103 (room h 11) q λn o p=>iP 103 (.slice n o p) (.int .i64 0) λm=>lL 107 (room h 11) m λi j l=>fP 29 (pA k) 1 λg=>lI (room h 11) g λf=>fP 29 (pA k) 2 λe=>lS (room h 11) e λd=>iP 107 (.slice i j l) (.int .i64 f) λc=>xU (ah SS.P 9 (.pointer (some c)) (strOf d) (room h 11)) (room h 11) λ_ a=>LL SS cz [1,1,1,1,1,1,1,0,1,0,0] (gz w v z y s A k t N b B x 0) a (KK SS cz [1,1,1,1,1,1,1,0,1,0] [] (EE SS cz Q))))(r:Nat){i:Nat}{h:ae}(C:u r i h):LL SS cz [1,1,1,1,1,0,1,0,0] (lD w v z y s A k t N b B x i) h (KK SS cz [1,1,1,1,1,0,1,0] [] (EE SS cz Q)):=
 cY (lD w v z y s A k t N b B x) u (λr i D h C=>ai (step r i D h C)) r C
theorem DP(F:LV)(u:OA)(A x:Nat)(w:OA)(s y:Nat)(k t N:Nat)(b:OA)(z v:Nat)(B:Nat->Nat->ae->Prop)(D i:Nat)(r:Nat->Nat->ae->Prop)(Q:VH)(step:∀(q:Nat) (j:Nat) (E:Nat->Value) (h:ae),r q j h->au (decide (((j:Int):Int)<=(s:Int))) (iP 106 (sA t N N) (iA i) λp=>lL 103 (room h 9) p λm n o=>lA 29 (room h 9) (pA k) λl=>FW SS 74 [(.agg ⟨l⟩)] (room h 9) λg h=>yL g λd e f=>iP 103 (.slice m n o) (iA j) λc=>xU (ah SS.P 107 (.pointer (some c)) (.slice d e f) h) h λ_ a=>(aj SS.P 103 h (.pointer (some p))=some (.slice m n o)/\dC 4 (.slice m n o) (.slice m n o)=true)/\aB (eR (pY u A x w s y k t N b z v i) r) q [(.slice u A x),(.slice w s y),(pA k),(.slice b z v),(sA t N N),(iA i),(.int .i64 (wrap .i64 ((j:Int)+1)))] a) (aB (eR (lD u A x w s y k t N b z v) B) D [(.slice u A x),(.slice w s y),(pA k),(.slice b z v),(sA t N N),(.int .i64 (wrap .i64 ((i:Int)+1)))] h))(q:Nat){j:Nat}{h:ae}(C:r q j h):LL SS cz [1,1,1,1,1,0,1,0,0,1,0,0,1,1,0,0] (pY u A x w s y k t N b z v i j) h (KK SS cz [1,0,0,1,1,0] [1,1,1,1,1,0,1,0,0] (RR cz [1,1,1,1,1,0,1,0,0] (eR (lD u A x w s y k t N b z v) B) D (KK SS cz [1,1,1,1,1,0,1,0] [] (EE SS cz Q)))):=
 cY (pY u A x w s y k t N b z v i) r (λq j E h C=>ai (step q j E h C)) q C
theorem DQ(B:LV)(t:OA)(q w:Nat)(v:OA)(r x:Nat)(k s N:Nat)(b:OA)(y u:Nat)(p:Nat->Nat->ae->Prop)(Q:VH)(step:∀(o:Nat) (i:Nat) (A:Nat->Value) (h:ae),p o i h->au (decide (((i:Int):Int)<=(q:Int))) (LL SS cz [1,1,1,1,1,1,1,0,1,0,0,1,0,0,1,0,0] (lE t q w v r x k s N b y u i 0) h (KK SS cz [1,0,0,1,0] [1,1,1,1,1,1,1,0,1,0,0] (RR cz [1,1,1,1,1,1,1,0,1,0,0] (eR (gz t q w v r x k s N b y u) p) o (KK SS cz [1,1,1,1,1,1,1,0,1,0] [] (EE SS cz Q))))) (lA 29 (room h 15) (pA k) λn=>iP 106 (sA s N N) (iA q) λm=>lL 103 (room h 15) m λj k l=>iP 103 (.slice j k l) (iA r) λi=>lL 107 (room h 15) i λe f g=>FW SS 78 [(.agg ⟨n⟩),(.slice e f g)] (room h 15) λc d=>∃b:LB,∃a:Int,c=(.tuple ⟨[(strOf b),(.int .i64 a)]⟩)/\Q (.tuple ⟨[(strOf b),(.int .i64 a)]⟩) d))(o:Nat){i:Nat}{h:ae}(z:p o i h):LL SS cz [1,1,1,1,1,1,1,0,1,0,0] (gz t q w v r x k s N b y u i) h (KK SS cz [1,1,1,1,1,1,1,0,1,0] [] (EE SS cz Q)):=
 cY (gz t q w v r x k s N b y u) p (λo i A h z=>ai (step o i A h z)) o z
theorem DR(P:LV)(C:OA)(G E:Nat)(D:OA)(y F:Nat)(k x N:Nat)(b:OA)(A z:Nat)(H:Nat->Nat->ae->Prop)(I i:Nat)(B:Nat->Nat->ae->Prop)(Q:VH)(step:∀(w:Nat) (j:Nat) (O:Nat->Value) (h:ae),B w j h->au (decide (((j:Int):Int)<=(y:Int))) (lA 29 (room h 15) (pA k) λv=>iP 106 (sA x N N) (iA i) λu=>lL 103 (room h 15) u λr s t=>iP 103 (.slice r s t) (iA j) λq=>lL 107 (room h 15) q λn o p=>FW SS 75 [(.agg ⟨v⟩),(.slice n o p),(.slice b A z)] (room h 15) λl m=>∃(L:OA) (K J:Nat),∃h:Int,l=(.tuple ⟨[(.slice L K J),(.int .i64 h)]⟩)/\au (((h:Int) !=0)) (Q (.tuple ⟨[(strOf []),(.int .i64 h)]⟩) m) (iP 106 (sA x N N) (iA i) λg=>lL 103 m g λd e f=>iP 103 (.slice d e f) (iA j) λc=>xU (ah SS.P 107 (.pointer (some c)) (.slice L K J) m) m λ_ a=>LL SS cz [1,1,1,1,1,1,1,0,1,0,0,1,0,0,1,0,0,1,0,0,1,1,1,1,0,0] (fD C G E D y F k x N b A z i j L K J 1) a (KK SS cz [1,0,0,1,1,1,1,0] [1,1,1,1,1,1,1,0,1,0,0,1,0,0,1,0,0] (RR cz [1,1,1,1,1,1,1,0,1,0,0,1,0,0,1,0,0] (eR (lE C G E D y F k x N b A z i) B) w (KK SS cz [1,0,0,1,0] [1,1,1,1,1,1,1,0,1,0,0] (RR cz [1,1,1,1,1,1,1,0,1,0,0] (eR (gz C G E D y F k x N b A z) H) I (KK SS cz [1,1,1,1,1,1,1,0,1,0] [] (EE SS cz Q)))))))) (aB (eR (gz C G E D y F k x N b A z) H) I [(.slice C G E),(.slice D y F),(pA k),(.slice b A z),(sA x N N),(.int .i64 (wrap .i64 ((i:Int)+1)))] h))(w:Nat){j:Nat}{h:ae}(M:B w j h):LL SS cz [1,1,1,1,1,1,1,0,1,0,0,1,0,0,1,0,0] (lE C G E D y F k x N b A z i j) h (KK SS cz [1,0,0,1,0] [1,1,1,1,1,1,1,0,1,0,0] (RR cz [1,1,1,1,1,1,1,0,1,0,0] (eR (gz C G E D y F k x N b A z) H) I (KK SS cz [1,1,1,1,1,1,1,0,1,0] [] (EE SS cz Q)))):=
 cY (lE C G E D y F k x N b A z i) B (λw j O h M=>ai (step w j O h M)) w M
theorem DS(mv:LV)(G:OA)(F I:Nat)(D:OA)(C E:Nat)(k B N:Nat)(b:OA)(M K:Nat)(y9:Nat->Nat->ae->Prop)(z0 i:Nat)(y1:Nat->Nat->ae->Prop)(y8 j:Nat)(v:OA)(L O:Nat)(H:Nat->Nat->ae->Prop)(Q:VH)(step:∀(J:Nat) (q:Nat) (zz:Nat->Value) (h:ae),H J q h->au (decide (((q:Int):Int)<=3)) (xI .i64 (ay SS.P .shr 3 (iA q) (.int .u64 1)) λP=>au (decide ((wrap .i64 ((i:Int)+wrap .i64 ((BitVec.ofInt (IntKind.bits .i64) (q:Int)&&&BitVec.ofInt (IntKind.bits .i64) 1).toNat:Int)):Int)>(F:Int))) (aB (eR (fD G F I D C E k B N b M K i j v L O) H) J [(.slice G F I),(.slice D C E),(pA k),(.slice b M K),(sA B N N),(iA i),(iA j),(.slice v L O),(.int .i64 (wrap .i64 ((q:Int)+1)))] h) (au (decide ((wrap .i64 ((j:Int)+P):Int)>(C:Int))) (aB (eR (fD G F I D C E k B N b M K i j v L O) H) J [(.slice G F I),(.slice D C E),(pA k),(.slice b M K),(sA B N N),(iA i),(iA j),(.slice v L O),(.int .i64 (wrap .i64 ((q:Int)+1)))] h) (au (((wrap .i64 ((BitVec.ofInt (IntKind.bits .i64) (q:Int)&&&BitVec.ofInt (IntKind.bits .i64) 1).toNat:Int):Int)==1)) (iP 22 (.slice G F I) (iA i) λa6=>lI h a6 λa5=>au (((P:Int)==1)) (iP 22 (.slice D C E) (iA j) λa4=>lI h a4 λa3=>lA 29 h (pA k) λR=>FW SS 76 [(.agg ⟨R⟩),(.slice v L O),(.int .i64 a5),(.int .i64 a3),(.bool false)] h λS A=>∃(x3:OA) (y4 Z:Nat),∃z:Int,S=(.tuple ⟨[(.slice x3 y4 Z),(.int .i64 z)]⟩)/\au (((z:Int) !=0)) (Q (.tuple ⟨[(strOf []),(.int .i64 z)]⟩) A) (xP (ax SS.P 106 (sA B N N) (.int .i64 (wrap .i64 ((i:Int)+wrap .i64 ((BitVec.ofInt (IntKind.bits .i64) (q:Int)&&&BitVec.ofInt (IntKind.bits .i64) 1).toNat:Int))))) λy=>lL 103 (room A 30) y λu w x=>fP 29 (pA k) 0 λt=>lI (room A 30) t λs=>xP (ax SS.P 106 (sA B N N) (.int .i64 (wrap .i64 ((i:Int)+wrap .i64 ((BitVec.ofInt (IntKind.bits .i64) (q:Int)&&&BitVec.ofInt (IntKind.bits .i64) 1).toNat:Int))))) λr=>lL 103 (room A 30) r λn o p=>iP 103 (.slice n o p) (.int .i64 (wrap .i64 ((j:Int)+P))) λm=>lL 107 (room A 30) m λg h l=>FW SS 77 [(.int .i64 s),(.slice g h l),(.slice x3 y4 Z)] (room A 30) λe f=>∃(W:OA) (X x5:Nat),∃d:Int,e=(.tuple ⟨[(.slice W X x5),(.int .i64 d)]⟩)/\iP 103 (.slice u w x) (.int .i64 (wrap .i64 ((j:Int)+P))) λc=>xU (ah SS.P 107 (.pointer (some c)) (.slice W X x5) f) f λ_ a=>(aj SS.P 103 f (.pointer (some y))=some (.slice u w x)/\dC 4 (.slice u w x) (.slice u w x)=true)/\au (((d:Int) !=0)) (Q (.tuple ⟨[(strOf []),(.int .i64 d)]⟩) a) (aB (eR (fD G F I D C E k B N b M K i j v L O) H) J [(.slice G F I),(.slice D C E),(pA k),(.slice b M K),(sA B N N),(iA i),(iA j),(.slice v L O),(.int .i64 (wrap .i64 ((q:Int)+1)))] a))) (lA 29 h (pA k) λR=>FW SS 76 [(.agg ⟨R⟩),(.slice v L O),(.int .i64 a5),(.int .i64 0),(.bool false)] h λS A=>∃(x7:OA) (V y7:Nat),∃z:Int,S=(.tuple ⟨[(.slice x7 V y7),(.int .i64 z)]⟩)/\au (((z:Int) !=0)) (Q (.tuple ⟨[(strOf []),(.int .i64 z)]⟩) A) (xP (ax SS.P 106 (sA B N N) (.int .i64 (wrap .i64 ((i:Int)+wrap .i64 ((BitVec.ofInt (IntKind.bits .i64) (q:Int)&&&BitVec.ofInt (IntKind.bits .i64) 1).toNat:Int))))) λy=>lL 103 (room A 30) y λu w x=>fP 29 (pA k) 0 λt=>lI (room A 30) t λs=>xP (ax SS.P 106 (sA B N N) (.int .i64 (wrap .i64 ((i:Int)+wrap .i64 ((BitVec.ofInt (IntKind.bits .i64) (q:Int)&&&BitVec.ofInt (IntKind.bits .i64) 1).toNat:Int))))) λr=>lL 103 (room A 30) r λn o p=>iP 103 (.slice n o p) (.int .i64 (wrap .i64 ((j:Int)+P))) λm=>lL 107 (room A 30) m λg h l=>FW SS 77 [(.int .i64 s),(.slice g h l),(.slice x7 V y7)] (room A 30) λe f=>∃(y3:OA) (x2 y0:Nat),∃d:Int,e=(.tuple ⟨[(.slice y3 x2 y0),(.int .i64 d)]⟩)/\iP 103 (.slice u w x) (.int .i64 (wrap .i64 ((j:Int)+P))) λc=>xU (ah SS.P 107 (.pointer (some c)) (.slice y3 x2 y0) f) f λ_ a=>(aj SS.P 103 f (.pointer (some y))=some (.slice u w x)/\dC 4 (.slice u w x) (.slice u w x)=true)/\au (((d:Int) !=0)) (Q (.tuple ⟨[(strOf []),(.int .i64 d)]⟩) a) (aB (eR (fD G F I D C E k B N b M K i j v L O) H) J [(.slice G F I),(.slice D C E),(pA k),(.slice b M K),(sA B N N),(iA i),(iA j),(.slice v L O),(.int .i64 (wrap .i64 ((q:Int)+1)))] a)))) (au (((P:Int)==1)) (iP 22 (.slice D C E) (iA j) λa4=>lI h a4 λa3=>lA 29 h (pA k) λR=>FW SS 76 [(.agg ⟨R⟩),(.slice v L O),(.int .i64 0),(.int .i64 a3),(.bool false)] h λS A=>∃(y6:OA) (y5 x0:Nat),∃z:Int,S=(.tuple ⟨[(.slice y6 y5 x0),(.int .i64 z)]⟩)/\au (((z:Int) !=0)) (Q (.tuple ⟨[(strOf []),(.int .i64 z)]⟩) A) (xP (ax SS.P 106 (sA B N N) (.int .i64 (wrap .i64 ((i:Int)+wrap .i64 ((BitVec.ofInt (IntKind.bits .i64) (q:Int)&&&BitVec.ofInt (IntKind.bits .i64) 1).toNat:Int))))) λy=>lL 103 (room A 30) y λu w x=>fP 29 (pA k) 0 λt=>lI (room A 30) t λs=>xP (ax SS.P 106 (sA B N N) (.int .i64 (wrap .i64 ((i:Int)+wrap .i64 ((BitVec.ofInt (IntKind.bits .i64) (q:Int)&&&BitVec.ofInt (IntKind.bits .i64) 1).toNat:Int))))) λr=>lL 103 (room A 30) r λn o p=>iP 103 (.slice n o p) (.int .i64 (wrap .i64 ((j:Int)+P))) λm=>lL 107 (room A 30) m λg h l=>FW SS 77 [(.int .i64 s),(.slice g h l),(.slice y6 y5 x0)] (room A 30) λe f=>∃(y2:OA) (x9 Y:Nat),∃d:Int,e=(.tuple ⟨[(.slice y2 x9 Y),(.int .i64 d)]⟩)/\iP 103 (.slice u w x) (.int .i64 (wrap .i64 ((j:Int)+P))) λc=>xU (ah SS.P 107 (.pointer (some c)) (.slice y2 x9 Y) f) f λ_ a=>(aj SS.P 103 f (.pointer (some y))=some (.slice u w x)/\dC 4 (.slice u w x) (.slice u w x)=true)/\au (((d:Int) !=0)) (Q (.tuple ⟨[(strOf []),(.int .i64 d)]⟩) a) (aB (eR (fD G F I D C E k B N b M K i j v L O) H) J [(.slice G F I),(.slice D C E),(pA k),(.slice b M K),(sA B N N),(iA i),(iA j),(.slice v L O),(.int .i64 (wrap .i64 ((q:Int)+1)))] a))) (lA 29 h (pA k) λR=>FW SS 76 [(.agg ⟨R⟩),(.slice v L O),(.int .i64 0),(.int .i64 0),(.bool false)] h λS A=>∃(x1:OA) (T x8:Nat),∃z:Int,S=(.tuple ⟨[(.slice x1 T x8),(.int .i64 z)]⟩)/\au (((z:Int) !=0)) (Q (.tuple ⟨[(strOf []),(.int .i64 z)]⟩) A) (xP (ax SS.P 106 (sA B N N) (.int .i64 (wrap .i64 ((i:Int)+wrap .i64 ((BitVec.ofInt (IntKind.bits .i64) (q:Int)&&&BitVec.ofInt (IntKind.bits .i64) 1).toNat:Int))))) λy=>lL 103 (room A 30) y λu w x=>fP 29 (pA k) 0 λt=>lI (room A 30) t λs=>xP (ax SS.P 106 (sA B N N) (.int .i64 (wrap .i64 ((i:Int)+wrap .i64 ((BitVec.ofInt (IntKind.bits .i64) (q:Int)&&&BitVec.ofInt (IntKind.bits .i64) 1).toNat:Int))))) λr=>lL 103 (room A 30) r λn o p=>iP 103 (.slice n o p) (.int .i64 (wrap .i64 ((j:Int)+P))) λm=>lL 107 (room A 30) m λg h l=>FW SS 77 [(.int .i64 s),(.slice g h l),(.slice x1 T x8)] (room A 30) λe f=>∃(x4:OA) (U x6:Nat),∃d:Int,e=(.tuple ⟨[(.slice x4 U x6),(.int .i64 d)]⟩)/\iP 103 (.slice u w x) (.int .i64 (wrap .i64 ((j:Int)+P))) λc=>xU (ah SS.P 107 (.pointer (some c)) (.slice x4 U x6) f) f λ_ a=>(aj SS.P 103 f (.pointer (some y))=some (.slice u w x)/\dC 4 (.slice u w x) (.slice u w x)=true)/\au (((d:Int) !=0)) (Q (.tuple ⟨[(strOf []),(.int .i64 d)]⟩) a) (aB (eR (fD G F I D C E k B N b M K i j v L O) H) J [(.slice G F I),(.slice D C E),(pA k),(.slice b M K),(sA B N N),(iA i),(iA j),(.slice v L O),(.int .i64 (wrap .i64 ((q:Int)+1)))] a))))))) (aB (eR (lE G F I D C E k B N b M K i) y1) y8 [(.slice G F I),(.slice D C E),(pA k),(.slice b M K),(sA B N N),(iA i),(.int .i64 (wrap .i64 ((j:Int)+1)))] h))(J:Nat){q:Nat}{h:ae}(hi:H J q h):LL SS cz [1,1,1,1,1,1,1,0,1,0,0,1,0,0,1,0,0,1,0,0,1,1,1,1,0,0] (fD G F I D C E k B N b M K i j v L O q) h (KK SS cz [1,0,0,1,1,1,1,0] [1,1,1,1,1,1,1,0,1,0,0,1,0,0,1,0,0] (RR cz [1,1,1,1,1,1,1,0,1,0,0,1,0,0,1,0,0] (eR (lE G F I D C E k B N b M K i) y1) y8 (KK SS cz [1,0,0,1,0] [1,1,1,1,1,1,1,0,1,0,0] (RR cz [1,1,1,1,1,1,1,0,1,0,0] (eR (gz G F I D C E k B N b M K) y9) z0 (KK SS cz [1,1,1,1,1,1,1,0,1,0] [] (EE SS cz Q)))))):=
 cY (fD G F I D C E k B N b M K i j v L O) H (λJ q zz h hi=>ai (step J q zz h hi)) J hi
noncomputable def so:FD:=cA Tryz.f15 [([1,1,0,1,0,0],[0,3])]
abbrev m3(a:OA)(c b:Nat)(i:Nat):LV:=[(.slice a c b),(iA i)]
theorem VG(b:OA)(a c:Nat)(h:ae)(Q:VH)(d:au (decide (((a:Int):Int)>200)) (Q (.bool false) h) (LL SS so [1,1,0,1,0,0] (m3 b a c 0) h (KK SS so [1,1,0,1,0] [] (EE SS so Q)))):FW SS 15 [(.slice b a c)] h Q:=cN so Tryz.func15 (ai d)
theorem Af(j:OA)(f k:Nat)  (g:Nat->Nat->ae->Prop) (Q:VH) (step:∀(e:Nat)(i:Nat)(m:Nat->Value)(h:ae),g e i h->au (decide (((i:Int):Int)<(f:Int))) (iP 22 (.slice j f k) (iA i) λd=>lI h d λc=>au (decide ((c:Int)<1)) (Q (.bool false) h) (iP 22 (.slice j f k) (iA i) λb=>lI h b λa=>au (decide ((a:Int)>500)) (Q (.bool false) h) (aB (eR (m3 j f k) g) e [(.slice j f k),(.int .i64 (wrap .i64 ((i:Int)+1)))] h))) (Q (.bool true) h)) (e:Nat) {i:Nat} {h:ae} (l:g e i h):LL SS so [1,1,0,1,0,0] (m3 j f k i) h (KK SS so [1,1,0,1,0] [] (EE SS so Q)):=
 cY (m3 j f k) g (λe i m h l=>ai (step e i m h l)) e l
variable{p:List Int}{g:ae}{a:Option Addr}
def xl(l:List Int):List Value:=l.map λz=> .int .i64 z
theorem jz(l:List Int):(xl l).length=l.length:=lM _
theorem Ta(h:i<p.length):(xl p).getD i undef = .int .i64 (p.getD i 0):=by
 unfold xl;rw[gD,getElem?_map,gD,gE h];rfl
def du(h:ae)(v:Value)(l:List Int):Prop:=
 (v = .slice none 0 0/\l=[])\/ ∃k a cs c b e z,v = .slice (some ⟨k,a,none⟩) l.length c/\h.get k=some (.cells cs e z b)/\(e=3/\z=1\/z=0)/\(cs.drop a).take l.length=xl l
theorem du.ok(r:du h v p)(o:Ok h g):du g v p:=by
 rcases r with r|⟨k,a,cs,c,f,e,z,d,i,b,j⟩
 ·exact .inl r
 ·exact .inr ⟨k,a,cs,c,f,e,z,d,o.ext _ _ i,b,j⟩
theorem du.NQ(r:Rd h 3 v (xl p)):du h v p:=by
 rcases r with⟨b,d⟩|⟨k,f,cs,c,g,b,d,e⟩
 ·left;refine⟨b,?_⟩
  cases p with
  |nil=>rfl
  |cons a p=>cases d
 ·rw[jz]at b e;exact .inr ⟨k,f,cs,c,g,3,1,b,d,.inl ⟨rfl,rfl⟩,e⟩
theorem du.at_{l:List Int}(r:du h v l){i:Nat}(d:i<l.length):∃p:Addr,ax SS.P 22 v (iA i)=some (.pointer (some p))/\aj SS.P 3 h (.pointer (some p))=some (.int .i64 (l.getD i 0)):=by
 rcases r with⟨_,rfl⟩|⟨k,a,cs,c,q,e,z,rfl,m,_,g⟩
 ·exact absurd d (by simp)
 have b:((cs.drop a).take l.length).length=l.length:=by rw[g,jz]
 rw[length_take,length_drop]at b;have f:=LJ (P:=SS.P) tO VY (k:=k) (off:=a) (n:=l.length) (c:=c) (ik:= .i64) (i:=(i:Int)) (by omega) (by omega);have o:a+((i:Int)).toNat*1=a+i:=by omega
 rw[o]at f;refine⟨_,f,?_⟩;have j:cs.getD (a+i) undef = .int .i64 (l.getD i 0):=by
  rw[<-Ta d,<-g,gD,gD,List.getElem?_take,if_pos d,List.getElem?_drop]
 rw[cx HO GD m (by omega),j]
theorem du.len{c:Nat}(r:du h (.slice a n c) p):n=p.length:=by
 rcases r with⟨b,rfl⟩|⟨k,d,cs,f,g,e,z,b,_⟩
 ·injection b
 ·injection b
def kx(z:Int):Bool:=decide (1<=z)&&decide (z<=500)
def fE(l:List Int):Bool:=decide (l.length<=200)&&l.all kx
theorem GL(h:i<p.length):p.drop i=p.getD i 0::p.drop (i+1):=by
 rw[List.drop_eq_getElem_cons h,gD,gE h];rfl
theorem yH{c:Nat}{l:List Int}(r:du h (.slice a n c) l):FW SS 15 [.slice a n c] h (λv g=>v = .bool (fE l)/\g=h):=by
 obtain rfl:=du.len r;refine VG a _ c h _ (aa (λq=>⟨?_,rfl⟩) (λq=>?_))
 ·have:¬l.length<=200:=by have:=dT q;omega
  unfold fE;rw[decide_eq_false this];rfl
 ·have t:l.length<=200:=by have:=dF q;omega
  have u:fE l=l.all kx:=by unfold fE;rw[decide_eq_true t,Bool.true_and]
  rw[u];refine Af a _ c (λm i g=>i<=l.length/\m=l.length-i/\g=h/\(l.drop i).all kx=l.all kx) _ (λm i=>?_) l.length (i:=0) ⟨by omega,rfl,rfl,by rw[drop_zero]⟩;intros;rename_i g k;obtain⟨z,y,rfl,b⟩:=k;refine aa (λq=>?_) (λq=>?_)
  ·have j:i<l.length:=by have:=dT q;omega
   obtain⟨p,o,s⟩:=r.at_ j;rw[GL j,all_cons]at b;refine⟨_,o,_,s,aa (λf=>⟨?_,rfl⟩) (λf=>⟨_,o,_,s,aa (λd=>⟨?_,rfl⟩) (λd=>?_)⟩)⟩
   ·have:¬1<=l.getD i 0:=by have:=dT f;omega
    rw[<-b];unfold kx;rw[decide_eq_false this];rfl
   ·have:¬l.getD i 0<=500:=by have:=dT d;omega
    rw[<-b];unfold kx;rw[decide_eq_false this,Bool.and_false];rfl
   ·have e:kx (l.getD i 0)=true:=by
     unfold kx;have w:=dF f;have x:=dF d;rw[decide_eq_true (show 1<=l.getD i 0 by omega),decide_eq_true (show l.getD i 0<=500 by omega)];rfl
    rw[e,Bool.true_and]at b;rw[aJ j (by omega)];exact bY (l.length-(i+1)) (by omega) ⟨by omega,rfl,rfl,b⟩
  ·obtain rfl:i=l.length:=by have:=dF q;omega
   rw[drop_length]at b;exact⟨by rw[<-b];rfl,rfl⟩
noncomputable def rk:FD:=cA Tryz.f13 [([1,1,1,1,1,0,1,0,0],[1,2,8,10,11,42,43])]
abbrev qh(a:OA)(g e:Nat)(d:OA)(b f c k m:Nat)(s i:Nat):LV:=[(.slice a g e),(.slice d b f),(pA c),(pA k),(iA s),(iA m),(iA i)]
theorem Sm(y:Int)(B:OA)(A D:Nat)(C:OA)(z E:Nat)(w:LB)(h:ae)(Q:VH)(F:xN (bq SS.P 29) h λ_ x=>FW SS 40 [(.slice B A D)] x λu v=>yB u λt=>au (!t) (xA (bh SS.P 29 []) λb=>xU (ah SS.P 29 (pA (h.next)) (.agg ⟨b⟩) v) v λ_ a=>dY SS [((pA (h.next)),some 29),((.int .i64 1),none)] a Q) (FW SS 40 [(.slice C z E)] v λr s=>yB r λq=>au (!q) (xA (bh SS.P 29 []) λb=>xU (ah SS.P 29 (pA (h.next)) (.agg ⟨b⟩) s) s λ_ a=>dY SS [((pA (h.next)),some 29),((.int .i64 1),none)] a Q) (FW SS 41 [(.int .i64 y),(strOf w)] s λo p=>yB o λn=>au (!n) (xA (bh SS.P 29 []) λb=>xU (ah SS.P 29 (pA (h.next)) (.agg ⟨b⟩) p) p λ_ a=>dY SS [((pA (h.next)),some 29),((.int .i64 1),none)] a Q) (FW SS 42 [(.int .i64 y)] p λl m=>yO l λk=>HZ SS.P k m λi j=>fP 65 i 0 λg=>fP 29 (.pointer (some g)) 2 λf=>xU (ah SS.P 9 (.pointer (some f)) (strOf w) j) j λ_ e=>FW SS 43 [(.pointer k),(strOf [])] e λc d=>yI .i64 c λb=>xI .i64 (rP true [(iA A),(iA z)]) λa=>LL SS rk [1,1,1,1,1,0,1,0,0] [(.slice B A D),(.slice C z E),(pA (h.next)),(.pointer k),(.int .i64 b),(.int .i64 a),(.int .i64 0)] d (KK SS rk [1,1,1,1,1,0,1,0] [] (EE SS rk Q)))))):FW SS 13 [(.int .i64 y),(.slice B A D),(.slice C z E),(strOf w)] h Q:=cN rk Tryz.func13 (ai F)
theorem zn(E:Int)(v:OA)(B z:Nat)(y:OA)(x A:Nat)(w:LB)(u k m:Nat)(t:Nat->Nat->Nat->ae->Prop)(Q:VH)(step:∀(r:Nat) (s i:Nat) (D:Nat->Value) (h:ae),t r s i h->au (decide (((i:Int):Int)<(m:Int))) (FW SS 43 [(pA k),(strOf [])] h λp q=>yI .i64 p λo=>FW SS 45 [(.slice v B z),(iA i)] (room q 15) λl n=>yI .i64 l λj=>FW SS 45 [(.slice y x A),(iA i)] n λg h=>yI .i64 g λf=>fP 65 (pA k) 1 λe=>lS h e λd=>xA (bh SS.P 70 [(0,(.int .i64 j)),(1,(.int .i64 f)),(2,(strOf d)),(3,(.int .i64 o))]) λc=>FW SS 44 [(pA k),(iA s),(.agg ⟨c⟩)] h λa b=>a=(.tuple ⟨[]⟩)/\(aj SS.P 9 (room q 15) (.pointer (some e))=some (strOf d)/\dC 4 (strOf d) (strOf d)=true)/\(aj SS.P 9 n (.pointer (some e))=some (strOf d)/\dC 4 (strOf d) (strOf d)=true)/\aB (qR (qh v B z y x A u k m) t) r [(.slice v B z),(.slice y x A),(pA u),(pA k),(.int .i64 o),(iA m),(.int .i64 (wrap .i64 ((i:Int)+1)))] b) (fP 65 (pA k) 0 λq=>fP 29 (.pointer (some q)) 3 λp=>lL 27 (room h 13) p λm n o=>fP 65 (pA k) 1 λl=>lS (room h 13) l λj=>iP 27 (.slice m n o) (iA s) λi=>fP 73 (.pointer (some i)) 0 λg=>xU (ah SS.P 9 (.pointer (some g)) (strOf j) (room h 13)) (room h 13) λ_ f=>FW SS 46 [(pA k)] f λd e=>∃c:LV,∃b:Int,d=(.tuple ⟨[(.agg ⟨c⟩),(.int .i64 b)]⟩)/\xU (ah SS.P 29 (pA u) (.agg ⟨c⟩) e) e λ_ a=>dY SS [((pA u),some 29),((.int .i64 b),none)] a Q))(r:Nat){s i:Nat}{h:ae}(C:t r s i h):LL SS rk [1,1,1,1,1,0,1,0,0] (qh v B z y x A u k m s i) h (KK SS rk [1,1,1,1,1,0,1,0] [] (EE SS rk Q)):=
 nE (qh v B z y x A u k m) t (λr s i D h C=>ai (step r s i D h C)) r C
noncomputable def oL:FD:=cA Tryz.f25 [([1,1,1,1,0,1,0,0],[4,7,8,25,26,27])]
abbrev lU(b k s a n c:Nat)(i:Nat):LV:=[(pA b),(pA k),(iA s),(sA a n c),(iA n),(iA i)]
theorem OO(x w:LV)(h:ae)(Q:VH)(y:xN (fi SS.P 29 (.agg ⟨x⟩)) h λ_ v=>xN (fi SS.P 29 (.agg ⟨w⟩)) v λ_ u=>xN (bq SS.P 29) u λ_ t=>lA 29 t (pA (h.next)) λs=>lA 29 t (pA (v.next)) λr=>FW SS 57 [(.agg ⟨s⟩),(.agg ⟨r⟩)] t λp q=>yI .i64 p λo=>au (((o:Int) !=0)) (xA (bh SS.P 29 []) λb=>xU (ah SS.P 29 (pA (u.next)) (.agg ⟨b⟩) q) q λ_ a=>dY SS [((pA (u.next)),some 29),((.int .i64 o),none)] a Q) (fP 29 (pA (h.next)) 0 λn=>lI q n λm=>FW SS 42 [(.int .i64 m)] q λk l=>yO k λj=>FW SS 43 [(.pointer j),(strOf [])] l λg i=>yI .i64 g λf=>lA 29 i (pA (h.next)) λe=>lA 29 i (pA (v.next)) λd=>xR (aF SS.P 86 2 [(0,(.agg ⟨e⟩)),(1,(.agg ⟨d⟩))]) i λ_ a b c=>LL SS oL [1,1,1,1,0,1,0,0] [(pA (u.next)),(.pointer j),(.int .i64 f),(sA (i.next) a b),(iA a),(.int .i64 0)] c (KK SS oL [1,1,1,1,0,1,0] [] (EE SS oL Q)))):FW SS 25 [(.agg ⟨x⟩),(.agg ⟨w⟩)] h Q:=cN oL Tryz.func25 (ai y)
theorem wV(z y:LV)(u k s v n c:Nat)(t:Nat->Nat->ae->Prop)(Q:VH)(step:∀(r:Nat) (i:Nat) (x:Nat->Value) (h:ae),t r i h->au (decide (((i:Int):Int)<(n:Int))) (iP 86 (sA v n c) (iA i) λq=>lA 29 h (.pointer (some q)) λp=>xN (bq SS.P 29) h λ_ o=>xU (ah SS.P 29 (pA (h.next)) (.agg ⟨p⟩) o) o λ_ m=>fP 29 (pA (h.next)) 2 λl=>lS (room m 8) l λj=>lA 29 (room m 8) (pA (h.next)) λg=>FW SS 59 [(pA k),(.agg ⟨g⟩),(.func (.func 60) ⟨[]⟩ ⟨[]⟩)] (room m 8) λe f=>yI .i64 e λd=>FW SS 58 [(pA k),(iA s),(strOf j),(.int .i64 d)] f λa b=>a=(.tuple ⟨[]⟩)/\(aj SS.P 9 f (.pointer (some l))=some (strOf j)/\dC 4 (strOf j) (strOf j)=true)/\aB (eR (lU u k s v n c) t) r [(pA u),(pA k),(iA s),(sA v n c),(iA n),(.int .i64 (wrap .i64 ((i:Int)+1)))] b) (FW SS 46 [(pA k)] h λd e=>∃c:LV,∃b:Int,d=(.tuple ⟨[(.agg ⟨c⟩),(.int .i64 b)]⟩)/\xU (ah SS.P 29 (pA u) (.agg ⟨c⟩) e) e λ_ a=>dY SS [((pA u),some 29),((.int .i64 b),none)] a Q))(r:Nat){i:Nat}{h:ae}(w:t r i h):LL SS oL [1,1,1,1,0,1,0,0] (lU u k s v n c i) h (KK SS oL [1,1,1,1,0,1,0] [] (EE SS oL Q)):=
 cY (lU u k s v n c) t (λr i x h w=>ai (step r i x h w)) r w
noncomputable def OG:FD:=cA Tryz.f31 []
theorem Lj(H E:LV)(h:ae)(Q:VH)(R:xN (fi SS.P 29 (.agg ⟨H⟩)) h λ_ C=>xN (fi SS.P 29 (.agg ⟨E⟩)) C λ_ B=>xN (bq SS.P 29) B λ_ F=>lA 29 F (pA (h.next)) λL=>lA 29 F (pA (C.next)) λS=>FW SS 57 [(.agg ⟨L⟩),(.agg ⟨S⟩)] F λY D=>yI .i64 Y λI=>au (((I:Int) !=0)) (xA (bh SS.P 29 []) λb=>xU (ah SS.P 29 (pA (B.next)) (.agg ⟨b⟩) D) D λ_ a=>dY SS [((pA (B.next)),some 29),((.int .i64 I),none)] a Q) (fP 29 (pA (h.next)) 0 λK=>lI D K λZ=>FW SS 42 [(.int .i64 Z)] D λT G=>yO T λA=>fP 29 (pA (h.next)) 2 λM=>lS G M λW=>fP 29 (pA (C.next)) 2 λP=>lS G P λX=>FW SS 63 [(.pointer A),(strOf W),(strOf X)] G λU V=>yS U λN=>HZ SS.P A V λO J=>fP 65 O 0 λz=>fP 29 (.pointer (some z)) 2 λy=>xU (ah SS.P 9 (.pointer (some y)) (strOf N) J) J λ_ x=>lA 29 x (pA (C.next)) λw=>FW SS 59 [(.pointer A),(.agg ⟨w⟩),(.func (.func 60) ⟨[]⟩ ⟨[]⟩)] x λu v=>yI .i64 u λt=>lA 29 (room v 11) (pA (h.next)) λs=>FW SS 64 [(.pointer A),(.int .i64 t)] (room v 11) λq r=>yF q λn o p=>FW SS 59 [(.pointer A),(.agg ⟨s⟩),(.func (.func n) ⟨o⟩ ⟨p⟩)] r λl m=>yI .i64 l λk=>HZ SS.P A m λj _=>fP 65 j 0 λi=>fP 29 (.pointer (some i)) 1 λg=>xU (ah SS.P 3 (.pointer (some g)) (.int .i64 k) m) m λ_ f=>(aj SS.P 29 r (pA (h.next))=some (.agg ⟨s⟩)/\dC 4 (.agg ⟨s⟩) (.agg ⟨s⟩)=true)/\FW SS 46 [(.pointer A)] f λd e=>∃c:LV,∃b:Int,d=(.tuple ⟨[(.agg ⟨c⟩),(.int .i64 b)]⟩)/\xU (ah SS.P 29 (pA (B.next)) (.agg ⟨c⟩) e) e λ_ a=>dY SS [((pA (B.next)),some 29),((.int .i64 b),none)] a Q)):FW SS 31 [(.agg ⟨H⟩),(.agg ⟨E⟩)] h Q:=cN OG Tryz.func31 (ai R)
noncomputable def WC:FD:=cA Tryz.f33 []
theorem Sg(D:LV)(h:ae)(Q:VH)(I:xN (fi SS.P 29 (.agg ⟨D⟩)) h λ_ B=>xN (bq SS.P 29) B λ_ E=>lA 29 E (pA (h.next)) λM=>FW SS 66 [(.agg ⟨M⟩)] E λF C=>yB F λH=>au (!H) (xA (bh SS.P 29 []) λb=>xU (ah SS.P 29 (pA (B.next)) (.agg ⟨b⟩) C) C λ_ a=>dY SS [((pA (B.next)),some 29),((.int .i64 1),none)] a Q) (fP 29 (pA (h.next)) 0 λK=>lI C K λJ=>FW SS 42 [(.int .i64 J)] C λL G=>yO L λA=>HZ SS.P A G λy z=>fP 65 y 1 λx=>lS z x λw=>FW SS 43 [(.pointer A),(strOf w)] z λu v=>yI .i64 u λt=>fP 29 (pA (h.next)) 2 λs=>lS (room v 11) s λr=>lA 29 (room v 11) (pA (h.next)) λq=>FW SS 64 [(.pointer A),(.int .i64 t)] (room v 11) λo p=>yF o λl m n=>FW SS 59 [(.pointer A),(.agg ⟨q⟩),(.func (.func l) ⟨m⟩ ⟨n⟩)] p λj k=>yI .i64 j λi=>FW SS 58 [(.pointer A),(.int .i64 t),(strOf r),(.int .i64 i)] k λf g=>f=(.tuple ⟨[]⟩)/\(aj SS.P 9 p (.pointer (some s))=some (strOf r)/\dC 4 (strOf r) (strOf r)=true)/\(aj SS.P 9 k (.pointer (some s))=some (strOf r)/\dC 4 (strOf r) (strOf r)=true)/\(aj SS.P 29 p (pA (h.next))=some (.agg ⟨q⟩)/\dC 4 (.agg ⟨q⟩) (.agg ⟨q⟩)=true)/\FW SS 46 [(.pointer A)] g λd e=>∃c:LV,∃b:Int,d=(.tuple ⟨[(.agg ⟨c⟩),(.int .i64 b)]⟩)/\xU (ah SS.P 29 (pA (B.next)) (.agg ⟨c⟩) e) e λ_ a=>dY SS [((pA (B.next)),some 29),((.int .i64 b),none)] a Q)):FW SS 33 [(.agg ⟨D⟩)] h Q:=cN WC Tryz.func33 (ai I)
noncomputable def Sf:FD:=cA Tryz.f37 []
theorem OI(D:LV)(w:LB)(h:ae)(Q:VH)(L:xN (fi SS.P 29 (.agg ⟨D⟩)) h λ_ A=>xN (bq SS.P 29) A λ_ E=>lA 29 E (pA (h.next)) λR=>FW SS 66 [(.agg ⟨R⟩)] E λG C=>yB G λK=>au (!K) (xA (bh SS.P 29 []) λb=>xU (ah SS.P 29 (pA (A.next)) (.agg ⟨b⟩) C) C λ_ a=>dY SS [((pA (A.next)),some 29),((.int .i64 1),none)] a Q) (fP 29 (pA (h.next)) 0 λH=>lI C H λO=>FW SS 41 [(.int .i64 O),(strOf w)] C λP B=>yB P λN=>au (!N) (xA (bh SS.P 29 []) λb=>xU (ah SS.P 29 (pA (A.next)) (.agg ⟨b⟩) B) B λ_ a=>dY SS [((pA (A.next)),some 29),((.int .i64 1),none)] a Q) (fP 29 (pA (h.next)) 0 λM=>lI B M λI=>FW SS 42 [(.int .i64 I)] B λJ F=>yO J λz=>fP 29 (pA (h.next)) 2 λy=>lS F y λx=>FW SS 63 [(.pointer z),(strOf w),(strOf x)] F λu v=>yS u λt=>HZ SS.P z v λr s=>fP 65 r 0 λq=>fP 29 (.pointer (some q)) 2 λp=>xU (ah SS.P 9 (.pointer (some p)) (strOf t) s) s λ_ o=>lA 29 o (pA (h.next)) λn=>FW SS 59 [(.pointer z),(.agg ⟨n⟩),(.func (.func 60) ⟨[]⟩ ⟨[]⟩)] o λl m=>yI .i64 l λk=>HZ SS.P z m λi j=>fP 65 i 0 λh=>fP 29 (.pointer (some h)) 1 λg=>xU (ah SS.P 3 (.pointer (some g)) (.int .i64 k) j) j λ_ f=>FW SS 46 [(.pointer z)] f λd e=>∃c:LV,∃b:Int,d=(.tuple ⟨[(.agg ⟨c⟩),(.int .i64 b)]⟩)/\xU (ah SS.P 29 (pA (A.next)) (.agg ⟨c⟩) e) e λ_ a=>dY SS [((pA (A.next)),some 29),((.int .i64 b),none)] a Q))):FW SS 37 [(.agg ⟨D⟩),(strOf w)] h Q:=cN Sf Tryz.func37 (ai L)
noncomputable def fG:FD:=cA Tryz.f35 [([1,1,1,0,1,0,0],[1,2,3,6,8,33,34]),([1,1,1,1,0,1,0,0],[1,2,3,6,8,48,49])]
abbrev kR(n a:Int)(d c k:Nat)(b:Int)(i:Nat):LV:=[(.int .i64 n),(.int .i64 a),(pA d),(pA c),(pA k),(.int .i64 b),(iA i)]
abbrev kS(n a:Int)(c b k:Nat)(i:Nat):LV:=[(.int .i64 n),(.int .i64 a),(pA c),(pA b),(pA k),(.int .i64 a),(iA i)]
theorem Ll(o:LV)(n m:Int)(h:ae)(Q:VH)(p:xN (fi SS.P 29 (.agg ⟨o⟩)) h λ_ l=>xN (bq SS.P 29) l λ_ k=>lA 29 k (pA (h.next)) λj=>FW SS 66 [(.agg ⟨j⟩)] k λg i=>yB g λf=>au (!f) (xA (bh SS.P 29 []) λb=>xU (ah SS.P 29 (pA (l.next)) (.agg ⟨b⟩) i) i λ_ a=>dY SS [((pA (l.next)),some 29),((.int .i64 1),none)] a Q) (au (decide ((n:Int)<0)) (xA (bh SS.P 29 []) λb=>xU (ah SS.P 29 (pA (l.next)) (.agg ⟨b⟩) i) i λ_ a=>dY SS [((pA (l.next)),some 29),((.int .i64 1),none)] a Q) (au (decide ((m:Int)<n)) (xA (bh SS.P 29 []) λb=>xU (ah SS.P 29 (pA (l.next)) (.agg ⟨b⟩) i) i λ_ a=>dY SS [((pA (l.next)),some 29),((.int .i64 1),none)] a Q) (au (decide ((m:Int)>30)) (xA (bh SS.P 29 []) λb=>xU (ah SS.P 29 (pA (l.next)) (.agg ⟨b⟩) i) i λ_ a=>dY SS [((pA (l.next)),some 29),((.int .i64 1),none)] a Q) (fP 29 (pA (h.next)) 0 λe=>lI i e λd=>FW SS 42 [(.int .i64 d)] i λb c=>yO b λa=>LL SS fG [1,1,1,0,1,0,0] [(.int .i64 n),(.int .i64 m),(pA (h.next)),(pA (l.next)),(.pointer a),(.int .i64 (wrap .i64 (m+1))),(.int .i64 0)] c (KK SS fG [1,1,1,0,1,0] [] (EE SS fG Q))))))):FW SS 35 [(.agg ⟨o⟩),(.int .i64 n),(.int .i64 m)] h Q:=cN fG Tryz.func35 (ai p)
theorem vV(q:LV)(n e:Int)(m l k:Nat)(j:Int)(f:Nat->Nat->ae->Prop)(Q:VH)(step:∀(g:Nat) (i:Nat) (p:Nat->Value) (h:ae),f g i h->au (decide (((i:Int):Int)<j)) (au (decide (((i:Int):Int)>=n)) (fP 65 (pA k) 1 λd=>lS h d λc=>FW SS 43 [(pA k),(strOf c)] h λa b=>yI .i64 a λ_=>aB (eR (kR n e m l k j) f) g [(.int .i64 n),(.int .i64 e),(pA m),(pA l),(pA k),(.int .i64 j),(.int .i64 (wrap .i64 ((i:Int)+1)))] b) (FW SS 43 [(pA k),(strOf [])] h λa b=>yI .i64 a λ_=>aB (eR (kR n e m l k j) f) g [(.int .i64 n),(.int .i64 e),(pA m),(pA l),(pA k),(.int .i64 j),(.int .i64 (wrap .i64 ((i:Int)+1)))] b)) (LL SS fG [1,1,1,1,0,1,0,0] (kS n e m l k 0) h (KK SS fG [1,1,1,1,0,1,0] [] (EE SS fG Q))))(g:Nat){i:Nat}{h:ae}(o:f g i h):LL SS fG [1,1,1,0,1,0,0] (kR n e m l k j i) h (KK SS fG [1,1,1,0,1,0] [] (EE SS fG Q)):=
 cY (kR n e m l k j) f (λg i p h o=>ai (step g i p h o)) g o
theorem vW(x:LV)(n q:Int)(t u k:Nat)(s:Nat->Nat->ae->Prop)(Q:VH)(step:∀(r:Nat) (i:Nat) (w:Nat->Value) (h:ae),s r i h->au (decide (((i:Int):Int)<q)) (fP 29 (pA t) 2 λp=>lS (room h 12) p λo=>lA 29 (room h 12) (pA t) λm=>FW SS 64 [(pA k),(.int .i64 (wrap .i64 ((i:Int)+1)))] (room h 12) λj l=>yF j λf g h=>FW SS 59 [(pA k),(.agg ⟨m⟩),(.func (.func f) ⟨g⟩ ⟨h⟩)] l λd e=>yI .i64 d λc=>FW SS 58 [(pA k),(iA i),(strOf o),(.int .i64 c)] e λa b=>a=(.tuple ⟨[]⟩)/\(aj SS.P 9 l (.pointer (some p))=some (strOf o)/\dC 4 (strOf o) (strOf o)=true)/\(aj SS.P 9 e (.pointer (some p))=some (strOf o)/\dC 4 (strOf o) (strOf o)=true)/\(aj SS.P 29 l (pA t)=some (.agg ⟨m⟩)/\dC 4 (.agg ⟨m⟩) (.agg ⟨m⟩)=true)/\aB (eR (kS n q t u k) s) r [(.int .i64 n),(.int .i64 q),(pA t),(pA u),(pA k),(.int .i64 q),(.int .i64 (wrap .i64 ((i:Int)+1)))] b) (FW SS 46 [(pA k)] h λd e=>∃c:LV,∃b:Int,d=(.tuple ⟨[(.agg ⟨c⟩),(.int .i64 b)]⟩)/\xU (ah SS.P 29 (pA u) (.agg ⟨c⟩) e) e λ_ a=>dY SS [((pA u),some 29),((.int .i64 b),none)] a Q))(r:Nat){i:Nat}{h:ae}(v:s r i h):LL SS fG [1,1,1,1,0,1,0,0] (kS n q t u k i) h (KK SS fG [1,1,1,1,0,1,0] [] (EE SS fG Q)):=
 cY (kS n q t u k) s (λr i w h v=>ai (step r i w h v)) r v
section
section
variable {hb g h:ae} {k:Nat} {kind start:Int} {lead:List UInt8} {bE:List dW}
theorem R9(w:Wf hb)(b:BS hb g k kind start lead bE)(u:bE.length<=3000)(x:df bE<=30000):FW SS 46 [pA k] g (Be hb (⟨kind,start,lead,bE⟩,0)):=by
 obtain⟨a,n,c,r,q,f,p⟩:=b.ex;have s:n=bE.length:=by have:=p.st.len;rw[this,f]
 have h:=(Ok.refl b.ok.wf).push mO;have d:=h.ext _ _ q;have j:=aI g mO;have o:=pN Rh OB vI d (i:=0) (by simp[fw]);have m:=h.set (.cells (bR ⟨kind,start,lead,bE⟩ a n c) 29 0 true) (Nat.le_refl _) (h.wf _ _ j) b.ok.wf;have l:((g.push mO).set g.next (.cells (bR ⟨kind,start,lead,bE⟩ a n c) 29 0 true)).get g.next=some (.cells (bR ⟨kind,start,lead,bE⟩ a n c) 29 0 true):=by rw[ae.aw,if_pos rfl]
 refine R8 k g _ ⟨_,qD,_,aae k,_,cx acN abh d (i:=6) (by simp[fw]),aa (λe=>by cases e) (λ_=>⟨_,kn k,_,cI k,_,_,_,cx zN Eh d (i:=3) (by simp[fw]),aa (λe=>?_) (λ_=>⟨_,Lw k,_,cx HO GD d (i:=5) (by simp[fw]),aa (λe=>?_) (λ_=>⟨_,kn k,_,o,_,kV (t:=29) vI (cs0:=[.int .i64 0,.int .i64 0,strOf [],.slice none 0 0]) rfl j (cs:=bR ⟨kind,start,lead,bE⟩ a n c) rfl (uw ..),?_⟩)⟩)⟩)⟩
 ·have:=dT e;omega
 ·have:=dT e;omega
 ·exact xg (v:= .agg ⟨bR ⟨kind,start,lead,bE⟩ a n c⟩) (pN Rh OB vI l (by simp[bR])) ⟨a,n,c,r,rfl,f,p.ok m,b.ok.trans m⟩
theorem R6{c:Nat}{l:List Int}(r:du h (.slice a n c) l)(i:Nat):FW SS 45 [.slice a n c,iA i] h (λv g=>v = .int .i64 (l.getD i 0)/\g=h):=by
 obtain rfl:=du.len r;refine ZY a _ c i h _ (aa (λq=>?_) (λq=>⟨?_,rfl⟩))
 ·have d:i<l.length:=by have:=dT q;omega
  obtain⟨p,b,e⟩:=r.at_ d;exact⟨_,b,_,e,rfl,rfl⟩
 ·have:l.length<=i:=by have:=dF q;omega
  rw[gD,List.getElem?_eq_none this];rfl
theorem No(s:Int):FW SS 51 [.int .i64 s] h (λv g=>v = .bool (kx s)/\g=h):=by
 unfold kx;refine WD s h _ (aa (λq=>⟨?_,rfl⟩) (λq=>⟨?_,rfl⟩))
 ·have:=dT q;rw[decide_eq_true (show 1<=s by omega),Bool.true_and]
 ·have:=dF q;rw[decide_eq_false (show ¬1<=s by omega),Bool.false_and]
theorem OR(s:Int):FW SS 68 [.int .i64 s] h (λv g=>v = .bool (!kx s)/\g=h):=by
 refine OQ s h _ ((No s).mono ?_);rintro _ g ⟨rfl,rfl⟩;exact⟨_,rfl,rfl,rfl⟩
theorem Sc(s:Int):FW SS 50 [.int .i64 s] h (λv g=>v = .bool (!kx s)/\g=h):=by
 refine Sb s h _ ((No s).mono ?_);rintro _ g ⟨rfl,rfl⟩;exact⟨_,rfl,rfl,rfl⟩
theorem SG{c:Nat}{l:List Int}(r:du h (.slice a n c) l)(t:l.length<=1000000):FW SS 49 [.slice a n c,.func (.func 68) ⟨[]⟩ ⟨[]⟩] h (λv g=>v = .bool (!l.all kx)/\g=h):=by
 obtain rfl:=du.len r;refine O2 a _ c h _ (Tc a _ c h _ ?_);refine zA a _ c (λj i g=>i<=l.length/\j=l.length-i/\g=h/\(l.drop i).all kx=l.all kx) _ (λj i=>?_) l.length (i:=0) ⟨by omega,rfl,rfl,by rw[drop_zero]⟩;intros;rename_i g f;obtain⟨w,u,rfl,b⟩:=f;refine aa (λq=>?_) (λq=>?_)
 ·have e:i<l.length:=by have:=dT q;omega
  obtain⟨p,k,o⟩:=r.at_ e;rw[GL e,all_cons]at b;refine⟨_,k,_,o,(OR _).mono ?_⟩;rintro _ m ⟨rfl,s⟩;obtain rfl:g=m:=s.symm;refine⟨_,rfl,aa (λd=>⟨_,rfl,?_,rfl⟩) (λd=>?_)⟩
  ·rw[not_eq_true']at d;rw[<-b,d,Bool.false_and,decide_eq_true (show(i:Int)>=0 by omega)];rfl
  ·rw[not_eq_false']at d;rw[d,Bool.true_and]at b;rw[aJ e (by omega)];exact bY (l.length-(i+1)) (by omega) ⟨by omega,rfl,rfl,b⟩
 ·obtain rfl:i=l.length:=by have:=dF q;omega
  rw[drop_length]at b;exact⟨_,rfl,by rw[<-b];rfl,rfl⟩
theorem SF{c:Nat}{l:List Int}(r:du h (.slice a n c) l)(t:l.length<=1000000):FW SS 49 [.slice a n c,.func (.func 50) ⟨[]⟩ ⟨[]⟩] h (λv g=>v = .bool (!l.all kx)/\g=h):=by
 obtain rfl:=du.len r;refine O1 a _ c h _ (Tb a _ c h _ ?_);refine zy a _ c (λj i g=>i<=l.length/\j=l.length-i/\g=h/\(l.drop i).all kx=l.all kx) _ (λj i=>?_) l.length (i:=0) ⟨by omega,rfl,rfl,by rw[drop_zero]⟩;intros;rename_i g f;obtain⟨w,u,rfl,b⟩:=f;refine aa (λq=>?_) (λq=>?_)
 ·have e:i<l.length:=by have:=dT q;omega
  obtain⟨p,k,o⟩:=r.at_ e;rw[GL e,all_cons]at b;refine⟨_,k,_,o,(Sc _).mono ?_⟩;rintro _ m ⟨rfl,s⟩;obtain rfl:g=m:=s.symm;refine⟨_,rfl,aa (λd=>⟨_,rfl,?_,rfl⟩) (λd=>?_)⟩
  ·rw[not_eq_true']at d;rw[<-b,d,Bool.false_and,decide_eq_true (show(i:Int)>=0 by omega)];rfl
  ·rw[not_eq_false']at d;rw[d,Bool.true_and]at b;rw[aJ e (by omega)];exact bY (l.length-(i+1)) (by omega) ⟨by omega,rfl,rfl,b⟩
 ·obtain rfl:i=l.length:=by have:=dF q;omega
  rw[drop_length]at b;exact⟨_,rfl,by rw[<-b];rfl,rfl⟩
theorem E7{c:Nat}(r:du h (.slice a n c) p):FW SS 40 [.slice a n c] h (λv g=>v = .bool (fE p)/\g=h):=by
 obtain rfl:=du.len r;unfold fE;refine OS a _ c h _ (aa (λq=>(SG r (by have:=dT q;omega)).mono ?_) (λq=>⟨?_,rfl⟩))
 ·rintro _ g ⟨rfl,rfl⟩;refine⟨_,rfl,?_,rfl⟩;have:=dT q;rw[decide_eq_true (show p.length<=200 by omega),Bool.true_and,Bool.not_not]
 ·have:=dF q;rw[decide_eq_false (show ¬p.length<=200 by omega),Bool.false_and]
def zW(A B:bt):Int:=if(cn A&&cn B)=true then(if A.kind=B.kind then 0 else 6)else 1
theorem Np{B:bt}{x:Option Addr}{z:Nat}(w:Wf h)(r:nO h)(u:Small M)(D:Small B)(A:dS h (.slice x n z) M.af)(t:dS h (.slice a m i) B.af):FW SS 57 [.agg ⟨bR M x n z⟩,.agg ⟨bR B a m i⟩] h (λv g=>v = .int .i64 (zW M B)/\Ok h g):=by
 obtain⟨C,k⟩:=fv w A;obtain⟨y,s⟩:=fv k.wf (t.ok k);have p:=k.trans s;have j:=C.ok s;refine WE _ _ h _ ⟨_,ja M x n z,_,ja B a m i,_,j.all,(qH (r.ok p) p.wf u j.row).mono ?_⟩;generalize (h.push (Bm M x n z)).push (Bm B a m i)=E at*;rintro _ G ⟨rfl,o⟩;have d:=p.trans o;have e:=y.ok o;unfold zW;refine⟨_,rfl,aa (λq=>⟨?_,d⟩) (λq=>⟨_,e.all,(qH (r.ok d) d.wf D e.row).mono ?_⟩)⟩
 ·rw[not_eq_true']at q;rw[q];rfl
 rw[not_eq_false']at q;rintro _ F ⟨rfl,l⟩;have f:=d.trans l;refine⟨_,rfl,aa (λc=>⟨?_,f⟩) (λc=>⟨_,dZ _,_,((j.ok o).ok l).l0,_,dZ _,_,(e.ok l).l0,aa (λb=>⟨?_,f⟩) (λb=>⟨?_,f⟩)⟩)⟩
 ·rw[not_eq_true']at c;rw[q,c];rfl
 ·rw[not_eq_false']at c;have b:M.kind≠B.kind:=by simpa using b
  rw[q,c,if_pos (show(true&&true)=true from rfl),if_neg b]
 ·rw[not_eq_false']at c;have b:M.kind=B.kind:=by simpa using b
  rw[q,c,if_pos (show(true&&true)=true from rfl),if_pos b]
end
end
variable{l:Nat}{t:List UInt8}
section
section
variable {hb g h:ae} {k:Nat} {kind start:Int} {lead:List UInt8} {bE:List dW}
theorem BU.HF(w:Wf hb)(b:BU hb g k kind start lead bE n)(l:List UInt8):∃u:dL,ah SS.P 9 (.pointer (some ⟨k,2,none⟩)) (strOf l) g=some (undef,u)/\BU hb (u.app g) k kind start l bE n/\Kp g (u.app g):=by
 obtain⟨a,t,c,p,f,h,q⟩:=b.ex;refine⟨_,iX zs9 f (i:=2) (by simp[fw]) rfl rfl,⟨⟨a,t,c,p,?_,h,q.other f (by omega) (by omega) _⟩,b.ok.set _ b.nk (b.ok.wf _ _ f) w,b.nk⟩,Nat.le_refl _,λj cs e z s d m _ _=>?_⟩
 ·show(g.set k _).get k=_;rw[ae.aw,if_pos rfl];rfl
 ·show(g.set k _).get j=_;rw[ae.aw,if_neg (λc=>by
   rw[c,f]at d;injection d with d
   injection d with _ r o
   exact m ⟨r.symm,o.symm⟩)]
  exact d
theorem BU.Kn(w:Wf hb)(b:BU hb g k kind start lead bE n)(z:Int):∃u:dL,ah SS.P 3 (.pointer (some ⟨k,1,none⟩)) (.int .i64 z) g=some (undef,u)/\BU hb (u.app g) k kind z lead bE n/\Kp g (u.app g):=by
 obtain⟨a,s,c,o,f,h,p⟩:=b.ex;refine⟨_,iX zs3 f (i:=1) (by simp[fw]) rfl rfl,⟨⟨a,s,c,o,?_,h,p.other f (by omega) (by omega) _⟩,b.ok.set _ b.nk (b.ok.wf _ _ f) w,b.nk⟩,Nat.le_refl _,λj cs e z r d l _ _=>?_⟩
 ·show(g.set k _).get k=_;rw[ae.aw,if_pos rfl];rfl
 ·show(g.set k _).get j=_;rw[ae.aw,if_neg (λc=>by
   rw[c,f]at d;injection d with d
   injection d with _ q m
   exact l ⟨q.symm,m.symm⟩)]
  exact d
theorem BU.one(b:BU hb g k kind start lead bE n):aj SS.P 9 g (.pointer (some ⟨k,4,none⟩))=some (strOf (dc kind)):=by
 obtain⟨a,j,c,f,d,e,h⟩:=b.ex;exact cx KT Rt d (i:=4) (by simp[fw])
theorem ir(w:Wf h)(o:Ok h g)(i:g.get m=some mO)(b:h.next<=m)(e:Int):
  xA (bh SS.P 29 []) λc=>xU (ah SS.P 29 (pA m) (.agg ⟨c⟩) g) g λu d=>dY SS [(pA m,some 29),(.int .i64 e,none)] d (Be h (tY,e)):=by
 obtain⟨u,j,f⟩:=NY w o i b (R:=(tY,e)) (a:=none) (n:=0) (c:=0) (ps:=[]) rfl (kj.nil g g) o (.inr ⟨rfl,rfl,rfl,rfl⟩);exact⟨_,Z3,u,j,f⟩
theorem oS(w:Wf h)(j:Wf hb)(b:BS hb g k kind start lead bE)(o:bE.length<=3000)(r:df bE<=30000)(m:Ok h hb)(l:hb.get n=some mO)(t:h.next<=n):
  FW SS 46 [pA k] g λv d=>∃cs:LV,∃q:Int,v=(.tuple ⟨[(.agg ⟨cs⟩),(.int .i64 q)]⟩)/\xU (ah SS.P 29 (pA n) (.agg ⟨cs⟩) d) d λu f=>dY SS [(pA n,some 29),(.int .i64 q,none)] f (Be h (⟨kind,start,lead,bE⟩,0)):=by
 refine(R9 j b o r).mono ?_;rintro _ f ⟨a,q,c,y,rfl,i,x,e⟩;obtain⟨u,s,p⟩:=NY w (m.trans e) (e.ext _ _ l) t (R:=(⟨kind,start,lead,bE⟩,0)) i x m (.inl (j _ _ l));exact⟨_,_,rfl,u,s,p⟩
end
def qv(kind:Int)(a b:List Int)(m:Nat):List dW:=(List.range m).map λi=>⟨[],[⟨a.getD i 0,b.getD i 0,dc kind,((i+1:Nat):Int)⟩]⟩
def Gd(kind:Int)(a b:List Int)(c:List UInt8):bt:=⟨kind,0,c,qv kind a b (max a.length b.length)++[⟨dc kind,[]⟩]⟩
def AP(kind:Int)(b c:List Int)(a:List UInt8):bt×Int:=if(fE b&&(fE c&&bJ kind a))=true then(Gd kind b c a,0)else(tY,1)
theorem pv(kind:Int)(a b:List Int)(m:Nat):(qv kind a b m).length=m:=by unfold qv;simp
theorem Gc(kind:Int)(a b:List Int)(m:Nat):qv kind a b (m+1)=qv kind a b m++[⟨[],[⟨a.getD m 0,b.getD m 0,dc kind,((m+1:Nat):Int)⟩]⟩]:=by
 unfold qv;rw[range_succ,map_append];rfl
theorem DN(kind:Int)(a b:List Int):∀m,df (qv kind a b m)=m
 |0=>rfl
 |m+1=>by rw[Gc,ey,DN kind a b m];rfl
theorem Y9(i o:Int)(w:List UInt8)(t:Int):bh SS.P 70 [(0,.int .i64 i),(1,.int .i64 o),(2,strOf w),(3,.int .i64 t)]=some (.agg ⟨gC ⟨i,o,w,t⟩⟩):=by kernel_rfl
theorem KG(h:fE p=true):p.length<=200:=by
 unfold fE at h;rw[and_eq_true]at h;exact dT h.1
theorem Co{h:ae}{kind:Int}{G I:Option Addr}{d f:List Int}(w:Wf h)(tb:nO h)(S:du h (.slice G n m) d)(W:du h (.slice I j l) f)(hl:t.length<=1000000000):
  FW SS 13 [.int .i64 kind,.slice G n m,.slice I j l,strOf t] h (Be h (AP kind d f t)):=by
 obtain rfl:=du.len S;obtain rfl:=du.len W;have v:=(Ok.refl w).push mO;have V:=aI h mO;have nb:h.next<(h.push mO).next:=lt_succ_self _;refine Sm kind G _ m I _ l t h _ ⟨_,qD,?_⟩;generalize h.push mO=g1 at*;refine(E7 (du.ok S v)).mono ?_;rintro _ z ⟨rfl,e2⟩;obtain rfl:g1=z:=e2.symm;unfold AP;refine⟨_,rfl,aa (λq=>?_) (λq=>(E7 (du.ok W v)).mono ?_)⟩
 ·rw[not_eq_true']at q;rw[q,if_neg (show ¬(false&&(fE f&&bJ kind t))=true by simp)];exact ir w v V (Nat.le_refl _) 1
 rw[not_eq_false']at q;rintro _ z ⟨rfl,e2⟩;obtain rfl:g1=z:=e2.symm;refine⟨_,rfl,aa (λA=>?_) (λA=>(mc kind t hl (tb.ok v) v.wf).mono ?_)⟩
 ·rw[not_eq_true']at A;rw[A,if_neg (show ¬(fE d&&(false&&bJ kind t))=true by simp)];exact ir w v V (Nat.le_refl _) 1
 rw[not_eq_false']at A;rintro _ z ⟨rfl,r⟩;have C:=v.trans r;have O:=r.ext _ _ V;refine⟨_,rfl,aa (λB=>?_) (λB=>(mw kind r.wf).mono ?_)⟩
 ·rw[not_eq_true']at B;rw[B,if_neg (show ¬(fE d&&(fE f&&false))=true by simp)];exact ir w C O (Nat.le_refl _) 1
 rw[not_eq_false']at B;rw[q,A,B,if_pos (show(true&&(true&&true))=true from rfl)];have lx:=KG q;have ly:=KG A;rintro _ g3 ⟨k,rfl,b3⟩;obtain⟨u,st,b4,_⟩:=b3.HF r.wf t;refine⟨_,rfl,lF ⟨_,kn k,_,nv k,u,st,(iu r.wf b4 (by simp) []).mono ?_⟩⟩;rintro _ g5 ⟨rfl,b5,_⟩;have hm:(if(f.length:Int)>(d.length:Int)then(f.length:Int)else(d.length:Int))=((max d.length f.length:Nat):Int):=by
  split<;>omega
 refine⟨_,rfl,_,tp _ _ _,?_⟩;rw[hm];obtain⟨F,P⟩:∃F,F=max d.length f.length:=⟨_,rfl⟩
 have x7:F<=200:=by omega
 rw[<-P];refine zn kind G _ m I _ l t h.next k F (λmz s i g=>i<=F/\mz=F-i/\s=i/\BS z g k kind 0 t (qv kind d f i++[⟨[],[]⟩])) _ (λmz s i=>?_) F (s:=0) (i:=0) ⟨by omega,rfl,rfl,b5⟩;intros;rename_i g x3;obtain⟨f1,f2,rfl,b⟩:=x3;have D:=GU (qv kind d f s) (⟨[],[]⟩:dW) [] (pv kind d f s);refine aa (λp=>?_) (λp=>?_)
 ·have hi:s<F:=by have:=dT p;omega
  refine(iu r.wf b (by rw[length_append,pv];simp;omega) []).mono ?_;rintro _ g6 ⟨rfl,b6,_⟩;have or:=(Ok.refl b6.ok.wf).room 15;have o:=b6.ux or;have M:=C.trans o.ok;refine⟨_,rfl,(R6 (du.ok S M) s).mono ?_⟩;rintro _ T ⟨rfl,e7⟩;obtain rfl:Go.Ab.room g6 15=T:=e7.symm;refine⟨_,rfl,(R6 (du.ok W M) s).mono ?_⟩;rintro _ T ⟨rfl,e7⟩;obtain rfl:Go.Ab.room g6 15=T:=e7.symm;have R:(qv kind d f s++[(⟨[],[]⟩:dW)]).length=s+1:=by rw[length_append,pv];rfl
  rw[R];have J:(qv kind d f s++[(⟨[],[]⟩:dW)]++[(⟨[],[]⟩:dW)])[s]?=some (⟨[],[]⟩:dW):=by
   rw[append_assoc];exact GU (qv kind d f s) (⟨[],[]⟩:dW) [⟨[],[]⟩] (pv kind d f s)
  have y:(qv kind d f s++[(⟨[],[]⟩:dW)]++[(⟨[],[]⟩:dW)]).set s (⟨[],[]++[⟨d.getD s 0,f.getD s 0,dc kind,((s+1:Nat):Int)⟩]⟩:dW)=qv kind d f (s+1)++[⟨[],[]⟩]:=by
   rw[append_assoc,Gc,append_assoc];exact uG (qv kind d f s) (⟨[],[]⟩:dW) _ [⟨[],[]⟩] (pv kind d f s)
  have x0:df (qv kind d f s++[(⟨[],[]⟩:dW)]++[(⟨[],[]⟩:dW)])<=100000:=by
   rw[ey,ey,DN];show s+0+0<=_;omega
  refine⟨_,rfl,_,zw k,_,o.one,_,Y9 _ _ _ _,(wX r.wf o J x0 _).mono ?_⟩;rintro _ g8 ⟨rfl,H,_⟩;rw[y]at H;rw[aJ hi (by omega)];exact⟨rfl,⟨o.one,kM _⟩,⟨o.one,kM _⟩,jb (F-(s+1)) (by omega) ⟨by omega,rfl,rfl,H⟩⟩
 ·obtain rfl:s=F:=by have:=dF p;omega
  have o:=b.ux ((Ok.refl b.ok.wf).room 13);obtain⟨a,y2,c,Z,Y,N,K⟩:=o.ex;obtain⟨pp,hp,x5⟩:∃p,Z[s]?=some p/\p.1=⟨[],[]⟩:=by
   rw[<-N,getElem?_map]at D;exact map_eq_some_iff.1 D
  have X:0<(Z.map AN).length:=by have:=(List.getElem?_eq_some_iff.1 hp).1;rw[lM];omega
  obtain⟨kr,x9,cr,Q,y0⟩:=K.row.blk X;injection Q with Q en ec
  subst Q en ec;obtain⟨i1,_,_⟩:=K.at_ hp;obtain⟨uu,x2,x4,x1,x6,x8⟩:=K.acA r.wf o.ok hp (dc kind);obtain⟨y1,U⟩:=nW K.row (k:=kr) rfl;have L:=x6 _ _ Y (λe=>km U Y (by decide) e);have y:(Z.set s (⟨dc kind,pp.1.arcs⟩,pp.2)).map (·.1)=qv kind d f s++[⟨dc kind,[]⟩]:=by
   rw[map_set,N,x5];exact uG (qv kind d f s) (⟨[],[]⟩:dW) _ [] (pv kind d f s)
  have E:∀x:dW,x.arcs=[]->df (qv kind d f s++[x])=s:=λx hx=>by
   rw[ey,DN,dt,hx];rfl
  have H:BS z (uu.app (Go.Ab.room g 13)) k kind 0 t (qv kind d f s++[⟨dc kind,[]⟩]):=by
   refine⟨⟨_,_,_,_,?_,y,x4⟩,x1,o.nk⟩;rw[E _ rfl];rw[E _ rfl]at L;exact L
  refine⟨_,kn k,_,cI k,_,_,_,cx zN Eh Y (i:=3) (by simp[fw]),_,zw k,_,o.one,_,i1,_,oN _ _,uu,x2,?_⟩;have e:Gd kind d f t=⟨kind,0,t,qv kind d f s++[⟨dc kind,[]⟩]⟩:=by unfold Gd;rw[<-P]
  rw[e];exact oS w r.wf H (by rw[length_append,pv];simp;omega) (by rw[E _ rfl];omega) C O (Nat.le_refl _)
end
section
structure aa9(M:bt):Prop where
 n:M.af.length<=300
 s:df M.af<=2000
 start:0<=M.start/\M.start<M.af.length
 to:∀s∈M.af,∀a∈s.arcs,0<=a.t/\a.t<M.af.length
theorem rr(c:Small M)(h:cn M=true):aa9 M:=by
 have b:=zE h;exact⟨c.bE,c.tot,b.start,λs d a e=>(b.arc s d a e).2⟩
theorem mi.kI(k:Nat)(g:ae):mi k none 60 [] [] g:=⟨rfl,rfl,rfl⟩
theorem DK{x:Option Addr}{y z:Nat}(r:dS g (.slice x y z) M.af):dC 4 (.agg ⟨bR M x y z⟩) (.agg ⟨bR M x y z⟩)=true:=by
 obtain⟨t,d,l,q,m⟩:=r;have:∀{e i:Nat}{j:List (List Value)},H2 g e i (.slice x y z) j->dC 3 (.slice x y z) (.slice x y z)=true:=by
  intro e i j h;obtain⟨_,⟨d|d,_⟩|⟨k,o,cs,p,z',c,s,d,_⟩⟩:=h
  ·injection d with a b c;subst a b c;simp[dC]
  ·exact absurd d m
  ·injection d with a b c;subst a b c;simp[dC]
 have h:=this l;have e:dC 4 (.agg ⟨bR M x y z⟩) (.agg ⟨bR M x y z⟩)=(dC 3 (.int .i64 M.kind) (.int .i64 M.kind)&&(dC 3 (.int .i64 M.start) (.int .i64 M.start)&&(dC 3 (strOf M.lead) (strOf M.lead)&&(dC 3 (.slice x y z) (.slice x y z)&&true)))):=rfl;have f:∀a:Int,dC 3 (.int .i64 a) (.int .i64 a)=true:=λa=>by simp[dC]
 have n:dC 3 (strOf M.lead) (strOf M.lead)=true:=by simp[dC,strOf]
 rw[e,f,f,n,h];rfl
def qu(X:bt):List dW->List dW
 |[]=>[]
 |a::r=>⟨a.f,a.arcs++[⟨0,0,X.lead,((r.length+1:Nat):Int)+X.start⟩]⟩::(r++X.af.map (pB (r.length+1) none))
def Vu(A B:bt):bt:=⟨A.kind,0,dc A.kind,qu B (qu A [⟨[],[]⟩])⟩
def HP(A B:bt):bt×Int:=if zW A B=0 then(Vu A B,0)else(tY,zW A B)
theorem KC(X:bt)(a:List dW)(h:a≠[]):(qu X a).length=a.length+X.af.length/\df (qu X a)<=df a+df X.af+X.af.length+1/\qu X a≠[]:=by
 cases a with
 |nil=>exact absurd rfl h
 |cons b r=>
  have:=mT (r.length+1) none X.af;refine⟨by unfold qu;simp;omega,?_,by unfold qu;simp⟩;unfold qu;rw[dt,ey,dt];simp only[length_append,List.length_singleton];omega
theorem adl(A B:bt)(x x':Option Addr)(y z y' z':Nat):aF SS.P 86 2 [(0,.agg ⟨bR A x y z⟩),(1,.agg ⟨bR B x' y' z'⟩)]=some (.cells (bR A x y z++bR B x' y' z') 29 4 true,mh 2 2):=by cases x<;>cases x'<;>kernel_rfl
theorem aak(k:Nat):ax SS.P 86 (sA k 2 2) (iA 0)=some (.pointer (some ⟨k,0,none⟩)):=by kernel_rfl
theorem aal(k:Nat):ax SS.P 86 (sA k 2 2) (iA 1)=some (.pointer (some ⟨k,4,none⟩)):=by kernel_rfl
theorem Nq{A B:bt}(h:zW A B=0):cn A=true/\cn B=true/\A.kind=B.kind:=by
 unfold zW at h;split at h
 ·next c=>
  rw[and_eq_true]at c;split at h
  ·next e=>exact⟨c.1,c.2,e⟩
  ·cases h
 ·cases h
section
variable {h:ae} {A B:bt} {x x':Option Addr} {y z y' z':Nat}
theorem OP(w:Wf h)(tb:nO h)(sa:Small A)(sb:Small B)(ra:dS h (.slice x y z) A.af)(rb:dS h (.slice x' y' z') B.af):FW SS 25 [.agg ⟨bR A x y z⟩,.agg ⟨bR B x' y' z'⟩] h (Be h (HP A B)):=by
 obtain⟨ma,H⟩:=fv w ra;obtain⟨mb,M⟩:=fv H.wf (rb.ok H);have n3:h.next<=((h.push (Bm A x y z)).push (Bm B x' y' z')).next:=(H.trans M).nx;have o3:=(Ok.refl M.wf).push mO;have kb:=aI ((h.push (Bm A x y z)).push (Bm B x' y' z')) mO;have ok:=(H.trans M).trans o3;have G:=(ma.ok M).ok o3;have F:=mb.ok o3;refine OO _ _ h _ ⟨_,ja A x y z,_,ja B x' y' z',_,qD,_,G.all,_,F.all,(Np ok.wf (tb.ok ok) sa sb G.row F.row).mono ?_⟩;generalize y9:(h.push (Bm A x y z)).next=k2 at*;generalize ((h.push (Bm A x y z)).push (Bm B x' y' z')).next=kr at*;generalize (((h.push (Bm A x y z)).push (Bm B x' y' z')).push mO)=g3 at*;rintro _ K ⟨rfl,c⟩;have S:=ok.trans c;have E:=G.ok c;have V:=F.ok c;have N:=c.ext _ _ kb;unfold HP;refine⟨_,rfl,aa (λq=>?_) (λq=>⟨_,dZ _,_,E.l0,(mw A.kind c.wf).mono ?_⟩)⟩
 ·have q:zW A B≠0:=by simpa using q
  rw[if_neg q];exact ir w S N n3 _
 have q:zW A B=0:=by simpa using q
 rw[if_pos q];obtain⟨vA,vB,y8⟩:=Nq q;have Z:=rr sa vA;have cB:=rr sb vB;rintro _ g5 ⟨k,rfl,b5⟩;refine⟨_,rfl,(iu c.wf b5 (by simp) []).mono ?_⟩;rintro _ g6 ⟨rfl,J,z3⟩;have x4:=E.ok J.ok;have y7:=V.ok J.ok;have o7:=(Ok.refl J.ok.wf).push (.cells (bR A x y z++bR B x' y' z') 29 4 true);have b7:=J.ux o7;have x5:=aI g6 (.cells (bR A x y z++bR B x' y' z') 29 4 true);refine⟨_,rfl,_,x4.all,_,y7.all,_,_,_,adl A B x x' y z y' z',?_⟩;generalize g6.push (.cells (bR A x y z++bR B x' y' z') 29 4 true)=g7 at*;generalize g6.next=W at*;have hU:∀i,∃U:List dW,(i=0->U=[⟨[],[]⟩])/\(i=1->U=qu A [⟨[],[]⟩])/\(i=2->U=qu B (qu A [⟨[],[]⟩])):=λi=>by
  by_cases h0:i=0
  ·exact⟨_,λ_=>rfl,λe=>by omega,λe=>by omega⟩
  by_cases h1:i=1
  ·exact⟨_,λe=>by omega,λ_=>rfl,λe=>by omega⟩
  ·exact⟨_,λe=>by omega,λe=>by omega,λ_=>rfl⟩
 obtain⟨O,z4,x6⟩:=KC A [⟨[],[]⟩] (by simp);obtain⟨x7,z0,z5⟩:=KC B _ x6;have y5:df ([⟨[],[]⟩]:List dW)=0:=rfl;have:=Z.n;have:=cB.n;have:=Z.s;have:=cB.s;refine wV (bR A x y z) (bR B x' y' z') kr k 0 W 2 2 (λv i g=>i<=2/\v=2-i/\(∃a r,BS K g k A.kind 0 (dc A.kind) (a::r)/\(i=0->a::r=[⟨[],[]⟩])/\(i=1->a::r=qu A [⟨[],[]⟩])/\(i=2->a::r=qu B (qu A [⟨[],[]⟩])))/\Kp g7 g) _ (λv i=>?_) 2 (i:=0) ⟨by omega,rfl,⟨⟨[],[]⟩,[],b7,λ_=>rfl,λe=>by omega,λe=>by omega⟩,Kp.refl _⟩;intros;rename_i g x3;obtain⟨f1,f2,⟨a,r,b,u0,u1,u2⟩,kp⟩:=x3;refine aa (λp=>?_) (λp=>?_)
 ·have hi:i=0\/i=1:=by have:=dT p;omega
  have kl:=kp.2 _ _ _ _ _ x5 (by decide) (by decide) (by decide);have step:∀(X:bt)(f:Option Addr)(l j:Nat),dS K (.slice f l j) X.af->aa9 X->(a::r).length<=1000->df (a::r)<=10000->(∀o u,o::u=qu X (a::r)->(i+1=0->o::u=[⟨[],[]⟩])/\(i+1=1->o::u=qu A [⟨[],[]⟩])/\(i+1=2->o::u=qu B (qu A [⟨[],[]⟩])))->
    xN (bq SS.P 29) g λz7 P=>xU (ah SS.P 29 (pA (g.next)) (.agg ⟨bR X f l j⟩) P) P λz2 D=>xP (aW SS.P 29 (pA (g.next)) 2) λR=>xS (aj SS.P 9 (room D 8) (.pointer (some R))) λm=>xA (aj SS.P 29 (room D 8) (pA (g.next))) λx8=>FW SS 59 [(pA k),(.agg ⟨x8⟩),(.func (.func 60) ⟨[]⟩ ⟨[]⟩)] (room D 8) λy3 T=>yI .i64 y3 λy0=>FW SS 58 [(pA k),(iA 0),(strOf m),(.int .i64 y0)] T λy1 y6=>y1=(.tuple ⟨[]⟩)/\(aj SS.P 9 T (.pointer (some R))=some (strOf m)/\dC 4 (strOf m) (strOf m)=true)/\aB (eR (lU kr k 0 W 2 2) (λv i g=>i<=2/\v=2-i/\(∃a r,BS K g k A.kind 0 (dc A.kind) (a::r)/\(i=0->a::r=[⟨[],[]⟩])/\(i=1->a::r=qu A [⟨[],[]⟩])/\(i=2->a::r=qu B (qu A [⟨[],[]⟩])))/\Kp g7 g)) v [(pA kr),(pA k),(iA 0),(sA W 2 2),(iA 2),(.int .i64 (wrap .i64 ((i:Int)+1)))] y6:=by
   intro X f l j rX L hl hs I;obtain⟨o8,k8⟩:=pa (t:=29) (cs:=bR X f l j) b.ok.wf ((Ok.refl b.ok.wf).push mO) (aI g mO) (Nat.le_refl _);have b8:=b.ux o8;have z1:=k8;refine⟨_,qD,_,kV (t:=29) vI (cs0:=[.int .i64 0,.int .i64 0,strOf [],.slice none 0 0]) rfl (aI g mO) (cs:=bR X f l j) rfl (uw ..),?_⟩;generalize (dL.set g.next (.cells (bR X f l j) 29 0 true)).app (g.push mO)=g8 at*;have or:=(Ok.refl b8.ok.wf).room 8;have b9:=b8.ux or;have Y:MB (Go.Ab.room g8 8) g.next X f l j:=⟨k8,rX.ok b9.ok⟩
   have:=L.n;have:=L.s;refine⟨_,nv _,_,Y.l2,_,Y.all,(qE c.wf b9 rX (mi.kI k _) (by omega) (by omega) L.start L.to).mono ?_⟩;rintro _ y2 ⟨rfl,Q,C⟩;have x1:MB y2 g.next X f l j:=⟨C.2 _ _ _ _ _ Y.box (by decide) (by decide) (by decide),rX.ok Q.ok⟩
   have z6:=mT (a::r).length none X.af;refine⟨_,rfl,(Bq c.wf Q (s:=0) (t:=a) rfl (by rw[ey];omega) X.lead (((a::r).length:Int)+X.start)).mono ?_⟩;rintro _ x9 ⟨rfl,x2,x0⟩;rw[aJ (i:=i) (n:=2) (by omega) (by omega)];have y4:BS K x9 k A.kind 0 (dc A.kind) (⟨a.f,a.arcs++[⟨0,0,X.lead,((r.length+1:Nat):Int)+X.start⟩]⟩::(r++X.af.map (pB (r.length+1) none))):=x2;refine⟨rfl,⟨x1.l2,kM _⟩,bY (2-(i+1)) (by omega) ⟨by omega,rfl,⟨⟨a.f,a.arcs++[⟨0,0,X.lead,((r.length+1:Nat):Int)+X.start⟩]⟩,r++X.af.map (pB (r.length+1) none),y4,I _ _ rfl⟩,(((kp.trans (L9 o8)).trans (L9 or)).trans C).trans x0⟩⟩
  rcases hi with rfl|rfl
  ·have d:=u0 rfl;have ld:=pN Rh OB vI kl (i:=0) (by simp[bR]);refine⟨_,aak _,_,ld,step A x y z E.row Z (by rw[d];simp) (by rw[d];simp[y5]) λo u e=>⟨λe=>by omega,λ_=>by rw[e,d],λe=>by omega⟩⟩
  ·have d:=u1 rfl;have ld:=pN Rh OB vI kl (i:=4) (by simp[bR]);refine⟨_,aal _,_,ld,step B x' y' z' V.row cB (by rw[d,O];simp;omega) (by rw[d];omega) λo u e=>⟨λe=>by omega,λe=>by omega,λ_=>by rw[e,d]⟩⟩
 ·obtain rfl:i=2:=by have:=dF p;omega
  have d:=u2 rfl;rw[d]at b;exact oS w c.wf b (by rw[x7,O];simp;omega) (by omega) S N n3
end
end
variable{s:List UInt8}
section
def Br(A B:bt)(c:List UInt8):bt:=⟨A.kind,(B.af.length:Int)+A.start,c,B.af.map (pB 0 none)++A.af.map (pB B.af.length (some (((0:Nat):Int)+B.start)))⟩
def Bs(A B:bt)(c:List UInt8):bt×Int:=if zW A B=0 then(Br A B c,0)else(tY,zW A B)
def tQ(A:bt):bt:=⟨A.kind,0,dc A.kind,⟨dc A.kind,[⟨0,0,A.lead,((1:Nat):Int)+A.start⟩]⟩::A.af.map (pB 1 (some ((0:Nat):Int)))⟩
def F2(A:bt):bt×Int:=if cn A=true then(tQ A,0)else(tY,1)
def ME(A:bt)(c:List UInt8):bt:=⟨A.kind,((0:Nat):Int)+A.start,c,A.af.map (pB 0 none)⟩
def HC(A:bt)(a c:List UInt8):bt×Int:=if(cn A&&bJ A.kind a)=true then(ME A c,0)else(tY,1)
section
variable {h:ae} {A B:bt} {x x':Option Addr} {y z y' z':Nat} {c:List UInt8}
theorem Lk(w:Wf h)(R:nO h)(N:Small A)(V:Small B)(ra:dS h (.slice x y z) A.af)(rb:dS h (.slice x' y' z') B.af)(F:zW A B=0->dh A.kind A.lead B.lead=some c):FW SS 31 [.agg ⟨bR A x y z⟩,.agg ⟨bR B x' y' z'⟩] h (Be h (Bs A B c)):=by
 obtain⟨ma,l⟩:=fv w ra;obtain⟨mb,r⟩:=fv l.wf (rb.ok l);have J:h.next<=((h.push (Bm A x y z)).push (Bm B x' y' z')).next:=(l.trans r).nx;have D:=(Ok.refl r.wf).push mO;have kb:=aI ((h.push (Bm A x y z)).push (Bm B x' y' z')) mO;have E:=(l.trans r).trans D;have i:=(ma.ok r).ok D;have f:=mb.ok D;refine Lj _ _ h _ ⟨_,ja A x y z,_,ja B x' y' z',_,qD,_,i.all,_,f.all,(Np E.wf (R.ok E) N V i.row f.row).mono ?_⟩;generalize x2:(h.push (Bm A x y z)).next=k2 at*;generalize ((h.push (Bm A x y z)).push (Bm B x' y' z')).next=kr at*;generalize (((h.push (Bm A x y z)).push (Bm B x' y' z')).push mO)=g3 at*;rintro _ g4 ⟨rfl,a⟩;have g:=E.trans a;have b:=i.ok a;have j:=f.ok a;have s:=a.ext _ _ kb;unfold Bs;refine⟨_,rfl,aa (λq=>?_) (λq=>⟨_,dZ _,_,b.l0,(mw A.kind a.wf).mono ?_⟩)⟩
 ·have q:zW A B≠0:=by simpa using q
  rw[if_neg q];exact ir w g s J _
 have q:zW A B=0:=by simpa using q
 rw[if_pos q];have F:=F q;obtain⟨O,W,p⟩:=Nq q;have m:=rr N O;have n:=rr V W;have Q:=zE O;have L:=zE W;have Z:aM A.kind B.lead=true:=by rw[p];exact L.lead
 rintro _ g5 ⟨k,rfl,o⟩;have T:=b.ok o.ok;have K:=j.ok o.ok;refine⟨_,rfl,_,nv _,_,T.l2,_,nv _,_,K.l2,(E6 a.wf (R.ok g) o Q.lead Z F).mono ?_⟩;rintro _ g6 ⟨rfl,o6⟩;have b6:=o.ux o6;obtain⟨u7,P,S,x3⟩:=b6.HF a.wf c;have X:=j.ok S.ok;have:=m.n;have:=n.n;have:=m.s;have:=n.s;refine⟨_,rfl,lF ⟨_,kn k,_,nv k,u7,P,_,X.all,(qE a.wf S j.row (mi.kI k _) (by simp;omega) (by simp[df];unfold df at*;omega) n.start n.to).mono ?_⟩⟩;rintro _ g8 ⟨rfl,M,x4⟩;have or:=(Ok.refl M.ok.wf).room 11;have C:=M.ux or;have H:=b.ok C.ok;have x5:=mT 0 none B.af;have d:(([]:List dW)++B.af.map (pB ([]:List dW).length none)).length=B.af.length:=by simp
 refine⟨_,rfl,_,H.all,(Cn (k:=k) C.ok.wf _).mono ?_⟩;rintro _ x7 ⟨fc,rfl,lv,G⟩;have t:=C.ux G;have v:=b.ok t.ok;refine⟨_,_,_,rfl,(qE a.wf t b.row lv (by rw[d];omega) (by show df (B.af.map (pB 0 none))+_+_<=_;omega) m.start m.to).mono ?_⟩;rintro _ x6 ⟨rfl,I,x0⟩;have x8:=mT B.af.length (some (((0:Nat):Int)+B.start)) A.af;obtain⟨Y,u,U,x1⟩:=I.Kn a.wf ((([]++B.af.map (pB ([]:List dW).length none)).length:Int)+A.start);refine⟨_,rfl,lF ⟨_,kn k,_,ti k,Y,u,⟨v.all,DK b.row⟩,?_⟩⟩;have e:Br A B c=⟨A.kind,(([]++B.af.map (pB ([]:List dW).length none)).length:Int)+A.start,c,[]++B.af.map (pB ([]:List dW).length none)++A.af.map (pB ([]++B.af.map (pB ([]:List dW).length none)).length (some ((([]:List dW).length:Int)+B.start)))⟩:=by
  unfold Br;rw[d];rfl
 rw[e];refine oS w a.wf U ?_ ?_ g s J
 ·rw[length_append,d,lM];omega
 ·rw[d,ey];show df (B.af.map (pB 0 none))+df (A.af.map (pB B.af.length (some (((0:Nat):Int)+B.start))))<=_;omega
theorem II(w:Wf h)(N:nO h)(C:Small A)(M:dS h (.slice x y z) A.af):FW SS 33 [.agg ⟨bR A x y z⟩] h (Be h (F2 A)):=by
 obtain⟨Q,j⟩:=fv w M;have p:h.next<=(h.push (Bm A x y z)).next:=j.nx;have H:=(Ok.refl j.wf).push mO;have K:=aI (h.push (Bm A x y z)) mO;have m:=j.trans H;have c:=Q.ok H;refine Sg _ h _ ⟨_,ja A x y z,_,qD,_,c.all,(qH (N.ok m) m.wf C c.row).mono ?_⟩;generalize (h.push (Bm A x y z)).next=W at*;generalize (h.push (Bm A x y z)).push mO=g3 at*;rintro _ u ⟨rfl,b⟩;have i:=m.trans b;have a:=c.ok b;have f:=b.ext _ _ K;unfold F2;refine⟨_,rfl,aa (λq=>?_) (λq=>⟨_,dZ _,_,a.l0,(mw A.kind b.wf).mono ?_⟩)⟩
 ·rw[not_eq_true']at q;rw[q,if_neg (by simp)];exact ir w i f p _
 rw[not_eq_false']at q;rw[if_pos q];have d:=rr C q;have:=d.n;have:=d.s;rintro _ Z ⟨k,rfl,E⟩;refine⟨_,rfl,lF ⟨_,zw k,_,E.one,(iu b.wf E (by simp) _).mono ?_⟩⟩;rintro _ X ⟨rfl,r,S⟩;have R:=(Ok.refl r.ok.wf).room 11;have l:=r.ux R;have g:=a.ok l.ok;refine⟨_,rfl,_,nv _,_,g.l2,_,g.all,(Cn (k:=k) l.ok.wf _).mono ?_⟩;rintro _ V ⟨Y,rfl,L,J⟩;have B:=l.ux J;have e:=a.ok B.ok;have O:df ([]++[(⟨dc A.kind,[]⟩:dW)])=0:=rfl;refine⟨_,_,_,rfl,(qE b.wf B a.row L (by simp;omega) (by rw[O];omega) d.start d.to).mono ?_⟩;rintro _ P ⟨rfl,D,T⟩;have n:=a.ok D.ok;have U:=mT 1 (some ((0:Nat):Int)) A.af;have v:BS u P k A.kind 0 (dc A.kind) (⟨dc A.kind,[]⟩::A.af.map (pB 1 (some ((0:Nat):Int)))):=D;refine⟨_,rfl,(Bq b.wf v (s:=0) (t:=⟨dc A.kind,[]⟩) rfl (by rw[dt];show 0+_<=_;omega) A.lead (((1:Nat):Int)+A.start)).mono ?_⟩;rintro _ G ⟨rfl,F,I⟩;have o:BS u G k A.kind 0 (dc A.kind) (⟨dc A.kind,[⟨0,0,A.lead,((1:Nat):Int)+A.start⟩]⟩::A.af.map (pB 1 (some ((0:Nat):Int)))):=F;refine⟨rfl,⟨e.l2,kM _⟩,⟨n.l2,kM _⟩,⟨e.all,DK a.row⟩,oS w b.wf o (by rw[length_cons,lM];omega) (by rw[dt];show 1+_<=_;omega) i f p⟩
theorem OJ(w:Wf h)(u:nO h)(G:Small A)(P:s.length<=1000000000)(Q:dS h (.slice x y z) A.af)(C:cn A=true->bJ A.kind s=true->dh A.kind s A.lead=some c):FW SS 37 [.agg ⟨bR A x y z⟩,strOf s] h (Be h (HC A s c)):=by
 obtain⟨T,p⟩:=fv w Q;have r:h.next<=(h.push (Bm A x y z)).next:=p.nx;have K:=(Ok.refl p.wf).push mO;have O:=aI (h.push (Bm A x y z)) mO;have B:=p.trans K;have i:=T.ok K;refine OI _ s h _ ⟨_,ja A x y z,_,qD,_,i.all,(qH (u.ok B) B.wf G i.row).mono ?_⟩;generalize (h.push (Bm A x y z)).next=kr at*;generalize (h.push (Bm A x y z)).push mO=g3 at*;rintro _ Y ⟨rfl,l⟩;have g:=B.trans l;have n:=i.ok l;have o:=l.ext _ _ O;unfold HC;refine⟨_,rfl,aa (λq=>?_) (λq=>⟨_,dZ _,_,n.l0,(mc A.kind s P (u.ok g) l.wf).mono ?_⟩)⟩
 ·rw[not_eq_true']at q;rw[q,if_neg (by simp)];exact ir w g o r _
 rw[not_eq_false']at q;rintro _ g5 ⟨rfl,a⟩;have f:=g.trans a;have d:=n.ok a;have m:=a.ext _ _ o;refine⟨_,rfl,aa (λb=>?_) (λb=>⟨_,dZ _,_,d.l0,(mw A.kind a.wf).mono ?_⟩)⟩
 ·rw[not_eq_true']at b;rw[b,if_neg (by simp)];exact ir w f m r _
 rw[not_eq_false']at b;rw[q,b,if_pos (show(true&&true)=true from rfl)];have C:=C q b;have j:=rr G q;have I:=zE q;have:=j.n;have:=j.s;rintro _ g6 ⟨k,rfl,t⟩;have E:=d.ok t.ok;refine⟨_,rfl,_,nv _,_,E.l2,(E6 a.wf (u.ok f) t (sn b) I.lead C).mono ?_⟩;rintro _ Z ⟨rfl,U⟩;have S:=t.ux U;obtain⟨N,L,F,V⟩:=S.HF a.wf c;have D:=d.ok F.ok;refine⟨_,rfl,lF ⟨_,kn k,_,nv k,N,L,_,D.all,(qE a.wf F d.row (mi.kI k _) (by simp;omega) (by simp[df];unfold df at*;omega) j.start j.to).mono ?_⟩⟩;rintro _ g9 ⟨rfl,R,W⟩;have X:=mT 0 none A.af;obtain⟨H,v,J,M⟩:=R.Kn a.wf ((([]:List dW).length:Int)+A.start);refine⟨_,rfl,lF ⟨_,kn k,_,ti k,H,v,?_⟩⟩;have e:ME A c=⟨A.kind,(([]:List dW).length:Int)+A.start,c,[]++A.af.map (pB ([]:List dW).length none)⟩:=rfl;rw[e];refine oS w a.wf J ?_ ?_ f m r
 ·rw[length_append,lM];simp;omega
 ·show df (A.af.map (pB 0 none))<=_;omega
end
end
section
def l9(A:bt)(n:Int)(m i:Nat):List dW:=(List.range (m+1)).map λ(j:Nat)=>⟨if(j:Int)>=n then dc A.kind else[],if j<i then[⟨0,0,A.lead,((m+1+j*A.af.length:Nat):Int)+A.start⟩]else[]⟩
def ph(A:bt)(m i:Nat):List dW:=(List.range i).flatMap λ(j:Nat)=>A.af.map (pB (m+1+j*A.af.length) (some ((j+1:Nat):Int)))
def acv(A:bt)(n:Int)(m:Nat):bt:=⟨A.kind,0,dc A.kind,l9 A n m m++ph A m m⟩
def X9(A:bt)(n a:Int):bt×Int:=if cn A=true/\0<=n/\n<=a/\a<=30 then(acv A n a.toNat,0)else(tY,1)
section
variable {A:bt} {n:Int} {m i:Nat}
theorem qK:(l9 A n m i).length=m+1:=by unfold l9;simp
theorem wB:ph A m (i+1)=ph A m i++A.af.map (pB (m+1+i*A.af.length) (some ((i+1:Nat):Int))):=by
 unfold ph;rw[range_succ,List.flatMap_append];simp
theorem FN:∀i,(ph A m i).length=i*A.af.length
 |0=>by simp[ph]
 |i+1=>by rw[wB,length_append,FN i,lM,Nat.add_mul,Nat.one_mul]
theorem FO:∀i,df (ph A m i)<=i*(df A.af+A.af.length)
 |0=>by simp[ph,df]
 |i+1=>by
  have:=mT (m+1+i*A.af.length) (some ((i+1:Nat):Int)) A.af;have a:=FO i;rw[wB,ey,Nat.add_mul,Nat.one_mul];omega
theorem DF:∀{l:List dW},(∀s∈l,s.arcs.length<=1)->df l<=l.length
 |[],_=>Nat.le_refl _
 |s::l,h=>by
  have b:=h s (mem_cons_self ..);have:=DF (l:=l) λt a=>h t (List.mem_cons_of_mem _ a);rw[dt,length_cons];omega
theorem QN:df (l9 A n m i)<=m+1:=by
 have:=DF (l:=l9 A n m i) λs a=>by
  unfold l9 at a;obtain⟨j,_,rfl⟩:=mem_map.1 a;show(if j<i then _ else _:List hO).length<=1;split<;>simp
 rw[qK]at this;exact this
theorem UA(a:i<m+1):(l9 A n m i)[i]?=some ⟨if(i:Int)>=n then dc A.kind else[],[]⟩:=by
 unfold l9;rw[getElem?_map,List.getElem?_range a,Option.map_some,if_neg (Nat.lt_irrefl i)]
theorem QM(b:i<m+1):(l9 A n m i).set i ⟨if(i:Int)>=n then dc A.kind else[],[⟨0,0,A.lead,((m+1+i*A.af.length:Nat):Int)+A.start⟩]⟩=l9 A n m (i+1):=by
 have a:∀i j,(l9 A n m i)[j]?=if j<m+1 then some ⟨if(j:Int)>=n then dc A.kind else[],if j<i then[⟨0,0,A.lead,((m+1+j*A.af.length:Nat):Int)+A.start⟩]else[]⟩else none:=λi j=>by
  unfold l9;rw[getElem?_map];split
  ·next h=>rw[List.getElem?_range h];rfl
  ·next h=>rw[List.getElem?_eq_none (by simp;omega)];rfl
 refine List.ext_getElem? λj=>?_;rw[List.getElem?_set,a,a,qK];by_cases e:i=j
 ·subst e;rw[if_pos rfl,if_pos b,if_pos b,if_pos (lt_succ_self i)]
 ·rw[if_neg e];by_cases q:j<i
  ·rw[if_pos q,if_pos (show j<i+1 by omega)]
  ·rw[if_neg q,if_neg (show ¬j<i+1 by omega)]
theorem Lm{x:Option Addr}{z:Nat}{d:Int}(w:Wf h)(tb:nO h)(W:Small A)(h8:A.af.length<=8)(x9:df A.af<=40)(ra:dS h (.slice x l z) A.af):FW SS 35 [.agg ⟨bR A x l z⟩,.int .i64 n,.int .i64 d] h (Be h (X9 A n d)):=by
 obtain⟨ma,L⟩:=fv w ra;have B:h.next<=(h.push (Bm A x l z)).next:=L.nx;have Y:=(Ok.refl L.wf).push mO;have kb:=aI (h.push (Bm A x l z)) mO;have P:=L.trans Y;have E:=ma.ok Y;refine Ll _ n d h _ ⟨_,ja A x l z,_,qD,_,E.all,(qH (tb.ok P) P.wf W E.row).mono ?_⟩;generalize (h.push (Bm A x l z)).next=V at*;generalize (h.push (Bm A x l z)).push mO=g3 at*;rintro _ S ⟨rfl,r⟩;have t:=P.trans r;have a:=E.ok r;have s:=r.ext _ _ kb;unfold X9;refine⟨_,rfl,aa (λq=>?_) (λq=>aa (λG=>?_) (λG=>aa (λF=>?_) (λF=>aa (λH=>?_) (λH=>?_))))⟩
 ·rw[not_eq_true']at q;rw[if_neg (λc=>by rw[c.1]at q;cases q)];exact ir w t s B _
 ·rw[if_neg (λc=>by have:=dT G;omega)];exact ir w t s B _
 ·rw[if_neg (λc=>by have:=dT F;omega)];exact ir w t s B _
 ·rw[if_neg (λc=>by have:=dT H;omega)];exact ir w t s B _
 rw[not_eq_false']at q;have G:=dF G;have F:=dF F;have H:=dF H;rw[if_pos ⟨q,by omega,by omega,by omega⟩];have T:=rr W q;obtain⟨m,hm,x0⟩:∃m:Nat,d=m/\m<=30:=⟨d.toNat,by omega,by omega⟩
 subst hm;have em:((m:Int)).toNat=m:=by omega
 rw[em];refine⟨_,dZ _,_,a.l0,(mw A.kind r.wf).mono ?_⟩;rintro _ g5 ⟨k,rfl,b5⟩;rw[KM m (by omega)];refine⟨_,rfl,?_⟩;refine vV (bR A x l z) n m h.next V k ((m+1:Nat):Int) (λy i g=>i<=m+1/\y=m+1-i/\BS S g k A.kind 0 (dc A.kind) ((List.range i).map λ(j:Nat)=>⟨if(j:Int)>=n then dc A.kind else[],[]⟩)) _ (λy i=>?_) (m+1) (i:=0) ⟨by omega,rfl,b5⟩;intros;rename_i g v;obtain⟨f1,f2,b⟩:=v;refine aa (λp=>?_) (λp=>?_)
 ·have u:i<m+1:=by have:=dT p;omega
  have X:∀f:List UInt8,f=(if(i:Int)>=n then dc A.kind else[])->((List.range i).map λ(j:Nat)=>(⟨if(j:Int)>=n then dc A.kind else[],[]⟩:dW))++[⟨f,[]⟩]=(List.range (i+1)).map λ(j:Nat)=>(⟨if(j:Int)>=n then dc A.kind else[],[]⟩:dW):=λf hf=>by
   rw[range_succ,map_append,hf];rfl
  have J:((List.range i).map λ(j:Nat)=>(⟨if(j:Int)>=n then dc A.kind else[],[]⟩:dW)).length<=100000:=by simp;omega
  rw[aJ u (by omega)];refine aa (λM=>⟨_,zw k,_,b.one,(iu r.wf b J _).mono ?_⟩) (λM=>(iu r.wf b J _).mono ?_)
  ·rintro _ g6 ⟨rfl,C,_⟩;rw[X _ (by rw[if_pos (dT M)])]at C;exact⟨_,rfl,bY (m+1-(i+1)) (by omega) ⟨by omega,rfl,C⟩⟩
  ·rintro _ g6 ⟨rfl,C,_⟩;rw[X _ (by rw[if_neg (dF M)])]at C;exact⟨_,rfl,bY (m+1-(i+1)) (by omega) ⟨by omega,rfl,C⟩⟩
 have u:i=m+1:=by have:=dF p;omega
 subst u;have e0:((List.range (m+1)).map λ(j:Nat)=>(⟨if(j:Int)>=n then dc A.kind else[],[]⟩:dW))=l9 A n m 0++ph A m 0:=by
  have:ph A m 0=[]:=rfl;rw[this,List.append_nil];unfold l9;refine List.map_congr_left λj _=>?_;rw[if_neg (Nat.not_lt_zero j)]
 rw[e0]at b;have x8:=a.ok b.ok;refine vW (bR A x l z) n m h.next V k (λy i g=>i<=m/\y=m-i/\BS S g k A.kind 0 (dc A.kind) (l9 A n m i++ph A m i)) _ (λy i=>?_) m (i:=0) ⟨by omega,rfl,b⟩;intros;rename_i g1 v;obtain⟨d1,d2,O⟩:=v;have o:(l9 A n m i++ph A m i).length=m+1+i*A.af.length:=by rw[length_append,qK,FN]
 have x3:=FO (A:=A) (m:=m) i;have x2:=QN (A:=A) (n:=n) (m:=m) (i:=i);have x4:i*A.af.length<=30*8:=Nat.mul_le_mul (by omega) h8;have x1:i*(df A.af+A.af.length)<=30*48:=Nat.mul_le_mul (by omega) (by omega);refine aa (λp=>?_) (λp=>?_)
 ·have u:i<m:=by have:=dT p;omega
  have or:=(Ok.refl O.ok.wf).room 12;have Q:=O.ux or;have D:=a.ok Q.ok;rw[aJ u (by omega)];refine⟨_,nv _,_,D.l2,_,D.all,(Cn (k:=k) Q.ok.wf _).mono ?_⟩;rintro _ g8 ⟨fc,rfl,lv,o8⟩;have U:=Q.ux o8;have I:=a.ok U.ok;refine⟨_,_,_,rfl,(qE r.wf U a.row lv (by rw[o];omega) (by rw[ey];omega) T.start T.to).mono ?_⟩;rintro _ g9 ⟨rfl,N,x5⟩;have R:=a.ok N.ok;rw[o]at N;have hs:(l9 A n m i++ph A m i++A.af.map (pB (m+1+i*A.af.length) (some ((i+1:Nat):Int))))[i]?=some (⟨if(i:Int)>=n then dc A.kind else[],[]⟩:dW):=by
   rw[append_assoc,List.getElem?_append_left (by rw[qK];omega)];exact UA (by omega)
  have x6:=mT (m+1+i*A.af.length) (some ((i+1:Nat):Int)) A.af;rw[o];refine⟨_,rfl,(Bq r.wf N hs (by rw[ey,ey];omega) A.lead _).mono ?_⟩;rintro _ x7 ⟨rfl,K,Z⟩;have e:(l9 A n m i++ph A m i++A.af.map (pB (m+1+i*A.af.length) (some ((i+1:Nat):Int)))).set i (⟨if(i:Int)>=n then dc A.kind else[],[]++[⟨0,0,A.lead,((m+1+i*A.af.length:Nat):Int)+A.start⟩]⟩:dW)=l9 A n m (i+1)++ph A m (i+1):=by
   rw[append_assoc,List.set_append_left _ _ (by rw[qK];omega),wB,<-QM (show i<m+1 by omega)];rfl
  rw[e]at K;exact⟨rfl,⟨I.l2,kM _⟩,⟨R.l2,kM _⟩,⟨I.all,DK a.row⟩,bY (m-(i+1)) (by omega) ⟨by omega,rfl,K⟩⟩
 ·have u:i=m:=by have:=dF p;omega
  subst u;exact oS w r.wf O (by rw[o];omega) (by rw[ey];omega) t s B
end
end
variable{w:Value}{Q:VH}
noncomputable def aaY:FD:=cA Tryz.f54 []
theorem YC(a:OA)(n c:Nat)(h:ae)(Q:VH)(b:xN (fi SS.P 22 (.slice a n c)) h λ_ a=>Q (.func (.func 82) ⟨[]⟩ ⟨[(pA (h.next))]⟩) a):FW SS 54 [(.slice a n c)] h Q:=cN aaY Tryz.func54 (ai b)
noncomputable def wE:FD:=cA Tryz.f82 [([1,0,0],[0,5,6,7])]
abbrev sj(b:Nat)(a:OA)(n c:Nat)(i:Nat):LV:=[(.func (.yield b) ⟨[]⟩ ⟨[]⟩),(.slice a n c),(iA n),(iA i)]
theorem Yy(e d:Nat)(h:ae)(Q:VH)(f:xL (aj SS.P 22 h (pA d)) λa b c=>LL SS wE [1,0,0] [(.func (.yield e) ⟨[]⟩ ⟨[]⟩),(.slice a b c),(iA b),(.int .i64 0)] h (KK SS wE [1,0] [] (EE SS wE Q))):FW SS 82 [(.func (.yield e) ⟨[]⟩ ⟨[]⟩),(pA d)] h Q:=cN wE Tryz.func82 (ai f)
theorem Bh(l p:Nat)(a:OA)(n c:Nat)(k:Nat->Nat->ae->Prop)(Q:VH)(step:∀(j:Nat) (i:Nat) (o:Nat->Value) (h:ae),k j i h->au (decide (((i:Int):Int)<(n:Int))) (iP 22 (.slice a n c) (iA i) λg=>lI h g λf=>FW SS (YB+l) [(.int .i64 f)] h λd e=>yB d λb=>au (!b) (Q (.tuple ⟨[]⟩) e) (aB (eR (sj l a n c) k) j [(.func (.yield l) ⟨[]⟩ ⟨[]⟩),(.slice a n c),(iA n),(.int .i64 (wrap .i64 ((i:Int)+1)))] e)) (Q (.tuple ⟨[]⟩) h))(j:Nat){i:Nat}{h:ae}(m:k j i h):LL SS wE [1,0,0] (sj l a n c i) h (KK SS wE [1,0] [] (EE SS wE Q)):=
 cY (sj l a n c) k (λj i o h m=>ai (step j i o h m)) j m
noncomputable def gj:FD:=cA Tryz.f99 []
theorem OE(a:OA)(n c:Nat)(d:Nat)(h:ae)(Q:VH)(e:xN (fi SS.P 22 (.slice a n c)) h λ_ b=>RG SS gj [1,0,1,0] [(.slice a n c),(.func (.func 82) ⟨[]⟩ ⟨[(pA d)]⟩),(pA (h.next)),undef,nA,undef,(.func (.func 82) ⟨[]⟩ ⟨[(pA d)]⟩),undef,undef,undef,undef,undef,undef] b (KK SS gj [1,0,1,0] [] (EE SS gj Q))):FW SS 99 [(.slice a n c),(.func (.func 82) ⟨[]⟩ ⟨[(pA d)]⟩)] h Q:=cN gj Tryz.func99 (ai e)
theorem Ek{ks:Nat}{o m g i l j n e f d:Value}(k:xL (aj SS.P 22 h (pA ks)) λa b c=>Q (.slice a b c) h):(KK SS gj [1,0,1,0] [] (EE SS gj Q)) .normal [v,w,(pA ks),o,m,g,i,l,j,n,e,f,d] h:=ai k
theorem Ei{ks:Nat}{q:Int}{i f j d e g b c a:Value}{Q:eN}(k:Q .normal [v,w,(pA ks),i,f,(.int .i64 q),d,(.int .i64 q),e,g,b,c,a] h):TT SS gj [1,0,1,0,0] [v,w,(pA ks),i,f,j,d,(.int .i64 q),e,g,b,c,a] h Q:=ai k
theorem Ej{ks:Nat}{q:Int}{t p n o u y r s m:Value}{Q:eN}(x:xL (aj SS.P 22 h (pA ks)) λj k l=>xR (aF SS.P 22 1 [(0,(.int .i64 q))]) h λ_ f g i=>xE (bF SS.P 22 22 (.slice j k l) (sA (h.next) f g) i) i λb c d _ e=>xU (ah SS.P 22 (pA ks) (.slice b c d) e) e λ_ a=>Q .normal [v,w,(pA ks),t,p,(.int .i64 q),n,o,(.slice j k l),(.int .i64 q),(sA (h.next) f g),(.slice b c d),m] a):TT SS gj [1,0,1,0,1] [v,w,(pA ks),t,p,(.int .i64 q),n,o,u,y,r,s,m] h Q:=ai x
noncomputable def aaa:FD:=cA Tryz.f80 []
theorem WS(f:Nat)(h:ae)(Q:VH)(g:FW SS 99 [nA,(.func (.func 82) ⟨[]⟩ ⟨[(pA f)]⟩)] h λd e=>yL d λa b c=>Q (.slice a b c) e):FW SS 80 [(.func (.func 82) ⟨[]⟩ ⟨[(pA f)]⟩)] h Q:=cN aaa Tryz.func80 (ai g)
noncomputable def Yo:FD:=cA Tryz.f53 []
theorem U0(i:Nat)(h:ae)(Q:VH)(j:FW SS 80 [(.func (.func 82) ⟨[]⟩ ⟨[(pA i)]⟩)] h λf g=>yL f λc d e=>FW SS 81 [(.slice c d e)] g λa b=>a=(.tuple ⟨[]⟩)/\Q (.slice c d e) b):FW SS 53 [(.func (.func 82) ⟨[]⟩ ⟨[(pA i)]⟩)] h Q:=cN Yo Tryz.func53 (ai j)
noncomputable def fU:FD:=cA Tryz.f52 [([1,1,0,1,0,0],[0,3]),([1,1,0,1,0,0,1,0,0,1,0,1,0,1,0,0],[0,3,4,5])]
abbrev iQ(a:OA)(n c:Nat)(k:Nat):LV:=[(.slice a n c),(iA k)]
abbrev kE(a:OA)(n c:Nat)(b:OA)(m d:Nat)(k j:Nat):LV:=[(.slice a n c),(iA k),(.slice b m d),(iA j)]
theorem IU(a:OA)(n c:Nat)(h:ae)(Q:VH)(b:au (decide (((n:Int):Int)<2)) (Q (.slice a n c) h) (LL SS fU [1,1,0,1,0,0] (iQ a n c 1) h (KK SS fU [1,1,0,1,0] [] (EE SS fU Q)))):FW SS 52 [(.slice a n c)] h Q:=cN fU Tryz.func52 (ai b)
theorem zr(a:OA)(n c:Nat)  (l:Nat->Nat->ae->Prop) (Q:VH) (step:∀(m:Nat)(k:Nat)(p:Nat->Value)(h:ae),l m k h->au (decide (((k:Int):Int)<(n:Int))) (iP 22 (.slice a n c) (iA k) λj=>lI (room h 10) j λi=>iP 22 (.slice a n c) (.int .i64 (wrap .i64 ((k:Int)-1))) λg=>lI (room h 10) g λf=>au (((i:Int)==f)) (xL (bP SS.P 22 (.slice a n c) (some (iA k)) none none (room h 10)) λb d e=>LL SS fU [1,1,0,1,0,0,1,0,0,1,0,1,0,1,0,0] (kE a n c b d e k 1) (room h 10) (KK SS fU [1,0,0,1,0,1,0,1,0] [1,1,0,1,0,0] (RR fU [1,1,0,1,0,0] (eR (iQ a n c) l) m (KK SS fU [1,1,0,1,0] [] (EE SS fU Q))))) (aB (eR (iQ a n c) l) m [(.slice a n c),(.int .i64 (wrap .i64 ((k:Int)+1)))] (room h 10))) (Q (.slice a n c) h)) (m:Nat) {k:Nat} {h:ae} (o:l m k h):LL SS fU [1,1,0,1,0,0] (iQ a n c k) h (KK SS fU [1,1,0,1,0] [] (EE SS fU Q)):=
 cY (iQ a n c) l (λm k p h o=>ai (step m k p h o)) m o
theorem zt(a:OA)(n c:Nat)(t:OA)(m d:Nat)(v:Nat->Nat->ae->Prop)(w:Nat)(s:Nat->Nat->Nat->ae->Prop)(Q:VH)(step:∀(r:Nat) (k j:Nat) (q:Nat->Value) (h:ae),s r k j h->au (decide (((j:Int):Int)<(m:Int))) (iP 22 (.slice t m d) (iA j) λp=>lI (room h 10) p λo=>iP 22 (.slice t m d) (.int .i64 (wrap .i64 ((j:Int)-1))) λl=>lI (room h 10) l λi=>au (((o:Int) !=i)) (iP 22 (.slice t m d) (iA j) λg=>lI (room h 10) g λf=>iP 22 (.slice a n c) (iA k) λe=>xU (ah SS.P 3 (.pointer (some e)) (.int .i64 f) (room h 10)) (room h 10) λ_ b=>aB (qR (kE a n c t m d) s) r [(.slice a n c),(.int .i64 (wrap .i64 ((k:Int)+1))),(.slice t m d),(.int .i64 (wrap .i64 ((j:Int)+1)))] b) (aB (qR (kE a n c t m d) s) r [(.slice a n c),(iA k),(.slice t m d),(.int .i64 (wrap .i64 ((j:Int)+1)))] (room h 10))) (xL (bP SS.P 22 (.slice a n c) (some (iA k)) none none h) λe f g=>xG (dU SS.P jl (ev SS.gl [(.slice a n c),(q 1),(q 2),(iA k),(.slice t m d),(iA j),(q 6),(q 7),(q 8),(q 9),(q 10),(q 11),(q 12),(q 13),(q 14),(q 15),(q 16),(q 17),(q 18),(q 19),(q 20),(q 21),(q 22),(q 23),(q 24),(q 25),(q 26),(q 27),(q 28),(iA j),(.slice t m d),(iA m),(.bool (decide (((j:Int):Int)<(m:Int)))),(q 33),(q 34),(q 35),(q 36),(q 37),(q 38),(q 39),(q 40),(q 41),(q 42),(q 43),(q 44),(q 45),(q 46),(q 47),(q 48),(q 49),(q 50),(q 51),(q 52),(q 53),(.slice a n c),(iA k),(.slice e f g),(q 57),(q 58),(q 59),(q 60)]) (J6 (fI [1,1,0,1,0,0,1,0,0,1,0,1,1,0] fU.body) 3) h) h λ_ _ d=>xL (bP SS.P 22 (.slice a n c) none (some (iA k)) none d) λa b c=>Q (.slice a b c) d))(r:Nat){k j:Nat}{h:ae}(u:s r k j h):LL SS fU [1,1,0,1,0,0,1,0,0,1,0,1,0,1,0,0] (kE a n c t m d k j) h (KK SS fU [1,0,0,1,0,1,0,1,0] [1,1,0,1,0,0] (RR fU [1,1,0,1,0,0] (eR (iQ a n c) v) w (KK SS fU [1,1,0,1,0] [] (EE SS fU Q)))):=
 nE (kE a n c t m d) s (λr k j q h u=>ai (step r k j q h u)) r u
noncomputable def vU:FD:=cA Tryz.f21 [([1,1,1,1,0,1,0,0],[4,6,7,8,35,36,37])]
abbrev rj(a k f t:Nat)(b:OA)(m d:Nat)(i:Nat):LV:=[(pA a),(pA k),(iA f),(iA t),(.slice b m d),(iA m),(iA i)]
theorem Wz(A:Int)(a:OA)(n c:Nat)(h:ae)(Q:VH)(G:xN (bq SS.P 29) h λ_ B=>au (decide ((A:Int)<1)) (xA (bh SS.P 29 []) λb=>xU (ah SS.P 29 (pA (h.next)) (.agg ⟨b⟩) B) B λ_ a=>dY SS [((pA (h.next)),some 29),((.int .i64 1),none)] a Q) (au (decide ((A:Int)>3)) (xA (bh SS.P 29 []) λb=>xU (ah SS.P 29 (pA (h.next)) (.agg ⟨b⟩) B) B λ_ a=>dY SS [((pA (h.next)),some 29),((.int .i64 1),none)] a Q) (FW SS 49 [(.slice a n c),(.func (.func 50) ⟨[]⟩ ⟨[]⟩)] B λH C=>yB H λE=>au E (xA (bh SS.P 29 []) λb=>xU (ah SS.P 29 (pA (h.next)) (.agg ⟨b⟩) C) C λ_ a=>dY SS [((pA (h.next)),some 29),((.int .i64 1),none)] a Q) (FW SS 42 [(.int .i64 A)] C λF D=>yO F λz=>FW SS 43 [(.pointer z),(strOf [])] (room D 10) λx y=>yI .i64 x λw=>HZ SS.P z y λv _=>fP 65 v 1 λu=>lS y u λt=>FW SS 43 [(.pointer z),(strOf t)] y λr s=>yI .i64 r λq=>(aj SS.P 9 (room D 10) (.pointer (some u))=some (strOf t)/\dC 4 (strOf t) (strOf t)=true)/\FW SS 54 [(.slice a n c)] s λo p=>yF o λl m n=>FW SS 53 [(.func (.func l) ⟨m⟩ ⟨n⟩)] p λj k=>yL j λf g i=>FW SS 52 [(.slice f g i)] k λd e=>yL d λa b c=>LL SS vU [1,1,1,1,0,1,0,0] [(pA (h.next)),(.pointer z),(.int .i64 w),(.int .i64 q),(.slice a b c),(iA b),(.int .i64 0)] e (KK SS vU [1,1,1,1,0,1,0] [] (EE SS vU Q)))))):FW SS 21 [(.int .i64 A),(.slice a n c)] h Q:=cN vU Tryz.func21 (ai G)
theorem A0(u:Int)(a:OA)(n c:Nat)(q k f t:Nat)(b:OA)(m d:Nat)(p:Nat->Nat->ae->Prop)(Q:VH)(step:∀(o:Nat) (i:Nat) (s:Nat->Value) (h:ae),p o i h->au (decide (((i:Int):Int)<(m:Int))) (iP 22 (.slice b m d) (iA i) λn=>lI h n λl=>fP 65 (pA k) 1 λj=>lS h j λg=>xA (bh SS.P 70 [(0,(.int .i64 l)),(1,(.int .i64 l)),(2,(strOf g)),(3,(iA t))]) λe=>FW SS 44 [(pA k),(iA f),(.agg ⟨e⟩)] h λa c=>a=(.tuple ⟨[]⟩)/\aB (eR (rj q k f t b m d) p) o [(pA q),(pA k),(iA f),(iA t),(.slice b m d),(iA m),(.int .i64 (wrap .i64 ((i:Int)+1)))] c) (FW SS 46 [(pA k)] h λd e=>∃c:LV,∃b:Int,d=(.tuple ⟨[(.agg ⟨c⟩),(.int .i64 b)]⟩)/\xU (ah SS.P 29 (pA q) (.agg ⟨c⟩) e) e λ_ a=>dY SS [((pA q),some 29),((.int .i64 b),none)] a Q))(o:Nat){i:Nat}{h:ae}(r:p o i h):LL SS vU [1,1,1,1,0,1,0,0] (rj q k f t b m d i) h (KK SS vU [1,1,1,1,0,1,0] [] (EE SS vU Q)):=
 cY (rj q k f t b m d) p (λo i s h r=>ai (step o i s h r)) o r
section
def qm(z:Int):List Value:=[zV z]
theorem qG:∀l:List Int,(l.map qm).flatten=l.map zV
 |[]=>rfl
 |z::l=>by rw[List.map_cons,List.flatten_cons,qG l];rfl
theorem Te{l:List Int}:∀r∈l.map qm,r.length=1:=λr a=>by
 obtain⟨z,_,rfl⟩:=mem_map.1 a;rfl
theorem aav{g:ae}{l:List Int}(o:fh g h 3 1 v (l.map qm)):Rd h 3 v (xl l):=(by
 obtain⟨_,⟨a,d⟩|⟨k,b,cs,c,a,d,f,e,j,i⟩⟩:=o
 ·left;refine⟨a,?_⟩;have:l=[]:=by simpa using d
  rw[this];rfl
 ·rw[lM,Nat.mul_one,qG]at e;rw[lM]at a;exact .inr ⟨k,b,cs,c,true,by rw[jz];exact a,f,by rw[jz];exact e⟩)
theorem ad4:dV SS.P 22=true:=by kernel_rfl
theorem Y5(a:Option Addr)(n c:Nat):fi SS.P 22 (.slice a n c)=some (.cells [.slice a n c] 22 0 true,lK):=by cases a<;>kernel_rfl
theorem ZK:Go.Ab.isAgg SS.P 22=false:=by kernel_rfl
theorem acs:SS.pr 81=some Ds:=by kernel_rfl
theorem Fc:∀l:List Int,Ls (l.map zV)=some l
 |[]=>rfl
 |z::l=>by
  show(Ls (l.map zV)).map (z::·)=_;rw[Fc l];rfl
theorem Q5:lz []=[]:=by unfold lz;simp
theorem Tf{hb g:ae}(w:Wf hb)(m:Ok hb g){x:Value}{l:List Int}(i:fh hb g 3 1 x (l.map qm)){q:Int}{e:Nat}(d:g.get e=some (.cells [.int .i64 q] 3 1 true))(p:l.length<=100000):
  ∃(b:Option Addr)(n c:Nat)(u:dL),bF SS.P 22 22 x (.slice (some ⟨e,0,none⟩) 1 1) g=some (.slice b n c,u)/\fh hb (u.app g) 3 1 (.slice b n c) ((l++[q]).map qm)/\Ok hb (u.app g)/\
   (∀j B,g.get j=some B->eX x≠some j->(u.app g).get j=some B)/\(∀j,eX (.slice b n c)=some j->g.next<=j\/eX x=some j)/\g.next<=(u.app g).next:=by
 have a:(l.map qm).length=l.length:=lM ..;obtain⟨b,n,c,u,h,s,f,k⟩:=fh.add tO Us J1 ad4 w m i (ns:=[qm q]) (BL (cs:=qm q) d rfl) (λr o=>by rw[mem_singleton.1 o];rfl) rfl (by rw[FI,a,List.length_singleton];omega) (by rw[a,List.length_singleton];omega) (.inl (Nat.le_refl _));exact⟨b,n,c,u,h,by rw[map_append];exact f,k⟩
theorem Q3{g:ae}(u:Wf g)(n:Ok g h){v:Value}{l:List Int}(o:fh g h 3 1 v (l.map qm))(x:l.length<=100000):FW SS 81 [v] h (λr i=>r = .tuple ⟨[]⟩/\fh g i 3 1 v ((lz l).map qm)/\Ok g i):=by
 have d:(l.map qm).length=l.length:=lM ..;have j:(lz l).length=l.length:=List.length_mergeSort l;by_cases e:l.length=0
 ·obtain rfl:=List.eq_nil_of_length_eq_zero e;obtain⟨a,c,rfl⟩:=o.Yl;refine Bw (h':=h) (v:= .tuple ⟨[]⟩) (by kernel_rfl) acs (λA=>?_) ⟨rfl,by rw[Q5];exact o,n⟩;rfl
 ·obtain⟨D,⟨_,z⟩|⟨k,b,cs,c,rfl,q,p,m,C,s⟩⟩:=o
  ·exact absurd (by rw[<-d,z];rfl) e
  rw[d]at m s;rw[Nat.mul_one,qG]at m;rw[Nat.mul_one]at C;have f:((lz l).map qm).length=l.length:=by rw[lM,j]
  have B:((lz l).map zV).length=l.length:=by rw[lM,j]
  refine Bw (h':=h.set k (.cells (cs.take b++(lz l).map zV++cs.drop (b+l.length)) 3 1 true)) (v:= .tuple ⟨[]⟩) (by kernel_rfl) acs (λA=>?_) ⟨rfl,⟨Te,.inr ⟨k,b,_,c,by rw[d,f],q,by rw[ae.aw,if_pos rfl],?_,?_,by rw[f];exact s⟩⟩,n.set _ q (n.wf _ _ p) u⟩
  ·rw[d];show(if l.length=0 then some (Value.tuple ⟨[]⟩,h)else match h.get k with
    |some (.cells cs t w true)=>if l.length<4611686018427387904/\b+l.length<=cs.length then(Ls ((cs.drop b).take l.length)).map λy=>(Value.tuple ⟨[]⟩,h.set k (.cells (cs.take b++(lz y).map zV++cs.drop (b+l.length)) t w true))else none
    |_=>none)=_
   rw[if_neg e,p];dsimp only;rw[if_pos (⟨Nat.lt_of_le_of_lt x (by decide),by omega⟩:l.length<4611686018427387904/\b+l.length<=cs.length),m,Fc];rfl
  ·rw[f,Nat.mul_one,qG,append_assoc,List.drop_append,List.drop_eq_nil_of_le (by rw[length_take];omega),List.nil_append,show b-(cs.take b).length=0 by rw[length_take];omega,drop_zero,List.take_append_of_le_length (by omega),take_of_length_le (by omega)]
  ·rw[length_append,length_append,length_take,length_drop,B];omega
theorem Ok.del{b:ae}(a:Ok b h){k:Nat}(f:b.next<=k)(d:Wf b):Ok b (h.del k):=by
 refine⟨ae.HU a.wf k,λj B c=>?_,a.nx⟩;rw[ae.dO,if_neg (λe=>by have:=d _ _ c;omega)];exact a.ext _ _ c
abbrev QW(kc:Nat):Value:= .func (.func 82) ⟨[]⟩ ⟨[pA kc]⟩
abbrev tmA(ks kc:Nat):List Value:=[nA,QW kc,pA ks,undef,nA,undef,QW kc,undef,undef,undef,undef,undef,undef]
theorem hcA:rO (fI [1,0,1,0,0] gj.body) (fI [1,0,1,0,1] gj.body)=true:=by kernel_rfl
noncomputable def Nd(a:LSt)(ks kc:Nat):dP:= .loop a (tmA ks kc) [7] (fI [1,0,1,0,0] gj.body) (fI [1,0,1,0,1] gj.body) hcA
structure YI(hb g:ae)(ks ky kc:Nat)(l:List Int):Prop where
 ok:Ok hb g
 box:∃a n c,g.get ks=some (.cells [.slice a n c] 22 0 true)/\fh hb g 3 1 (.slice a n c) (l.map qm)/\∀j,eX (.slice a n c)=some j->j≠ks/\j≠ky
 lp:g.get ky=some (Nd .ready ks kc)
 gs:hb.next<=ks
 gy:hb.next<=ky
 ne:ks≠ky
section
variable {hb g:ae} {ks ky kc:Nat} {l:List Int}
theorem VU(w:Wf hb)(V:YI hb g ks ky kc l)(q:Int)(U:l.length<=100000):FW SS (YB+ky) [.int .i64 q] g (λv S=>v = .bool true/\YI hb S ks ky kc (l++[q])):=by
 obtain⟨K,⟨a,n,c,L,T,z⟩,J,M,G,x⟩:=V;refine VT (X:=gj) (p:=[1,0,1,0]) (hc:=hcA) J rfl rfl (by kernel_rfl) (by kernel_rfl) ?_;have x2:=K.wf _ _ L;have x4:=K.wf _ _ J;refine Ei (ks:=ks) (q:=q) ?_;refine⟨rfl,J,?_⟩;have m:∀j B,j≠ky->g.get j=some B->(g.set ky (Nd .busy ks kc)).get j=some B:=λj B b k=>by rw[ae.aw,if_neg b];exact k
 have D:Ok hb (g.set ky (Nd .busy ks kc)):=K.set _ G (by omega) w;have E:=m ks _ x L;have P:(g.set ky (Nd .busy ks kc)).get ky=some (Nd .busy ks kc):=by rw[ae.aw,if_pos rfl]
 have Q:=T.kI (h':=g.set ky (Nd .busy ks kc)) λj B b k=>m j B (z j b).2 k;have x1:(g.set ky (Nd .busy ks kc)).next=g.next:=rfl;show TT SS gj [1,0,1,0,1] _ (g.set ky (Nd .busy ks kc)) _;generalize g.set ky (Nd .busy ks kc)=f at*;have y:=(Ok.refl D.wf).push (.cells [.int .i64 q] 3 1 true);have k3:=aI f (.cells [.int .i64 q] 3 1 true);obtain⟨d,u,s,O,W,N,o,C,R,x0⟩:=Tf w (D.trans y) (Q.ok y) k3 U;have F:=C ks _ (y.ext _ _ E) (λe=>(z ks e).1 rfl);have A:=C ky _ (y.ext _ _ P) (λe=>(z ky e).2 rfl);have x3:(f.push (.cells [.int .i64 q] 3 1 true)).next=f.next+1:=rfl;have Y:=iX (t:=22) (i:=0) ad3 F (by simp) (v:= .slice d u s) (by cases d<;>rfl) (by cases d<;>rfl);have Z:aj SS.P 22 f (pA ks)=some (.slice a n c):=cx tO ZK E (by simp);refine Ej (ks:=ks) (q:=q) ⟨a,n,c,Z,_,_,_,OX q,d,u,s,O,W,_,Y,?_⟩;generalize O.app (f.push (.cells [.int .i64 q] 3 1 true))=g4 at*;dsimp only[dL.app];refine⟨?_,true,.ready,rfl,rfl,?_⟩
 ·rw[ae.aw,if_neg (Ne.symm x)];exact A
 have r:∀j,eX (.slice d u s)=some j->j≠ks/\j≠ky:=λj b=>by
  rcases R j b with h|h
  ·omega
  ·exact z j h
 have I:=o.wf _ _ F;have H:=o.wf _ _ A;refine⟨(o.set _ M I w).set _ G H w,⟨d,u,s,?_,N.kI λj B b k=>?_,r⟩,?_,M,G,x⟩
 ·rw[ae.aw,if_neg x,ae.aw,if_pos rfl];rfl
 ·rw[ae.aw,if_neg (r j b).2,ae.aw,if_neg (r j b).1];exact k
 ·show(ae.set _ ky (Nd .ready ks kc)).get ky=_;rw[ae.aw,if_pos rfl]
theorem Yz{c:Nat}{L:List Int}(w:Wf hb)(b:YI hb g ks ky kc [])(t:hb.get kc=some (.cells [.slice a n c] 22 0 true))(r:du hb (.slice a n c) L)(u:L.length<=100000):FW SS 82 [.func (.yield ky) ⟨[]⟩ ⟨[]⟩,pA kc] g (λ_ l=>YI hb l ks ky kc L):=by
 obtain rfl:=du.len r;have k:aj SS.P 22 g (pA kc)=some (.slice a L.length c):=cx tO ZK (b.ok.ext _ _ t) (by simp);refine Yy ky kc g _ ⟨a,L.length,c,k,?_⟩;refine Bh ky kc a L.length c (λh i g=>i<=L.length/\h=L.length-i/\YI hb g ks ky kc (L.take i)) _ (λh i=>?_) L.length (i:=0) ⟨Nat.zero_le _,rfl,by simpa using b⟩;clear k b;intros;rename_i v f;obtain⟨y,rfl,b⟩:=f;refine aa (λq=>?_) (λq=>?_)
 ·have j:i<L.length:=by have:=dT q;omega
  obtain⟨p,s,m⟩:=du.at_ (du.ok r b.ok) j;refine⟨_,s,_,m,(VU w b _ (by rw[length_take];omega)).mono ?_⟩;rintro _ x ⟨rfl,o⟩;refine⟨_,rfl,aa (λe=>by cases e) (λ_=>?_)⟩;rw[aJ (n:=L.length) (by omega) (by omega)];refine bY (L.length-(i+1)) (by omega) ⟨by omega,rfl,?_⟩;rw[gb (d:=0) j];exact o
 ·have q:=dF q;rw[take_of_length_le (by omega)]at b;exact b
theorem OF{c:Nat}(w:Wf h)(q:h.get kc=some (.cells [.slice a n c] 22 0 true))(r:du h (.slice a n c) p)(y:p.length<=100000):FW SS 99 [nA,QW kc] h (λv l=>fh h l 3 1 v (p.map qm)/\Ok h l):=by
 refine OE none 0 0 kc h _ ⟨_,Y5 none 0 0,?_⟩;have i:=(Ok.refl w).push (.cells [nA] 22 0 true);have C:=aI h (.cells [nA] 22 0 true);have J:(h.push (.cells [nA] 22 0 true)).next=h.next+1:=rfl;generalize h.push (.cells [nA] 22 0 true)=b at*;refine acw (f:= .tmp 6) (ps:= #[7]) (g:=82) (first:=[]) (cap:=[pA kc]) (hc:=hcA) (by kernel_rfl) rfl rfl ⟨by unfold YB;decide,by kernel_rfl⟩ ?_;show FW SS 82 [.func (.yield b.next) ⟨[]⟩ ⟨[]⟩,pA kc] (b.push (Nd .ready h.next kc)) _;have o:=(Ok.refl i.wf).push (Nd .ready h.next kc);have t:=aI b (Nd .ready h.next kc);have A:YI h (b.push (Nd .ready h.next kc)) h.next b.next kc []:=⟨i.trans o,⟨none,0,0,o.ext _ _ C,fh.nil _ _ _ _,λj e=>by cases e⟩,t,Nat.le_refl _,by omega,by omega⟩
 refine(Yz w A q r y).mono ?_;rintro v d ⟨I,⟨a,n,c,z,x,F⟩,D,K,s,E⟩;refine⟨.normal,by rw[D];rfl,?_⟩;have m:Ok h (d.del b.next):=Ok.del I s w;have k:(d.del b.next).get h.next=some (.cells [.slice a n c] 22 0 true):=by rw[ae.dO,if_neg E];exact z
 have H:aj SS.P 22 (d.del b.next) (pA h.next)=some (.slice a n c):=cx tO ZK k (by simp);exact Ek (ks:=h.next) ⟨a,n,c,H,x.kI λj B G u=>(by rw[ae.dO,if_neg (F j G).2];exact u),m⟩
theorem WT{c:Nat}(w:Wf h)(f:h.get kc=some (.cells [.slice a n c] 22 0 true))(r:du h (.slice a n c) p)(d:p.length<=100000):FW SS 80 [QW kc] h (λv b=>fh h b 3 1 v (p.map qm)/\Ok h b):=by
 refine WS kc h _ ((OF w f r d).mono ?_);rintro v g ⟨o,e⟩;obtain⟨j,i,rfl⟩:=o.Yl;exact⟨_,_,_,rfl,o,e⟩
theorem U1{c:Nat}(w:Wf h)(j:h.get kc=some (.cells [.slice a n c] 22 0 true))(r:du h (.slice a n c) p)(b:p.length<=100000):FW SS 53 [QW kc] h (λv d=>fh h d 3 1 v ((lz p).map qm)/\Ok h d):=by
 refine U0 kc h _ ((WT w j r b).mono ?_);rintro v g ⟨o,i⟩;obtain⟨m,l,rfl⟩:=o.Yl;refine⟨_,_,_,rfl,(Q3 w i o b).mono ?_⟩;rintro v k ⟨rfl,f,e⟩;exact⟨rfl,f,e⟩
theorem YD{c:Nat}(w:Wf h):FW SS 54 [.slice a n c] h (λv b=>v=QW h.next/\b.get h.next=some (.cells [.slice a n c] 22 0 true)/\Ok h b):=
 YC a n c h _ ⟨_,Y5 a n c,rfl,aI h _,(Ok.refl w).push _⟩
end
end
variable{k:Nat}
section
def comp(l:List Int)(i:Nat):List Int:=(List.range i).flatMap λj=>if 1<=j/\l.getD j 0=l.getD (j-1) 0 then[]else[l.getD j 0]
theorem oj(l:List Int)(i:Nat):comp l (i+1)=comp l i++(if 1<=i/\l.getD i 0=l.getD (i-1) 0 then[]else[l.getD i 0]):=by
 unfold comp;rw[range_succ,List.flatMap_append];simp
section
variable {h0 g:ae} {kb off n c N:Nat} {l D:List Int}
structure sL(h0:ae)(kb off n N:Nat)(D:List Int)(g:ae):Prop where
 blk:∃cs,g.get kb=some (.cells cs 3 1 true)/\(cs.drop off).take n=D.map zV/\cs.length=N
 len:D.length=n
 ok:Ok h0 g
 fit:off+n<=N
 nb:h0.next<=kb
theorem sL.room(r:sL h0 kb off n N D g)(m:Nat):sL h0 kb off n N D (Go.Ab.room g m):=⟨r.blk,r.len,r.ok.room m,r.fit,r.nb⟩
theorem sL.rd0(r:sL h0 kb off n N D g)(c:Nat):Rd g 3 (.slice (some ⟨kb,off,none⟩) n c) (xl D):=by
 obtain⟨cs,a,b,d⟩:=r.blk;exact(.inr ⟨kb,off,cs,c,true,by rw[jz,r.len],a,by rw[jz,r.len];exact b⟩)
theorem sL.rd(r:sL h0 kb off n N D g)(c:Nat):du g (.slice (some ⟨kb,off,none⟩) n c) D:=du.NQ (r.rd0 c)
theorem sL.rdF(r:sL h0 kb off n N D g){k:Nat}(f:k<=n)(c:Nat):du g (.slice (some ⟨kb,off+k*1,none⟩) (n-k) c) (D.drop k):=by
 obtain⟨cs,b,d,e⟩:=r.blk;have a:(D.drop k).length=n-k:=by rw[length_drop,r.len]
 refine du.NQ (.inr ⟨kb,off+k*1,cs,c,true,by rw[jz,a],b,?_⟩);rw[jz,a,Nat.mul_one,<-List.drop_drop];have:((cs.drop off).drop k).take (n-k)=((cs.drop off).take n).drop k:=by rw[List.drop_take]
 rw[this,d];unfold xl;rw[List.map_drop];rfl
theorem sL.put(w:Wf h0)(r:sL h0 kb off n N D g){k:Nat}(e:k<n)(z:Int):∃u:dL,ah SS.P 3 (.pointer (some ⟨kb,off+k,none⟩)) (.int .i64 z) g=some (undef,u)/\sL h0 kb off n N (D.set k z) (u.app g):=by
 obtain⟨cs,a,d,c⟩:=r.blk;have b:=r.fit;refine⟨_,iX zs3 a (i:=off+k) (by omega) (v:= .int .i64 z) rfl rfl,⟨_,by show(g.set kb _).get kb=_;rw[ae.aw,if_pos rfl],?_,by rw[length_set];exact c⟩,by rw[length_set];exact r.len,r.ok.set _ r.nb (r.ok.wf _ _ a) w,b,r.nb⟩;rw[List.drop_set,if_neg (by omega),List.take_set,d,show off+k-off=k by omega,map_set];rfl
theorem sL.clr(w:Wf h0)(r:sL h0 kb off n N D g){k:Nat}(o:k<n)(d:Nat):∃u:dL,zp SS.P 22 (.slice (some ⟨kb,off+k*1,none⟩) (n-k) d) g=some (undef,u)/\∃a,sL h0 kb off n N a (u.app g)/\a.take k=D.take k:=by
 obtain⟨cs,b,f,m⟩:=r.blk;have c:=r.fit;have h:cX (iv 0).cells.toList (n-k)=List.replicate (n-k) (zV 0):=lH _ _;refine⟨.set kb (.cells (cs.take (off+k)++List.replicate (n-k) (zV 0)++cs.drop (off+k+(n-k))) 3 1 true),?_,D.take k++List.replicate (n-k) 0,⟨⟨_,by show(g.set kb _).get kb=_;rw[ae.aw,if_pos rfl],?_,?_⟩,?_,r.ok.set _ r.nb (r.ok.wf _ _ b) w,c,r.nb⟩,?_⟩
 ·unfold zp;rw[tO];dsimp only;rw[Zw];dsimp only;rw[if_neg (by omega),h,Nat.mul_one];unfold storeAt;rw[b];dsimp only;rw[if_pos ⟨by simp;omega,by simp[zV,dM]⟩,length_replicate];rfl
 ·have l:D.take k=D.take k:=rfl;rw[append_assoc,List.drop_append,length_take,Nat.min_eq_left (by omega),List.drop_append,length_replicate];have j:off-(off+k)=0:=by omega
  rw[j,drop_zero,show 0-(n-k)=0 by omega,drop_zero];have e:(cs.take (off+k)).drop off=(cs.drop off).take k:=by rw[List.drop_take,show off+k-off=k by omega]
  rw[e];have i:(cs.drop off).take k=(D.take k).map zV:=by
   have:(cs.drop off).take k=((cs.drop off).take n).take k:=by rw[take_take,Nat.min_eq_left (by omega)]
   rw[this,f,List.map_take]
  rw[i,<-append_assoc,List.take_append_of_le_length (by simp[r.len];omega),take_of_length_le (by simp[r.len];omega),map_append,List.map_replicate]
 ·rw[length_append,length_append,length_take,length_replicate,length_drop];omega
 ·rw[length_append,length_take,length_replicate,r.len];omega
 ·rw[List.take_append_of_le_length (by rw[length_take,r.len];omega),take_take,Nat.min_self]
end
theorem UU{g:ae}{off n c z:Nat}{cs:List Value}(b:g.get k=some (.cells cs 3 1 true))(f:z<=n)(e:n<=bO c):bP SS.P 22 (.slice (some ⟨k,off,none⟩) n c) none (some (.int .i64 (z:Int))) none g=some (.slice (some ⟨k,off,none⟩) z c):=by
 unfold bP;dsimp only;rw[tO];dsimp only[fp];rw[VY,b];dsimp only;rw[if_pos (.inl rfl),if_pos (by omega)];have a:(((0:Nat):Int)).toNat=0:=rfl;have d:((z:Int)-((0:Nat):Int)).toNat=z:=by omega
 rw[a,d,Nat.zero_mul,Nat.add_zero,sub_zero]
theorem SC{h0:ae}(w:Wf h0)(ok:Ok h0 h){v:Value}{l:List Int}(o:fh h0 h 3 1 v (l.map qm))(hl:l.length<=100000):FW SS 52 [v] h (λr h'=>∃a n c,r = .slice a n c/\Rd h' 3 (.slice a n c) (xl (comp l l.length))/\Ok h0 h'):=by
 have J:=aav o;by_cases K:l.length<2
 ·obtain⟨a,c,rfl⟩:=o.Yl;rw[lM]at J⊢;refine IU a l.length c h _ (aa (λ_=>⟨a,l.length,c,rfl,?_,ok⟩) (λe=>by have:=dF e;omega));have:comp l l.length=l:=by
   match l,K with
   |[],_=>rfl
   |[x],_=>rfl
   |x::y::r,K=>simp at K;omega
  rw[this];exact J
 obtain⟨_,⟨_,he⟩|⟨kb,off,cs,c,rfl,nb,Q,M,Z,N⟩⟩:=o
 ·exfalso;have:l=[]:=by simpa using he
  rw[this]at K;simp at K
 rw[lM]at M N;rw[lM]at J⊢;rw[Nat.mul_one,qG]at M;rw[Nat.mul_one]at Z;generalize x8:l.length=n at*;have r0:sL h0 kb off n cs.length l h:=⟨⟨cs,Q,M,rfl⟩,x8,ok,by omega,nb⟩
 refine IU _ n c h _ (aa (λe=>by have:=dT e;omega) (λ_=>?_));refine zr _ n c (λV k g=>1<=k/\k<=n/\V=n-k/\sL h0 kb off n cs.length l g/\comp l k=l.take k) _ (λV k=>?_) (n-1) (k:=1) ⟨by omega,by omega,rfl,r0,?_⟩
 rotate_left
 ·rw[gb (d:=0) (by omega)];have:comp l 1=[l.getD 0 0]:=by rw[oj,if_neg (by omega)];rfl
  rw[this];rfl
 intros;rename_i g x0;obtain⟨k1,k2,k3,rz,hc⟩:=x0;refine aa (λq=>?_) (λq=>?_)
 ·have Q:k<n:=by have:=dT q;omega
  obtain⟨s,rfl⟩:∃s,k=s+1:=⟨k-1,by omega⟩
  have B:=rz.room 10;obtain⟨p,e1,e2⟩:=du.at_ (B.rd c) (i:=s+1) (by omega);obtain⟨p',e3,e4⟩:=du.at_ (B.rd c) (i:=s) (by omega);rw[Ai s (by omega)];have z:=oj l (s+1);rw[show s+1-1=s by omega]at z;refine⟨_,e1,_,e2,_,e3,_,e4,aa (λC=>?_) (λC=>?_)⟩
  ·have C:l.getD (s+1) 0=l.getD s 0:=by simpa using C
   rw[if_pos ⟨by omega,C⟩,List.append_nil,hc]at z;obtain⟨y6,g1,g2,g3⟩:=B.blk;refine⟨_,_,_,Dy tO VY g1 (by omega) N,?_⟩;clear e1 e2 e3 e4 C;generalize y5:s+1=f at*;refine zt _ n c _ (n-f) (c-f) _ V (λS k j g=>1<=j/\j<=n-f/\S=n-f-j/\∃D,sL h0 kb off n cs.length D g/\(comp l (f+j)).length=k/\D.take k=comp l (f+j)/\k+1<=f+j/\∀p,f+j<=p+1->p<n->D.getD p 0=l.getD p 0) _ (λS k j=>?_) (n-f-1) (k:=f) (j:=1) ⟨by omega,by omega,rfl,l,B,by rw[z,length_take];omega,by rw[z],by omega,λ_ _ _=>rfl⟩;intros;rename_i g4 W;obtain⟨j1,j2,j3,D,F,dl,Y,dk,R⟩:=W;have y0:=F.len;refine aa (λU=>?_) (λU=>?_)
   ·have hj:j<n-f:=by have:=dT U;omega
    obtain⟨m,rfl⟩:∃m,j=m+1:=⟨j-1,by omega⟩
    have A:=F.room 10;have y7:(D.drop f).length=n-f:=by rw[length_drop,y0]
    obtain⟨p1,x1,O⟩:=du.at_ (A.rdF (by omega:f<=n) (c-f)) (i:=m+1) (by omega);obtain⟨p2,x3,X⟩:=du.at_ (A.rdF (by omega:f<=n) (c-f)) (i:=m) (by omega);have gd:∀i,(D.drop f).getD i 0=D.getD (f+i) 0:=λi=>by rw[gD,List.getElem?_drop,<-gD]
    rw[gd]at O X;rw[R (f+(m+1)) (by omega) (by omega)]at O;rw[R (f+m) (by omega) (by omega)]at X;have t:=oj l (f+(m+1));rw[show f+(m+1)-1=f+m by omega]at t;have L:k<n:=by omega
    rw[Ai m (by omega),aJ (i:=m+1) (n:=n) (by omega) (by omega)];refine⟨_,x1,_,O,_,x3,_,X,aa (λE=>?_) (λE=>?_)⟩
    ·have E:l.getD (f+(m+1)) 0≠l.getD (f+m) 0:=by simpa using E
     rw[if_neg (λe=>E e.2)]at t;obtain⟨u,st,x6⟩:=A.put w L (l.getD (f+(m+1)) 0);have x7:ax SS.P 22 (.slice (some ⟨kb,off,none⟩) n c) (iA k)=some (.pointer (some ⟨kb,off+k,none⟩)):=by
      have:=LJ (P:=SS.P) tO VY (k:=kb) (off:=off) (n:=n) (c:=c) (ik:= .i64) (i:=(k:Int)) (by omega) (by omega);rw[this];have e:off+((k:Int)).toNat*1=off+k:=by omega
      rw[e]
     rw[aJ (i:=k) (n:=n) (by omega) (by omega)];refine⟨_,x1,_,O,_,x7,u,st,jb (n-f-(m+1+1)) (by omega) ⟨by omega,by omega,rfl,_,x6,?_,?_,by omega,λp x9 I=>?_⟩⟩
     ·rw[show f+(m+1+1)=f+(m+1)+1 by omega,t,length_append,dl];rfl
     ·rw[show f+(m+1+1)=f+(m+1)+1 by omega,t,gb (d:=0) (by rw[length_set];omega),lC (Nat.le_refl _),Y,dq (by omega),if_pos rfl]
     ·rw[dq (by omega),if_neg (by omega)];exact R p (by omega) I
    ·have E:l.getD (f+(m+1)) 0=l.getD (f+m) 0:=by simpa using E
     rw[if_pos ⟨by omega,E⟩,List.append_nil]at t;refine jb (n-f-(m+1+1)) (by omega) ⟨by omega,by omega,rfl,D,A,?_,?_,by omega,λp x9 I=>R p (by omega) I⟩
     ·rw[show f+(m+1+1)=f+(m+1)+1 by omega,t];exact dl
     ·rw[show f+(m+1+1)=f+(m+1)+1 by omega,t];exact Y
   ·have hj:j=n-f:=by have:=dF U;omega
    have L:k<n:=by omega
    obtain⟨y4,y1,y2,y3⟩:=F.blk;obtain⟨u,cl,D',A,x5⟩:=F.clr w L (c-k);obtain⟨G,z1,z2,z3⟩:=A.blk;have T:comp l n=D.take k:=by rw[Y,hj,show f+(n-f)=n by omega]
    refine⟨_,_,_,Dy tO VY y1 (by omega) N,undef,u,Eq.trans (b:=zp SS.P 22 (.slice (some ⟨kb,off+k*1,none⟩) (n-k) (c-k)) g4) (by kernel_rfl) cl,_,_,_,UU z1 (by omega) N,_,_,_,rfl,?_,A.ok⟩;have H:(comp l n).length=k:=by rw[T,length_take];omega
    refine(.inr ⟨kb,off,G,c,true,by rw[jz,H],z1,?_⟩);rw[jz,H];have:(G.drop off).take k=((G.drop off).take n).take k:=by rw[take_take,Nat.min_eq_left (by omega)]
    rw[this,z2,<-List.map_take,x5,<-T];rfl
  ·have C:l.getD (s+1) 0≠l.getD s 0:=by simpa using C
   rw[if_neg (λe=>C e.2),hc]at z;rw[aJ (i:=s+1) (n:=n) (by omega) (by omega)];refine bY (n-(s+1+1)) (by omega) ⟨by omega,by omega,rfl,B,?_⟩;rw[z];exact(gb (d:=0) (by omega)).symm
 ·have Q:k=n:=by have:=dF q;omega
  subst Q;refine⟨_,_,_,rfl,?_,rz.ok⟩;rw[hc,take_of_length_le (by omega)];exact rz.rd0 c
end
variable{z:Int}
theorem aaB{d:ae}(r:Rd g 3 v (xl p))(h:Kp g d):Rd d 3 v (xl p):=by
 rcases r with⟨a,b⟩|⟨k,e,cs,c,i,a,b,f⟩
 ·exact .inl ⟨a,b⟩
 ·exact .inr ⟨k,e,cs,c,i,a,h.2 _ _ _ _ _ b (by decide) (by decide) (by decide),f⟩
def iB(l:List Int):List Int:=comp (lz l) (lz l).length
theorem IT(l:List Int):∀i,(comp l i).length<=i
 |0=>Nat.le_refl _
 |i+1=>by
  rw[oj,length_append];have:=IT l i;split
  ·simp;omega
  ·simp;omega
theorem F1(l:List Int):(lz l).length=l.length:=List.length_mergeSort l
theorem Tt(l:List Int):(iB l).length<=l.length:=by
 unfold iB;exact Nat.le_trans (IT _ _) (Nat.le_of_eq (F1 l))
def wb(a:Int)(l:List Int):List hO:=l.map λs=>⟨s,s,dc a,1⟩
def dx(a:Int)(l:List Int):bt:=⟨a,0,dc a,[⟨[],wb a (iB l)⟩,⟨dc a,[]⟩]⟩
def eY(a:Int)(l:List Int):bt×Int:=if(decide (1<=a/\a<=3)&&l.all kx)=true then(dx a l,0)else(tY,1)
theorem Nn{c:Nat}{l:List Int}(w:Wf h)(r:du h (.slice a n c) l)(hl:l.length<=10000):FW SS 21 [.int .i64 z,.slice a n c] h (Be h (eY z l)):=by
 obtain rfl:=du.len r;have e:=(Ok.refl w).push mO;have o:=aI h mO;have nb:h.next<(h.push mO).next:=lt_succ_self _;refine Wz z a _ c h _ ⟨_,qD,?_⟩;generalize h.push mO=K at*;unfold eY;refine aa (λq=>?_) (λq=>aa (λt=>?_) (λt=>?_))
 ·have:=dT q;rw[decide_eq_false (show ¬(1<=z/\z<=3) by omega),Bool.false_and,if_neg Bool.false_ne_true];exact ir w e o (Nat.le_refl _) 1
 ·have:=dT t;rw[decide_eq_false (show ¬(1<=z/\z<=3) by omega),Bool.false_and,if_neg Bool.false_ne_true];exact ir w e o (Nat.le_refl _) 1
 have q:=dF q;have t:=dF t;rw[decide_eq_true (show 1<=z/\z<=3 by omega),Bool.true_and];refine(SF (du.ok r e) (by omega)).mono ?_;rintro _ N ⟨rfl,A⟩;obtain rfl:K=N:=A.symm;refine⟨_,rfl,aa (λj=>?_) (λj=>?_)⟩
 ·rw[not_eq_true']at j;rw[j,if_neg Bool.false_ne_true];exact ir w e o (Nat.le_refl _) 1
 rw[not_eq_false']at j;rw[j,if_pos rfl];refine(mw z e.wf).mono ?_;rintro _ g3 ⟨k,rfl,D⟩;have u:=D.ux ((Ok.refl D.ok.wf).room 10);refine⟨_,rfl,(iu e.wf u (by simp) []).mono ?_⟩;rintro _ Y ⟨rfl,H,V⟩;refine⟨_,rfl,lF ⟨_,zw k,_,H.one,(iu e.wf H (by simp) _).mono ?_⟩⟩;rintro _ g5 ⟨rfl,x,U⟩;refine⟨_,rfl,⟨u.one,kM _⟩,(YD x.ok.wf).mono ?_⟩;rintro _ g6 ⟨rfl,T,m⟩;have R:=du.ok r ((e.trans x.ok).trans m);refine⟨_,_,_,rfl,(U1 m.wf T R (by omega)).mono ?_⟩;rintro v g7 ⟨F,S⟩;obtain⟨a7,X,rfl⟩:=F.Yl;refine⟨_,_,_,rfl,(SC m.wf S F (by rw[F1];omega)).mono ?_⟩;rintro _ Z ⟨E,n8,G,rfl,J,O⟩;obtain rfl:=du.len (du.NQ J);have P:=x.ux (m.trans O);refine⟨_,_,_,rfl,?_⟩;have W:=Tt l;rw[<-iB]at*;refine A0 z a l.length c h.next k 0 1 E (iB l).length G (λC i g=>i<=(iB l).length/\C=(iB l).length-i/\Rd g 3 (.slice E (iB l).length G) (xl (iB l))/\BS K g k z 0 (dc z) [⟨[],wb z ((iB l).take i)⟩,⟨dc z,[]⟩]) _ (λC i=>?_) (iB l).length (i:=0) ⟨Nat.zero_le _,rfl,J,P⟩;intros;rename_i g B;obtain⟨f1,f2,L,b⟩:=B;have f:df [(⟨[],wb z ((iB l).take i)⟩:dW),⟨dc z,[]⟩]=i:=by
  rw[dt,dt];show(wb z ((iB l).take i)).length+(0+0)=i;unfold wb;rw[lM,length_take];omega
 refine aa (λp=>?_) (λp=>?_)
 ·have y:i<(iB l).length:=by have:=dT p;omega
  obtain⟨pp,M,A⟩:=du.at_ (du.NQ L) y;refine⟨_,M,_,A,_,zw k,_,b.one,_,Y9 _ _ _ _,(wX (s:=0) e.wf b rfl (by rw[f];omega) ⟨(iB l).getD i 0,(iB l).getD i 0,dc z,1⟩).mono ?_⟩;rintro _ g9 ⟨rfl,Q,I⟩;rw[aJ y (by omega)];refine⟨rfl,bY ((iB l).length-(i+1)) (by omega) ⟨by omega,rfl,aaB L I,?_⟩⟩;have:wb z ((iB l).take (i+1))=wb z ((iB l).take i)++[⟨(iB l).getD i 0,(iB l).getD i 0,dc z,1⟩]:=by
   rw[gb (d:=0) y];unfold wb;rw[map_append];rfl
  rw[this];exact Q
 ·obtain rfl:i=(iB l).length:=by have:=dF p;omega
  rw[take_of_length_le (Nat.le_refl _)]at b f;exact oS w e.wf b (by simp) (by rw[f];omega) e o (Nat.le_refl _)
variable{Z:List (List UInt8)}
section
theorem yu:SS.P.underlying 106=some (.slice 103):=by kernel_rfl
theorem yP:aE SS.P 103=some 1:=by kernel_rfl
theorem abd:Go.Ab.isAgg SS.P 103=false:=by kernel_rfl
noncomputable def Vg:TypeInfo:=(SS.P.info? 103).getD default
theorem Vh:SS.P.info? 103=some Vg:=by kernel_rfl
theorem MU:Vg.size=1:=by kernel_rfl
theorem Kz:Vg.bytes=24:=by kernel_rfl
theorem YT:zeroOf SS.P 103=some nA:=by kernel_rfl
theorem acj(n:Nat)(a:n<=100000):bW SS.P 106 (.int .i64 (n:Int)) (.int .i64 (n:Int))=some (.cells (List.replicate n nA) 103 1 true,mh n n):=by
 unfold bW bV;dsimp only;rw[yu]
 try dsimp only
 change (match SS.P.info? 103,zeroOf SS.P 103 with
  |some i,some z=>(if z.cells.size=i.size/\0<i.size/\(0:Int)<=(n:Int)/\(n:Int)<=(n:Int)/\(n:Int)*i.bytes<=140737488355328/\(n:Int)<=1099511627776 then some (dP.cells (cX z.cells.toList (n:Int).toNat) 103 i.size true,λk=>Value.slice (some ⟨k,0,none⟩) (n:Int).toNat (n:Int).toNat)else none)
  |_,_=>none)=_
 rw[Vh,YT];dsimp only;rw[MU,Kz,if_pos ⟨rfl,by omega,by omega,Int.le_refl _,by omega,by omega⟩];have e:((n:Int)).toNat=n:=by omega
 rw[e,show(nA).cells.toList=[nA]from rfl,lH];rfl
theorem ZH{g:ae}{z:Nat}{cs:List Value}{l:Bool}(r:Rd g n v d)(p:g.get k=some (.cells cs m z l))(o:n≠m)(B:dP):Rd (g.set k B) n v d:=by
 rcases r with r|⟨h,b,e,c,f,j,a,i⟩
 ·exact .inl r
 ·exact .inr ⟨h,b,e,c,f,j,by rw[ae.aw,if_neg (λx=>by rw[x,p]at a;injection a with a;injection a with _ a;exact o a.symm)];exact a,i⟩
structure TB(h:ae)(kt X Y p:Nat)(kr:Nat->Nat)(cv:Nat->Nat->Value)(g:ae):Prop where
 out:g.get kt=some (.cells ((List.range X).map λa=>if a<p then vS (kr a) Y Y else nA) 103 1 true)
 row:∀a,a<p->g.get (kr a)=some (.cells ((List.range Y).map (cv a)) 107 1 true)
 new:h.next<=kt/\∀a,a<p->h.next<=kr a
 inj:∀a b,a<p->b<p->kr a=kr b->a=b
 ok:Ok h g
def Zt(cv:Nat->Nat->Value)(i j:Nat)(y:Value):Nat->Nat->Value:=λa b=>if a=i/\b=j then y else cv a b
section
variable {h:ae} {kt X Y p i j:Nat} {kr:Nat->Nat} {cv:Nat->Nat->Value} {g g':ae}
theorem TB.ux(t:TB h kt X Y p kr cv g)(o:Ok g g'):TB h kt X Y p kr cv g':=⟨o.ext _ _ t.out,λa b=>o.ext _ _ (t.row a b),t.new,t.inj,t.ok.trans o⟩
theorem TB.room(t:TB h kt X Y p kr cv g)(n:Nat):TB h kt X Y p kr cv (Go.Ab.room g n):=⟨t.out,t.row,t.new,t.inj,t.ok.room n⟩
theorem TB.V9(t:TB h kt X Y p kr cv g)(a:i<p)(b:p<=X):aj SS.P 103 g (.pointer (some ⟨kt,i,none⟩))=some (vS (kr i) Y Y):=by
 rw[cx nF abd t.out (by simp;omega),BI (by omega),if_pos a]
theorem TB.ldV(t:TB h kt X Y p kr cv g)(a:i<p)(b:j<Y):aj SS.P 107 g (.pointer (some ⟨kr i,j,none⟩))=some (cv i j):=by
 rw[cx Dx IA (t.row i a) (by simp;omega),BI b]
theorem TB.XO(t:TB h kt X Y p kr cv g)(w:Wf h)(d:i<p)(s:j<Y){y:Value}(n:dM y=true)(m:y.cells = #[y]):∃u:dL,ah SS.P 107 (.pointer (some ⟨kr i,j,none⟩)) y g=some (undef,u)/\TB h kt X Y p kr (Zt cv i j y) (u.app g)/\(∀v l,Rd g 9 v l->Rd (u.app g) 9 v l)/\(∀k l,VB g k l->VB (u.app g) k l)/\(u.app g).next=g.next:=by
 have c:=t.row i d;refine⟨_,iX nq c (by simp;omega) n m,⟨?_,λa f=>?_,t.new,t.inj,t.ok.set _ (t.new.2 i d) (t.ok.wf _ _ c) w⟩,λv l r=>ZH r c (by decide) _,λk l b=>?_,rfl⟩
 ·show(g.set (kr i) _).get kt=_;rw[ae.aw,if_neg (km t.out c (by decide))];exact t.out
 ·show(g.set (kr i) _).get (kr a)=_;rw[ae.aw];by_cases e:a=i
  ·subst e;rw[if_pos rfl];congr 2;refine ext_getElem (by simp) λb o q=>?_;rw[List.getElem_set];simp only[List.getElem_map,List.getElem_range];unfold Zt;by_cases e:j=b
   ·subst e;simp
   ·rw[if_neg e,if_neg (λx=>e x.2.symm)]
  ·rw[if_neg (λx=>e (t.inj a i f d x)),t.row a f];congr 2;refine List.map_congr_left λb _=>?_;unfold Zt;rw[if_neg (λx=>e x.1)]
 ·show(g.set (kr i) _).get k=_;rw[ae.aw,if_neg (λx=>by rw[x]at b;have b:g.get (kr i)=_:=b;rw[c]at b;injection b with b;injection b with _ b;exact absurd b (by decide))];exact b
theorem TB.adf(t:TB h kt X Y p kr cv g)(w:Wf h)(y:p<X){i:Nat}(m:g.get i=some (.cells (List.replicate Y nA) 107 1 true))(v:h.next<=i)(j:∀a,a<p->kr a≠i)(n:∀b,cv p b=nA):∃u:dL,ah SS.P 103 (.pointer (some ⟨kt,p,none⟩)) (sA i Y Y) g=some (undef,u)/\TB h kt X Y (p+1) (λa=>if a=p then i else kr a) cv (u.app g)/\(∀k l,VB g k l->VB (u.app g) k l)/\(u.app g).next=g.next:=by
 refine⟨_,iX yP t.out (by simp;omega) rfl rfl,⟨?_,λa o=>?_,⟨t.new.1,λa o=>?_⟩,λa b o x f=>?_,t.ok.set _ t.new.1 (t.ok.wf _ _ t.out) w⟩,λk l b=>?_,rfl⟩
 ·show(g.set kt _).get kt=_;rw[ae.aw,if_pos rfl];congr 2;refine ext_getElem (by simp) λb r s=>?_;rw[List.getElem_set];simp only[List.getElem_map,List.getElem_range];by_cases e:p=b
  ·subst e;rw[if_pos rfl,if_pos (by omega),if_pos rfl];rfl
  ·rw[if_neg e];by_cases q:b<p
   ·rw[if_pos q,if_pos (by omega),if_neg (by omega)]
   ·rw[if_neg q,if_neg (by omega)]
 ·show(g.set kt _).get _=_;by_cases e:a=p
  ·subst e;rw[if_pos rfl,ae.aw,if_neg (km m t.out (by decide)),m];congr 2;refine ext_getElem (by simp) λb r s=>?_;simp only[List.getElem_map,List.getElem_range,List.getElem_replicate];exact(n b).symm
  ·have:=t.row a (by omega);rw[if_neg e,ae.aw,if_neg (km this t.out (by decide))];exact this
 ·split
  ·exact v
  ·exact t.new.2 a (by omega)
 ·by_cases c:a=p<;>by_cases d:b=p
  ·omega
  ·rw[if_pos c,if_neg d]at f;exact absurd f.symm (j b (by omega))
  ·rw[if_neg c,if_pos d]at f;exact absurd f (j a (by omega))
  ·rw[if_neg c,if_neg d]at f;exact t.inj a b (by omega) (by omega) f
 ·show(g.set kt _).get k=_;rw[ae.aw,if_neg (km b t.out (by decide))];exact b
end
structure TV(kind:Int)(N X Y:Nat)(cv:Nat->Nat->Value)(T:List LM)(g:ae):Prop where
 len:T.length=X
 row:∀a,a<X->(T.getD a []).length=Y
 at_:∀a b,a<X->b<Y->∃(ad:Option Addr)(c:Nat),cv a b = .slice ad N c/\Rd g 9 (.slice ad N c) (eE (dI T a b))/\VV kind N (dI T a b)
section
variable {kind:Int} {N X Y i j:Nat} {cv:Nat->Nat->Value} {T:List LM} {g g':ae}
theorem IE{T:List LM}{X Y i j a b:Nat}(g:T.length=X)(f:∀a,a<X->(T.getD a []).length=Y)(c:i<X)(d:j<Y)(v:List (List UInt8)):dI (fo T i j v) a b=if a=i/\b=j then v else dI T a b:=by
 unfold dI fo;rw[dq (by omega)];by_cases e:a=i
 ·subst e;rw[if_pos rfl,dq (by rw[f a c];exact d)];by_cases e:b=j
  ·rw[if_pos e,if_pos ⟨rfl,e⟩]
  ·rw[if_neg e,if_neg (λx=>e x.2)]
 ·rw[if_neg e,if_neg (λx=>e x.1)]
theorem Km{T:List LM}{X Y i j:Nat}(c:T.length=X)(b:∀a,a<X->(T.getD a []).length=Y)(e:i<X)(f:j<Y)(v:List (List UInt8)):(fo T i j v).length=X/\∀a,a<X->((fo T i j v).getD a []).length=Y:=by
 unfold fo;refine⟨by rw[length_set];exact c,λa d=>?_⟩;rw[dq (by omega)];split
 ·rw[length_set];exact b i e
 ·exact b a d
theorem TV.ok(t:TV kind N X Y cv T g)(o:Ok g g'):TV kind N X Y cv T g':=⟨t.len,t.row,λa b j d=>by obtain⟨h,c,f,i,e⟩:=t.at_ a b j d;exact⟨h,c,f,i.ok o,e⟩⟩
theorem TV.put(t:TV kind N X Y cv T g)(f:i<X)(k:j<Y)(h:∀v l,Rd g 9 v l->Rd g' 9 v l){d:Option Addr}{c:Nat}{l:List (List UInt8)}(r:Rd g 9 (.slice d N c) (eE l))(u:VV kind N l):TV kind N X Y (Zt cv i j (.slice d N c)) (fo T i j l) g':=by
 obtain⟨s,w⟩:=Km t.len t.row f k l;refine⟨s,w,λa b q m=>?_⟩;rw[IE t.len t.row f k];unfold Zt;by_cases e:a=i/\b=j
 ·rw[if_pos e,if_pos e];exact⟨d,c,rfl,h _ _ r,u⟩
 ·rw[if_neg e,if_neg e];obtain⟨d,c,o,p,n⟩:=t.at_ a b q m;exact⟨d,c,o,h _ _ p,n⟩
end
def ZF(h g:ae)(N:Nat)(d:List (List UInt8))(cv:Nat->Nat->Value)(c:Nat->Nat->Nat)(f:Nat->Nat->Prop):Prop:=∀a b,f a b->cv a b=vS (c a b) N N/\VB g (c a b) d/\h.next<=c a b/\((a=0/\b=0)\/c a b≠c 0 0)
theorem ZF.mono{h g g':ae}{N:Nat}{cv:Nat->Nat->Value}{d:Nat->Nat->Nat}{f e:Nat->Nat->Prop}(z:ZF h g N Z cv d f)(p:∀k l,VB g k l->VB g' k l)(i:∀a b,e a b->f a b):ZF h g' N Z cv d e:=λa b c=>by
 obtain⟨m,n,j,o⟩:=z a b (i a b c);exact⟨m,p _ _ n,j,o⟩
theorem ZF.add{h g g':ae}{N i j:Nat}{cv:Nat->Nat->Value}{p:Nat->Nat->Nat}{f q:Nat->Nat->Prop}(z:ZF h g N Z cv p f)(u:∀k l,VB g k l->k<n)(y:∀k l,VB g k l->VB g' k l)(B:VB g' n Z)(w:h.next<=n)(c:(i=0/\j=0)\/f 0 0)(r:∀a b,q a b->f a b\/(a=i/\b=j))(A:i=0/\j=0->∀a b,¬f a b):ZF h g' N Z (Zt cv i j (vS n N N)) (λa b=>if a=i/\b=j then n else p a b) q:=λa b o=>by
 unfold Zt;dsimp only;by_cases e:a=i/\b=j
 ·rw[if_pos e,if_pos e];refine⟨rfl,B,w,?_⟩;by_cases d:i=0/\j=0
  ·left;omega
  ·right;rw[if_neg (by omega)];rcases c with c|c
   ·exact absurd c d
   ·have:=u _ _ (z 0 0 c).2.1;omega
 ·rw[if_neg e,if_neg e];have m:f a b:=(r a b o).resolve_right e;obtain⟨t,v,s,x⟩:=z a b m;refine⟨t,y _ _ v,s,x.imp id λC=>?_⟩;by_cases d:0=i/\0=j
  ·exact absurd m (A ⟨d.1.symm,d.2.symm⟩ a b)
  ·rw[if_neg d];exact C
def ZJ(kind:Int)(N:Nat)(g:ae)(b:Option Addr)(bn bc:Nat):Option LM->Prop
 |none=>b=none/\bn=0/\bc=0
 |some B=>(∃a,b=some a)/\bn=N/\Lf 107 g (.slice b bn bc) B/\Sq kind N B
theorem ZJ.ok{kind:Int}{N:Nat}{g g':ae}{b:Option Addr}{bn bc:Nat}{o:Option LM}(s:ZJ kind N g b bn bc o)(k:Ok g g'):ZJ kind N g' b bn bc o:=by
 cases o with
 |none=>exact s
 |some B=>exact⟨s.1,s.2.1,s.2.2.1.ok k,s.2.2.2⟩
section
variable {h:ae} {M:bt} {x a b:Option Addr} {z c bn bc:Nat} {V:List (List UInt8)} {o:Option LM}
theorem Yb(w:Wf h)(i:Oi M)(r:dS h (.slice x M.af.length z) M.af)(e:Rd h 9 (.slice a M.af.length c) (eE V))(d:VV M.kind M.af.length V)(f:ZJ M.kind M.af.length h b bn bc o):FW SS 75 [.agg ⟨bR M x M.af.length z⟩,.slice a M.af.length c,.slice b bn bc] h (Vw h M.kind M.af.length (fS (aX M.kind) V o)):=by
 cases o with
 |none=>
  obtain⟨rfl,rfl,rfl⟩:=f;exact Rj w r e d
 |some B=>
  obtain⟨⟨k,rfl⟩,rfl,g,j⟩:=f;exact VA w i r e d g j
end
end
section
def acY(k kt N:Nat)(F K:Int)(v:OA)(M vc:Nat)(I J:Int)(Q:VH)(G:ae->Prop)(h:ae):Prop:=xA (aj SS.P 29 h (pA k)) λH=>FW SS 76 [(.agg ⟨H⟩),(.slice v M vc),(.int .i64 I),(.int .i64 J),(.bool false)] h λE a=>∃(o:OA)(q m:Nat),∃f:Int,E=(.tuple ⟨[(.slice o q m),(.int .i64 f)]⟩)/\au (((f:Int) !=0)) (Q (.tuple ⟨[(strOf []),(.int .i64 f)]⟩) a) (xP (ax SS.P 106 (sA kt N N) (.int .i64 F)) λi=>xL (aj SS.P 103 (room a 30) (.pointer (some i))) λc d b=>xP (aW SS.P 29 (pA k) 0) λx=>xI .i64 (aj SS.P 3 (room a 30) (.pointer (some x))) λy=>xP (ax SS.P 106 (sA kt N N) (.int .i64 F)) λz=>xL (aj SS.P 103 (room a 30) (.pointer (some z))) λA w u=>xP (ax SS.P 103 (.slice A w u) (.int .i64 K)) λs=>xL (aj SS.P 107 (room a 30) (.pointer (some s))) λC D r=>FW SS 77 [(.int .i64 y),(.slice C D r),(.slice o q m)] (room a 30) λt g=>∃(j:OA)(l p:Nat),∃e:Int,t=(.tuple ⟨[(.slice j l p),(.int .i64 e)]⟩)/\xP (ax SS.P 103 (.slice c d b) (.int .i64 K)) λB=>xU (ah SS.P 107 (.pointer (some B)) (.slice j l p) g) g λL n=>(aj SS.P 103 g (.pointer (some i))=some (.slice c d b)/\dC 4 (.slice c d b) (.slice c d b)=true)/\au (((e:Int) !=0)) (Q (.tuple ⟨[(strOf []),(.int .i64 e)]⟩) n) (G n))
theorem N4(a:Option Addr)(n c:Nat):dM (.slice a n c)=true:=by cases a<;>rfl
section
variable {h0 h:ae} {M:bt} {x v:Option Addr} {z k kt X Y i j vc:Nat} {kr:Nat->Nat} {cv:Nat->Nat->Value} {T:List LM} {V:List (List UInt8)}
def Me(M:bt)(V:List (List UInt8))(a b:Int)(T:List LM)(i j:Nat):Option (List LM):=match kQ (aX M.kind) (gm M) V a b with
 |none=>none
 |some s=>match nt (aX M.kind) (dI T i j) s with
  |none=>none
  |some r=>some (fo T i j r)
theorem VE(w:Wf h0)(O:Oi M)(U:MB h0 k M x M.af.length z)(A:TB h0 kt X Y X kr cv h)(tv:TV M.kind M.af.length X Y cv T h)(Z:Rd h 9 (.slice v M.af.length vc) (eE V))(vv:VV M.kind M.af.length V)(a:i<X)(f:j<Y)(q r:Int){Q:VH}{G:ae->Prop}
  (n:Me M V q r T i j=none->∀g,Ok h0 g->Q (two [] 2) g)
  (p:∀R,Me M V q r T i j=some R->∀D g,TB h0 kt X Y X kr D g->TV M.kind M.af.length X Y D R g->Rd g 9 (.slice v M.af.length vc) (eE V)->G g):
  acY k kt X (i:Int) (j:Int) v M.af.length vc q r Q G h:=by
 have hn:=O.n;unfold Me at n p;have B:=U.ok A.ok;refine⟨_,B.all,(VD A.ok.wf O B.row Z vv q r).mono ?_⟩;rintro _ g1 ⟨m,d⟩
 cases L:kQ (aX M.kind) (gm M) V q r with
 |none=>
  rw[L]at d n;subst d;exact⟨_,_,_,_,rfl,aa (λ_=>n rfl _ (A.ok.trans m)) (λe=>by cases e)⟩
 | some s=>
  rw[L]at d n p;obtain⟨H,K,rfl,rs,vs⟩:=d;dsimp only at n p;have b:=(A.ux m).room 30;have E:TV M.kind M.af.length X Y cv T (Go.Ab.room g1 30):=(tv.ok m).ok ((Ok.refl m.wf).room 30);have P:=U.ok b.ok;obtain⟨ad,c,ec,rc,J⟩:=E.at_ i j a f;have C:=b.ldV a f;rw[ec]at C;refine⟨_,_,_,_,rfl,aa (λe=>by cases e) (λ_=>⟨_,CP yu yP a,_,_,_,b.V9 a (Nat.le_refl _),_,dZ _,_,P.l0,_,CP yu yP a,_,_,_,b.V9 a (Nat.le_refl _),_,CP nF nq f,_,_,_,C,(YM b.ok.wf hn rc J (Rd.ok rs ((Ok.refl m.wf).room 30)) vs).mono ?_⟩)⟩;rintro _ g2 ⟨I,d⟩;have o:=b.ux I;have N:=E.ok I
  cases W:nt (aX M.kind) (dI T i j) s with
  |none=>
   rw[W]at d n;subst d;obtain⟨u,F,t,_,_,_⟩:=o.XO w a f (y:=nA) rfl rfl;exact⟨_,_,_,_,rfl,_,CP nF nq f,u,F,⟨o.V9 a (Nat.le_refl _),kz _ _ _⟩,aa (λ_=>n rfl _ t.ok) (λe=>by cases e)⟩
  |some l=>
   rw[W]at d p;obtain⟨H,K,rfl,rl,vl⟩:=d;obtain⟨u,F,t,S,_,_⟩:=o.XO w a f (y:= .slice H M.af.length K) (N4 _ _ _) (by cases H<;>rfl);exact⟨_,_,_,_,rfl,_,CP nF nq f,u,F,⟨o.V9 a (Nat.le_refl _),kz _ _ _⟩,aa (λe=>by cases e) (λ_=>p _ rfl _ _ t (N.put a f S rl vl) (S _ _ ((Rd.ok (Rd.ok Z m) ((Ok.refl m.wf).room 30)).ok I)))⟩
end
end
section
def RW(M:bt)(B:Option LM)(xs ys:List Int)(i:Nat)(T:List LM):Option (List UInt8):=match bg (qV (aX M.kind) (gm M) B xs ys) (xs.length+1-i) i T with
 |none=>none
 |some T=>oC (aX M.kind) (gm M) (dI T xs.length ys.length)
def RJ(M:bt)(B:Option LM)(xs ys:List Int)(i j:Nat)(T:List LM):Option (List UInt8):=match bg (mR (aX M.kind) (gm M) B xs ys i) (ys.length+1-j) j T with
 |none=>none
 |some T=>RW M B xs ys (i+1) T
def Rr(M:bt)(B:Option LM)(xs ys:List Int)(i j:Nat)(V:List (List UInt8))(q:Nat)(T:List LM):Option (List UInt8):=match bg (oE (aX M.kind) (gm M) xs ys V i j) (4-q) q T with
 |none=>none
 |some T=>RJ M B xs ys i (j+1) T
section
variable {M:bt} {B:Option LM} {xs ys:List Int} {i j q:Nat} {V:List (List UInt8)} {T:List LM}
theorem ZG(a:i<xs.length+1):RW M B xs ys i T=RJ M B xs ys i 0 T:=by
 unfold RW RJ;rw[fg _ a];have e:qV (aX M.kind) (gm M) B xs ys T i=bg (mR (aX M.kind) (gm M) B xs ys i) (ys.length+1-0) 0 T:=rfl;rw[e]
 cases bg (mR (aX M.kind) (gm M) B xs ys i) (ys.length+1-0) 0 T<;>rfl
theorem Wk:RJ M B xs ys i (ys.length+1) T=RW M B xs ys (i+1) T:=by unfold RJ;rw[iH]
theorem RK(b:j<ys.length+1):RJ M B xs ys i j T=match fS (aX M.kind) (dI T i j) B with|none=>none|some v=>Rr M B xs ys i j v 1 (fo T i j v):=by
 unfold Rr;have a:RJ M B xs ys i j T=match (match fS (aX M.kind) (dI T i j) B with|none=>none|some v=>bg (oE (aX M.kind) (gm M) xs ys v i j) 3 1 (fo T i j v))with|none=>none|some T=>RJ M B xs ys i (j+1) T:=by
  conv=>lhs;unfold RJ
  rw[fg _ b];have e:mR (aX M.kind) (gm M) B xs ys i T j=(match fS (aX M.kind) (dI T i j) B with|none=>none|some v=>bg (oE (aX M.kind) (gm M) xs ys v i j) 3 1 (fo T i j v)):=by
   unfold mR
   cases fS (aX M.kind) (dI T i j) B<;>rfl
  rw[e];generalize (match fS (aX M.kind) (dI T i j) B with|none=>none|some v=>bg (oE (aX M.kind) (gm M) xs ys v i j) 3 1 (fo T i j v))=o
  cases o<;>rfl
 rw[a]
 cases fS (aX M.kind) (dI T i j) B<;>rfl
theorem Wm:Rr M B xs ys i j V 4 T=RJ M B xs ys i (j+1) T:=by unfold Rr;rw[iH]
theorem Ix(a:q<4)(b:xs.length<i+q%2\/ys.length<j+q/2):Rr M B xs ys i j V q T=Rr M B xs ys i j V (q+1) T:=by
 unfold Rr;rw[fg _ a];unfold oE;rw[if_pos b]
theorem RL(a:q<4)(b:¬(xs.length<i+q%2\/ys.length<j+q/2)):Rr M B xs ys i j V q T=match Me M V (bL xs i (q%2)) (bL ys j (q/2)) T (i+q%2) (j+q/2)with|none=>none|some T=>Rr M B xs ys i j V (q+1) T:=by
 unfold Rr;rw[fg _ a];have e:oE (aX M.kind) (gm M) xs ys V i j T q=Me M V (bL xs i (q%2)) (bL ys j (q/2)) T (i+q%2) (j+q/2):=by
  unfold oE Me;rw[if_neg b]
  cases kQ (aX M.kind) (gm M) V (bL xs i (q%2)) (bL ys j (q/2))with
  |none=>rfl
  |some s=>dsimp only;cases nt (aX M.kind) (dI T (i+q%2) (j+q/2)) s<;>rfl
 rw[e]
 cases Me M V (bL xs i (q%2)) (bL ys j (q/2)) T (i+q%2) (j+q/2)<;>rfl
end
theorem ad9{q:Nat}(h:q=1\/q=2\/q=3):wrap .i64 ((BitVec.ofInt (IntKind.bits .i64) (q:Int)&&&BitVec.ofInt (IntKind.bits .i64) 1).toNat:Int)=((q%2:Nat):Int):=by
 rcases h with rfl|rfl|rfl<;>decide
theorem aea{q:Nat}(h:q=1\/q=2\/q=3):ay SS.P .shr 3 (iA q) (.int .u64 1)=some (.int .i64 ((q/2:Nat):Int)):=by
 rcases h with rfl|rfl|rfl<;>kernel_rfl
theorem KL{i j:Nat}(h:i+j<=1000000000):wrap .i64 ((i:Int)+((j:Nat):Int))=((i+j:Nat):Int):=by rw[aD (by omega) (by omega)];omega
section
variable {h0:ae} {M:bt} {x:Option Addr} {z k kt:Nat} {xa ya:Option Addr} {xc yc:Nat} {xs ys:List Int} {B:Option LM} {b:Option Addr} {bn bc:Nat}
theorem YS(w:Wf h0)(mo:Oi M)(mb:MB h0 k M x M.af.length z)(hx:xs.length<=200)(hy:ys.length<=200)(rx:du h0 (.slice xa xs.length xc) xs)(ry:du h0 (.slice ya ys.length yc) ys)(sb:ZJ M.kind M.af.length h0 b bn bc B){Q:VH}{Z:Nat->Nat}{d:Nat->Nat->Value}{T:List LM}{g:ae}
  (S:TB h0 kt (xs.length+1) (ys.length+1) (xs.length+1) Z d g) (tv:TV M.kind M.af.length (xs.length+1) (ys.length+1) d T g) (hQ:∀v g,oQ h0 (RW M B xs ys 0 T) v g->Q v g):
  LL SS cz [1,1,1,1,1,1,1,0,1,0,0] (gz xa xs.length xc ya ys.length yc k kt (xs.length+1) b bn bc 0) g (KK SS cz [1,1,1,1,1,1,1,0,1,0] [] (EE SS cz Q)):=by
 obtain⟨G,hG⟩:∃G,G=RW M B xs ys 0 T:=⟨_,rfl⟩
 rw[<-hG]at hQ;obtain⟨X,hX⟩:∃X,X=xs.length+1:=⟨_,rfl⟩
 obtain⟨Y,hY⟩:∃Y,Y=ys.length+1:=⟨_,rfl⟩
 rw[<-hX,<-hY]at S tv;rw[<-hX];have hn:=mo.n;refine DQ (bR M x M.af.length z) xa xs.length xc ya ys.length yc k kt X b bn bc (λmz i g=>i<=X/\mz=X-i/\∃d T,TB h0 kt X Y X Z d g/\TV M.kind M.af.length X Y d T g/\RW M B xs ys i T=G) _ (λmz i=>?_) X (i:=0) ⟨by omega,rfl,d,T,S,tv,hG.symm⟩;intros;rename_i g1 x5;obtain⟨f1,f2,d,T,S,tv,L⟩:=x5;refine aa (λq1=>?_) (λq1=>?_)
 ·have m:i<X:=by have:=dT q1;omega
  rw[ZG (by omega)]at L;refine DR (bR M x M.af.length z) xa xs.length xc ya ys.length yc k kt X b bn bc _ mz i (λW j g=>j<=Y/\W=Y-j/\∃d T,TB h0 kt X Y X Z d g/\TV M.kind M.af.length X Y d T g/\RJ M B xs ys i j T=G) _ (λW j=>?_) Y (j:=0) ⟨by omega,rfl,d,T,S,tv,L⟩;intros;rename_i g2 x3;obtain⟨d1,d2,y1,T2,x0,x2,r⟩:=x3;refine aa (λq2=>?_) (λq2=>?_)
  ·have A:j<Y:=by have:=dT q2;omega
   rw[RK (by omega)]at r;have a:=x0.room 15;have O:TV M.kind M.af.length X Y y1 T2 (Go.Ab.room g2 15):=x2.ok ((Ok.refl x0.ok.wf).room 15);have H:=mb.ok a.ok;obtain⟨ad,c,ec,rc,vc⟩:=O.at_ i j m A;have F:=a.ldV m A;rw[ec]at F;refine⟨_,H.all,_,CP yu yP m,_,_,_,a.V9 m (Nat.le_refl _),_,CP nF nq A,_,_,_,F,(Yb a.ok.wf mo H.row rc vc (sb.ok a.ok)).mono ?_⟩;rintro _ g3 ⟨o3,hv⟩;have x1:=a.ux o3;have x8:=O.ok o3
   cases C:fS (aX M.kind) (dI T2 i j) B with
   |none=>
    rw[C]at hv r;subst hv;exact⟨_,_,_,_,rfl,aa (λ_=>hQ _ _ ⟨by rw[<-r];rfl,x1.ok⟩) (λe=>by cases e)⟩
   | some V=>
    rw[C]at hv r;obtain⟨J,R,rfl,rl,vl⟩:=hv;dsimp only at r;obtain⟨u,st,x6,kp,_,_⟩:=x1.XO w m A (y:= .slice J M.af.length R) (N4 _ _ _) (by cases J<;>rfl);have x7:=x8.put m A kp rl vl;have x9:=kp _ _ rl;refine⟨_,_,_,_,rfl,aa (λe=>by cases e) (λ_=>⟨_,CP yu yP m,_,_,_,x1.V9 m (Nat.le_refl _),_,CP nF nq A,u,st,?_⟩)⟩;refine DS (bR M x M.af.length z) xa xs.length xc ya ys.length yc k kt X b bn bc _ mz i _ W j J M.af.length R (λE q g=>1<=q/\q<=4/\E=4-q/\∃d T,TB h0 kt X Y X Z d g/\TV M.kind M.af.length X Y d T g/\Rd g 9 (.slice J M.af.length R) (eE V)/\Rr M B xs ys i j V q T=G) _ (λE q=>?_) 3 (q:=1) ⟨by omega,by omega,rfl,_,_,x6,x7,x9,r⟩;intros;rename_i g5 x4;obtain⟨b1,b2,b3,y3,T6,s,N,U,h⟩:=x4;refine aa (λq3=>?_) (λq3=>?_)
    ·have hq:q=1\/q=2\/q=3:=by have:=dT q3;omega
     have P:q<4:=by omega
     have y0:wrap .i64 ((q:Int)+1)=((q+1:Nat):Int):=aJ P (by omega);refine⟨_,aea hq,?_⟩;dsimp only;rw[ad9 hq,KL (show i+q%2<=1000000000 by omega),KL (show j+q/2<=1000000000 by omega),y0];refine aa (λq4=>?_) (λq4=>aa (λq5=>?_) (λq5=>?_))
     ·have hc:xs.length<i+q%2\/ys.length<j+q/2:= .inl (by have:=dT q4;omega);exact bY (4-(q+1)) (by omega) ⟨by omega,by omega,rfl,_,_,s,N,U,by rw[<-Ix P hc];exact h⟩
     ·have hc:xs.length<i+q%2\/ys.length<j+q/2:= .inr (by have:=dT q5;omega);exact bY (4-(q+1)) (by omega) ⟨by omega,by omega,rfl,_,_,s,N,U,by rw[<-Ix P hc];exact h⟩
     ·have y2:¬xs.length<i+q%2:=by have:=dF q4;omega
      have y4:¬ys.length<j+q/2:=by have:=dF q5;omega
      rw[RL P (by omega)]at h;have f:=VE (i:=i+q%2) (j:=j+q/2) (Q:=Q) (G:=λg=>aB (eR (fD xa xs.length xc ya ys.length yc k kt X b bn bc i j J M.af.length R) (λE q g=>1<=q/\q<=4/\E=4-q/\∃d T,TB h0 kt X Y X Z d g/\TV M.kind M.af.length X Y d T g/\Rd g 9 (.slice J M.af.length R) (eE V)/\Rr M B xs ys i j V q T=G)) E [(.slice xa xs.length xc),(.slice ya ys.length yc),(pA k),(.slice b bn bc),(sA kt X X),(iA i),(iA j),(.slice J M.af.length R),(iA (q+1))] g) w mo mb s N U vl (by omega) (by omega) (bL xs i (q%2)) (bL ys j (q/2))
       (λe g ok=>hQ _ _ ⟨by rw[e]at h;rw[<-h];rfl,ok⟩)
       (λT' e y5 g t1 t2 t3=>bY (4-(q+1)) (by omega) ⟨by omega,by omega,rfl,_,_,t1,t2,t3,by rw[e]at h;exact h⟩)
      refine aa (λq6=>?_) (λq6=>?_)
      ·have h1:q%2=1:=by have:((q%2:Nat):Int)=1:=(by simpa using q6);omega
       obtain⟨p,C,K⟩:=du.at_ (du.ok rx s.ok) (i:=i) (by omega);have t:bL xs i (q%2)=xs.getD i 0:=if_pos h1;rw[t]at f;refine⟨_,C,_,K,aa (λD=>?_) (λD=>?_)⟩
       ·have I:q/2=1:=by have:((q/2:Nat):Int)=1:=(by simpa using D);omega
        obtain⟨p,C,K⟩:=du.at_ (du.ok ry s.ok) (i:=j) (by omega);have t:bL ys j (q/2)=ys.getD j 0:=if_pos I;rw[t]at f;exact⟨_,C,_,K,f⟩
       ·have I:¬q/2=1:=λe=>by rw[e]at D;exact absurd D (by decide)
        have t:bL ys j (q/2)=0:=if_neg I;rw[t]at f;exact f
      ·have h1:¬q%2=1:=λe=>by rw[e]at q6;exact absurd q6 (by decide)
       have t:bL xs i (q%2)=0:=if_neg h1;rw[t]at f;refine aa (λD=>?_) (λD=>?_)
       ·have I:q/2=1:=by have:((q/2:Nat):Int)=1:=(by simpa using D);omega
        obtain⟨p,C,K⟩:=du.at_ (du.ok ry s.ok) (i:=j) (by omega);have t:bL ys j (q/2)=ys.getD j 0:=if_pos I;rw[t]at f;exact⟨_,C,_,K,f⟩
       ·have I:¬q/2=1:=λe=>by rw[e]at D;exact absurd D (by decide)
        have t:bL ys j (q/2)=0:=if_neg I;rw[t]at f;exact f
    ·obtain rfl:q=4:=by have:=dF q3;omega
     rw[Wm]at h;rw[aJ A (by omega)];exact bY (Y-(j+1)) (by omega) ⟨by omega,rfl,_,_,s,N,h⟩
  ·obtain rfl:j=Y:=by have:=dF q2;omega
   rw[hY,Wk]at r;rw[aJ m (by omega)];exact bY (X-(i+1)) (by omega) ⟨by omega,rfl,_,_,x0,x2,r⟩
 ·obtain rfl:i=X:=by have:=dF q1;omega
  unfold RW at L;rw[hX,iH]at L;have L:oC (aX M.kind) (gm M) (dI T xs.length ys.length)=G:=L;have a:=S.room 15;have O:TV M.kind M.af.length i Y d T (Go.Ab.room g1 15):=tv.ok ((Ok.refl S.ok.wf).room 15);have H:=mb.ok a.ok;have m:xs.length<i:=by omega
  have A:ys.length<Y:=by omega
  obtain⟨ad,c,ec,rc,vc⟩:=O.at_ xs.length ys.length m A;have F:=a.ldV m A;rw[ec]at F;refine⟨_,H.all,_,CP yu yP m,_,_,_,a.V9 m (Nat.le_refl _),_,CP nF nq A,_,_,_,F,(YH a.ok.wf mo H.row rc vc).mono ?_⟩;rintro _ g3 ⟨rfl,o3⟩;rw[L];obtain⟨l,n,C,K⟩:=jg (o:=G) (a.ok.trans o3);exact⟨l,n,C,hQ _ _ K⟩
end
end
section
theorem Wp{a b:Nat}(d:a<n)(c:b<m)(l:List (List UInt8)):dI (List.replicate n (List.replicate m l)) a b=l:=by
 unfold dI;rw[gD,gD,List.getElem?_replicate,if_pos d,Option.getD_some,List.getElem?_replicate,if_pos c];rfl
theorem Ya{X Y:Nat}(l:List (List UInt8)):(List.replicate X (List.replicate Y l)).length=X/\∀a,a<X->((List.replicate X (List.replicate Y l)).getD a []).length=Y:=by
 refine⟨length_replicate,λa b=>?_⟩;rw[gD,List.getElem?_replicate,if_pos b];exact length_replicate
section
variable {h0:ae} {M:bt} {x:Option Addr} {z k kt:Nat} {xa ya:Option Addr} {xc yc:Nat} {xs ys:List Int} {B:Option LM} {b:Option Addr} {bn bc:Nat}
theorem YR(w:Wf h0)(C:Oi M)(mb:MB h0 k M x M.af.length z)(hx:xs.length<=200)(hy:ys.length<=200)(rx:du h0 (.slice xa xs.length xc) xs)(ry:du h0 (.slice ya ys.length yc) ys)(sb:ZJ M.kind M.af.length h0 b bn bc B){Q:VH}{g:ae}
  (ok:Ok h0 g) (hk:g.get kt=some (.cells (List.replicate (xs.length+1) nA) 103 1 true)) (nk:h0.next<=kt) (hQ:∀v g,oQ h0 (RW M B xs ys 0 (ki (aX M.kind) (gm M) xs ys)) v g->Q v g):
  LL SS cz [1,1,1,1,1,0,1,0,0] (lD xa xs.length xc ya ys.length yc k kt (xs.length+1) b bn bc 0) g (KK SS cz [1,1,1,1,1,0,1,0] [] (EE SS cz Q)):=by
 obtain⟨X,hX⟩:∃X,X=xs.length+1:=⟨_,rfl⟩
 obtain⟨Y,hY⟩:∃Y,Y=ys.length+1:=⟨_,rfl⟩
 obtain⟨f,O⟩:∃f,f=bw (aX M.kind) M.af.length:=⟨_,rfl⟩
 rw[<-hX]at hk⊢;have hn:=C.n;have t0:TB h0 kt X Y 0 (λ_=>0) (λ_ _=>nA) g:=by
  refine⟨?_,λa o=>by omega,⟨nk,λa o=>by omega⟩,λa b o=>by omega,ok⟩;rw[hk];congr 2;refine ext_getElem (by simp) λa h1 h2=>?_;simp
 refine DO (bR M x M.af.length z) xa xs.length xc ya ys.length yc k kt X b bn bc (λmz i g=>i<=X/\mz=X-i/\∃I r c,TB h0 kt X Y i I r g/\(∀a b,i<=a->r a b=nA)/\ZF h0 g M.af.length f r c (λa b=>a<i/\b<Y)) _ (λmz i=>?_) X (i:=0) ⟨by omega,rfl,_,_,λ_ _=>0,t0,λ_ _ _=>rfl,λa b s=>by omega⟩;intros;rename_i p x3;obtain⟨f1,f2,I,r,c,D,H,zf⟩:=x3;rw[aJ (i:=ys.length) (n:=Y) (by omega) (by omega),<-hY];refine aa (λq1=>?_) (λq1=>?_)
 ·have N:i<X:=by have:=dT q1;omega
  have d:=D.ux ((Ok.refl D.ok.wf).push (.cells (List.replicate Y nA) 107 1 true));obtain⟨u,st,t,kp,nx⟩:=d.adf w N (aI p _) D.ok.nx (λa o=>by have:=D.ok.wf _ _ (D.row a o);omega) (λb=>H i b (Nat.le_refl _));refine⟨_,_,_,TD Y (by omega),_,CP yu yP N,u,st,?_⟩;have y3:∀q l,VB p q l->VB (p.push (.cells (List.replicate Y nA) 107 1 true)) q l:=λq l m=>((Ok.refl D.ok.wf).push (.cells (List.replicate Y nA) 107 1 true)).ext _ _ m;refine DP (bR M x M.af.length z) xa xs.length xc ya ys.length yc k kt X b bn bc _ mz i (λW j g=>j<=Y/\W=Y-j/\∃r c,TB h0 kt X Y (i+1) (λa=>if a=i then p.next else I a) r g/\(∀a b,i<a->r a b=nA)/\ZF h0 g M.af.length f r c (λa b=>b<Y/\(a<i\/(a=i/\b<j)))) _ (λW j=>?_) Y (j:=0) ⟨by omega,rfl,_,c,t,λa b o=>H a b (by omega),zf.mono (λq l m=>kp _ _ (y3 _ _ m)) (λa b s=>⟨by omega,s.1⟩)⟩;intros;rename_i L x2;obtain⟨d1,d2,y6,y4,K,E,V⟩:=x2;refine aa (λq2=>?_) (λq2=>?_)
  ·have hj:j<Y:=by have:=dT q2;omega
   have A:=K.room 9;have U:=mb.ok A.ok;have J:=A.V9 (i:=i) (by omega) (by omega);refine⟨_,CP yu yP N,_,_,_,J,_,U.all,(uO A.ok.wf C U.row).mono ?_⟩;rintro _ g3 ⟨kl,rfl,x1,nl,o3⟩;rw[<-O]at x1;have Z:=A.ux o3;obtain⟨u,st,x7,_,P,_⟩:=Z.XO w (i:=i) (j:=j) (by omega) hj (y:=sA kl M.af.length M.af.length) rfl rfl;have x9:∀q l,VB L q l->VB g3 q l:=λq l m=>o3.ext _ _ m;refine⟨_,_,_,rfl,_,CP nF nq hj,u,st,⟨Z.V9 (by omega) (by omega),kz _ _ _⟩,?_⟩;rw[aJ hj (by omega)];refine bY (Y-(j+1)) (by omega) ⟨by omega,rfl,_,_,x7,λa b o=>?_,V.add (λq l m=>?_) (λq l m=>P _ _ (x9 _ _ m)) (P _ _ x1) (Nat.le_trans A.ok.nx nl) ?_ (λa b s=>?_) (λe a b s=>by omega)⟩
   ·unfold Zt;rw[if_neg (by omega)];exact E a b o
   ·have:q<L.next:=K.ok.wf _ _ m;have:L.next<=(Go.Ab.room L 9).next:=Nat.le_add_right _ _;omega
   ·by_cases e:i=0/\j=0
    ·exact .inl e
    ·right;omega
   ·by_cases e:a=i/\b=j
    ·exact .inr e
    ·left;omega
  ·obtain rfl:j=Y:=by have:=dF q2;omega
   rw[aJ N (by omega)];exact bY (X-(i+1)) (by omega) ⟨by omega,rfl,_,_,_,K,λa b o=>E a b (by omega),V.mono (λ_ _ m=>m) (λa b s=>⟨s.2,by omega⟩)⟩
 ·obtain rfl:i=X:=by have:=dF q1;omega
  have d:=D.room 11;have T:=mb.ok d.ok;have h:0<i/\0<Y:=by omega
  obtain⟨x5,y1,y0,_⟩:=zf 0 0 h;have J:=d.V9 (i:=0) h.1 (Nat.le_refl _);have x0:=d.ldV (i:=0) (j:=0) h.1 h.2;rw[x5]at x0;have F:VB (Go.Ab.room p 11) (c 0 0) f:=y1;have l1:=T.l1;have x8:M.start.toNat<M.af.length:=by have:=C.start;omega
  have x4:M.start=((M.start.toNat:Nat):Int):=by have:=C.start;omega
  rw[x4]at l1;have S:f.length=M.af.length:=by rw[O];exact Nb _ _
  refine⟨_,CP yu yP (i:=0) h.1,_,_,_,J,_,CP nF nq (i:=0) h.2,_,_,_,x0,_,ti _,_,l1,_,nv _,_,T.l2,_,VB.ix ty x8,_,F.st ty (by omega) _,?_⟩;have m:=d.ok.wf _ _ F;have t:TB h0 kt i Y i I r ((dL.set (c 0 0) (.cells (eE (f.set M.start.toNat M.lead)) 9 1 true)).app (Go.Ab.room p 11)):=by
   refine⟨?_,λa o=>?_,d.new,d.inj,d.ok.set _ y0 m w⟩
   ·show((Go.Ab.room p 11).set (c 0 0) _).get kt=_;rw[ae.aw,if_neg (km d.out F (by decide))];exact d.out
   ·have:=d.row a o;show((Go.Ab.room p 11).set (c 0 0) _).get (I a)=_;rw[ae.aw,if_neg (km this F (by decide))];exact this
  have vz:VV M.kind M.af.length f:=by rw[O];exact VV.Og C.kind _
  have G:TV M.kind M.af.length i Y r (ki (aX M.kind) (gm M) xs ys) ((dL.set (c 0 0) (.cells (eE (f.set M.start.toNat M.lead)) 9 1 true)).app (Go.Ab.room p 11)):=by
   have e0:ki (aX M.kind) (gm M) xs ys=fo (List.replicate i (List.replicate Y f)) 0 0 (f.set M.start.toNat M.lead):=by
    unfold ki;rw[CK,<-O,<-hX,<-hY];rfl
   rw[e0];obtain⟨r1,r2⟩:=Ya (X:=i) (Y:=Y) f;obtain⟨s1,s2⟩:=Km r1 r2 h.1 h.2 (f.set M.start.toNat M.lead);refine⟨s1,s2,λa b o R=>?_⟩;rw[IE r1 r2 h.1 h.2,Wp o R];obtain⟨ec,x6,y5,y2⟩:=zf a b ⟨o,R⟩;by_cases e:a=0/\b=0
   ·rw[if_pos e];obtain⟨rfl,rfl⟩:=e;refine⟨some ⟨c 0 0,0,none⟩,M.af.length,ec,?_,vz.set C.lead⟩;have v1:VB ((dL.set (c 0 0) (.cells (eE (f.set M.start.toNat M.lead)) 9 1 true)).app (Go.Ab.room p 11)) (c 0 0) (f.set M.start.toNat M.lead):=by
     show((Go.Ab.room p 11).set (c 0 0) _).get (c 0 0)=_;rw[ae.aw,if_pos rfl]
    have:=v1.rd M.af.length;rw[length_set,S]at this;exact this
   ·rw[if_neg e];refine⟨some ⟨c a b,0,none⟩,M.af.length,ec,?_,vz⟩;have v1:VB ((dL.set (c 0 0) (.cells (eE (f.set M.start.toNat M.lead)) 9 1 true)).app (Go.Ab.room p 11)) (c a b) f:=by
     show((Go.Ab.room p 11).set (c 0 0) _).get (c a b)=_;rw[ae.aw,if_neg (y2.resolve_left e)];exact x6
    have:=v1.rd M.af.length;rw[S]at this;exact this
  rw[hX]at t G⊢;rw[hY]at t G;exact YS w C mb hx hy rx ry sb t G hQ
end
def wtQ(h:ae)(M:bt)(xs ys:List Int):VH:=λv g=>v=(if(cn M&&(fE xs&&fE ys))=true then Mc (eB (aX M.kind) (gm M) xs ys)else two [] 1)/\Ok h g
theorem aa3(w:Wf h){M:bt}(U:Small M){x:Option Addr}{y z:Nat}(r:dS h (.slice x y z) M.af){xa ya:Option Addr}{S xc I yc:Nat}{xs ys:List Int}(C:du h (.slice xa S xc) xs)(E:du h (.slice ya I yc) ys):
  FW SS 48 [.agg ⟨bR M x y z⟩,.slice xa S xc,.slice ya I yc] h (wtQ h M xs ys):=by
 obtain⟨k,A⟩:=fv w r;obtain rfl:y=M.af.length:=k.len;obtain rfl:=du.len C;obtain rfl:=du.len E;refine aa2 (bR M x M.af.length z) xa xs.length xc ya ys.length yc h _ ⟨_,ja M x _ z,_,k.all,(uC A.wf U k.row).mono ?_⟩;rintro _ R ⟨rfl,H⟩;have c:=A.trans H;refine⟨_,rfl,aa (λq=>⟨?_,c⟩) (λq=>(yH (du.ok C c)).mono ?_)⟩
 ·rw[not_eq_true']at q;rw[q];rfl
 rw[not_eq_false']at q;rintro _ D ⟨rfl,F⟩;obtain rfl:R=D:=F.symm;refine⟨_,rfl,aa (λj=>⟨?_,c⟩) (λj=>(yH (du.ok E c)).mono ?_)⟩
 ·rw[not_eq_true']at j;rw[q,j];rfl
 rw[not_eq_false']at j;rintro _ D ⟨rfl,F⟩;obtain rfl:R=D:=F.symm;refine⟨_,rfl,aa (λm=>⟨?_,c⟩) (λm=>?_)⟩
 ·rw[not_eq_true']at m;rw[q,j,m];rfl
 rw[not_eq_false']at m;have P:∀g v,oQ h (eB (aX M.kind) (gm M) xs ys) v g->wtQ h M xs ys v g:=λg v a=>by
  refine⟨?_,a.2⟩;rw[q,j,m];exact a.1
 have J:=zE q;have u:=k.ok H;have p:∀l,fE l=true->l.length<=200:=λl p=>by
  unfold fE at p;rw[and_eq_true]at p;exact dT p.1
 have X:=p xs j;have hy:=p ys m;refine⟨_,u.all,(YK c.wf J u.row).mono ?_⟩;rintro _ s ⟨L,a⟩;have f:=c.trans L;have N:=u.ok L;have t:∀(B:Option LM)(b:Option Addr)(bn bc:Nat),dR (aX M.kind) (gm M)=some B->ZJ M.kind M.af.length s b bn bc B->au (((0:Int) !=0)) (wtQ h M xs ys (.tuple ⟨[(strOf []),(.int .i64 0)]⟩) s) (xR (bW SS.P 106 (.int .i64 (wrap .i64 ((xs.length:Int)+1))) (.int .i64 (wrap .i64 ((xs.length:Int)+1)))) s λx0 O G K=>LL SS cz [1,1,1,1,1,0,1,0,0] [(.slice xa xs.length xc),(.slice ya ys.length yc),(pA (h.next)),(.slice b bn bc),(sA (s.next) O G),(.int .i64 0)] K (KK SS cz [1,1,1,1,1,0,1,0] [] (EE SS cz (wtQ h M xs ys)))):=by
  intro B b bn bc Y sb;refine aa (λe=>by cases e) (λ_=>?_);rw[aJ (i:=xs.length) (n:=xs.length+1) (by omega) (by omega)];refine⟨_,_,_,acj (xs.length+1) (by omega),?_⟩;have V:=(Ok.refl f.wf).push (.cells (List.replicate (xs.length+1) nA) 103 1 true);have T:RW M B xs ys 0 (ki (aX M.kind) (gm M) xs ys)=eB (aX M.kind) (gm M) xs ys:=by
   unfold RW eB;rw[Y,sub_zero];dsimp only
   cases bg (qV (aX M.kind) (gm M) B xs ys) (xs.length+1) 0 (ki (aX M.kind) (gm M) xs ys)<;>rfl
  exact YR (kt:=s.next) f.wf J N X hy (du.ok C f) (du.ok E f) sb V (aI s _) (Nat.le_refl _) (λv g a=>P g v ⟨by rw[<-T];exact a.1,f.trans a.2⟩)
 cases e:dR (aX M.kind) (gm M)with
 |none=>
  rw[e]at a;subst a;exact⟨_,_,_,_,rfl,aa (λ_=>P _ _ ⟨by unfold eB;rw[e];rfl,f⟩) (λe=>by cases e)⟩
 | some o=>
  cases o with
  |none=>
   rw[e]at a;subst a;exact⟨_,_,_,_,rfl,t none none 0 0 e ⟨rfl,rfl,rfl⟩⟩
  |some B=>
   rw[e]at a;obtain⟨Q,d,rfl,Z,W⟩:=a;exact⟨_,_,_,_,rfl,t (some B) (some Q) _ d e ⟨⟨Q,rfl⟩,rfl,Z,W⟩⟩
end
end Go.Proofs.YtaaichlgdgjgjaaGreatDoor
end
section
namespace Go.Proofs.YtaaichlgdgjgjaaGreatDoor
open Go Go.Ab Go.Num Go.Num.bd
variable{p:List Int}
section
section
variable {K:Type} {S:bd K} {dec:List UInt8->K} {kind:Int}
def Wa(S:bd K)(dec:List UInt8->K)(M:bt):dH K:=eH S (mapM dec (gm M))
def YA(S:bd K)(dec:List UInt8->K)(M:bt):ac7 K:=λx y=>S.mul (dec M.lead) (dH.val S (Wa S dec M) x y M.start.toNat)
theorem aca(m:1<=kind/\kind<=3)(f:wL S dec kind):Gh (aX kind) (aq S) (λa=>aM kind a=true) dec where
 zero:=⟨sw m,f.zero⟩
 one:=by
  refine⟨?_,f.one⟩;have:kind=1\/kind=2\/kind=3:=by omega
  show aM kind (pE kind)=true;rcases this with rfl|rfl|rfl
  ·exact mS.2 (.inr (.inr (by decide)))
  ·exact qA (.inl rfl)
  ·exact qA (.inr rfl)
 xp:=λ{a} h=>by
  have d:(aq S).xp (dec a)=true↔dec a=S.zero:=ub;have g:(aX kind).xp a=true↔a=bH kind:=by show(a==bH kind)=true↔_;simp
  have l:dec a=S.zero↔a=bH kind:=⟨λe=>f.inj h (sw m) (e.trans f.zero.symm),λe=>by rw[e];exact f.zero⟩
  cases j:(aq S).xp (dec a)<;>cases k:(aX kind).xp a
  ·rfl
  ·rw[d.2 (l.2 (g.1 k))]at j;cases j
  ·rw[g.2 (l.1 (d.1 j))]at k;cases k
  ·rfl
 plus:=λ{a b c} h i e=>by
  obtain⟨d,g⟩:=f.plus h i e;exact⟨d,by show some _=some _;rw[g]⟩
 times:=λ{a b c} h i e=>by
  obtain⟨d,g⟩:=f.times h i e;exact⟨d,by show some _=some _;rw[g]⟩
 star:=λ{a c} h e=>by
  obtain⟨d,g⟩:=f.star h e;exact⟨d,by show some _=some _;rw[g]⟩
variable {M:bt}
theorem aaZ(d:Oi M):BV (λa=>aM M.kind a=true) (gm M):=by
 refine⟨d.lead,λs g f c=>?_,λs g a j=>?_⟩
 ·obtain⟨t,h,rfl⟩:=mem_map.1 g;by_cases e:t.f=[]
  ·have:(Bx t).fin=none:=if_pos e;rw[this]at c;cases c
  ·have:(Bx t).fin=some t.f:=if_neg e;rw[this]at c;obtain rfl:=oI c;exact d.fin t h e
 ·obtain⟨t,h,rfl⟩:=mem_map.1 g;obtain⟨b,i,rfl⟩:=mem_map.1 j;exact(d.arc t h b i).1
theorem Xk(g:Oi M):kP (mapM dec (gm M)):=λs h a i=>by
 obtain⟨t,k,rfl⟩:=mem_map.1 h;obtain⟨j,c,rfl⟩:=mem_map.1 k;obtain⟨b,f,rfl⟩:=mem_map.1 i;obtain⟨e,d,rfl⟩:=mem_map.1 f;have:=g.arc j c e d;show e.t.toNat<((M.af.map Bx).map (nr dec)).length;rw[lM,lM];omega
theorem U9(h:fE p=true):∀s∈p,s≠0:=λs a e=>by
 unfold fE at h;rw[and_eq_true,all_eq_true]at h;have:=h.2 s a;rw[e]at this;exact absurd this (by decide)
theorem VF(f:wL S dec M.kind)(a:Oi M){x y:List Int}(c:∀s∈x,s≠0)(h:∀s∈y,s≠0){w:List UInt8}(e:eB (aX M.kind) (gm M) x y=some w):aM M.kind w=true/\dec w=YA S dec M x y:=by
 obtain⟨d,g⟩:=Gx (aca a.kind f) (aaZ a) e;refine⟨d,?_⟩;have b:(mapM dec (gm M)).start<(mapM dec (gm M)).bE.length:=by
  show M.start.toNat<((M.af.map Bx).map (nr dec)).length;rw[lM,lM];have:=a.start;omega
 exact Lc (Xk a) b c h g
def aaW(dec:List UInt8->K)(a:hO):BT K:=⟨a.i,a.o,dec a.w,a.t.toNat⟩
theorem ad8(M:bt):(Wa S dec M).n=M.af.length:=by
 show((M.af.map Bx).map (nr dec)).length=_;rw[lM,lM]
theorem Zu{q:Nat}{s:dW}(h:M.af[q]?=some s):(mapM dec (gm M)).bE.getD q dJ=nr dec (Bx s):=by
 show((M.af.map Bx).map (nr dec)).getD q dJ=_;rw[gD,getElem?_map,getElem?_map,h];rfl
theorem Vx{q:Nat}{s:dW}(h:M.af[q]?=some s):(Wa S dec M).fin q=if s.f=[]then S.zero else dec s.f:=by
 show((mapM dec (gm M)).bE.getD q dJ).fin.getD S.zero=_;rw[Zu h];show((if s.f=[]then none else some s.f:Option (List UInt8)).map dec).getD S.zero=_;split<;>rfl
theorem BN{q:Nat}{s:dW}(h:M.af[q]?=some s):(Wa S dec M).arcs q=s.arcs.map (aaW dec):=by
 show(bD (mapM dec (gm M)) q).map _=_;show(((mapM dec (gm M)).bE.getD q dJ).arcs).map _=_;rw[Zu h];show((s.arcs.map CH).map (mapA dec)).map _=_;rw[map_map,map_map];rfl
variable {C X:bt} {L R:List dW} {low:Nat}
end
end
section
section
variable {K:Type} {S:bd K} {dec:List UInt8->K} {A B:bt}
theorem SQ(x y:List Int):emp S x y S.zero=S.zero:=by unfold emp;split<;>rfl
end
end
end Go.Proofs.YtaaichlgdgjgjaaGreatDoor
end
section
namespace Go.Proofs.YtaaichlgdgjgjaaGreatDoor
open Go Go.Ab Go.Num
variable{M:bt}{z:Int}{n:Nat}
structure StW(kind:Int)(N:Nat)(s:dW):Prop where
 f:s.f=[]\/bJ kind s.f=true
 a:∀q∈s.arcs,hP kind N q=true
theorem Ku{a:Int}{N:Nat}:∀{l:List dW}{b:Int},b+df l<=30000->(∀s∈l,StW a N s)->nG a N b l=true
 |[],_,_,_=>rfl
 |s::l,b,h,c=>by
  rw[dt]at h;have d:=c s (mem_cons_self ..);unfold nG;rw[and_eq_true,and_eq_true,and_eq_true];refine⟨⟨⟨decide_eq_true (by omega),?_⟩,all_eq_true.2 d.a⟩,Ku (by omega) λt f=>c t (List.mem_cons_of_mem _ f)⟩;rcases d.f with e|e
  ·rw[e];rfl
  ·rw[e,Bool.or_true]
structure VOk(M:bt):Prop where
 kind:1<=M.kind/\M.kind<=3
 n:1<=M.af.length/\M.af.length<=3000
 start:0<=M.start/\M.start<M.af.length
 lead:bJ M.kind M.lead=true
 sum:df M.af<=30000
 st:∀s∈M.af,StW M.kind M.af.length s
theorem VOk.valid(v:VOk M):cn M=true:=by
 unfold cn;simp only[and_eq_true,decide_eq_true_eq];exact⟨⟨⟨⟨⟨⟨⟨v.kind.1,v.kind.2⟩,v.n.1⟩,v.n.2⟩,v.start.1⟩,v.start.2⟩,v.lead⟩,Ku (by have:=v.sum;omega) v.st⟩
theorem aa0(h:cn M=true)(a:df M.af<=30000):VOk M:=by
 unfold cn at h;simp only[and_eq_true,decide_eq_true_eq]at h;obtain⟨⟨⟨⟨⟨⟨⟨e,f⟩,c⟩,i⟩,l⟩,k⟩,g⟩,d⟩:=h;refine⟨⟨e,f⟩,⟨c,i⟩,⟨l,k⟩,g,a,λs a=>?_⟩;obtain⟨b,j⟩:=uK d s a;refine⟨?_,j⟩;rw[Bool.or_eq_true]at b;exact b.imp cj id
theorem Dk{a:List UInt8}(h:aA a=true):a.length<=802:=by
 have r:=aY.1 h;obtain⟨b,c⟩:=Hp r;have d:=r.ln;have e:=r.ld;rw[r.txt,NK,length_append,length_append,<-b];have:(if Num.val (ak a)=1 then[]else 47::ag (Num.val (ak a))).length<=401:=by
  split
  ·simp
  ·rw[length_cons,<-c];omega
 have:(if Num.isNeg a=true/\Num.val (Num.numOf a)≠0 then[45]else([]:List UInt8)).length<=1:=by split<;>simp
 omega
theorem wH{a:List UInt8}(h:bJ z a=true):aA a=true:=by
 unfold bJ at h;rw[and_eq_true,and_eq_true]at h;exact h.1.2
theorem VOk.small(v:VOk M)(b:M.af.length<=300)(d:df M.af<=2000):Small M where
 lead:=by have:=Dk (wH v.lead);omega
 bE:=b
 fin:=λs a=>by
  rcases(v.st s a).f with e|e
  ·rw[e];simp
  ·have:=Dk (wH e);omega
 arcs:=λs a=>by
  obtain⟨i,f,e⟩:=List.mem_iff_getElem.1 a;have:=Kv (l:=M.af) (i:=i) (s:=s) (by rw[gE f,e]);omega
 w:=λs a q c=>by
  have h:=(v.st s a).a q c;unfold hP at h;rw[and_eq_true]at h;have:=Dk (wH h.2);omega
 tot:=d
theorem TO(a:1<=z/\z<=3):bJ z (dc z)=true:=by
 have:z=1\/z=2\/z=3:=by omega
 rcases this with rfl|rfl|rfl<;>decide
theorem RX{q:hO}(b:pq q.i=true)(c:pq q.o=true)(a:0<=q.t/\q.t<n)(d:bJ z q.w=true):hP z n q=true:=by
 unfold hP;rw[b,c,d,decide_eq_true a.1,decide_eq_true a.2];rfl
noncomputable def Tm:FD:=cA Tryz.f11 []
theorem Ps(j:OA)(i l:Nat)(k:OA)(g m:Nat)(h:ae)(Q:VH)(n:au (decide ((wrap .i64 ((i:Int)+(g:Int)):Int)<=6)) (FW SS 15 [(.slice j i l)] h λe f=>yB e λd=>au d (FW SS 15 [(.slice k g m)] f λb c=>yB b λa=>Q (.bool a) c) (Q (.bool false) f)) (Q (.bool false) h)):FW SS 11 [(.slice j i l),(.slice k g m)] h Q:=cN Tm Tryz.func11 (ai n)
noncomputable def Tl:FD:=cA Tryz.f39 []
theorem Pq(g:LV)(e:Int)(i:OA)(n l:Nat)(k:OA)(j m:Nat)(h:ae)(Q:VH)(o:xN (fi SS.P 29 (.agg ⟨g⟩)) h λ_ f=>au (((e:Int) !=0)) (Q (strOf []) f) (lA 29 f (pA (h.next)) λe=>FW SS 48 [(.agg ⟨e⟩),(.slice i n l),(.slice k j m)] f λc d=>∃b:LB,∃a:Int,c=(.tuple ⟨[(strOf b),(.int .i64 a)]⟩)/\Q (strOf b) d)):FW SS 39 [(.agg ⟨g⟩),(.int .i64 e),(.slice i n l),(.slice k j m)] h Q:=cN Tl Tryz.func39 (ai o)
noncomputable def Tk:FD:=cA Tryz.f19 []
theorem Po(o:LV)(n:Int)(p:OA)(u s:Nat)(r:OA)(q t:Nat)(w:LB)(h:ae)(Q:VH)(v:xN (fi SS.P 29 (.agg ⟨o⟩)) h λ_ m=>lA 29 m (pA (h.next)) λl=>FW SS 26 [(.agg ⟨l⟩)] m λj k=>yB j λi=>au (!i) (Q (.bool false) k) (fP 29 (pA (h.next)) 0 λg=>lI k g λf=>au (((f:Int) !=n)) (Q (.bool false) k) (lA 29 k (pA (h.next)) λe=>FW SS 48 [(.agg ⟨e⟩),(.slice p u s),(.slice r q t)] k λc d=>∃b:LB,∃a:Int,c=(.tuple ⟨[(strOf b),(.int .i64 a)]⟩)/\au (((a:Int)==2)) (Q (.bool true) d) (au (((a:Int)==0)) (Q (.bool ((b:LB)==w)) d) (Q (.bool false) d))))):FW SS 19 [(.agg ⟨o⟩),(.int .i64 n),(.slice p u s),(.slice r q t),(strOf w)] h Q:=cN Tk Tryz.func19 (ai v)
section
def M1(xs ys:List Int):Bool:=decide (xs.length+ys.length<=6)&&(fE xs&&fE ys)
section
variable {h:ae} {M:bt} {a:Option Addr} {n c:Nat} {xa ya:Option Addr} {xn xc yn yc:Nat} {xs ys:List Int}
theorem Pt(b:du h (.slice xa xn xc) xs)(c:du h (.slice ya yn yc) ys)(f:xs.length<=281474976710656)(i:ys.length<=281474976710656):FW SS 11 [.slice xa xn xc,.slice ya yn yc] h (λv g=>v = .bool (M1 xs ys)/\g=h):=by
 obtain rfl:=du.len b;obtain rfl:=du.len c;refine Ps xa _ xc ya _ yc h _ ?_;have e:wrap .i64 ((xs.length:Int)+(ys.length:Int))=((xs.length+ys.length:Nat):Int):=by rw[aD (by omega) (by omega)];omega
 rw[e];unfold M1;refine aa (λq=>(yH b).mono ?_) (λq=>?_)
 ·have q:=dT q;rw[decide_eq_true (show xs.length+ys.length<=6 by omega),Bool.true_and];rintro _ g ⟨rfl,d⟩;obtain rfl:h=g:=d.symm;refine⟨_,rfl,aa (λa=>(yH c).mono ?_) (λa=>?_)⟩
  ·rintro _ g ⟨rfl,rfl⟩;rw[a,Bool.true_and];exact⟨_,rfl,rfl,rfl⟩
  ·rw[a];exact⟨rfl,rfl⟩
 ·have q:=dF q;rw[decide_eq_false (show ¬xs.length+ys.length<=6 by omega)];exact⟨rfl,rfl⟩
def Aj(M:bt)(xs ys:List Int):List UInt8×Int:=if(cn M&&(fE xs&&fE ys))=true then(match eB (aX M.kind) (gm M) xs ys with|some w=>(w,0)|none=>([],2))else([],1)
theorem YQ(M:bt)(xs ys:List Int):(if(cn M&&(fE xs&&fE ys))=true then Mc (eB (aX M.kind) (gm M) xs ys)else two [] 1)=two (Aj M xs ys).1 (Aj M xs ys).2:=by
 unfold Aj;split
 ·cases eB (aX M.kind) (gm M) xs ys<;>rfl
 ·rfl
theorem Of(w:Wf h)(d:Small M)(r:dS h (.slice a n c) M.af)(b:du h (.slice xa xn xc) xs)(e:du h (.slice ya yn yc) ys):
  FW SS 48 [.agg ⟨bR M a n c⟩,.slice xa xn xc,.slice ya yn yc] h (λv g=>v = .tuple ⟨[strOf (Aj M xs ys).1,.int .i64 (Aj M xs ys).2]⟩/\Ok h g):=by
 refine(aa3 w d r b e).mono ?_;rintro _ g ⟨rfl,f⟩;exact⟨YQ M xs ys,f⟩
theorem Pr(w:Wf h)(f:Small M)(r:dS h (.slice a n c) M.af)(e:du h (.slice xa xn xc) xs)(i:du h (.slice ya yn yc) ys):
  FW SS 39 [.agg ⟨bR M a n c⟩,.int .i64 0,.slice xa xn xc,.slice ya yn yc] h (λv g=>v=strOf (Aj M xs ys).1/\Ok h g):=by
 obtain⟨d,b⟩:=fv w r;refine Pq (bR M a n c) 0 xa xn xc ya yn yc h _ ⟨_,ja M a n c,aa (λq=>by cases q) (λ_=>⟨_,d.all,(Of b.wf f d.row (du.ok e b) (du.ok i b)).mono ?_⟩)⟩;rintro _ g ⟨rfl,j⟩;exact⟨_,_,rfl,rfl,b.trans j⟩
def CL(M:bt)(b:Int)(xs ys:List Int)(a:List UInt8):Bool:=cn M&&(M.kind==b&&((Aj M xs ys).2==2||((Aj M xs ys).2==0&&(Aj M xs ys).1==a)))
theorem Pp(w:Wf h)(p:Small M)(r:dS h (.slice a n c) M.af)(t:du h (.slice xa xn xc) xs)(u:du h (.slice ya yn yc) ys)(b:Int)(e:List UInt8):
  FW SS 19 [.agg ⟨bR M a n c⟩,.int .i64 b,.slice xa xn xc,.slice ya yn yc,strOf e] h (λv g=>v = .bool (CL M b xs ys e)/\Ok h g):=by
 obtain⟨l,s⟩:=fv w r;refine Po (bR M a n c) b xa xn xc ya yn yc e h _ ⟨_,ja M a n c,_,l.all,(uC s.wf p l.row).mono ?_⟩;generalize h.push (Bm M a n c)=g at*;unfold CL;rintro _ y ⟨rfl,o⟩;have d:=s.trans o;have f:=l.ok o;refine⟨_,rfl,aa (λq=>⟨?_,d⟩) (λq=>?_)⟩
 ·rw[not_eq_true']at q;rw[q];rfl
 rw[not_eq_false']at q;rw[q,Bool.true_and];refine⟨_,dZ _,_,f.l0,aa (λk=>⟨?_,d⟩) (λk=>?_)⟩
 ·have:(M.kind==b)=false:=by simpa using k
  rw[this];rfl
 have:(M.kind==b)=true:=by simpa using k
 rw[this,Bool.true_and];refine⟨_,f.all,(Of o.wf p f.row (du.ok t d) (du.ok u d)).mono ?_⟩;rintro _ z ⟨rfl,x⟩;have i:=d.trans x;refine⟨_,_,rfl,aa (λj=>⟨?_,i⟩) (λj=>aa (λm=>⟨?_,i⟩) (λm=>⟨?_,i⟩))⟩
 ·rw[j];rfl
 ·rw[j,m];rfl
 ·rw[j,m];rfl
end
end
end Go.Proofs.YtaaichlgdgjgjaaGreatDoor
end
section
namespace Go.Proofs.YtaaichlgdgjgjaaGreatDoor
open Go Go.Ab Go.Num Go.Num.bd
section
section
variable {K:Type} {S:bd K} {dec:List UInt8->K} {M:bt}
theorem aa5(h:wL S dec M.kind)(f:cn M=true){a b:List Int}(c:fE a=true)(d:fE b=true):(∃w,Aj M a b=(w,0)/\aM M.kind w=true/\dec w=YA S dec M a b)\/Aj M a b=([],2):=by
 unfold Aj;rw[f,c,d,if_pos (show(true&&(true&&true))=true from rfl)]
 cases e:eB (aX M.kind) (gm M) a b with
 |none=>exact .inr rfl
 |some w=>
  obtain⟨g,i⟩:=VF h (zE f) (U9 c) (U9 d) e;exact .inl ⟨w,rfl,g,i⟩
end
end
variable{z:Int}
section
section
variable {K:Type} {S:bd K} {dec:List UInt8->K} {h0 g:ae} {k:Nat} {ok:Bool}
theorem XH(a:1<=z/\z<=3):aM z (dc z)=true:=by
 have:z=1\/z=2\/z=3:=by omega
 rcases this with rfl|rfl|rfl<;>decide
end
end
end Go.Proofs.YtaaichlgdgjgjaaGreatDoor
end
section
namespace Go.Proofs.YtaaichlgdgjgjaaGreatDoor
open Go Go.Ab Go.Num
variable{M:bt}
def WY:Nat->Nat->List UInt8
 |0,_=>[]
 |f+1,n=>if n<10 then[eS n]else WY f (n/10)++[eS (n%10)]
theorem Ny:∀{f n:Nat},n<f->WY f n=ag n
 |f+1,n,h=>by
  unfold WY;by_cases c:n<10
  ·rw[if_pos c,dA c]
  ·rw[if_neg c,ij (by omega),Ny (by omega)]
def DH(n:Nat):List UInt8:=WY (n+1) n
theorem BM(n:Nat):ag n=DH n:=(Ny (lt_succ_self n)).symm
def Xs(s:Bool)(n d:Nat):List UInt8:=(if s=true/\n≠0 then[45]else[])++(DH n++(if d=1 then[]else 47::DH d))
theorem Zs(s:Bool)(n d:Nat):cE s n d=Xs s n d:=by unfold cE Xs;rw[BM,BM]
def Ti(s:Bool)(n d:Nat):Option (List UInt8):=if 400<(DH (n/Nat.gcd n d)).length\/400<(DH (d/Nat.gcd n d)).length then none else some (Xs s (n/Nat.gcd n d) (d/Nat.gcd n d))
theorem Uv(s:Bool)(n d:Nat):lO s n d=Ti s n d:=by unfold lO Ti;rw[BM,BM,Zs]
def Xr(a b:List UInt8):Option (List UInt8):=Ti (dD (Num.isNeg a) (Num.val (Num.numOf a)*Num.val (ak b)) (Num.isNeg b) (Num.val (Num.numOf b)*Num.val (ak a))).1 (dD (Num.isNeg a) (Num.val (Num.numOf a)*Num.val (ak b)) (Num.isNeg b) (Num.val (Num.numOf b)*Num.val (ak a))).2 (Num.val (ak a)*Num.val (ak b))
def acf(a b:List UInt8):Option (List UInt8):=Ti (Num.isNeg a !=Num.isNeg b) (Num.val (Num.numOf a)*Num.val (Num.numOf b)) (Num.val (ak a)*Num.val (ak b))
def ace(a b:List UInt8):Option (List UInt8):=Ti (Num.isNeg a !=Num.isNeg b) (Num.val (Num.numOf a)*Num.val (ak b)) (Num.val (ak a)*Num.val (Num.numOf b))
def acg(a:List UInt8):List UInt8:=Xs (!Num.isNeg a) (Num.val (Num.numOf a)) (Num.val (ak a))
theorem RQ:qc=Xr:=by funext a b;exact Uv _ _ _
theorem ack:B8=acf:=by funext a b;exact Uv _ _ _
theorem ab3:Gp=ace:=by funext a b;exact Uv _ _ _
theorem acm:qd=acg:=by funext a;exact Zs _ _ _
def Th(c:Int)(a b:List UInt8):Option (List UInt8):=if c≠2 then some (if Gm c b a<0 then b else a)else if a=de\/b=de then some de else Xr a b
def LO(c:Int)(a b:List UInt8):Option (List UInt8):=if a=bH c\/b=bH c then some (bH c)else if a=de\/b=de then some de else if a=ie\/b=ie then some ie else if c=1 then Xr a b else acf a b
def Tj(b:Int)(a:List UInt8):Option (List UInt8):=if b=1 then(if dp a [48]>=0 then some [48]else some ie)else if b=3 then(if dp a [49]<=0 then some [49]else some de)else if dp a [49]>=0 then some de else match Xr [49] (acg a)with
 |some d=>ace [49] d
 |none=>none
theorem aax:eO=Th:=by funext k a b;unfold eO Th;rw[RQ]
theorem HL:dh=LO:=by funext k a b;unfold dh LO;rw[RQ,ack]
theorem aaL:lP=Tj:=by funext k a;unfold lP Tj;rw[RQ,ab3,acm];rfl
def aam(b:Int):qb (List UInt8):=⟨bH b,pE b,λa=>a==bH b,Th b,LO b,Tj b⟩
theorem acr(a:Int):aX a=aam a:=by unfold aX aam;rw[aax,HL,aaL]
def ac0(M:bt)(a b:List Int):List UInt8×Int:=if(cn M&&(fE a&&fE b))=true then(match eB (aam M.kind) (gm M) a b with|some w=>(w,0)|none=>([],2))else([],1)
theorem Bn(M:bt)(a b:List Int):Aj M a b=ac0 M a b:=by unfold Aj ac0;rw[acr]<;>rfl
def KS:bt:=Gd 1 [1] [2] [51]
def ZP:bt:=Gd 1 [1] [2] [53]
def awU:bt:=Vu KS ZP
def awC:bt:=Br KS ZP [56]
def awS:bt:=tQ KS
def awR:bt:=acv KS 2 3
def awT:bt:=ME KS [55,47,50]
def awL:bt:=dx 1 [2,1,2]
def awH:bt:=Gd 2 [] [] [49,47,50]
def awK:bt:=tQ awH
theorem ZR:iB [2,1,2]=[1,2]:=by
 have:lz [2,1,2]=[1,2,2]:=by simp[lz,List.mergeSort,List.MergeSort.Internal.splitInTwo]
 unfold iB;rw[this];decide
theorem ZQ:awL=⟨1,0,dc 1,[⟨[],wb 1 [1,2]⟩,⟨dc 1,[]⟩]⟩:=by unfold awL dx;rw[ZR]
theorem abr:AP 1 [1] [2] [51]=(KS,0):=by unfold AP;rw[if_pos (by decide +kernel)];rfl
theorem abt:AP 1 [1] [2] [53]=(ZP,0):=by unfold AP;rw[if_pos (by decide +kernel)];rfl
theorem abB:HP KS ZP=(awU,0):=by unfold HP;rw[if_pos (by decide +kernel)];rfl
theorem ZS:dh KS.kind KS.lead ZP.lead=some [56]:=by rw[HL];decide +kernel
theorem abu:Bs KS ZP [56]=(awC,0):=by unfold Bs;rw[if_pos (by decide +kernel)];rfl
theorem abz:F2 KS=(awS,0):=by unfold F2;rw[if_pos (by decide +kernel)];rfl
theorem aby:X9 KS 2 3=(awR,0):=by unfold X9;rw[if_pos (by decide +kernel)];rfl
theorem ZT:dh KS.kind [49,47,50] KS.lead=some [55,47,50]:=by rw[HL];decide +kernel
theorem abA:HC KS [49,47,50] [55,47,50]=(awT,0):=by unfold HC;rw[if_pos (by decide +kernel)];rfl
theorem abx:eY 1 [2,1,2]=(awL,0):=by unfold eY;rw[if_pos (by decide)];rfl
theorem abv:AP 2 [] [] [49,47,50]=(awH,0):=by unfold AP;rw[if_pos (by decide +kernel)];rfl
theorem abw:F2 awH=(awK,0):=by unfold F2;rw[if_pos (by decide +kernel)];rfl
theorem abG:Aj awU [1] [2]=([51],0):=by rw[Bn];decide +kernel
theorem abH:Aj awU [1] [1]=([105,110,102],0):=by rw[Bn];decide +kernel
theorem abI:Aj awC [1,1] [2,2]=([56],0):=by rw[Bn];decide +kernel
theorem abJ:Aj awS [] []=([48],0):=by rw[Bn];decide +kernel
theorem abK:Aj awS [1,1] [2,2]=([54],0):=by rw[Bn];decide +kernel
theorem abL:Aj awS [1] []=([105,110,102],0):=by rw[Bn];decide +kernel
theorem abM:Aj awR [1] [2]=([105,110,102],0):=by rw[Bn];decide +kernel
theorem abN:Aj awR [1,1] [2,2]=([54],0):=by rw[Bn];decide +kernel
theorem abO:Aj awT [1] [2]=([55,47,50],0):=by rw[Bn];decide +kernel
theorem ZU:Aj awL [2] [2]=([48],0):=by rw[Bn,ZQ];decide +kernel
theorem ZV:Aj awL [1,2] [1,2]=([105,110,102],0):=by rw[Bn,ZQ];decide +kernel
theorem ZW:Aj awK [] []=([50],0):=by rw[Bn];decide +kernel
theorem kJ(a:cn M=true)(b:M.af.length<=300)(c:df M.af<=2000):Small M:=(aa0 a (by omega)).small b c
theorem IF:Small KS:=kJ (by decide +kernel) (by decide +kernel) (by decide +kernel)
theorem Y1:Small ZP:=kJ (by decide +kernel) (by decide +kernel) (by decide +kernel)
theorem Y4:Small awU:=kJ (by decide +kernel) (by decide +kernel) (by decide +kernel)
theorem abC:Small awC:=kJ (by decide +kernel) (by decide +kernel) (by decide +kernel)
theorem R0:Small awS:=kJ (by decide +kernel) (by decide +kernel) (by decide +kernel)
theorem Y3:Small awR:=kJ (by decide +kernel) (by decide +kernel) (by decide +kernel)
theorem abF:Small awT:=kJ (by decide +kernel) (by decide +kernel) (by decide +kernel)
theorem Y2:Small awL:=by rw[ZQ];exact kJ (by decide +kernel) (by decide +kernel) (by decide +kernel)
theorem abD:Small awH:=kJ (by decide +kernel) (by decide +kernel) (by decide +kernel)
theorem abE:Small awK:=kJ (by decide +kernel) (by decide +kernel) (by decide +kernel)
noncomputable def Wt:FD:=cA Tryz.f12 []
theorem R1  (h:ae) (Q:VH) (hx:xR (aF SS.P 22 1 [(0,(.int .i64 1))]) h λ_ A C B=>xR (aF SS.P 22 1 [(0,(.int .i64 2))]) B λ_ F D J=>xR (aF SS.P 22 2 [(0,(.int .i64 1)),(1,(.int .i64 1))]) J λ_ W k7 I=>xR (aF SS.P 22 2 [(0,(.int .i64 2)),(1,(.int .i64 2))]) I λ_ k3 Z k5=>FW SS 13 [(.int .i64 1),(sA (h.next) A C),(sA (B.next) F D),(strOf [51])] k5 λk1 E=>∃k0:LV,∃j9:Int,k1=(.tuple ⟨[(.agg ⟨k0⟩),(.int .i64 j9)]⟩)/\xN (bq SS.P 29) E λ_ j8=>xU (ah SS.P 29 (pA (E.next)) (.agg ⟨k0⟩) j8) j8 λ_ j7=>FW SS 13 [(.int .i64 1),(sA (h.next) A C),(sA (B.next) F D),(strOf [53])] j7 λj5 L=>∃j4:LV,∃j3:Int,j5=(.tuple ⟨[(.agg ⟨j4⟩),(.int .i64 j3)]⟩)/\xN (bq SS.P 29) L λ_ j2=>xU (ah SS.P 29 (pA (L.next)) (.agg ⟨j4⟩) j2) j2 λ_ H=>au (((j9:Int) !=0)) (Q (.bool false) H) (au (((j3:Int) !=0)) (Q (.bool false) H) (lA 29 H (pA (E.next)) λj0=>lA 29 H (pA (L.next)) λi9=>FW SS 25 [(.agg ⟨j0⟩),(.agg ⟨i9⟩)] H λi7 K=>∃i6:LV,∃i5:Int,i7=(.tuple ⟨[(.agg ⟨i6⟩),(.int .i64 i5)]⟩)/\xN (bq SS.P 29) K λ_ i4=>xU (ah SS.P 29 (pA (K.next)) (.agg ⟨i6⟩) i4) i4 λ_ i3=>lA 29 i3 (pA (E.next)) λi2=>lA 29 i3 (pA (L.next)) λi1=>FW SS 31 [(.agg ⟨i2⟩),(.agg ⟨i1⟩)] i3 λh9 P=>∃h8:LV,∃h7:Int,h9=(.tuple ⟨[(.agg ⟨h8⟩),(.int .i64 h7)]⟩)/\xN (bq SS.P 29) P λ_ h6=>xU (ah SS.P 29 (pA (P.next)) (.agg ⟨h8⟩) h6) h6 λ_ h5=>lA 29 h5 (pA (E.next)) λh4=>FW SS 33 [(.agg ⟨h4⟩)] h5 λh2 G=>∃h1:LV,∃M:Int,h2=(.tuple ⟨[(.agg ⟨h1⟩),(.int .i64 M)]⟩)/\xN (bq SS.P 29) G λ_ g9=>xU (ah SS.P 29 (pA (G.next)) (.agg ⟨h1⟩) g9) g9 λ_ g7=>lA 29 g7 (pA (E.next)) λg6=>FW SS 35 [(.agg ⟨g6⟩),(.int .i64 2),(.int .i64 3)] g7 λg3 N=>∃g2:LV,∃g1:Int,g3=(.tuple ⟨[(.agg ⟨g2⟩),(.int .i64 g1)]⟩)/\xN (bq SS.P 29) N λ_ g0=>xU (ah SS.P 29 (pA (N.next)) (.agg ⟨g2⟩) g0) g0 λ_ f9=>lA 29 f9 (pA (E.next)) λf8=>FW SS 37 [(.agg ⟨f8⟩),(strOf [49,47,50])] f9 λf6 V=>∃f5:LV,∃f4:Int,f6=(.tuple ⟨[(.agg ⟨f5⟩),(.int .i64 f4)]⟩)/\xN (bq SS.P 29) V λ_ f3=>xU (ah SS.P 29 (pA (V.next)) (.agg ⟨f5⟩) f3) f3 λ_ f2=>xR (aF SS.P 22 3 [(0,(.int .i64 2)),(1,(.int .i64 1)),(2,(.int .i64 2))]) f2 λ_ e9 f0 f1=>FW SS 21 [(.int .i64 1),(sA (f2.next) e9 f0)] f1 λe7 O=>∃e6:LV,∃e5:Int,e7=(.tuple ⟨[(.agg ⟨e6⟩),(.int .i64 e5)]⟩)/\xN (bq SS.P 29) O λ_ e4=>xU (ah SS.P 29 (pA (O.next)) (.agg ⟨e6⟩) e4) e4 λ_ e3=>FW SS 13 [(.int .i64 2),nA,nA,(strOf [49,47,50])] e3 λe1 e2=>∃e0:LV,∃d9:Int,e1=(.tuple ⟨[(.agg ⟨e0⟩),(.int .i64 d9)]⟩)/\xN (bq SS.P 29) e2 λ_ d8=>xU (ah SS.P 29 (pA (e2.next)) (.agg ⟨e0⟩) d8) d8 λ_ d7=>lA 29 d7 (pA (e2.next)) λd6=>FW SS 33 [(.agg ⟨d6⟩)] d7 λd4 d5=>∃d3:LV,∃d2:Int,d4=(.tuple ⟨[(.agg ⟨d3⟩),(.int .i64 d2)]⟩)/\xN (bq SS.P 29) d5 λ_ d1=>xU (ah SS.P 29 (pA (d5.next)) (.agg ⟨d3⟩) d1) d1 λ_ d0=>au (((d9:Int)==0)) (lA 29 d0 (pA (K.next)) λc9=>FW SS 39 [(.agg ⟨c9⟩),(.int .i64 i5),(sA (h.next) A C),(sA (B.next) F D)] d0 λc6 U=>yS c6 λc5=>au ((c5:LB)==[51]) (lA 29 U (pA (K.next)) λc4=>FW SS 39 [(.agg ⟨c4⟩),(.int .i64 i5),(sA (h.next) A C),(sA (h.next) A C)] U λc1 c2=>yS c1 λc0=>au ((c0:LB)==[105,110,102]) (lA 29 c2 (pA (P.next)) λb9=>FW SS 39 [(.agg ⟨b9⟩),(.int .i64 h7),(sA (J.next) W k7),(sA (I.next) k3 Z)] c2 λb7 T=>yS b7 λb6=>au ((b6:LB)==[56]) (lA 29 T (pA (G.next)) λb5=>FW SS 39 [(.agg ⟨b5⟩),(.int .i64 M),nA,nA] T λb3 X=>yS b3 λb2=>au ((b2:LB)==[48]) (lA 29 X (pA (G.next)) λb1=>FW SS 39 [(.agg ⟨b1⟩),(.int .i64 M),(sA (J.next) W k7),(sA (I.next) k3 Z)] X λa9 Y=>yS a9 λa8=>au ((a8:LB)==[54]) (lA 29 Y (pA (G.next)) λa7=>FW SS 39 [(.agg ⟨a7⟩),(.int .i64 M),(sA (h.next) A C),nA] Y λa5 S=>yS a5 λa4=>au ((a4:LB)==[105,110,102]) (lA 29 S (pA (N.next)) λa3=>FW SS 39 [(.agg ⟨a3⟩),(.int .i64 g1),(sA (h.next) A C),(sA (B.next) F D)] S λa1 R=>yS a1 λa0=>au ((a0:LB)==[105,110,102]) (lA 29 R (pA (N.next)) λz=>FW SS 39 [(.agg ⟨z⟩),(.int .i64 g1),(sA (J.next) W k7),(sA (I.next) k3 Z)] R λx y=>yS x λw=>au ((w:LB)==[54]) (lA 29 y (pA (V.next)) λv=>FW SS 39 [(.agg ⟨v⟩),(.int .i64 f4),(sA (h.next) A C),(sA (B.next) F D)] y λt u=>yS t λs=>au ((s:LB)==[55,47,50]) (lA 29 u (pA (O.next)) λr=>FW SS 39 [(.agg ⟨r⟩),(.int .i64 e5),(sA (B.next) F D),(sA (B.next) F D)] u λp q=>yS p λo=>au ((o:LB)==[48]) (lA 29 q (pA (O.next)) λn=>xR (aF SS.P 22 2 [(0,(.int .i64 1)),(1,(.int .i64 2))]) q λ_ k l m=>xR (aF SS.P 22 2 [(0,(.int .i64 1)),(1,(.int .i64 2))]) m λ_ h i j=>FW SS 39 [(.agg ⟨n⟩),(.int .i64 e5),(sA (q.next) k l),(sA (m.next) h i)] j λf g=>yS f λe=>au ((e:LB)==[105,110,102]) (lA 29 g (pA (d5.next)) λd=>FW SS 39 [(.agg ⟨d⟩),(.int .i64 d2),nA,nA] g λb c=>yS b λa=>Q (.bool ((a:LB)==[50])) c) (Q (.bool false) g)) (Q (.bool false) q)) (Q (.bool false) u)) (Q (.bool false) y)) (Q (.bool false) R)) (Q (.bool false) S)) (Q (.bool false) Y)) (Q (.bool false) X)) (Q (.bool false) T)) (Q (.bool false) c2)) (Q (.bool false) U)) (Q (.bool false) d0)))):FW SS 12 [] h Q:=cN Wt Tryz.func12 (ai hx)
variable{h:ae}{g:ae}{a:Option Addr}{n:Nat}{k:Nat}{d:List Value}{p:List Int}{t:List UInt8}
theorem T0{c:Nat}{d:List (dW×Value)}(w:Wf g)(b:d.map (·.1)=M.af)(f:kj h g (.slice a n c) d):
  ∃u:dL,ah SS.P 29 (.pointer (some ⟨g.next,0,none⟩)) (.agg ⟨bR M a n c⟩) (g.push mO)=some (undef,u)/\Ok g (u.app (g.push mO))/\MB (u.app (g.push mO)) g.next M a n c:=by
 obtain⟨o,e⟩:=pa (cs:=bR M a n c) w ((Ok.refl w).push mO) (aI g mO) (Nat.le_refl _);refine⟨_,kV (t:=29) vI (cs0:=[.int .i64 0,.int .i64 0,strOf [],.slice none 0 0]) rfl (aI g mO) (cs:=bR M a n c) rfl (uw ..),o,e,?_⟩;have:=f.st;rw[b]at this;exact dS.ok this o
theorem abT(z:Int):aF SS.P 22 1 [(0,.int .i64 z)]=some (.cells [.int .i64 z] 3 1 true,mh 1 1):=by kernel_rfl
theorem WL(z y:Int):aF SS.P 22 2 [(0,.int .i64 z),(1,.int .i64 y)]=some (.cells [.int .i64 z,.int .i64 y] 3 1 true,mh 2 2):=by kernel_rfl
theorem adm(z y x:Int):aF SS.P 22 3 [(0,.int .i64 z),(1,.int .i64 y),(2,.int .i64 x)]=some (.cells [.int .i64 z,.int .i64 y,.int .i64 x] 3 1 true,mh 3 3):=by kernel_rfl
theorem r9{cs:List Value}{l:List Int}(h:g.get k=some (.cells cs 3 1 true))(b:cs=xl l)(a:l.length=n):du g (.slice (some ⟨k,0,none⟩) n n) l:=by
 subst a;subst b;exact .inr ⟨k,0,xl l,l.length,true,3,1,rfl,h,.inl ⟨rfl,rfl⟩,by rw[drop_zero,take_of_length_le (Nat.le_of_eq (jz l))]⟩
theorem wj(g:ae):du g (.slice none 0 0) []:= .inl ⟨rfl,rfl⟩
theorem oT{R:bt}{e:Int}{r:bt×Int}(l:FW SS n d g (Be g r))(m:r=(R,e)){Z:ae->List Value->Int->Prop}
  (p:∀(b:ae)(a:Option Addr)(i c:Nat)(u:dL),Ok g b->ah SS.P 29 (.pointer (some ⟨b.next,0,none⟩)) (.agg ⟨bR R a i c⟩) (b.push mO)=some (undef,u)->Ok g (u.app (b.push mO))->MB (u.app (b.push mO)) b.next R a i c->Z b (bR R a i c) e):
  FW SS n d g λv h=>∃cs:LV,∃i:Int,v = .tuple ⟨[.agg ⟨cs⟩,.int .i64 i]⟩/\Z h cs i:=by
 refine l.mono ?_;rintro _ b ⟨a,i,c,t,rfl,f,s,j⟩;rw[m]at f⊢;obtain⟨u,o,q,k⟩:=T0 j.wf f s;exact⟨_,_,rfl,p b a i c u j o (j.trans q) k⟩
theorem nD{c:Nat}{j:List Int}(w:Wf g)(x:MB g k M a n c)(s:Small M){d f:Option Addr}{q i e m:Nat}(r:du g (.slice d q i) p)(u:du g (.slice f e m) j)(z:Aj M p j=(t,0))
  {Z:List UInt8->ae->Prop} (y:∀b,Ok g b->Z t b):
  FW SS 39 [.agg ⟨bR M a n c⟩,.int .i64 0,.slice d q i,.slice f e m] g λv h=>yS v λl=>Z l h:=by
 refine(Pr w s x.row r u).mono ?_;rintro _ b ⟨rfl,o⟩;rw[z];exact⟨_,rfl,y b o⟩
theorem R5(w:Wf h)(r:nO h):FW SS 12 [] h (λv g=>v = .bool true/\Ok h g):=by
 have o1:=(Ok.refl w).push (.cells [.int .i64 1] 3 1 true);have e:=r9 (l:=[1]) (n:=1) (aI h (.cells [.int .i64 1] 3 1 true)) rfl rfl;refine R1 h _ ⟨_,_,_,abT 1,_,_,_,abT 2,_,_,_,WL 1 1,_,_,_,WL 2 2,?_⟩;generalize h.push (.cells [.int .i64 1] 3 1 true)=g1 at*;have o2:=(Ok.refl o1.wf).push (.cells [.int .i64 2] 3 1 true);have f:=r9 (l:=[2]) (n:=1) (aI g1 (.cells [.int .i64 2] 3 1 true)) rfl rfl;generalize g1.push (.cells [.int .i64 2] 3 1 true)=g2 at*;have X:=(Ok.refl o2.wf).push (.cells [.int .i64 1,.int .i64 1] 3 1 true);have t:=r9 (l:=[1,1]) (n:=2) (aI g2 (.cells [.int .i64 1,.int .i64 1] 3 1 true)) rfl rfl;generalize g2.push (.cells [.int .i64 1,.int .i64 1] 3 1 true)=g3 at*;have M:=(Ok.refl X.wf).push (.cells [.int .i64 2,.int .i64 2] 3 1 true);have Q:=r9 (l:=[2,2]) (n:=2) (aI g3 (.cells [.int .i64 2,.int .i64 2] 3 1 true)) rfl rfl;generalize g3.push (.cells [.int .i64 2,.int .i64 2] 3 1 true)=g4 at*;have q4:=((o1.trans o2).trans X).trans M;have e:=du.ok e ((o2.trans X).trans M);have f:=du.ok f (X.trans M);have t:=du.ok t M;refine oT (Co M.wf (r.ok q4) e f (by decide)) abr λv5 a n c z8 ob st T b=>⟨_,qD,z8,st,?_⟩
 generalize z8.app (v5.push mO)=v8 at*;have y3:=q4.trans T;have e:=du.ok e T;have f:=du.ok f T;refine oT (Co T.wf (r.ok y3) e f (by decide)) abt λj0 a' n' c' y8 j6 w3 V x=>⟨_,qD,y8,w3,aa (λq=>by cases q) (λ_=>aa (λq=>by cases q) (λ_=>?_))⟩
 generalize y8.app (j0.push mO)=w5 at*;have z6:=y3.trans V;have b:=b.ok V;refine⟨_,b.all,_,x.all,oT (OP V.wf (r.ok z6) IF Y1 b.row x.row) abB λu2 aU nU cU z4 q0 v3 L B=>⟨_,qD,z4,v3,?_⟩⟩;generalize z4.app (u2.push mO)=w8 at*;have y9:=z6.trans L;have b:=b.ok L;have x:=x.ok L;refine⟨_,b.all,_,x.all,oT (Lk L.wf (r.ok y9) IF Y1 b.row x.row (λ_=>ZS)) abu λw2 aC nC cC y4 X1 v7 W Z=>⟨_,qD,y4,v7,?_⟩⟩;generalize y4.app (w2.push mO)=w7 at*;have x9:=y9.trans W;have b:=b.ok W;refine⟨_,b.all,oT (II W.wf (r.ok x9) IF b.row) abz λu8 aS nS cS y7 j9 j3 K s=>⟨_,qD,y7,j3,?_⟩⟩;generalize y7.app (u8.push mO)=u5 at*;have z3:=x9.trans K;have b:=b.ok K;refine⟨_,b.all,oT (Lm K.wf (r.ok z3) IF (by decide) (by decide) b.row) aby λu3 aR nR cR x5 X3 u7 o E=>⟨_,qD,x5,u7,?_⟩⟩;generalize x5.app (u3.push mO)=w1 at*;have z0:=z3.trans o;have b:=b.ok o;refine⟨_,b.all,oT (OJ o.wf (r.ok z0) IF (by decide) b.row (λ_ _=>ZT)) abA λj5 aT nT cT z1 X2 w4 p Y=>⟨_,qD,z1,w4,?_⟩⟩;generalize z1.app (j5.push mO)=J at*;have v6:=z0.trans p;refine⟨_,_,_,adm 2 1 2,?_⟩;have m:=(Ok.refl p.wf).push (.cells [.int .i64 2,.int .i64 1,.int .i64 2] 3 1 true);have v9:=r9 (l:=[2,1,2]) (n:=3) (aI J (.cells [.int .i64 2,.int .i64 1,.int .i64 2] 3 1 true)) rfl rfl;generalize J.push (.cells [.int .i64 2,.int .i64 1,.int .i64 2] 3 1 true)=q3 at*;refine oT (Nn m.wf v9 (by decide)) abx λu6 aL nL cL x8 q1 j4 k G=>⟨_,qD,x8,j4,?_⟩
 generalize x8.app (u6.push mO)=R at*;have z2:=(v6.trans m).trans k;refine oT (Co k.wf (r.ok z2) (wj R) (wj R) (by decide)) abv λv0 aH nH cH x0 j7 j1 j mH=>⟨_,qD,x0,j1,?_⟩
 generalize x0.app (v0.push mO)=j8 at*;have x6:=z2.trans j;refine⟨_,mH.all,oT (II j.wf (r.ok x6) abD mH.row) abw λz9 aK nK cK I X0 w0 i mK=>⟨_,qD,I,w0,aa (λ_=>?_) (λq=>by cases q)⟩⟩;generalize I.app (z9.push mO)=d at*;have x7:Ok w8 d:=((((((W.trans K).trans o).trans p).trans m).trans k).trans j).trans i;have u4:Ok w7 d:=(((((K.trans o).trans p).trans m).trans k).trans j).trans i;have j2:Ok u5 d:=((((o.trans p).trans m).trans k).trans j).trans i;have v2:Ok w1 d:=(((p.trans m).trans k).trans j).trans i;have v1:Ok J d:=((m.trans k).trans j).trans i;have w9:Ok R d:=j.trans i;have u1:Ok w5 d:=L.trans x7;have P:Ok v8 d:=V.trans u1;have e4:Ok g4 d:=T.trans P;have u0:=x6.trans i;have B:=B.ok x7;have Z:=Z.ok u4;have s:=s.ok j2;have E:=E.ok v2;have Y:=Y.ok v1;have G:=G.ok w9;have e:=du.ok e P;have f:=du.ok f P;have t:=du.ok t e4;have Q:=du.ok Q e4;refine⟨_,B.all,nD i.wf B Y4 e f abG λh1 p1=>aa (λ_=>?_) (λq=>by cases q)⟩;have y:=p1;refine⟨_,(B.ok y).all,nD y.wf (B.ok y) Y4 (du.ok e y) (du.ok e y) abH λh2 p2=>aa (λ_=>?_) (λq=>by cases q)⟩;have A:=y.trans p2;refine⟨_,(Z.ok A).all,nD A.wf (Z.ok A) abC (du.ok t A) (du.ok Q A) abI λh3 p3=>aa (λ_=>?_) (λq=>by cases q)⟩;have U:=A.trans p3;refine⟨_,(s.ok U).all,nD U.wf (s.ok U) R0 (wj h3) (wj h3) abJ λh4 p4=>aa (λ_=>?_) (λq=>by cases q)⟩;have H:=U.trans p4;refine⟨_,(s.ok H).all,nD H.wf (s.ok H) R0 (du.ok t H) (du.ok Q H) abK λh5 p5=>aa (λ_=>?_) (λq=>by cases q)⟩;have O:=H.trans p5;refine⟨_,(s.ok O).all,nD O.wf (s.ok O) R0 (du.ok e O) (wj h5) abL λh6 p6=>aa (λ_=>?_) (λq=>by cases q)⟩;have C:=O.trans p6;refine⟨_,(E.ok C).all,nD C.wf (E.ok C) Y3 (du.ok e C) (du.ok f C) abM λh7 p7=>aa (λ_=>?_) (λq=>by cases q)⟩;have F:=C.trans p7;refine⟨_,(E.ok F).all,nD F.wf (E.ok F) Y3 (du.ok t F) (du.ok Q F) abN λh8 p8=>aa (λ_=>?_) (λq=>by cases q)⟩;have D:=F.trans p8;refine⟨_,(Y.ok D).all,nD D.wf (Y.ok D) abF (du.ok e D) (du.ok f D) abO λh9 p9=>aa (λ_=>?_) (λq=>by cases q)⟩;have z:=D.trans p9;refine⟨_,(G.ok z).all,nD z.wf (G.ok z) Y2 (du.ok f z) (du.ok f z) ZU λz7 v4=>aa (λ_=>?_) (λq=>by cases q)⟩;have N:=z.trans v4;refine⟨_,(G.ok N).all,_,_,_,WL 1 2,_,_,_,WL 1 2,?_⟩;have y6:=(Ok.refl N.wf).push (.cells [.int .i64 1,.int .i64 2] 3 1 true);have y1:=r9 (l:=[1,2]) (n:=2) (aI z7 (.cells [.int .i64 1,.int .i64 2] 3 1 true)) rfl rfl;generalize z7.push (.cells [.int .i64 1,.int .i64 2] 3 1 true)=y0 at*;have y5:=(Ok.refl y6.wf).push (.cells [.int .i64 1,.int .i64 2] 3 1 true);have y2:=r9 (l:=[1,2]) (n:=2) (aI y0 (.cells [.int .i64 1,.int .i64 2] 3 1 true)) rfl rfl;generalize y0.push (.cells [.int .i64 1,.int .i64 2] 3 1 true)=q2 at*;have S:=(N.trans y6).trans y5;refine nD S.wf (G.ok S) Y2 (du.ok y1 y5) y2 ZV λz5 w6=>aa (λ_=>?_) (λq=>by cases q);have u:=S.trans w6;refine⟨_,(mK.ok u).all,nD u.wf (mK.ok u) abE (wj z5) (wj z5) ZW λX4 u9=>⟨rfl,u0.trans (u.trans u9)⟩⟩
end Go.Proofs.YtaaichlgdgjgjaaGreatDoor
end
section
namespace Go.Proofs.YtaaichlgdgjgjaaGreatDoor
open Go Go.Ab Go.Num Go.Num.bd
section
section
variable {K:Type} {S:bd K} {dec:List UInt8->K}
theorem Vv{C:dH K}{q:Nat}(d:∀a∈C.arcs q,¬(a.i=0/\a.o=0))(x y:List Int):dH.val S C x y q=S.add (emp S x y (C.fin q)) (gI S (dH.go S (dH.val S C) x y) (C.arcs q)):=by
 have b:dH.val S C x y q=HI S (dH.QY S C) C.n (dH.tail S C (dH.val S C) x y) q:=by rw[dH.MZ (S:=S) (M:=C) x y]
 rw[b,DA];have e:∀p,dH.QY S C q p=S.zero:=λp=>by
  unfold dH.QY;rw[eM (g:=λ_=>S.zero) λa h=>?_,mL];exact if_neg λc=>d a h ⟨c.1,c.2.1⟩
 rw[aN (g:=λ_=>S.zero) λp _=>by rw[e p,S.zero_mul],gr,bd.add_zero];rfl
theorem Bu{s:Int}(a:s≠0)(r u:List Int):ju s u=some r↔u=s::r:=by
 unfold ju;rw[if_neg a]
 cases u with
 |nil=>simp
 |cons c t=>
  dsimp only;by_cases e:c=s
  ·subst e;rw[if_pos rfl];simp
  ·rw[if_neg e];simp[e]
variable {kind:Int} {xs ys:List Int} {wt:List UInt8}
theorem HJ(l:List Int):(lz l).Pairwise (· <= ·):=by
 have:=List.pairwise_mergeSort (le:=λ(x y:Int)=>decide (x<=y)) (λa b c d e=>by simp at*;omega) (λa b=>by simp;omega) l;exact this.imp λh=>by simpa using h
theorem Q4(l:List Int)(x:Int):x∈lz l↔x∈l:=(List.mergeSort_perm l _).mem_iff
theorem Cv(l:List Int)(x:Int):∀{i:Nat},i<=l.length->(x∈comp l i↔x∈l.take i)
 |0,_=>by simp[comp]
 | i+1,h=>by
  rw[oj,gb (d:=0) (by omega),List.mem_append,List.mem_append,Cv l x (by omega)];split
  ·next c=>
   constructor
   ·rintro(h|h)
    ·exact .inl h
    ·cases h
   ·rintro(h|h)
    ·exact .inl h
    ·refine .inl ?_;rw[mem_singleton.1 h,c.2];rw[gD,gE (by omega)];exact List.mem_take_iff_getElem.2 ⟨i-1,by omega,rfl⟩
  ·exact Iff.rfl
theorem Nx{l:List Int}(f:l.Pairwise (· <= ·)):∀{i:Nat},i<=l.length->(comp l i).Pairwise (· < ·)
 |0,_=>List.Pairwise.nil
 | i+1,h=>by
  rw[oj,List.pairwise_append];refine⟨Nx f (by omega),?_,λa m b d=>?_⟩
  ·split
   ·exact List.Pairwise.nil
   ·exact List.pairwise_singleton ..
  ·split at d
   ·cases d
   ·next c=>
    rw[mem_singleton.1 d];have m:=(Cv l a (by omega)).1 m;obtain⟨j,r,rfl⟩:=List.mem_take_iff_getElem.1 m;have p:j<i:=by omega
    have g:∀k,(n:k<l.length)->l.getD k 0=l[k]:=λk n=>by rw[gD,gE n];rfl
    have s:l[i-1]'(by omega)<=l[i]'(by omega):=List.pairwise_iff_getElem.1 f _ _ (by omega) (by omega) (by omega);have o:l[i]'(by omega)≠l[i-1]'(by omega):=λe=>c ⟨by omega,by rw[g i (by omega),g (i-1) (by omega)];exact e⟩;have q:l[j]'(by omega)<=l[i-1]'(by omega):=by
     by_cases e:j=i-1
     ·subst e;exact Int.le_refl _
     ·exact List.pairwise_iff_getElem.1 f _ _ (by omega) (by omega) (by omega)
    rw[g i (by omega)];omega
theorem xr(l:List Int)(x:Int):x∈iB l↔x∈l:=by
 unfold iB;rw[Cv _ _ (Nat.le_refl _),take_length,Q4]
theorem G1(l:List Int):(iB l).Pairwise (· < ·):=Nx (HJ l) (Nat.le_refl _)
end
end
section
theorem Jp:∀{l:List Int}{a b:Int},l.Pairwise (· < ·)->(∀x∈l,a<=x/\x<=b)->a<=b+1->(l.length:Int)<=b+1-a
 |[],a,b,_,_,h=>by simp;omega
 |x::l,a,b,g,c,h=>by
  have i:=c x (mem_cons_self ..);obtain⟨e,f⟩:=List.pairwise_cons.1 g;have:=Jp (a:=x+1) (b:=b) f (λy d=>⟨by have:=e y d;omega,(c y (List.mem_cons_of_mem _ d)).2⟩) (by omega);rw[length_cons];omega
theorem Jv{l:List Int}(h:l.all kx=true):(iB l).length<=500:=by
 have:=Jp (a:=1) (b:=500) (G1 l) (λx c=>by
  have:=all_eq_true.1 h x ((xr l x).1 c);unfold kx at this;rw[and_eq_true,decide_eq_true_eq,decide_eq_true_eq]at this;exact this) (by omega)
 omega
section
variable {K:Type} {S:bd K} {dec:List UInt8->K} {kind:Int} {l:List Int}
theorem xv:df (dx kind l).af=(iB l).length:=by
 unfold dx;dsimp only;rw[dt,dt];show(wb kind (iB l)).length+(0+0)=_;unfold wb;rw[lM];rfl
theorem HK{l:List Int}(h:l.all kx=true){x:Int}(a:x∈iB l):pq x=true/\x≠0:=by
 have:=all_eq_true.1 h x ((xr l x).1 a);unfold kx at this;rw[and_eq_true,decide_eq_true_eq,decide_eq_true_eq]at this;refine⟨?_,by omega⟩;unfold pq;rw[decide_eq_true (show 0<=x by omega),decide_eq_true this.2];rfl
theorem CW(a:1<=kind/\kind<=3)(h:l.all kx=true):VOk (dx kind l):=by
 have f:=Jv h;have e:=xv (kind:=kind) (l:=l);refine⟨a,⟨by show 1<=2;omega,by show 2<=3000;omega⟩,⟨Int.le_refl _,by show(0:Int)<((2:Nat):Int);omega⟩,TO a,by omega,λs b=>?_⟩;show StW kind 2 s;rcases mem_cons.1 b with rfl|b
 ·refine⟨.inl rfl,λq c=>?_⟩;obtain⟨x,d,rfl⟩:=mem_map.1 c;have:=(HK h d).1;exact RX this this ⟨by show(0:Int)<=1;omega,by show(1:Int)<((2:Nat):Int);omega⟩ (TO a)
 ·have:=mem_singleton.1 b;subst this;exact⟨.inr (TO a),λq c=>by cases c⟩
theorem xu(f:1<=kind/\kind<=3)(h:l.all kx=true):IW (dx kind l)=true:=by
 have c:=(CW f h).valid;have e:Iy (dx kind l)=true:=by
  unfold Iy IC;rw[c,Bool.true_and,all_eq_true];intro s a;rcases mem_cons.1 a with rfl|a
  ·rw[all_eq_true];intro q b;obtain⟨x,d,rfl⟩:=mem_map.1 b;show(x==x)=true;simp
  ·have:=mem_singleton.1 a;subst this;rfl
 have g:wq (dx kind l)=true:=by
  unfold wq IC;rw[c,Bool.true_and,all_eq_true];intro s a;rcases mem_cons.1 a with rfl|a
  ·rw[all_eq_true];intro q b;obtain⟨x,d,rfl⟩:=mem_map.1 b;have:=(HK h d).2;show(x !=0||x !=0)=true;simp[this]
  ·have:=mem_singleton.1 a;subst this;rfl
 unfold IW;rw[e,g,Bool.true_and,Bool.true_and,all_eq_true];intro s a;rcases mem_cons.1 a with rfl|a
 ·unfold IX sJ;refine decide_eq_true ?_;have:(wb kind (iB l)).map (·.i)=iB l:=by
   unfold wb;rw[map_map];exact List.map_id _
  show((wb kind (iB l)).map (·.i)).Nodup;rw[this];exact(G1 l).imp λh=>by omega
 ·have:=mem_singleton.1 a;subst this;rfl
theorem N9{x:Int}:∀{L:List Int},L.Pairwise (· < ·)->gI S (λs=>if x=s then S.one else S.zero) L=if x∈L then S.one else S.zero
 |[],_=>rfl
 | s::L,h=>by
  obtain⟨b,f⟩:=List.pairwise_cons.1 h;show S.add (if x=s then S.one else S.zero) (gI S _ L)=_;rw[N9 f];by_cases c:x=s
  ·subst c;rw[if_pos rfl,if_neg (λa=>by have:=b x a;omega),if_pos (mem_cons_self ..),bd.add_zero]
  ·rw[if_neg c,S.zero_add];by_cases d:x∈L
   ·rw[if_pos d,if_pos (List.mem_cons_of_mem _ d)]
   ·rw[if_neg d,if_neg (λe=>(mem_cons.1 e).elim c d)]
theorem KE(r:1<=kind/\kind<=3)(A:wL S dec kind)(h:l.all kx=true)(u v:List Int):YA S dec (dx kind l) u v=if ∃s,s∈l/\u=[s]/\v=[s]then S.one else S.zero:=by
 have j:dec (dc kind)=S.one:=by rw[C6 r];exact A.one
 have o:dc kind≠[]:=by rw[C6 r];unfold pE;split<;>simp
 have b:(dx kind l).af[0]?=some ⟨[],wb kind (iB l)⟩:=rfl;have m:(dx kind l).af[1]?=some ⟨dc kind,[]⟩:=rfl;have D:∀u v,dH.val S (Wa S dec (dx kind l)) u v 1=if u=[]/\v=[]then S.one else S.zero:=λu v=>by
  rw[Gw (by rw[ad8];show 1<2;omega) (λa f=>by rw[BN m]at f;cases f),BN m,Vx m];show S.add _ S.zero=_;rw[bd.add_zero,if_neg o,j];rfl
 have E:∀a∈(Wa S dec (dx kind l)).arcs 0,¬(a.i=0/\a.o=0):=λa f=>by
  rw[BN b]at f;obtain⟨q,B,rfl⟩:=mem_map.1 f;obtain⟨x,z,rfl⟩:=mem_map.1 B;exact λc=>(HK h z).2 c.1
 have w:dH.val S (Wa S dec (dx kind l)) u v 0=if ∃s,s∈l/\u=[s]/\v=[s]then S.one else S.zero:=by
  rw[Vv E,BN b,Vx b,if_pos rfl,SQ,S.zero_add,tS];show gI S _ ((iB l).map _)=_;rw[tS];have e:∀s∈iB l,dH.go S (dH.val S (Wa S dec (dx kind l))) u v (aaW dec ⟨s,s,dc kind,1⟩)=if u=[s]/\v=[s]then S.one else S.zero:=λs i=>by
   have b:=(HK h i).2;unfold dH.go aaW;dsimp only;rw[if_neg (λc=>b c.1)]
   cases n:ju s u with
   |none=>rw[if_neg (λc=>by rw[(Bu b [] u).2 c.1]at n;cases n)]
   | some p=>
    cases g:ju s v with
    |none=>rw[if_neg (λc=>by rw[(Bu b [] v).2 c.2]at g;cases g)]
    |some t=>
     dsimp only;have y:=(Bu b p u).1 n;have C:=(Bu b t v).1 g;show S.mul (dec (dc kind)) (dH.val S (Wa S dec (dx kind l)) p t 1)=_;rw[D,j,S.one_mul,y,C];simp
  rw[eM e];by_cases c:∃x,u=[x]/\v=[x]
  ·obtain⟨x,rfl,rfl⟩:=c;have k:∀s∈iB l,(if([x]:List Int)=[s]/\([x]:List Int)=[s]then S.one else S.zero)=if x=s then S.one else S.zero:=λs _=>by simp
   rw[eM k,N9 (G1 l)];by_cases d:x∈l
   ·rw[if_pos ((xr l x).2 d),if_pos ⟨x,d,rfl,rfl⟩]
   ·rw[if_neg (λe=>d ((xr l x).1 e)),if_neg (λ⟨s,i,e,_⟩=>d (by
     have:x=s:=by simpa using e
     rw[this];exact i))]
  ·have k:∀s∈iB l,(if u=[s]/\v=[s]then S.one else S.zero)=S.zero:=λs _=>if_neg λd=>c ⟨s,d⟩;rw[eM k,mL,if_neg (λ⟨s,_,d⟩=>c ⟨s,d⟩)]
 show S.mul (dec (dc kind)) (dH.val S (Wa S dec (dx kind l)) u v 0)=_;rw[j,S.one_mul,w]
end
end
end Go.Proofs.YtaaichlgdgjgjaaGreatDoor
end
