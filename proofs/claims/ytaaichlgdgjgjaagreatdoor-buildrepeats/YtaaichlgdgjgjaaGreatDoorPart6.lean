/- Laws and walks that the proof leans on (part 6): BA6; BA7; V11; BA16; BA17; V12 and others. No condition. -/
import Derived.Test.YtaaichlgdgjgjaaGreatDoorPart5
import Derived.Test.YtaaichlgdgjgjaaGreatDoorPart3
import Derived.Test.YtaaichlgdgjgjaaGreatDoorPart2
set_option linter.unusedVariables false
set_option linter.unusedSimpArgs false
set_option maxRecDepth 100000
open List (all_cons append_assoc append_nil drop_eq_nil_of_le drop_length drop_zero ext_getElem getElem?_map length_append length_cons length_drop length_replicate length_set length_take map_append map_congr_left map_map map_set mem_map mem_singleton range_succ take_of_length_le take_take)
open Nat (mul_le_mul sub_zero)
open Option (map_eq_some_iff map_some)
open Bool (and_eq_true not_eq_false' not_eq_true')
open Go.IntKind (wrap)
section
namespace Go.Proofs.YtaaichlgdgjgjaaGreatDoor
open Go Go.Ab Go.Num
section
section
variable {h:ae} {M:bp} {x a:Option Addr} {y z n c:Nat} {V:List (List UInt8)}
theorem Sh(w:Wf h)(r:dy h (.slice x y z) M.af)(e:Rd h 9 (.slice a n c) (eI V))(d:VV M.kind n V):FW SS 75 [.agg ⟨bK M x y z⟩,.slice a n c,nA] h (WW h M.kind n (ga (aY M.kind) V none)):=by
 obtain⟨f,b⟩:=fv w r;exact Sg (bK M x y z) a n c h _ ⟨_,iS M x y z,b,_,_,rfl,e.ok b,d⟩
def reR(M:bp)(V:List (List UInt8))(B:LM)(q:Nat)(l:List (List UInt8)):Option (List (List UInt8)):=bg (λl q=>bg (fR (aY M.kind) V B q) V.length 0 l) (M.af.length-q) q l
theorem W0(w:Wf h)(E:Pf M)(r:dy h (.slice x y z) M.af)(rv:Rd h 9 (.slice a M.af.length c) (eI V))(t:VV M.kind M.af.length V){F:Addr}{d:Nat}{B:LM}(rb:Mf 107 h (.slice (some F) M.af.length d) B)(A:Sq M.kind M.af.length B):
  FW SS 75 [.agg ⟨bK M x y z⟩,.slice a M.af.length c,.slice (some F) M.af.length d] h (WW h M.kind M.af.length (ga (aY M.kind) V (some B))):=by
 obtain⟨n,v⟩:=fv w r;obtain rfl:y=M.af.length:=n.len;have hn:=E.n;refine WZ (bK M x M.af.length z) a _ c F _ d h _ ⟨_,iS M x _ z,_,n.all,(vw v.wf E n.row).mono ?_⟩;rintro _ g1 ⟨D,rfl,x0,nl,o1⟩;refine⟨_,_,_,rfl,?_⟩;have x7:=v.wf _ _ n.box;have i1:WI h M x M.af.length z h.next D (bw (aY M.kind) M.af.length) g1:=⟨o1.ext _ _ n.box,x0,v.trans o1,Nat.le_refl _,Nat.le_trans v.nx nl,by omega⟩
 obtain⟨G,hG⟩:∃G,G=ga (aY M.kind) V (some B):=⟨_,rfl⟩
 rw[<-hG];have Y:reR M V B 0 (bw (aY M.kind) M.af.length)=G:=by rw[hG];unfold reR ga;rw[t.len,sub_zero]
 refine AP (bK M x M.af.length z) a M.af.length c F M.af.length d h.next D (λN q g=>q<=M.af.length/\N=M.af.length-q/\∃l,WI h M x M.af.length z h.next D l g/\VV M.kind M.af.length l/\reR M V B q l=G) _ (λN q=>?_) M.af.length (q:=0) ⟨by omega,rfl,_,i1,VV.Pd E.kind _,Y⟩;intros;rename_i g Z;obtain⟨f1,f2,l,K,U,C⟩:=Z;refine aa (λR=>?_) (λR=>?_)
 ·have k:q<M.af.length:=by have:=dT R;omega
  unfold reR at C;rw[fo _ k]at C;refine AQ (bK M x M.af.length z) a M.af.length c F M.af.length d h.next D _ N q (λI p g=>p<=M.af.length/\I=M.af.length-p/\∃l,WI h M x M.af.length z h.next D l g/\VV M.kind M.af.length l/\(match bg (fR (aY M.kind) V B q) (M.af.length-p) p l with|none=>none|some l'=>reR M V B (q+1) l')=G) _ (λI p=>?_) M.af.length (p:=0) ⟨by omega,rfl,l,K,U,?_⟩
  ·intros;rename_i g2 P;obtain⟨d1,d2,u,J,o,b⟩:=P;refine aa (λO=>?_) (λO=>?_)
   ·have s:p<M.af.length:=by have:=dT O;omega
    have m:=J.room 21;obtain⟨p1,e1,S⟩:=Rd.cell ty (rv.ok m.ok) (j:=q) (by rw[t.len];exact k);rw[fo _ s]at b;have hc:fR (aY M.kind) V B q u p=if((V.getD q []==bE M.kind)||((B.getD q []).getD p []==bE M.kind))=true then some u else gK (aY M.kind) u p (V.getD q []) ((B.getD q []).getD p []):=by
     unfold fR;rw[t.at_ k (aY M.kind).zero,A.Mj k s];rfl
    rw[hc]at b;rw[aP s (by omega)];refine⟨_,e1,_,S,_,du _,_,(m.mb r).l0,(fO E.kind _).mono ?_⟩;rintro _ X ⟨rfl,T⟩;obtain rfl:Go.Ab.room g2 21=X:=T.symm;refine⟨_,rfl,aa (λL=>⟨⟨S,ml _⟩,?_⟩) (λL=>?_)⟩
    ·rw[L,Bool.true_or,if_pos rfl]at b;exact bZ (M.af.length-(p+1)) (by omega) ⟨by omega,rfl,u,m,o,b⟩
    ·obtain⟨pb,ab,nb,cb,b1,b2,b3⟩:=(rb.ok m.ok).at_ ty (i:=q) (by rw[A.len];exact k);obtain⟨p2,b4,b5⟩:=Rd.cell ty b3 (j:=p) (by rw[A.row q k];exact s);have hv:dG 4 (.slice ab nb cb) (.slice ab nb cb)=true:=by
      rcases b3 with⟨e,_⟩|⟨k',x3,x5,x4,x6,e,_⟩
      ·injection e with e _ _;rw[e];simp[dG]
      ·injection e with e _ _;rw[e];simp[dG]
     refine⟨_,b1,_,_,_,b2,_,b4,_,b5,_,du _,_,(m.mb r).l0,(fO E.kind _).mono ?_⟩;rintro _ X ⟨rfl,T⟩;obtain rfl:Go.Ab.room g2 21=X:=T.symm;refine⟨_,rfl,⟨S,ml _⟩,⟨b2,hv⟩,⟨b5,ml _⟩,aa (λQ=>?_) (λQ=>?_)⟩
     ·rw[Q,Bool.or_true,if_pos rfl]at b;exact bZ (M.af.length-(p+1)) (by omega) ⟨by omega,rfl,u,m,o,b⟩
     ·rw[L,Q,Bool.or_false,if_neg (by simp)]at b;have f:=m.room 17;have x1:=t.val q k;have x2:=A.val q p k s;obtain⟨p6,e6,e7⟩:=Rd.cell ty (rv.ok f.ok) (j:=q) (by rw[t.len];exact k);obtain⟨pc,ac,nc,cc,c1,c2,c3⟩:=(rb.ok f.ok).at_ ty (i:=q) (by rw[A.len];exact k);obtain⟨p7,c4,c5⟩:=Rd.cell ty c3 (j:=p) (by rw[A.row q k];exact s);refine⟨_,du _,_,(f.mb r).l0,_,e6,_,e7,_,c1,_,_,_,c2,_,c4,_,c5,(IM f.ok.wf f.vb o s x1 x2).mono ?_⟩;rintro _ g5 ⟨o5,H⟩
      cases W:gK (aY M.kind) u p (V.getD q []) ((B.getD q []).getD p [])with
      |none=>
       rw[W]at H b;subst H;exact⟨_,rfl,aa (λ_=>⟨o5.ok f.ok w (λj e=>by rw[e];exact f.nl),by rw[<-b]⟩) (λe=>by cases e)⟩
      |some l5=>
       rw[W]at H b;obtain⟨rfl,v5⟩:=H;exact⟨_,rfl,aa (λe=>by cases e) (λ_=>bZ (M.af.length-(p+1)) (by omega) ⟨by omega,rfl,l5,f.step w o5 v5,Hp o x1 x2 s W,b⟩)⟩
   ·obtain rfl:p=M.af.length:=by have:=dF O;omega
    rw[iM]at b;rw[aP k (by omega)];exact bZ (M.af.length-(q+1)) (by omega) ⟨by omega,rfl,u,J,o,b⟩
  ·rw[sub_zero];rw[<-C,t.len]
   cases bg (fR (aY M.kind) V B q) M.af.length 0 l with
   |none=>rfl
   |some l'=>dsimp only;unfold reR;rw[t.len]
 ·obtain rfl:q=M.af.length:=by have:=dF R;omega
  unfold reR at C;rw[iM]at C;rw[<-C];have:=K.vb.rd M.af.length;rw[U.len]at this;exact⟨K.ok,_,_,rfl,this,U⟩
def fiR(M:bp)(V:List (List UInt8))(q:Nat)(l:List (List UInt8)):Option (List UInt8):=match bg (jS (aY M.kind) (gm M) V) (M.af.length-q) q l with
 |none=>none
 |some l=>some (l.getD 0 (aY M.kind).zero)
theorem Z3(w:Wf h)(D:Pf M)(r:dy h (.slice x y z) M.af)(rv:Rd h 9 (.slice a M.af.length c) (eI V))(E:VV M.kind M.af.length V):FW SS 78 [.agg ⟨bK M x y z⟩,.slice a M.af.length c] h (oQ h (oS (aY M.kind) (gm M) V)):=by
 obtain⟨p,n⟩:=fv w r;obtain rfl:y=M.af.length:=p.len;have hn:=D.n;refine Z2 (bK M x M.af.length z) a _ c h _ ⟨_,iS M x _ z,_,du _,_,p.l0,(fO D.kind _).mono ?_⟩;rintro _ m ⟨rfl,e0⟩;obtain rfl:h.push (Bm M x M.af.length z)=m:=e0.symm;refine⟨_,rfl,_,_,_,aap _,?_⟩;generalize h.push (Bm M x M.af.length z)=m at*;have k1:=aO m (.cells [strOf (bE M.kind)] 9 1 true);have P:=(Ok.refl n.wf).push (.cells [strOf (bE M.kind)] 9 1 true);have i1:WI h M x M.af.length z h.next m.next [bE M.kind] (m.push (.cells [strOf (bE M.kind)] 9 1 true)):=⟨P.ext _ _ p.box,k1,n.trans P,Nat.le_refl _,n.nx,by have:=n.wf _ _ p.box;omega⟩
 obtain⟨G,T⟩:∃G,G=oS (aY M.kind) (gm M) V:=⟨_,rfl⟩
 rw[<-T];have N:fiR M V 0 [bE M.kind]=G:=by
  rw[T];unfold fiR oS;rw[E.len,sub_zero];show(match bg (jS (aY M.kind) (gm M) V) M.af.length 0 [(aY M.kind).zero]with|none=>none|some l=>some (l.getD 0 (aY M.kind).zero))=_
  cases bg (jS (aY M.kind) (gm M) V) M.af.length 0 [(aY M.kind).zero]<;>rfl
 refine BZ (bK M x M.af.length z) a M.af.length c h.next m.next (λQ q g=>q<=M.af.length/\Q=M.af.length-q/\∃l,WI h M x M.af.length z h.next m.next l g/\VV M.kind 1 l/\fiR M V q l=G) _ (λQ q=>?_) M.af.length (q:=0) ⟨by omega,rfl,_,i1,⟨rfl,λi hi=>(by rw[show i=0 by omega];exact oD D.kind)⟩,N⟩;intros;rename_i g O;obtain⟨f1,f2,l,v,A,d⟩:=O;have W:=v.mb r;refine aa (λJ=>?_) (λJ=>?_)
 ·have u:q<M.af.length:=by have:=dT J;omega
  obtain⟨s,F⟩:∃s,M.af[q]?=some s:=⟨_,gE u⟩
  have R:=List.mem_of_getElem? F;obtain⟨b,o,xa,ya,za,u1,u2,u3,u4,ar⟩:=W.row.at_ F;unfold fiR at d;rw[fo _ u]at d;have hc:jS (aY M.kind) (gm M) V l q=match (Cc s).fin with|none=>some l|some f=>gK (aY M.kind) l 0 (V.getD q []) f:=by
   unfold jS;rw[T9 F,E.at_ u (aY M.kind).zero]
   cases (Cc s).fin<;>rfl
  rw[hc]at d;rw[aP u (by omega)];refine⟨_,cZ _,_,_,_,W.l3,_,u1,_,nJ _ _,_,u3,aa (λI=>?_) (λI=>?_)⟩
  ·have C:s.f≠[]:=cd (by simpa using I);have K:(Cc s).fin=some s.f:=if_neg C;rw[K]at d;dsimp only at d;have k:=v.room 15;have B:=k.mb r;have Z:=E.val q u;have X:=D.fin s R C;obtain⟨p6,e6,e7⟩:=Rd.cell ty (rv.ok k.ok) (j:=q) (by rw[E.len];exact u);obtain⟨b',o',x6,x7,x5,S,x4,Y,x3,x0⟩:=B.row.at_ F;refine⟨_,du _,_,B.l0,_,e6,_,e7,_,cZ _,_,_,_,B.l3,_,S,_,nJ _ _,_,Y,(IM (t:=0) k.ok.wf k.vb A (by omega) Z X).mono ?_⟩;rintro _ g5 ⟨U,H⟩
   cases L:gK (aY M.kind) l 0 (V.getD q []) s.f with
   |none=>
    rw[L]at H d;subst H;exact⟨_,rfl,aa (λ_=>⟨by rw[<-d];rfl,U.ok k.ok w (λj e=>by rw[e];exact k.nl)⟩) (λe=>by cases e)⟩
   |some l5=>
    rw[L]at H d;obtain⟨rfl,v5⟩:=H;exact⟨_,rfl,aa (λe=>by cases e) (λ_=>bZ (M.af.length-(q+1)) (by omega) ⟨by omega,rfl,l5,k.step w U v5,Hp A Z X (by omega) L,d⟩)⟩
  ·have C:s.f=[]:=cn (by simpa using I);have K:(Cc s).fin=none:=if_pos C;rw[K]at d;exact bZ (M.af.length-(q+1)) (by omega) ⟨by omega,rfl,l,v,A,d⟩
 ·obtain rfl:q=M.af.length:=by have:=dF J;omega
  unfold fiR at d;rw[iM]at d;refine⟨_,VB.ix ty (j:=0) (by omega),_,v.vb.ld ty (j:=0) (by rw[A.len];omega),?_,v.ok⟩;rw[<-d];show _=M7 (some (l.getD 0 (aY M.kind).zero));rw[A.at_ (i:=0) (by omega) (aY M.kind).zero];rfl
end
end
variable{n:Nat}{d:List Value}{m:Nat}{i:Nat}{j:Nat}{b:Bool}
section
theorem kx{g:ae}{k:Nat}{cs:List Value}{z:Nat}{e:Bool}(a:g.get k=some (.cells cs m z b))(f:g.get n=some (.cells d i j e))(h:m≠i):k≠n:=λc=>by
 rw[c,f]at a;injection a with a
 injection a with _ a
 exact h a.symm
def Lg(a:gj):Bool:=decide (a.i=0)&&decide (a.o=0)
def RX(s:dx):Bool:=s.arcs.any Lg
theorem Py(M:bp):oP (gm M)=M.af.any RX:=by
 unfold oP;show(M.af.map Cc).any _=_;rw[List.any_map];congr 1;funext s;show((s.arcs.map Dn).any _)=_;rw[List.any_map];rfl
structure QI(h:ae)(M:bp)(x:Option Addr)(z N k kr q:Nat)(cur:Value)(ks cs:Nat->Nat)(R:LM)(g:ae):Prop where
 box:g.get k=some (.cells (bK M x N z) 29 0 true)
 out:g.get kr=some (.cells (ss N q ks cs cur) 107 1 true)
 row:∀a,a<q->VB g (ks a) (R.getD a [])
 new:h.next<=k/\h.next<=kr/\∀a,a<q->h.next<=ks a
 inj:∀a b,a<q->b<q->ks a=ks b->a=b
 ok:Ok h g
 len:R.length=q
 sq:∀a,a<q->VV M.kind N (R.getD a [])
section
variable {h:ae} {M:bp} {x:Option Addr} {z N k kr q kl:Nat} {cur:Value} {ks cs:Nat->Nat} {R:LM} {l:List (List UInt8)} {g g':ae}
theorem QI.mb(i:QI h M x z N k kr q cur ks cs R g)(r:dy h (.slice x N z) M.af):MB g k M x N z:=⟨i.box,r.ok i.ok⟩
theorem QI.sk(i:QI h M x z N k kr q cur ks cs R g)(o:Ok g g'):QI h M x z N k kr q cur ks cs R g':=⟨o.ext _ _ i.box,o.ext _ _ i.out,λa b=>o.ext _ _ (i.row a b),i.new,i.inj,i.ok.trans o,i.len,i.sq⟩
theorem QI.room(i:QI h M x z N k kr q cur ks cs R g)(n:Nat):QI h M x z N k kr q cur ks cs R (Go.Ab.room g n):=⟨i.box,i.out,i.row,i.new,i.inj,i.ok.room n,i.len,i.sq⟩
theorem QI.aeK(i:QI h M x z N k kr q cur ks cs R g)(w:Wf h)(y:Value)(l:dQ y=true)(j:y.cells = #[y])(d:q<N):∃u:dP,ah SS.P 107 (.pointer (some ⟨kr,q,none⟩)) y g=some (undef,u)/\QI h M x z N k kr q y ks cs R (u.app g)/\∀b B,g.get b=some B->b≠kr->(u.app g).get b=some B:=by
 refine⟨_,jf nE i.out (by rw[uf];exact d) l j,?_,λb B f c=>by show(g.set kr _).get b=_;rw[ae.aw,if_neg c];exact f⟩;rw[KE];refine⟨?_,by show(g.set kr _).get kr=_;rw[ae.aw,if_pos rfl],λa e=>?_,i.new,i.inj,i.ok.set _ i.new.2.1 (i.ok.wf _ _ i.out) w,i.len,i.sq⟩
 ·show(g.set kr _).get k=_;rw[ae.aw,if_neg (kx i.box i.out (by decide))];exact i.box
 ·have:=i.row a e;show(g.set kr _).get (ks a)=_;rw[ae.aw,if_neg (kx this i.out (by decide))];exact this
theorem QI.set(i:QI h M x z N k kr q cur ks cs R g)(w:Wf h)(c:VB g kl l)(e:h.next<=kl)(f:∀a,a<q->ks a≠kl)(b:List (List UInt8)):QI h M x z N k kr q cur ks cs R ((dP.set kl (.cells (eI b) 9 1 true)).app g)/\VB ((dP.set kl (.cells (eI b) 9 1 true)).app g) kl b:=by
 refine⟨⟨?_,?_,λa d=>?_,i.new,i.inj,i.ok.set _ e (i.ok.wf _ _ c) w,i.len,i.sq⟩,by show(g.set kl _).get kl=_;rw[ae.aw,if_pos rfl]⟩
 ·show(g.set kl _).get k=_;rw[ae.aw,if_neg (kx i.box c (by decide))];exact i.box
 ·show(g.set kl _).get kr=_;rw[ae.aw,if_neg (kx i.out c (by decide))];exact i.out
 ·have:=i.row a d;show(g.set kl _).get (ks a)=_;rw[ae.aw,if_neg (f a d)];exact this
theorem QI.next(i:QI h M x z N k kr q (vS kl N N) ks cs R g)(r:VB g kl l)(p:VV M.kind N l)(o:h.next<=kl)(m:∀a,a<q->ks a≠kl):QI h M x z N k kr (q+1) nA (λa=>if a=q then kl else ks a) (λa=>if a=q then N else cs a) (R++[l]) g:=by
 have e:∀a,a<q->(R++[l]).getD a []=R.getD a []:=λa j=>by
  rw[gD,List.getElem?_append_left (by rw[i.len];exact j),<-gD]
 have n:(R++[l]).getD q []=l:=by
  rw[gD,List.getElem?_append_right (by rw[i.len];exact Nat.le_refl _),i.len,Nat.sub_self];rfl
 refine⟨i.box,by rw[<-Gm];exact i.out,λa j=>?_,⟨i.new.1,i.new.2.1,λa j=>?_⟩,λa b j s f=>?_,i.ok,by rw[length_append,i.len];rfl,λa j=>?_⟩
 ·by_cases c:a=q
  ·subst c;rw[n,if_pos rfl];exact r
  ·rw[if_neg c,e a (by omega)];exact i.row a (by omega)
 ·by_cases c:a=q
  ·rw[if_pos c];exact o
  ·rw[if_neg c];exact i.new.2.2 a (by omega)
 ·by_cases c:a=q<;>by_cases d:b=q
  ·omega
  ·rw[if_pos c,if_neg d]at f;exact absurd f.symm (m b (by omega))
  ·rw[if_neg c,if_pos d]at f;exact absurd f (m a (by omega))
  ·rw[if_neg c,if_neg d]at f;exact i.inj a b (by omega) (by omega) f
 ·by_cases c:a=q
  ·subst c;rw[n];exact p
  ·rw[e a (by omega)];exact i.sq a (by omega)
theorem QI.mtx(i:QI h M x z N k kr N cur ks cs R g):s7 107 g kr ks cs R/\Sq M.kind N R:=by
 refine⟨⟨?_,λa c=>i.row a (by rw[<-i.len];exact c),λa c=>?_,λa b c d=>i.inj a b (by rw[<-i.len];exact c) (by rw[<-i.len];exact d)⟩,i.len,λa c=>(i.sq a c).len,λa b c d=>(i.sq a c).val b d⟩
 ·rw[i.out,i.len];congr 2;unfold ss;refine map_congr_left λa c=>?_;have c:=List.mem_range.1 c;rw[if_pos c,(i.sq a c).len]
 ·exact kx (i.row a (by rw[<-i.len];exact c)) i.out (by decide)
end
def afe(h:ae)(M:bp)(o:Option (Option LM)):VH:=λv g=>Ok h g/\match o with
 |none=>v = .tuple ⟨[nA,.int .i64 2]⟩
 |some none=>v = .tuple ⟨[nA,.int .i64 0]⟩
 |some (some B)=>∃(a:Addr)(d:Nat),v = .tuple ⟨[.slice (some a) M.af.length d,.int .i64 0]⟩/\Mf 107 g (.slice (some a) M.af.length d) B/\Sq M.kind M.af.length B
theorem Z5{h:ae}{M:bp}{x:Option Addr}{z:Nat}(w:Wf h)(K:Pf M)(r:dy h (.slice x n z) M.af):FW SS 73 [.agg ⟨bK M x n z⟩,.bool false] h (afe h M (dW (aY M.kind) (gm M))):=by
 obtain⟨W,P⟩:=fv w r;obtain rfl:n=M.af.length:=W.len;have hn:=K.n;obtain⟨N,hN⟩:∃N,N=M.af.length:=⟨_,rfl⟩
 refine Z4 (bK M x M.af.length z) h _ ⟨_,iS M x _ z,_,cZ _,_,_,_,W.l3,_,_,_,UK _ (by omega),?_⟩;generalize h.push (Bm M x M.af.length z)=C at*;have k1:=aO C (.cells (List.replicate M.af.length nA) 107 1 true);have o1:=(Ok.refl P.wf).push (.cells (List.replicate M.af.length nA) 107 1 true);obtain⟨G,hG⟩:∃G,G=dW (aY M.kind) (gm M):=⟨_,rfl⟩
 obtain⟨L,Q⟩:∃L,L=bg (gT (aY M.kind) (gm M)) M.af.length 0 []:=⟨_,rfl⟩
 have z0:L=none->G=none:=λe=>by
  rw[hG];unfold dW;rw[Dr,<-Q,e]
 have S:∀A,L=some A->G=if M.af.any RX=true then(if 60<M.af.length then none else match jU (aY M.kind) A with|none=>none|some B=>some (some B))else some none:=λA e=>by
  rw[hG];unfold dW;rw[Dr,<-Q,e,Py];dsimp only
  cases jU (aY M.kind) A<;>rfl
 rw[<-hG];have i0:QI h M x z M.af.length h.next C.next 0 nA (λ_=>0) (λ_=>0) [] (C.push (.cells (List.replicate M.af.length nA) 107 1 true)):=by
  refine⟨o1.ext _ _ W.box,?_,λa t=>by omega,⟨Nat.le_refl _,P.nx,λa t=>by omega⟩,λa b t=>by omega,P.trans o1,rfl,λa t=>by omega⟩;rw[k1];congr 2;unfold ss;refine ext_getElem (by simp) λa h1 h2=>?_;simp
 refine B0 (bK M x M.af.length z) h.next C.next M.af.length (λmz q an g=>q<=M.af.length/\mz=M.af.length-q/\(an||(M.af.drop q).any RX)=M.af.any RX/\∃ks cs R,QI h M x z M.af.length h.next C.next q nA ks cs R g/\bg (gT (aY M.kind) (gm M)) (M.af.length-q) q R=L) _ (λmz q an=>?_) M.af.length (q:=0) (an:=false) ⟨by omega,rfl,by rw[drop_zero,Bool.false_or],_,_,_,i0,by rw[Q,sub_zero]⟩;intros;rename_i g y7;obtain⟨f1,f2,t,ks,cs,R,k,Y⟩:=y7;refine aa (λq1=>?_) (λq1=>?_)
 ·have p:q<M.af.length:=by have:=dT q1;omega
  obtain⟨s,hs⟩:∃s,M.af[q]?=some s:=⟨_,gE p⟩
  have x0:=List.mem_of_getElem? hs;rw[fM hs,List.any_cons]at t;rw[fo _ p]at Y;have hc:gT (aY M.kind) (gm M) R q=match bg (ff (aY M.kind) (Cc s).arcs) s.arcs.length 0 (bw (aY M.kind) M.af.length)with|none=>none|some r=>some (R++[r]):=by
   unfold gT;rw[T9 hs,Uc,Dr]
   cases bg (ff (aY M.kind) (Cc s).arcs) s.arcs.length 0 (bw (aY M.kind) M.af.length)<;>rfl
  rw[hc]at Y;refine⟨_,(k.mb r).all,(vw k.ok.wf K (r.ok k.ok)).mono ?_⟩;rintro _ g1 ⟨kl,rfl,x2,nl,o2⟩;have x5:=k.sk o2;have x6:h.next<=kl:=Nat.le_trans k.ok.nx nl;have hk:∀a,a<q->ks a≠kl:=λa t=>by have:=k.ok.wf _ _ (k.row a t);omega
  obtain⟨u,st,z4,kp⟩:=x5.aeK w (vS kl M.af.length M.af.length) rfl rfl p;have z5:=kp _ _ x2 (λe=>kx x2 x5.out (by decide) e);refine⟨_,_,_,rfl,_,Dv nX nE p,u,st,?_⟩;generalize u.app g1=g2 at*;refine B1 (bK M x M.af.length z) h.next C.next M.af.length _ mz q (λx3 j an g=>j<=s.arcs.length/\x3=s.arcs.length-j/\(an||((s.arcs.drop j).any Lg||(M.af.drop (q+1)).any RX))=M.af.any RX/\∃l,QI h M x z M.af.length h.next C.next q (vS kl M.af.length M.af.length) ks cs R g/\VB g kl l/\VV M.kind M.af.length l/\(match bg (ff (aY M.kind) (Cc s).arcs) (s.arcs.length-j) j l with|none=>none|some r=>bg (gT (aY M.kind) (gm M)) (M.af.length-(q+1)) (q+1) (R++[r]))=L) _ (λx3 j an=>?_) s.arcs.length (j:=0) (an:=an) ⟨by omega,rfl,by rw[drop_zero];exact t,_,z4,z5,VV.Pd K.kind _,?_⟩
  ·intros;rename_i g3 y5;obtain⟨d1,d2,i,l,J,y2,m,f⟩:=y5;have X:=J.mb r;obtain⟨b,o,xa,ya,za,u1,u2,u3,u4,ar⟩:=X.row.at_ hs;have hm:=ar.len;subst hm;have z7:=K.m s x0;refine⟨_,cZ _,_,_,_,X.l3,_,u1,_,iG _ _,_,_,_,u4,aa (λE=>?_) (λE=>?_)⟩
   ·have hj:j<s.arcs.length:=by have:=dT E;omega
    obtain⟨d,I⟩:∃d,s.arcs[j]?=some d:=⟨_,gE hj⟩
    obtain⟨b2,z8,v1,v2,v3,v4,v5,v6⟩:=ar.at_ I;obtain⟨uu,p1,p2,p3⟩:=KI J.ok.wf d;have F:=J.sk p2;have V:VB _ kl l:=p2.ext _ _ y2;have hw:=K.arc s x0 d (List.mem_of_getElem? I);rw[fM I,List.any_cons]at i;rw[fo _ hj]at f;have O:d.t.toNat<M.af.length:=by omega
    have et:d.t=((d.t.toNat:Nat):Int):=by omega
    have z1:ff (aY M.kind) (Cc s).arcs l j=if d.i≠0\/d.o≠0 then some l else match eM M.kind (l.getD d.t.toNat []) d.w with|none=>none|some x=>some (l.set d.t.toNat x):=by
     unfold ff;rw[aaz I];have e1:(Dn d).t=d.t.toNat:=rfl;have e2:(Dn d).i=d.i:=rfl;have e3:(Dn d).o=d.o:=rfl;have e4:(Dn d).w=d.w:=rfl;rw[e1,e2,e3,e4,m.at_ O (aY M.kind).zero];have e5:(aY M.kind).plus (l.getD d.t.toNat []) d.w=eM M.kind (l.getD d.t.toNat []) d.w:=rfl;rw[e5]
     cases eM M.kind (l.getD d.t.toNat []) d.w<;>rfl
    rw[z1]at f;rw[aP hj (by omega)];refine⟨_,cZ _,_,_,_,X.l3,_,u1,_,iG _ _,_,_,_,u4,_,v1,_,v2,_,SZ,uu,p1,?_⟩;generalize uu.app (g3.push Pe)=g4 at*;refine⟨_,Ac _ _,_,p3.l0,aa (λy=>?_) (λy=>⟨_,Ad _ _,_,p3.l1,aa (λD=>?_) (λD=>?_)⟩)⟩
    ·have y:d.i≠0:=by simpa using y
     rw[if_pos (.inl y)]at f;have e:Lg d=false:=by unfold Lg;simp[y]
     rw[e,Bool.false_or]at i;exact gY (s.arcs.length-(j+1)) (by omega) ⟨by omega,rfl,i,l,F,V,m,f⟩
    ·have D:d.o≠0:=by simpa using D
     rw[if_pos (.inr D)]at f;have e:Lg d=false:=by unfold Lg;simp[D]
     rw[e,Bool.false_or]at i;exact gY (s.arcs.length-(j+1)) (by omega) ⟨by omega,rfl,i,l,F,V,m,f⟩
    ·have y:d.i=0:=by simpa using y
     have D:d.o=0:=by simpa using D
     rw[if_neg (by rintro(h|h)<;>exact h (by first|exact y|exact D))]at f;have e:Lg d=true:=by unfold Lg;simp[y,D]
     rw[e]at i;simp only[Bool.true_or,Bool.or_true]at i;have H:=F.room 18;have x9:VB (Go.Ab.room g4 18) kl l:=V;have z6:aj SS.P 107 (Go.Ab.room g4 18) (.pointer (some ⟨C.next,q,none⟩))=some (vS kl M.af.length M.af.length):=by rw[cq Eb Jw H.out (by rw[uf];exact p),DO p]
     have U:=p3.ok ((Ok.refl F.ok.wf).room 18);have y1:=U.l3;rw[et]at y1;have x1:=m.val _ O;refine⟨_,du _,_,(H.mb r).l0,_,Dv nX nE p,_,_,_,z6,_,rW _ _,_,y1,_,VB.ix ty O,_,x9.ld ty (by rw[m.len];exact O),_,Dg _ _,_,U.l2,(qZ x1 hw.1 H.ok.wf).mono ?_⟩;rintro _ g6 ⟨rfl,o6⟩;have y0:=H.sk o6;have z3:VB g6 kl l:=o6.ext _ _ x9
     cases e6:eM M.kind (l.getD d.t.toNat []) d.w with
     |none=>
      rw[e6]at f;exact⟨_,_,rfl,aa (λ_=>⟨y0.ok,by rw[z0 f.symm]⟩) (λe=>by cases e)⟩
     |some sv=>
      rw[e6]at f;have y3:=y0.room 9;have x8:VB (Go.Ab.room g6 9) kl l:=z3;have y6:aj SS.P 107 (Go.Ab.room g6 9) (.pointer (some ⟨C.next,q,none⟩))=some (vS kl M.af.length M.af.length):=by rw[cq Eb Jw y3.out (by rw[uf];exact p),DO p]
      have y4:=(U.ok (o6.trans ((Ok.refl o6.wf).room 9))).l3;rw[et]at y4;obtain⟨y8,y9⟩:=y3.set w x8 x6 hk (l.set d.t.toNat sv);refine⟨_,_,rfl,aa (λe=>by cases e) (λ_=>⟨_,Dv nX nE p,_,_,_,y6,_,rW _ _,_,y4,_,VB.ix ty O,_,x8.st ty (by rw[m.len];exact O) _,?_⟩)⟩;exact gY (s.arcs.length-(j+1)) (by omega) ⟨by omega,rfl,by rw[Bool.true_or];exact i,_,y8,y9,m.set (yz x1 hw.1 e6),f⟩
   ·obtain rfl:j=s.arcs.length:=by have:=dF E;omega
    rw[iM]at f;rw[drop_eq_nil_of_le (Nat.le_refl _)]at i;rw[aP p (by omega)];exact gY (M.af.length-(q+1)) (by omega) ⟨by omega,rfl,by rw[<-i];rfl,_,_,_,J.next y2 m x6 hk,f⟩
  ·rw[sub_zero,<-Y]
   cases bg (ff (aY M.kind) (Cc s).arcs) s.arcs.length 0 (bw (aY M.kind) M.af.length)<;>rfl
 ·obtain rfl:q=M.af.length:=by have:=dF q1;omega
  rw[iM]at Y;have S:=S R Y.symm;rw[drop_eq_nil_of_le (Nat.le_refl _),List.any_nil,Bool.or_false]at t;rw[S,<-t];refine aa (λT=>?_) (λT=>?_)
  ·rw[not_eq_true']at T;rw[T];exact⟨k.ok,rfl⟩
  ·rw[not_eq_false']at T;rw[T,if_pos rfl];refine aa (λE=>?_) (λE=>?_)
   ·rw[if_pos (by have:=dT E;omega)];exact⟨k.ok,rfl⟩
   ·have x7:¬60<M.af.length:=by have:=dF E;omega
    rw[if_neg x7];obtain⟨mm,sq⟩:=k.mtx;have rm:=mm.rdM M.af.length;rw[sq.len]at rm;have x4:=Rc k.ok.wf K.kind (by omega) rm sq;rw[if_neg x7]at x4;refine⟨_,du _,_,(k.mb r).l0,x4.mono ?_⟩;rintro v g2 ⟨o2,Z⟩
    cases e:jU (aY M.kind) R with
    |none=>
     rw[e]at Z;subst Z;exact⟨_,_,_,_,rfl,k.ok.trans o2,rfl⟩
    |some B=>
     rw[e]at Z;obtain⟨a,c,rfl,z2,rd,sB⟩:=Z
     cases a with
     |none=>exact absurd rfl z2
     |some ps=>exact⟨_,_,_,_,rfl,k.ok.trans o2,ps,c,rfl,rd,sB⟩
end
noncomputable def Tl:FD:=cF Tryz.f42 []
theorem PG(g:Int)(h:ae)(Q:VH)(i:FW SS 70 [(.int .i64 g)] h λe f=>yS e λd=>xA (bd SS.P 29 [(0,(.int .i64 g)),(2,(strOf d))]) λc=>xA (bd SS.P 65 [(0,(.agg ⟨c⟩)),(1,(strOf d))]) λb=>xN (eL SS.P 65 (.agg ⟨b⟩)) f λ_ a=>Q (pA (f.next)) a):FW SS 42 [(.int .i64 g)] h Q:=cI Tl Tryz.func42 (ai i)
noncomputable def Tm:FD:=cF Tryz.f43 []
theorem PH(k:Nat)(f:LB)(h:ae)(Q:VH)(u:fP 65 (pA k) 0 λt=>fP 29 (.pointer (some t)) 3 λs=>lL 27 h s λp q r=>xA (bd SS.P 73 [(0,(strOf f))]) λo=>xR (aI SS.P 27 1 [(0,(.agg ⟨o⟩))]) h λ_ l m n=>xE (bH SS.P 27 27 (.slice p q r) (sA (h.next) l m) n) n λg h i _ j=>fP 65 (pA k) 0 λf=>fP 29 (.pointer (some f)) 3 λe=>xU (ah SS.P 27 (.pointer (some e)) (.slice g h i) j) j λ_ d=>fP 65 (pA k) 0 λc=>fP 29 (.pointer (some c)) 3 λb=>lL 27 d b λ_ a _=>Q (.int .i64 (wrap .i64 ((a:Int)-1))) d):FW SS 43 [(pA k),(strOf f)] h Q:=cI Tm Tryz.func43 (ai u)
noncomputable def aa8:FD:=cF Tryz.f44 []
theorem XT(k:Nat)(s:Int)(C:LV)(h:ae)(Q:VH)(F:xN (eL SS.P 70 (.agg ⟨C⟩)) h λ_ B=>fP 65 (pA k) 2 λG=>lI B G λH=>fP 65 (pA k) 2 λE=>xU (ah SS.P 3 (.pointer (some E)) (.int .i64 (wrap .i64 (H+1))) B) B λ_ A=>fP 65 (pA k) 0 λD=>fP 29 (.pointer (some D)) 3 λz=>lL 27 (room A 21) z λw x y=>fP 65 (pA k) 0 λv=>fP 29 (.pointer (some v)) 3 λu=>lL 27 (room A 21) u λq r t=>iP 27 (.slice q r t) (.int .i64 s) λp=>fP 73 (.pointer (some p)) 1 λo=>lL 71 (room A 21) o λl m n=>lA 70 (room A 21) (pA (h.next)) λk=>zR (aI SS.P 71 1 [(0,(.agg ⟨k⟩))]) λh i j=>xE (bH SS.P 71 71 (.slice l m n) (sA (A.next+16) i j) (cj (room A 21) A.next [(16,h)])) (cj (room A 21) A.next [(16,h)]) λd e f _ g=>iP 27 (.slice w x y) (.int .i64 s) λc=>fP 73 (.pointer (some c)) 1 λb=>xU (ah SS.P 71 (.pointer (some b)) (.slice d e f) g) g λ_ a=>(aj SS.P 27 g (.pointer (some z))=some (.slice w x y)/\dG 4 (.slice w x y) (.slice w x y)=true)/\Q (.tuple ⟨[]⟩) a):FW SS 44 [(pA k),(.int .i64 s),(.agg ⟨C⟩)] h Q:=cI aa8 Tryz.func44 (ai F)
noncomputable def aba:FD:=cF Tryz.f58 []
theorem X6(k:Nat)(s:Int)(w:LB)(t:Int)(h:ae)(Q:VH)(d:xA (bd SS.P 70 [(2,(strOf w)),(3,(.int .i64 t))]) λc=>FW SS 44 [(pA k),(.int .i64 s),(.agg ⟨c⟩)] h λa b=>a=(.tuple ⟨[]⟩)/\Q (.tuple ⟨[]⟩) b):FW SS 58 [(pA k),(.int .i64 s),(strOf w),(.int .i64 t)] h Q:=cI aba Tryz.func58 (ai d)
noncomputable def Tn:FD:=cF Tryz.f63 []
theorem PJ(k:Nat)(a b:LB)(h:ae)(Q:VH)(l:fP 65 (pA k) 0 λj=>fP 29 (.pointer (some j)) 0 λi=>lI h i λg=>FW SS 86 [(.int .i64 g),(strOf a),(strOf b)] h λe f=>∃d:LB,∃c:Int,e=(.tuple ⟨[(strOf d),(.int .i64 c)]⟩)/\au (((c:Int) !=0)) (fP 65 (pA k) 3 λb=>xU (ah SS.P 30 (.pointer (some b)) (.int .i64 c) f) f λ_ a=>Q (strOf d) a) (Q (strOf d) f)):FW SS 63 [(pA k),(strOf a),(strOf b)] h Q:=cI Tn Tryz.func63 (ai l)
noncomputable def X5:FD:=cF Tryz.f64 []
theorem Ti(k:Nat)(t:Int)(h:ae)(Q:VH)(c:xN (eL SS.P 62 (pA k)) h λ_ b=>xN (eL SS.P 3 (.int .i64 t)) b λ_ a=>Q (.func (.func 87) ⟨[]⟩ ⟨[(pA (h.next)),(pA (b.next))]⟩) a):FW SS 64 [(pA k),(.int .i64 t)] h Q:=cI X5 Tryz.func64 (ai c)
noncomputable def Th:FD:=cF Tryz.f87 []
theorem PD(s:Int)(f:LB)(q r:Nat)(h:ae)(Q:VH)(t:xO (aj SS.P 62 h (pA q)) λp=>IV SS.P p h λn o=>fP 65 n 0 λm=>fP 29 (.pointer (some m)) 3 λl=>lL 27 o l λi j k=>iP 27 (.slice i j k) (.int .i64 s) λh=>fP 73 (.pointer (some h)) 0 λg=>xU (ah SS.P 9 (.pointer (some g)) (strOf []) o) o λ_ e=>xO (aj SS.P 62 e (pA q)) λd=>xI .i64 (aj SS.P 3 e (pA r)) λc=>FW SS 58 [(.pointer d),(.int .i64 s),(strOf f),(.int .i64 c)] e λa b=>a=(.tuple ⟨[]⟩)/\Q (.tuple ⟨[]⟩) b):FW SS 87 [(.int .i64 s),(strOf f),(pA q),(pA r)] h Q:=cI Th Tryz.func87 (ai t)
noncomputable def XW:FD:=cF Tryz.f60 []
theorem Te(s:Int)(f:LB)(h:ae)(Q:VH)(a:Q (.tuple ⟨[]⟩) h):FW SS 60 [(.int .i64 s),(strOf f)] h Q:=cI XW Tryz.func60 (ai a)
noncomputable def XV:FD:=cF Tryz.f46 []
theorem Tc(k:Nat)(h:ae)(Q:VH)(n:xN (br SS.P 29) h λ_ m=>fP 65 (pA k) 3 λl=>xI .i64 (aj SS.P 30 m (.pointer (some l))) λj=>au (((j:Int) !=0)) (xA (bd SS.P 29 []) λb=>xU (ah SS.P 29 (pA (h.next)) (.agg ⟨b⟩) m) m λ_ a=>ef SS [((pA (h.next)),some 29),((.int .i64 2),none)] a Q) (fP 65 (pA k) 0 λi=>fP 29 (.pointer (some i)) 3 λg=>lL 27 m g λ_ f _=>au (decide (((f:Int):Int)>3000)) (xA (bd SS.P 29 []) λb=>xU (ah SS.P 29 (pA (h.next)) (.agg ⟨b⟩) m) m λ_ a=>ef SS [((pA (h.next)),some 29),((.int .i64 2),none)] a Q) (fP 65 (pA k) 2 λe=>lI m e λd=>au (decide ((d:Int)>30000)) (xA (bd SS.P 29 []) λb=>xU (ah SS.P 29 (pA (h.next)) (.agg ⟨b⟩) m) m λ_ a=>ef SS [((pA (h.next)),some 29),((.int .i64 2),none)] a Q) (fP 65 (pA k) 0 λc=>lA 29 m (.pointer (some c)) λb=>xU (ah SS.P 29 (pA (h.next)) (.agg ⟨b⟩) m) m λ_ a=>ef SS [((pA (h.next)),some 29),((.int .i64 0),none)] a Q)))):FW SS 46 [(pA k)] h Q:=cI XV Tryz.func46 (ai n)
noncomputable def abb:FD:=cF Tryz.f51 []
theorem X8(s:Int)(h:ae)(Q:VH)(a:au (decide ((s:Int)>=1)) (Q (.bool (decide ((s:Int)<=500))) h) (Q (.bool false) h)):FW SS 51 [(.int .i64 s)] h Q:=cI abb Tryz.func51 (ai a)
noncomputable def ac0:FD:=cF Tryz.f45 []
theorem aa9(d:OA)(c e:Nat)(i:Nat)(h:ae)(Q:VH)(f:au (decide (((i:Int):Int)<(c:Int))) (iP 22 (.slice d c e) (iA i) λb=>lI h b λa=>Q (.int .i64 a) h) (Q (.int .i64 0) h)):FW SS 45 [(.slice d c e),(iA i)] h Q:=cI ac0 Tryz.func45 (ai f)
noncomputable def To:FD:=cF Tryz.f68 []
theorem PM(s:Int)(h:ae)(Q:VH)(d:FW SS 51 [(.int .i64 s)] h λb c=>yB b λa=>Q (.bool (!a)) c):FW SS 68 [(.int .i64 s)] h Q:=cI To Tryz.func68 (ai d)
noncomputable def XX:FD:=cF Tryz.f50 []
theorem Tf(s:Int)(h:ae)(Q:VH)(d:FW SS 51 [(.int .i64 s)] h λb c=>yB b λa=>Q (.bool (!a)) c):FW SS 50 [(.int .i64 s)] h Q:=cI XX Tryz.func50 (ai d)
noncomputable def r6:FD:=cF Tryz.f79 [([1,0,1,0,0],[0,1,7,8])]
abbrev m8(b:OA)(a c:Nat)(i:Nat):LV:=[(.slice b a c),(.func (.func 68) ⟨[]⟩ ⟨[]⟩),(iA a),(iA i)]
theorem Uh(a:OA)(c b:Nat)(h:ae)(Q:VH)(d:LL SS r6 [1,0,1,0,0] (m8 a c b 0) h (KK SS r6 [1,0,1,0] [] (EE SS r6 Q))):FW SS 79 [(.slice a c b),(.func (.func 68) ⟨[]⟩ ⟨[]⟩)] h Q:=cI r6 Tryz.func79 (ai d)
theorem Ag(k:OA)(g l:Nat)  (j:Nat->Nat->ae->Prop) (Q:VH) (step:∀(f:Nat)(i:Nat)(n:Nat->Value)(h:ae),j f i h->au (decide (((i:Int):Int)<(g:Int))) (iP 22 (.slice k g l) (iA i) λe=>lI h e λd=>FW SS 68 [(.int .i64 d)] h λb c=>yB b λa=>au a (Q (iA i) c) (aJ (fs (m8 k g l) j) f [(.slice k g l),(.func (.func 68) ⟨[]⟩ ⟨[]⟩),(iA g),(.int .i64 (wrap .i64 ((i:Int)+1)))] c)) (Q (.int .i64 (-1)) h)) (f:Nat) {i:Nat} {h:ae} (m:j f i h):LL SS r6 [1,0,1,0,0] (m8 k g l i) h (KK SS r6 [1,0,1,0] [] (EE SS r6 Q)):=
 dc (m8 k g l) j (λf i n h m=>ai (step f i n h m)) f m
noncomputable def TG:FD:=cF Tryz.f49 []
theorem PZ(d:OA)(f e:Nat)(h:ae)(Q:VH)(g:FW SS 79 [(.slice d f e),(.func (.func 68) ⟨[]⟩ ⟨[]⟩)] h λb c=>yI .i64 b λa=>Q (.bool (decide ((a:Int)>=0))) c):FW SS 49 [(.slice d f e),(.func (.func 68) ⟨[]⟩ ⟨[]⟩)] h Q:=cI TG Tryz.func49 (ai g)
noncomputable def r5:FD:=cF Tryz.f79 [([1,0,1,0,0],[0,1,7,8])]
abbrev m7(b:OA)(a c:Nat)(i:Nat):LV:=[(.slice b a c),(.func (.func 50) ⟨[]⟩ ⟨[]⟩),(iA a),(iA i)]
theorem Ug(a:OA)(c b:Nat)(h:ae)(Q:VH)(d:LL SS r5 [1,0,1,0,0] (m7 a c b 0) h (KK SS r5 [1,0,1,0] [] (EE SS r5 Q))):FW SS 79 [(.slice a c b),(.func (.func 50) ⟨[]⟩ ⟨[]⟩)] h Q:=cI r5 Tryz.func79 (ai d)
theorem Af(k:OA)(g l:Nat)  (j:Nat->Nat->ae->Prop) (Q:VH) (step:∀(f:Nat)(i:Nat)(n:Nat->Value)(h:ae),j f i h->au (decide (((i:Int):Int)<(g:Int))) (iP 22 (.slice k g l) (iA i) λe=>lI h e λd=>FW SS 50 [(.int .i64 d)] h λb c=>yB b λa=>au a (Q (iA i) c) (aJ (fs (m7 k g l) j) f [(.slice k g l),(.func (.func 50) ⟨[]⟩ ⟨[]⟩),(iA g),(.int .i64 (wrap .i64 ((i:Int)+1)))] c)) (Q (.int .i64 (-1)) h)) (f:Nat) {i:Nat} {h:ae} (m:j f i h):LL SS r5 [1,0,1,0,0] (m7 k g l i) h (KK SS r5 [1,0,1,0] [] (EE SS r5 Q)):=
 dc (m7 k g l) j (λf i n h m=>ai (step f i n h m)) f m
noncomputable def TF:FD:=cF Tryz.f49 []
theorem PY(d:OA)(f e:Nat)(h:ae)(Q:VH)(g:FW SS 79 [(.slice d f e),(.func (.func 50) ⟨[]⟩ ⟨[]⟩)] h λb c=>yI .i64 b λa=>Q (.bool (decide ((a:Int)>=0))) c):FW SS 49 [(.slice d f e),(.func (.func 50) ⟨[]⟩ ⟨[]⟩)] h Q:=cI TF Tryz.func49 (ai g)
noncomputable def Tp:FD:=cF Tryz.f40 []
theorem PO(e:OA)(d f:Nat)(h:ae)(Q:VH)(g:au (decide (((d:Int):Int)<=200)) (FW SS 49 [(.slice e d f),(.func (.func 68) ⟨[]⟩ ⟨[]⟩)] h λb c=>yB b λa=>Q (.bool (!a)) c) (Q (.bool false) h)):FW SS 40 [(.slice e d f)] h Q:=cI Tp Tryz.func40 (ai g)
noncomputable def abc:FD:=cF Tryz.f57 []
theorem X9(q p:LV)(h:ae)(Q:VH)(r:xN (eL SS.P 29 (.agg ⟨q⟩)) h λ_ o=>xN (eL SS.P 29 (.agg ⟨p⟩)) o λ_ n=>lA 29 n (pA (h.next)) λm=>FW SS 66 [(.agg ⟨m⟩)] n λk l=>yB k λj=>au (!j) (Q (.int .i64 1) l) (lA 29 l (pA (o.next)) λi=>FW SS 66 [(.agg ⟨i⟩)] l λf g=>yB f λe=>au (!e) (Q (.int .i64 1) g) (fP 29 (pA (h.next)) 0 λd=>lI g d λc=>fP 29 (pA (o.next)) 0 λb=>lI g b λa=>au (((c:Int) !=a)) (Q (.int .i64 6) g) (Q (.int .i64 0) g)))):FW SS 57 [(.agg ⟨q⟩),(.agg ⟨p⟩)] h Q:=cI abc Tryz.func57 (ai r)
variable{h:ae}{T:TypeId}{v:Value}{L:List (List Value)}
section
theorem ot{f:ae}(o:fp f h T n v L){k:Nat}(a:fh v=some k):∃cs,h.get k=some (.cells cs T n true):=by
 obtain⟨_,⟨b,_⟩|⟨d,g,cs,c,b,i,e,_⟩⟩:=o
 ·rw[b]at a;cases a
 ·rw[b]at a;obtain rfl:d=k:=oI a;exact⟨cs,e⟩
theorem ko.other{hb g:ae}{r:List (dx×Value)}(m:ko hb g v r){k:Nat}{cs:List Value}{e z:Nat}{w:Bool}(y:g.get k=some (.cells cs e z w))(t:¬(e=73/\z=2))(u:¬(e=70/\z=4))(B:dV):ko hb (g.set k B) v r:=by
 have d:∀{b a:Nat}{j:Value}{f:List (List Value)},fp hb g b a j f->¬(e=b/\z=a)->fp hb (g.set k B) b a j f:=λ{b a j f} o q=>o.kL λD E l n=>by
  rw[ae.aw,if_neg ?_]
  ·exact n
  ·intro c;obtain⟨C,h⟩:=ot o l;rw[c,y]at h;injection h with h
   injection h with _ s x
   exact q ⟨s,x⟩
 exact⟨d m.row t,λi p A=>d (m.arcs i p A) u,m.ne,m.dis⟩
def Kp(g a:ae):Prop:=g.next<=a.next/\∀(j:Nat)(cs:List Value)(e z:Nat)(w:Bool),g.get j=some (.cells cs e z w)->¬(e=65/\z=0)->¬(e=73/\z=2)->¬(e=70/\z=4)->a.get j=some (.cells cs e z w)
theorem Kp.refl(g:ae):Kp g g:=⟨Nat.le_refl _,λ_ _ _ _ _ h _ _ _=>h⟩
theorem Kp.trans{g c d:ae}(a:Kp g c)(b:Kp c d):Kp g d:=⟨Nat.le_trans a.1 b.1,λj cs e z w h i k f=>b.2 j cs e z w (a.2 j cs e z w h i k f) i k f⟩
theorem M4{g a:ae}(o:Ok g a):Kp g a:=⟨o.nx,λj cs e z w h _ _ _=>o.ext _ _ h⟩
def N8(kind start:Int)(lead:List UInt8)(a:Option Addr)(n c:Nat)(na:Nat):List Value:=[.int .i64 kind,.int .i64 start,strOf lead,.slice a n c,strOf (df kind),.int .i64 (na:Int),.int .i64 0]
structure BU(hb g:ae)(k:Nat)(kind start:Int)(lead:List UInt8)(bJ:List dx)(na:Nat):Prop where
 ex:∃(a:Option Addr)(n c:Nat)(ps:List (dx×Value)),g.get k=some (.cells (N8 kind start lead a n c na) 65 0 true)/\ps.map (·.1)=bJ/\ko hb g (.slice a n c) ps
 ok:Ok hb g
 nk:hb.next<=k
theorem ZU(k o n c:Nat):dG 4 (.slice (some ⟨k,o,none⟩) n c) (.slice (some ⟨k,o,none⟩) n c)=true:=by simp[dG]
theorem kz(k:Nat):aE SS.P 65 (pA k) 0=some (.pointer (some ⟨k,0,none⟩)):=by kernel_rfl
theorem Aa(k:Nat):aE SS.P 65 (pA k) 1=some (.pointer (some ⟨k,4,none⟩)):=by kernel_rfl
theorem My(k:Nat):aE SS.P 65 (pA k) 2=some (.pointer (some ⟨k,5,none⟩)):=by kernel_rfl
theorem abp(k:Nat):aE SS.P 65 (pA k) 3=some (.pointer (some ⟨k,6,none⟩)):=by kernel_rfl
theorem aeC(f:List UInt8):bd SS.P 73 [(0,strOf f)]=some (.agg ⟨[strOf f,nA]⟩):=by kernel_rfl
theorem afn:aG SS.P 27=some 1:=by kernel_rfl
theorem zs3:aG SS.P 3=some 1:=by kernel_rfl
theorem fA(kind start:Int)(lead:List UInt8)(a:Option Addr)(n c na:Nat):(N8 kind start lead a n c na).length=7:=rfl
theorem AW(n:Nat)(a:n<=1000000000):wrap .i64 (((n+1:Nat):Int)-1)=((n:Nat):Int):=by rw[aB (by omega) (by omega)];omega
section
variable {hb g:ae} {k:Nat} {kind start:Int} {lead:List UInt8} {bJ:List dx} {na:Nat}
theorem BU.sk(b:BU hb g k kind start lead bJ na)(o:Ok g h):BU hb h k kind start lead bJ na:=by
 obtain⟨a,n,c,i,e,f,d⟩:=b.ex;exact⟨⟨a,n,c,i,o.ext _ _ e,f,d.ok o⟩,b.ok.trans o,b.nk⟩
theorem PI(w:Wf hb)(b:BU hb g k kind start lead bJ na)(hl:bJ.length<=100000)(f:List UInt8):FW SS 43 [pA k,strOf f] g (λv I=>v = .int .i64 (bJ.length:Nat)/\BU hb I k kind start lead (bJ++[⟨f,[]⟩]) na/\Kp g I):=by
 obtain⟨a,n,c,T,N,t,W⟩:=b.ex;have D:T.length=bJ.length:=by rw[<-t,lM]
 have r:=(Ok.refl b.ok.wf).push (.cells [strOf f,.slice none 0 0] 73 2 true);have J:=b.ok.push (.cells [strOf f,.slice none 0 0] 73 2 true);have y:=r.ext _ _ N;have q:=W.ok r;obtain⟨m,d,o,u,R,s,x,B,X,Y⟩:=q.snoc w J (f:=f) (arcs:=[]) (fp.nil hb _ 70 4) (λk' e=>by cases e) (aO g _) (by omega);have M:fh (.slice a n c)≠some k:=λe=>by
  obtain⟨cs,h⟩:=ot q.row e;rw[y]at h;injection h with h
  injection h with _ h
  exact absurd h (by decide)
 have p:=B _ _ y M;generalize L:u.app (g.push (.cells [strOf f,.slice none 0 0] 73 2 true))=F at*;have O:=s.other p (by omega) (by omega) (.cells (N8 kind start lead m d o na) 65 0 true);have C:(F.set k (.cells (N8 kind start lead m d o na) 65 0 true)).get k=some (.cells (N8 kind start lead m d o na) 65 0 true):=by rw[ae.aw,if_pos rfl]
 have K:d=bJ.length+1:=by
  have:=s.st.len;rw[lM,length_append,D]at this;exact this
 have S:=jf afn p (i:=3) (by simp[fA]) (v:= .slice m d o) (D7 _ _ _) (by cases m<;>rfl);have V:=cq AA E3 C (i:=3) (by simp[fA]);refine PH k f g _ ⟨_,kz k,_,cZ k,a,n,c,cq AA E3 N (i:=3) (by simp[fA]),_,aeC f,_,_,_,aew f none 0 0,m,d,o,u,R,?_⟩;rw[L];refine⟨_,kz k,_,cZ k,_,S,_,kz k,_,cZ k,m,d,o,V,?_,⟨⟨m,d,o,_,C,?_,O⟩,x.set _ b.nk (x.wf _ _ p) w,b.nk⟩,?_⟩
 ·rw[K,AW _ (by omega)]
 ·rw[map_append,t];rfl
 ·refine⟨by show g.next<=F.next;have:g.next<=(g.push (.cells [strOf f,.slice none 0 0] 73 2 true)).next:=r.nx;omega,λj cs e z w' U P Q h3=>?_⟩;have A:=r.ext _ _ U;have l:=B _ _ A (λE=>by
   obtain⟨Z,h⟩:=ot q.row E;rw[A]at h;injection h with h
   injection h with _ G H
   exact Q ⟨G,H⟩)
  show(F.set k _).get j=_;rw[ae.aw,if_neg (λE=>by
   rw[E,p]at l;injection l with l
   injection l with _ G H
   exact P ⟨G.symm,H.symm⟩)]
  exact l
theorem aeF(q:gj):eL SS.P 70 (.agg ⟨fK q⟩)=some (.cells (fK q) 70 0 true,lk):=by kernel_rfl
theorem Lz(n:Nat)(a:n<=1000000000):wrap .i64 ((n:Int)+1)=((n+1:Nat):Int):=by rw[aB (by omega) (by omega)];omega
theorem XU(w:Wf hb)(b:BU hb g k kind start lead bJ na){s:Nat}{t:dx}(hs:bJ[s]?=some t)(ha:t.arcs.length<=100000)(z6:na<=1000000)(q:gj):FW SS 44 [pA k,iA s,.agg ⟨fK q⟩] g (λv g'=>v = .tuple ⟨[]⟩/\BU hb g' k kind start lead (bJ.set s ⟨t.f,t.arcs++[q]⟩) (na+1)/\Kp g g'):=by
 obtain⟨a,n,c,l,hk,T,om⟩:=b.ex;obtain⟨p,H,rfl⟩:∃p,l[s]?=some p/\p.1=t:=by
  rw[<-T,getElem?_map]at hs;exact map_eq_some_iff.1 hs
 have x3:0<(l.map vp).length:=by have:=(List.getElem?_eq_some_iff.1 H).1;rw[lM];omega
 obtain⟨f,d,cr,Y,z7⟩:=om.row.blk x3;injection Y with Y en ec
 subst Y en ec;have o1:=(Ok.refl b.ok.wf).push (.cells (fK q) 70 0 true);have P:=b.ok.push (.cells (fK q) 70 0 true);have m:=o1.ext _ _ hk;have y1:=om.ok o1;have x7:=aO g (.cells (fK q) 70 0 true);have z5:=b.ok.wf _ _ hk;generalize W:g.push (.cells (fK q) 70 0 true)=o at*;have y0:=cq G0 FT m (i:=5) (by simp[fA]);have y5:=jf zs3 m (i:=5) (by simp[fA]) (v:= .int .i64 ((na+1:Nat):Int)) rfl rfl;have R:=y1.other m (by omega) (by omega) (.cells (N8 kind start lead (some ⟨f,d,none⟩) (l.map vp).length c (na+1)) 65 0 true);have u:=P.set (.cells (N8 kind start lead (some ⟨f,d,none⟩) (l.map vp).length c (na+1)) 65 0 true) b.nk (P.wf _ _ m) w;have O:(o.set k (.cells (N8 kind start lead (some ⟨f,d,none⟩) (l.map vp).length c (na+1)) 65 0 true)).get k=some (.cells (N8 kind start lead (some ⟨f,d,none⟩) (l.map vp).length c (na+1)) 65 0 true):=by rw[ae.aw,if_pos rfl]
 have z2:(o.set k (.cells (N8 kind start lead (some ⟨f,d,none⟩) (l.map vp).length c (na+1)) 65 0 true)).get g.next=some (.cells (fK q) 70 0 true):=by rw[ae.aw,if_neg (by omega)];exact x7
 refine XT k s (fK q) g _ ⟨_,aeF q,?_⟩;rw[W];refine⟨_,My k,_,y0,_,My k,?_⟩;rw[Lz na (by omega)];refine⟨_,y5,?_⟩;have z8:(o.set k (.cells (N8 kind start lead (some ⟨f,d,none⟩) (l.map vp).length c (na+1)) 65 0 true)).next=o.next:=rfl;have z1:∀j cs e z L,g.get j=some (.cells cs e z L)->¬(e=65/\z=0)->(o.set k (.cells (N8 kind start lead (some ⟨f,d,none⟩) (l.map vp).length c (na+1)) 65 0 true)).get j=some (.cells cs e z L):=λj cs e z L I h1=>by
  have r:=o1.ext _ _ I;rw[ae.aw,if_neg (λA=>by
   rw[A,m]at r;injection r with r
   injection r with _ F J
   exact h1 ⟨F.symm,J.symm⟩)]
  exact r
 have z9:g.next<o.next:=by rw[<-W];exact Nat.lt_succ_self _
 generalize x6:o.set k (.cells (N8 kind start lead (some ⟨f,d,none⟩) (l.map vp).length c (na+1)) 65 0 true)=g2 at*;have e2:(dP.set k (.cells ((N8 kind start lead (some ⟨f,d,none⟩) (l.map vp).length c na).set 5 (.int .i64 ((na+1:Nat):Int))) 65 0 true)).app o=g2:=x6;rw[e2];obtain⟨E,y6⟩:=Zz u.wf (n:=21) (j:=16) (by omega) (Ok.refl (u.room 21).wf) (.cells (fK q) 70 4 true);have or:=(Ok.refl u.wf).room 21;have x5:=R.ok or;obtain⟨i1,i2,i3⟩:=x5.at_ H;obtain⟨Z,xn,xc,M⟩:∃(Z:Option Addr)(xn xc:Nat),p.2 = .slice Z xn xc:=by
  obtain⟨x1,x2,e⟩:=(om.arcs s p H).Xy;exact⟨x1,_,x2,e⟩
 rw[M]at i2;have z0:=or.ext _ _ z2;have Q:=or.ext _ _ O;have x:=R.ok E;have V:=u.trans E;have y:=x.arcs s p H;rw[M]at y;obtain⟨b4,n4,c4,u4,y2,x9,y8,C,y9,z4⟩:=S4 w V y (q:=q) y6 ha;have K:=E.ext _ _ O;have X:fh (.slice Z xn xc)≠some k:=λe=>by
  obtain⟨D,h⟩:=ot y e;rw[K]at h;injection h with h
  injection h with _ h
  exact absurd h (by decide)
 have N:=C _ _ K X;obtain⟨u5,x0,y4,y7,S,x8⟩:=x.afa w y8 H (λj B I U=>C _ _ I (by rw[M]at U;exact U)) x9 (λj e=>by rw[M];exact y9 j e) V.wf;have x4:f≠k:=λe=>by
  obtain⟨D,h⟩:=ot x.row (k:=f) rfl;rw[e,K]at h;injection h with h
  injection h with _ h
  exact absurd h (by decide)
 have y3:aj SS.P 70 (Go.Ab.room g2 21) (pA g.next)=some (.agg ⟨fK q⟩):=by
  rw[pk ab8 aaX O6 z0 (by simp[Jy]),drop_zero,take_of_length_le (by simp[Jy])]
 refine⟨_,kz k,_,cZ k,_,_,_,cq AA E3 Q (i:=3) (by simp[fA]),_,kz k,_,cZ k,_,_,_,cq AA E3 Q (i:=3) (by simp[fA]),_,i1,_,iG _ _,_,_,_,i2,_,y3,_,_,_,aex q,b4,n4,c4,u4,y2,_,i1,_,iG _ _,u5,x0,⟨cq AA E3 N (i:=3) (by simp[fA]),ZU _ _ _ _⟩,rfl,⟨⟨_,_,_,_,S _ _ N x4,?_,y4⟩,y7,b.nk⟩,?_⟩
 ·rw[<-T,map_set]
 ·refine⟨by rw[x8];have:=E.nx;omega,λj cs e z L I h1 h2 h3=>?_⟩;have G:=E.ext _ _ (z1 _ _ _ _ _ I h1);have z3:=C _ _ G (λA=>by
   obtain⟨D,h⟩:=ot y A;rw[G]at h;injection h with h
   injection h with _ F J
   exact h3 ⟨F,J⟩)
  refine S _ _ z3 (λA=>?_);obtain⟨D,h⟩:=ot x.row (k:=f) rfl;rw[A,G]at h;injection h with h
  injection h with _ F J
  exact h2 ⟨F,J⟩
end
end
variable{A:Type}{c:List Value}
section
theorem HG(l:List A)(a:A)(r:List A){n:Nat}(h:l.length=n):(l++a::r)[n]?=some a:=by
 subst h;rw[List.getElem?_append_right (Nat.le_refl _),Nat.sub_self];rfl
theorem vi(l:List A)(a b:A)(r:List A){n:Nat}(h:l.length=n):(l++a::r).set n b=l++b::r:=by
 subst h;rw[List.set_append_right _ _ (Nat.le_refl _),Nat.sub_self];rfl
theorem Ee{l:List A}{a:A}(h:l[i]?=some a):l=l.take i++a::l.drop (i+1)/\(l.take i).length=i:=by
 have b:=(List.getElem?_eq_some_iff.1 h).1;have e:l[i]=a:=by rw[gE b]at h;exact oI h
 refine⟨?_,by rw[length_take];omega⟩;rw[<-e,<-List.drop_eq_getElem_cons b,List.take_append_drop]
theorem dY(l r:List dx):cg (l++r)=cg l+cg r:=by unfold cg;rw[map_append,List.sum_append]
theorem Lm{l:List dx}{s:dx}(h:l[i]?=some s):s.arcs.length<=cg l:=by
 obtain⟨e,_⟩:=Ee h;rw[e,dY,dj];omega
theorem Eg{l:List dx}{s t:dx}(h:l[i]?=some s):cg (l.set i t)+s.arcs.length=cg l+t.arcs.length:=by
 obtain⟨e,a⟩:=Ee h
 conv=>rhs;rw[e]
 conv=>lhs;rw[e]
 rw[vi _ _ _ _ a,dY,dj,dY,dj];omega
abbrev BS(hb g:ae)(k:Nat)(kind start:Int)(lead:List UInt8)(bJ:List dx):Prop:=BU hb g k kind start lead bJ (cg bJ)
section
variable {hb g:ae} {k:Nat} {kind start:Int} {lead:List UInt8} {bJ:List dx}
theorem iC(w:Wf hb)(b:BS hb g k kind start lead bJ)(d:bJ.length<=100000)(f:List UInt8):FW SS 43 [pA k,strOf f] g (λv a=>v = .int .i64 (bJ.length:Nat)/\BS hb a k kind start lead (bJ++[⟨f,[]⟩])/\Kp g a):=by
 refine(PI w b d f).mono ?_;rintro v a ⟨e,h,c⟩;refine⟨e,?_,c⟩;unfold BS;rw[dY];exact h
theorem xT(w:Wf hb)(b:BS hb g k kind start lead bJ){s:Nat}{t:dx}(c:bJ[s]?=some t)(j:cg bJ<=100000)(q:gj):FW SS 44 [pA k,iA s,.agg ⟨fK q⟩] g (λv a=>v = .tuple ⟨[]⟩/\BS hb a k kind start lead (bJ.set s ⟨t.f,t.arcs++[q]⟩)/\Kp g a):=by
 have:=Lm c;refine(XU w b c (by omega) (by omega) q).mono ?_;rintro v a ⟨f,i,d⟩;refine⟨f,?_,d⟩;have e:=Eg c (t:=⟨t.f,t.arcs++[q]⟩);have l:(t.arcs++[q]).length=t.arcs.length+1:=by simp
 have h:cg (bJ.set s ⟨t.f,t.arcs++[q]⟩)=cg bJ+1:=by
  have:cg (bJ.set s ⟨t.f,t.arcs++[q]⟩)+t.arcs.length=cg bJ+(t.arcs++[q]).length:=e;omega
 unfold BS;rw[h];exact i
theorem aeB(w:List UInt8)(t:Int):bd SS.P 70 [(2,strOf w),(3,.int .i64 t)]=some (.agg ⟨fK ⟨0,0,w,t⟩⟩):=by kernel_rfl
theorem B6(w:Wf hb)(b:BS hb g k kind start lead bJ){s:Nat}{t:dx}(e:bJ[s]?=some t)(d:cg bJ<=100000)(x:List UInt8)(a:Int):FW SS 58 [pA k,iA s,strOf x,.int .i64 a] g (λv c=>v = .tuple ⟨[]⟩/\BS hb c k kind start lead (bJ.set s ⟨t.f,t.arcs++[⟨0,0,x,a⟩]⟩)/\Kp g c):=by
 refine X6 k s x a g _ ⟨_,aeB x a,(xT w b e d ⟨0,0,x,a⟩).mono ?_⟩;rintro _ c ⟨rfl,f⟩;exact⟨rfl,rfl,f⟩
theorem ada(kind:Int)(l:List UInt8):bd SS.P 29 [(0,.int .i64 kind),(2,strOf l)]=some (.agg ⟨[.int .i64 kind,.int .i64 0,strOf l,nA]⟩):=by kernel_rfl
theorem aeA(kind:Int)(l a:List UInt8):bd SS.P 65 [(0,.agg ⟨[.int .i64 kind,.int .i64 0,strOf l,nA]⟩),(1,strOf a)]=some (.agg ⟨[.int .i64 kind,.int .i64 0,strOf l,nA,strOf a,.int .i64 0,.int .i64 0]⟩):=by kernel_rfl
theorem aeE(kind:Int)(l a:List UInt8):eL SS.P 65 (.agg ⟨[.int .i64 kind,.int .i64 0,strOf l,nA,strOf a,.int .i64 0,.int .i64 0]⟩)=some (.cells [.int .i64 kind,.int .i64 0,strOf l,nA,strOf a,.int .i64 0,.int .i64 0] 65 0 true,lk):=by kernel_rfl
theorem mE(kind:Int)(w:Wf g):FW SS 42 [.int .i64 kind] g (λv b=>∃k,v=pA k/\BS g b k kind 0 (df kind) []):=by
 refine PG kind g _ ((Zv kind w).mono ?_);rintro _ d ⟨rfl,a⟩;have c:=a.push (.cells [.int .i64 kind,.int .i64 0,strOf (df kind),nA,strOf (df kind),.int .i64 0,.int .i64 0] 65 0 true);exact⟨_,rfl,_,ada _ _,_,aeA _ _ _,_,aeE _ _ _,_,rfl,⟨none,0,0,[],aO d _,rfl,ko.nil _ _⟩,c,a.nx⟩
theorem FX{a b c:List UInt8}(w:Wf hb)(o:nW hb)(d:BS hb g k kind start lead bJ)(l:aM kind a=true)(f:aM kind b=true)(p:dg kind a b=some c):FW SS 63 [pA k,strOf a,strOf b] g (λv h=>v=strOf c/\Ok g h):=by
 obtain⟨q,n,cc,r,m,_⟩:=d.ex;refine PJ k a b g _ ⟨_,kz k,_,du k,_,cq G0 FT m (i:=0) (by simp[fA]),(Lb l f p (o.ok d.ok) d.ok.wf).mono ?_⟩;rintro _ s ⟨rfl,j⟩;exact⟨_,_,rfl,aa (λe=>by cases e) (λ_=>⟨rfl,j⟩)⟩
theorem aeD(k:Nat):eL SS.P 62 (pA k)=some (.cells [pA k] 62 0 true,lk):=by kernel_rfl
theorem bx3(t:Int):eL SS.P 3 (.int .i64 t)=some (.cells [.int .i64 t] 3 0 true,lk):=by kernel_rfl
noncomputable def ad5:TypeDesc:=(SS.P.underlying 62).getD .bool
theorem ad4:SS.P.underlying 62=some ad5:=by kernel_rfl
theorem acu:Go.Ab.isAgg SS.P 62=false:=by kernel_rfl
def mu(k:Nat)(d:Option Int)(f:Nat)(e b:List Value)(g:ae):Prop:=e=[]/\match d with
 |none=>f=60/\b=[]
 |some t=>f=87/\∃a c,b=[pA a,pA c]/\g.get a=some (.cells [pA k] 62 0 true)/\g.get c=some (.cells [.int .i64 t] 3 0 true)
theorem mu.kp{k:Nat}{a:Option Int}{g b:ae}(l:mu k a n c d g)(h:Kp g b):mu k a n c d b:=by
 obtain⟨j,e⟩:=l;refine⟨j,?_⟩
 cases a with
 |none=>exact e
 |some t=>
  obtain⟨i,f,p,m,q,o⟩:=e;exact⟨i,f,p,m,h.2 _ _ _ _ _ q (by decide) (by decide) (by decide),h.2 _ _ _ _ _ o (by decide) (by decide) (by decide)⟩
theorem mu.blt{k:Nat}{a:Option Int}{g:ae}(l:mu k a n c d g):Nat.blt n YB=true:=by
 obtain⟨_,b⟩:=l
 cases a with
 |none=>rw[b.1];decide +kernel
 |some t=>rw[b.1];decide +kernel
theorem C0(w:Wf g)(t:Int):FW SS 64 [pA k,.int .i64 t] g (λv a=>∃c,v = .func (.func 87) ⟨[]⟩ ⟨c⟩/\mu k (some t) 87 [] c a/\Ok g a):=by
 have b:=(Ok.refl w).push (.cells [pA k] 62 0 true);have d:=(Ok.refl b.wf).push (.cells [.int .i64 t] 3 0 true);exact Ti k t g _ ⟨_,aeD k,_,bx3 t,_,rfl,⟨rfl,rfl,_,_,rfl,d.ext _ _ (aO g _),aO _ _⟩,b.trans d⟩
def Al(a:Option Int)(t:dx):dx:=match a with
 |none=>t
 |some b=>⟨[],t.arcs++[⟨0,0,t.f,b⟩]⟩
theorem Uy{y:Option Int}{P:List Value}(w:Wf hb)(b:BS hb g k kind start lead bJ)(l:mu k y n d P g){s:Nat}{t:dx}(m:bJ[s]?=some t)(x3:cg bJ<=100000):
  FW SS n (d++[iA s,strOf t.f]++P) g (λv x=>v = .tuple ⟨[]⟩/\BS hb x k kind start lead (bJ.set s (Al y t))/\Kp g x):=by
 obtain⟨rfl,l⟩:=l
 cases y with
 | none=>
  obtain⟨rfl,rfl⟩:=l;refine Te s t.f g _ ⟨rfl,?_,Kp.refl g⟩;have e:bJ.set s (Al none t)=bJ:=by
   obtain⟨H,E⟩:=Ee m
   conv=>lhs;rw[H]
   rw[vi _ _ _ _ E];exact H.symm
  rw[e];exact b
 | some to=>
  obtain⟨rfl,W,k3,rfl,B,K⟩:=l;obtain⟨a,x7,c,R,C,q,o⟩:=b.ex;obtain⟨p,F,rfl⟩:∃p,R[s]?=some p/\p.1=t:=by
   rw[<-q,getElem?_map]at m;exact map_eq_some_iff.1 m
  have A:0<(R.map vp).length:=by have:=(List.getElem?_eq_some_iff.1 F).1;rw[lM];omega
  obtain⟨N,x4,cr,r,x5⟩:=o.row.blk A;injection r with r X Y
  subst r X Y;obtain⟨U,_,_⟩:=o.at_ F;obtain⟨u,st,J,Q,h,L⟩:=o.adO w b.ok F [];have f:∃cs,g.get N=some (.cells cs 73 2 true):=ot o.row (k:=N) rfl;obtain⟨x6,f⟩:=f;have G:=h _ _ C (λe=>kx f C (by decide) e);have E:=h _ _ B (λe=>kx f B (by decide) e);have e3:=h _ _ K (λe=>kx f K (by decide) e);have b2:BS hb (u.app g) k kind start lead (bJ.set s ⟨[],p.1.arcs⟩):=by
   refine⟨⟨_,_,_,_,?_,by rw[map_set,q],J⟩,Q,b.nk⟩;have e:=Eg m (t:=⟨[],p.1.arcs⟩);have V:cg (bJ.set s ⟨[],p.1.arcs⟩)=cg bJ:=by
    have:cg (bJ.set s ⟨[],p.1.arcs⟩)+p.1.arcs.length=cg bJ+p.1.arcs.length:=e;omega
   rw[V];exact G
  have S:(bJ.set s ⟨[],p.1.arcs⟩)[s]?=some (⟨[],p.1.arcs⟩:dx):=by
   have x0:=(List.getElem?_eq_some_iff.1 m).1;rw[List.getElem?_set_self (by omega)]
  have M:Kp g (u.app g):=⟨Nat.le_of_eq L.symm,λj cs e z w' T _ Z _=>h _ _ T (λc=>by
   rw[c,T]at f;injection f with f
   injection f with _ x1 x2
   exact Z ⟨x1,x2⟩)⟩
  have D:cg (bJ.set s ⟨[],p.1.arcs⟩)<=100000:=by
   have:cg (bJ.set s ⟨[],p.1.arcs⟩)+p.1.arcs.length=cg bJ+p.1.arcs.length:=Eg m (t:=⟨[],p.1.arcs⟩);omega
  refine PD s p.1.f W k3 g _ ⟨_,cq ad4 acu B (i:=0) (by simp),lK ⟨_,kz k,_,cZ k,_,_,_,cq AA E3 C (i:=3) (by simp[fA]),_,U,_,nJ _ _,u,st,_,cq ad4 acu E (i:=0) (by simp),_,cq G0 FT e3 (i:=0) (by simp),(B6 w b2 S D p.1.f to).mono ?_⟩⟩;rintro _ x ⟨rfl,I,O⟩;refine⟨rfl,rfl,?_,M.trans O⟩;rw[List.set_set]at I;exact I
end
end
noncomputable def ep:FD:=cF Tryz.f59 [([1,1,0,1,0,0],[0,2,4,7,21,22,23]),([1,1,1,0,1,0,0],[0,2,4,7,33,34,35]),([1,1,1,0,1,0,0,1,1,0,0,1,0,1,0,0],[0,2,4,7,10,11,33,34,35,41,42,43])]
abbrev qt(k g:Nat)(e f:LV)(d b:Nat)(a:OA)(n c:Nat)(i:Nat):LV:=[(pA k),(.func (.func g) ⟨e⟩ ⟨f⟩),(pA d),(iA b),(.slice a n c),(iA n),(iA i)]
abbrev gM(k g:Nat)(e f:LV)(d b:Nat)(a:OA)(n c:Nat)(i:Nat):LV:=[(pA k),(.func (.func g) ⟨e⟩ ⟨f⟩),(pA d),(iA b),(.slice a n c),(iA n),(iA i)]
abbrev qu(k g:Nat)(l m:LV)(f b:Nat)(a:OA)(n c i o:Nat)(e:OA)(d h:Nat)(j:Nat):LV:=[(pA k),(.func (.func g) ⟨l⟩ ⟨m⟩),(pA f),(iA b),(iA i),(pA o),(.slice a n c),(iA n),(iA i),(.slice e d h),(iA d),(iA j)]
theorem Tb(k:Nat)(l:LV)(g:Nat)(m n:LV)(h:ae)(Q:VH)(o:xN (eL SS.P 29 (.agg ⟨l⟩)) h λ_ j=>fP 65 (pA k) 0 λi=>fP 29 (.pointer (some i)) 3 λf=>lL 27 j f λ_ e _=>fP 29 (pA (h.next)) 3 λd=>lL 27 j d λa b c=>LL SS ep [1,1,0,1,0,0] [(pA k),(.func (.func g) ⟨m⟩ ⟨n⟩),(pA (h.next)),(iA e),(.slice a b c),(iA b),(.int .i64 0)] j (KK SS ep [1,1,0,1,0] [] (EE SS ep Q))):FW SS 59 [(pA k),(.agg ⟨l⟩),(.func (.func g) ⟨m⟩ ⟨n⟩)] h Q:=cI ep Tryz.func59 (ai o)
theorem zN(k:Nat)(x:LV)(g:Nat)(t u:LV)(s p:Nat)(a:OA)(n c:Nat)(r:Nat->Nat->ae->Prop)(Q:VH)(step:∀(q:Nat) (i:Nat) (w:Nat->Value) (h:ae),r q i h->au (decide (((i:Int):Int)<(n:Int))) (iP 27 (.slice a n c) (iA i) λo=>lA 73 h (.pointer (some o)) λm=>xN (br SS.P 73) h λ_ l=>xU (ah SS.P 73 (pA (h.next)) (.agg ⟨m⟩) l) l λ_ j=>fP 73 (pA (h.next)) 0 λf=>lS j f λe=>FW SS 43 [(pA k),(strOf e)] j λb d=>yI .i64 b λ_=>aJ (fs (qt k g t u s p a n c) r) q [(pA k),(.func (.func g) ⟨t⟩ ⟨u⟩),(pA s),(iA p),(.slice a n c),(iA n),(.int .i64 (wrap .i64 ((i:Int)+1)))] d) (fP 29 (pA s) 3 λd=>lL 27 h d λa b c=>LL SS ep [1,1,1,0,1,0,0] [(pA k),(.func (.func g) ⟨t⟩ ⟨u⟩),(pA s),(iA p),(.slice a b c),(iA b),(.int .i64 0)] h (KK SS ep [1,1,1,0,1,0] [] (EE SS ep Q))))(q:Nat){i:Nat}{h:ae}(v:r q i h):LL SS ep [1,1,0,1,0,0] (qt k g t u s p a n c i) h (KK SS ep [1,1,0,1,0] [] (EE SS ep Q)):=
 dc (qt k g t u s p a n c) r (λq i w h v=>ai (step q i w h v)) q v
theorem zO(k:Nat)(x:LV)(g:Nat)(t u:LV)(s r:Nat)(a:OA)(n c:Nat)(q:Nat->Nat->ae->Prop)(Q:VH)(step:∀(p:Nat) (i:Nat) (w:Nat->Value) (h:ae),q p i h->au (decide (((i:Int):Int)<(n:Int))) (iP 27 (.slice a n c) (iA i) λo=>lA 73 h (.pointer (some o)) λm=>xN (br SS.P 73) h λ_ l=>xU (ah SS.P 73 (pA (h.next)) (.agg ⟨m⟩) l) l λ_ j=>fP 73 (pA (h.next)) 1 λf=>lL 71 j f λb d e=>LL SS ep [1,1,1,0,1,0,0,1,1,0,0,1,0,1,0,0] [(pA k),(.func (.func g) ⟨t⟩ ⟨u⟩),(pA s),(iA r),(iA i),(pA (h.next)),(.slice a n c),(iA n),(iA i),(.slice b d e),(iA d),(.int .i64 0)] j (KK SS ep [1,1,0,0,1,0,1,0] [1,1,1,0,1,0,0] (RR ep [1,1,1,0,1,0,0] (fs (gM k g t u s r a n c) q) p (KK SS ep [1,1,1,0,1,0] [] (EE SS ep Q))))) (fP 29 (pA s) 1 λb=>lI h b λa=>Q (.int .i64 (wrap .i64 ((r:Int)+a))) h))(p:Nat){i:Nat}{h:ae}(v:q p i h):LL SS ep [1,1,1,0,1,0,0] (gM k g t u s r a n c i) h (KK SS ep [1,1,1,0,1,0] [] (EE SS ep Q)):=
 dc (gM k g t u s r a n c) q (λp i w h v=>ai (step p i w h v)) p v
theorem zP(k:Nat)(H:LV)(g:Nat)(v w:LV)(x t:Nat)(a:OA)(n c:Nat)(A:Nat->Nat->ae->Prop)(D i:Nat)(B:Nat)(C:OA)(z E:Nat)(y:Nat->Nat->ae->Prop)(Q:VH)(step:∀(u:Nat) (j:Nat) (G:Nat->Value) (h:ae),y u j h->au (decide (((j:Int):Int)<(z:Int))) (iP 71 (.slice C z E) (iA j) λs=>lA 70 h (.pointer (some s)) λr=>xN (br SS.P 70) h λ_ q=>xU (ah SS.P 70 (pA (h.next)) (.agg ⟨r⟩) q) q λ_ p=>fP 70 (pA (h.next)) 3 λo=>lI p o λm=>fP 70 (pA (h.next)) 3 λl=>xU (ah SS.P 3 (.pointer (some l)) (.int .i64 (wrap .i64 (m+(t:Int)))) p) p λ_ f=>lA 70 f (pA (h.next)) λe=>FW SS 44 [(pA k),(.int .i64 (wrap .i64 ((t:Int)+(i:Int)))),(.agg ⟨e⟩)] f λb d=>b=(.tuple ⟨[]⟩)/\aJ (fs (qu k g v w x t a n c i B C z E) y) u [(pA k),(.func (.func g) ⟨v⟩ ⟨w⟩),(pA x),(iA t),(iA i),(pA B),(.slice a n c),(iA n),(iA i),(.slice C z E),(iA z),(.int .i64 (wrap .i64 ((j:Int)+1)))] d) (fP 73 (pA B) 0 λl=>lS h l λj=>au (!((j:LB)==[])) (fP 73 (pA B) 0 λf=>lS h f λe=>au (Nat.blt g YB) (FW SS g (v++[(.int .i64 (wrap .i64 ((t:Int)+(i:Int)))),(strOf e)]++w) h λb d=>b=(.tuple ⟨[]⟩)/\aJ (fs (gM k g v w x t a n c) A) D [(pA k),(.func (.func g) ⟨v⟩ ⟨w⟩),(pA x),(iA t),(.slice a n c),(iA n),(.int .i64 (wrap .i64 ((i:Int)+1)))] d) False) (aJ (fs (gM k g v w x t a n c) A) D [(pA k),(.func (.func g) ⟨v⟩ ⟨w⟩),(pA x),(iA t),(.slice a n c),(iA n),(.int .i64 (wrap .i64 ((i:Int)+1)))] h)))(u:Nat){j:Nat}{h:ae}(F:y u j h):LL SS ep [1,1,1,0,1,0,0,1,1,0,0,1,0,1,0,0] (qu k g v w x t a n c i B C z E j) h (KK SS ep [1,1,0,0,1,0,1,0] [1,1,1,0,1,0,0] (RR ep [1,1,1,0,1,0,0] (fs (gM k g v w x t a n c) A) D (KK SS ep [1,1,1,0,1,0] [] (EE SS ep Q)))):=
 dc (qu k g v w x t a n c i B C z E) y (λu j G h F=>ai (step u j G h F)) u F
variable{B:Type}{M:bp}
section
def bare(s:dx):dx:=⟨s.f,[]⟩
def EN(a:Nat)(q:gj):gj:=⟨q.i,q.o,q.w,q.t+a⟩
def mF(a:Nat)(b:Option Int)(s:dx):dx:=if s.f=[]then⟨[],s.arcs.map (EN a)⟩else Al b ⟨s.f,s.arcs.map (EN a)⟩
theorem m4(a:Nat)(b:Option Int):∀l:List dx,cg (l.map (mF a b))<=cg l+l.length
 |[]=>Nat.le_refl _
 | s::l=>by
  have c:=m4 a b l;rw[List.map_cons,dj,dj,length_cons];have:(mF a b s).arcs.length<=s.arcs.length+1:=by
   unfold mF Al;split
   ·simp
   ·cases b<;>simp
  omega
theorem JE:∀l:List dx,cg (l.map bare)=0
 |[]=>rfl
 |s::l=>by rw[List.map_cons,dj,JE l];rfl
theorem qI(f:A->B){l:List A}{i:Nat}{a:A}(h:l[i]?=some a):(l.take (i+1)).map f=(l.take i).map f++[f a]:=by
 have b:=(List.getElem?_eq_some_iff.1 h).1;rw[List.take_add_one,h,map_append];rfl
theorem Xo(h:n+i<=1000000000):wrap .i64 ((n:Int)+(i:Int))=((n+i:Nat):Int):=by rw[aB (by omega) (by omega)];omega
section
variable {hb g:ae} {k:Nat} {kind start:Int} {lead:List UInt8} {bJ:List dx}
theorem qT{x:Option Addr}{z:Nat}{p:Option Int}(w:Wf hb)(b:BS hb g k kind start lead bJ)(r:dy hb (.slice x n z) M.af)(l:mu k p m c d g)(hl:bJ.length+M.af.length<=100000)(z5:cg bJ+cg M.af+M.af.length<=100000)(z7:0<=M.start/\M.start<M.af.length)(y4:∀s∈M.af,∀a∈s.arcs,0<=a.t/\a.t<M.af.length):
  FW SS 59 [pA k,.agg ⟨bK M x n z⟩,.func (.func m) ⟨c⟩ ⟨d⟩] g (λv o=>v = .int .i64 ((bJ.length:Int)+M.start)/\BS hb o k kind start lead (bJ++M.af.map (mF bJ.length p))/\Kp g o):=by
 obtain⟨xa,xn,xc,ps,hk,z1,om⟩:=b.ex;obtain⟨R,Z⟩:=fv b.ok.wf (r.ok b.ok);obtain rfl:n=M.af.length:=R.len;have b0:=b.sk Z;have l0:=l.kp (M4 Z);have z0:xn=bJ.length:=by have:=om.st.len;rw[this,z1]
 subst z0;refine Tb k (bK M x M.af.length z) m c d g _ ⟨_,iS M x _ z,_,kz k,_,cZ k,_,_,_,cq AA E3 (Z.ext _ _ hk) (i:=3) (by simp[fA]),_,cZ _,_,_,_,R.l3,?_⟩;have z4:=(M4 Z)
 have x2:∀o,Kp (g.push (Bm M x M.af.length z)) o->Ok hb o->MB o g.next M x M.af.length z:=λo h ok=>⟨h.2 _ _ _ _ _ R.box (by decide) (by decide) (by decide),r.ok ok⟩
 generalize z9:g.push (Bm M x M.af.length z)=g0 at*;obtain⟨f,U⟩:∃f,f=bJ.length:=⟨_,rfl⟩
 rw[<-U]at hl⊢;refine zN k (bK M x M.af.length z) m c d g.next f x M.af.length z (λy i o=>i<=M.af.length/\y=M.af.length-i/\BS hb o k kind start lead (bJ++(M.af.take i).map bare)/\Kp g0 o) _ (λy i=>?_) M.af.length (i:=0) ⟨by omega,rfl,by simpa using b0,Kp.refl _⟩;intros;rename_i g1 y3;obtain⟨f1,f2,J,Q⟩:=y3;refine aa (λq1=>?_) (λq1=>?_)
 ·have H:i<M.af.length:=by have:=dT q1;omega
  obtain⟨s,A⟩:∃s,M.af[i]?=some s:=⟨_,gE H⟩
  obtain⟨bb,oo,u,V,t,u1,K,u3,u4,ar⟩:=(r.ok J.ok).at_ A;obtain⟨L,p1,N,p3⟩:=OS J.ok.wf s.f u V t;have C:=J.sk N;refine⟨_,u1,_,K,_,XN,L,p1,_,nJ _ _,_,p3.l0,(iC w C (by rw[length_append,lM,length_take];omega) s.f).mono ?_⟩;rintro _ F ⟨rfl,Y,S⟩;rw[aP H (by omega)];refine⟨_,rfl,bZ (M.af.length-(i+1)) (by omega) ⟨by omega,rfl,?_,(Q.trans (M4 N)).trans S⟩⟩;rw[qI bare A,<-append_assoc];exact Y
 obtain rfl:i=M.af.length:=by have:=dF q1;omega
 rw[List.take_length]at J;have y9:=x2 _ Q J.ok;refine⟨_,cZ _,_,_,_,y9.l3,?_⟩;refine zO k (bK M x M.af.length z) m c d g.next f x M.af.length z (λy i o=>i<=M.af.length/\y=M.af.length-i/\BS hb o k kind start lead (bJ++(M.af.take i).map (mF f p)++(M.af.drop i).map bare)/\Kp g0 o) _ (λy i=>?_) M.af.length (i:=0) ⟨by omega,rfl,by simpa using J,Q⟩;intros;rename_i F x9;obtain⟨d1,d2,C,W⟩:=x9;have x1:∀i,i<=M.af.length->cg (bJ++(M.af.take i).map (mF f p))+cg (M.af.drop i)<=99999+1:=λi H=>by
  have h1:=m4 f p (M.af.take i);have h2:cg (M.af.take i)+cg (M.af.drop i)=cg M.af:=by rw[<-dY,List.take_append_drop]
  rw[length_take]at h1;rw[dY];omega
 refine aa (λq2=>?_) (λq2=>?_)
 ·have H:i<M.af.length:=by have:=dT q2;omega
  obtain⟨s,A⟩:∃s,M.af[i]?=some s:=⟨_,gE H⟩
  have y6:=List.mem_of_getElem? A;obtain⟨bb,oo,u,V,t,u1,K,u3,u4,ar⟩:=r.at_ A;have K:=Kj C.ok K;obtain⟨L,p1,N,p3⟩:=OS C.ok.wf s.f u V t;have Y:=C.sk N;have hy:=ar.len;subst hy;refine⟨_,u1,_,K,_,XN,L,p1,_,iG _ _,_,_,_,p3.l1,?_⟩;have hd:(M.af.drop i).map bare=⟨s.f,(s.arcs.take 0).map (EN f)⟩::(M.af.drop (i+1)).map bare:=by rw[fM A,List.map_cons];rfl
  rw[hd]at Y;have hL:(bJ++(M.af.take i).map (mF f p)).length=f+i:=by rw[length_append,lM,length_take,<-U,Nat.min_eq_left (by omega)]
  have S:=W.trans (M4 N);have x4:SB (L.app (F.push Sz)) F.next s.f u s.arcs.length t:=p3;generalize L.app (F.push Sz)=g3 at*;have x8:∀o,Kp g3 o->SB o F.next s.f u s.arcs.length t:=λo h=>h.2 _ _ _ _ _ x4 (by decide) (by decide) (by decide);obtain⟨ks,z2⟩:∃ks,ks=F.next:=⟨_,rfl⟩
  rw[<-z2]at x4 x8⊢;have u5:=x1 i (by omega);have u6:cg (M.af.drop i)=s.arcs.length+cg (M.af.drop (i+1)):=by rw[fM A,dj]
  have x0:f+i<=1000000000:=by omega
  refine zP k (bK M x M.af.length z) m c d g.next f x M.af.length z _ y i ks u s.arcs.length t (λx3 j o=>j<=s.arcs.length/\x3=s.arcs.length-j/\BS hb o k kind start lead (bJ++(M.af.take i).map (mF f p)++⟨s.f,(s.arcs.take j).map (EN f)⟩::(M.af.drop (i+1)).map bare)/\Kp g3 o) _ (λx3 j=>?_) s.arcs.length (j:=0) ⟨by omega,rfl,Y,Kp.refl _⟩;intros;rename_i G y0;obtain⟨e1,e2,B,P⟩:=y0;have E:=HG (bJ++(M.af.take i).map (mF f p)) (⟨s.f,(s.arcs.take j).map (EN f)⟩:dx) ((M.af.drop (i+1)).map bare) hL;have O:cg (bJ++(M.af.take i).map (mF f p)++⟨s.f,(s.arcs.take j).map (EN f)⟩::(M.af.drop (i+1)).map bare)<=100000:=by
   rw[dY,dj,JE];show _+(((s.arcs.take j).map (EN f)).length+0)<=_;rw[lM,length_take];omega
  rw[Xo x0];refine aa (λq3=>?_) (λq3=>?_)
  ·have hj:j<s.arcs.length:=by have:=dT q3;omega
   obtain⟨q,T⟩:∃q,s.arcs[j]?=some q:=⟨_,gE hj⟩
   have z8:=y4 s y6 q (List.mem_of_getElem? T);obtain⟨z6,u0,v1,v2,v3,v4,v5,v6⟩:=(ar.ok B.ok).at_ T;obtain⟨ua,r1,r2,r3⟩:=KI B.ok.wf q;have b5:=B.sk r2;have x7:(ua.app (G.push Pe)).get G.next=some (.cells (fK q) 70 0 true):=r3;have y2:=jf zs3 x7 (i:=3) (by simp[fK]) (v:= .int .i64 (q.t+(f:Int))) rfl rfl;have o6:=r2.set (.cells (fK (EN f q)) 70 0 true) (Nat.le_refl _) (r2.wf _ _ x7) B.ok.wf;have b6:=B.sk o6;have y1:((ua.app (G.push Pe)).set G.next (.cells (fK (EN f q)) 70 0 true)).get G.next=some (.cells (fK (EN f q)) 70 0 true):=by rw[ae.aw,if_pos rfl]
   have ld:=pk ab8 aaX O6 y1 (i:=0) (by simp[fK]);rw[drop_zero,take_of_length_le (by simp[fK])]at ld;have z3:wrap .i64 (q.t+(f:Int))=q.t+(f:Int):=aB (by omega) (by omega);refine⟨_,v1,_,v2,_,SZ,ua,r1,_,rW _ _,_,r3.l3,_,rW _ _,?_⟩;rw[z3];refine⟨_,y2,_,ld,(xT w b6 E O (EN f q)).mono ?_⟩;rintro _ g6 ⟨rfl,b7,y5⟩;rw[vi _ _ _ _ hL]at b7;rw[aP hj (by omega)];refine⟨rfl,bZ (s.arcs.length-(j+1)) (by omega) ⟨by omega,rfl,?_,(P.trans (M4 o6)).trans y5⟩⟩;rw[qI (EN f) T];exact b7
  ·obtain rfl:j=s.arcs.length:=by have:=dF q3;omega
   rw[List.take_length]at B E O;have x5:=x8 _ P;have D:=S.trans P;have x6:∀I,BS hb I k kind start lead (bJ++(M.af.take i).map (mF f p)++mF f p s::(M.af.drop (i+1)).map bare)->Kp g0 I->aJ (fs (gM k m c d g.next f x M.af.length z) (λy i o=>i<=M.af.length/\y=M.af.length-i/\BS hb o k kind start lead (bJ++(M.af.take i).map (mF f p)++(M.af.drop i).map bare)/\Kp g0 o)) y [(pA k),(.func (.func m) ⟨c⟩ ⟨d⟩),(pA g.next),(iA f),(.slice x M.af.length z),(iA M.af.length),(.int .i64 (wrap .i64 ((i:Int)+1)))] I:=λI h1 h2=>by
    rw[aP H (by omega)];refine bZ (M.af.length-(i+1)) (by omega) ⟨by omega,rfl,?_,h2⟩;rw[qI (mF f p) A];have:bJ++((M.af.take i).map (mF f p)++[mF f p s])++(M.af.drop (i+1)).map bare=bJ++(M.af.take i).map (mF f p)++mF f p s::(M.af.drop (i+1)).map bare:=by simp
    rw[this];exact h1
   refine⟨_,nJ _ _,_,x5.l0,aa (λq4=>?_) (λq4=>?_)⟩
   ·have X:s.f≠[]:=cd (by simpa using q4);refine⟨_,nJ _ _,_,x5.l0,aa (λ_=>(Uy w B (l0.kp D) E O).mono ?_) (λe=>by rw[l0.blt]at e;cases e)⟩;rintro _ I ⟨rfl,b5,y7⟩;rw[vi _ _ _ _ hL]at b5;refine⟨rfl,x6 I ?_ (D.trans y7)⟩;have:mF f p s=Al p ⟨s.f,s.arcs.map (EN f)⟩:=if_neg X;rw[this];exact b5
   ·have X:s.f=[]:=cn (by simpa using q4);refine x6 G ?_ D;have:mF f p s=⟨s.f,s.arcs.map (EN f)⟩:=by
     have:mF f p s=⟨[],s.arcs.map (EN f)⟩:=if_pos X;rw[this,X]
    rw[this];exact B
 ·obtain rfl:i=M.af.length:=by have:=dF q2;omega
  have y8:=x2 _ W C.ok;have hw:wrap .i64 ((f:Int)+M.start)=(f:Int)+M.start:=aB (by omega) (by omega);refine⟨_,tO _,_,y8.l1,by rw[hw],?_,z4.trans W⟩;rw[List.take_length,drop_length]at C;simpa using C
end
end
noncomputable def cG:FD:=cF Tryz.f48 [([1,1,1,1,1,0,1,0,0],[1,2,3,8,10,11]),([1,1,1,1,1,0,1,0,0,1,0,0,1,1,0,0],[1,2,3,8,10,11,12]),([1,1,1,1,1,1,1,0,1,0,0],[1,2,3,8,10,13]),([1,1,1,1,1,1,1,0,1,0,0,1,0,0,1,0,0],[1,2,3,8,10,13,14]),([1,1,1,1,1,1,1,0,1,0,0,1,0,0,1,0,0,1,0,0,1,1,1,1,0,0],[1,2,3,8,10,13,14,15,17])]
abbrev lH(a:OA)(l f:Nat)(e:OA)(c h k g N:Nat)(b:OA)(j d:Nat)(i:Nat):LV:=[(.slice a l f),(.slice e c h),(pA k),(.slice b j d),(sA g N N),(iA i)]
abbrev qj(a:OA)(m f:Nat)(e:OA)(c h k g N:Nat)(b:OA)(l d i:Nat)(j:Nat):LV:=[(.slice a m f),(.slice e c h),(pA k),(.slice b l d),(sA g N N),(iA i),(iA j)]
abbrev gJ(a:OA)(l f:Nat)(e:OA)(c h k g N:Nat)(b:OA)(j d:Nat)(i:Nat):LV:=[(.slice a l f),(.slice e c h),(pA k),(.slice b j d),(sA g N N),(iA i)]
abbrev lJ(a:OA)(m f:Nat)(e:OA)(c h k g N:Nat)(b:OA)(l d i:Nat)(j:Nat):LV:=[(.slice a m f),(.slice e c h),(pA k),(.slice b l d),(sA g N N),(iA i),(iA j)]
abbrev fI(a:OA)(n g:Nat)(f:OA)(c l k h N:Nat)(b:OA)(m d i j:Nat)(v:OA)(e o:Nat)(q:Nat):LV:=[(.slice a n g),(.slice f c l),(pA k),(.slice b m d),(sA h N N),(iA i),(iA j),(.slice v e o),(iA q)]
theorem ace(C:LV)(x:OA)(t A:Nat)(z:OA)(y B:Nat)(h:ae)(Q:VH)(D:xN (eL SS.P 29 (.agg ⟨C⟩)) h λ_ s=>lA 29 s (pA (h.next)) λr=>FW SS 26 [(.agg ⟨r⟩)] s λp q=>yB p λo=>au (!o) (Q (.tuple ⟨[(strOf []),(.int .i64 1)]⟩) q) (FW SS 15 [(.slice x t A)] q λm n=>yB m λl=>au (!l) (Q (.tuple ⟨[(strOf []),(.int .i64 1)]⟩) n) (FW SS 15 [(.slice z y B)] n λj k=>yB j λi=>au (!i) (Q (.tuple ⟨[(strOf []),(.int .i64 1)]⟩) k) (lA 29 k (pA (h.next)) λg=>FW SS 73 [(.agg ⟨g⟩),(.bool false)] k λe f=>∃(v:OA) (w u:Nat),∃d:Int,e=(.tuple ⟨[(.slice v w u),(.int .i64 d)]⟩)/\au (((d:Int) !=0)) (Q (.tuple ⟨[(strOf []),(.int .i64 d)]⟩) f) (xR (ch SS.P 106 (.int .i64 (wrap .i64 ((t:Int)+1))) (.int .i64 (wrap .i64 ((t:Int)+1)))) f λ_ a b c=>LL SS cG [1,1,1,1,1,0,1,0,0] [(.slice x t A),(.slice z y B),(pA (h.next)),(.slice v w u),(sA (f.next) a b),(.int .i64 0)] c (KK SS cG [1,1,1,1,1,0,1,0] [] (EE SS cG Q))))))):FW SS 48 [(.agg ⟨C⟩),(.slice x t A),(.slice z y B)] h Q:=cI cG Tryz.func48 (ai D)
theorem Er(E:LV)(w:OA)(v z:Nat)(y:OA)(s A:Nat)(k t N:Nat)(b:OA)(B x:Nat)(u:Nat->Nat->ae->Prop)(Q:VH)(step:∀(r:Nat) (i:Nat) (D:Nat->Value) (h:ae),u r i h->au (decide (((i:Int):Int)<=(v:Int))) (xR (ch SS.P 103 (.int .i64 (wrap .i64 ((s:Int)+1))) (.int .i64 (wrap .i64 ((s:Int)+1)))) h λ_ d e f=>iP 106 (sA t N N) (iA i) λc=>xU (ah SS.P 103 (.pointer (some c)) (sA (h.next) d e) f) f λ_ a=>LL SS cG [1,1,1,1,1,0,1,0,0,1,0,0,1,1,0,0] (qj w v z y s A k t N b B x i 0) a (KK SS cG [1,0,0,1,1,0] [1,1,1,1,1,0,1,0,0] (RR cG [1,1,1,1,1,0,1,0,0] (fs (lH w v z y s A k t N b B x) u) r (KK SS cG [1,1,1,1,1,0,1,0] [] (EE SS cG Q))))) (iP 106 (sA t N N) (.int .i64 0) λq=>lL 103 (room h 11) q λn o p=>iP 103 (.slice n o p) (.int .i64 0) λm=>lL 107 (room h 11) m λi j l=>fP 29 (pA k) 1 λg=>lI (room h 11) g λf=>fP 29 (pA k) 2 λe=>lS (room h 11) e λd=>iP 107 (.slice i j l) (.int .i64 f) λc=>xU (ah SS.P 9 (.pointer (some c)) (strOf d) (room h 11)) (room h 11) λ_ a=>LL SS cG [1,1,1,1,1,1,1,0,1,0,0] (gJ w v z y s A k t N b B x 0) a (KK SS cG [1,1,1,1,1,1,1,0,1,0] [] (EE SS cG Q))))(r:Nat){i:Nat}{h:ae}(C:u r i h):LL SS cG [1,1,1,1,1,0,1,0,0] (lH w v z y s A k t N b B x i) h (KK SS cG [1,1,1,1,1,0,1,0] [] (EE SS cG Q)):=
 dc (lH w v z y s A k t N b B x) u (λr i D h C=>ai (step r i D h C)) r C
theorem Es(F:LV)(u:OA)(A x:Nat)(w:OA)(s y:Nat)(k t N:Nat)(b:OA)(z v:Nat)(B:Nat->Nat->ae->Prop)(D i:Nat)(r:Nat->Nat->ae->Prop)(Q:VH)(step:∀(q:Nat) (j:Nat) (E:Nat->Value) (h:ae),r q j h->au (decide (((j:Int):Int)<=(s:Int))) (iP 106 (sA t N N) (iA i) λp=>lL 103 (room h 9) p λm n o=>lA 29 (room h 9) (pA k) λl=>FW SS 74 [(.agg ⟨l⟩)] (room h 9) λg h=>yL g λd e f=>iP 103 (.slice m n o) (iA j) λc=>xU (ah SS.P 107 (.pointer (some c)) (.slice d e f) h) h λ_ a=>(aj SS.P 103 h (.pointer (some p))=some (.slice m n o)/\dG 4 (.slice m n o) (.slice m n o)=true)/\aJ (fs (qj u A x w s y k t N b z v i) r) q [(.slice u A x),(.slice w s y),(pA k),(.slice b z v),(sA t N N),(iA i),(.int .i64 (wrap .i64 ((j:Int)+1)))] a) (aJ (fs (lH u A x w s y k t N b z v) B) D [(.slice u A x),(.slice w s y),(pA k),(.slice b z v),(sA t N N),(.int .i64 (wrap .i64 ((i:Int)+1)))] h))(q:Nat){j:Nat}{h:ae}(C:r q j h):LL SS cG [1,1,1,1,1,0,1,0,0,1,0,0,1,1,0,0] (qj u A x w s y k t N b z v i j) h (KK SS cG [1,0,0,1,1,0] [1,1,1,1,1,0,1,0,0] (RR cG [1,1,1,1,1,0,1,0,0] (fs (lH u A x w s y k t N b z v) B) D (KK SS cG [1,1,1,1,1,0,1,0] [] (EE SS cG Q)))):=
 dc (qj u A x w s y k t N b z v i) r (λq j E h C=>ai (step q j E h C)) q C
theorem Et(B:LV)(t:OA)(q w:Nat)(v:OA)(r x:Nat)(k s N:Nat)(b:OA)(y u:Nat)(p:Nat->Nat->ae->Prop)(Q:VH)(step:∀(o:Nat) (i:Nat) (A:Nat->Value) (h:ae),p o i h->au (decide (((i:Int):Int)<=(q:Int))) (LL SS cG [1,1,1,1,1,1,1,0,1,0,0,1,0,0,1,0,0] (lJ t q w v r x k s N b y u i 0) h (KK SS cG [1,0,0,1,0] [1,1,1,1,1,1,1,0,1,0,0] (RR cG [1,1,1,1,1,1,1,0,1,0,0] (fs (gJ t q w v r x k s N b y u) p) o (KK SS cG [1,1,1,1,1,1,1,0,1,0] [] (EE SS cG Q))))) (lA 29 (room h 15) (pA k) λn=>iP 106 (sA s N N) (iA q) λm=>lL 103 (room h 15) m λj k l=>iP 103 (.slice j k l) (iA r) λi=>lL 107 (room h 15) i λe f g=>FW SS 78 [(.agg ⟨n⟩),(.slice e f g)] (room h 15) λc d=>∃b:LB,∃a:Int,c=(.tuple ⟨[(strOf b),(.int .i64 a)]⟩)/\Q (.tuple ⟨[(strOf b),(.int .i64 a)]⟩) d))(o:Nat){i:Nat}{h:ae}(z:p o i h):LL SS cG [1,1,1,1,1,1,1,0,1,0,0] (gJ t q w v r x k s N b y u i) h (KK SS cG [1,1,1,1,1,1,1,0,1,0] [] (EE SS cG Q)):=
 dc (gJ t q w v r x k s N b y u) p (λo i A h z=>ai (step o i A h z)) o z
theorem Eu(P:LV)(C:OA)(G E:Nat)(D:OA)(y F:Nat)(k x N:Nat)(b:OA)(A z:Nat)(H:Nat->Nat->ae->Prop)(I i:Nat)(B:Nat->Nat->ae->Prop)(Q:VH)(step:∀(w:Nat) (j:Nat) (O:Nat->Value) (h:ae),B w j h->au (decide (((j:Int):Int)<=(y:Int))) (lA 29 (room h 15) (pA k) λv=>iP 106 (sA x N N) (iA i) λu=>lL 103 (room h 15) u λr s t=>iP 103 (.slice r s t) (iA j) λq=>lL 107 (room h 15) q λn o p=>FW SS 75 [(.agg ⟨v⟩),(.slice n o p),(.slice b A z)] (room h 15) λl m=>∃(L:OA) (K J:Nat),∃h:Int,l=(.tuple ⟨[(.slice L K J),(.int .i64 h)]⟩)/\au (((h:Int) !=0)) (Q (.tuple ⟨[(strOf []),(.int .i64 h)]⟩) m) (iP 106 (sA x N N) (iA i) λg=>lL 103 m g λd e f=>iP 103 (.slice d e f) (iA j) λc=>xU (ah SS.P 107 (.pointer (some c)) (.slice L K J) m) m λ_ a=>LL SS cG [1,1,1,1,1,1,1,0,1,0,0,1,0,0,1,0,0,1,0,0,1,1,1,1,0,0] (fI C G E D y F k x N b A z i j L K J 1) a (KK SS cG [1,0,0,1,1,1,1,0] [1,1,1,1,1,1,1,0,1,0,0,1,0,0,1,0,0] (RR cG [1,1,1,1,1,1,1,0,1,0,0,1,0,0,1,0,0] (fs (lJ C G E D y F k x N b A z i) B) w (KK SS cG [1,0,0,1,0] [1,1,1,1,1,1,1,0,1,0,0] (RR cG [1,1,1,1,1,1,1,0,1,0,0] (fs (gJ C G E D y F k x N b A z) H) I (KK SS cG [1,1,1,1,1,1,1,0,1,0] [] (EE SS cG Q)))))))) (aJ (fs (gJ C G E D y F k x N b A z) H) I [(.slice C G E),(.slice D y F),(pA k),(.slice b A z),(sA x N N),(.int .i64 (wrap .i64 ((i:Int)+1)))] h))(w:Nat){j:Nat}{h:ae}(M:B w j h):LL SS cG [1,1,1,1,1,1,1,0,1,0,0,1,0,0,1,0,0] (lJ C G E D y F k x N b A z i j) h (KK SS cG [1,0,0,1,0] [1,1,1,1,1,1,1,0,1,0,0] (RR cG [1,1,1,1,1,1,1,0,1,0,0] (fs (gJ C G E D y F k x N b A z) H) I (KK SS cG [1,1,1,1,1,1,1,0,1,0] [] (EE SS cG Q)))):=
 dc (lJ C G E D y F k x N b A z i) B (λw j O h M=>ai (step w j O h M)) w M
theorem Ev(mv:LV)(G:OA)(F I:Nat)(D:OA)(C E:Nat)(k B N:Nat)(b:OA)(M K:Nat)(y9:Nat->Nat->ae->Prop)(z0 i:Nat)(y1:Nat->Nat->ae->Prop)(y8 j:Nat)(v:OA)(L O:Nat)(H:Nat->Nat->ae->Prop)(Q:VH)(step:∀(J:Nat) (q:Nat) (zz:Nat->Value) (h:ae),H J q h->au (decide (((q:Int):Int)<=3)) (xI .i64 (ay SS.P .shr 3 (iA q) (.int .u64 1)) λP=>au (decide ((wrap .i64 ((i:Int)+wrap .i64 ((BitVec.ofInt (IntKind.bits .i64) (q:Int)&&&BitVec.ofInt (IntKind.bits .i64) 1).toNat:Int)):Int)>(F:Int))) (aJ (fs (fI G F I D C E k B N b M K i j v L O) H) J [(.slice G F I),(.slice D C E),(pA k),(.slice b M K),(sA B N N),(iA i),(iA j),(.slice v L O),(.int .i64 (wrap .i64 ((q:Int)+1)))] h) (au (decide ((wrap .i64 ((j:Int)+P):Int)>(C:Int))) (aJ (fs (fI G F I D C E k B N b M K i j v L O) H) J [(.slice G F I),(.slice D C E),(pA k),(.slice b M K),(sA B N N),(iA i),(iA j),(.slice v L O),(.int .i64 (wrap .i64 ((q:Int)+1)))] h) (au (((wrap .i64 ((BitVec.ofInt (IntKind.bits .i64) (q:Int)&&&BitVec.ofInt (IntKind.bits .i64) 1).toNat:Int):Int)==1)) (iP 22 (.slice G F I) (iA i) λa6=>lI h a6 λa5=>au (((P:Int)==1)) (iP 22 (.slice D C E) (iA j) λa4=>lI h a4 λa3=>lA 29 h (pA k) λR=>FW SS 76 [(.agg ⟨R⟩),(.slice v L O),(.int .i64 a5),(.int .i64 a3),(.bool false)] h λS A=>∃(x3:OA) (y4 Z:Nat),∃z:Int,S=(.tuple ⟨[(.slice x3 y4 Z),(.int .i64 z)]⟩)/\au (((z:Int) !=0)) (Q (.tuple ⟨[(strOf []),(.int .i64 z)]⟩) A) (xP (aD SS.P 106 (sA B N N) (.int .i64 (wrap .i64 ((i:Int)+wrap .i64 ((BitVec.ofInt (IntKind.bits .i64) (q:Int)&&&BitVec.ofInt (IntKind.bits .i64) 1).toNat:Int))))) λy=>lL 103 (room A 30) y λu w x=>fP 29 (pA k) 0 λt=>lI (room A 30) t λs=>xP (aD SS.P 106 (sA B N N) (.int .i64 (wrap .i64 ((i:Int)+wrap .i64 ((BitVec.ofInt (IntKind.bits .i64) (q:Int)&&&BitVec.ofInt (IntKind.bits .i64) 1).toNat:Int))))) λr=>lL 103 (room A 30) r λn o p=>iP 103 (.slice n o p) (.int .i64 (wrap .i64 ((j:Int)+P))) λm=>lL 107 (room A 30) m λg h l=>FW SS 77 [(.int .i64 s),(.slice g h l),(.slice x3 y4 Z)] (room A 30) λe f=>∃(W:OA) (X x5:Nat),∃d:Int,e=(.tuple ⟨[(.slice W X x5),(.int .i64 d)]⟩)/\iP 103 (.slice u w x) (.int .i64 (wrap .i64 ((j:Int)+P))) λc=>xU (ah SS.P 107 (.pointer (some c)) (.slice W X x5) f) f λ_ a=>(aj SS.P 103 f (.pointer (some y))=some (.slice u w x)/\dG 4 (.slice u w x) (.slice u w x)=true)/\au (((d:Int) !=0)) (Q (.tuple ⟨[(strOf []),(.int .i64 d)]⟩) a) (aJ (fs (fI G F I D C E k B N b M K i j v L O) H) J [(.slice G F I),(.slice D C E),(pA k),(.slice b M K),(sA B N N),(iA i),(iA j),(.slice v L O),(.int .i64 (wrap .i64 ((q:Int)+1)))] a))) (lA 29 h (pA k) λR=>FW SS 76 [(.agg ⟨R⟩),(.slice v L O),(.int .i64 a5),(.int .i64 0),(.bool false)] h λS A=>∃(x7:OA) (V y7:Nat),∃z:Int,S=(.tuple ⟨[(.slice x7 V y7),(.int .i64 z)]⟩)/\au (((z:Int) !=0)) (Q (.tuple ⟨[(strOf []),(.int .i64 z)]⟩) A) (xP (aD SS.P 106 (sA B N N) (.int .i64 (wrap .i64 ((i:Int)+wrap .i64 ((BitVec.ofInt (IntKind.bits .i64) (q:Int)&&&BitVec.ofInt (IntKind.bits .i64) 1).toNat:Int))))) λy=>lL 103 (room A 30) y λu w x=>fP 29 (pA k) 0 λt=>lI (room A 30) t λs=>xP (aD SS.P 106 (sA B N N) (.int .i64 (wrap .i64 ((i:Int)+wrap .i64 ((BitVec.ofInt (IntKind.bits .i64) (q:Int)&&&BitVec.ofInt (IntKind.bits .i64) 1).toNat:Int))))) λr=>lL 103 (room A 30) r λn o p=>iP 103 (.slice n o p) (.int .i64 (wrap .i64 ((j:Int)+P))) λm=>lL 107 (room A 30) m λg h l=>FW SS 77 [(.int .i64 s),(.slice g h l),(.slice x7 V y7)] (room A 30) λe f=>∃(y3:OA) (x2 y0:Nat),∃d:Int,e=(.tuple ⟨[(.slice y3 x2 y0),(.int .i64 d)]⟩)/\iP 103 (.slice u w x) (.int .i64 (wrap .i64 ((j:Int)+P))) λc=>xU (ah SS.P 107 (.pointer (some c)) (.slice y3 x2 y0) f) f λ_ a=>(aj SS.P 103 f (.pointer (some y))=some (.slice u w x)/\dG 4 (.slice u w x) (.slice u w x)=true)/\au (((d:Int) !=0)) (Q (.tuple ⟨[(strOf []),(.int .i64 d)]⟩) a) (aJ (fs (fI G F I D C E k B N b M K i j v L O) H) J [(.slice G F I),(.slice D C E),(pA k),(.slice b M K),(sA B N N),(iA i),(iA j),(.slice v L O),(.int .i64 (wrap .i64 ((q:Int)+1)))] a)))) (au (((P:Int)==1)) (iP 22 (.slice D C E) (iA j) λa4=>lI h a4 λa3=>lA 29 h (pA k) λR=>FW SS 76 [(.agg ⟨R⟩),(.slice v L O),(.int .i64 0),(.int .i64 a3),(.bool false)] h λS A=>∃(y6:OA) (y5 x0:Nat),∃z:Int,S=(.tuple ⟨[(.slice y6 y5 x0),(.int .i64 z)]⟩)/\au (((z:Int) !=0)) (Q (.tuple ⟨[(strOf []),(.int .i64 z)]⟩) A) (xP (aD SS.P 106 (sA B N N) (.int .i64 (wrap .i64 ((i:Int)+wrap .i64 ((BitVec.ofInt (IntKind.bits .i64) (q:Int)&&&BitVec.ofInt (IntKind.bits .i64) 1).toNat:Int))))) λy=>lL 103 (room A 30) y λu w x=>fP 29 (pA k) 0 λt=>lI (room A 30) t λs=>xP (aD SS.P 106 (sA B N N) (.int .i64 (wrap .i64 ((i:Int)+wrap .i64 ((BitVec.ofInt (IntKind.bits .i64) (q:Int)&&&BitVec.ofInt (IntKind.bits .i64) 1).toNat:Int))))) λr=>lL 103 (room A 30) r λn o p=>iP 103 (.slice n o p) (.int .i64 (wrap .i64 ((j:Int)+P))) λm=>lL 107 (room A 30) m λg h l=>FW SS 77 [(.int .i64 s),(.slice g h l),(.slice y6 y5 x0)] (room A 30) λe f=>∃(y2:OA) (x9 Y:Nat),∃d:Int,e=(.tuple ⟨[(.slice y2 x9 Y),(.int .i64 d)]⟩)/\iP 103 (.slice u w x) (.int .i64 (wrap .i64 ((j:Int)+P))) λc=>xU (ah SS.P 107 (.pointer (some c)) (.slice y2 x9 Y) f) f λ_ a=>(aj SS.P 103 f (.pointer (some y))=some (.slice u w x)/\dG 4 (.slice u w x) (.slice u w x)=true)/\au (((d:Int) !=0)) (Q (.tuple ⟨[(strOf []),(.int .i64 d)]⟩) a) (aJ (fs (fI G F I D C E k B N b M K i j v L O) H) J [(.slice G F I),(.slice D C E),(pA k),(.slice b M K),(sA B N N),(iA i),(iA j),(.slice v L O),(.int .i64 (wrap .i64 ((q:Int)+1)))] a))) (lA 29 h (pA k) λR=>FW SS 76 [(.agg ⟨R⟩),(.slice v L O),(.int .i64 0),(.int .i64 0),(.bool false)] h λS A=>∃(x1:OA) (T x8:Nat),∃z:Int,S=(.tuple ⟨[(.slice x1 T x8),(.int .i64 z)]⟩)/\au (((z:Int) !=0)) (Q (.tuple ⟨[(strOf []),(.int .i64 z)]⟩) A) (xP (aD SS.P 106 (sA B N N) (.int .i64 (wrap .i64 ((i:Int)+wrap .i64 ((BitVec.ofInt (IntKind.bits .i64) (q:Int)&&&BitVec.ofInt (IntKind.bits .i64) 1).toNat:Int))))) λy=>lL 103 (room A 30) y λu w x=>fP 29 (pA k) 0 λt=>lI (room A 30) t λs=>xP (aD SS.P 106 (sA B N N) (.int .i64 (wrap .i64 ((i:Int)+wrap .i64 ((BitVec.ofInt (IntKind.bits .i64) (q:Int)&&&BitVec.ofInt (IntKind.bits .i64) 1).toNat:Int))))) λr=>lL 103 (room A 30) r λn o p=>iP 103 (.slice n o p) (.int .i64 (wrap .i64 ((j:Int)+P))) λm=>lL 107 (room A 30) m λg h l=>FW SS 77 [(.int .i64 s),(.slice g h l),(.slice x1 T x8)] (room A 30) λe f=>∃(x4:OA) (U x6:Nat),∃d:Int,e=(.tuple ⟨[(.slice x4 U x6),(.int .i64 d)]⟩)/\iP 103 (.slice u w x) (.int .i64 (wrap .i64 ((j:Int)+P))) λc=>xU (ah SS.P 107 (.pointer (some c)) (.slice x4 U x6) f) f λ_ a=>(aj SS.P 103 f (.pointer (some y))=some (.slice u w x)/\dG 4 (.slice u w x) (.slice u w x)=true)/\au (((d:Int) !=0)) (Q (.tuple ⟨[(strOf []),(.int .i64 d)]⟩) a) (aJ (fs (fI G F I D C E k B N b M K i j v L O) H) J [(.slice G F I),(.slice D C E),(pA k),(.slice b M K),(sA B N N),(iA i),(iA j),(.slice v L O),(.int .i64 (wrap .i64 ((q:Int)+1)))] a))))))) (aJ (fs (lJ G F I D C E k B N b M K i) y1) y8 [(.slice G F I),(.slice D C E),(pA k),(.slice b M K),(sA B N N),(iA i),(.int .i64 (wrap .i64 ((j:Int)+1)))] h))(J:Nat){q:Nat}{h:ae}(hi:H J q h):LL SS cG [1,1,1,1,1,1,1,0,1,0,0,1,0,0,1,0,0,1,0,0,1,1,1,1,0,0] (fI G F I D C E k B N b M K i j v L O q) h (KK SS cG [1,0,0,1,1,1,1,0] [1,1,1,1,1,1,1,0,1,0,0,1,0,0,1,0,0] (RR cG [1,1,1,1,1,1,1,0,1,0,0,1,0,0,1,0,0] (fs (lJ G F I D C E k B N b M K i) y1) y8 (KK SS cG [1,0,0,1,0] [1,1,1,1,1,1,1,0,1,0,0] (RR cG [1,1,1,1,1,1,1,0,1,0,0] (fs (gJ G F I D C E k B N b M K) y9) z0 (KK SS cG [1,1,1,1,1,1,1,0,1,0] [] (EE SS cG Q)))))):=
 dc (fI G F I D C E k B N b M K i j v L O) H (λJ q zz h hi=>ai (step J q zz h hi)) J hi
noncomputable def sV:FD:=cF Tryz.f15 [([1,1,0,1,0,0],[0,3])]
abbrev ni(a:OA)(c b:Nat)(i:Nat):LV:=[(.slice a c b),(iA i)]
theorem Xe(b:OA)(a c:Nat)(h:ae)(Q:VH)(d:au (decide (((a:Int):Int)>200)) (Q (.bool false) h) (LL SS sV [1,1,0,1,0,0] (ni b a c 0) h (KK SS sV [1,1,0,1,0] [] (EE SS sV Q)))):FW SS 15 [(.slice b a c)] h Q:=cI sV Tryz.func15 (ai d)
theorem AT(j:OA)(f k:Nat)  (g:Nat->Nat->ae->Prop) (Q:VH) (step:∀(e:Nat)(i:Nat)(m:Nat->Value)(h:ae),g e i h->au (decide (((i:Int):Int)<(f:Int))) (iP 22 (.slice j f k) (iA i) λd=>lI h d λc=>au (decide ((c:Int)<1)) (Q (.bool false) h) (iP 22 (.slice j f k) (iA i) λb=>lI h b λa=>au (decide ((a:Int)>500)) (Q (.bool false) h) (aJ (fs (ni j f k) g) e [(.slice j f k),(.int .i64 (wrap .i64 ((i:Int)+1)))] h))) (Q (.bool true) h)) (e:Nat) {i:Nat} {h:ae} (l:g e i h):LL SS sV [1,1,0,1,0,0] (ni j f k i) h (KK SS sV [1,1,0,1,0] [] (EE SS sV Q)):=
 dc (ni j f k) g (λe i m h l=>ai (step e i m h l)) e l
variable{p:List Int}{g:ae}{a:Option Addr}
def wO(l:List Int):List Value:=l.map λz=> .int .i64 z
theorem jD(l:List Int):(wO l).length=l.length:=lM _
theorem Uf(h:i<p.length):(wO p).getD i undef = .int .i64 (p.getD i 0):=by
 unfold wO;rw[gD,getElem?_map,gD,gE h];rfl
def dL(h:ae)(v:Value)(l:List Int):Prop:=
 (v = .slice none 0 0/\l=[])\/ ∃k a cs c b e z,v = .slice (some ⟨k,a,none⟩) l.length c/\h.get k=some (.cells cs e z b)/\(e=3/\z=1\/z=0)/\(cs.drop a).take l.length=wO l
theorem dL.ok(r:dL h v p)(o:Ok h g):dL g v p:=by
 rcases r with r|⟨k,a,cs,c,f,e,z,d,i,b,j⟩
 ·exact .inl r
 ·exact .inr ⟨k,a,cs,c,f,e,z,d,o.ext _ _ i,b,j⟩
theorem dL.OM(r:Rd h 3 v (wO p)):dL h v p:=by
 rcases r with⟨b,d⟩|⟨k,f,cs,c,g,b,d,e⟩
 ·left;refine⟨b,?_⟩
  cases p with
  |nil=>rfl
  |cons a p=>cases d
 ·rw[jD]at b e;exact .inr ⟨k,f,cs,c,g,3,1,b,d,.inl ⟨rfl,rfl⟩,e⟩
theorem dL.at_{l:List Int}(r:dL h v l){i:Nat}(d:i<l.length):∃p:Addr,aD SS.P 22 v (iA i)=some (.pointer (some p))/\aj SS.P 3 h (.pointer (some p))=some (.int .i64 (l.getD i 0)):=by
 rcases r with⟨_,rfl⟩|⟨k,a,cs,c,q,e,z,rfl,m,_,g⟩
 ·exact absurd d (by simp)
 have b:((cs.drop a).take l.length).length=l.length:=by rw[g,jD]
 rw[length_take,length_drop]at b;have f:=Qo (P:=SS.P) qG Sr (k:=k) (off:=a) (n:=l.length) (c:=c) (ik:= .i64) (i:=(i:Int)) (by omega) (by omega);have o:a+((i:Int)).toNat*1=a+i:=by omega
 rw[o]at f;refine⟨_,f,?_⟩;have j:cs.getD (a+i) undef = .int .i64 (l.getD i 0):=by
  rw[<-Uf d,<-g,gD,gD,List.getElem?_take,if_pos d,List.getElem?_drop]
 rw[cq G0 FT m (by omega),j]
theorem dL.len{c:Nat}(r:dL h (.slice a n c) p):n=p.length:=by
 rcases r with⟨b,rfl⟩|⟨k,d,cs,f,g,e,z,b,_⟩
 ·injection b
 ·injection b
def sM(z:Int):Bool:=decide (1<=z)&&decide (z<=500)
def eD(l:List Int):Bool:=decide (l.length<=200)&&l.all sM
theorem Hy(h:i<p.length):p.drop i=p.getD i 0::p.drop (i+1):=by
 rw[List.drop_eq_getElem_cons h,gD,gE h];rfl
theorem zn{c:Nat}{l:List Int}(r:dL h (.slice a n c) l):FW SS 15 [.slice a n c] h (λv g=>v = .bool (eD l)/\g=h):=by
 obtain rfl:=dL.len r;refine Xe a _ c h _ (aa (λq=>⟨?_,rfl⟩) (λq=>?_))
 ·have:¬l.length<=200:=by have:=dT q;omega
  unfold eD;rw[decide_eq_false this];rfl
 ·have t:l.length<=200:=by have:=dF q;omega
  have u:eD l=l.all sM:=by unfold eD;rw[decide_eq_true t,Bool.true_and]
  rw[u];refine AT a _ c (λm i g=>i<=l.length/\m=l.length-i/\g=h/\(l.drop i).all sM=l.all sM) _ (λm i=>?_) l.length (i:=0) ⟨by omega,rfl,rfl,by rw[drop_zero]⟩;intros;rename_i g k;obtain⟨z,y,rfl,b⟩:=k;refine aa (λq=>?_) (λq=>?_)
  ·have j:i<l.length:=by have:=dT q;omega
   obtain⟨p,o,s⟩:=r.at_ j;rw[Hy j,all_cons]at b;refine⟨_,o,_,s,aa (λf=>⟨?_,rfl⟩) (λf=>⟨_,o,_,s,aa (λd=>⟨?_,rfl⟩) (λd=>?_)⟩)⟩
   ·have:¬1<=l.getD i 0:=by have:=dT f;omega
    rw[<-b];unfold sM;rw[decide_eq_false this];rfl
   ·have:¬l.getD i 0<=500:=by have:=dT d;omega
    rw[<-b];unfold sM;rw[decide_eq_false this,Bool.and_false];rfl
   ·have e:sM (l.getD i 0)=true:=by
     unfold sM;have w:=dF f;have x:=dF d;rw[decide_eq_true (show 1<=l.getD i 0 by omega),decide_eq_true (show l.getD i 0<=500 by omega)];rfl
    rw[e,Bool.true_and]at b;rw[aP j (by omega)];exact bZ (l.length-(i+1)) (by omega) ⟨by omega,rfl,rfl,b⟩
  ·obtain rfl:i=l.length:=by have:=dF q;omega
   rw[drop_length]at b;exact⟨by rw[<-b];rfl,rfl⟩
noncomputable def rP:FD:=cF Tryz.f13 [([1,1,1,1,1,0,1,0,0],[1,2,8,10,11,42,43])]
abbrev qv(a:OA)(g e:Nat)(d:OA)(b f c k m:Nat)(s i:Nat):LV:=[(.slice a g e),(.slice d b f),(pA c),(pA k),(iA s),(iA m),(iA i)]
theorem Tq(y:Int)(B:OA)(A D:Nat)(C:OA)(z E:Nat)(w:LB)(h:ae)(Q:VH)(F:xN (br SS.P 29) h λ_ x=>FW SS 40 [(.slice B A D)] x λu v=>yB u λt=>au (!t) (xA (bd SS.P 29 []) λb=>xU (ah SS.P 29 (pA (h.next)) (.agg ⟨b⟩) v) v λ_ a=>ef SS [((pA (h.next)),some 29),((.int .i64 1),none)] a Q) (FW SS 40 [(.slice C z E)] v λr s=>yB r λq=>au (!q) (xA (bd SS.P 29 []) λb=>xU (ah SS.P 29 (pA (h.next)) (.agg ⟨b⟩) s) s λ_ a=>ef SS [((pA (h.next)),some 29),((.int .i64 1),none)] a Q) (FW SS 41 [(.int .i64 y),(strOf w)] s λo p=>yB o λn=>au (!n) (xA (bd SS.P 29 []) λb=>xU (ah SS.P 29 (pA (h.next)) (.agg ⟨b⟩) p) p λ_ a=>ef SS [((pA (h.next)),some 29),((.int .i64 1),none)] a Q) (FW SS 42 [(.int .i64 y)] p λl m=>yO l λk=>IV SS.P k m λi j=>fP 65 i 0 λg=>fP 29 (.pointer (some g)) 2 λf=>xU (ah SS.P 9 (.pointer (some f)) (strOf w) j) j λ_ e=>FW SS 43 [(.pointer k),(strOf [])] e λc d=>yI .i64 c λb=>xI .i64 (sf true [(iA A),(iA z)]) λa=>LL SS rP [1,1,1,1,1,0,1,0,0] [(.slice B A D),(.slice C z E),(pA (h.next)),(.pointer k),(.int .i64 b),(.int .i64 a),(.int .i64 0)] d (KK SS rP [1,1,1,1,1,0,1,0] [] (EE SS rP Q)))))):FW SS 13 [(.int .i64 y),(.slice B A D),(.slice C z E),(strOf w)] h Q:=cI rP Tryz.func13 (ai F)
theorem zS(E:Int)(v:OA)(B z:Nat)(y:OA)(x A:Nat)(w:LB)(u k m:Nat)(t:Nat->Nat->Nat->ae->Prop)(Q:VH)(step:∀(r:Nat) (s i:Nat) (D:Nat->Value) (h:ae),t r s i h->au (decide (((i:Int):Int)<(m:Int))) (FW SS 43 [(pA k),(strOf [])] h λp q=>yI .i64 p λo=>FW SS 45 [(.slice v B z),(iA i)] (room q 15) λl n=>yI .i64 l λj=>FW SS 45 [(.slice y x A),(iA i)] n λg h=>yI .i64 g λf=>fP 65 (pA k) 1 λe=>lS h e λd=>xA (bd SS.P 70 [(0,(.int .i64 j)),(1,(.int .i64 f)),(2,(strOf d)),(3,(.int .i64 o))]) λc=>FW SS 44 [(pA k),(iA s),(.agg ⟨c⟩)] h λa b=>a=(.tuple ⟨[]⟩)/\(aj SS.P 9 (room q 15) (.pointer (some e))=some (strOf d)/\dG 4 (strOf d) (strOf d)=true)/\(aj SS.P 9 n (.pointer (some e))=some (strOf d)/\dG 4 (strOf d) (strOf d)=true)/\aJ (pL (qv v B z y x A u k m) t) r [(.slice v B z),(.slice y x A),(pA u),(pA k),(.int .i64 o),(iA m),(.int .i64 (wrap .i64 ((i:Int)+1)))] b) (fP 65 (pA k) 0 λq=>fP 29 (.pointer (some q)) 3 λp=>lL 27 (room h 13) p λm n o=>fP 65 (pA k) 1 λl=>lS (room h 13) l λj=>iP 27 (.slice m n o) (iA s) λi=>fP 73 (.pointer (some i)) 0 λg=>xU (ah SS.P 9 (.pointer (some g)) (strOf j) (room h 13)) (room h 13) λ_ f=>FW SS 46 [(pA k)] f λd e=>∃c:LV,∃b:Int,d=(.tuple ⟨[(.agg ⟨c⟩),(.int .i64 b)]⟩)/\xU (ah SS.P 29 (pA u) (.agg ⟨c⟩) e) e λ_ a=>ef SS [((pA u),some 29),((.int .i64 b),none)] a Q))(r:Nat){s i:Nat}{h:ae}(C:t r s i h):LL SS rP [1,1,1,1,1,0,1,0,0] (qv v B z y x A u k m s i) h (KK SS rP [1,1,1,1,1,0,1,0] [] (EE SS rP Q)):=
 mh (qv v B z y x A u k m) t (λr s i D h C=>ai (step r s i D h C)) r C
noncomputable def o0:FD:=cF Tryz.f25 [([1,1,1,1,0,1,0,0],[4,7,8,25,26,27])]
abbrev lW(b k s a n c:Nat)(i:Nat):LV:=[(pA b),(pA k),(iA s),(sA a n c),(iA n),(iA i)]
theorem PK(x w:LV)(h:ae)(Q:VH)(y:xN (eL SS.P 29 (.agg ⟨x⟩)) h λ_ v=>xN (eL SS.P 29 (.agg ⟨w⟩)) v λ_ u=>xN (br SS.P 29) u λ_ t=>lA 29 t (pA (h.next)) λs=>lA 29 t (pA (v.next)) λr=>FW SS 57 [(.agg ⟨s⟩),(.agg ⟨r⟩)] t λp q=>yI .i64 p λo=>au (((o:Int) !=0)) (xA (bd SS.P 29 []) λb=>xU (ah SS.P 29 (pA (u.next)) (.agg ⟨b⟩) q) q λ_ a=>ef SS [((pA (u.next)),some 29),((.int .i64 o),none)] a Q) (fP 29 (pA (h.next)) 0 λn=>lI q n λm=>FW SS 42 [(.int .i64 m)] q λk l=>yO k λj=>FW SS 43 [(.pointer j),(strOf [])] l λg i=>yI .i64 g λf=>lA 29 i (pA (h.next)) λe=>lA 29 i (pA (v.next)) λd=>xR (aI SS.P 86 2 [(0,(.agg ⟨e⟩)),(1,(.agg ⟨d⟩))]) i λ_ a b c=>LL SS o0 [1,1,1,1,0,1,0,0] [(pA (u.next)),(.pointer j),(.int .i64 f),(sA (i.next) a b),(iA a),(.int .i64 0)] c (KK SS o0 [1,1,1,1,0,1,0] [] (EE SS o0 Q)))):FW SS 25 [(.agg ⟨x⟩),(.agg ⟨w⟩)] h Q:=cI o0 Tryz.func25 (ai y)
theorem xM(z y:LV)(u k s v n c:Nat)(t:Nat->Nat->ae->Prop)(Q:VH)(step:∀(r:Nat) (i:Nat) (x:Nat->Value) (h:ae),t r i h->au (decide (((i:Int):Int)<(n:Int))) (iP 86 (sA v n c) (iA i) λq=>lA 29 h (.pointer (some q)) λp=>xN (br SS.P 29) h λ_ o=>xU (ah SS.P 29 (pA (h.next)) (.agg ⟨p⟩) o) o λ_ m=>fP 29 (pA (h.next)) 2 λl=>lS (room m 8) l λj=>lA 29 (room m 8) (pA (h.next)) λg=>FW SS 59 [(pA k),(.agg ⟨g⟩),(.func (.func 60) ⟨[]⟩ ⟨[]⟩)] (room m 8) λe f=>yI .i64 e λd=>FW SS 58 [(pA k),(iA s),(strOf j),(.int .i64 d)] f λa b=>a=(.tuple ⟨[]⟩)/\(aj SS.P 9 f (.pointer (some l))=some (strOf j)/\dG 4 (strOf j) (strOf j)=true)/\aJ (fs (lW u k s v n c) t) r [(pA u),(pA k),(iA s),(sA v n c),(iA n),(.int .i64 (wrap .i64 ((i:Int)+1)))] b) (FW SS 46 [(pA k)] h λd e=>∃c:LV,∃b:Int,d=(.tuple ⟨[(.agg ⟨c⟩),(.int .i64 b)]⟩)/\xU (ah SS.P 29 (pA u) (.agg ⟨c⟩) e) e λ_ a=>ef SS [((pA u),some 29),((.int .i64 b),none)] a Q))(r:Nat){i:Nat}{h:ae}(w:t r i h):LL SS o0 [1,1,1,1,0,1,0,0] (lW u k s v n c i) h (KK SS o0 [1,1,1,1,0,1,0] [] (EE SS o0 Q)):=
 dc (lW u k s v n c) t (λr i x h w=>ai (step r i x h w)) r w
noncomputable def PC:FD:=cF Tryz.f31 []
theorem Mk(H E:LV)(h:ae)(Q:VH)(R:xN (eL SS.P 29 (.agg ⟨H⟩)) h λ_ C=>xN (eL SS.P 29 (.agg ⟨E⟩)) C λ_ B=>xN (br SS.P 29) B λ_ F=>lA 29 F (pA (h.next)) λL=>lA 29 F (pA (C.next)) λS=>FW SS 57 [(.agg ⟨L⟩),(.agg ⟨S⟩)] F λY D=>yI .i64 Y λI=>au (((I:Int) !=0)) (xA (bd SS.P 29 []) λb=>xU (ah SS.P 29 (pA (B.next)) (.agg ⟨b⟩) D) D λ_ a=>ef SS [((pA (B.next)),some 29),((.int .i64 I),none)] a Q) (fP 29 (pA (h.next)) 0 λK=>lI D K λZ=>FW SS 42 [(.int .i64 Z)] D λT G=>yO T λA=>fP 29 (pA (h.next)) 2 λM=>lS G M λW=>fP 29 (pA (C.next)) 2 λP=>lS G P λX=>FW SS 63 [(.pointer A),(strOf W),(strOf X)] G λU V=>yS U λN=>IV SS.P A V λO J=>fP 65 O 0 λz=>fP 29 (.pointer (some z)) 2 λy=>xU (ah SS.P 9 (.pointer (some y)) (strOf N) J) J λ_ x=>lA 29 x (pA (C.next)) λw=>FW SS 59 [(.pointer A),(.agg ⟨w⟩),(.func (.func 60) ⟨[]⟩ ⟨[]⟩)] x λu v=>yI .i64 u λt=>lA 29 (room v 11) (pA (h.next)) λs=>FW SS 64 [(.pointer A),(.int .i64 t)] (room v 11) λq r=>yF q λn o p=>FW SS 59 [(.pointer A),(.agg ⟨s⟩),(.func (.func n) ⟨o⟩ ⟨p⟩)] r λl m=>yI .i64 l λk=>IV SS.P A m λj _=>fP 65 j 0 λi=>fP 29 (.pointer (some i)) 1 λg=>xU (ah SS.P 3 (.pointer (some g)) (.int .i64 k) m) m λ_ f=>(aj SS.P 29 r (pA (h.next))=some (.agg ⟨s⟩)/\dG 4 (.agg ⟨s⟩) (.agg ⟨s⟩)=true)/\FW SS 46 [(.pointer A)] f λd e=>∃c:LV,∃b:Int,d=(.tuple ⟨[(.agg ⟨c⟩),(.int .i64 b)]⟩)/\xU (ah SS.P 29 (pA (B.next)) (.agg ⟨c⟩) e) e λ_ a=>ef SS [((pA (B.next)),some 29),((.int .i64 b),none)] a Q)):FW SS 31 [(.agg ⟨H⟩),(.agg ⟨E⟩)] h Q:=cI PC Tryz.func31 (ai R)
noncomputable def X7:FD:=cF Tryz.f33 []
theorem Tk(D:LV)(h:ae)(Q:VH)(I:xN (eL SS.P 29 (.agg ⟨D⟩)) h λ_ B=>xN (br SS.P 29) B λ_ E=>lA 29 E (pA (h.next)) λM=>FW SS 66 [(.agg ⟨M⟩)] E λF C=>yB F λH=>au (!H) (xA (bd SS.P 29 []) λb=>xU (ah SS.P 29 (pA (B.next)) (.agg ⟨b⟩) C) C λ_ a=>ef SS [((pA (B.next)),some 29),((.int .i64 1),none)] a Q) (fP 29 (pA (h.next)) 0 λK=>lI C K λJ=>FW SS 42 [(.int .i64 J)] C λL G=>yO L λA=>IV SS.P A G λy z=>fP 65 y 1 λx=>lS z x λw=>FW SS 43 [(.pointer A),(strOf w)] z λu v=>yI .i64 u λt=>fP 29 (pA (h.next)) 2 λs=>lS (room v 11) s λr=>lA 29 (room v 11) (pA (h.next)) λq=>FW SS 64 [(.pointer A),(.int .i64 t)] (room v 11) λo p=>yF o λl m n=>FW SS 59 [(.pointer A),(.agg ⟨q⟩),(.func (.func l) ⟨m⟩ ⟨n⟩)] p λj k=>yI .i64 j λi=>FW SS 58 [(.pointer A),(.int .i64 t),(strOf r),(.int .i64 i)] k λf g=>f=(.tuple ⟨[]⟩)/\(aj SS.P 9 p (.pointer (some s))=some (strOf r)/\dG 4 (strOf r) (strOf r)=true)/\(aj SS.P 9 k (.pointer (some s))=some (strOf r)/\dG 4 (strOf r) (strOf r)=true)/\(aj SS.P 29 p (pA (h.next))=some (.agg ⟨q⟩)/\dG 4 (.agg ⟨q⟩) (.agg ⟨q⟩)=true)/\FW SS 46 [(.pointer A)] g λd e=>∃c:LV,∃b:Int,d=(.tuple ⟨[(.agg ⟨c⟩),(.int .i64 b)]⟩)/\xU (ah SS.P 29 (pA (B.next)) (.agg ⟨c⟩) e) e λ_ a=>ef SS [((pA (B.next)),some 29),((.int .i64 b),none)] a Q)):FW SS 33 [(.agg ⟨D⟩)] h Q:=cI X7 Tryz.func33 (ai I)
noncomputable def Tj:FD:=cF Tryz.f37 []
theorem PE(D:LV)(w:LB)(h:ae)(Q:VH)(L:xN (eL SS.P 29 (.agg ⟨D⟩)) h λ_ A=>xN (br SS.P 29) A λ_ E=>lA 29 E (pA (h.next)) λR=>FW SS 66 [(.agg ⟨R⟩)] E λG C=>yB G λK=>au (!K) (xA (bd SS.P 29 []) λb=>xU (ah SS.P 29 (pA (A.next)) (.agg ⟨b⟩) C) C λ_ a=>ef SS [((pA (A.next)),some 29),((.int .i64 1),none)] a Q) (fP 29 (pA (h.next)) 0 λH=>lI C H λO=>FW SS 41 [(.int .i64 O),(strOf w)] C λP B=>yB P λN=>au (!N) (xA (bd SS.P 29 []) λb=>xU (ah SS.P 29 (pA (A.next)) (.agg ⟨b⟩) B) B λ_ a=>ef SS [((pA (A.next)),some 29),((.int .i64 1),none)] a Q) (fP 29 (pA (h.next)) 0 λM=>lI B M λI=>FW SS 42 [(.int .i64 I)] B λJ F=>yO J λz=>fP 29 (pA (h.next)) 2 λy=>lS F y λx=>FW SS 63 [(.pointer z),(strOf w),(strOf x)] F λu v=>yS u λt=>IV SS.P z v λr s=>fP 65 r 0 λq=>fP 29 (.pointer (some q)) 2 λp=>xU (ah SS.P 9 (.pointer (some p)) (strOf t) s) s λ_ o=>lA 29 o (pA (h.next)) λn=>FW SS 59 [(.pointer z),(.agg ⟨n⟩),(.func (.func 60) ⟨[]⟩ ⟨[]⟩)] o λl m=>yI .i64 l λk=>IV SS.P z m λi j=>fP 65 i 0 λh=>fP 29 (.pointer (some h)) 1 λg=>xU (ah SS.P 3 (.pointer (some g)) (.int .i64 k) j) j λ_ f=>FW SS 46 [(.pointer z)] f λd e=>∃c:LV,∃b:Int,d=(.tuple ⟨[(.agg ⟨c⟩),(.int .i64 b)]⟩)/\xU (ah SS.P 29 (pA (A.next)) (.agg ⟨c⟩) e) e λ_ a=>ef SS [((pA (A.next)),some 29),((.int .i64 b),none)] a Q))):FW SS 37 [(.agg ⟨D⟩),(strOf w)] h Q:=cI Tj Tryz.func37 (ai L)
noncomputable def fL:FD:=cF Tryz.f35 [([1,1,1,0,1,0,0],[1,2,3,6,8,33,34]),([1,1,1,1,0,1,0,0],[1,2,3,6,8,48,49])]
abbrev kV(n a:Int)(d c k:Nat)(b:Int)(i:Nat):LV:=[(.int .i64 n),(.int .i64 a),(pA d),(pA c),(pA k),(.int .i64 b),(iA i)]
abbrev kW(n a:Int)(c b k:Nat)(i:Nat):LV:=[(.int .i64 n),(.int .i64 a),(pA c),(pA b),(pA k),(.int .i64 a),(iA i)]
theorem Mm(o:LV)(n m:Int)(h:ae)(Q:VH)(p:xN (eL SS.P 29 (.agg ⟨o⟩)) h λ_ l=>xN (br SS.P 29) l λ_ k=>lA 29 k (pA (h.next)) λj=>FW SS 66 [(.agg ⟨j⟩)] k λg i=>yB g λf=>au (!f) (xA (bd SS.P 29 []) λb=>xU (ah SS.P 29 (pA (l.next)) (.agg ⟨b⟩) i) i λ_ a=>ef SS [((pA (l.next)),some 29),((.int .i64 1),none)] a Q) (au (decide ((n:Int)<0)) (xA (bd SS.P 29 []) λb=>xU (ah SS.P 29 (pA (l.next)) (.agg ⟨b⟩) i) i λ_ a=>ef SS [((pA (l.next)),some 29),((.int .i64 1),none)] a Q) (au (decide ((m:Int)<n)) (xA (bd SS.P 29 []) λb=>xU (ah SS.P 29 (pA (l.next)) (.agg ⟨b⟩) i) i λ_ a=>ef SS [((pA (l.next)),some 29),((.int .i64 1),none)] a Q) (au (decide ((m:Int)>30)) (xA (bd SS.P 29 []) λb=>xU (ah SS.P 29 (pA (l.next)) (.agg ⟨b⟩) i) i λ_ a=>ef SS [((pA (l.next)),some 29),((.int .i64 1),none)] a Q) (fP 29 (pA (h.next)) 0 λe=>lI i e λd=>FW SS 42 [(.int .i64 d)] i λb c=>yO b λa=>LL SS fL [1,1,1,0,1,0,0] [(.int .i64 n),(.int .i64 m),(pA (h.next)),(pA (l.next)),(.pointer a),(.int .i64 (wrap .i64 (m+1))),(.int .i64 0)] c (KK SS fL [1,1,1,0,1,0] [] (EE SS fL Q))))))):FW SS 35 [(.agg ⟨o⟩),(.int .i64 n),(.int .i64 m)] h Q:=cI fL Tryz.func35 (ai p)
theorem wK(q:LV)(n e:Int)(m l k:Nat)(j:Int)(f:Nat->Nat->ae->Prop)(Q:VH)(step:∀(g:Nat) (i:Nat) (p:Nat->Value) (h:ae),f g i h->au (decide (((i:Int):Int)<j)) (au (decide (((i:Int):Int)>=n)) (fP 65 (pA k) 1 λd=>lS h d λc=>FW SS 43 [(pA k),(strOf c)] h λa b=>yI .i64 a λ_=>aJ (fs (kV n e m l k j) f) g [(.int .i64 n),(.int .i64 e),(pA m),(pA l),(pA k),(.int .i64 j),(.int .i64 (wrap .i64 ((i:Int)+1)))] b) (FW SS 43 [(pA k),(strOf [])] h λa b=>yI .i64 a λ_=>aJ (fs (kV n e m l k j) f) g [(.int .i64 n),(.int .i64 e),(pA m),(pA l),(pA k),(.int .i64 j),(.int .i64 (wrap .i64 ((i:Int)+1)))] b)) (LL SS fL [1,1,1,1,0,1,0,0] (kW n e m l k 0) h (KK SS fL [1,1,1,1,0,1,0] [] (EE SS fL Q))))(g:Nat){i:Nat}{h:ae}(o:f g i h):LL SS fL [1,1,1,0,1,0,0] (kV n e m l k j i) h (KK SS fL [1,1,1,0,1,0] [] (EE SS fL Q)):=
 dc (kV n e m l k j) f (λg i p h o=>ai (step g i p h o)) g o
theorem wL(x:LV)(n q:Int)(t u k:Nat)(s:Nat->Nat->ae->Prop)(Q:VH)(step:∀(r:Nat) (i:Nat) (w:Nat->Value) (h:ae),s r i h->au (decide (((i:Int):Int)<q)) (fP 29 (pA t) 2 λp=>lS (room h 12) p λo=>lA 29 (room h 12) (pA t) λm=>FW SS 64 [(pA k),(.int .i64 (wrap .i64 ((i:Int)+1)))] (room h 12) λj l=>yF j λf g h=>FW SS 59 [(pA k),(.agg ⟨m⟩),(.func (.func f) ⟨g⟩ ⟨h⟩)] l λd e=>yI .i64 d λc=>FW SS 58 [(pA k),(iA i),(strOf o),(.int .i64 c)] e λa b=>a=(.tuple ⟨[]⟩)/\(aj SS.P 9 l (.pointer (some p))=some (strOf o)/\dG 4 (strOf o) (strOf o)=true)/\(aj SS.P 9 e (.pointer (some p))=some (strOf o)/\dG 4 (strOf o) (strOf o)=true)/\(aj SS.P 29 l (pA t)=some (.agg ⟨m⟩)/\dG 4 (.agg ⟨m⟩) (.agg ⟨m⟩)=true)/\aJ (fs (kW n q t u k) s) r [(.int .i64 n),(.int .i64 q),(pA t),(pA u),(pA k),(.int .i64 q),(.int .i64 (wrap .i64 ((i:Int)+1)))] b) (FW SS 46 [(pA k)] h λd e=>∃c:LV,∃b:Int,d=(.tuple ⟨[(.agg ⟨c⟩),(.int .i64 b)]⟩)/\xU (ah SS.P 29 (pA u) (.agg ⟨c⟩) e) e λ_ a=>ef SS [((pA u),some 29),((.int .i64 b),none)] a Q))(r:Nat){i:Nat}{h:ae}(v:s r i h):LL SS fL [1,1,1,1,0,1,0,0] (kW n q t u k i) h (KK SS fL [1,1,1,1,0,1,0] [] (EE SS fL Q)):=
 dc (kW n q t u k) s (λr i w h v=>ai (step r i w h v)) r v
section
section
variable {hb g h:ae} {k:Nat} {kind start:Int} {lead:List UInt8} {bJ:List dx}
theorem Td(w:Wf hb)(b:BS hb g k kind start lead bJ)(u:bJ.length<=3000)(x:cg bJ<=30000):FW SS 46 [pA k] g (BR hb (⟨kind,start,lead,bJ⟩,0)):=by
 obtain⟨a,n,c,r,q,f,p⟩:=b.ex;have s:n=bJ.length:=by have:=p.st.len;rw[this,f]
 have h:=(Ok.refl b.ok.wf).push mW;have d:=h.ext _ _ q;have j:=aO g mW;have o:=pk NS Mg uE d (i:=0) (by simp[fA]);have m:=h.set (.cells (bK ⟨kind,start,lead,bJ⟩ a n c) 29 0 true) (Nat.le_refl _) (h.wf _ _ j) b.ok.wf;have l:((g.push mW).set g.next (.cells (bK ⟨kind,start,lead,bJ⟩ a n c) 29 0 true)).get g.next=some (.cells (bK ⟨kind,start,lead,bJ⟩ a n c) 29 0 true):=by rw[ae.aw,if_pos rfl]
 refine Tc k g _ ⟨_,qS,_,abp k,_,cq ad3 acs d (i:=6) (by simp[fA]),aa (λe=>by cases e) (λ_=>⟨_,kz k,_,cZ k,_,_,_,cq AA E3 d (i:=3) (by simp[fA]),aa (λe=>?_) (λ_=>⟨_,My k,_,cq G0 FT d (i:=5) (by simp[fA]),aa (λe=>?_) (λ_=>⟨_,kz k,_,o,_,kZ (t:=29) uE (cs0:=[.int .i64 0,.int .i64 0,strOf [],.slice none 0 0]) rfl j (cs:=bK ⟨kind,start,lead,bJ⟩ a n c) rfl (uX ..),?_⟩)⟩)⟩)⟩
 ·have:=dT e;omega
 ·have:=dT e;omega
 ·exact ye (v:= .agg ⟨bK ⟨kind,start,lead,bJ⟩ a n c⟩) (pk NS Mg uE l (by simp[bK])) ⟨a,n,c,r,rfl,f,p.ok m,b.ok.trans m⟩
theorem Ta{c:Nat}{l:List Int}(r:dL h (.slice a n c) l)(i:Nat):FW SS 45 [.slice a n c,iA i] h (λv g=>v = .int .i64 (l.getD i 0)/\g=h):=by
 obtain rfl:=dL.len r;refine aa9 a _ c i h _ (aa (λq=>?_) (λq=>⟨?_,rfl⟩))
 ·have d:i<l.length:=by have:=dT q;omega
  obtain⟨p,b,e⟩:=r.at_ d;exact⟨_,b,_,e,rfl,rfl⟩
 ·have:l.length<=i:=by have:=dF q;omega
  rw[gD,List.getElem?_eq_none this];rfl
theorem Oh(s:Int):FW SS 51 [.int .i64 s] h (λv g=>v = .bool (sM s)/\g=h):=by
 unfold sM;refine X8 s h _ (aa (λq=>⟨?_,rfl⟩) (λq=>⟨?_,rfl⟩))
 ·have:=dT q;rw[decide_eq_true (show 1<=s by omega),Bool.true_and]
 ·have:=dF q;rw[decide_eq_false (show ¬1<=s by omega),Bool.false_and]
theorem PN(s:Int):FW SS 68 [.int .i64 s] h (λv g=>v = .bool (!sM s)/\g=h):=by
 refine PM s h _ ((Oh s).mono ?_);rintro _ g ⟨rfl,rfl⟩;exact⟨_,rfl,rfl,rfl⟩
theorem Tg(s:Int):FW SS 50 [.int .i64 s] h (λv g=>v = .bool (!sM s)/\g=h):=by
 refine Tf s h _ ((Oh s).mono ?_);rintro _ g ⟨rfl,rfl⟩;exact⟨_,rfl,rfl,rfl⟩
theorem TJ{c:Nat}{l:List Int}(r:dL h (.slice a n c) l)(t:l.length<=1000000):FW SS 49 [.slice a n c,.func (.func 68) ⟨[]⟩ ⟨[]⟩] h (λv g=>v = .bool (!l.all sM)/\g=h):=by
 obtain rfl:=dL.len r;refine PZ a _ c h _ (Uh a _ c h _ ?_);refine Ag a _ c (λj i g=>i<=l.length/\j=l.length-i/\g=h/\(l.drop i).all sM=l.all sM) _ (λj i=>?_) l.length (i:=0) ⟨by omega,rfl,rfl,by rw[drop_zero]⟩;intros;rename_i g f;obtain⟨w,u,rfl,b⟩:=f;refine aa (λq=>?_) (λq=>?_)
 ·have e:i<l.length:=by have:=dT q;omega
  obtain⟨p,k,o⟩:=r.at_ e;rw[Hy e,all_cons]at b;refine⟨_,k,_,o,(PN _).mono ?_⟩;rintro _ m ⟨rfl,s⟩;obtain rfl:g=m:=s.symm;refine⟨_,rfl,aa (λd=>⟨_,rfl,?_,rfl⟩) (λd=>?_)⟩
  ·rw[not_eq_true']at d;rw[<-b,d,Bool.false_and,decide_eq_true (show(i:Int)>=0 by omega)];rfl
  ·rw[not_eq_false']at d;rw[d,Bool.true_and]at b;rw[aP e (by omega)];exact bZ (l.length-(i+1)) (by omega) ⟨by omega,rfl,rfl,b⟩
 ·obtain rfl:i=l.length:=by have:=dF q;omega
  rw[drop_length]at b;exact⟨_,rfl,by rw[<-b];rfl,rfl⟩
theorem TI{c:Nat}{l:List Int}(r:dL h (.slice a n c) l)(t:l.length<=1000000):FW SS 49 [.slice a n c,.func (.func 50) ⟨[]⟩ ⟨[]⟩] h (λv g=>v = .bool (!l.all sM)/\g=h):=by
 obtain rfl:=dL.len r;refine PY a _ c h _ (Ug a _ c h _ ?_);refine Af a _ c (λj i g=>i<=l.length/\j=l.length-i/\g=h/\(l.drop i).all sM=l.all sM) _ (λj i=>?_) l.length (i:=0) ⟨by omega,rfl,rfl,by rw[drop_zero]⟩;intros;rename_i g f;obtain⟨w,u,rfl,b⟩:=f;refine aa (λq=>?_) (λq=>?_)
 ·have e:i<l.length:=by have:=dT q;omega
  obtain⟨p,k,o⟩:=r.at_ e;rw[Hy e,all_cons]at b;refine⟨_,k,_,o,(Tg _).mono ?_⟩;rintro _ m ⟨rfl,s⟩;obtain rfl:g=m:=s.symm;refine⟨_,rfl,aa (λd=>⟨_,rfl,?_,rfl⟩) (λd=>?_)⟩
  ·rw[not_eq_true']at d;rw[<-b,d,Bool.false_and,decide_eq_true (show(i:Int)>=0 by omega)];rfl
  ·rw[not_eq_false']at d;rw[d,Bool.true_and]at b;rw[aP e (by omega)];exact bZ (l.length-(i+1)) (by omega) ⟨by omega,rfl,rfl,b⟩
 ·obtain rfl:i=l.length:=by have:=dF q;omega
  rw[drop_length]at b;exact⟨_,rfl,by rw[<-b];rfl,rfl⟩
theorem FY{c:Nat}(r:dL h (.slice a n c) p):FW SS 40 [.slice a n c] h (λv g=>v = .bool (eD p)/\g=h):=by
 obtain rfl:=dL.len r;unfold eD;refine PO a _ c h _ (aa (λq=>(TJ r (by have:=dT q;omega)).mono ?_) (λq=>⟨?_,rfl⟩))
 ·rintro _ g ⟨rfl,rfl⟩;refine⟨_,rfl,?_,rfl⟩;have:=dT q;rw[decide_eq_true (show p.length<=200 by omega),Bool.true_and,Bool.not_not]
 ·have:=dF q;rw[decide_eq_false (show ¬p.length<=200 by omega),Bool.false_and]
def AK(A B:bp):Int:=if(ca A&&ca B)=true then(if A.kind=B.kind then 0 else 6)else 1
theorem Oi{B:bp}{x:Option Addr}{z:Nat}(w:Wf h)(r:nW h)(u:Small M)(D:Small B)(A:dy h (.slice x n z) M.af)(t:dy h (.slice a m i) B.af):FW SS 57 [.agg ⟨bK M x n z⟩,.agg ⟨bK B a m i⟩] h (λv g=>v = .int .i64 (AK M B)/\Ok h g):=by
 obtain⟨C,k⟩:=fv w A;obtain⟨y,s⟩:=fv k.wf (t.ok k);have p:=k.trans s;have j:=C.ok s;refine X9 _ _ h _ ⟨_,iS M x n z,_,iS B a m i,_,j.all,(qX (r.ok p) p.wf u j.row).mono ?_⟩;generalize (h.push (Bm M x n z)).push (Bm B a m i)=E at*;rintro _ G ⟨rfl,o⟩;have d:=p.trans o;have e:=y.ok o;unfold AK;refine⟨_,rfl,aa (λq=>⟨?_,d⟩) (λq=>⟨_,e.all,(qX (r.ok d) d.wf D e.row).mono ?_⟩)⟩
 ·rw[not_eq_true']at q;rw[q];rfl
 rw[not_eq_false']at q;rintro _ F ⟨rfl,l⟩;have f:=d.trans l;refine⟨_,rfl,aa (λc=>⟨?_,f⟩) (λc=>⟨_,du _,_,((j.ok o).ok l).l0,_,du _,_,(e.ok l).l0,aa (λb=>⟨?_,f⟩) (λb=>⟨?_,f⟩)⟩)⟩
 ·rw[not_eq_true']at c;rw[q,c];rfl
 ·rw[not_eq_false']at c;have b:M.kind≠B.kind:=by simpa using b
  rw[q,c,if_pos (show(true&&true)=true from rfl),if_neg b]
 ·rw[not_eq_false']at c;have b:M.kind=B.kind:=by simpa using b
  rw[q,c,if_pos (show(true&&true)=true from rfl),if_pos b]
end
end
variable{l:Nat}{t:List UInt8}
section
section
variable {hb g h:ae} {k:Nat} {kind start:Int} {lead:List UInt8} {bJ:List dx}
theorem BU.Iy(w:Wf hb)(b:BU hb g k kind start lead bJ n)(l:List UInt8):∃u:dP,ah SS.P 9 (.pointer (some ⟨k,2,none⟩)) (strOf l) g=some (undef,u)/\BU hb (u.app g) k kind start l bJ n/\Kp g (u.app g):=by
 obtain⟨a,t,c,p,f,h,q⟩:=b.ex;refine⟨_,jf zs9 f (i:=2) (by simp[fA]) rfl rfl,⟨⟨a,t,c,p,?_,h,q.other f (by omega) (by omega) _⟩,b.ok.set _ b.nk (b.ok.wf _ _ f) w,b.nk⟩,Nat.le_refl _,λj cs e z s d m _ _=>?_⟩
 ·show(g.set k _).get k=_;rw[ae.aw,if_pos rfl];rfl
 ·show(g.set k _).get j=_;rw[ae.aw,if_neg (λc=>by
   rw[c,f]at d;injection d with d
   injection d with _ r o
   exact m ⟨r.symm,o.symm⟩)]
  exact d
theorem BU.Le(w:Wf hb)(b:BU hb g k kind start lead bJ n)(z:Int):∃u:dP,ah SS.P 3 (.pointer (some ⟨k,1,none⟩)) (.int .i64 z) g=some (undef,u)/\BU hb (u.app g) k kind z lead bJ n/\Kp g (u.app g):=by
 obtain⟨a,s,c,o,f,h,p⟩:=b.ex;refine⟨_,jf zs3 f (i:=1) (by simp[fA]) rfl rfl,⟨⟨a,s,c,o,?_,h,p.other f (by omega) (by omega) _⟩,b.ok.set _ b.nk (b.ok.wf _ _ f) w,b.nk⟩,Nat.le_refl _,λj cs e z r d l _ _=>?_⟩
 ·show(g.set k _).get k=_;rw[ae.aw,if_pos rfl];rfl
 ·show(g.set k _).get j=_;rw[ae.aw,if_neg (λc=>by
   rw[c,f]at d;injection d with d
   injection d with _ q m
   exact l ⟨q.symm,m.symm⟩)]
  exact d
theorem BU.one(b:BU hb g k kind start lead bJ n):aj SS.P 9 g (.pointer (some ⟨k,4,none⟩))=some (strOf (df kind)):=by
 obtain⟨a,j,c,f,d,e,h⟩:=b.ex;exact cq LJ Su d (i:=4) (by simp[fA])
theorem iB(w:Wf h)(o:Ok h g)(i:g.get m=some mW)(b:h.next<=m)(e:Int):
  xA (bd SS.P 29 []) λc=>xU (ah SS.P 29 (pA m) (.agg ⟨c⟩) g) g λu d=>ef SS [(pA m,some 29),(.int .i64 e,none)] d (BR h (uJ,e)):=by
 obtain⟨u,j,f⟩:=OW w o i b (R:=(uJ,e)) (a:=none) (n:=0) (c:=0) (ps:=[]) rfl (ko.nil g g) o (.inr ⟨rfl,rfl,rfl,rfl⟩);exact⟨_,abe,u,j,f⟩
theorem pg(w:Wf h)(j:Wf hb)(b:BS hb g k kind start lead bJ)(o:bJ.length<=3000)(r:cg bJ<=30000)(m:Ok h hb)(l:hb.get n=some mW)(t:h.next<=n):
  FW SS 46 [pA k] g λv d=>∃cs:LV,∃q:Int,v=(.tuple ⟨[(.agg ⟨cs⟩),(.int .i64 q)]⟩)/\xU (ah SS.P 29 (pA n) (.agg ⟨cs⟩) d) d λu f=>ef SS [(pA n,some 29),(.int .i64 q,none)] f (BR h (⟨kind,start,lead,bJ⟩,0)):=by
 refine(Td j b o r).mono ?_;rintro _ f ⟨a,q,c,y,rfl,i,x,e⟩;obtain⟨u,s,p⟩:=OW w (m.trans e) (e.ext _ _ l) t (R:=(⟨kind,start,lead,bJ⟩,0)) i x m (.inl (j _ _ l));exact⟨_,_,rfl,u,s,p⟩
end
def qK(kind:Int)(a b:List Int)(m:Nat):List dx:=(List.range m).map λi=>⟨[],[⟨a.getD i 0,b.getD i 0,df kind,((i+1:Nat):Int)⟩]⟩
def G3(kind:Int)(a b:List Int)(c:List UInt8):bp:=⟨kind,0,c,qK kind a b (max a.length b.length)++[⟨df kind,[]⟩]⟩
def Bu(kind:Int)(b c:List Int)(a:List UInt8):bp×Int:=if(eD b&&(eD c&&bG kind a))=true then(G3 kind b c a,0)else(uJ,1)
theorem pG(kind:Int)(a b:List Int)(m:Nat):(qK kind a b m).length=m:=by unfold qK;simp
theorem G2(kind:Int)(a b:List Int)(m:Nat):qK kind a b (m+1)=qK kind a b m++[⟨[],[⟨a.getD m 0,b.getD m 0,df kind,((m+1:Nat):Int)⟩]⟩]:=by
 unfold qK;rw[range_succ,map_append];rfl
theorem Ep(kind:Int)(a b:List Int):∀m,cg (qK kind a b m)=m
 |0=>rfl
 |m+1=>by rw[G2,dY,Ep kind a b m];rfl
theorem aas(i o:Int)(w:List UInt8)(t:Int):bd SS.P 70 [(0,.int .i64 i),(1,.int .i64 o),(2,strOf w),(3,.int .i64 t)]=some (.agg ⟨fK ⟨i,o,w,t⟩⟩):=by kernel_rfl
theorem zo(h:eD p=true):p.length<=200:=by
 unfold eD at h;rw[and_eq_true]at h;exact dT h.1
theorem C2{h:ae}{kind:Int}{G I:Option Addr}{d f:List Int}(w:Wf h)(tb:nW h)(S:dL h (.slice G n m) d)(W:dL h (.slice I j l) f)(hl:t.length<=1000000000):
  FW SS 13 [.int .i64 kind,.slice G n m,.slice I j l,strOf t] h (BR h (Bu kind d f t)):=by
 obtain rfl:=dL.len S;obtain rfl:=dL.len W;have v:=(Ok.refl w).push mW;have V:=aO h mW;have nb:h.next<(h.push mW).next:=Nat.lt_succ_self _;refine Tq kind G _ m I _ l t h _ ⟨_,qS,?_⟩;generalize h.push mW=g1 at*;refine(FY (dL.ok S v)).mono ?_;rintro _ z ⟨rfl,e2⟩;obtain rfl:g1=z:=e2.symm;unfold Bu;refine⟨_,rfl,aa (λq=>?_) (λq=>(FY (dL.ok W v)).mono ?_)⟩
 ·rw[not_eq_true']at q;rw[q,if_neg (show ¬(false&&(eD f&&bG kind t))=true by simp)];exact iB w v V (Nat.le_refl _) 1
 rw[not_eq_false']at q;rintro _ z ⟨rfl,e2⟩;obtain rfl:g1=z:=e2.symm;refine⟨_,rfl,aa (λA=>?_) (λA=>(mi kind t hl (tb.ok v) v.wf).mono ?_)⟩
 ·rw[not_eq_true']at A;rw[A,if_neg (show ¬(eD d&&(false&&bG kind t))=true by simp)];exact iB w v V (Nat.le_refl _) 1
 rw[not_eq_false']at A;rintro _ z ⟨rfl,r⟩;have C:=v.trans r;have O:=r.ext _ _ V;refine⟨_,rfl,aa (λB=>?_) (λB=>(mE kind r.wf).mono ?_)⟩
 ·rw[not_eq_true']at B;rw[B,if_neg (show ¬(eD d&&(eD f&&false))=true by simp)];exact iB w C O (Nat.le_refl _) 1
 rw[not_eq_false']at B;rw[q,A,B,if_pos (show(true&&(true&&true))=true from rfl)];have lx:=zo q;have ly:=zo A;rintro _ g3 ⟨k,rfl,b3⟩;obtain⟨u,st,b4,_⟩:=b3.Iy r.wf t;refine⟨_,rfl,lK ⟨_,kz k,_,mJ k,u,st,(iC r.wf b4 (by simp) []).mono ?_⟩⟩;rintro _ g5 ⟨rfl,b5,_⟩;have hm:(if(f.length:Int)>(d.length:Int)then(f.length:Int)else(d.length:Int))=((max d.length f.length:Nat):Int):=by
  split<;>omega
 refine⟨_,rfl,_,tW _ _ _,?_⟩;rw[hm];obtain⟨F,P⟩:∃F,F=max d.length f.length:=⟨_,rfl⟩
 have x7:F<=200:=by omega
 rw[<-P];refine zS kind G _ m I _ l t h.next k F (λmz s i g=>i<=F/\mz=F-i/\s=i/\BS z g k kind 0 t (qK kind d f i++[⟨[],[]⟩])) _ (λmz s i=>?_) F (s:=0) (i:=0) ⟨by omega,rfl,rfl,b5⟩;intros;rename_i g x3;obtain⟨f1,f2,rfl,b⟩:=x3;have D:=HG (qK kind d f s) (⟨[],[]⟩:dx) [] (pG kind d f s);refine aa (λp=>?_) (λp=>?_)
 ·have hi:s<F:=by have:=dT p;omega
  refine(iC r.wf b (by rw[length_append,pG];simp;omega) []).mono ?_;rintro _ g6 ⟨rfl,b6,_⟩;have or:=(Ok.refl b6.ok.wf).room 15;have o:=b6.sk or;have M:=C.trans o.ok;refine⟨_,rfl,(Ta (dL.ok S M) s).mono ?_⟩;rintro _ T ⟨rfl,e7⟩;obtain rfl:Go.Ab.room g6 15=T:=e7.symm;refine⟨_,rfl,(Ta (dL.ok W M) s).mono ?_⟩;rintro _ T ⟨rfl,e7⟩;obtain rfl:Go.Ab.room g6 15=T:=e7.symm;have R:(qK kind d f s++[(⟨[],[]⟩:dx)]).length=s+1:=by rw[length_append,pG];rfl
  rw[R];have J:(qK kind d f s++[(⟨[],[]⟩:dx)]++[(⟨[],[]⟩:dx)])[s]?=some (⟨[],[]⟩:dx):=by
   rw[append_assoc];exact HG (qK kind d f s) (⟨[],[]⟩:dx) [⟨[],[]⟩] (pG kind d f s)
  have y:(qK kind d f s++[(⟨[],[]⟩:dx)]++[(⟨[],[]⟩:dx)]).set s (⟨[],[]++[⟨d.getD s 0,f.getD s 0,df kind,((s+1:Nat):Int)⟩]⟩:dx)=qK kind d f (s+1)++[⟨[],[]⟩]:=by
   rw[append_assoc,G2,append_assoc];exact vi (qK kind d f s) (⟨[],[]⟩:dx) _ [⟨[],[]⟩] (pG kind d f s)
  have x0:cg (qK kind d f s++[(⟨[],[]⟩:dx)]++[(⟨[],[]⟩:dx)])<=100000:=by
   rw[dY,dY,Ep];show s+0+0<=_;omega
  refine⟨_,rfl,_,Aa k,_,o.one,_,aas _ _ _ _,(xT r.wf o J x0 _).mono ?_⟩;rintro _ g8 ⟨rfl,H,_⟩;rw[y]at H;rw[aP hi (by omega)];exact⟨rfl,⟨o.one,kQ _⟩,⟨o.one,kQ _⟩,gY (F-(s+1)) (by omega) ⟨by omega,rfl,rfl,H⟩⟩
 ·obtain rfl:s=F:=by have:=dF p;omega
  have o:=b.sk ((Ok.refl b.ok.wf).room 13);obtain⟨a,y2,c,Z,Y,N,K⟩:=o.ex;obtain⟨pp,hp,x5⟩:∃p,Z[s]?=some p/\p.1=⟨[],[]⟩:=by
   rw[<-N,getElem?_map]at D;exact map_eq_some_iff.1 D
  have X:0<(Z.map vp).length:=by have:=(List.getElem?_eq_some_iff.1 hp).1;rw[lM];omega
  obtain⟨kr,x9,cr,Q,y0⟩:=K.row.blk X;injection Q with Q en ec
  subst Q en ec;obtain⟨i1,_,_⟩:=K.at_ hp;obtain⟨uu,x2,x4,x1,x6,x8⟩:=K.adO r.wf o.ok hp (df kind);obtain⟨y1,U⟩:=ot K.row (k:=kr) rfl;have L:=x6 _ _ Y (λe=>kx U Y (by decide) e);have y:(Z.set s (⟨df kind,pp.1.arcs⟩,pp.2)).map (·.1)=qK kind d f s++[⟨df kind,[]⟩]:=by
   rw[map_set,N,x5];exact vi (qK kind d f s) (⟨[],[]⟩:dx) _ [] (pG kind d f s)
  have E:∀x:dx,x.arcs=[]->cg (qK kind d f s++[x])=s:=λx hx=>by
   rw[dY,Ep,dj,hx];rfl
  have H:BS z (uu.app (Go.Ab.room g 13)) k kind 0 t (qK kind d f s++[⟨df kind,[]⟩]):=by
   refine⟨⟨_,_,_,_,?_,y,x4⟩,x1,o.nk⟩;rw[E _ rfl];rw[E _ rfl]at L;exact L
  refine⟨_,kz k,_,cZ k,_,_,_,cq AA E3 Y (i:=3) (by simp[fA]),_,Aa k,_,o.one,_,i1,_,nJ _ _,uu,x2,?_⟩;have e:G3 kind d f t=⟨kind,0,t,qK kind d f s++[⟨df kind,[]⟩]⟩:=by unfold G3;rw[<-P]
  rw[e];exact pg w r.wf H (by rw[length_append,pG];simp;omega) (by rw[E _ rfl];omega) C O (Nat.le_refl _)
end
section
structure SA(M:bp):Prop where
 n:M.af.length<=300
 s:cg M.af<=2000
 start:0<=M.start/\M.start<M.af.length
 to:∀s∈M.af,∀a∈s.arcs,0<=a.t/\a.t<M.af.length
theorem pR(c:Small M)(h:ca M=true):SA M:=by
 have b:=qB h;exact⟨c.bJ,c.tot,b.start,λs d a e=>(b.arc s d a e).2⟩
theorem mu.kL(k:Nat)(g:ae):mu k none 60 [] [] g:=⟨rfl,rfl,rfl⟩
theorem Em{x:Option Addr}{y z:Nat}(r:dy g (.slice x y z) M.af):dG 4 (.agg ⟨bK M x y z⟩) (.agg ⟨bK M x y z⟩)=true:=by
 obtain⟨t,d,l,q,m⟩:=r;have:∀{e i:Nat}{j:List (List Value)},EZ g e i (.slice x y z) j->dG 3 (.slice x y z) (.slice x y z)=true:=by
  intro e i j h;obtain⟨_,⟨d|d,_⟩|⟨k,o,cs,p,z',c,s,d,_⟩⟩:=h
  ·injection d with a b c;subst a b c;simp[dG]
  ·exact absurd d m
  ·injection d with a b c;subst a b c;simp[dG]
 have h:=this l;have e:dG 4 (.agg ⟨bK M x y z⟩) (.agg ⟨bK M x y z⟩)=(dG 3 (.int .i64 M.kind) (.int .i64 M.kind)&&(dG 3 (.int .i64 M.start) (.int .i64 M.start)&&(dG 3 (strOf M.lead) (strOf M.lead)&&(dG 3 (.slice x y z) (.slice x y z)&&true)))):=rfl;have f:∀a:Int,dG 3 (.int .i64 a) (.int .i64 a)=true:=λa=>by simp[dG]
 have n:dG 3 (strOf M.lead) (strOf M.lead)=true:=by simp[dG,strOf]
 rw[e,f,f,n,h];rfl
def qJ(X:bp):List dx->List dx
 |[]=>[]
 |a::r=>⟨a.f,a.arcs++[⟨0,0,X.lead,((r.length+1:Nat):Int)+X.start⟩]⟩::(r++X.af.map (mF (r.length+1) none))
def WU(A B:bp):bp:=⟨A.kind,0,df A.kind,qJ B (qJ A [⟨[],[]⟩])⟩
def IH(A B:bp):bp×Int:=if AK A B=0 then(WU A B,0)else(uJ,AK A B)
theorem Lt(X:bp)(a:List dx)(h:a≠[]):(qJ X a).length=a.length+X.af.length/\cg (qJ X a)<=cg a+cg X.af+X.af.length+1/\qJ X a≠[]:=by
 cases a with
 |nil=>exact absurd rfl h
 |cons b r=>
  have:=m4 (r.length+1) none X.af;refine⟨by unfold qJ;simp;omega,?_,by unfold qJ;simp⟩;unfold qJ;rw[dj,dY,dj];simp only[length_append,List.length_singleton];omega
theorem aey(A B:bp)(x x':Option Addr)(y z y' z':Nat):aI SS.P 86 2 [(0,.agg ⟨bK A x y z⟩),(1,.agg ⟨bK B x' y' z'⟩)]=some (.cells (bK A x y z++bK B x' y' z') 29 4 true,mR 2 2):=by cases x<;>cases x'<;>kernel_rfl
theorem abw(k:Nat):aD SS.P 86 (sA k 2 2) (iA 0)=some (.pointer (some ⟨k,0,none⟩)):=by kernel_rfl
theorem abx(k:Nat):aD SS.P 86 (sA k 2 2) (iA 1)=some (.pointer (some ⟨k,4,none⟩)):=by kernel_rfl
theorem Oj{A B:bp}(h:AK A B=0):ca A=true/\ca B=true/\A.kind=B.kind:=by
 unfold AK at h;split at h
 ·next c=>
  rw[and_eq_true]at c;split at h
  ·next e=>exact⟨c.1,c.2,e⟩
  ·cases h
 ·cases h
section
variable {h:ae} {A B:bp} {x x':Option Addr} {y z y' z':Nat}
theorem PL(w:Wf h)(tb:nW h)(sa:Small A)(sb:Small B)(ra:dy h (.slice x y z) A.af)(rb:dy h (.slice x' y' z') B.af):FW SS 25 [.agg ⟨bK A x y z⟩,.agg ⟨bK B x' y' z'⟩] h (BR h (IH A B)):=by
 obtain⟨ma,H⟩:=fv w ra;obtain⟨mb,M⟩:=fv H.wf (rb.ok H);have n3:h.next<=((h.push (Bm A x y z)).push (Bm B x' y' z')).next:=(H.trans M).nx;have o3:=(Ok.refl M.wf).push mW;have kb:=aO ((h.push (Bm A x y z)).push (Bm B x' y' z')) mW;have ok:=(H.trans M).trans o3;have G:=(ma.ok M).ok o3;have F:=mb.ok o3;refine PK _ _ h _ ⟨_,iS A x y z,_,iS B x' y' z',_,qS,_,G.all,_,F.all,(Oi ok.wf (tb.ok ok) sa sb G.row F.row).mono ?_⟩;generalize y9:(h.push (Bm A x y z)).next=k2 at*;generalize ((h.push (Bm A x y z)).push (Bm B x' y' z')).next=kr at*;generalize (((h.push (Bm A x y z)).push (Bm B x' y' z')).push mW)=g3 at*;rintro _ K ⟨rfl,c⟩;have S:=ok.trans c;have E:=G.ok c;have V:=F.ok c;have N:=c.ext _ _ kb;unfold IH;refine⟨_,rfl,aa (λq=>?_) (λq=>⟨_,du _,_,E.l0,(mE A.kind c.wf).mono ?_⟩)⟩
 ·have q:AK A B≠0:=by simpa using q
  rw[if_neg q];exact iB w S N n3 _
 have q:AK A B=0:=by simpa using q
 rw[if_pos q];obtain⟨vA,vB,y8⟩:=Oj q;have Z:=pR sa vA;have cB:=pR sb vB;rintro _ g5 ⟨k,rfl,b5⟩;refine⟨_,rfl,(iC c.wf b5 (by simp) []).mono ?_⟩;rintro _ g6 ⟨rfl,J,z3⟩;have x4:=E.ok J.ok;have y7:=V.ok J.ok;have o7:=(Ok.refl J.ok.wf).push (.cells (bK A x y z++bK B x' y' z') 29 4 true);have b7:=J.sk o7;have x5:=aO g6 (.cells (bK A x y z++bK B x' y' z') 29 4 true);refine⟨_,rfl,_,x4.all,_,y7.all,_,_,_,aey A B x x' y z y' z',?_⟩;generalize g6.push (.cells (bK A x y z++bK B x' y' z') 29 4 true)=g7 at*;generalize g6.next=W at*;have hU:∀i,∃U:List dx,(i=0->U=[⟨[],[]⟩])/\(i=1->U=qJ A [⟨[],[]⟩])/\(i=2->U=qJ B (qJ A [⟨[],[]⟩])):=λi=>by
  by_cases h0:i=0
  ·exact⟨_,λ_=>rfl,λe=>by omega,λe=>by omega⟩
  by_cases h1:i=1
  ·exact⟨_,λe=>by omega,λ_=>rfl,λe=>by omega⟩
  ·exact⟨_,λe=>by omega,λe=>by omega,λ_=>rfl⟩
 obtain⟨O,z4,x6⟩:=Lt A [⟨[],[]⟩] (by simp);obtain⟨x7,z0,z5⟩:=Lt B _ x6;have y5:cg ([⟨[],[]⟩]:List dx)=0:=rfl;have:=Z.n;have:=cB.n;have:=Z.s;have:=cB.s;refine xM (bK A x y z) (bK B x' y' z') kr k 0 W 2 2 (λv i g=>i<=2/\v=2-i/\(∃a r,BS K g k A.kind 0 (df A.kind) (a::r)/\(i=0->a::r=[⟨[],[]⟩])/\(i=1->a::r=qJ A [⟨[],[]⟩])/\(i=2->a::r=qJ B (qJ A [⟨[],[]⟩])))/\Kp g7 g) _ (λv i=>?_) 2 (i:=0) ⟨by omega,rfl,⟨⟨[],[]⟩,[],b7,λ_=>rfl,λe=>by omega,λe=>by omega⟩,Kp.refl _⟩;intros;rename_i g x3;obtain⟨f1,f2,⟨a,r,b,u0,u1,u2⟩,kp⟩:=x3;refine aa (λp=>?_) (λp=>?_)
 ·have hi:i=0\/i=1:=by have:=dT p;omega
  have kl:=kp.2 _ _ _ _ _ x5 (by decide) (by decide) (by decide);have step:∀(X:bp)(f:Option Addr)(l j:Nat),dy K (.slice f l j) X.af->SA X->(a::r).length<=1000->cg (a::r)<=10000->(∀o u,o::u=qJ X (a::r)->(i+1=0->o::u=[⟨[],[]⟩])/\(i+1=1->o::u=qJ A [⟨[],[]⟩])/\(i+1=2->o::u=qJ B (qJ A [⟨[],[]⟩])))->
    xN (br SS.P 29) g λz7 P=>xU (ah SS.P 29 (pA (g.next)) (.agg ⟨bK X f l j⟩) P) P λz2 D=>xP (aE SS.P 29 (pA (g.next)) 2) λR=>xS (aj SS.P 9 (room D 8) (.pointer (some R))) λm=>xA (aj SS.P 29 (room D 8) (pA (g.next))) λx8=>FW SS 59 [(pA k),(.agg ⟨x8⟩),(.func (.func 60) ⟨[]⟩ ⟨[]⟩)] (room D 8) λy3 T=>yI .i64 y3 λy0=>FW SS 58 [(pA k),(iA 0),(strOf m),(.int .i64 y0)] T λy1 y6=>y1=(.tuple ⟨[]⟩)/\(aj SS.P 9 T (.pointer (some R))=some (strOf m)/\dG 4 (strOf m) (strOf m)=true)/\aJ (fs (lW kr k 0 W 2 2) (λv i g=>i<=2/\v=2-i/\(∃a r,BS K g k A.kind 0 (df A.kind) (a::r)/\(i=0->a::r=[⟨[],[]⟩])/\(i=1->a::r=qJ A [⟨[],[]⟩])/\(i=2->a::r=qJ B (qJ A [⟨[],[]⟩])))/\Kp g7 g)) v [(pA kr),(pA k),(iA 0),(sA W 2 2),(iA 2),(.int .i64 (wrap .i64 ((i:Int)+1)))] y6:=by
   intro X f l j rX L hl hs I;obtain⟨o8,k8⟩:=px (t:=29) (cs:=bK X f l j) b.ok.wf ((Ok.refl b.ok.wf).push mW) (aO g mW) (Nat.le_refl _);have b8:=b.sk o8;have z1:=k8;refine⟨_,qS,_,kZ (t:=29) uE (cs0:=[.int .i64 0,.int .i64 0,strOf [],.slice none 0 0]) rfl (aO g mW) (cs:=bK X f l j) rfl (uX ..),?_⟩;generalize (dP.set g.next (.cells (bK X f l j) 29 0 true)).app (g.push mW)=g8 at*;have or:=(Ok.refl b8.ok.wf).room 8;have b9:=b8.sk or;have Y:MB (Go.Ab.room g8 8) g.next X f l j:=⟨k8,rX.ok b9.ok⟩
   have:=L.n;have:=L.s;refine⟨_,mJ _,_,Y.l2,_,Y.all,(qT c.wf b9 rX (mu.kL k _) (by omega) (by omega) L.start L.to).mono ?_⟩;rintro _ y2 ⟨rfl,Q,C⟩;have x1:MB y2 g.next X f l j:=⟨C.2 _ _ _ _ _ Y.box (by decide) (by decide) (by decide),rX.ok Q.ok⟩
   have z6:=m4 (a::r).length none X.af;refine⟨_,rfl,(B6 c.wf Q (s:=0) (t:=a) rfl (by rw[dY];omega) X.lead (((a::r).length:Int)+X.start)).mono ?_⟩;rintro _ x9 ⟨rfl,x2,x0⟩;rw[aP (i:=i) (n:=2) (by omega) (by omega)];have y4:BS K x9 k A.kind 0 (df A.kind) (⟨a.f,a.arcs++[⟨0,0,X.lead,((r.length+1:Nat):Int)+X.start⟩]⟩::(r++X.af.map (mF (r.length+1) none))):=x2;refine⟨rfl,⟨x1.l2,kQ _⟩,bZ (2-(i+1)) (by omega) ⟨by omega,rfl,⟨⟨a.f,a.arcs++[⟨0,0,X.lead,((r.length+1:Nat):Int)+X.start⟩]⟩,r++X.af.map (mF (r.length+1) none),y4,I _ _ rfl⟩,(((kp.trans (M4 o8)).trans (M4 or)).trans C).trans x0⟩⟩
  rcases hi with rfl|rfl
  ·have d:=u0 rfl;have ld:=pk NS Mg uE kl (i:=0) (by simp[bK]);refine⟨_,abw _,_,ld,step A x y z E.row Z (by rw[d];simp) (by rw[d];simp[y5]) λo u e=>⟨λe=>by omega,λ_=>by rw[e,d],λe=>by omega⟩⟩
  ·have d:=u1 rfl;have ld:=pk NS Mg uE kl (i:=4) (by simp[bK]);refine⟨_,abx _,_,ld,step B x' y' z' V.row cB (by rw[d,O];simp;omega) (by rw[d];omega) λo u e=>⟨λe=>by omega,λe=>by omega,λ_=>by rw[e,d]⟩⟩
 ·obtain rfl:i=2:=by have:=dF p;omega
  have d:=u2 rfl;rw[d]at b;exact pg w c.wf b (by rw[x7,O];simp;omega) (by omega) S N n3
end
end
variable{s:List UInt8}
section
def B7(A B:bp)(c:List UInt8):bp:=⟨A.kind,(B.af.length:Int)+A.start,c,B.af.map (mF 0 none)++A.af.map (mF B.af.length (some (((0:Nat):Int)+B.start)))⟩
def B8(A B:bp)(c:List UInt8):bp×Int:=if AK A B=0 then(B7 A B c,0)else(uJ,AK A B)
def uB(A:bp):bp:=⟨A.kind,0,df A.kind,⟨df A.kind,[⟨0,0,A.lead,((1:Nat):Int)+A.start⟩]⟩::A.af.map (mF 1 (some ((0:Nat):Int)))⟩
def GP(A:bp):bp×Int:=if ca A=true then(uB A,0)else(uJ,1)
def Nz(A:bp)(c:List UInt8):bp:=⟨A.kind,((0:Nat):Int)+A.start,c,A.af.map (mF 0 none)⟩
def Iv(A:bp)(a c:List UInt8):bp×Int:=if(ca A&&bG A.kind a)=true then(Nz A c,0)else(uJ,1)
section
variable {h:ae} {A B:bp} {x x':Option Addr} {y z y' z':Nat} {c:List UInt8}
theorem Ml(w:Wf h)(R:nW h)(N:Small A)(V:Small B)(ra:dy h (.slice x y z) A.af)(rb:dy h (.slice x' y' z') B.af)(F:AK A B=0->dg A.kind A.lead B.lead=some c):FW SS 31 [.agg ⟨bK A x y z⟩,.agg ⟨bK B x' y' z'⟩] h (BR h (B8 A B c)):=by
 obtain⟨ma,l⟩:=fv w ra;obtain⟨mb,r⟩:=fv l.wf (rb.ok l);have J:h.next<=((h.push (Bm A x y z)).push (Bm B x' y' z')).next:=(l.trans r).nx;have D:=(Ok.refl r.wf).push mW;have kb:=aO ((h.push (Bm A x y z)).push (Bm B x' y' z')) mW;have E:=(l.trans r).trans D;have i:=(ma.ok r).ok D;have f:=mb.ok D;refine Mk _ _ h _ ⟨_,iS A x y z,_,iS B x' y' z',_,qS,_,i.all,_,f.all,(Oi E.wf (R.ok E) N V i.row f.row).mono ?_⟩;generalize x2:(h.push (Bm A x y z)).next=k2 at*;generalize ((h.push (Bm A x y z)).push (Bm B x' y' z')).next=kr at*;generalize (((h.push (Bm A x y z)).push (Bm B x' y' z')).push mW)=g3 at*;rintro _ g4 ⟨rfl,a⟩;have g:=E.trans a;have b:=i.ok a;have j:=f.ok a;have s:=a.ext _ _ kb;unfold B8;refine⟨_,rfl,aa (λq=>?_) (λq=>⟨_,du _,_,b.l0,(mE A.kind a.wf).mono ?_⟩)⟩
 ·have q:AK A B≠0:=by simpa using q
  rw[if_neg q];exact iB w g s J _
 have q:AK A B=0:=by simpa using q
 rw[if_pos q];have F:=F q;obtain⟨O,W,p⟩:=Oj q;have m:=pR N O;have n:=pR V W;have Q:=qB O;have L:=qB W;have Z:aM A.kind B.lead=true:=by rw[p];exact L.lead
 rintro _ g5 ⟨k,rfl,o⟩;have T:=b.ok o.ok;have K:=j.ok o.ok;refine⟨_,rfl,_,mJ _,_,T.l2,_,mJ _,_,K.l2,(FX a.wf (R.ok g) o Q.lead Z F).mono ?_⟩;rintro _ g6 ⟨rfl,o6⟩;have b6:=o.sk o6;obtain⟨u7,P,S,x3⟩:=b6.Iy a.wf c;have X:=j.ok S.ok;have:=m.n;have:=n.n;have:=m.s;have:=n.s;refine⟨_,rfl,lK ⟨_,kz k,_,mJ k,u7,P,_,X.all,(qT a.wf S j.row (mu.kL k _) (by simp;omega) (by simp[cg];unfold cg at*;omega) n.start n.to).mono ?_⟩⟩;rintro _ g8 ⟨rfl,M,x4⟩;have or:=(Ok.refl M.ok.wf).room 11;have C:=M.sk or;have H:=b.ok C.ok;have x5:=m4 0 none B.af;have d:(([]:List dx)++B.af.map (mF ([]:List dx).length none)).length=B.af.length:=by simp
 refine⟨_,rfl,_,H.all,(C0 (k:=k) C.ok.wf _).mono ?_⟩;rintro _ x7 ⟨fc,rfl,lv,G⟩;have t:=C.sk G;have v:=b.ok t.ok;refine⟨_,_,_,rfl,(qT a.wf t b.row lv (by rw[d];omega) (by show cg (B.af.map (mF 0 none))+_+_<=_;omega) m.start m.to).mono ?_⟩;rintro _ x6 ⟨rfl,I,x0⟩;have x8:=m4 B.af.length (some (((0:Nat):Int)+B.start)) A.af;obtain⟨Y,u,U,x1⟩:=I.Le a.wf ((([]++B.af.map (mF ([]:List dx).length none)).length:Int)+A.start);refine⟨_,rfl,lK ⟨_,kz k,_,tO k,Y,u,⟨v.all,Em b.row⟩,?_⟩⟩;have e:B7 A B c=⟨A.kind,(([]++B.af.map (mF ([]:List dx).length none)).length:Int)+A.start,c,[]++B.af.map (mF ([]:List dx).length none)++A.af.map (mF ([]++B.af.map (mF ([]:List dx).length none)).length (some ((([]:List dx).length:Int)+B.start)))⟩:=by
  unfold B7;rw[d];rfl
 rw[e];refine pg w a.wf U ?_ ?_ g s J
 ·rw[length_append,d,lM];omega
 ·rw[d,dY];show cg (B.af.map (mF 0 none))+cg (A.af.map (mF B.af.length (some (((0:Nat):Int)+B.start))))<=_;omega
theorem JD(w:Wf h)(N:nW h)(C:Small A)(M:dy h (.slice x y z) A.af):FW SS 33 [.agg ⟨bK A x y z⟩] h (BR h (GP A)):=by
 obtain⟨Q,j⟩:=fv w M;have p:h.next<=(h.push (Bm A x y z)).next:=j.nx;have H:=(Ok.refl j.wf).push mW;have K:=aO (h.push (Bm A x y z)) mW;have m:=j.trans H;have c:=Q.ok H;refine Tk _ h _ ⟨_,iS A x y z,_,qS,_,c.all,(qX (N.ok m) m.wf C c.row).mono ?_⟩;generalize (h.push (Bm A x y z)).next=W at*;generalize (h.push (Bm A x y z)).push mW=g3 at*;rintro _ u ⟨rfl,b⟩;have i:=m.trans b;have a:=c.ok b;have f:=b.ext _ _ K;unfold GP;refine⟨_,rfl,aa (λq=>?_) (λq=>⟨_,du _,_,a.l0,(mE A.kind b.wf).mono ?_⟩)⟩
 ·rw[not_eq_true']at q;rw[q,if_neg (by simp)];exact iB w i f p _
 rw[not_eq_false']at q;rw[if_pos q];have d:=pR C q;have:=d.n;have:=d.s;rintro _ Z ⟨k,rfl,E⟩;refine⟨_,rfl,lK ⟨_,Aa k,_,E.one,(iC b.wf E (by simp) _).mono ?_⟩⟩;rintro _ X ⟨rfl,r,S⟩;have R:=(Ok.refl r.ok.wf).room 11;have l:=r.sk R;have g:=a.ok l.ok;refine⟨_,rfl,_,mJ _,_,g.l2,_,g.all,(C0 (k:=k) l.ok.wf _).mono ?_⟩;rintro _ V ⟨Y,rfl,L,J⟩;have B:=l.sk J;have e:=a.ok B.ok;have O:cg ([]++[(⟨df A.kind,[]⟩:dx)])=0:=rfl;refine⟨_,_,_,rfl,(qT b.wf B a.row L (by simp;omega) (by rw[O];omega) d.start d.to).mono ?_⟩;rintro _ P ⟨rfl,D,T⟩;have n:=a.ok D.ok;have U:=m4 1 (some ((0:Nat):Int)) A.af;have v:BS u P k A.kind 0 (df A.kind) (⟨df A.kind,[]⟩::A.af.map (mF 1 (some ((0:Nat):Int)))):=D;refine⟨_,rfl,(B6 b.wf v (s:=0) (t:=⟨df A.kind,[]⟩) rfl (by rw[dj];show 0+_<=_;omega) A.lead (((1:Nat):Int)+A.start)).mono ?_⟩;rintro _ G ⟨rfl,F,I⟩;have o:BS u G k A.kind 0 (df A.kind) (⟨df A.kind,[⟨0,0,A.lead,((1:Nat):Int)+A.start⟩]⟩::A.af.map (mF 1 (some ((0:Nat):Int)))):=F;refine⟨rfl,⟨e.l2,kQ _⟩,⟨n.l2,kQ _⟩,⟨e.all,Em a.row⟩,pg w b.wf o (by rw[length_cons,lM];omega) (by rw[dj];show 1+_<=_;omega) i f p⟩
theorem PF(w:Wf h)(u:nW h)(G:Small A)(P:s.length<=1000000000)(Q:dy h (.slice x y z) A.af)(C:ca A=true->bG A.kind s=true->dg A.kind s A.lead=some c):FW SS 37 [.agg ⟨bK A x y z⟩,strOf s] h (BR h (Iv A s c)):=by
 obtain⟨T,p⟩:=fv w Q;have r:h.next<=(h.push (Bm A x y z)).next:=p.nx;have K:=(Ok.refl p.wf).push mW;have O:=aO (h.push (Bm A x y z)) mW;have B:=p.trans K;have i:=T.ok K;refine PE _ s h _ ⟨_,iS A x y z,_,qS,_,i.all,(qX (u.ok B) B.wf G i.row).mono ?_⟩;generalize (h.push (Bm A x y z)).next=kr at*;generalize (h.push (Bm A x y z)).push mW=g3 at*;rintro _ Y ⟨rfl,l⟩;have g:=B.trans l;have n:=i.ok l;have o:=l.ext _ _ O;unfold Iv;refine⟨_,rfl,aa (λq=>?_) (λq=>⟨_,du _,_,n.l0,(mi A.kind s P (u.ok g) l.wf).mono ?_⟩)⟩
 ·rw[not_eq_true']at q;rw[q,if_neg (by simp)];exact iB w g o r _
 rw[not_eq_false']at q;rintro _ g5 ⟨rfl,a⟩;have f:=g.trans a;have d:=n.ok a;have m:=a.ext _ _ o;refine⟨_,rfl,aa (λb=>?_) (λb=>⟨_,du _,_,d.l0,(mE A.kind a.wf).mono ?_⟩)⟩
 ·rw[not_eq_true']at b;rw[b,if_neg (by simp)];exact iB w f m r _
 rw[not_eq_false']at b;rw[q,b,if_pos (show(true&&true)=true from rfl)];have C:=C q b;have j:=pR G q;have I:=qB q;have:=j.n;have:=j.s;rintro _ g6 ⟨k,rfl,t⟩;have E:=d.ok t.ok;refine⟨_,rfl,_,mJ _,_,E.l2,(FX a.wf (u.ok f) t (sT b) I.lead C).mono ?_⟩;rintro _ Z ⟨rfl,U⟩;have S:=t.sk U;obtain⟨N,L,F,V⟩:=S.Iy a.wf c;have D:=d.ok F.ok;refine⟨_,rfl,lK ⟨_,kz k,_,mJ k,N,L,_,D.all,(qT a.wf F d.row (mu.kL k _) (by simp;omega) (by simp[cg];unfold cg at*;omega) j.start j.to).mono ?_⟩⟩;rintro _ g9 ⟨rfl,R,W⟩;have X:=m4 0 none A.af;obtain⟨H,v,J,M⟩:=R.Le a.wf ((([]:List dx).length:Int)+A.start);refine⟨_,rfl,lK ⟨_,kz k,_,tO k,H,v,?_⟩⟩;have e:Nz A c=⟨A.kind,(([]:List dx).length:Int)+A.start,c,[]++A.af.map (mF ([]:List dx).length none)⟩:=rfl;rw[e];refine pg w a.wf J ?_ ?_ f m r
 ·rw[length_append,lM];simp;omega
 ·show cg (A.af.map (mF 0 none))<=_;omega
end
end
section
def iV(A:bp)(n:Int)(m i:Nat):List dx:=(List.range (m+1)).map λ(j:Nat)=>⟨if(j:Int)>=n then df A.kind else[],if j<i then[⟨0,0,A.lead,((m+1+j*A.af.length:Nat):Int)+A.start⟩]else[]⟩
def kM(A:bp)(m i:Nat):List dx:=(List.range i).flatMap λ(j:Nat)=>A.af.map (mF (m+1+j*A.af.length) (some ((j+1:Nat):Int)))
def mg(A:bp)(n:Int)(m:Nat):bp:=⟨A.kind,0,df A.kind,iV A n m m++kM A m m⟩
def It(A:bp)(n a:Int):bp×Int:=if ca A=true/\0<=n/\n<=a/\a<=30 then(mg A n a.toNat,0)else(uJ,1)
section
variable {A:bp} {n:Int} {m i:Nat}
theorem iZ:(iV A n m i).length=m+1:=by unfold iV;simp
theorem sE:kM A m (i+1)=kM A m i++A.af.map (mF (m+1+i*A.af.length) (some ((i+1:Nat):Int))):=by
 unfold kM;rw[range_succ,List.flatMap_append];simp
theorem q9:∀i,(kM A m i).length=i*A.af.length
 |0=>by simp[kM]
 |i+1=>by rw[sE,length_append,q9 i,lM,Nat.add_mul,Nat.one_mul]
theorem Au:∀i,cg (kM A m i)<=i*(cg A.af+A.af.length)
 |0=>by simp[kM,cg]
 |i+1=>by
  have:=m4 (m+1+i*A.af.length) (some ((i+1:Nat):Int)) A.af;have a:=Au i;rw[sE,dY,Nat.add_mul,Nat.one_mul];omega
theorem Ei:∀{l:List dx},(∀s∈l,s.arcs.length<=1)->cg l<=l.length
 |[],_=>Nat.le_refl _
 |s::l,h=>by
  have b:=h s (List.mem_cons_self ..);have:=Ei (l:=l) λt a=>h t (List.mem_cons_of_mem _ a);rw[dj,length_cons];omega
theorem GD:cg (iV A n m i)<=m+1:=by
 have:=Ei (l:=iV A n m i) λs a=>by
  unfold iV at a;obtain⟨j,_,rfl⟩:=mem_map.1 a;show(if j<i then _ else _:List gj).length<=1;split<;>simp
 rw[iZ]at this;exact this
theorem KX(a:i<m+1):(iV A n m i)[i]?=some ⟨if(i:Int)>=n then df A.kind else[],[]⟩:=by
 unfold iV;rw[getElem?_map,List.getElem?_range a,map_some,if_neg (Nat.lt_irrefl i)]
theorem RJ(b:i<m+1):(iV A n m i).set i ⟨if(i:Int)>=n then df A.kind else[],[⟨0,0,A.lead,((m+1+i*A.af.length:Nat):Int)+A.start⟩]⟩=iV A n m (i+1):=by
 have a:∀i j,(iV A n m i)[j]?=if j<m+1 then some ⟨if(j:Int)>=n then df A.kind else[],if j<i then[⟨0,0,A.lead,((m+1+j*A.af.length:Nat):Int)+A.start⟩]else[]⟩else none:=λi j=>by
  unfold iV;rw[getElem?_map];split
  ·next h=>rw[List.getElem?_range h];rfl
  ·next h=>rw[List.getElem?_eq_none (by simp;omega)];rfl
 refine List.ext_getElem? λj=>?_;rw[List.getElem?_set,a,a,iZ];by_cases e:i=j
 ·subst e;rw[if_pos rfl,if_pos b,if_pos b,if_pos (Nat.lt_succ_self i)]
 ·rw[if_neg e];by_cases q:j<i
  ·rw[if_pos q,if_pos (show j<i+1 by omega)]
  ·rw[if_neg q,if_neg (show ¬j<i+1 by omega)]
theorem C1{x:Option Addr}{z:Nat}{d:Int}(w:Wf h)(tb:nW h)(W:Small A)(h8:A.af.length<=8)(x9:cg A.af<=40)(ra:dy h (.slice x l z) A.af):FW SS 35 [.agg ⟨bK A x l z⟩,.int .i64 n,.int .i64 d] h (BR h (It A n d)):=by
 obtain⟨ma,L⟩:=fv w ra;have B:h.next<=(h.push (Bm A x l z)).next:=L.nx;have Y:=(Ok.refl L.wf).push mW;have kb:=aO (h.push (Bm A x l z)) mW;have P:=L.trans Y;have E:=ma.ok Y;refine Mm _ n d h _ ⟨_,iS A x l z,_,qS,_,E.all,(qX (tb.ok P) P.wf W E.row).mono ?_⟩;generalize (h.push (Bm A x l z)).next=V at*;generalize (h.push (Bm A x l z)).push mW=g3 at*;rintro _ S ⟨rfl,r⟩;have t:=P.trans r;have a:=E.ok r;have s:=r.ext _ _ kb;unfold It;refine⟨_,rfl,aa (λq=>?_) (λq=>aa (λG=>?_) (λG=>aa (λF=>?_) (λF=>aa (λH=>?_) (λH=>?_))))⟩
 ·rw[not_eq_true']at q;rw[if_neg (λc=>by rw[c.1]at q;cases q)];exact iB w t s B _
 ·rw[if_neg (λc=>by have:=dT G;omega)];exact iB w t s B _
 ·rw[if_neg (λc=>by have:=dT F;omega)];exact iB w t s B _
 ·rw[if_neg (λc=>by have:=dT H;omega)];exact iB w t s B _
 rw[not_eq_false']at q;have G:=dF G;have F:=dF F;have H:=dF H;rw[if_pos ⟨q,by omega,by omega,by omega⟩];have T:=pR W q;obtain⟨m,hm,x0⟩:∃m:Nat,d=m/\m<=30:=⟨d.toNat,by omega,by omega⟩
 subst hm;have em:((m:Int)).toNat=m:=by omega
 rw[em];refine⟨_,du _,_,a.l0,(mE A.kind r.wf).mono ?_⟩;rintro _ g5 ⟨k,rfl,b5⟩;rw[Lz m (by omega)];refine⟨_,rfl,?_⟩;refine wK (bK A x l z) n m h.next V k ((m+1:Nat):Int) (λy i g=>i<=m+1/\y=m+1-i/\BS S g k A.kind 0 (df A.kind) ((List.range i).map λ(j:Nat)=>⟨if(j:Int)>=n then df A.kind else[],[]⟩)) _ (λy i=>?_) (m+1) (i:=0) ⟨by omega,rfl,b5⟩;intros;rename_i g v;obtain⟨f1,f2,b⟩:=v;refine aa (λp=>?_) (λp=>?_)
 ·have u:i<m+1:=by have:=dT p;omega
  have X:∀f:List UInt8,f=(if(i:Int)>=n then df A.kind else[])->((List.range i).map λ(j:Nat)=>(⟨if(j:Int)>=n then df A.kind else[],[]⟩:dx))++[⟨f,[]⟩]=(List.range (i+1)).map λ(j:Nat)=>(⟨if(j:Int)>=n then df A.kind else[],[]⟩:dx):=λf hf=>by
   rw[range_succ,map_append,hf];rfl
  have J:((List.range i).map λ(j:Nat)=>(⟨if(j:Int)>=n then df A.kind else[],[]⟩:dx)).length<=100000:=by simp;omega
  rw[aP u (by omega)];refine aa (λM=>⟨_,Aa k,_,b.one,(iC r.wf b J _).mono ?_⟩) (λM=>(iC r.wf b J _).mono ?_)
  ·rintro _ g6 ⟨rfl,C,_⟩;rw[X _ (by rw[if_pos (dT M)])]at C;exact⟨_,rfl,bZ (m+1-(i+1)) (by omega) ⟨by omega,rfl,C⟩⟩
  ·rintro _ g6 ⟨rfl,C,_⟩;rw[X _ (by rw[if_neg (dF M)])]at C;exact⟨_,rfl,bZ (m+1-(i+1)) (by omega) ⟨by omega,rfl,C⟩⟩
 have u:i=m+1:=by have:=dF p;omega
 subst u;have e0:((List.range (m+1)).map λ(j:Nat)=>(⟨if(j:Int)>=n then df A.kind else[],[]⟩:dx))=iV A n m 0++kM A m 0:=by
  have:kM A m 0=[]:=rfl;rw[this,append_nil];unfold iV;refine map_congr_left λj _=>?_;rw[if_neg (Nat.not_lt_zero j)]
 rw[e0]at b;have x8:=a.ok b.ok;refine wL (bK A x l z) n m h.next V k (λy i g=>i<=m/\y=m-i/\BS S g k A.kind 0 (df A.kind) (iV A n m i++kM A m i)) _ (λy i=>?_) m (i:=0) ⟨by omega,rfl,b⟩;intros;rename_i g1 v;obtain⟨d1,d2,O⟩:=v;have o:(iV A n m i++kM A m i).length=m+1+i*A.af.length:=by rw[length_append,iZ,q9]
 have x3:=Au (A:=A) (m:=m) i;have x2:=GD (A:=A) (n:=n) (m:=m) (i:=i);have x4:i*A.af.length<=30*8:=mul_le_mul (by omega) h8;have x1:i*(cg A.af+A.af.length)<=30*48:=mul_le_mul (by omega) (by omega);refine aa (λp=>?_) (λp=>?_)
 ·have u:i<m:=by have:=dT p;omega
  have or:=(Ok.refl O.ok.wf).room 12;have Q:=O.sk or;have D:=a.ok Q.ok;rw[aP u (by omega)];refine⟨_,mJ _,_,D.l2,_,D.all,(C0 (k:=k) Q.ok.wf _).mono ?_⟩;rintro _ g8 ⟨fc,rfl,lv,o8⟩;have U:=Q.sk o8;have I:=a.ok U.ok;refine⟨_,_,_,rfl,(qT r.wf U a.row lv (by rw[o];omega) (by rw[dY];omega) T.start T.to).mono ?_⟩;rintro _ g9 ⟨rfl,N,x5⟩;have R:=a.ok N.ok;rw[o]at N;have hs:(iV A n m i++kM A m i++A.af.map (mF (m+1+i*A.af.length) (some ((i+1:Nat):Int))))[i]?=some (⟨if(i:Int)>=n then df A.kind else[],[]⟩:dx):=by
   rw[append_assoc,List.getElem?_append_left (by rw[iZ];omega)];exact KX (by omega)
  have x6:=m4 (m+1+i*A.af.length) (some ((i+1:Nat):Int)) A.af;rw[o];refine⟨_,rfl,(B6 r.wf N hs (by rw[dY,dY];omega) A.lead _).mono ?_⟩;rintro _ x7 ⟨rfl,K,Z⟩;have e:(iV A n m i++kM A m i++A.af.map (mF (m+1+i*A.af.length) (some ((i+1:Nat):Int)))).set i (⟨if(i:Int)>=n then df A.kind else[],[]++[⟨0,0,A.lead,((m+1+i*A.af.length:Nat):Int)+A.start⟩]⟩:dx)=iV A n m (i+1)++kM A m (i+1):=by
   rw[append_assoc,List.set_append_left _ _ (by rw[iZ];omega),sE,<-RJ (show i<m+1 by omega)];rfl
  rw[e]at K;exact⟨rfl,⟨I.l2,kQ _⟩,⟨R.l2,kQ _⟩,⟨I.all,Em a.row⟩,bZ (m-(i+1)) (by omega) ⟨by omega,rfl,K⟩⟩
 ·have u:i=m:=by have:=dF p;omega
  subst u;exact pg w r.wf O (by rw[o];omega) (by rw[dY];omega) t s B
end
end
variable{w:Value}{Q:VH}
noncomputable def aca:FD:=cF Tryz.f54 []
theorem ZY(a:OA)(n c:Nat)(h:ae)(Q:VH)(b:xN (eL SS.P 22 (.slice a n c)) h λ_ a=>Q (.func (.func 82) ⟨[]⟩ ⟨[(pA (h.next))]⟩) a):FW SS 54 [(.slice a n c)] h Q:=cI aca Tryz.func54 (ai b)
noncomputable def xh:FD:=cF Tryz.f82 [([1,0,0],[0,5,6,7])]
abbrev sP(b:Nat)(a:OA)(n c:Nat)(i:Nat):LV:=[(.func (.yield b) ⟨[]⟩ ⟨[]⟩),(.slice a n c),(iA n),(iA i)]
theorem ZV(e d:Nat)(h:ae)(Q:VH)(f:xL (aj SS.P 22 h (pA d)) λa b c=>LL SS xh [1,0,0] [(.func (.yield e) ⟨[]⟩ ⟨[]⟩),(.slice a b c),(iA b),(.int .i64 0)] h (KK SS xh [1,0] [] (EE SS xh Q))):FW SS 82 [(.func (.yield e) ⟨[]⟩ ⟨[]⟩),(pA d)] h Q:=cI xh Tryz.func82 (ai f)
theorem BY(l p:Nat)(a:OA)(n c:Nat)(k:Nat->Nat->ae->Prop)(Q:VH)(step:∀(j:Nat) (i:Nat) (o:Nat->Value) (h:ae),k j i h->au (decide (((i:Int):Int)<(n:Int))) (iP 22 (.slice a n c) (iA i) λg=>lI h g λf=>FW SS (YB+l) [(.int .i64 f)] h λd e=>yB d λb=>au (!b) (Q (.tuple ⟨[]⟩) e) (aJ (fs (sP l a n c) k) j [(.func (.yield l) ⟨[]⟩ ⟨[]⟩),(.slice a n c),(iA n),(.int .i64 (wrap .i64 ((i:Int)+1)))] e)) (Q (.tuple ⟨[]⟩) h))(j:Nat){i:Nat}{h:ae}(m:k j i h):LL SS xh [1,0,0] (sP l a n c i) h (KK SS xh [1,0] [] (EE SS xh Q)):=
 dc (sP l a n c) k (λj i o h m=>ai (step j i o h m)) j m
noncomputable def gz:FD:=cF Tryz.f99 []
theorem Pz(a:OA)(n c:Nat)(d:Nat)(h:ae)(Q:VH)(e:xN (eL SS.P 22 (.slice a n c)) h λ_ b=>RG SS gz [1,0,1,0] [(.slice a n c),(.func (.func 82) ⟨[]⟩ ⟨[(pA d)]⟩),(pA (h.next)),undef,nA,undef,(.func (.func 82) ⟨[]⟩ ⟨[(pA d)]⟩),undef,undef,undef,undef,undef,undef] b (KK SS gz [1,0,1,0] [] (EE SS gz Q))):FW SS 99 [(.slice a n c),(.func (.func 82) ⟨[]⟩ ⟨[(pA d)]⟩)] h Q:=cI gz Tryz.func99 (ai e)
theorem E6{ks:Nat}{o m g i l j n e f d:Value}(k:xL (aj SS.P 22 h (pA ks)) λa b c=>Q (.slice a b c) h):(KK SS gz [1,0,1,0] [] (EE SS gz Q)) .normal [v,w,(pA ks),o,m,g,i,l,j,n,e,f,d] h:=ai k
theorem E4{ks:Nat}{q:Int}{i f j d e g b c a:Value}{Q:eV}(k:Q .normal [v,w,(pA ks),i,f,(.int .i64 q),d,(.int .i64 q),e,g,b,c,a] h):TT SS gz [1,0,1,0,0] [v,w,(pA ks),i,f,j,d,(.int .i64 q),e,g,b,c,a] h Q:=ai k
theorem E5{ks:Nat}{q:Int}{t p n o u y r s m:Value}{Q:eV}(x:xL (aj SS.P 22 h (pA ks)) λj k l=>xR (aI SS.P 22 1 [(0,(.int .i64 q))]) h λ_ f g i=>xE (bH SS.P 22 22 (.slice j k l) (sA (h.next) f g) i) i λb c d _ e=>xU (ah SS.P 22 (pA ks) (.slice b c d) e) e λ_ a=>Q .normal [v,w,(pA ks),t,p,(.int .i64 q),n,o,(.slice j k l),(.int .i64 q),(sA (h.next) f g),(.slice b c d),m] a):TT SS gz [1,0,1,0,1] [v,w,(pA ks),t,p,(.int .i64 q),n,o,u,y,r,s,m] h Q:=ai x
noncomputable def abl:FD:=cF Tryz.f80 []
theorem Yl(f:Nat)(h:ae)(Q:VH)(g:FW SS 99 [nA,(.func (.func 82) ⟨[]⟩ ⟨[(pA f)]⟩)] h λd e=>yL d λa b c=>Q (.slice a b c) e):FW SS 80 [(.func (.func 82) ⟨[]⟩ ⟨[(pA f)]⟩)] h Q:=cI abl Tryz.func80 (ai g)
noncomputable def ZH:FD:=cF Tryz.f53 []
theorem Wh(i:Nat)(h:ae)(Q:VH)(j:FW SS 80 [(.func (.func 82) ⟨[]⟩ ⟨[(pA i)]⟩)] h λf g=>yL f λc d e=>FW SS 81 [(.slice c d e)] g λa b=>a=(.tuple ⟨[]⟩)/\Q (.slice c d e) b):FW SS 53 [(.func (.func 82) ⟨[]⟩ ⟨[(pA i)]⟩)] h Q:=cI ZH Tryz.func53 (ai j)
noncomputable def gf:FD:=cF Tryz.f52 [([1,1,0,1,0,0],[0,3]),([1,1,0,1,0,0,1,0,0,1,0,1,0,1,0,0],[0,3,4,5])]
abbrev iX(a:OA)(n c:Nat)(k:Nat):LV:=[(.slice a n c),(iA k)]
abbrev kH(a:OA)(n c:Nat)(b:OA)(m d:Nat)(k j:Nat):LV:=[(.slice a n c),(iA k),(.slice b m d),(iA j)]
theorem JN(a:OA)(n c:Nat)(h:ae)(Q:VH)(b:au (decide (((n:Int):Int)<2)) (Q (.slice a n c) h) (LL SS gf [1,1,0,1,0,0] (iX a n c 1) h (KK SS gf [1,1,0,1,0] [] (EE SS gf Q)))):FW SS 52 [(.slice a n c)] h Q:=cI gf Tryz.func52 (ai b)
theorem zW(a:OA)(n c:Nat)  (l:Nat->Nat->ae->Prop) (Q:VH) (step:∀(m:Nat)(k:Nat)(p:Nat->Value)(h:ae),l m k h->au (decide (((k:Int):Int)<(n:Int))) (iP 22 (.slice a n c) (iA k) λj=>lI (room h 10) j λi=>iP 22 (.slice a n c) (.int .i64 (wrap .i64 ((k:Int)-1))) λg=>lI (room h 10) g λf=>au (((i:Int)==f)) (xL (bF SS.P 22 (.slice a n c) (some (iA k)) none none (room h 10)) λb d e=>LL SS gf [1,1,0,1,0,0,1,0,0,1,0,1,0,1,0,0] (kH a n c b d e k 1) (room h 10) (KK SS gf [1,0,0,1,0,1,0,1,0] [1,1,0,1,0,0] (RR gf [1,1,0,1,0,0] (fs (iX a n c) l) m (KK SS gf [1,1,0,1,0] [] (EE SS gf Q))))) (aJ (fs (iX a n c) l) m [(.slice a n c),(.int .i64 (wrap .i64 ((k:Int)+1)))] (room h 10))) (Q (.slice a n c) h)) (m:Nat) {k:Nat} {h:ae} (o:l m k h):LL SS gf [1,1,0,1,0,0] (iX a n c k) h (KK SS gf [1,1,0,1,0] [] (EE SS gf Q)):=
 dc (iX a n c) l (λm k p h o=>ai (step m k p h o)) m o
theorem zX(a:OA)(n c:Nat)(t:OA)(m d:Nat)(v:Nat->Nat->ae->Prop)(w:Nat)(s:Nat->Nat->Nat->ae->Prop)(Q:VH)(step:∀(r:Nat) (k j:Nat) (q:Nat->Value) (h:ae),s r k j h->au (decide (((j:Int):Int)<(m:Int))) (iP 22 (.slice t m d) (iA j) λp=>lI (room h 10) p λo=>iP 22 (.slice t m d) (.int .i64 (wrap .i64 ((j:Int)-1))) λl=>lI (room h 10) l λi=>au (((o:Int) !=i)) (iP 22 (.slice t m d) (iA j) λg=>lI (room h 10) g λf=>iP 22 (.slice a n c) (iA k) λe=>xU (ah SS.P 3 (.pointer (some e)) (.int .i64 f) (room h 10)) (room h 10) λ_ b=>aJ (pL (kH a n c t m d) s) r [(.slice a n c),(.int .i64 (wrap .i64 ((k:Int)+1))),(.slice t m d),(.int .i64 (wrap .i64 ((j:Int)+1)))] b) (aJ (pL (kH a n c t m d) s) r [(.slice a n c),(iA k),(.slice t m d),(.int .i64 (wrap .i64 ((j:Int)+1)))] (room h 10))) (xL (bF SS.P 22 (.slice a n c) (some (iA k)) none none h) λe f g=>xG (dX SS.P js (ev SS.gl [(.slice a n c),(q 1),(q 2),(iA k),(.slice t m d),(iA j),(q 6),(q 7),(q 8),(q 9),(q 10),(q 11),(q 12),(q 13),(q 14),(q 15),(q 16),(q 17),(q 18),(q 19),(q 20),(q 21),(q 22),(q 23),(q 24),(q 25),(q 26),(q 27),(q 28),(iA j),(.slice t m d),(iA m),(.bool (decide (((j:Int):Int)<(m:Int)))),(q 33),(q 34),(q 35),(q 36),(q 37),(q 38),(q 39),(q 40),(q 41),(q 42),(q 43),(q 44),(q 45),(q 46),(q 47),(q 48),(q 49),(q 50),(q 51),(q 52),(q 53),(.slice a n c),(iA k),(.slice e f g),(q 57),(q 58),(q 59),(q 60)]) (KW (fQ [1,1,0,1,0,0,1,0,0,1,0,1,1,0] gf.body) 3) h) h λ_ _ d=>xL (bF SS.P 22 (.slice a n c) none (some (iA k)) none d) λa b c=>Q (.slice a b c) d))(r:Nat){k j:Nat}{h:ae}(u:s r k j h):LL SS gf [1,1,0,1,0,0,1,0,0,1,0,1,0,1,0,0] (kH a n c t m d k j) h (KK SS gf [1,0,0,1,0,1,0,1,0] [1,1,0,1,0,0] (RR gf [1,1,0,1,0,0] (fs (iX a n c) v) w (KK SS gf [1,1,0,1,0] [] (EE SS gf Q)))):=
 mh (kH a n c t m d) s (λr k j q h u=>ai (step r k j q h u)) r u
noncomputable def wJ:FD:=cF Tryz.f21 [([1,1,1,1,0,1,0,0],[4,6,7,8,35,36,37])]
abbrev rO(a k f t:Nat)(b:OA)(m d:Nat)(i:Nat):LV:=[(pA a),(pA k),(iA f),(iA t),(.slice b m d),(iA m),(iA i)]
theorem XY(A:Int)(a:OA)(n c:Nat)(h:ae)(Q:VH)(G:xN (br SS.P 29) h λ_ B=>au (decide ((A:Int)<1)) (xA (bd SS.P 29 []) λb=>xU (ah SS.P 29 (pA (h.next)) (.agg ⟨b⟩) B) B λ_ a=>ef SS [((pA (h.next)),some 29),((.int .i64 1),none)] a Q) (au (decide ((A:Int)>3)) (xA (bd SS.P 29 []) λb=>xU (ah SS.P 29 (pA (h.next)) (.agg ⟨b⟩) B) B λ_ a=>ef SS [((pA (h.next)),some 29),((.int .i64 1),none)] a Q) (FW SS 49 [(.slice a n c),(.func (.func 50) ⟨[]⟩ ⟨[]⟩)] B λH C=>yB H λE=>au E (xA (bd SS.P 29 []) λb=>xU (ah SS.P 29 (pA (h.next)) (.agg ⟨b⟩) C) C λ_ a=>ef SS [((pA (h.next)),some 29),((.int .i64 1),none)] a Q) (FW SS 42 [(.int .i64 A)] C λF D=>yO F λz=>FW SS 43 [(.pointer z),(strOf [])] (room D 10) λx y=>yI .i64 x λw=>IV SS.P z y λv _=>fP 65 v 1 λu=>lS y u λt=>FW SS 43 [(.pointer z),(strOf t)] y λr s=>yI .i64 r λq=>(aj SS.P 9 (room D 10) (.pointer (some u))=some (strOf t)/\dG 4 (strOf t) (strOf t)=true)/\FW SS 54 [(.slice a n c)] s λo p=>yF o λl m n=>FW SS 53 [(.func (.func l) ⟨m⟩ ⟨n⟩)] p λj k=>yL j λf g i=>FW SS 52 [(.slice f g i)] k λd e=>yL d λa b c=>LL SS wJ [1,1,1,1,0,1,0,0] [(pA (h.next)),(.pointer z),(.int .i64 w),(.int .i64 q),(.slice a b c),(iA b),(.int .i64 0)] e (KK SS wJ [1,1,1,1,0,1,0] [] (EE SS wJ Q)))))):FW SS 21 [(.int .i64 A),(.slice a n c)] h Q:=cI wJ Tryz.func21 (ai G)
theorem BG(u:Int)(a:OA)(n c:Nat)(q k f t:Nat)(b:OA)(m d:Nat)(p:Nat->Nat->ae->Prop)(Q:VH)(step:∀(o:Nat) (i:Nat) (s:Nat->Value) (h:ae),p o i h->au (decide (((i:Int):Int)<(m:Int))) (iP 22 (.slice b m d) (iA i) λn=>lI h n λl=>fP 65 (pA k) 1 λj=>lS h j λg=>xA (bd SS.P 70 [(0,(.int .i64 l)),(1,(.int .i64 l)),(2,(strOf g)),(3,(iA t))]) λe=>FW SS 44 [(pA k),(iA f),(.agg ⟨e⟩)] h λa c=>a=(.tuple ⟨[]⟩)/\aJ (fs (rO q k f t b m d) p) o [(pA q),(pA k),(iA f),(iA t),(.slice b m d),(iA m),(.int .i64 (wrap .i64 ((i:Int)+1)))] c) (FW SS 46 [(pA k)] h λd e=>∃c:LV,∃b:Int,d=(.tuple ⟨[(.agg ⟨c⟩),(.int .i64 b)]⟩)/\xU (ah SS.P 29 (pA q) (.agg ⟨c⟩) e) e λ_ a=>ef SS [((pA q),some 29),((.int .i64 b),none)] a Q))(o:Nat){i:Nat}{h:ae}(r:p o i h):LL SS wJ [1,1,1,1,0,1,0,0] (rO q k f t b m d i) h (KK SS wJ [1,1,1,1,0,1,0] [] (EE SS wJ Q)):=
 dc (rO q k f t b m d) p (λo i s h r=>ai (step o i s h r)) o r
section
def qA(z:Int):List Value:=[zV z]
theorem qV:∀l:List Int,(l.map qA).flatten=l.map zV
 |[]=>rfl
 |z::l=>by rw[List.map_cons,List.flatten_cons,qV l];rfl
theorem Uj{l:List Int}:∀r∈l.map qA,r.length=1:=λr a=>by
 obtain⟨z,_,rfl⟩:=mem_map.1 a;rfl
theorem abG{g:ae}{l:List Int}(o:fp g h 3 1 v (l.map qA)):Rd h 3 v (wO l):=(by
 obtain⟨_,⟨a,d⟩|⟨k,b,cs,c,a,d,f,e,j,i⟩⟩:=o
 ·left;refine⟨a,?_⟩;have:l=[]:=by simpa using d
  rw[this];rfl
 ·rw[lM,Nat.mul_one,qV]at e;rw[lM]at a;exact .inr ⟨k,b,cs,c,true,by rw[jD];exact a,f,by rw[jD];exact e⟩)
theorem afh:dZ SS.P 22=true:=by kernel_rfl
theorem aao(a:Option Addr)(n c:Nat):eL SS.P 22 (.slice a n c)=some (.cells [.slice a n c] 22 0 true,lk):=by cases a<;>kernel_rfl
theorem SY:Go.Ab.isAgg SS.P 22=false:=by kernel_rfl
theorem adH:SS.pr 81=some D6:=by kernel_rfl
theorem F2:∀l:List Int,Mu (l.map zV)=some l
 |[]=>rfl
 |z::l=>by
  show(Mu (l.map zV)).map (z::·)=_;rw[F2 l];rfl
theorem R1:mq []=[]:=by unfold mq;simp
theorem Uk{hb g:ae}(w:Wf hb)(m:Ok hb g){x:Value}{l:List Int}(i:fp hb g 3 1 x (l.map qA)){q:Int}{e:Nat}(d:g.get e=some (.cells [.int .i64 q] 3 1 true))(p:l.length<=100000):
  ∃(b:Option Addr)(n c:Nat)(u:dP),bH SS.P 22 22 x (.slice (some ⟨e,0,none⟩) 1 1) g=some (.slice b n c,u)/\fp hb (u.app g) 3 1 (.slice b n c) ((l++[q]).map qA)/\Ok hb (u.app g)/\
   (∀j B,g.get j=some B->fh x≠some j->(u.app g).get j=some B)/\(∀j,fh (.slice b n c)=some j->g.next<=j\/fh x=some j)/\g.next<=(u.app g).next:=by
 have a:(l.map qA).length=l.length:=lM ..;obtain⟨b,n,c,u,h,s,f,k⟩:=fp.add qG Vw KR afh w m i (ns:=[qA q]) (Cq (cs:=qA q) d rfl) (λr o=>by rw[mem_singleton.1 o];rfl) rfl (by rw[Gx,a,List.length_singleton];omega) (by rw[a,List.length_singleton];omega) (.inl (Nat.le_refl _));exact⟨b,n,c,u,h,by rw[map_append];exact f,k⟩
theorem R0{g:ae}(u:Wf g)(n:Ok g h){v:Value}{l:List Int}(o:fp g h 3 1 v (l.map qA))(x:l.length<=100000):FW SS 81 [v] h (λr i=>r = .tuple ⟨[]⟩/\fp g i 3 1 v ((mq l).map qA)/\Ok g i):=by
 have d:(l.map qA).length=l.length:=lM ..;have j:(mq l).length=l.length:=List.length_mergeSort l;by_cases e:l.length=0
 ·obtain rfl:=List.eq_nil_of_length_eq_zero e;obtain⟨a,c,rfl⟩:=o.Xy;refine Cb (h':=h) (v:= .tuple ⟨[]⟩) (by kernel_rfl) adH (λA=>?_) ⟨rfl,by rw[R1];exact o,n⟩;rfl
 ·obtain⟨D,⟨_,z⟩|⟨k,b,cs,c,rfl,q,p,m,C,s⟩⟩:=o
  ·exact absurd (by rw[<-d,z];rfl) e
  rw[d]at m s;rw[Nat.mul_one,qV]at m;rw[Nat.mul_one]at C;have f:((mq l).map qA).length=l.length:=by rw[lM,j]
  have B:((mq l).map zV).length=l.length:=by rw[lM,j]
  refine Cb (h':=h.set k (.cells (cs.take b++(mq l).map zV++cs.drop (b+l.length)) 3 1 true)) (v:= .tuple ⟨[]⟩) (by kernel_rfl) adH (λA=>?_) ⟨rfl,⟨Uj,.inr ⟨k,b,_,c,by rw[d,f],q,by rw[ae.aw,if_pos rfl],?_,?_,by rw[f];exact s⟩⟩,n.set _ q (n.wf _ _ p) u⟩
  ·rw[d];show(if l.length=0 then some (Value.tuple ⟨[]⟩,h)else match h.get k with
    |some (.cells cs t w true)=>if l.length<4611686018427387904/\b+l.length<=cs.length then(Mu ((cs.drop b).take l.length)).map λy=>(Value.tuple ⟨[]⟩,h.set k (.cells (cs.take b++(mq y).map zV++cs.drop (b+l.length)) t w true))else none
    |_=>none)=_
   rw[if_neg e,p];dsimp only;rw[if_pos (⟨Nat.lt_of_le_of_lt x (by decide),by omega⟩:l.length<4611686018427387904/\b+l.length<=cs.length),m,F2];rfl
  ·rw[f,Nat.mul_one,qV,append_assoc,List.drop_append,drop_eq_nil_of_le (by rw[length_take];omega),List.nil_append,show b-(cs.take b).length=0 by rw[length_take];omega,drop_zero,List.take_append_of_le_length (by omega),take_of_length_le (by omega)]
  ·rw[length_append,length_append,length_take,length_drop,B];omega
theorem Ok.del{b:ae}(a:Ok b h){k:Nat}(f:b.next<=k)(d:Wf b):Ok b (h.del k):=by
 refine⟨ae.IP a.wf k,λj B c=>?_,a.nx⟩;rw[ae.dU,if_neg (λe=>by have:=d _ _ c;omega)];exact a.ext _ _ c
abbrev RU(kc:Nat):Value:= .func (.func 82) ⟨[]⟩ ⟨[pA kc]⟩
abbrev tmA(ks kc:Nat):List Value:=[nA,RU kc,pA ks,undef,nA,undef,RU kc,undef,undef,undef,undef,undef,undef]
theorem hcA:se (fQ [1,0,1,0,0] gz.body) (fQ [1,0,1,0,1] gz.body)=true:=by kernel_rfl
noncomputable def N9(a:LSt)(ks kc:Nat):dV:= .loop a (tmA ks kc) [7] (fQ [1,0,1,0,0] gz.body) (fQ [1,0,1,0,1] gz.body) hcA
structure YI(hb g:ae)(ks ky kc:Nat)(l:List Int):Prop where
 ok:Ok hb g
 box:∃a n c,g.get ks=some (.cells [.slice a n c] 22 0 true)/\fp hb g 3 1 (.slice a n c) (l.map qA)/\∀j,fh (.slice a n c)=some j->j≠ks/\j≠ky
 lp:g.get ky=some (N9 .ready ks kc)
 gs:hb.next<=ks
 gy:hb.next<=ky
 ne:ks≠ky
section
variable {hb g:ae} {ks ky kc:Nat} {l:List Int}
theorem Xs(w:Wf hb)(V:YI hb g ks ky kc l)(q:Int)(U:l.length<=100000):FW SS (YB+ky) [.int .i64 q] g (λv S=>v = .bool true/\YI hb S ks ky kc (l++[q])):=by
 obtain⟨K,⟨a,n,c,L,T,z⟩,J,M,G,x⟩:=V;refine Xr (X:=gz) (p:=[1,0,1,0]) (hc:=hcA) J rfl rfl (by kernel_rfl) (by kernel_rfl) ?_;have x2:=K.wf _ _ L;have x4:=K.wf _ _ J;refine E4 (ks:=ks) (q:=q) ?_;refine⟨rfl,J,?_⟩;have m:∀j B,j≠ky->g.get j=some B->(g.set ky (N9 .busy ks kc)).get j=some B:=λj B b k=>by rw[ae.aw,if_neg b];exact k
 have D:Ok hb (g.set ky (N9 .busy ks kc)):=K.set _ G (by omega) w;have E:=m ks _ x L;have P:(g.set ky (N9 .busy ks kc)).get ky=some (N9 .busy ks kc):=by rw[ae.aw,if_pos rfl]
 have Q:=T.kL (h':=g.set ky (N9 .busy ks kc)) λj B b k=>m j B (z j b).2 k;have x1:(g.set ky (N9 .busy ks kc)).next=g.next:=rfl;show TT SS gz [1,0,1,0,1] _ (g.set ky (N9 .busy ks kc)) _;generalize g.set ky (N9 .busy ks kc)=f at*;have y:=(Ok.refl D.wf).push (.cells [.int .i64 q] 3 1 true);have k3:=aO f (.cells [.int .i64 q] 3 1 true);obtain⟨d,u,s,O,W,N,o,C,R,x0⟩:=Uk w (D.trans y) (Q.ok y) k3 U;have F:=C ks _ (y.ext _ _ E) (λe=>(z ks e).1 rfl);have A:=C ky _ (y.ext _ _ P) (λe=>(z ky e).2 rfl);have x3:(f.push (.cells [.int .i64 q] 3 1 true)).next=f.next+1:=rfl;have Y:=jf (t:=22) (i:=0) afg F (by simp) (v:= .slice d u s) (by cases d<;>rfl) (by cases d<;>rfl);have Z:aj SS.P 22 f (pA ks)=some (.slice a n c):=cq qG SY E (by simp);refine E5 (ks:=ks) (q:=q) ⟨a,n,c,Z,_,_,_,PU q,d,u,s,O,W,_,Y,?_⟩;generalize O.app (f.push (.cells [.int .i64 q] 3 1 true))=g4 at*;dsimp only[dP.app];refine⟨?_,true,.ready,rfl,rfl,?_⟩
 ·rw[ae.aw,if_neg (Ne.symm x)];exact A
 have r:∀j,fh (.slice d u s)=some j->j≠ks/\j≠ky:=λj b=>by
  rcases R j b with h|h
  ·omega
  ·exact z j h
 have I:=o.wf _ _ F;have H:=o.wf _ _ A;refine⟨(o.set _ M I w).set _ G H w,⟨d,u,s,?_,N.kL λj B b k=>?_,r⟩,?_,M,G,x⟩
 ·rw[ae.aw,if_neg x,ae.aw,if_pos rfl];rfl
 ·rw[ae.aw,if_neg (r j b).2,ae.aw,if_neg (r j b).1];exact k
 ·show(ae.set _ ky (N9 .ready ks kc)).get ky=_;rw[ae.aw,if_pos rfl]
theorem ZW{c:Nat}{L:List Int}(w:Wf hb)(b:YI hb g ks ky kc [])(t:hb.get kc=some (.cells [.slice a n c] 22 0 true))(r:dL hb (.slice a n c) L)(u:L.length<=100000):FW SS 82 [.func (.yield ky) ⟨[]⟩ ⟨[]⟩,pA kc] g (λ_ l=>YI hb l ks ky kc L):=by
 obtain rfl:=dL.len r;have k:aj SS.P 22 g (pA kc)=some (.slice a L.length c):=cq qG SY (b.ok.ext _ _ t) (by simp);refine ZV ky kc g _ ⟨a,L.length,c,k,?_⟩;refine BY ky kc a L.length c (λh i g=>i<=L.length/\h=L.length-i/\YI hb g ks ky kc (L.take i)) _ (λh i=>?_) L.length (i:=0) ⟨Nat.zero_le _,rfl,by simpa using b⟩;clear k b;intros;rename_i v f;obtain⟨y,rfl,b⟩:=f;refine aa (λq=>?_) (λq=>?_)
 ·have j:i<L.length:=by have:=dT q;omega
  obtain⟨p,s,m⟩:=dL.at_ (dL.ok r b.ok) j;refine⟨_,s,_,m,(Xs w b _ (by rw[length_take];omega)).mono ?_⟩;rintro _ x ⟨rfl,o⟩;refine⟨_,rfl,aa (λe=>by cases e) (λ_=>?_)⟩;rw[aP (n:=L.length) (by omega) (by omega)];refine bZ (L.length-(i+1)) (by omega) ⟨by omega,rfl,?_⟩;rw[kf (d:=0) j];exact o
 ·have q:=dF q;rw[take_of_length_le (by omega)]at b;exact b
theorem PA{c:Nat}(w:Wf h)(q:h.get kc=some (.cells [.slice a n c] 22 0 true))(r:dL h (.slice a n c) p)(y:p.length<=100000):FW SS 99 [nA,RU kc] h (λv l=>fp h l 3 1 v (p.map qA)/\Ok h l):=by
 refine Pz none 0 0 kc h _ ⟨_,aao none 0 0,?_⟩;have i:=(Ok.refl w).push (.cells [nA] 22 0 true);have C:=aO h (.cells [nA] 22 0 true);have J:(h.push (.cells [nA] 22 0 true)).next=h.next+1:=rfl;generalize h.push (.cells [nA] 22 0 true)=b at*;refine adK (f:= .tmp 6) (ps:= #[7]) (g:=82) (first:=[]) (cap:=[pA kc]) (hc:=hcA) (by kernel_rfl) rfl rfl ⟨by unfold YB;decide,by kernel_rfl⟩ ?_;show FW SS 82 [.func (.yield b.next) ⟨[]⟩ ⟨[]⟩,pA kc] (b.push (N9 .ready h.next kc)) _;have o:=(Ok.refl i.wf).push (N9 .ready h.next kc);have t:=aO b (N9 .ready h.next kc);have A:YI h (b.push (N9 .ready h.next kc)) h.next b.next kc []:=⟨i.trans o,⟨none,0,0,o.ext _ _ C,fp.nil _ _ _ _,λj e=>by cases e⟩,t,Nat.le_refl _,by omega,by omega⟩
 refine(ZW w A q r y).mono ?_;rintro v d ⟨I,⟨a,n,c,z,x,F⟩,D,K,s,E⟩;refine⟨.normal,by rw[D];rfl,?_⟩;have m:Ok h (d.del b.next):=Ok.del I s w;have k:(d.del b.next).get h.next=some (.cells [.slice a n c] 22 0 true):=by rw[ae.dU,if_neg E];exact z
 have H:aj SS.P 22 (d.del b.next) (pA h.next)=some (.slice a n c):=cq qG SY k (by simp);exact E6 (ks:=h.next) ⟨a,n,c,H,x.kL λj B G u=>(by rw[ae.dU,if_neg (F j G).2];exact u),m⟩
theorem Ym{c:Nat}(w:Wf h)(f:h.get kc=some (.cells [.slice a n c] 22 0 true))(r:dL h (.slice a n c) p)(d:p.length<=100000):FW SS 80 [RU kc] h (λv b=>fp h b 3 1 v (p.map qA)/\Ok h b):=by
 refine Yl kc h _ ((PA w f r d).mono ?_);rintro v g ⟨o,e⟩;obtain⟨j,i,rfl⟩:=o.Xy;exact⟨_,_,_,rfl,o,e⟩
theorem Wi{c:Nat}(w:Wf h)(j:h.get kc=some (.cells [.slice a n c] 22 0 true))(r:dL h (.slice a n c) p)(b:p.length<=100000):FW SS 53 [RU kc] h (λv d=>fp h d 3 1 v ((mq p).map qA)/\Ok h d):=by
 refine Wh kc h _ ((Ym w j r b).mono ?_);rintro v g ⟨o,i⟩;obtain⟨m,l,rfl⟩:=o.Xy;refine⟨_,_,_,rfl,(R0 w i o b).mono ?_⟩;rintro v k ⟨rfl,f,e⟩;exact⟨rfl,f,e⟩
theorem ZZ{c:Nat}(w:Wf h):FW SS 54 [.slice a n c] h (λv b=>v=RU h.next/\b.get h.next=some (.cells [.slice a n c] 22 0 true)/\Ok h b):=
 ZY a n c h _ ⟨_,aao a n c,rfl,aO h _,(Ok.refl w).push _⟩
end
end
variable{k:Nat}
section
def comp(l:List Int)(i:Nat):List Int:=(List.range i).flatMap λj=>if 1<=j/\l.getD j 0=l.getD (j-1) 0 then[]else[l.getD j 0]
theorem uS(l:List Int)(i:Nat):comp l (i+1)=comp l i++(if 1<=i/\l.getD i 0=l.getD (i-1) 0 then[]else[l.getD i 0]):=by
 unfold comp;rw[range_succ,List.flatMap_append];simp
section
variable {h0 g:ae} {kb off n c N:Nat} {l D:List Int}
structure th(h0:ae)(kb off n N:Nat)(D:List Int)(g:ae):Prop where
 blk:∃cs,g.get kb=some (.cells cs 3 1 true)/\(cs.drop off).take n=D.map zV/\cs.length=N
 len:D.length=n
 ok:Ok h0 g
 fit:off+n<=N
 nb:h0.next<=kb
theorem th.room(r:th h0 kb off n N D g)(m:Nat):th h0 kb off n N D (Go.Ab.room g m):=⟨r.blk,r.len,r.ok.room m,r.fit,r.nb⟩
theorem th.rd0(r:th h0 kb off n N D g)(c:Nat):Rd g 3 (.slice (some ⟨kb,off,none⟩) n c) (wO D):=by
 obtain⟨cs,a,b,d⟩:=r.blk;exact(.inr ⟨kb,off,cs,c,true,by rw[jD,r.len],a,by rw[jD,r.len];exact b⟩)
theorem th.rd(r:th h0 kb off n N D g)(c:Nat):dL g (.slice (some ⟨kb,off,none⟩) n c) D:=dL.OM (r.rd0 c)
theorem th.rdF(r:th h0 kb off n N D g){k:Nat}(f:k<=n)(c:Nat):dL g (.slice (some ⟨kb,off+k*1,none⟩) (n-k) c) (D.drop k):=by
 obtain⟨cs,b,d,e⟩:=r.blk;have a:(D.drop k).length=n-k:=by rw[length_drop,r.len]
 refine dL.OM (.inr ⟨kb,off+k*1,cs,c,true,by rw[jD,a],b,?_⟩);rw[jD,a,Nat.mul_one,<-List.drop_drop];have:((cs.drop off).drop k).take (n-k)=((cs.drop off).take n).drop k:=by rw[List.drop_take]
 rw[this,d];unfold wO;rw[List.map_drop];rfl
theorem th.put(w:Wf h0)(r:th h0 kb off n N D g){k:Nat}(e:k<n)(z:Int):∃u:dP,ah SS.P 3 (.pointer (some ⟨kb,off+k,none⟩)) (.int .i64 z) g=some (undef,u)/\th h0 kb off n N (D.set k z) (u.app g):=by
 obtain⟨cs,a,d,c⟩:=r.blk;have b:=r.fit;refine⟨_,jf zs3 a (i:=off+k) (by omega) (v:= .int .i64 z) rfl rfl,⟨_,by show(g.set kb _).get kb=_;rw[ae.aw,if_pos rfl],?_,by rw[length_set];exact c⟩,by rw[length_set];exact r.len,r.ok.set _ r.nb (r.ok.wf _ _ a) w,b,r.nb⟩;rw[List.drop_set,if_neg (by omega),List.take_set,d,show off+k-off=k by omega,map_set];rfl
theorem th.clr(w:Wf h0)(r:th h0 kb off n N D g){k:Nat}(o:k<n)(d:Nat):∃u:dP,zU SS.P 22 (.slice (some ⟨kb,off+k*1,none⟩) (n-k) d) g=some (undef,u)/\∃a,th h0 kb off n N a (u.app g)/\a.take k=D.take k:=by
 obtain⟨cs,b,f,m⟩:=r.blk;have c:=r.fit;have h:db (iv 0).cells.toList (n-k)=List.replicate (n-k) (zV 0):=nD _ _;refine⟨.set kb (.cells (cs.take (off+k)++List.replicate (n-k) (zV 0)++cs.drop (off+k+(n-k))) 3 1 true),?_,D.take k++List.replicate (n-k) 0,⟨⟨_,by show(g.set kb _).get kb=_;rw[ae.aw,if_pos rfl],?_,?_⟩,?_,r.ok.set _ r.nb (r.ok.wf _ _ b) w,c,r.nb⟩,?_⟩
 ·unfold zU;rw[qG];dsimp only;rw[aaM];dsimp only;rw[if_neg (by omega),h,Nat.mul_one];unfold storeAt;rw[b];dsimp only;rw[if_pos ⟨by simp;omega,by simp[zV,dQ]⟩,length_replicate];rfl
 ·have l:D.take k=D.take k:=rfl;rw[append_assoc,List.drop_append,length_take,Nat.min_eq_left (by omega),List.drop_append,length_replicate];have j:off-(off+k)=0:=by omega
  rw[j,drop_zero,show 0-(n-k)=0 by omega,drop_zero];have e:(cs.take (off+k)).drop off=(cs.drop off).take k:=by rw[List.drop_take,show off+k-off=k by omega]
  rw[e];have i:(cs.drop off).take k=(D.take k).map zV:=by
   have:(cs.drop off).take k=((cs.drop off).take n).take k:=by rw[take_take,Nat.min_eq_left (by omega)]
   rw[this,f,List.map_take]
  rw[i,<-append_assoc,List.take_append_of_le_length (by simp[r.len];omega),take_of_length_le (by simp[r.len];omega),map_append,List.map_replicate]
 ·rw[length_append,length_append,length_take,length_replicate,length_drop];omega
 ·rw[length_append,length_take,length_replicate,r.len];omega
 ·rw[List.take_append_of_le_length (by rw[length_take,r.len];omega),take_take,Nat.min_self]
end
theorem Wb{g:ae}{off n c z:Nat}{cs:List Value}(b:g.get k=some (.cells cs 3 1 true))(f:z<=n)(e:n<=bC c):bF SS.P 22 (.slice (some ⟨k,off,none⟩) n c) none (some (.int .i64 (z:Int))) none g=some (.slice (some ⟨k,off,none⟩) z c):=by
 unfold bF;dsimp only;rw[qG];dsimp only[eU];rw[Sr,b];dsimp only;rw[if_pos (.inl rfl),if_pos (by omega)];have a:(((0:Nat):Int)).toNat=0:=rfl;have d:((z:Int)-((0:Nat):Int)).toNat=z:=by omega
 rw[a,d,Nat.zero_mul,Nat.add_zero,sub_zero]
theorem TE{h0:ae}(w:Wf h0)(ok:Ok h0 h){v:Value}{l:List Int}(o:fp h0 h 3 1 v (l.map qA))(hl:l.length<=100000):FW SS 52 [v] h (λr h'=>∃a n c,r = .slice a n c/\Rd h' 3 (.slice a n c) (wO (comp l l.length))/\Ok h0 h'):=by
 have J:=abG o;by_cases K:l.length<2
 ·obtain⟨a,c,rfl⟩:=o.Xy;rw[lM]at J⊢;refine JN a l.length c h _ (aa (λ_=>⟨a,l.length,c,rfl,?_,ok⟩) (λe=>by have:=dF e;omega));have:comp l l.length=l:=by
   match l,K with
   |[],_=>rfl
   |[x],_=>rfl
   |x::y::r,K=>simp at K;omega
  rw[this];exact J
 obtain⟨_,⟨_,he⟩|⟨kb,off,cs,c,rfl,nb,Q,M,Z,N⟩⟩:=o
 ·exfalso;have:l=[]:=by simpa using he
  rw[this]at K;simp at K
 rw[lM]at M N;rw[lM]at J⊢;rw[Nat.mul_one,qV]at M;rw[Nat.mul_one]at Z;generalize x8:l.length=n at*;have r0:th h0 kb off n cs.length l h:=⟨⟨cs,Q,M,rfl⟩,x8,ok,by omega,nb⟩
 refine JN _ n c h _ (aa (λe=>by have:=dT e;omega) (λ_=>?_));refine zW _ n c (λV k g=>1<=k/\k<=n/\V=n-k/\th h0 kb off n cs.length l g/\comp l k=l.take k) _ (λV k=>?_) (n-1) (k:=1) ⟨by omega,by omega,rfl,r0,?_⟩
 rotate_left
 ·rw[kf (d:=0) (by omega)];have:comp l 1=[l.getD 0 0]:=by rw[uS,if_neg (by omega)];rfl
  rw[this];rfl
 intros;rename_i g x0;obtain⟨k1,k2,k3,rz,hc⟩:=x0;refine aa (λq=>?_) (λq=>?_)
 ·have Q:k<n:=by have:=dT q;omega
  obtain⟨s,rfl⟩:∃s,k=s+1:=⟨k-1,by omega⟩
  have B:=rz.room 10;obtain⟨p,e1,e2⟩:=dL.at_ (B.rd c) (i:=s+1) (by omega);obtain⟨p',e3,e4⟩:=dL.at_ (B.rd c) (i:=s) (by omega);rw[AW s (by omega)];have z:=uS l (s+1);rw[show s+1-1=s by omega]at z;refine⟨_,e1,_,e2,_,e3,_,e4,aa (λC=>?_) (λC=>?_)⟩
  ·have C:l.getD (s+1) 0=l.getD s 0:=by simpa using C
   rw[if_pos ⟨by omega,C⟩,append_nil,hc]at z;obtain⟨y6,g1,g2,g3⟩:=B.blk;refine⟨_,_,_,Ec qG Sr g1 (by omega) N,?_⟩;clear e1 e2 e3 e4 C;generalize y5:s+1=f at*;refine zX _ n c _ (n-f) (c-f) _ V (λS k j g=>1<=j/\j<=n-f/\S=n-f-j/\∃D,th h0 kb off n cs.length D g/\(comp l (f+j)).length=k/\D.take k=comp l (f+j)/\k+1<=f+j/\∀p,f+j<=p+1->p<n->D.getD p 0=l.getD p 0) _ (λS k j=>?_) (n-f-1) (k:=f) (j:=1) ⟨by omega,by omega,rfl,l,B,by rw[z,length_take];omega,by rw[z],by omega,λ_ _ _=>rfl⟩;intros;rename_i g4 W;obtain⟨j1,j2,j3,D,F,dl,Y,dk,R⟩:=W;have y0:=F.len;refine aa (λU=>?_) (λU=>?_)
   ·have hj:j<n-f:=by have:=dT U;omega
    obtain⟨m,rfl⟩:∃m,j=m+1:=⟨j-1,by omega⟩
    have A:=F.room 10;have y7:(D.drop f).length=n-f:=by rw[length_drop,y0]
    obtain⟨p1,x1,O⟩:=dL.at_ (A.rdF (by omega:f<=n) (c-f)) (i:=m+1) (by omega);obtain⟨p2,x3,X⟩:=dL.at_ (A.rdF (by omega:f<=n) (c-f)) (i:=m) (by omega);have gd:∀i,(D.drop f).getD i 0=D.getD (f+i) 0:=λi=>by rw[gD,List.getElem?_drop,<-gD]
    rw[gd]at O X;rw[R (f+(m+1)) (by omega) (by omega)]at O;rw[R (f+m) (by omega) (by omega)]at X;have t:=uS l (f+(m+1));rw[show f+(m+1)-1=f+m by omega]at t;have L:k<n:=by omega
    rw[AW m (by omega),aP (i:=m+1) (n:=n) (by omega) (by omega)];refine⟨_,x1,_,O,_,x3,_,X,aa (λE=>?_) (λE=>?_)⟩
    ·have E:l.getD (f+(m+1)) 0≠l.getD (f+m) 0:=by simpa using E
     rw[if_neg (λe=>E e.2)]at t;obtain⟨u,st,x6⟩:=A.put w L (l.getD (f+(m+1)) 0);have x7:aD SS.P 22 (.slice (some ⟨kb,off,none⟩) n c) (iA k)=some (.pointer (some ⟨kb,off+k,none⟩)):=by
      have:=Qo (P:=SS.P) qG Sr (k:=kb) (off:=off) (n:=n) (c:=c) (ik:= .i64) (i:=(k:Int)) (by omega) (by omega);rw[this];have e:off+((k:Int)).toNat*1=off+k:=by omega
      rw[e]
     rw[aP (i:=k) (n:=n) (by omega) (by omega)];refine⟨_,x1,_,O,_,x7,u,st,gY (n-f-(m+1+1)) (by omega) ⟨by omega,by omega,rfl,_,x6,?_,?_,by omega,λp x9 I=>?_⟩⟩
     ·rw[show f+(m+1+1)=f+(m+1)+1 by omega,t,length_append,dl];rfl
     ·rw[show f+(m+1+1)=f+(m+1)+1 by omega,t,kf (d:=0) (by rw[length_set];omega),lG (Nat.le_refl _),Y,dv (by omega),if_pos rfl]
     ·rw[dv (by omega),if_neg (by omega)];exact R p (by omega) I
    ·have E:l.getD (f+(m+1)) 0=l.getD (f+m) 0:=by simpa using E
     rw[if_pos ⟨by omega,E⟩,append_nil]at t;refine gY (n-f-(m+1+1)) (by omega) ⟨by omega,by omega,rfl,D,A,?_,?_,by omega,λp x9 I=>R p (by omega) I⟩
     ·rw[show f+(m+1+1)=f+(m+1)+1 by omega,t];exact dl
     ·rw[show f+(m+1+1)=f+(m+1)+1 by omega,t];exact Y
   ·have hj:j=n-f:=by have:=dF U;omega
    have L:k<n:=by omega
    obtain⟨y4,y1,y2,y3⟩:=F.blk;obtain⟨u,cl,D',A,x5⟩:=F.clr w L (c-k);obtain⟨G,z1,z2,z3⟩:=A.blk;have T:comp l n=D.take k:=by rw[Y,hj,show f+(n-f)=n by omega]
    refine⟨_,_,_,Ec qG Sr y1 (by omega) N,undef,u,Eq.trans (b:=zU SS.P 22 (.slice (some ⟨kb,off+k*1,none⟩) (n-k) (c-k)) g4) (by kernel_rfl) cl,_,_,_,Wb z1 (by omega) N,_,_,_,rfl,?_,A.ok⟩;have H:(comp l n).length=k:=by rw[T,length_take];omega
    refine(.inr ⟨kb,off,G,c,true,by rw[jD,H],z1,?_⟩);rw[jD,H];have:(G.drop off).take k=((G.drop off).take n).take k:=by rw[take_take,Nat.min_eq_left (by omega)]
    rw[this,z2,<-List.map_take,x5,<-T];rfl
  ·have C:l.getD (s+1) 0≠l.getD s 0:=by simpa using C
   rw[if_neg (λe=>C e.2),hc]at z;rw[aP (i:=s+1) (n:=n) (by omega) (by omega)];refine bZ (n-(s+1+1)) (by omega) ⟨by omega,by omega,rfl,B,?_⟩;rw[z];exact(kf (d:=0) (by omega)).symm
 ·have Q:k=n:=by have:=dF q;omega
  subst Q;refine⟨_,_,_,rfl,?_,rz.ok⟩;rw[hc,take_of_length_le (by omega)];exact rz.rd0 c
end
variable{z:Int}
theorem abM{d:ae}(r:Rd g 3 v (wO p))(h:Kp g d):Rd d 3 v (wO p):=by
 rcases r with⟨a,b⟩|⟨k,e,cs,c,i,a,b,f⟩
 ·exact .inl ⟨a,b⟩
 ·exact .inr ⟨k,e,cs,c,i,a,h.2 _ _ _ _ _ b (by decide) (by decide) (by decide),f⟩
def oj(l:List Int):List Int:=comp (mq l) (mq l).length
theorem JM(l:List Int):∀i,(comp l i).length<=i
 |0=>Nat.le_refl _
 |i+1=>by
  rw[uS,length_append];have:=JM l i;split
  ·simp;omega
  ·simp;omega
theorem GO(l:List Int):(mq l).length=l.length:=List.length_mergeSort l
theorem UC(l:List Int):(oj l).length<=l.length:=by
 unfold oj;exact Nat.le_trans (JM _ _) (Nat.le_of_eq (GO l))
def HM(a:Int)(l:List Int):List gj:=l.map λs=>⟨s,s,df a,1⟩
def DB(a:Int)(l:List Int):bp:=⟨a,0,df a,[⟨[],HM a (oj l)⟩,⟨df a,[]⟩]⟩
def yk(a:Int)(l:List Int):bp×Int:=if(decide (1<=a/\a<=3)&&l.all sM)=true then(DB a l,0)else(uJ,1)
theorem XZ{c:Nat}{l:List Int}(w:Wf h)(r:dL h (.slice a n c) l)(hl:l.length<=10000):FW SS 21 [.int .i64 z,.slice a n c] h (BR h (yk z l)):=by
 obtain rfl:=dL.len r;have e:=(Ok.refl w).push mW;have o:=aO h mW;have nb:h.next<(h.push mW).next:=Nat.lt_succ_self _;refine XY z a _ c h _ ⟨_,qS,?_⟩;generalize h.push mW=K at*;unfold yk;refine aa (λq=>?_) (λq=>aa (λt=>?_) (λt=>?_))
 ·have:=dT q;rw[decide_eq_false (show ¬(1<=z/\z<=3) by omega),Bool.false_and,if_neg Bool.false_ne_true];exact iB w e o (Nat.le_refl _) 1
 ·have:=dT t;rw[decide_eq_false (show ¬(1<=z/\z<=3) by omega),Bool.false_and,if_neg Bool.false_ne_true];exact iB w e o (Nat.le_refl _) 1
 have q:=dF q;have t:=dF t;rw[decide_eq_true (show 1<=z/\z<=3 by omega),Bool.true_and];refine(TI (dL.ok r e) (by omega)).mono ?_;rintro _ N ⟨rfl,A⟩;obtain rfl:K=N:=A.symm;refine⟨_,rfl,aa (λj=>?_) (λj=>?_)⟩
 ·rw[not_eq_true']at j;rw[j,if_neg Bool.false_ne_true];exact iB w e o (Nat.le_refl _) 1
 rw[not_eq_false']at j;rw[j,if_pos rfl];refine(mE z e.wf).mono ?_;rintro _ g3 ⟨k,rfl,D⟩;have u:=D.sk ((Ok.refl D.ok.wf).room 10);refine⟨_,rfl,(iC e.wf u (by simp) []).mono ?_⟩;rintro _ Y ⟨rfl,H,V⟩;refine⟨_,rfl,lK ⟨_,Aa k,_,H.one,(iC e.wf H (by simp) _).mono ?_⟩⟩;rintro _ g5 ⟨rfl,x,U⟩;refine⟨_,rfl,⟨u.one,kQ _⟩,(ZZ x.ok.wf).mono ?_⟩;rintro _ g6 ⟨rfl,T,m⟩;have R:=dL.ok r ((e.trans x.ok).trans m);refine⟨_,_,_,rfl,(Wi m.wf T R (by omega)).mono ?_⟩;rintro v g7 ⟨F,S⟩;obtain⟨a7,X,rfl⟩:=F.Xy;refine⟨_,_,_,rfl,(TE m.wf S F (by rw[GO];omega)).mono ?_⟩;rintro _ Z ⟨E,n8,G,rfl,J,O⟩;obtain rfl:=dL.len (dL.OM J);have P:=x.sk (m.trans O);refine⟨_,_,_,rfl,?_⟩;have W:=UC l;rw[<-oj]at*;refine BG z a l.length c h.next k 0 1 E (oj l).length G (λC i g=>i<=(oj l).length/\C=(oj l).length-i/\Rd g 3 (.slice E (oj l).length G) (wO (oj l))/\BS K g k z 0 (df z) [⟨[],HM z ((oj l).take i)⟩,⟨df z,[]⟩]) _ (λC i=>?_) (oj l).length (i:=0) ⟨Nat.zero_le _,rfl,J,P⟩;intros;rename_i g B;obtain⟨f1,f2,L,b⟩:=B;have f:cg [(⟨[],HM z ((oj l).take i)⟩:dx),⟨df z,[]⟩]=i:=by
  rw[dj,dj];show(HM z ((oj l).take i)).length+(0+0)=i;unfold HM;rw[lM,length_take];omega
 refine aa (λp=>?_) (λp=>?_)
 ·have y:i<(oj l).length:=by have:=dT p;omega
  obtain⟨pp,M,A⟩:=dL.at_ (dL.OM L) y;refine⟨_,M,_,A,_,Aa k,_,b.one,_,aas _ _ _ _,(xT (s:=0) e.wf b rfl (by rw[f];omega) ⟨(oj l).getD i 0,(oj l).getD i 0,df z,1⟩).mono ?_⟩;rintro _ g9 ⟨rfl,Q,I⟩;rw[aP y (by omega)];refine⟨rfl,bZ ((oj l).length-(i+1)) (by omega) ⟨by omega,rfl,abM L I,?_⟩⟩;have:HM z ((oj l).take (i+1))=HM z ((oj l).take i)++[⟨(oj l).getD i 0,(oj l).getD i 0,df z,1⟩]:=by
   rw[kf (d:=0) y];unfold HM;rw[map_append];rfl
  rw[this];exact Q
 ·obtain rfl:i=(oj l).length:=by have:=dF p;omega
  rw[take_of_length_le (Nat.le_refl _)]at b f;exact pg w e.wf b (by simp) (by rw[f];omega) e o (Nat.le_refl _)
variable{Z:List (List UInt8)}
section
theorem zb:SS.P.underlying 106=some (.slice 103):=by kernel_rfl
theorem zv:aG SS.P 103=some 1:=by kernel_rfl
theorem aco:Go.Ab.isAgg SS.P 103=false:=by kernel_rfl
noncomputable def WD:TypeInfo:=(SS.P.info? 103).getD default
theorem WE:SS.P.info? 103=some WD:=by kernel_rfl
theorem NO:WD.size=1:=by kernel_rfl
theorem Lq:WD.bytes=24:=by kernel_rfl
theorem aae:zeroOf SS.P 103=some nA:=by kernel_rfl
theorem adz(n:Nat)(a:n<=100000):ch SS.P 106 (.int .i64 (n:Int)) (.int .i64 (n:Int))=some (.cells (List.replicate n nA) 103 1 true,mR n n):=by
 unfold ch bW;dsimp only;rw[zb]
 try dsimp only
 change (match SS.P.info? 103,zeroOf SS.P 103 with
  |some i,some z=>(if z.cells.size=i.size/\0<i.size/\(0:Int)<=(n:Int)/\(n:Int)<=(n:Int)/\(n:Int)*i.bytes<=140737488355328/\(n:Int)<=1099511627776 then some (dV.cells (db z.cells.toList (n:Int).toNat) 103 i.size true,λk=>Value.slice (some ⟨k,0,none⟩) (n:Int).toNat (n:Int).toNat)else none)
  |_,_=>none)=_
 rw[WE,aae];dsimp only;rw[NO,Lq,if_pos ⟨rfl,by omega,by omega,Int.le_refl _,by omega,by omega⟩];have e:((n:Int)).toNat=n:=by omega
 rw[e,show(nA).cells.toList=[nA]from rfl,nD];rfl
theorem aaV{g:ae}{z:Nat}{cs:List Value}{l:Bool}(r:Rd g n v d)(p:g.get k=some (.cells cs m z l))(o:n≠m)(B:dV):Rd (g.set k B) n v d:=by
 rcases r with r|⟨h,b,e,c,f,j,a,i⟩
 ·exact .inl r
 ·exact .inr ⟨h,b,e,c,f,j,by rw[ae.aw,if_neg (λx=>by rw[x,p]at a;injection a with a;injection a with _ a;exact o a.symm)];exact a,i⟩
structure TB(h:ae)(kt X Y p:Nat)(kr:Nat->Nat)(cv:Nat->Nat->Value)(g:ae):Prop where
 out:g.get kt=some (.cells ((List.range X).map λa=>if a<p then vS (kr a) Y Y else nA) 103 1 true)
 row:∀a,a<p->g.get (kr a)=some (.cells ((List.range Y).map (cv a)) 107 1 true)
 new:h.next<=kt/\∀a,a<p->h.next<=kr a
 inj:∀a b,a<p->b<p->kr a=kr b->a=b
 ok:Ok h g
def up2(cv:Nat->Nat->Value)(i j:Nat)(y:Value):Nat->Nat->Value:=λa b=>if a=i/\b=j then y else cv a b
section
variable {h:ae} {kt X Y p i j:Nat} {kr:Nat->Nat} {cv:Nat->Nat->Value} {g g':ae}
theorem TB.sk(t:TB h kt X Y p kr cv g)(o:Ok g g'):TB h kt X Y p kr cv g':=⟨o.ext _ _ t.out,λa b=>o.ext _ _ (t.row a b),t.new,t.inj,t.ok.trans o⟩
theorem TB.room(t:TB h kt X Y p kr cv g)(n:Nat):TB h kt X Y p kr cv (Go.Ab.room g n):=⟨t.out,t.row,t.new,t.inj,t.ok.room n⟩
theorem TB.Xx(t:TB h kt X Y p kr cv g)(a:i<p)(b:p<=X):aj SS.P 103 g (.pointer (some ⟨kt,i,none⟩))=some (vS (kr i) Y Y):=by
 rw[cq nX aco t.out (by simp;omega),Cn (by omega),if_pos a]
theorem TB.ldV(t:TB h kt X Y p kr cv g)(a:i<p)(b:j<Y):aj SS.P 107 g (.pointer (some ⟨kr i,j,none⟩))=some (cv i j):=by
 rw[cq Eb Jw (t.row i a) (by simp;omega),Cn b]
theorem TB.Zb(t:TB h kt X Y p kr cv g)(w:Wf h)(d:i<p)(s:j<Y){y:Value}(n:dQ y=true)(m:y.cells = #[y]):∃u:dP,ah SS.P 107 (.pointer (some ⟨kr i,j,none⟩)) y g=some (undef,u)/\TB h kt X Y p kr (up2 cv i j y) (u.app g)/\(∀v l,Rd g 9 v l->Rd (u.app g) 9 v l)/\(∀k l,VB g k l->VB (u.app g) k l)/\(u.app g).next=g.next:=by
 have c:=t.row i d;refine⟨_,jf nE c (by simp;omega) n m,⟨?_,λa f=>?_,t.new,t.inj,t.ok.set _ (t.new.2 i d) (t.ok.wf _ _ c) w⟩,λv l r=>aaV r c (by decide) _,λk l b=>?_,rfl⟩
 ·show(g.set (kr i) _).get kt=_;rw[ae.aw,if_neg (kx t.out c (by decide))];exact t.out
 ·show(g.set (kr i) _).get (kr a)=_;rw[ae.aw];by_cases e:a=i
  ·subst e;rw[if_pos rfl];congr 2;refine ext_getElem (by simp) λb o q=>?_;rw[List.getElem_set];simp only[List.getElem_map,List.getElem_range];unfold up2;by_cases e:j=b
   ·subst e;simp
   ·rw[if_neg e,if_neg (λx=>e x.2.symm)]
  ·rw[if_neg (λx=>e (t.inj a i f d x)),t.row a f];congr 2;refine map_congr_left λb _=>?_;unfold up2;rw[if_neg (λx=>e x.1)]
 ·show(g.set (kr i) _).get k=_;rw[ae.aw,if_neg (λx=>by rw[x]at b;have b:g.get (kr i)=_:=b;rw[c]at b;injection b with b;injection b with _ b;exact absurd b (by decide))];exact b
theorem TB.aer(t:TB h kt X Y p kr cv g)(w:Wf h)(y:p<X){i:Nat}(m:g.get i=some (.cells (List.replicate Y nA) 107 1 true))(v:h.next<=i)(j:∀a,a<p->kr a≠i)(n:∀b,cv p b=nA):∃u:dP,ah SS.P 103 (.pointer (some ⟨kt,p,none⟩)) (sA i Y Y) g=some (undef,u)/\TB h kt X Y (p+1) (λa=>if a=p then i else kr a) cv (u.app g)/\(∀k l,VB g k l->VB (u.app g) k l)/\(u.app g).next=g.next:=by
 refine⟨_,jf zv t.out (by simp;omega) rfl rfl,⟨?_,λa o=>?_,⟨t.new.1,λa o=>?_⟩,λa b o x f=>?_,t.ok.set _ t.new.1 (t.ok.wf _ _ t.out) w⟩,λk l b=>?_,rfl⟩
 ·show(g.set kt _).get kt=_;rw[ae.aw,if_pos rfl];congr 2;refine ext_getElem (by simp) λb r s=>?_;rw[List.getElem_set];simp only[List.getElem_map,List.getElem_range];by_cases e:p=b
  ·subst e;rw[if_pos rfl,if_pos (by omega),if_pos rfl];rfl
  ·rw[if_neg e];by_cases q:b<p
   ·rw[if_pos q,if_pos (by omega),if_neg (by omega)]
   ·rw[if_neg q,if_neg (by omega)]
 ·show(g.set kt _).get _=_;by_cases e:a=p
  ·subst e;rw[if_pos rfl,ae.aw,if_neg (kx m t.out (by decide)),m];congr 2;refine ext_getElem (by simp) λb r s=>?_;simp only[List.getElem_map,List.getElem_range,List.getElem_replicate];exact(n b).symm
  ·have:=t.row a (by omega);rw[if_neg e,ae.aw,if_neg (kx this t.out (by decide))];exact this
 ·split
  ·exact v
  ·exact t.new.2 a (by omega)
 ·by_cases c:a=p<;>by_cases d:b=p
  ·omega
  ·rw[if_pos c,if_neg d]at f;exact absurd f.symm (j b (by omega))
  ·rw[if_neg c,if_pos d]at f;exact absurd f (j a (by omega))
  ·rw[if_neg c,if_neg d]at f;exact t.inj a b (by omega) (by omega) f
 ·show(g.set kt _).get k=_;rw[ae.aw,if_neg (kx b t.out (by decide))];exact b
end
structure TV(kind:Int)(N X Y:Nat)(cv:Nat->Nat->Value)(T:List LM)(g:ae):Prop where
 len:T.length=X
 row:∀a,a<X->(T.getD a []).length=Y
 at_:∀a b,a<X->b<Y->∃(ad:Option Addr)(c:Nat),cv a b = .slice ad N c/\Rd g 9 (.slice ad N c) (eI (dM T a b))/\VV kind N (dM T a b)
section
variable {kind:Int} {N X Y i j:Nat} {cv:Nat->Nat->Value} {T:List LM} {g g':ae}
theorem Jz{T:List LM}{X Y i j a b:Nat}(g:T.length=X)(f:∀a,a<X->(T.getD a []).length=Y)(c:i<X)(d:j<Y)(v:List (List UInt8)):dM (fu T i j v) a b=if a=i/\b=j then v else dM T a b:=by
 unfold dM fu;rw[dv (by omega)];by_cases e:a=i
 ·subst e;rw[if_pos rfl,dv (by rw[f a c];exact d)];by_cases e:b=j
  ·rw[if_pos e,if_pos ⟨rfl,e⟩]
  ·rw[if_neg e,if_neg (λx=>e x.2)]
 ·rw[if_neg e,if_neg (λx=>e x.1)]
theorem Ld{T:List LM}{X Y i j:Nat}(c:T.length=X)(b:∀a,a<X->(T.getD a []).length=Y)(e:i<X)(f:j<Y)(v:List (List UInt8)):(fu T i j v).length=X/\∀a,a<X->((fu T i j v).getD a []).length=Y:=by
 unfold fu;refine⟨by rw[length_set];exact c,λa d=>?_⟩;rw[dv (by omega)];split
 ·rw[length_set];exact b i e
 ·exact b a d
theorem TV.ok(t:TV kind N X Y cv T g)(o:Ok g g'):TV kind N X Y cv T g':=⟨t.len,t.row,λa b j d=>by obtain⟨h,c,f,i,e⟩:=t.at_ a b j d;exact⟨h,c,f,i.ok o,e⟩⟩
theorem TV.put(t:TV kind N X Y cv T g)(f:i<X)(k:j<Y)(h:∀v l,Rd g 9 v l->Rd g' 9 v l){d:Option Addr}{c:Nat}{l:List (List UInt8)}(r:Rd g 9 (.slice d N c) (eI l))(u:VV kind N l):TV kind N X Y (up2 cv i j (.slice d N c)) (fu T i j l) g':=by
 obtain⟨s,w⟩:=Ld t.len t.row f k l;refine⟨s,w,λa b q m=>?_⟩;rw[Jz t.len t.row f k];unfold up2;by_cases e:a=i/\b=j
 ·rw[if_pos e,if_pos e];exact⟨d,c,rfl,h _ _ r,u⟩
 ·rw[if_neg e,if_neg e];obtain⟨d,c,o,p,n⟩:=t.at_ a b q m;exact⟨d,c,o,h _ _ p,n⟩
end
def ZF(h g:ae)(N:Nat)(d:List (List UInt8))(cv:Nat->Nat->Value)(c:Nat->Nat->Nat)(f:Nat->Nat->Prop):Prop:=∀a b,f a b->cv a b=vS (c a b) N N/\VB g (c a b) d/\h.next<=c a b/\((a=0/\b=0)\/c a b≠c 0 0)
theorem ZF.mono{h g g':ae}{N:Nat}{cv:Nat->Nat->Value}{d:Nat->Nat->Nat}{f e:Nat->Nat->Prop}(z:ZF h g N Z cv d f)(p:∀k l,VB g k l->VB g' k l)(i:∀a b,e a b->f a b):ZF h g' N Z cv d e:=λa b c=>by
 obtain⟨m,n,j,o⟩:=z a b (i a b c);exact⟨m,p _ _ n,j,o⟩
theorem ZF.add{h g g':ae}{N i j:Nat}{cv:Nat->Nat->Value}{p:Nat->Nat->Nat}{f q:Nat->Nat->Prop}(z:ZF h g N Z cv p f)(u:∀k l,VB g k l->k<n)(y:∀k l,VB g k l->VB g' k l)(B:VB g' n Z)(w:h.next<=n)(c:(i=0/\j=0)\/f 0 0)(r:∀a b,q a b->f a b\/(a=i/\b=j))(A:i=0/\j=0->∀a b,¬f a b):ZF h g' N Z (up2 cv i j (vS n N N)) (λa b=>if a=i/\b=j then n else p a b) q:=λa b o=>by
 unfold up2;dsimp only;by_cases e:a=i/\b=j
 ·rw[if_pos e,if_pos e];refine⟨rfl,B,w,?_⟩;by_cases d:i=0/\j=0
  ·left;omega
  ·right;rw[if_neg (by omega)];rcases c with c|c
   ·exact absurd c d
   ·have:=u _ _ (z 0 0 c).2.1;omega
 ·rw[if_neg e,if_neg e];have m:f a b:=(r a b o).resolve_right e;obtain⟨t,v,s,x⟩:=z a b m;refine⟨t,y _ _ v,s,x.imp id λC=>?_⟩;by_cases d:0=i/\0=j
  ·exact absurd m (A ⟨d.1.symm,d.2.symm⟩ a b)
  ·rw[if_neg d];exact C
def StB(kind:Int)(N:Nat)(g:ae)(b:Option Addr)(bn bc:Nat):Option LM->Prop
 |none=>b=none/\bn=0/\bc=0
 |some B=>(∃a,b=some a)/\bn=N/\Mf 107 g (.slice b bn bc) B/\Sq kind N B
theorem StB.ok{kind:Int}{N:Nat}{g g':ae}{b:Option Addr}{bn bc:Nat}{o:Option LM}(s:StB kind N g b bn bc o)(k:Ok g g'):StB kind N g' b bn bc o:=by
 cases o with
 |none=>exact s
 |some B=>exact⟨s.1,s.2.1,s.2.2.1.ok k,s.2.2.2⟩
section
variable {h:ae} {M:bp} {x a b:Option Addr} {z c bn bc:Nat} {V:List (List UInt8)} {o:Option LM}
theorem Zp(w:Wf h)(i:Pf M)(r:dy h (.slice x M.af.length z) M.af)(e:Rd h 9 (.slice a M.af.length c) (eI V))(d:VV M.kind M.af.length V)(f:StB M.kind M.af.length h b bn bc o):FW SS 75 [.agg ⟨bK M x M.af.length z⟩,.slice a M.af.length c,.slice b bn bc] h (WW h M.kind M.af.length (ga (aY M.kind) V o)):=by
 cases o with
 |none=>
  obtain⟨rfl,rfl,rfl⟩:=f;exact Sh w r e d
 |some B=>
  obtain⟨⟨k,rfl⟩,rfl,g,j⟩:=f;exact W0 w i r e d g j
end
end
section
def aee(k kt N:Nat)(F K:Int)(v:OA)(M vc:Nat)(I J:Int)(Q:VH)(G:ae->Prop)(h:ae):Prop:=xA (aj SS.P 29 h (pA k)) λH=>FW SS 76 [(.agg ⟨H⟩),(.slice v M vc),(.int .i64 I),(.int .i64 J),(.bool false)] h λE a=>∃(o:OA)(q m:Nat),∃f:Int,E=(.tuple ⟨[(.slice o q m),(.int .i64 f)]⟩)/\au (((f:Int) !=0)) (Q (.tuple ⟨[(strOf []),(.int .i64 f)]⟩) a) (xP (aD SS.P 106 (sA kt N N) (.int .i64 F)) λi=>xL (aj SS.P 103 (room a 30) (.pointer (some i))) λc d b=>xP (aE SS.P 29 (pA k) 0) λx=>xI .i64 (aj SS.P 3 (room a 30) (.pointer (some x))) λy=>xP (aD SS.P 106 (sA kt N N) (.int .i64 F)) λz=>xL (aj SS.P 103 (room a 30) (.pointer (some z))) λA w u=>xP (aD SS.P 103 (.slice A w u) (.int .i64 K)) λs=>xL (aj SS.P 107 (room a 30) (.pointer (some s))) λC D r=>FW SS 77 [(.int .i64 y),(.slice C D r),(.slice o q m)] (room a 30) λt g=>∃(j:OA)(l p:Nat),∃e:Int,t=(.tuple ⟨[(.slice j l p),(.int .i64 e)]⟩)/\xP (aD SS.P 103 (.slice c d b) (.int .i64 K)) λB=>xU (ah SS.P 107 (.pointer (some B)) (.slice j l p) g) g λL n=>(aj SS.P 103 g (.pointer (some i))=some (.slice c d b)/\dG 4 (.slice c d b) (.slice c d b)=true)/\au (((e:Int) !=0)) (Q (.tuple ⟨[(strOf []),(.int .i64 e)]⟩) n) (G n))
theorem OZ(a:Option Addr)(n c:Nat):dQ (.slice a n c)=true:=by cases a<;>rfl
section
variable {h0 h:ae} {M:bp} {x v:Option Addr} {z k kt X Y i j vc:Nat} {kr:Nat->Nat} {cv:Nat->Nat->Value} {T:List LM} {V:List (List UInt8)}
def M9(M:bp)(V:List (List UInt8))(a b:Int)(T:List LM)(i j:Nat):Option (List LM):=match kU (aY M.kind) (gm M) V a b with
 |none=>none
 |some s=>match nG (aY M.kind) (dM T i j) s with
  |none=>none
  |some r=>some (fu T i j r)
theorem Xc(w:Wf h0)(O:Pf M)(U:MB h0 k M x M.af.length z)(A:TB h0 kt X Y X kr cv h)(tv:TV M.kind M.af.length X Y cv T h)(Z:Rd h 9 (.slice v M.af.length vc) (eI V))(vv:VV M.kind M.af.length V)(a:i<X)(f:j<Y)(q r:Int){Q:VH}{G:ae->Prop}
  (n:M9 M V q r T i j=none->∀g,Ok h0 g->Q (two [] 2) g)
  (p:∀R,M9 M V q r T i j=some R->∀D g,TB h0 kt X Y X kr D g->TV M.kind M.af.length X Y D R g->Rd g 9 (.slice v M.af.length vc) (eI V)->G g):
  aee k kt X (i:Int) (j:Int) v M.af.length vc q r Q G h:=by
 have hn:=O.n;unfold M9 at n p;have B:=U.ok A.ok;refine⟨_,B.all,(Xb A.ok.wf O B.row Z vv q r).mono ?_⟩;rintro _ g1 ⟨m,d⟩
 cases L:kU (aY M.kind) (gm M) V q r with
 |none=>
  rw[L]at d n;subst d;exact⟨_,_,_,_,rfl,aa (λ_=>n rfl _ (A.ok.trans m)) (λe=>by cases e)⟩
 | some s=>
  rw[L]at d n p;obtain⟨H,K,rfl,rs,vs⟩:=d;dsimp only at n p;have b:=(A.sk m).room 30;have E:TV M.kind M.af.length X Y cv T (Go.Ab.room g1 30):=(tv.ok m).ok ((Ok.refl m.wf).room 30);have P:=U.ok b.ok;obtain⟨ad,c,ec,rc,J⟩:=E.at_ i j a f;have C:=b.ldV a f;rw[ec]at C;refine⟨_,_,_,_,rfl,aa (λe=>by cases e) (λ_=>⟨_,Dv zb zv a,_,_,_,b.Xx a (Nat.le_refl _),_,du _,_,P.l0,_,Dv zb zv a,_,_,_,b.Xx a (Nat.le_refl _),_,Dv nX nE f,_,_,_,C,(Z7 b.ok.wf hn rc J (Rd.ok rs ((Ok.refl m.wf).room 30)) vs).mono ?_⟩)⟩;rintro _ g2 ⟨I,d⟩;have o:=b.sk I;have N:=E.ok I
  cases W:nG (aY M.kind) (dM T i j) s with
  |none=>
   rw[W]at d n;subst d;obtain⟨u,F,t,_,_,_⟩:=o.Zb w a f (y:=nA) rfl rfl;exact⟨_,_,_,_,rfl,_,Dv nX nE f,u,F,⟨o.Xx a (Nat.le_refl _),kD _ _ _⟩,aa (λ_=>n rfl _ t.ok) (λe=>by cases e)⟩
  |some l=>
   rw[W]at d p;obtain⟨H,K,rfl,rl,vl⟩:=d;obtain⟨u,F,t,S,_,_⟩:=o.Zb w a f (y:= .slice H M.af.length K) (OZ _ _ _) (by cases H<;>rfl);exact⟨_,_,_,_,rfl,_,Dv nX nE f,u,F,⟨o.Xx a (Nat.le_refl _),kD _ _ _⟩,aa (λe=>by cases e) (λ_=>p _ rfl _ _ t (N.put a f S rl vl) (S _ _ ((Rd.ok (Rd.ok Z m) ((Ok.refl m.wf).room 30)).ok I)))⟩
end
end
section
def RW(M:bp)(B:Option LM)(xs ys:List Int)(i:Nat)(T:List LM):Option (List UInt8):=match bg (rB (aY M.kind) (gm M) B xs ys) (xs.length+1-i) i T with
 |none=>none
 |some T=>oS (aY M.kind) (gm M) (dM T xs.length ys.length)
def SP(M:bp)(B:Option LM)(xs ys:List Int)(i j:Nat)(T:List LM):Option (List UInt8):=match bg (mZ (aY M.kind) (gm M) B xs ys i) (ys.length+1-j) j T with
 |none=>none
 |some T=>RW M B xs ys (i+1) T
def Ss(M:bp)(B:Option LM)(xs ys:List Int)(i j:Nat)(V:List (List UInt8))(q:Nat)(T:List LM):Option (List UInt8):=match bg (oU (aY M.kind) (gm M) xs ys V i j) (4-q) q T with
 |none=>none
 |some T=>SP M B xs ys i (j+1) T
section
variable {M:bp} {B:Option LM} {xs ys:List Int} {i j q:Nat} {V:List (List UInt8)} {T:List LM}
theorem aaU(a:i<xs.length+1):RW M B xs ys i T=SP M B xs ys i 0 T:=by
 unfold RW SP;rw[fo _ a];have e:rB (aY M.kind) (gm M) B xs ys T i=bg (mZ (aY M.kind) (gm M) B xs ys i) (ys.length+1-0) 0 T:=rfl;rw[e]
 cases bg (mZ (aY M.kind) (gm M) B xs ys i) (ys.length+1-0) 0 T<;>rfl
theorem XH:SP M B xs ys i (ys.length+1) T=RW M B xs ys (i+1) T:=by unfold SP;rw[iM]
theorem SQ(b:j<ys.length+1):SP M B xs ys i j T=match ga (aY M.kind) (dM T i j) B with|none=>none|some v=>Ss M B xs ys i j v 1 (fu T i j v):=by
 unfold Ss;have a:SP M B xs ys i j T=match (match ga (aY M.kind) (dM T i j) B with|none=>none|some v=>bg (oU (aY M.kind) (gm M) xs ys v i j) 3 1 (fu T i j v))with|none=>none|some T=>SP M B xs ys i (j+1) T:=by
  conv=>lhs;unfold SP
  rw[fo _ b];have e:mZ (aY M.kind) (gm M) B xs ys i T j=(match ga (aY M.kind) (dM T i j) B with|none=>none|some v=>bg (oU (aY M.kind) (gm M) xs ys v i j) 3 1 (fu T i j v)):=by
   unfold mZ
   cases ga (aY M.kind) (dM T i j) B<;>rfl
  rw[e];generalize (match ga (aY M.kind) (dM T i j) B with|none=>none|some v=>bg (oU (aY M.kind) (gm M) xs ys v i j) 3 1 (fu T i j v))=o
  cases o<;>rfl
 rw[a]
 cases ga (aY M.kind) (dM T i j) B<;>rfl
theorem XI:Ss M B xs ys i j V 4 T=SP M B xs ys i (j+1) T:=by unfold Ss;rw[iM]
theorem Ju(a:q<4)(b:xs.length<i+q%2\/ys.length<j+q/2):Ss M B xs ys i j V q T=Ss M B xs ys i j V (q+1) T:=by
 unfold Ss;rw[fo _ a];unfold oU;rw[if_pos b]
theorem SR(a:q<4)(b:¬(xs.length<i+q%2\/ys.length<j+q/2)):Ss M B xs ys i j V q T=match M9 M V (bO xs i (q%2)) (bO ys j (q/2)) T (i+q%2) (j+q/2)with|none=>none|some T=>Ss M B xs ys i j V (q+1) T:=by
 unfold Ss;rw[fo _ a];have e:oU (aY M.kind) (gm M) xs ys V i j T q=M9 M V (bO xs i (q%2)) (bO ys j (q/2)) T (i+q%2) (j+q/2):=by
  unfold oU M9;rw[if_neg b]
  cases kU (aY M.kind) (gm M) V (bO xs i (q%2)) (bO ys j (q/2))with
  |none=>rfl
  |some s=>dsimp only;cases nG (aY M.kind) (dM T (i+q%2) (j+q/2)) s<;>rfl
 rw[e]
 cases M9 M V (bO xs i (q%2)) (bO ys j (q/2)) T (i+q%2) (j+q/2)<;>rfl
end
theorem afl{q:Nat}(h:q=1\/q=2\/q=3):wrap .i64 ((BitVec.ofInt (IntKind.bits .i64) (q:Int)&&&BitVec.ofInt (IntKind.bits .i64) 1).toNat:Int)=((q%2:Nat):Int):=by
 rcases h with rfl|rfl|rfl<;>decide
theorem afm{q:Nat}(h:q=1\/q=2\/q=3):ay SS.P .shr 3 (iA q) (.int .u64 1)=some (.int .i64 ((q/2:Nat):Int)):=by
 rcases h with rfl|rfl|rfl<;>kernel_rfl
theorem Ly{i j:Nat}(h:i+j<=1000000000):wrap .i64 ((i:Int)+((j:Nat):Int))=((i+j:Nat):Int):=by rw[aB (by omega) (by omega)];omega
section
variable {h0:ae} {M:bp} {x:Option Addr} {z k kt:Nat} {xa ya:Option Addr} {xc yc:Nat} {xs ys:List Int} {B:Option LM} {b:Option Addr} {bn bc:Nat}
theorem aad(w:Wf h0)(mo:Pf M)(mb:MB h0 k M x M.af.length z)(hx:xs.length<=200)(hy:ys.length<=200)(rx:dL h0 (.slice xa xs.length xc) xs)(ry:dL h0 (.slice ya ys.length yc) ys)(sb:StB M.kind M.af.length h0 b bn bc B){Q:VH}{Z:Nat->Nat}{d:Nat->Nat->Value}{T:List LM}{g:ae}
  (S:TB h0 kt (xs.length+1) (ys.length+1) (xs.length+1) Z d g) (tv:TV M.kind M.af.length (xs.length+1) (ys.length+1) d T g) (hQ:∀v g,oQ h0 (RW M B xs ys 0 T) v g->Q v g):
  LL SS cG [1,1,1,1,1,1,1,0,1,0,0] (gJ xa xs.length xc ya ys.length yc k kt (xs.length+1) b bn bc 0) g (KK SS cG [1,1,1,1,1,1,1,0,1,0] [] (EE SS cG Q)):=by
 obtain⟨G,hG⟩:∃G,G=RW M B xs ys 0 T:=⟨_,rfl⟩
 rw[<-hG]at hQ;obtain⟨X,hX⟩:∃X,X=xs.length+1:=⟨_,rfl⟩
 obtain⟨Y,hY⟩:∃Y,Y=ys.length+1:=⟨_,rfl⟩
 rw[<-hX,<-hY]at S tv;rw[<-hX];have hn:=mo.n;refine Et (bK M x M.af.length z) xa xs.length xc ya ys.length yc k kt X b bn bc (λmz i g=>i<=X/\mz=X-i/\∃d T,TB h0 kt X Y X Z d g/\TV M.kind M.af.length X Y d T g/\RW M B xs ys i T=G) _ (λmz i=>?_) X (i:=0) ⟨by omega,rfl,d,T,S,tv,hG.symm⟩;intros;rename_i g1 x5;obtain⟨f1,f2,d,T,S,tv,L⟩:=x5;refine aa (λq1=>?_) (λq1=>?_)
 ·have m:i<X:=by have:=dT q1;omega
  rw[aaU (by omega)]at L;refine Eu (bK M x M.af.length z) xa xs.length xc ya ys.length yc k kt X b bn bc _ mz i (λW j g=>j<=Y/\W=Y-j/\∃d T,TB h0 kt X Y X Z d g/\TV M.kind M.af.length X Y d T g/\SP M B xs ys i j T=G) _ (λW j=>?_) Y (j:=0) ⟨by omega,rfl,d,T,S,tv,L⟩;intros;rename_i g2 x3;obtain⟨d1,d2,y1,T2,x0,x2,r⟩:=x3;refine aa (λq2=>?_) (λq2=>?_)
  ·have A:j<Y:=by have:=dT q2;omega
   rw[SQ (by omega)]at r;have a:=x0.room 15;have O:TV M.kind M.af.length X Y y1 T2 (Go.Ab.room g2 15):=x2.ok ((Ok.refl x0.ok.wf).room 15);have H:=mb.ok a.ok;obtain⟨ad,c,ec,rc,vc⟩:=O.at_ i j m A;have F:=a.ldV m A;rw[ec]at F;refine⟨_,H.all,_,Dv zb zv m,_,_,_,a.Xx m (Nat.le_refl _),_,Dv nX nE A,_,_,_,F,(Zp a.ok.wf mo H.row rc vc (sb.ok a.ok)).mono ?_⟩;rintro _ g3 ⟨o3,hv⟩;have x1:=a.sk o3;have x8:=O.ok o3
   cases C:ga (aY M.kind) (dM T2 i j) B with
   |none=>
    rw[C]at hv r;subst hv;exact⟨_,_,_,_,rfl,aa (λ_=>hQ _ _ ⟨by rw[<-r];rfl,x1.ok⟩) (λe=>by cases e)⟩
   | some V=>
    rw[C]at hv r;obtain⟨J,R,rfl,rl,vl⟩:=hv;dsimp only at r;obtain⟨u,st,x6,kp,_,_⟩:=x1.Zb w m A (y:= .slice J M.af.length R) (OZ _ _ _) (by cases J<;>rfl);have x7:=x8.put m A kp rl vl;have x9:=kp _ _ rl;refine⟨_,_,_,_,rfl,aa (λe=>by cases e) (λ_=>⟨_,Dv zb zv m,_,_,_,x1.Xx m (Nat.le_refl _),_,Dv nX nE A,u,st,?_⟩)⟩;refine Ev (bK M x M.af.length z) xa xs.length xc ya ys.length yc k kt X b bn bc _ mz i _ W j J M.af.length R (λE q g=>1<=q/\q<=4/\E=4-q/\∃d T,TB h0 kt X Y X Z d g/\TV M.kind M.af.length X Y d T g/\Rd g 9 (.slice J M.af.length R) (eI V)/\Ss M B xs ys i j V q T=G) _ (λE q=>?_) 3 (q:=1) ⟨by omega,by omega,rfl,_,_,x6,x7,x9,r⟩;intros;rename_i g5 x4;obtain⟨b1,b2,b3,y3,T6,s,N,U,h⟩:=x4;refine aa (λq3=>?_) (λq3=>?_)
    ·have hq:q=1\/q=2\/q=3:=by have:=dT q3;omega
     have P:q<4:=by omega
     have y0:wrap .i64 ((q:Int)+1)=((q+1:Nat):Int):=aP P (by omega);refine⟨_,afm hq,?_⟩;dsimp only;rw[afl hq,Ly (show i+q%2<=1000000000 by omega),Ly (show j+q/2<=1000000000 by omega),y0];refine aa (λq4=>?_) (λq4=>aa (λq5=>?_) (λq5=>?_))
     ·have hc:xs.length<i+q%2\/ys.length<j+q/2:= .inl (by have:=dT q4;omega);exact bZ (4-(q+1)) (by omega) ⟨by omega,by omega,rfl,_,_,s,N,U,by rw[<-Ju P hc];exact h⟩
     ·have hc:xs.length<i+q%2\/ys.length<j+q/2:= .inr (by have:=dT q5;omega);exact bZ (4-(q+1)) (by omega) ⟨by omega,by omega,rfl,_,_,s,N,U,by rw[<-Ju P hc];exact h⟩
     ·have y2:¬xs.length<i+q%2:=by have:=dF q4;omega
      have y4:¬ys.length<j+q/2:=by have:=dF q5;omega
      rw[SR P (by omega)]at h;have f:=Xc (i:=i+q%2) (j:=j+q/2) (Q:=Q) (G:=λg=>aJ (fs (fI xa xs.length xc ya ys.length yc k kt X b bn bc i j J M.af.length R) (λE q g=>1<=q/\q<=4/\E=4-q/\∃d T,TB h0 kt X Y X Z d g/\TV M.kind M.af.length X Y d T g/\Rd g 9 (.slice J M.af.length R) (eI V)/\Ss M B xs ys i j V q T=G)) E [(.slice xa xs.length xc),(.slice ya ys.length yc),(pA k),(.slice b bn bc),(sA kt X X),(iA i),(iA j),(.slice J M.af.length R),(iA (q+1))] g) w mo mb s N U vl (by omega) (by omega) (bO xs i (q%2)) (bO ys j (q/2))
       (λe g ok=>hQ _ _ ⟨by rw[e]at h;rw[<-h];rfl,ok⟩)
       (λT' e y5 g t1 t2 t3=>bZ (4-(q+1)) (by omega) ⟨by omega,by omega,rfl,_,_,t1,t2,t3,by rw[e]at h;exact h⟩)
      refine aa (λq6=>?_) (λq6=>?_)
      ·have h1:q%2=1:=by have:((q%2:Nat):Int)=1:=(by simpa using q6);omega
       obtain⟨p,C,K⟩:=dL.at_ (dL.ok rx s.ok) (i:=i) (by omega);have t:bO xs i (q%2)=xs.getD i 0:=if_pos h1;rw[t]at f;refine⟨_,C,_,K,aa (λD=>?_) (λD=>?_)⟩
       ·have I:q/2=1:=by have:((q/2:Nat):Int)=1:=(by simpa using D);omega
        obtain⟨p,C,K⟩:=dL.at_ (dL.ok ry s.ok) (i:=j) (by omega);have t:bO ys j (q/2)=ys.getD j 0:=if_pos I;rw[t]at f;exact⟨_,C,_,K,f⟩
       ·have I:¬q/2=1:=λe=>by rw[e]at D;exact absurd D (by decide)
        have t:bO ys j (q/2)=0:=if_neg I;rw[t]at f;exact f
      ·have h1:¬q%2=1:=λe=>by rw[e]at q6;exact absurd q6 (by decide)
       have t:bO xs i (q%2)=0:=if_neg h1;rw[t]at f;refine aa (λD=>?_) (λD=>?_)
       ·have I:q/2=1:=by have:((q/2:Nat):Int)=1:=(by simpa using D);omega
        obtain⟨p,C,K⟩:=dL.at_ (dL.ok ry s.ok) (i:=j) (by omega);have t:bO ys j (q/2)=ys.getD j 0:=if_pos I;rw[t]at f;exact⟨_,C,_,K,f⟩
       ·have I:¬q/2=1:=λe=>by rw[e]at D;exact absurd D (by decide)
        have t:bO ys j (q/2)=0:=if_neg I;rw[t]at f;exact f
    ·obtain rfl:q=4:=by have:=dF q3;omega
     rw[XI]at h;rw[aP A (by omega)];exact bZ (Y-(j+1)) (by omega) ⟨by omega,rfl,_,_,s,N,h⟩
  ·obtain rfl:j=Y:=by have:=dF q2;omega
   rw[hY,XH]at r;rw[aP m (by omega)];exact bZ (X-(i+1)) (by omega) ⟨by omega,rfl,_,_,x0,x2,r⟩
 ·obtain rfl:i=X:=by have:=dF q1;omega
  unfold RW at L;rw[hX,iM]at L;have L:oS (aY M.kind) (gm M) (dM T xs.length ys.length)=G:=L;have a:=S.room 15;have O:TV M.kind M.af.length i Y d T (Go.Ab.room g1 15):=tv.ok ((Ok.refl S.ok.wf).room 15);have H:=mb.ok a.ok;have m:xs.length<i:=by omega
  have A:ys.length<Y:=by omega
  obtain⟨ad,c,ec,rc,vc⟩:=O.at_ xs.length ys.length m A;have F:=a.ldV m A;rw[ec]at F;refine⟨_,H.all,_,Dv zb zv m,_,_,_,a.Xx m (Nat.le_refl _),_,Dv nX nE A,_,_,_,F,(Z3 a.ok.wf mo H.row rc vc).mono ?_⟩;rintro _ g3 ⟨rfl,o3⟩;rw[L];obtain⟨l,n,C,K⟩:=jm (o:=G) (a.ok.trans o3);exact⟨l,n,C,hQ _ _ K⟩
end
end
section
theorem XP{a b:Nat}(d:a<n)(c:b<m)(l:List (List UInt8)):dM (List.replicate n (List.replicate m l)) a b=l:=by
 unfold dM;rw[gD,gD,List.getElem?_replicate,if_pos d,Option.getD_some,List.getElem?_replicate,if_pos c];rfl
theorem Zo{X Y:Nat}(l:List (List UInt8)):(List.replicate X (List.replicate Y l)).length=X/\∀a,a<X->((List.replicate X (List.replicate Y l)).getD a []).length=Y:=by
 refine⟨length_replicate,λa b=>?_⟩;rw[gD,List.getElem?_replicate,if_pos b];exact length_replicate
section
variable {h0:ae} {M:bp} {x:Option Addr} {z k kt:Nat} {xa ya:Option Addr} {xc yc:Nat} {xs ys:List Int} {B:Option LM} {b:Option Addr} {bn bc:Nat}
theorem aac(w:Wf h0)(C:Pf M)(mb:MB h0 k M x M.af.length z)(hx:xs.length<=200)(hy:ys.length<=200)(rx:dL h0 (.slice xa xs.length xc) xs)(ry:dL h0 (.slice ya ys.length yc) ys)(sb:StB M.kind M.af.length h0 b bn bc B){Q:VH}{g:ae}
  (ok:Ok h0 g) (hk:g.get kt=some (.cells (List.replicate (xs.length+1) nA) 103 1 true)) (nk:h0.next<=kt) (hQ:∀v g,oQ h0 (RW M B xs ys 0 (kn (aY M.kind) (gm M) xs ys)) v g->Q v g):
  LL SS cG [1,1,1,1,1,0,1,0,0] (lH xa xs.length xc ya ys.length yc k kt (xs.length+1) b bn bc 0) g (KK SS cG [1,1,1,1,1,0,1,0] [] (EE SS cG Q)):=by
 obtain⟨X,hX⟩:∃X,X=xs.length+1:=⟨_,rfl⟩
 obtain⟨Y,hY⟩:∃Y,Y=ys.length+1:=⟨_,rfl⟩
 obtain⟨f,O⟩:∃f,f=bw (aY M.kind) M.af.length:=⟨_,rfl⟩
 rw[<-hX]at hk⊢;have hn:=C.n;have t0:TB h0 kt X Y 0 (λ_=>0) (λ_ _=>nA) g:=by
  refine⟨?_,λa o=>by omega,⟨nk,λa o=>by omega⟩,λa b o=>by omega,ok⟩;rw[hk];congr 2;refine ext_getElem (by simp) λa h1 h2=>?_;simp
 refine Er (bK M x M.af.length z) xa xs.length xc ya ys.length yc k kt X b bn bc (λmz i g=>i<=X/\mz=X-i/\∃I r c,TB h0 kt X Y i I r g/\(∀a b,i<=a->r a b=nA)/\ZF h0 g M.af.length f r c (λa b=>a<i/\b<Y)) _ (λmz i=>?_) X (i:=0) ⟨by omega,rfl,_,_,λ_ _=>0,t0,λ_ _ _=>rfl,λa b s=>by omega⟩;intros;rename_i p x3;obtain⟨f1,f2,I,r,c,D,H,zf⟩:=x3;rw[aP (i:=ys.length) (n:=Y) (by omega) (by omega),<-hY];refine aa (λq1=>?_) (λq1=>?_)
 ·have N:i<X:=by have:=dT q1;omega
  have d:=D.sk ((Ok.refl D.ok.wf).push (.cells (List.replicate Y nA) 107 1 true));obtain⟨u,st,t,kp,nx⟩:=d.aer w N (aO p _) D.ok.nx (λa o=>by have:=D.ok.wf _ _ (D.row a o);omega) (λb=>H i b (Nat.le_refl _));refine⟨_,_,_,UK Y (by omega),_,Dv zb zv N,u,st,?_⟩;have y3:∀q l,VB p q l->VB (p.push (.cells (List.replicate Y nA) 107 1 true)) q l:=λq l m=>((Ok.refl D.ok.wf).push (.cells (List.replicate Y nA) 107 1 true)).ext _ _ m;refine Es (bK M x M.af.length z) xa xs.length xc ya ys.length yc k kt X b bn bc _ mz i (λW j g=>j<=Y/\W=Y-j/\∃r c,TB h0 kt X Y (i+1) (λa=>if a=i then p.next else I a) r g/\(∀a b,i<a->r a b=nA)/\ZF h0 g M.af.length f r c (λa b=>b<Y/\(a<i\/(a=i/\b<j)))) _ (λW j=>?_) Y (j:=0) ⟨by omega,rfl,_,c,t,λa b o=>H a b (by omega),zf.mono (λq l m=>kp _ _ (y3 _ _ m)) (λa b s=>⟨by omega,s.1⟩)⟩;intros;rename_i L x2;obtain⟨d1,d2,y6,y4,K,E,V⟩:=x2;refine aa (λq2=>?_) (λq2=>?_)
  ·have hj:j<Y:=by have:=dT q2;omega
   have A:=K.room 9;have U:=mb.ok A.ok;have J:=A.Xx (i:=i) (by omega) (by omega);refine⟨_,Dv zb zv N,_,_,_,J,_,U.all,(vw A.ok.wf C U.row).mono ?_⟩;rintro _ g3 ⟨kl,rfl,x1,nl,o3⟩;rw[<-O]at x1;have Z:=A.sk o3;obtain⟨u,st,x7,_,P,_⟩:=Z.Zb w (i:=i) (j:=j) (by omega) hj (y:=sA kl M.af.length M.af.length) rfl rfl;have x9:∀q l,VB L q l->VB g3 q l:=λq l m=>o3.ext _ _ m;refine⟨_,_,_,rfl,_,Dv nX nE hj,u,st,⟨Z.Xx (by omega) (by omega),kD _ _ _⟩,?_⟩;rw[aP hj (by omega)];refine bZ (Y-(j+1)) (by omega) ⟨by omega,rfl,_,_,x7,λa b o=>?_,V.add (λq l m=>?_) (λq l m=>P _ _ (x9 _ _ m)) (P _ _ x1) (Nat.le_trans A.ok.nx nl) ?_ (λa b s=>?_) (λe a b s=>by omega)⟩
   ·unfold up2;rw[if_neg (by omega)];exact E a b o
   ·have:q<L.next:=K.ok.wf _ _ m;have:L.next<=(Go.Ab.room L 9).next:=Nat.le_add_right _ _;omega
   ·by_cases e:i=0/\j=0
    ·exact .inl e
    ·right;omega
   ·by_cases e:a=i/\b=j
    ·exact .inr e
    ·left;omega
  ·obtain rfl:j=Y:=by have:=dF q2;omega
   rw[aP N (by omega)];exact bZ (X-(i+1)) (by omega) ⟨by omega,rfl,_,_,_,K,λa b o=>E a b (by omega),V.mono (λ_ _ m=>m) (λa b s=>⟨s.2,by omega⟩)⟩
 ·obtain rfl:i=X:=by have:=dF q1;omega
  have d:=D.room 11;have T:=mb.ok d.ok;have h:0<i/\0<Y:=by omega
  obtain⟨x5,y1,y0,_⟩:=zf 0 0 h;have J:=d.Xx (i:=0) h.1 (Nat.le_refl _);have x0:=d.ldV (i:=0) (j:=0) h.1 h.2;rw[x5]at x0;have F:VB (Go.Ab.room p 11) (c 0 0) f:=y1;have l1:=T.l1;have x8:M.start.toNat<M.af.length:=by have:=C.start;omega
  have x4:M.start=((M.start.toNat:Nat):Int):=by have:=C.start;omega
  rw[x4]at l1;have S:f.length=M.af.length:=by rw[O];exact N7 _ _
  refine⟨_,Dv zb zv (i:=0) h.1,_,_,_,J,_,Dv nX nE (i:=0) h.2,_,_,_,x0,_,tO _,_,l1,_,mJ _,_,T.l2,_,VB.ix ty x8,_,F.st ty (by omega) _,?_⟩;have m:=d.ok.wf _ _ F;have t:TB h0 kt i Y i I r ((dP.set (c 0 0) (.cells (eI (f.set M.start.toNat M.lead)) 9 1 true)).app (Go.Ab.room p 11)):=by
   refine⟨?_,λa o=>?_,d.new,d.inj,d.ok.set _ y0 m w⟩
   ·show((Go.Ab.room p 11).set (c 0 0) _).get kt=_;rw[ae.aw,if_neg (kx d.out F (by decide))];exact d.out
   ·have:=d.row a o;show((Go.Ab.room p 11).set (c 0 0) _).get (I a)=_;rw[ae.aw,if_neg (kx this F (by decide))];exact this
  have vz:VV M.kind M.af.length f:=by rw[O];exact VV.Pd C.kind _
  have G:TV M.kind M.af.length i Y r (kn (aY M.kind) (gm M) xs ys) ((dP.set (c 0 0) (.cells (eI (f.set M.start.toNat M.lead)) 9 1 true)).app (Go.Ab.room p 11)):=by
   have e0:kn (aY M.kind) (gm M) xs ys=fu (List.replicate i (List.replicate Y f)) 0 0 (f.set M.start.toNat M.lead):=by
    unfold kn;rw[Dr,<-O,<-hX,<-hY];rfl
   rw[e0];obtain⟨r1,r2⟩:=Zo (X:=i) (Y:=Y) f;obtain⟨s1,s2⟩:=Ld r1 r2 h.1 h.2 (f.set M.start.toNat M.lead);refine⟨s1,s2,λa b o R=>?_⟩;rw[Jz r1 r2 h.1 h.2,XP o R];obtain⟨ec,x6,y5,y2⟩:=zf a b ⟨o,R⟩;by_cases e:a=0/\b=0
   ·rw[if_pos e];obtain⟨rfl,rfl⟩:=e;refine⟨some ⟨c 0 0,0,none⟩,M.af.length,ec,?_,vz.set C.lead⟩;have v1:VB ((dP.set (c 0 0) (.cells (eI (f.set M.start.toNat M.lead)) 9 1 true)).app (Go.Ab.room p 11)) (c 0 0) (f.set M.start.toNat M.lead):=by
     show((Go.Ab.room p 11).set (c 0 0) _).get (c 0 0)=_;rw[ae.aw,if_pos rfl]
    have:=v1.rd M.af.length;rw[length_set,S]at this;exact this
   ·rw[if_neg e];refine⟨some ⟨c a b,0,none⟩,M.af.length,ec,?_,vz⟩;have v1:VB ((dP.set (c 0 0) (.cells (eI (f.set M.start.toNat M.lead)) 9 1 true)).app (Go.Ab.room p 11)) (c a b) f:=by
     show((Go.Ab.room p 11).set (c 0 0) _).get (c a b)=_;rw[ae.aw,if_neg (y2.resolve_left e)];exact x6
    have:=v1.rd M.af.length;rw[S]at this;exact this
  rw[hX]at t G⊢;rw[hY]at t G;exact aad w C mb hx hy rx ry sb t G hQ
end
def wtQ(h:ae)(M:bp)(xs ys:List Int):VH:=λv g=>v=(if(ca M&&(eD xs&&eD ys))=true then M7 (eF (aY M.kind) (gm M) xs ys)else two [] 1)/\Ok h g
theorem acf(w:Wf h){M:bp}(U:Small M){x:Option Addr}{y z:Nat}(r:dy h (.slice x y z) M.af){xa ya:Option Addr}{S xc I yc:Nat}{xs ys:List Int}(C:dL h (.slice xa S xc) xs)(E:dL h (.slice ya I yc) ys):
  FW SS 48 [.agg ⟨bK M x y z⟩,.slice xa S xc,.slice ya I yc] h (wtQ h M xs ys):=by
 obtain⟨k,A⟩:=fv w r;obtain rfl:y=M.af.length:=k.len;obtain rfl:=dL.len C;obtain rfl:=dL.len E;refine ace (bK M x M.af.length z) xa xs.length xc ya ys.length yc h _ ⟨_,iS M x _ z,_,k.all,(q7 A.wf U k.row).mono ?_⟩;rintro _ R ⟨rfl,H⟩;have c:=A.trans H;refine⟨_,rfl,aa (λq=>⟨?_,c⟩) (λq=>(zn (dL.ok C c)).mono ?_)⟩
 ·rw[not_eq_true']at q;rw[q];rfl
 rw[not_eq_false']at q;rintro _ D ⟨rfl,F⟩;obtain rfl:R=D:=F.symm;refine⟨_,rfl,aa (λj=>⟨?_,c⟩) (λj=>(zn (dL.ok E c)).mono ?_)⟩
 ·rw[not_eq_true']at j;rw[q,j];rfl
 rw[not_eq_false']at j;rintro _ D ⟨rfl,F⟩;obtain rfl:R=D:=F.symm;refine⟨_,rfl,aa (λm=>⟨?_,c⟩) (λm=>?_)⟩
 ·rw[not_eq_true']at m;rw[q,j,m];rfl
 rw[not_eq_false']at m;have P:∀g v,oQ h (eF (aY M.kind) (gm M) xs ys) v g->wtQ h M xs ys v g:=λg v a=>by
  refine⟨?_,a.2⟩;rw[q,j,m];exact a.1
 have J:=qB q;have u:=k.ok H;have p:∀l,eD l=true->l.length<=200:=λl p=>by
  unfold eD at p;rw[and_eq_true]at p;exact dT p.1
 have X:=p xs j;have hy:=p ys m;refine⟨_,u.all,(Z5 c.wf J u.row).mono ?_⟩;rintro _ s ⟨L,a⟩;have f:=c.trans L;have N:=u.ok L;have t:∀(B:Option LM)(b:Option Addr)(bn bc:Nat),dW (aY M.kind) (gm M)=some B->StB M.kind M.af.length s b bn bc B->au (((0:Int) !=0)) (wtQ h M xs ys (.tuple ⟨[(strOf []),(.int .i64 0)]⟩) s) (xR (ch SS.P 106 (.int .i64 (wrap .i64 ((xs.length:Int)+1))) (.int .i64 (wrap .i64 ((xs.length:Int)+1)))) s λx0 O G K=>LL SS cG [1,1,1,1,1,0,1,0,0] [(.slice xa xs.length xc),(.slice ya ys.length yc),(pA (h.next)),(.slice b bn bc),(sA (s.next) O G),(.int .i64 0)] K (KK SS cG [1,1,1,1,1,0,1,0] [] (EE SS cG (wtQ h M xs ys)))):=by
  intro B b bn bc Y sb;refine aa (λe=>by cases e) (λ_=>?_);rw[aP (i:=xs.length) (n:=xs.length+1) (by omega) (by omega)];refine⟨_,_,_,adz (xs.length+1) (by omega),?_⟩;have V:=(Ok.refl f.wf).push (.cells (List.replicate (xs.length+1) nA) 103 1 true);have T:RW M B xs ys 0 (kn (aY M.kind) (gm M) xs ys)=eF (aY M.kind) (gm M) xs ys:=by
   unfold RW eF;rw[Y,sub_zero];dsimp only
   cases bg (rB (aY M.kind) (gm M) B xs ys) (xs.length+1) 0 (kn (aY M.kind) (gm M) xs ys)<;>rfl
  exact aac (kt:=s.next) f.wf J N X hy (dL.ok C f) (dL.ok E f) sb V (aO s _) (Nat.le_refl _) (λv g a=>P g v ⟨by rw[<-T];exact a.1,f.trans a.2⟩)
 cases e:dW (aY M.kind) (gm M)with
 |none=>
  rw[e]at a;subst a;exact⟨_,_,_,_,rfl,aa (λ_=>P _ _ ⟨by unfold eF;rw[e];rfl,f⟩) (λe=>by cases e)⟩
 | some o=>
  cases o with
  |none=>
   rw[e]at a;subst a;exact⟨_,_,_,_,rfl,t none none 0 0 e ⟨rfl,rfl,rfl⟩⟩
  |some B=>
   rw[e]at a;obtain⟨Q,d,rfl,Z,W⟩:=a;exact⟨_,_,_,_,rfl,t (some B) (some Q) _ d e ⟨⟨Q,rfl⟩,rfl,Z,W⟩⟩
end
end Go.Proofs.YtaaichlgdgjgjaaGreatDoor
end
section
namespace Go.Proofs.YtaaichlgdgjgjaaGreatDoor
open Go Go.Ab Go.Num Go.Num.aN
variable{p:List Int}{z:Int}
section
section
variable {K:Type} {S:aN K} {dec:List UInt8->K} {kind:Int}
def G1(S:aN K)(dec:List UInt8->K)(M:bp):bN K:=eP S (mapM dec (gm M))
def AN(S:aN K)(dec:List UInt8->K)(M:bp):G7 K:=λx y=>S.mul (dec M.lead) (bN.val S (G1 S dec M) x y M.start.toNat)
theorem adr(m:1<=kind/\kind<=3)(f:pM S dec kind):G6 (aY kind) (aq S) (λa=>aM kind a=true) dec where
 zero:=⟨oD m,f.zero⟩
 one:=by
  refine⟨?_,f.one⟩;have:kind=1\/kind=2\/kind=3:=by omega
  show aM kind (qN kind)=true;rcases this with rfl|rfl|rfl
  ·exact m3.2 (.inr (.inr (by decide)))
  ·exact qP (.inl rfl)
  ·exact qP (.inr rfl)
 yj:=λ{a} h=>by
  have d:(aq S).yj (dec a)=true↔dec a=S.zero:=uL;have g:(aY kind).yj a=true↔a=bE kind:=by show(a==bE kind)=true↔_;simp
  have l:dec a=S.zero↔a=bE kind:=⟨λe=>f.inj h (oD m) (e.trans f.zero.symm),λe=>by rw[e];exact f.zero⟩
  cases j:(aq S).yj (dec a)<;>cases k:(aY kind).yj a
  ·rfl
  ·rw[d.2 (l.2 (g.1 k))]at j;cases j
  ·rw[g.2 (l.1 (d.1 j))]at k;cases k
  ·rfl
 plus:=λ{a b c} h i e=>by
  obtain⟨d,g⟩:=f.plus h i e;exact⟨d,by show some _=some _;rw[g]⟩
 times:=λ{a b c} h i e=>by
  obtain⟨d,g⟩:=f.times h i e;exact⟨d,by show some _=some _;rw[g]⟩
 star:=λ{a c} h e=>by
  obtain⟨d,g⟩:=f.star h e;exact⟨d,by show some _=some _;rw[g]⟩
variable {M:bp}
theorem acb(d:Pf M):Cv (λa=>aM M.kind a=true) (gm M):=by
 refine⟨d.lead,λs g f c=>?_,λs g a j=>?_⟩
 ·obtain⟨t,h,rfl⟩:=mem_map.1 g;by_cases e:t.f=[]
  ·have:(Cc t).fin=none:=if_pos e;rw[this]at c;cases c
  ·have:(Cc t).fin=some t.f:=if_neg e;rw[this]at c;obtain rfl:=oI c;exact d.fin t h e
 ·obtain⟨t,h,rfl⟩:=mem_map.1 g;obtain⟨b,i,rfl⟩:=mem_map.1 j;exact(d.arc t h b i).1
theorem YG(g:Pf M):kT (mapM dec (gm M)):=λs h a i=>by
 obtain⟨t,k,rfl⟩:=mem_map.1 h;obtain⟨j,c,rfl⟩:=mem_map.1 k;obtain⟨b,f,rfl⟩:=mem_map.1 i;obtain⟨e,d,rfl⟩:=mem_map.1 f;have:=g.arc j c e d;show e.t.toNat<((M.af.map Cc).map (nF dec)).length;rw[lM,lM];omega
theorem Wt(h:eD p=true):∀s∈p,s≠0:=λs a e=>by
 unfold eD at h;rw[and_eq_true,List.all_eq_true]at h;have:=h.2 s a;rw[e]at this;exact absurd this (by decide)
theorem Xd(f:pM S dec M.kind)(a:Pf M){x y:List Int}(c:∀s∈x,s≠0)(h:∀s∈y,s≠0){w:List UInt8}(e:eF (aY M.kind) (gm M) x y=some w):aM M.kind w=true/\dec w=AN S dec M x y:=by
 obtain⟨d,g⟩:=Hk (adr a.kind f) (acb a) e;refine⟨d,?_⟩;have b:(mapM dec (gm M)).start<(mapM dec (gm M)).bJ.length:=by
  show M.start.toNat<((M.af.map Cc).map (nF dec)).length;rw[lM,lM];have:=a.start;omega
 exact Mc (YG a) b c h g
def NT(dec:List UInt8->K)(a:gj):qo K:=⟨a.i,a.o,dec a.w,a.t.toNat⟩
theorem NU(M:bp):(G1 S dec M).n=M.af.length:=by
 show((M.af.map Cc).map (nF dec)).length=_;rw[lM,lM]
theorem aaL{q:Nat}{s:dx}(h:M.af[q]?=some s):(mapM dec (gm M)).bJ.getD q dN=nF dec (Cc s):=by
 show((M.af.map Cc).map (nF dec)).getD q dN=_;rw[gD,getElem?_map,getElem?_map,h];rfl
theorem IL{q:Nat}{s:dx}(h:M.af[q]?=some s):(G1 S dec M).fin q=if s.f=[]then S.zero else dec s.f:=by
 show((mapM dec (gm M)).bJ.getD q dN).fin.getD S.zero=_;rw[aaL h];show((if s.f=[]then none else some s.f:Option (List UInt8)).map dec).getD S.zero=_;split<;>rfl
theorem sR{q:Nat}{s:dx}(h:M.af[q]?=some s):(G1 S dec M).arcs q=s.arcs.map (NT dec):=by
 show(bD (mapM dec (gm M)) q).map _=_;show(((mapM dec (gm M)).bJ.getD q dN).arcs).map _=_;rw[aaL h];show((s.arcs.map Dn).map (mapA dec)).map _=_;rw[map_map,map_map];rfl
theorem WV(low:Nat){a:gj}(h:0<=a.t):NT dec (EN low a)=A6 low (NT dec a):=by
 unfold NT EN A6;have:(a.t+(low:Int)).toNat=low+a.t.toNat:=by omega
 rw[this]
theorem S5(low:Nat){s:dx}(h:∀a∈s.arcs,0<=a.t):(s.arcs.map (EN low)).map (NT dec)=(s.arcs.map (NT dec)).map (A6 low):=by
 rw[map_map,map_map];exact map_congr_left λa b=>WV low (h a b)
variable {C X:bp} {L R:List dx} {low:Nat}
theorem Ou{f:dx->dx}(a:C.af=L++X.af.map f++R)(b:L.length=low){q:Nat}{s:dx}(h:X.af[q]?=some s):C.af[low+q]?=some (f s):=by
 have c:=(List.getElem?_eq_some_iff.1 h).1;rw[a,append_assoc,List.getElem?_append_right (by omega),List.getElem?_append_left (by rw[lM];omega),show low+q-L.length=q by omega,getElem?_map,h];rfl
def YV(dec:List UInt8->K)(X:bp)(q:Nat):Option K:=match X.af[q]? with
 |some s=>if s.f=[]then none else some (dec s.f)
 |none=>none
theorem Gf(low:Nat)(a:Int)(s:dx):(mF low (some a) s).arcs=s.arcs.map (EN low)++(if s.f=[]then[]else[⟨0,0,s.f,a⟩])/\(mF low (some a) s).f=[]:=by
 unfold mF Al;split
 ·exact⟨(append_nil _).symm,rfl⟩
 ·exact⟨rfl,rfl⟩
theorem Hs(g:C.af=L++X.af.map (mF low (some z))++R)(i:L.length=low)(h:SA X)(l:z.toNat<C.af.length/\(z.toNat<low\/low+X.af.length<=z.toNat)):nZ (G1 S dec C) (G1 S dec X) low (YV dec X) z.toNat/\(∀q,q<(G1 S dec X).n->xw S (YV dec X q)=(G1 S dec X).fin q)/\(∀q,q<(G1 S dec X).n->(G1 S dec C).fin (low+q)=S.zero):=by
 have f:(G1 S dec X).n=X.af.length:=NU X;have d:∀q,q<(G1 S dec X).n->∃s,X.af[q]?=some s:=λq c=>⟨_,gE (by omega)⟩
 refine⟨⟨?_,?_,λq c a e=>?_,λq c=>?_⟩,λq c=>?_,λq c=>?_⟩
 ·rw[f,NU,g];simp;omega
 ·rw[f,NU];exact l
 ·obtain⟨s,b⟩:=d q c;rw[sR b]at e;obtain⟨j,k,rfl⟩:=mem_map.1 e;have:=h.to s (List.mem_of_getElem? b) j k;rw[f];show j.t.toNat<_;omega
 ·obtain⟨s,b⟩:=d q c;rw[sR b,sR (Ou g i b),(Gf low z s).1,map_append,S5 low λa e=>(h.to s (List.mem_of_getElem? b) a e).1];congr 1;unfold YV;rw[b];dsimp only;split<;>rfl
 ·obtain⟨s,b⟩:=d q c;rw[IL b];unfold YV xw;rw[b];dsimp only;split<;>rfl
 ·obtain⟨s,b⟩:=d q c;rw[IL (Ou g i b),(Gf low z s).2,if_pos rfl]
theorem Mr{to:Int}(h:C.af=L++X.af.map (mF low (some to))++R)(c:L.length=low)(a:SA X)(g:to.toNat<C.af.length/\(to.toNat<low\/low+X.af.length<=to.toNat)):∀x y,∀q,q<X.af.length->bN.val S (G1 S dec C) x y (low+q)=conv S (G1 S dec X) (λx y=>bN.val S (G1 S dec C) x y to.toNat) x y q:=by
 obtain⟨b,d,f⟩:=Hs (S:=S) (dec:=dec) h c a g;intro x y q e;exact b.link d f (x.length+y.length) x y (Nat.le_refl _) q (by rw[NU];exact e)
end
end
variable{n:Nat}
section
section
variable {K:Type} {S:aN K} {dec:List UInt8->K} {A B:bp}
theorem Hv(b:1<=A.kind/\A.kind<=3)(a:pM S dec A.kind):dec (df A.kind)=S.one:=by rw[H6 b];exact a.one
theorem UU(a:1<=A.kind/\A.kind<=3):df A.kind≠[]:=by
 rw[H6 a];unfold qN;split<;>simp
theorem JV(x y:List Int):emp S x y S.zero=S.zero:=by unfold emp;split<;>rfl
theorem tn(h:0<=z):((n:Int)+z).toNat=n+z.toNat:=by omega
def Fm(S:aN K)(F:G7 K)(n:Int):Nat->G7 K
 |0=>λx y=>if n<=0 then tI S x y else S.zero
 |m+1=>λx y=>S.add (if n<=0 then tI S x y else S.zero) (I6 S F (Fm S F (n-1) m) x y)
theorem GC{m:Nat}:∀{i j:Nat},j<i->∃L R,kM A m i=L++A.af.map (mF (m+1+j*A.af.length) (some ((j+1:Nat):Int)))++R/\L.length=j*A.af.length
 |i+1,j,h=>by
  rw[sE];by_cases e:j=i
  ·subst e;exact⟨kM A m j,[],by rw[append_nil],q9 j⟩
  ·obtain⟨L,R,a,b⟩:=GC (i:=i) (j:=j) (by omega);exact⟨L,R++_,by rw[a,append_assoc],b⟩
theorem ZX(p:SA A)(q:1<=A.kind/\A.kind<=3)(h:dec (df A.kind)=S.one)(n:Int)(m:Nat)(x y:List Int):AN S dec (mg A n m) x y=Fm S (AN S dec A) n m x y:=by
 have v:=p.start;have g:(mg A n m).af=iV A n m m++kM A m m:=rfl;have b:(mg A n m).af.length=m+1+m*A.af.length:=by rw[g,length_append,iZ,q9]
 have k:∀d j,j+d=m->∀x y,bN.val S (G1 S dec (mg A n m)) x y j=Fm S (AN S dec A) (n-j) d x y:=by
  intro d
  induction d with
  | zero=>
   intro j w x y;obtain rfl:j=m:=by omega
   have f:(mg A n j).af[j]?=some ⟨if(j:Int)>=n then df A.kind else[],[]⟩:=by
    rw[g,List.getElem?_append_left (by rw[iZ];omega)];exact KX (by omega)
   rw[xJ (by rw[NU,b];omega) (λa e=>by rw[sR f]at e;cases e),sR f,IL f];show S.add _ S.zero=if n-j<=0 then tI S x y else S.zero;rw[add_zero];by_cases c:(j:Int)>=n
   ·rw[if_pos c,if_neg (UU q),if_pos (by omega),h];rfl
   ·rw[if_neg c,if_pos rfl,if_neg (by omega),JV]
  | succ d t=>
   intro j w x y;have f:(mg A n m).af[j]?=some ⟨if(j:Int)>=n then df A.kind else[],[⟨0,0,A.lead,((m+1+j*A.af.length:Nat):Int)+A.start⟩]⟩:=by
    rw[g,List.getElem?_append_left (by rw[iZ];omega)];unfold iV;rw[getElem?_map,List.getElem?_range (by omega),map_some,if_pos (show j<m by omega)]
   have z:j*A.af.length+A.af.length<=m*A.af.length:=by
    have:(j+1)*A.af.length<=m*A.af.length:=Nat.mul_le_mul_right _ (by omega);rwa[Nat.add_mul,Nat.one_mul]at this
   have l:(((m+1+j*A.af.length:Nat):Int)+A.start).toNat=(m+1+j*A.af.length)+A.start.toNat:=tn v.1;have e:∀a∈(G1 S dec (mg A n m)).arcs j,a.i=0/\a.o=0/\a.t<(G1 S dec (mg A n m)).n:=λa e=>by
    rw[sR f]at e;rw[NU,b];have:=mem_singleton.1 e;subst this;exact⟨rfl,rfl,by unfold NT;dsimp only;rw[l];omega⟩
   rw[xJ (by rw[NU,b];omega) e,sR f,IL f];show S.add _ (S.add (S.mul (dec A.lead) (bN.val S (G1 S dec (mg A n m)) x y (((m+1+j*A.af.length:Nat):Int)+A.start).toNat)) S.zero)=S.add (if n-j<=0 then tI S x y else S.zero) (I6 S (AN S dec A) (Fm S (AN S dec A) (n-j-1) d) x y);rw[add_zero,l];congr 1
   ·by_cases c:(j:Int)>=n
    ·rw[if_pos c,if_neg (UU q),if_pos (by omega),h];rfl
    ·rw[if_neg c,if_pos rfl,if_neg (by omega),JV]
   ·obtain⟨L,R,r,o⟩:=GC (A:=A) (m:=m) (i:=m) (j:=j) (by omega);have s:=Mr (S:=S) (dec:=dec) (C:=mg A n m) (X:=A) (L:=iV A n m m++L) (R:=R) (low:=m+1+j*A.af.length) (to:=((j+1:Nat):Int)) (by rw[g,r];simp) (by rw[length_append,iZ,o]) p ⟨by rw[b];omega,by omega⟩;rw[s x y _ (by omega),Ph];refine LS (λ_ _ _ _=>rfl) λD B _ _=>?_;have u:((j+1:Nat):Int).toNat=j+1:=by omega
    rw[u,t (j+1) (by omega)];congr 1;omega
 show S.mul (dec (df A.kind)) (bN.val S (G1 S dec (mg A n m)) x y 0)=_;rw[h,S.one_mul,k m 0 (by omega)];congr 1;omega
end
end
end Go.Proofs.YtaaichlgdgjgjaaGreatDoor
end
section
namespace Go.Proofs.YtaaichlgdgjgjaaGreatDoor
open Go Go.Ab Go.Num
variable{M:bp}{z:Int}{n:Nat}{m:Nat}{k:Nat}
section
structure StW(kind:Int)(N:Nat)(s:dx):Prop where
 f:s.f=[]\/bG kind s.f=true
 a:∀q∈s.arcs,ic kind N q=true
theorem Ll{a:Int}{N:Nat}:∀{l:List dx}{b:Int},b+cg l<=30000->(∀s∈l,StW a N s)->nY a N b l=true
 |[],_,_,_=>rfl
 |s::l,b,h,c=>by
  rw[dj]at h;have d:=c s (List.mem_cons_self ..);unfold nY;rw[and_eq_true,and_eq_true,and_eq_true];refine⟨⟨⟨decide_eq_true (by omega),?_⟩,List.all_eq_true.2 d.a⟩,Ll (by omega) λt f=>c t (List.mem_cons_of_mem _ f)⟩;rcases d.f with e|e
  ·rw[e];rfl
  ·rw[e,Bool.or_true]
structure VOk(M:bp):Prop where
 kind:1<=M.kind/\M.kind<=3
 n:1<=M.af.length/\M.af.length<=3000
 start:0<=M.start/\M.start<M.af.length
 lead:bG M.kind M.lead=true
 sum:cg M.af<=30000
 st:∀s∈M.af,StW M.kind M.af.length s
theorem VOk.valid(v:VOk M):ca M=true:=by
 unfold ca;simp only[and_eq_true,decide_eq_true_eq];exact⟨⟨⟨⟨⟨⟨⟨v.kind.1,v.kind.2⟩,v.n.1⟩,v.n.2⟩,v.start.1⟩,v.start.2⟩,v.lead⟩,Ll (by have:=v.sum;omega) v.st⟩
theorem WX(h:ca M=true)(a:cg M.af<=30000):VOk M:=by
 unfold ca at h;simp only[and_eq_true,decide_eq_true_eq]at h;obtain⟨⟨⟨⟨⟨⟨⟨e,f⟩,c⟩,i⟩,l⟩,k⟩,g⟩,d⟩:=h;refine⟨⟨e,f⟩,⟨c,i⟩,⟨l,k⟩,g,a,λs a=>?_⟩;obtain⟨b,j⟩:=AI d s a;refine⟨?_,j⟩;rw[Bool.or_eq_true]at b;exact b.imp cn id
theorem DZ{a:List UInt8}(h:aA a=true):a.length<=802:=by
 have r:=aZ.1 h;obtain⟨b,c⟩:=Ih r;have d:=r.ln;have e:=r.ld;rw[r.txt,OG,length_append,length_append,<-b];have:(if Num.val (ak a)=1 then[]else 47::ag (Num.val (ak a))).length<=401:=by
  split
  ·simp
  ·rw[length_cons,<-c];omega
 have:(if Num.isNeg a=true/\Num.val (Num.numOf a)≠0 then[45]else([]:List UInt8)).length<=1:=by split<;>simp
 omega
theorem xl{a:List UInt8}(h:bG z a=true):aA a=true:=by
 unfold bG at h;rw[and_eq_true,and_eq_true]at h;exact h.1.2
theorem VOk.small(v:VOk M)(b:M.af.length<=300)(d:cg M.af<=2000):Small M where
 lead:=by have:=DZ (xl v.lead);omega
 bJ:=b
 fin:=λs a=>by
  rcases(v.st s a).f with e|e
  ·rw[e];simp
  ·have:=DZ (xl e);omega
 arcs:=λs a=>by
  obtain⟨i,f,e⟩:=List.mem_iff_getElem.1 a;have:=Lm (l:=M.af) (i:=i) (s:=s) (by rw[gE f,e]);omega
 w:=λs a q c=>by
  have h:=(v.st s a).a q c;unfold ic at h;rw[and_eq_true]at h;have:=DZ (xl h.2);omega
 tot:=d
theorem aaG(a:1<=z/\z<=3):bG z (df z)=true:=by
 have:z=1\/z=2\/z=3:=by omega
 rcases this with rfl|rfl|rfl<;>decide
theorem CX{q:gj}(b:tf q.i=true)(c:tf q.o=true)(a:0<=q.t/\q.t<n)(d:bG z q.w=true):ic z n q=true:=by
 unfold ic;rw[b,c,d,decide_eq_true a.1,decide_eq_true a.2];rfl
theorem adi{b:Option Int}{s:dx}(h:StW z n s)(l:k+n<=m)(e:∀t,b=some t->0<=t/\t<m):StW z m (mF k b s):=by
 have c:∀q∈s.arcs.map (EN k),ic z m q=true:=λq a=>by
  obtain⟨p,i,rfl⟩:=mem_map.1 a;have:=h.a p i;unfold ic at this;simp only[and_eq_true,decide_eq_true_eq]at this;obtain⟨⟨⟨⟨f,g⟩,o⟩,r⟩,j⟩:=this;exact CX f g ⟨by show 0<=p.t+(k:Int);omega,by show p.t+(k:Int)<m;omega⟩ j
 unfold mF;split
 ·exact⟨.inl rfl,c⟩
 ·next d=>
  cases b with
  |none=>exact⟨h.f,c⟩
  |some t=>
   refine⟨.inl rfl,λq a=>?_⟩;rcases List.mem_append.1 a with a|a
   ·exact c q a
   ·have:=mem_singleton.1 a;subst this;exact CX rfl rfl (e t rfl) (h.f.resolve_left d)
section
variable {A B:bp}
theorem adJ{n:Int}(f:VOk A)(o:m<=30)(p:A.af.length<=8)(w:cg A.af<=40):VOk (mg A n m)/\(mg A n m).af.length=m+1+m*A.af.length/\cg (mg A n m).af<=m+1+m*(cg A.af+A.af.length):=by
 have g:(mg A n m).af=iV A n m m++kM A m m:=rfl;have b:(mg A n m).af.length=m+1+m*A.af.length:=by rw[g,length_append,iZ,q9]
 have l:cg (mg A n m).af<=m+1+m*(cg A.af+A.af.length):=by
  have u:=GD (A:=A) (n:=n) (m:=m) (i:=m);have y:=Au (A:=A) (m:=m) m;rw[g,dY];omega
 have v:m*A.af.length<=30*8:=mul_le_mul o p;have z:m*(cg A.af+A.af.length)<=30*48:=mul_le_mul o (by omega);have x:=f.start;refine⟨⟨f.kind,⟨by omega,by omega⟩,⟨Int.le_refl _,by rw[b];show(0:Int)<_;omega⟩,aaG f.kind,by omega,λs a=>?_⟩,b,l⟩;rw[b];show StW A.kind _ s;rw[g]at a;have k:∀j,j<m->j*A.af.length+A.af.length<=m*A.af.length:=λj k=>by
  have:(j+1)*A.af.length<=m*A.af.length:=Nat.mul_le_mul_right _ (by omega);rwa[Nat.add_mul,Nat.one_mul]at this
 rcases List.mem_append.1 a with a|a
 ·unfold iV at a;obtain⟨j,d,rfl⟩:=mem_map.1 a;refine⟨?_,λq h=>?_⟩
  ·show(if(j:Int)>=n then df A.kind else[])=[]\/_;by_cases c:(j:Int)>=n
   ·right;show bG A.kind (if(j:Int)>=n then df A.kind else[])=true;rw[if_pos c];exact aaG f.kind
   ·left;rw[if_neg c]
  ·have h:q∈(if j<m then[(⟨0,0,A.lead,((m+1+j*A.af.length:Nat):Int)+A.start⟩:gj)]else[]:List gj):=h;split at h
   ·next c=>
    have:=mem_singleton.1 h;subst this;have:=k j c;exact CX rfl rfl ⟨by show 0<=((m+1+j*A.af.length:Nat):Int)+A.start;omega,by show((m+1+j*A.af.length:Nat):Int)+A.start<_;omega⟩ f.lead
   ·cases h
 ·unfold kM at a;obtain⟨j,d,a⟩:=List.mem_flatMap.1 a;have d:=List.mem_range.1 d;obtain⟨t,r,rfl⟩:=mem_map.1 a;have:=k j d;exact adi (f.st t r) (by omega) (λt e=>by injection e with e;omega)
end
theorem Yp{b:Option Int}{s:dx}(h:s.arcs.all xK=true):(mF n b s).arcs.all xK=true:=by
 have a:(s.arcs.map (EN n)).all xK=true:=by
  rw[List.all_map];exact h
 unfold mF;split
 ·exact a
 ·cases b with
  |none=>exact a
  |some t=>
   show(s.arcs.map (EN n)++[(⟨0,0,s.f,t⟩:gj)]).all xK=true;rw[List.all_append,a];rfl
end
noncomputable def Ut:FD:=cF Tryz.f11 []
theorem QA(j:OA)(i l:Nat)(k:OA)(g m:Nat)(h:ae)(Q:VH)(n:au (decide ((wrap .i64 ((i:Int)+(g:Int)):Int)<=6)) (FW SS 15 [(.slice j i l)] h λe f=>yB e λd=>au d (FW SS 15 [(.slice k g m)] f λb c=>yB b λa=>Q (.bool a) c) (Q (.bool false) f)) (Q (.bool false) h)):FW SS 11 [(.slice j i l),(.slice k g m)] h Q:=cI Ut Tryz.func11 (ai n)
noncomputable def gB:FD:=cF Tryz.f24 [([1,1,0,1,0,0],[1,3]),([1,1,0,1,0,0,1,0,0,1,1,0,0],[1,3,4])]
abbrev iY(k:Nat)(i:Nat):LV:=[(pA k),(iA i)]
abbrev m9(k i:Nat)(j:Nat):LV:=[(pA k),(iA i),(iA j)]
theorem Uq(k:LV)(h:ae)(Q:VH)(l:xN (eL SS.P 29 (.agg ⟨k⟩)) h λ_ j=>fP 29 (pA (h.next)) 3 λi=>lL 27 j i λ_ g _=>au (decide (((g:Int):Int)>8)) (Q (.bool true) j) (lA 29 j (pA (h.next)) λf=>FW SS 56 [(.agg ⟨f⟩)] j λd e=>yI .i64 d λc=>au (decide ((c:Int)>40)) (Q (.bool true) e) (fP 29 (pA (h.next)) 2 λb=>lS e b λa=>au (decide ((((a:LB).length:Int):Int)>40)) (Q (.bool true) e) (LL SS gB [1,1,0,1,0,0] (iY (h.next) 0) e (KK SS gB [1,1,0,1,0] [] (EE SS gB Q)))))):FW SS 24 [(.agg ⟨k⟩)] h Q:=cI gB Tryz.func24 (ai l)
theorem Aj(q:LV)(k:Nat)(n:Nat->Nat->ae->Prop)(Q:VH)(step:∀(m:Nat) (i:Nat) (p:Nat->Value) (h:ae),n m i h->fP 29 (pA k) 3 λl=>lL 27 h l λ_ j _=>au (decide (((i:Int):Int)<(j:Int))) (fP 29 (pA k) 3 λg=>lL 27 h g λd e f=>iP 27 (.slice d e f) (iA i) λc=>fP 73 (.pointer (some c)) 0 λb=>lS h b λa=>au (decide ((((a:LB).length:Int):Int)>40)) (Q (.bool true) h) (LL SS gB [1,1,0,1,0,0,1,0,0,1,1,0,0] (m9 k i 0) h (KK SS gB [1,0,0,1,1,0] [1,1,0,1,0,0] (RR gB [1,1,0,1,0,0] (fs (iY k) n) m (KK SS gB [1,1,0,1,0] [] (EE SS gB Q)))))) (Q (.bool false) h))(m:Nat){i:Nat}{h:ae}(o:n m i h):LL SS gB [1,1,0,1,0,0] (iY k i) h (KK SS gB [1,1,0,1,0] [] (EE SS gB Q)):=
 dc (iY k) n (λm i p h o=>ai (step m i p h o)) m o
theorem Ak(D:LV)(k:Nat)(z:Nat->Nat->ae->Prop)(B i:Nat)(y:Nat->Nat->ae->Prop)(Q:VH)(step:∀(x:Nat) (j:Nat) (C:Nat->Value) (h:ae),y x j h->fP 29 (pA k) 3 λw=>lL 27 h w λt u v=>iP 27 (.slice t u v) (iA i) λs=>fP 73 (.pointer (some s)) 1 λr=>lL 71 h r λ_ q _=>au (decide (((j:Int):Int)<(q:Int))) (fP 29 (pA k) 3 λp=>lL 27 h p λm n o=>iP 27 (.slice m n o) (iA i) λl=>fP 73 (.pointer (some l)) 1 λg=>lL 71 h g λd e f=>iP 71 (.slice d e f) (iA j) λc=>fP 70 (.pointer (some c)) 2 λb=>lS h b λa=>au (decide ((((a:LB).length:Int):Int)>40)) (Q (.bool true) h) (aJ (fs (m9 k i) y) x [(pA k),(iA i),(.int .i64 (wrap .i64 ((j:Int)+1)))] h)) (aJ (fs (iY k) z) B [(pA k),(.int .i64 (wrap .i64 ((i:Int)+1)))] h))(x:Nat){j:Nat}{h:ae}(A:y x j h):LL SS gB [1,1,0,1,0,0,1,0,0,1,1,0,0] (m9 k i j) h (KK SS gB [1,0,0,1,1,0] [1,1,0,1,0,0] (RR gB [1,1,0,1,0,0] (fs (iY k) z) B (KK SS gB [1,1,0,1,0] [] (EE SS gB Q)))):=
 dc (m9 k i) y (λx j C h A=>ai (step x j C h A)) x A
noncomputable def Us:FD:=cF Tryz.f39 []
theorem Qy(g:LV)(e:Int)(i:OA)(n l:Nat)(k:OA)(j m:Nat)(h:ae)(Q:VH)(o:xN (eL SS.P 29 (.agg ⟨g⟩)) h λ_ f=>au (((e:Int) !=0)) (Q (strOf []) f) (lA 29 f (pA (h.next)) λe=>FW SS 48 [(.agg ⟨e⟩),(.slice i n l),(.slice k j m)] f λc d=>∃b:LB,∃a:Int,c=(.tuple ⟨[(strOf b),(.int .i64 a)]⟩)/\Q (strOf b) d)):FW SS 39 [(.agg ⟨g⟩),(.int .i64 e),(.slice i n l),(.slice k j m)] h Q:=cI Us Tryz.func39 (ai o)
noncomputable def Up:FD:=cF Tryz.f19 []
theorem Qw(o:LV)(n:Int)(p:OA)(u s:Nat)(r:OA)(q t:Nat)(w:LB)(h:ae)(Q:VH)(v:xN (eL SS.P 29 (.agg ⟨o⟩)) h λ_ m=>lA 29 m (pA (h.next)) λl=>FW SS 26 [(.agg ⟨l⟩)] m λj k=>yB j λi=>au (!i) (Q (.bool false) k) (fP 29 (pA (h.next)) 0 λg=>lI k g λf=>au (((f:Int) !=n)) (Q (.bool false) k) (lA 29 k (pA (h.next)) λe=>FW SS 48 [(.agg ⟨e⟩),(.slice p u s),(.slice r q t)] k λc d=>∃b:LB,∃a:Int,c=(.tuple ⟨[(strOf b),(.int .i64 a)]⟩)/\au (((a:Int)==2)) (Q (.bool true) d) (au (((a:Int)==0)) (Q (.bool ((b:LB)==w)) d) (Q (.bool false) d))))):FW SS 19 [(.agg ⟨o⟩),(.int .i64 n),(.slice p u s),(.slice r q t),(strOf w)] h Q:=cI Up Tryz.func19 (ai v)
noncomputable def adW:FD:=cF Tryz.f30 []
theorem abY(k:Nat)(i j p q:Nat)(h:ae)(Q:VH)(A:fP 48 (pA k) 3 λD=>lA 29 (room h 24) (.pointer (some D)) λB=>fP 48 (pA k) 1 λE=>lL 22 (room h 24) E λy z C=>xL (bF SS.P 22 (.slice y z C) (some (iA i)) (some (iA j)) none (room h 24)) λv w x=>fP 48 (pA k) 2 λu=>lL 22 (room h 24) u λr s t=>xL (bF SS.P 22 (.slice r s t) (some (iA p)) (some (iA q)) none (room h 24)) λo p q=>FW SS 48 [(.agg ⟨B⟩),(.slice v w x),(.slice o p q)] (room h 24) λm n=>∃l:LB,∃j:Int,m=(.tuple ⟨[(strOf l),(.int .i64 j)]⟩)/\fP 48 (pA k) 4 λi=>lB n i λh=>au h (fP 48 (pA k) 4 λg=>xU (ah SS.P 4 (.pointer (some g)) (.bool (((j:Int)==0))) n) n λ_ f=>au (((j:Int) !=0)) (fP 48 (pA k) 0 λe=>lI f e λd=>FW SS 18 [(.int .i64 d)] f λb c=>yS b λa=>Q (strOf a) c) (Q (strOf l) f)) (fP 48 (pA k) 4 λg=>xU (ah SS.P 4 (.pointer (some g)) (.bool false) n) n λ_ f=>au (((j:Int) !=0)) (fP 48 (pA k) 0 λe=>lI f e λd=>FW SS 18 [(.int .i64 d)] f λb c=>yS b λa=>Q (strOf a) c) (Q (strOf l) f))):FW SS 30 [(pA k),(iA i),(iA j),(iA p),(iA q)] h Q:=cI adW Tryz.func30 (ai A)
noncomputable def ZQ:FD:=cF Tryz.f29 []
theorem Wy(k:Nat)(a b:LB)(h:ae)(Q:VH)(m:fP 48 (pA k) 0 λl=>lI h l λj=>FW SS 62 [(.int .i64 j),(strOf a),(strOf b)] h λh i=>∃g:LB,∃f:Int,h=(.tuple ⟨[(strOf g),(.int .i64 f)]⟩)/\fP 48 (pA k) 4 λe=>lB i e λd=>au d (fP 48 (pA k) 4 λc=>xU (ah SS.P 4 (.pointer (some c)) (.bool (((f:Int)==0))) i) i λ_ b=>au (((f:Int) !=0)) (Q (strOf a) b) (Q (strOf g) b)) (fP 48 (pA k) 4 λc=>xU (ah SS.P 4 (.pointer (some c)) (.bool false) i) i λ_ b=>au (((f:Int) !=0)) (Q (strOf a) b) (Q (strOf g) b))):FW SS 29 [(pA k),(strOf a),(strOf b)] h Q:=cI ZQ Tryz.func29 (ai m)
noncomputable def WB:FD:=cF Tryz.f32 []
theorem Sa(k:Nat)(a b:LB)(h:ae)(Q:VH)(m:fP 48 (pA k) 0 λl=>lI h l λj=>FW SS 65 [(.int .i64 j),(strOf a),(strOf b)] h λh i=>∃g:LB,∃f:Int,h=(.tuple ⟨[(strOf g),(.int .i64 f)]⟩)/\fP 48 (pA k) 4 λe=>lB i e λd=>au d (fP 48 (pA k) 4 λc=>xU (ah SS.P 4 (.pointer (some c)) (.bool (((f:Int)==0))) i) i λ_ b=>au (((f:Int) !=0)) (Q (strOf a) b) (Q (strOf g) b)) (fP 48 (pA k) 4 λc=>xU (ah SS.P 4 (.pointer (some c)) (.bool false) i) i λ_ b=>au (((f:Int) !=0)) (Q (strOf a) b) (Q (strOf g) b))):FW SS 32 [(pA k),(strOf a),(strOf b)] h Q:=cI WB Tryz.func32 (ai m)
noncomputable def eC:FD:=cF Tryz.f36 [([1,1,1,1,0,1,0,0],[0,1,2,3,4,11,12]),([1,1,1,1,0,1,0,0,1,0,0,1,0,0],[0,1,2,3,4,11,12,13])]
abbrev eY(k:Nat)(n m:Int)(i j:Nat)(s:LB)(p:Nat):LV:=[(pA k),(.int .i64 n),(.int .i64 m),(iA i),(iA j),(strOf s),(iA p)]
abbrev oA(k:Nat)(n m:Int)(i j p:Nat)(s:LB)(q:Nat):LV:=[(pA k),(.int .i64 n),(.int .i64 m),(iA i),(iA j),(strOf s),(iA p),(iA q)]
theorem O7(k:Nat)(n m:Int)(i j:Nat)(h:ae)(Q:VH)(t:fP 48 (pA k) 0 λs=>lI h s λr=>FW SS 18 [(.int .i64 r)] h λp q=>yS p λo=>au (decide ((n:Int)<=0)) (fP 48 (pA k) 1 λl=>lL 22 q l λ_ h _=>au ((((i:Int):Int)==(h:Int))) (fP 48 (pA k) 2 λg=>lL 22 q g λ_ f _=>au ((((j:Int):Int)==(f:Int))) (fP 48 (pA k) 0 λe=>lI q e λd=>FW SS 22 [(.int .i64 d)] q λb c=>yS b λa=>au (((m:Int)==0)) (Q (strOf a) c) (LL SS eC [1,1,1,1,0,1,0,0] (eY k n m i j a i) c (KK SS eC [1,1,1,1,0,1,0] [] (EE SS eC Q)))) (au (((m:Int)==0)) (Q (strOf o) q) (LL SS eC [1,1,1,1,0,1,0,0] (eY k n m i j o i) q (KK SS eC [1,1,1,1,0,1,0] [] (EE SS eC Q))))) (au (((m:Int)==0)) (Q (strOf o) q) (LL SS eC [1,1,1,1,0,1,0,0] (eY k n m i j o i) q (KK SS eC [1,1,1,1,0,1,0] [] (EE SS eC Q))))) (au (((m:Int)==0)) (Q (strOf o) q) (LL SS eC [1,1,1,1,0,1,0,0] (eY k n m i j o i) q (KK SS eC [1,1,1,1,0,1,0] [] (EE SS eC Q))))):FW SS 36 [(pA k),(.int .i64 n),(.int .i64 m),(iA i),(iA j)] h Q:=cI eC Tryz.func36 (ai t)
theorem BW(k:Nat)(n m:Int)(i j:Nat)  (d:Nat->LB->Nat->ae->Prop) (Q:VH) (step:∀(c:Nat)(s:LB)(p:Nat)(f:Nat->Value)(h:ae),d c s p h->fP 48 (pA k) 1 λb=>lL 22 h b λ_ a _=>au (decide (((p:Int):Int)<=(a:Int))) (LL SS eC [1,1,1,1,0,1,0,0,1,0,0,1,0,0] (oA k n m i j p s j) h (KK SS eC [1,0,0,1,0] [1,1,1,1,0,1,0,0] (RR eC [1,1,1,1,0,1,0,0] (pL (eY k n m i j) d) c (KK SS eC [1,1,1,1,0,1,0] [] (EE SS eC Q))))) (Q (strOf s) h)) (c:Nat) {s:LB} {p:Nat} {h:ae} (e:d c s p h):LL SS eC [1,1,1,1,0,1,0,0] (eY k n m i j s p) h (KK SS eC [1,1,1,1,0,1,0] [] (EE SS eC Q)):=
 mh (eY k n m i j) d (λc s p f h e=>ai (step c s p f h e)) c e
theorem BX(k:Nat)(n m:Int)(i j:Nat)(y:Nat->LB->Nat->ae->Prop)(A p:Nat)(x:Nat->LB->Nat->ae->Prop)(Q:VH)(step:∀(w:Nat) (s:LB) (q:Nat) (B:Nat->Value) (h:ae),x w s q h->fP 48 (pA k) 2 λv=>lL 22 h v λ_ u _=>au (decide (((q:Int):Int)<=(u:Int))) (FW SS 30 [(pA k),(iA i),(iA p),(iA j),(iA q)] h λr t=>yS r λo=>FW SS 36 [(pA k),(.int .i64 (wrap .i64 (n-1))),(.int .i64 (wrap .i64 (m-1))),(iA p),(iA q)] t λh l=>yS h λg=>FW SS 32 [(pA k),(strOf o),(strOf g)] l λe f=>yS e λd=>FW SS 29 [(pA k),(strOf s),(strOf d)] f λb c=>yS b λa=>aJ (pL (oA k n m i j p) x) w [(pA k),(.int .i64 n),(.int .i64 m),(iA i),(iA j),(strOf a),(iA p),(.int .i64 (wrap .i64 ((q:Int)+1)))] c) (aJ (pL (eY k n m i j) y) A [(pA k),(.int .i64 n),(.int .i64 m),(iA i),(iA j),(strOf s),(.int .i64 (wrap .i64 ((p:Int)+1)))] h))(w:Nat){s:LB}{q:Nat}{h:ae}(z:x w s q h):LL SS eC [1,1,1,1,0,1,0,0,1,0,0,1,0,0] (oA k n m i j p s q) h (KK SS eC [1,0,0,1,0] [1,1,1,1,0,1,0,0] (RR eC [1,1,1,1,0,1,0,0] (pL (eY k n m i j) y) A (KK SS eC [1,1,1,1,0,1,0] [] (EE SS eC Q)))):=
 mh (oA k n m i j p) x (λw s q B h z=>ai (step w s q B h z)) w z
section
def KB(s:dx):Bool:=decide (s.f.length<=40)&&s.arcs.all λq=>decide (q.w.length<=40)
def Iz(M:bp):Bool:=decide (M.af.length<=8)&&(decide (cg M.af<=40)&&(decide (M.lead.length<=40)&&M.af.all KB))
def NW(xs ys:List Int):Bool:=decide (xs.length+ys.length<=6)&&(eD xs&&eD ys)
section
variable {h:ae} {M:bp} {a:Option Addr} {n c:Nat} {xa ya:Option Addr} {xn xc yn yc:Nat} {xs ys:List Int}
theorem QB(b:dL h (.slice xa xn xc) xs)(c:dL h (.slice ya yn yc) ys)(f:xs.length<=281474976710656)(i:ys.length<=281474976710656):FW SS 11 [.slice xa xn xc,.slice ya yn yc] h (λv g=>v = .bool (NW xs ys)/\g=h):=by
 obtain rfl:=dL.len b;obtain rfl:=dL.len c;refine QA xa _ xc ya _ yc h _ ?_;have e:wrap .i64 ((xs.length:Int)+(ys.length:Int))=((xs.length+ys.length:Nat):Int):=by rw[aB (by omega) (by omega)];omega
 rw[e];unfold NW;refine aa (λq=>(zn b).mono ?_) (λq=>?_)
 ·have q:=dT q;rw[decide_eq_true (show xs.length+ys.length<=6 by omega),Bool.true_and];rintro _ g ⟨rfl,d⟩;obtain rfl:h=g:=d.symm;refine⟨_,rfl,aa (λa=>(zn c).mono ?_) (λa=>?_)⟩
  ·rintro _ g ⟨rfl,rfl⟩;rw[a,Bool.true_and];exact⟨_,rfl,rfl,rfl⟩
  ·rw[a];exact⟨rfl,rfl⟩
 ·have q:=dF q;rw[decide_eq_false (show ¬xs.length+ys.length<=6 by omega)];exact⟨rfl,rfl⟩
theorem Ur(w:Wf h)(S:Bnd M)(r:dy h (.slice a n c) M.af):FW SS 24 [.agg ⟨bK M a n c⟩] h (λv g=>v = .bool (!Iz M)/\Ok h g):=by
 obtain⟨l,H⟩:=fv w r;refine Uq (bK M a n c) h _ ⟨_,iS M a n c,?_⟩;generalize h.push (Bm M a n c)=g at*;have hl:=l.len;unfold Iz;refine⟨_,cZ _,_,_,_,l.l3,aa (λq=>⟨?_,H⟩) (λq=>?_)⟩
 ·have:=dT q;rw[decide_eq_false (show ¬M.af.length<=8 by omega)];rfl
 have q:=dF q;have Q:M.af.length<=8:=by omega
 rw[decide_eq_true Q,Bool.true_and];refine⟨_,l.all,(Vn H.wf S (by omega) l.row).mono ?_⟩;rintro _ R ⟨rfl,O⟩;have k:=H.trans O;have e:=l.ok O;refine⟨_,rfl,aa (λt=>⟨?_,k⟩) (λt=>?_)⟩
 ·have:=dT t;rw[decide_eq_false (show ¬cg M.af<=40 by omega)];rfl
 have t:=dF t;rw[decide_eq_true (show cg M.af<=40 by omega),Bool.true_and];refine⟨_,mJ _,_,e.l2,aa (λm=>⟨?_,k⟩) (λm=>?_)⟩
 ·have:=dT m;rw[decide_eq_false (show ¬M.lead.length<=40 by omega)];rfl
 have m:=dF m;rw[decide_eq_true (show M.lead.length<=40 by omega),Bool.true_and];generalize P:M.af.all KB=V;refine Aj (bK M a n c) h.next (λC i A=>i<=n/\C=n-i/\A=R/\(M.af.drop i).all KB=V) _ (λC i=>?_) n (i:=0) ⟨by omega,rfl,rfl,P⟩;intros;rename_i W I;obtain⟨f1,f2,rfl,f⟩:=I;refine⟨_,cZ _,_,_,_,e.l3,aa (λG=>?_) (λG=>?_)⟩
 ·have X:i<n:=by have:=dT G;omega
  obtain⟨s,E⟩:∃s,M.af[i]?=some s:=⟨_,gE (by omega)⟩
  obtain⟨b,o,x',y,z,D,e2,T,N,J⟩:=e.row.at_ E;have hy:=J.len;have hm:s.arcs.length<=40:=by
   have:=DF (List.mem_of_getElem? E);omega
  rw[fM E,all_cons]at f;refine⟨_,cZ _,_,_,_,e.l3,_,D,_,nJ _ _,_,T,aa (λu=>⟨?_,k⟩) (λu=>?_)⟩
  ·have:=dT u;unfold KB at f;rw[decide_eq_false (show ¬s.f.length<=40 by omega),Bool.false_and,Bool.false_and]at f;rw[<-f];rfl
  have u:=dF u;have L:KB s=s.arcs.all λq=>decide (q.w.length<=40):=by
   unfold KB;rw[decide_eq_true (show s.f.length<=40 by omega),Bool.true_and]
  rw[L]at f;refine Ak (bK M a n c) h.next _ C i (λx j A=>j<=y/\x=y-j/\A=W/\((s.arcs.drop j).all (λq=>decide (q.w.length<=40))&&(M.af.drop (i+1)).all KB)=V) _ (λx j=>?_) y (j:=0) ⟨by omega,rfl,rfl,f⟩;intros;rename_i g6 F;obtain⟨j1,j2,rfl,d⟩:=F;refine⟨_,cZ _,_,_,_,e.l3,_,D,_,iG _ _,_,_,_,N,aa (λB=>?_) (λB=>?_)⟩
  ·have Z:j<y:=by have:=dT B;omega
   obtain⟨q,K⟩:∃q,s.arcs[j]?=some q:=⟨_,gE (by omega)⟩
   obtain⟨bb,oo,Y,d2,d3,d4,U,d6⟩:=J.at_ K;rw[fM K,all_cons]at d;refine⟨_,cZ _,_,_,_,e.l3,_,D,_,iG _ _,_,_,_,N,_,Y,_,Dg _ _,_,U,aa (λp=>⟨?_,k⟩) (λp=>?_)⟩
   ·have:=dT p;rw[decide_eq_false (show ¬q.w.length<=40 by omega),Bool.false_and,Bool.false_and]at d;rw[<-d];rfl
   ·have p:=dF p;rw[decide_eq_true (show q.w.length<=40 by omega),Bool.true_and]at d;rw[aP Z (by omega)];exact bZ (y-(j+1)) (by omega) ⟨by omega,rfl,rfl,d⟩
  ·have:=dF B;rw[drop_eq_nil_of_le (by omega)]at d;rw[aP X (by omega)];exact bZ (n-(i+1)) (by omega) ⟨by omega,rfl,rfl,d⟩
 ·have:=dF G;rw[drop_eq_nil_of_le (by omega)]at f;rw[<-f];exact⟨rfl,k⟩
def AX(M:bp)(xs ys:List Int):List UInt8×Int:=if(ca M&&(eD xs&&eD ys))=true then(match eF (aY M.kind) (gm M) xs ys with|some w=>(w,0)|none=>([],2))else([],1)
theorem aab(M:bp)(xs ys:List Int):(if(ca M&&(eD xs&&eD ys))=true then M7 (eF (aY M.kind) (gm M) xs ys)else two [] 1)=two (AX M xs ys).1 (AX M xs ys).2:=by
 unfold AX;split
 ·cases eF (aY M.kind) (gm M) xs ys<;>rfl
 ·rfl
theorem IN(w:Wf h)(d:Small M)(r:dy h (.slice a n c) M.af)(b:dL h (.slice xa xn xc) xs)(e:dL h (.slice ya yn yc) ys):
  FW SS 48 [.agg ⟨bK M a n c⟩,.slice xa xn xc,.slice ya yn yc] h (λv g=>v = .tuple ⟨[strOf (AX M xs ys).1,.int .i64 (AX M xs ys).2]⟩/\Ok h g):=by
 refine(acf w d r b e).mono ?_;rintro _ g ⟨rfl,f⟩;exact⟨aab M xs ys,f⟩
theorem Qz(w:Wf h)(f:Small M)(r:dy h (.slice a n c) M.af)(e:dL h (.slice xa xn xc) xs)(i:dL h (.slice ya yn yc) ys):
  FW SS 39 [.agg ⟨bK M a n c⟩,.int .i64 0,.slice xa xn xc,.slice ya yn yc] h (λv g=>v=strOf (AX M xs ys).1/\Ok h g):=by
 obtain⟨d,b⟩:=fv w r;refine Qy (bK M a n c) 0 xa xn xc ya yn yc h _ ⟨_,iS M a n c,aa (λq=>by cases q) (λ_=>⟨_,d.all,(IN b.wf f d.row (dL.ok e b) (dL.ok i b)).mono ?_⟩)⟩;rintro _ g ⟨rfl,j⟩;exact⟨_,_,rfl,rfl,b.trans j⟩
def HH(M:bp)(b:Int)(xs ys:List Int)(a:List UInt8):Bool:=ca M&&(M.kind==b&&((AX M xs ys).2==2||((AX M xs ys).2==0&&(AX M xs ys).1==a)))
theorem Qx(w:Wf h)(p:Small M)(r:dy h (.slice a n c) M.af)(t:dL h (.slice xa xn xc) xs)(u:dL h (.slice ya yn yc) ys)(b:Int)(e:List UInt8):
  FW SS 19 [.agg ⟨bK M a n c⟩,.int .i64 b,.slice xa xn xc,.slice ya yn yc,strOf e] h (λv g=>v = .bool (HH M b xs ys e)/\Ok h g):=by
 obtain⟨l,s⟩:=fv w r;refine Qw (bK M a n c) b xa xn xc ya yn yc e h _ ⟨_,iS M a n c,_,l.all,(q7 s.wf p l.row).mono ?_⟩;generalize h.push (Bm M a n c)=g at*;unfold HH;rintro _ y ⟨rfl,o⟩;have d:=s.trans o;have f:=l.ok o;refine⟨_,rfl,aa (λq=>⟨?_,d⟩) (λq=>?_)⟩
 ·rw[not_eq_true']at q;rw[q];rfl
 rw[not_eq_false']at q;rw[q,Bool.true_and];refine⟨_,du _,_,f.l0,aa (λk=>⟨?_,d⟩) (λk=>?_)⟩
 ·have:(M.kind==b)=false:=by simpa using k
  rw[this];rfl
 have:(M.kind==b)=true:=by simpa using k
 rw[this,Bool.true_and];refine⟨_,f.all,(IN o.wf p f.row (dL.ok t d) (dL.ok u d)).mono ?_⟩;rintro _ z ⟨rfl,x⟩;have i:=d.trans x;refine⟨_,_,rfl,aa (λj=>⟨?_,i⟩) (λj=>aa (λm=>⟨?_,i⟩) (λm=>⟨?_,i⟩))⟩
 ·rw[j];rfl
 ·rw[j,m];rfl
 ·rw[j,m];rfl
end
end
end Go.Proofs.YtaaichlgdgjgjaaGreatDoor
end
