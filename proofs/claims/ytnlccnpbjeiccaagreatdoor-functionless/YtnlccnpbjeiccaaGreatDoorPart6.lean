/- Laws and walks that the proof leans on (part 6): G11; G12; G13; F4; G14; G15 and others. No condition. -/
import Derived.Test.YtnlccnpbjeiccaaGreatDoorPart5
import Derived.Test.YtnlccnpbjeiccaaGreatDoorPart3
import Derived.Test.YtnlccnpbjeiccaaGreatDoorPart2
import Derived.Test.YtnlccnpbjeiccaaGreatDoorPart4
set_option linter.unusedVariables false
set_option linter.unusedSimpArgs false
set_option maxRecDepth 100000
open List (append_assoc append_nil cons_append getElem?_eq_none getElem?_map getElem?_of_mem getElem?_set length_append length_cons length_set length_singleton length_take map_append mem_append mem_cons mem_cons_of_mem mem_cons_self mem_map mem_singleton nodup_cons reverse_append reverse_cons sum_cons)
open Nat (lt_succ_self zero_add zero_le)
open Bool (and_eq_true)
open Int (toNat_natCast)
open Go.IntKind (wrap)
section
namespace Go.Proofs.YtnlccnpbjeiccaaGreatDoor
open Go Go.Ab Go.Num
variable{T:TypeId}{v:Value}{d:List Value}{g:aa}{k:Nat}{p:List Int}
section
theorem U3{G:cD}(r:dy T v d G):cZ 4 v v=true:=by
 obtain⟨_,⟨rfl,_⟩|⟨k,a,cs,c,rfl,_⟩⟩:=r<;>simp[cZ]
theorem Cm(r:Rd g T v d):cZ 4 v v=true:=by
 rcases r with⟨rfl,_⟩|⟨k,a,cs,c,b,rfl,_⟩<;>simp[cZ]
theorem Hs(x:List Int)(c:Int):(x++opt c []).map zV=if c=0 then x.map zV else x.map zV++[zV c]:=by
 unfold opt;split
 ·rw[append_nil]
 ·rw[map_append];rfl
theorem FL(k:Nat):af SS.P 116 (.pointer (some ⟨k,0,none⟩)) 1=some (.pointer (some ⟨k,1,none⟩)):=by kernel_rfl
theorem FM(k:Nat):af SS.P 116 (.pointer (some ⟨k,0,none⟩)) 2=some (.pointer (some ⟨k,2,none⟩)):=by kernel_rfl
theorem iG.l1{m:Mv}(h:g.get k=some (iG m)):ae SS.P 3 g (.pointer (some ⟨k,1,none⟩))=some (.int .i64 m.l):=aN lp ll h (by simp[rZ])
theorem iG.l2{m:Mv}(h:g.get k=some (iG m)):ae SS.P 3 g (.pointer (some ⟨k,2,none⟩))=some (.int .i64 m.r):=aN lp ll h (by simp[rZ])
theorem R8:aA SS.P 175=some (bP nA nA,dX):=by kernel_rfl
theorem aaK(a:Option Addr)(n c:Nat)(b:Option Addr)(m d:Nat):aD SS.P 175 [(0,(.slice a n c)),(1,(.slice b m d))]=some (.agg ⟨[.slice a n c,.slice b m d]⟩):=by cases a<;>cases b<;>kernel_rfl
def aL(k4 k6:Nat)(c b:Value)(d a:cD):List cD:=[[(k4,bP nA nA)],[(k6,bP c b)],d,a]
def AS(h:aa)(k4 k6:Nat)(x y:List Int)(g:aa):Prop:=∃c b d a,OL h g (aL k4 k6 c b d a)/\dy 3 c (x.map zV) d/\dy 3 b (y.map zV) a
def aaA(h:aa)(r:Option sK):VH:=λv g=>Ok h g/\((r=none/\∃(a:Option Addr)(n c:Nat)(b:Option Addr)(m d:Nat),v = .tuple ⟨[.agg ⟨[.slice a n c,.slice b m d]⟩,.bool false]⟩)\/ ∃(e:sK)(a:Option Addr)(n c:Nat)(b:Option Addr)(m d:Nat),r=some e/\v = .tuple ⟨[.agg ⟨[.slice a n c,.slice b m d]⟩,.bool true]⟩/\na h g 3 (.slice a n c) (e.1.map zV)/\na h g 3 (.slice b m d) (e.2.map zV))
section
variable {h:aa} {k4 k6:Nat}
theorem AS.grow{x:List Int}{a:aa}(s:AS h k4 k6 x p g)(o:Ok g a):AS h k4 k6 x p a:=by
 obtain⟨e,d,f,c,b,r⟩:=s;exact⟨e,d,f,c,(b.grow o).1,r⟩
theorem cM(a:Option Addr)(n c:Nat):(Value.slice a n c).cells = #[.slice a n c]:=by cases a<;>rfl
theorem AS.ret(w:Wf h){x y:List Int}{g:aa}(s:AS h k4 k6 x y g)(b:Bool)(Q:VH)(A:∀(a:Option Addr) (n c:Nat) (e:Option Addr) (m d:Nat) (k:aa),Ok h k->na h k 3 (.slice a n c) (x.map zV)->na h k 3 (.slice e m d) (y.map zV)->Q (.tuple ⟨[.agg ⟨[.slice a n c,.slice e m d]⟩,.bool b]⟩) k):xA (ae SS.P 175 g (pA k6)) λq=>xU (aj SS.P 175 (pA k4) (.agg ⟨q⟩) g) g λz l=>di SS [((pA k4),some 175),((.bool b),none)] l Q:=by
 obtain⟨D,C,B,u,o,t,r⟩:=s;obtain⟨a,c,rfl⟩:=t.mU;obtain⟨e,d,rfl⟩:=r.mU;obtain⟨f,_⟩:=o.kF w 0 rfl (bP (.slice a (x.map zV).length c) (.slice e (y.map zV).length d));have v:aj SS.P 175 (pA k4) (.agg ⟨[.slice a (x.map zV).length c,.slice e (y.map zV).length d]⟩) g=some (undef,.set k4 (bP (.slice a (x.map zV).length c) (.slice e (y.map zV).length d))):=du uj rfl (o.get 0 rfl) rfl (by simp[bc]);refine⟨_,bP.all (o.get 1 rfl),_,v,?_⟩;refine vj (bP.all (f.get 0 rfl)) (A a _ c e _ d _ f.ok ⟨B,t,λp j=>?_⟩ ⟨u,r,λp j=>?_⟩)
 ·exact⟨f.IZ (i:=2) rfl p j,f.PJ (i:=2) rfl p j⟩
 ·exact⟨f.IZ (i:=3) rfl p j,f.PJ (i:=3) rfl p j⟩
theorem HO(w:Wf h)(dv ov:List Value){r:Option sK}{x y:List Int}{g:aa}(s:AS h k4 k6 x y g)(D:iu x y=r):LL SS ch [1,1,1,1,0,0,0] [(pA k4),(pA k6)] g (KK SS ch [1,1,1,1,0,0] [] (EE SS ch (aaA h r))):=by
 refine uY dv ov k4 k6 (λmz _ g=>∃x y,AS h k4 k6 x y g/\iu x y=r/\mz=x.length) _ (λx5 z=>?_) x.length (z:=()) ⟨x,y,s,D,rfl⟩;clear s D x y g;intro zz g W;obtain⟨x,y,s,D,rfl⟩:=W;have S:=s;obtain⟨vl,vr,Gl,Z,o,N,H⟩:=s;have x1:=N.mU;have x0:=H.mU;obtain⟨a,c,rfl⟩:=x1;obtain⟨b,d,rfl⟩:=x0;refine⟨_,lO _ _,_,_,_,bP.l0 (o.get 1 rfl),ah (λq=>?_) (λq=>?_)⟩
 ·have q:=dT q;refine⟨_,lP _ _,_,_,_,bP.l1 (o.get 1 rfl),ah (λl=>?_) (λl=>?_)⟩
  ·have l:=dT l
   cases x with
   |nil=>simp at q
   |cons u x=>
   cases y with
   |nil=>simp at l
   |cons v y=>
   obtain⟨F,_⟩:=o.grow ((Ok.refl o.ok.wf).room 9);have s1:=S.grow ((Ok.refl o.ok.wf).room 9);generalize Go.Ab.room g 9=g1 at*;obtain⟨p1,i1,i2⟩:=zat (N.rd F (i:=2) rfl) (i:=0) (z:=u) rfl;obtain⟨p2,j1,j2⟩:=zat (H.rd F (i:=3) rfl) (i:=0) (z:=v) rfl;refine⟨_,lO _ _,_,_,_,bP.l0 (F.get 1 rfl),_,i1,_,i2,_,lP _ _,_,_,_,bP.l1 (F.get 1 rfl),_,j1,_,j2,ah (λj=>?_) (λj=>?_)⟩
   ·have j:u≠v:=by simpa using j
    refine s1.ret w false _ λa n c B m d V I _ _=>⟨I,.inl ⟨?_,_,_,_,_,_,_,rfl⟩⟩
    rw[<-D,iu,if_neg j]
   ·have j:u=v:=by simpa using j
    obtain⟨C,_⟩:=F.grow ((Ok.refl F.ok.wf).room 10);generalize Go.Ab.room g1 10=Y at*;obtain⟨A,p,f,t1,x2⟩:=dy.tail (x:=zV u) (vs:=x.map zV) cQ wF N (C.PJ (i:=2) rfl);obtain⟨B,K,J,M,L⟩:=dy.tail (x:=zV v) (vs:=y.map zV) cQ wF H (C.PJ (i:=3) rfl);obtain⟨G,_⟩:=C.kF w 1 rfl (bP (.slice A p f) (.slice b ((v::y).map zV).length d));have U:aj SS.P 27 (.pointer (some ⟨k6,0+0,none⟩)) (.slice A p f) Y=some (undef,.set k6 (bP (.slice A p f) (.slice b ((v::y).map zV).length d))):=bC ef (C.get 1 rfl) (by simp) (aS ..) (cM ..);refine⟨_,lO _ _,_,_,_,bP.l0 (C.get 1 rfl),_,_,_,t1,_,lP _ _,_,_,_,bP.l1 (C.get 1 rfl),_,_,_,M,_,lO _ _,_,U,?_⟩;generalize (aY.set k6 (bP (.slice A p f) (.slice b ((v::y).map zV).length d))).app Y=T at*;have G:OL h T (aL k4 k6 (.slice A p f) (.slice b ((v::y).map zV).length d) Gl Z):=G;obtain⟨o4,_⟩:=G.kF w 1 rfl (bP (.slice A p f) (.slice B K J));have x3:aj SS.P 27 (.pointer (some ⟨k6,0+1,none⟩)) (.slice B K J) T=some (undef,.set k6 (bP (.slice A p f) (.slice B K J))):=bC ef (G.get 1 rfl) (by simp) (aS ..) (cM ..);obtain⟨b2,m2,d2,t3,x4⟩:=dy.tail (x:=zV v) (vs:=y.map zV) cQ wF H (G.PJ (i:=3) rfl);have et:bm SS.P 27 (.slice b ((v::y).map zV).length d) (some (.int .i64 1)) none none T=some (.slice B K J):=by
     obtain⟨_,⟨_,hh,_⟩|⟨k,E,cs,f,Q,hG,_,_,e⟩⟩:=H
     ·cases hh
     ·have k1:=C.PJ (i:=3) rfl (k,.cells cs 3 1 true) (by rw[hG];exact mem_singleton.2 rfl);have k2:=G.PJ (i:=3) rfl (k,.cells cs 3 1 true) (by rw[hG];exact mem_singleton.2 rfl);injection Q with Q hv2 X
      rw[dw]at e;rw[<-X]at e;rw[Q]at M⊢;rw[<-M];have a1:=ui (P:=SS.P) (t:=27) cQ wF (k:=k) (off:=E) (n:=((v::y).map zV).length) (c:=d) (z:=1) k1 (by simp) e;have a2:=ui (P:=SS.P) (t:=27) cQ wF (k:=k) (off:=E) (n:=((v::y).map zV).length) (c:=d) (z:=1) k2 (by simp) e;exact a2.trans a1.symm
    refine⟨_,lP _ _,_,x3,⟨et,U3 L⟩,?_⟩;refine cK (a:=()) x.length (by simp) ⟨x,y,⟨_,_,Gl,Z,o4,x2,L⟩,?_,rfl⟩;rw[<-D,j,iu,if_pos rfl]
  ·have l:=dF l;have hy:y=[]:=List.eq_nil_of_length_eq_zero (by rw[lM]at l;omega);refine S.ret w true _ λa n c B m d V I O R=>⟨I,.inr ⟨(x,y),_,_,_,_,_,_,?_,rfl,O,R⟩⟩
   rw[<-D,hy]
   cases x<;>rfl
 ·have q:=dF q;have hx:x=[]:=List.eq_nil_of_length_eq_zero (by rw[lM]at q;omega);refine S.ret w true _ λa n c B m d V I O R=>⟨I,.inr ⟨(x,y),_,_,_,_,_,_,?_,rfl,O,R⟩⟩
  rw[<-D,hx];rfl
def aep(e k4 k6:Nat)(g:aa)(Q:VH):Prop:=xP (af SS.P 116 (pA e) 2) λo=>xI .i64 (ae SS.P 3 g (.pointer (some o))) λs=>aQ (decide ((s:Int)>0)) (xP (af SS.P 175 (pA k6) 1) λq=>xL (ae SS.P 27 g (.pointer (some q))) λc m r=>xP (af SS.P 116 (pA e) 2) λf=>xI .i64 (ae SS.P 3 g (.pointer (some f))) λj=>xR (az SS.P 27 1 [(0,(.int .i64 j))]) g λv l d b=>xE (aE SS.P 27 27 (.slice c m r) (sA (g.next) l d) b) b λp h i u a=>xP (af SS.P 175 (pA k6) 1) λk=>xU (aj SS.P 27 (.pointer (some k)) (.slice p h i) a) a λt n=>LL SS ch [1,1,1,1,0,0,0] [(pA k4),(pA k6)] n (KK SS ch [1,1,1,1,0,0] [] (EE SS ch Q))) (LL SS ch [1,1,1,1,0,0,0] [(pA k4),(pA k6)] g (KK SS ch [1,1,1,1,0,0] [] (EE SS ch Q)))
theorem DR(w:Wf h)(v A:List Value){m:Mv}(T:0<=m.r){z:Nat}{r:Option sK}{x y:List Int}{g:aa}(F:g.get z=some (iG m))(s:AS h k4 k6 x y g)(P:y.length<=1000000000)(G:iu x (y++opt m.r [])=r):aep z k4 k6 g (aaA h r):=by
 have R:=s;obtain⟨S,Q,t,I,o,k,i⟩:=s;have C:=k.mU;have B:=i.mU;obtain⟨a,c,rfl⟩:=C;obtain⟨b,d,rfl⟩:=B;refine⟨_,FM _,_,iG.l2 F,ah (λq=>?_) (λq=>?_)⟩
 ·have q:=dT q;have N:=aI g (.cells [zV m.r] 3 1 true);obtain⟨H,_⟩:=o.grow ((Ok.refl o.ok.wf).push (.cells [zV m.r] 3 1 true));refine⟨_,lP _ _,_,_,_,bP.l1 (o.get 1 rfl),_,FM _,_,iG.l2 F,_,_,_,tH _,?_⟩;change xE (aE SS.P 27 27 (.slice b (y.map zV).length d) (sA g.next 1 1) (g.push (.cells [zV m.r] 3 1 true))) (g.push (.cells [zV m.r] 3 1 true)) _;generalize g.push (.cells [zV m.r] 3 1 true)=L at*;obtain⟨p,n,l,u,M,O,E,f,e,_⟩:=i.snoc cQ rk kX Na w H (j:=3) rfl (x:=zV m.r) rfl N (by rw[iV,lM];omega) (by rw[lM];omega);refine⟨_,_,_,_,M,?_⟩;generalize u.app L=D at*;have e:OL h D (aL k4 k6 (.slice a (x.map zV).length c) (.slice b (y.map zV).length d) t E):=e;obtain⟨J,_⟩:=e.kF w 1 rfl (bP (.slice a (x.map zV).length c) (.slice p n l));have K:aj SS.P 27 (.pointer (some ⟨k6,0+1,none⟩)) (.slice p n l) D=some (undef,.set k6 (bP (.slice a (x.map zV).length c) (.slice p n l))):=bC ef (e.get 1 rfl) (by simp) (aS ..) (cM ..);refine⟨_,lP _ _,_,K,?_⟩;refine HO w v A (x:=x) (y:=y++opt m.r []) ⟨_,_,t,E,J,k,?_⟩ G;rw[Hs,if_neg (by omega)];exact f
 ·have q:=dF q;refine HO w v A (x:=x) (y:=y++opt m.r []) ⟨_,_,t,I,o,k,?_⟩ G;rw[Hs,if_pos (by omega)];exact i
theorem Pw(w:Wf h){a:Option Addr}{n c:Nat}{b:Option Addr}{N M:Nat}{d:sK}{m:Mv}(r1:Rd h 3 (.slice a n c) (d.1.map zV))(r2:Rd h 3 (.slice b N M) (d.2.map zV))(W:0<=m.l)(hr:0<=m.r)(z1:d.1.length<=1000000000)(z2:d.2.length<=1000000000):FW SS 113 [.agg ⟨[.slice a n c,.slice b N M]⟩,.agg ⟨rZ m⟩] h (aaA h (zF d m)):=by
 refine Pv _ _ h _ ⟨_,K6 ..,_,AP m,_,R8,?_⟩;have e1:=(Ok.refl w).push (bP (.slice a n c) (.slice b N M));have H:=aI h (bP (.slice a n c) (.slice b N M));have n1:(h.push (bP (.slice a n c) (.slice b N M))).next=h.next+1:=rfl;generalize h.push (bP (.slice a n c) (.slice b N M))=O at*;have e2:=(Ok.refl e1.wf).push (iG m);have b2:=aI O (iG m);have H:=e2.ext _ _ H;have n2:(O.push (iG m)).next=O.next+1:=rfl;have x0:=e1.trans e2;generalize O.push (iG m)=o at*;have R:=(Ok.refl e2.wf).push (bP nA nA);have b4:=aI o (bP nA nA);have H:=R.ext _ _ H;have b2:=R.ext _ _ b2;have n3:(o.push (bP nA nA)).next=o.next+1:=rfl;have t:=x0.trans R;generalize o.push (bP nA nA)=f at*;have G:=(Ok.refl R.wf).room 9;have n4:(Go.Ab.room f 9).next=f.next+9:=rfl;refine⟨_,lO _ _,_,_,_,bP.l0 (G.ext _ _ H),(A0 G.wf (r1.ok (t.trans G)) z1).mono ?_⟩;rintro v5 Y ⟨⟨s,U,pl⟩,P⟩;obtain⟨D,E,rfl⟩:=U.mU;have x2:=(t.trans G).trans P;refine⟨_,_,_,rfl,_,lP _ _,_,_,_,bP.l1 (P.ext _ _ (G.ext _ _ H)),(A0 P.wf (r2.ok x2) z2).mono ?_⟩;rintro v6 C ⟨⟨r,T,pr⟩,X⟩;obtain⟨v,z,rfl⟩:=T.mU;have n5:=P.nx;have n6:=X.nx;refine⟨_,_,_,rfl,_,aaK ..,_,R8,?_⟩;have x4:av C f.next [(7,bP nA nA)]=C.set (f.next+7) (bP nA nA):=rfl;dsimp only;rw[x4];have Q:∀k B,f.get k=some B->(C.set (f.next+7) (bP nA nA)).get k=some B:=λk B l=>by
  have:=R.wf _ _ l;rw[aa.aw,if_neg (by omega)];exact X.ext _ _ (P.ext _ _ (G.ext _ _ l))
 have x9:Ok h (C.set (f.next+7) (bP nA nA)):=(x2.trans X).set _ (by have:=t.nx;omega) (by omega) w;have gs:(C.set (f.next+7) (bP nA nA)).get (f.next+7)=some (bP nA nA):=by rw[aa.aw,if_pos rfl]
 have A:∀p∈s,f.next+9<=p.1/\(C.set (f.next+7) (bP nA nA)).get p.1=some p.2/\p.1<Y.next:=λp g=>by
  have i:=(pl p g).1;have h2:=(pl p g).2;refine⟨by omega,?_,P.wf _ _ h2⟩;rw[aa.aw,if_neg (by omega)];exact X.ext _ _ h2
 have J:∀p∈r,Y.next<=p.1/\(C.set (f.next+7) (bP nA nA)).get p.1=some p.2:=λp g=>by
  have i:=(pr p g).1;refine⟨i,?_⟩;rw[aa.aw,if_neg (by omega)];exact(pr p g).2
 have x5:=Q _ _ b2;have x8:=Q _ _ b4;generalize C.set (f.next+7) (bP nA nA)=V at*;have st:aj SS.P 175 (pA (f.next+7)) (.agg ⟨[.slice D (d.1.map zV).length E,.slice v (d.2.map zV).length z]⟩) V=some (undef,.set (f.next+7) (bP (.slice D (d.1.map zV).length E) (.slice v (d.2.map zV).length z))):=du uj rfl gs rfl (by simp[bc]);have y2:f.next=o.next+1:=n3;have o7:OL h V (aL o.next (f.next+7) nA nA s r):=by
  refine⟨x9,?_,λk l=>?_,λp g=>?_⟩
  ·have e:keys (aL o.next (f.next+7) nA nA s r)=o.next::(f.next+7)::(s.map (·.1)++r.map (·.1)):=by unfold keys aL;simp
   rw[e];have W:∀k∈s.map (·.1),f.next+9<=k/\k<Y.next:=λk l=>by
    obtain⟨p,g,rfl⟩:=mem_map.1 l;exact⟨(A p g).1,(A p g).2.2⟩
   have S:∀k∈r.map (·.1),Y.next<=k:=λk l=>by
    obtain⟨p,g,rfl⟩:=mem_map.1 l;exact(J p g).1
   refine nodup_cons.2 ⟨λK=>?_,nodup_cons.2 ⟨λK=>?_,List.nodup_append.2 ⟨U.nd,T.nd,λx hx y hy e=>?_⟩⟩⟩
   ·rcases mem_cons.1 K with i|i
    ·omega
    ·rcases mem_append.1 i with i|i
     ·have:=W _ i;omega
     ·have:=S _ i;omega
   ·rcases mem_append.1 K with i|i
    ·have:=W _ i;omega
    ·have:=S _ i;omega
   ·have:=W _ hx;have:=S _ hy;omega
  ·have e:keys (aL o.next (f.next+7) nA nA s r)=o.next::(f.next+7)::(s.map (·.1)++r.map (·.1)):=by unfold keys aL;simp
   rw[e]at l;rcases mem_cons.1 l with rfl|l
   ·have:=x0.nx;omega
   ·rcases mem_cons.1 l with rfl|l
    ·have:=t.nx;omega
    ·rcases mem_append.1 l with l|l
     ·obtain⟨p,g,rfl⟩:=mem_map.1 l;have:=(A p g).1;have:=t.nx;omega
     ·obtain⟨p,g,rfl⟩:=mem_map.1 l;have:=(J p g).1;have:=t.nx;omega
  ·unfold aL at g;simp only[List.flatten_cons,List.flatten_nil,append_nil,cons_append,List.nil_append,mem_cons,mem_append]at g;rcases g with rfl|rfl|g|g
   ·exact x8
   ·exact gs
   ·exact(A p g).2.1
   ·exact(J p g).2
 have m7:Im V (aL o.next (f.next+7) nA nA s r) O.next (iG m):=by
  refine⟨x5,λK=>?_⟩;have e:keys (aL o.next (f.next+7) nA nA s r)=o.next::(f.next+7)::(s.map (·.1)++r.map (·.1)):=by unfold keys aL;simp
  rw[e]at K;rcases mem_cons.1 K with i|i
  ·omega
  ·rcases mem_cons.1 i with i|i
   ·omega
   ·rcases mem_append.1 i with i|i
    ·obtain⟨p,g,i⟩:=mem_map.1 i;have:=(A p g).1;omega
    ·obtain⟨p,g,i⟩:=mem_map.1 i;have:=(J p g).1;omega
 obtain⟨L,c8⟩:=o7.kF w 1 rfl (bP (.slice D (d.1.map zV).length E) (.slice v (d.2.map zV).length z));refine⟨_,st,⟨bP.l1 (G.ext _ _ H),Cm r2⟩,?_⟩;generalize (aY.set (f.next+7) (bP (.slice D (d.1.map zV).length E) (.slice v (d.2.map zV).length z))).app V=F at*;have L:OL h F (aL o.next (f.next+7) (.slice D (d.1.map zV).length E) (.slice v (d.2.map zV).length z) s r):=L;have Z:Im F (aL o.next (f.next+7) (.slice D (d.1.map zV).length E) (.slice v (d.2.map zV).length z) s r) O.next (iG m):=c8 _ _ m7;refine⟨_,FL _,_,iG.l1 Z.1,ah (λq=>?_) (λq=>?_)⟩
 ·have q:=dT q;have k3:=aI F (.cells [zV m.l] 3 1 true);obtain⟨o9,c9⟩:=L.grow ((Ok.refl L.ok.wf).push (.cells [zV m.l] 3 1 true));refine⟨_,lO _ _,_,_,_,bP.l0 (L.get 1 rfl),_,FL _,_,iG.l1 Z.1,_,_,_,tH _,?_⟩;change xE (aE SS.P 27 27 (.slice D (d.1.map zV).length E) (sA F.next 1 1) (F.push (.cells [zV m.l] 3 1 true))) (F.push (.cells [zV m.l] 3 1 true)) _;generalize F.push (.cells [zV m.l] 3 1 true)=g9 at*;obtain⟨b',n',c',u,p1,p2,G',x3,I,y1⟩:=U.snoc cQ rk kX Na w o9 (j:=2) rfl (x:=zV m.l) rfl k3 (by rw[iV,lM];omega) (by rw[lM];omega);refine⟨_,_,_,_,p1,?_⟩;generalize u.app g9=x1 at*;have I:OL h x1 (aL o.next (f.next+7) (.slice D (d.1.map zV).length E) (.slice v (d.2.map zV).length z) G' r):=I;have x7:=y1 _ _ (c9 _ _ Z);obtain⟨x6,y0⟩:=I.kF w 1 rfl (bP (.slice b' n' c') (.slice v (d.2.map zV).length z));have st:aj SS.P 27 (.pointer (some ⟨f.next+7,0+0,none⟩)) (.slice b' n' c') x1=some (undef,.set (f.next+7) (bP (.slice b' n' c') (.slice v (d.2.map zV).length z))):=bC ef (I.get 1 rfl) (by simp) (aS ..) (cM ..);refine⟨_,lO _ _,_,st,?_⟩;refine DR w [] [] hr (y0 _ _ x7).1 (x:=d.1++opt m.l []) ⟨_,_,G',r,x6,?_,T⟩ z2 rfl;rw[Hs,if_neg (by omega)];exact x3
 ·have q:=dF q;refine DR w [] [] hr Z.1 (x:=d.1++opt m.l []) ⟨_,_,s,r,L,?_,T⟩ z2 rfl;rw[Hs,if_pos (by omega)];exact U
end
end
variable{n:Nat}{z:Int}{X:Sx}{w:Value}{Q:VH}{i:Nat}{j:Nat}
section
def zp(m:Mv)(p:Option Addr):bw:= .cells (rZ m++[.pointer p]) 118 0 true
inductive nL(I:Nat->bw->Prop):Option Addr->List Mv->Prop
 |nil:nL I none []
 |cons {k:Nat} {p:Option Addr} {m:Mv} {ms:List Mv} (h:I k (zp m p)) (r:nL I p ms):nL I (some ⟨k,0,none⟩) (m::ms)
theorem nL.mono{I I':Nat->bw->Prop}(b:∀k B,I k B->I' k B){p:Option Addr}{a:List Mv}(r:nL I p a):nL I' p a:=by
 induction r with
 |nil=>exact .nil
 |cons h _ c=>exact .cons (b _ _ h) c
def Qk(m:Mv):Prop:=0<=m.i/\0<=m.l/\0<=m.r
theorem GJ(c:Int):(opt c []).reverse=opt c []:=by unfold opt;split<;>rfl
theorem We:∀a:List Mv,wI a.reverse=(wI a).reverse
 |[]=>rfl
 |m::a=>by
  rw[reverse_cons,Nk,We a];show _++opt m.i []=(opt m.i (wI a)).reverse;rw[lV m.i (wI a),reverse_append,GJ]
theorem Wg:∀a:List Mv,wL a.reverse=(wL a).reverse
 |[]=>rfl
 |m::a=>by
  rw[reverse_cons,CI,Wg a];show _++opt m.l []=(opt m.l (wL a)).reverse;rw[lV m.l (wL a),reverse_append,GJ]
theorem Wh:∀a:List Mv,wR a.reverse=(wR a).reverse
 |[]=>rfl
 |m::a=>by
  rw[reverse_cons,CJ,Wh a];show _++opt m.r []=(opt m.r (wR a)).reverse;rw[lV m.r (wR a),reverse_append,GJ]
theorem dM(f:Mv->Int):∀a:List Mv,(a.foldr (λm x=>opt (f m) x) []).length<=a.length
 |[]=>Nat.le_refl _
 |m::a=>by
  have:=dM f a;rw[List.foldr_cons];unfold opt at this⊢;split
  ·rw[length_cons];omega
  ·rw[length_cons,length_cons];omega
theorem OP:SS.P.underlying 112=some (.pointer 118):=by kernel_rfl
theorem Nz:Go.Ab.isAgg SS.P 112=false:=by kernel_rfl
theorem ad2:SS.P.underlying 186=some (.pointer 27):=by kernel_rfl
theorem acn:Go.Ab.isAgg SS.P 186=false:=by kernel_rfl
theorem abn(a:Option Addr):ay SS.P .neq 112 (.pointer a) (.pointer none)=some (.bool !a.isNone):=by cases a<;>kernel_rfl
theorem FN(k:Nat):af SS.P 118 (.pointer (some ⟨k,0,none⟩)) 0=some (.pointer (some ⟨k,0,none⟩)):=by kernel_rfl
theorem XY(k:Nat):af SS.P 118 (.pointer (some ⟨k,0,none⟩)) 1=some (.pointer (some ⟨k,3,none⟩)):=by kernel_rfl
theorem XX(k:Nat):af SS.P 116 (.pointer (some ⟨k,0,none⟩)) 0=some (.pointer (some ⟨k,0,none⟩)):=by kernel_rfl
section
variable {g:aa} {k:Nat} {m:Mv} {p:Option Addr}
theorem zp.l0(h:g.get k=some (zp m p)):ae SS.P 3 g (.pointer (some ⟨k,0,none⟩))=some (.int .i64 m.i):=aN lp ll h (by simp[rZ])
theorem zp.l1(h:g.get k=some (zp m p)):ae SS.P 3 g (.pointer (some ⟨k,1,none⟩))=some (.int .i64 m.l):=aN lp ll h (by simp[rZ])
theorem zp.l2(h:g.get k=some (zp m p)):ae SS.P 3 g (.pointer (some ⟨k,2,none⟩))=some (.int .i64 m.r):=aN lp ll h (by simp[rZ])
theorem zp.l3(h:g.get k=some (zp m p)):ae SS.P 112 g (.pointer (some ⟨k,3,none⟩))=some (.pointer p):=aN OP Nz h (by simp[rZ])
end
theorem K2(n:Int)(k:Nat):aD SS.P 187 [(0,(.int .i64 n)),(1,(pA k))]=some (.agg ⟨[.int .i64 n,pA k]⟩):=by kernel_rfl
theorem aaL(a b c:Int)(x y z:Nat):aD SS.P 188 [(0,(.agg ⟨[.int .i64 a,pA x]⟩)),(1,(.agg ⟨[.int .i64 b,pA y]⟩)),(2,(.agg ⟨[.int .i64 c,pA z]⟩))]=some (.agg ⟨[.int .i64 a,pA x,.int .i64 b,pA y,.int .i64 c,pA z]⟩):=by kernel_rfl
theorem Yl(a b c:Int)(x y z:Nat):bH SS.P 188 (.agg ⟨[.int .i64 a,pA x,.int .i64 b,pA y,.int .i64 c,pA z]⟩) (iA 0)=some (.agg ⟨[.int .i64 a,pA x]⟩):=by kernel_rfl
theorem Ym(a b c:Int)(x y z:Nat):bH SS.P 188 (.agg ⟨[.int .i64 a,pA x,.int .i64 b,pA y,.int .i64 c,pA z]⟩) (iA 1)=some (.agg ⟨[.int .i64 b,pA y]⟩):=by kernel_rfl
theorem Yn(a b c:Int)(x y z:Nat):bH SS.P 188 (.agg ⟨[.int .i64 a,pA x,.int .i64 b,pA y,.int .i64 c,pA z]⟩) (iA 2)=some (.agg ⟨[.int .i64 c,pA z]⟩):=by kernel_rfl
def uK(n:Int)(k:Nat):bw:= .cells [.int .i64 n,pA k] 187 0 true
def OT:bw:= .cells [.int .i64 0,.pointer none] 187 0 true
theorem acz:aA SS.P 187=some (OT,dX):=by kernel_rfl
theorem abP:au SS.P 187=some 2:=by kernel_rfl
theorem NR(k:Nat):af SS.P 187 (.pointer (some ⟨k,0,none⟩)) 0=some (.pointer (some ⟨k,0,none⟩)):=by kernel_rfl
theorem NS(k:Nat):af SS.P 187 (.pointer (some ⟨k,0,none⟩)) 1=some (.pointer (some ⟨k,1,none⟩)):=by kernel_rfl
theorem uK.l0{g:aa}{k:Nat}(h:g.get k=some (uK z n)):ae SS.P 3 g (.pointer (some ⟨k,0,none⟩))=some (.int .i64 z):=aN lp ll h (by simp)
theorem uK.l1{g:aa}{k:Nat}(h:g.get k=some (uK z n)):ae SS.P 186 g (.pointer (some ⟨k,1,none⟩))=some (pA n):=aN ad2 acn h (by simp)
theorem S7{a b c:Value}{t t':TypeId}{i:Value}{h:aa}(e:ae X.P t h a=some v)(g:ae X.P t' h b=some w)(d:ae X.P T h c=some i)(f:Q (.tuple ⟨[v,w,i]⟩) h):di X [(a,some t),(b,some t'),(c,some T)] h Q:=by
 unfold di;simp only[JJ,e,g,d];exact f
section
variable {h:aa}
def ja(k:Nat)(v:Value):cD:=[(k,.cells [v] 27 0 true)]
theorem Wi(w:Wf h){g:aa}{L:List cD}(o:OL h g L){s q:Nat}{v:Value}{G:cD}{x:List Int}(F:L[s]?=some (ja q v))(T:L[s+3]?=some G)(r:dy 3 v (x.map zV) G)(V:x.length<=1000000000)(c:Int):
  ∃(a:Option Addr)(n cc:Nat),ae SS.P 27 (Go.Ab.room g 12) (pA q)=some (.slice a n cc)/\∃(b:Option Addr)(f d:Nat)(u:aY),aE SS.P 27 27 (.slice a n cc) (sA (g.next+8) 1 1) (av (Go.Ab.room g 12) g.next [(8,.cells [.int .i64 c] 3 1 true)])=some (.slice b f d,u)/\eS g L (u.app (av (Go.Ab.room g 12) g.next [(8,.cells [.int .i64 c] 3 1 true)])) (L.set (s+3) [])/\
   ∃C:aY,aj SS.P 27 (pA q) (.slice b f d) (u.app (av (Go.Ab.room g 12) g.next [(8,.cells [.int .i64 c] 3 1 true)]))=some (undef,C)/\∃t,dy 3 (.slice b f d) ((x++[c]).map zV) t/\OL h (C.app (u.app (av (Go.Ab.room g 12) g.next [(8,.cells [.int .i64 c] 3 1 true)]))) ((L.set (s+3) t).set s (ja q (.slice b f d))):=by
 obtain⟨a,cc,rfl⟩:=r.mU;have Q:=(o.grow ((Ok.refl o.ok.wf).room 12)).1;refine⟨a,_,cc,aN cQ gL (Q.get s F) (by simp),?_⟩;obtain⟨H,N,J⟩:=o.LC (n:=12) (j:=8) (by omega) (.cells [.int .i64 c] 3 1 true);generalize av (Go.Ab.room g 12) g.next [(8,.cells [.int .i64 c] 3 1 true)]=E at*;obtain⟨b,f,d,u,S,U,t,A,D,P⟩:=r.snoc cQ rk kX Na w H T (x:= .int .i64 c) rfl J.1 (by rw[iV,lM];omega) (by rw[lM];omega);have O:eS E L (u.app E) (L.set (s+3) []):=λk B m=>by
  have:=P k B m;refine⟨this.1,λI=>this.2 ?_⟩;obtain⟨p,R,rfl⟩:=mem_map.1 I;obtain⟨X,M,y⟩:=List.mem_flatten.1 R;refine mem_keys (List.mem_flatten.2 ⟨X,?_,y⟩);obtain⟨j,l⟩:=getElem?_of_mem M;rw[getElem?_set]at l;by_cases e:s+3=j
  ·rw[if_pos e]at l;split at l
   ·obtain rfl:=oI l;cases y
   ·cases l
  ·rw[if_neg e]at l;exact List.mem_of_getElem? (i:=j) (by rw[getElem?_set,if_neg e];exact l)
 refine⟨b,f,d,u,S,N.trans O,?_⟩;have z:(L.set (s+3) t)[s]?=some (ja q (.slice a (x.map zV).length cc)):=by rw[getElem?_set,if_neg (by omega)];exact F
 obtain⟨K,_⟩:=D.kF w s z (.cells [.slice b f d] 27 0 true);exact⟨_,bC ef (D.get s z) (by simp) (aS ..) (cM ..),t,by rw[map_append];exact A,K⟩
def ae6(e i f:Nat)(c a d:Value)(b h g:cD):List cD:=[ja e c,ja i a,ja f d,b,h,g]
def WS(h:aa)(i k j:Nat)(x y z:List Int)(g:aa):Prop:=∃c a d b f e,OL h g (ae6 i k j c a d b f e)/\dy 3 c (x.map zV) b/\dy 3 a (y.map zV) f/\dy 3 d (z.map zV) e
theorem WS.grow{x y z:List Int}{g a:aa}(s:WS h n i j x y z g)(o:Ok g a):WS h n i j x y z a:=by
 obtain⟨e,b,f,c,l,k,d,r⟩:=s;exact⟨e,b,f,c,l,k,(d.grow o).1,r⟩
def acb(h:aa)(x y z:List Int):VH:=λv g=>Ok h g/\∃(a:Option Addr)(n c:Nat)(j:Option Addr)(i f:Nat)(d:Option Addr)(b e:Nat),v = .tuple ⟨[.slice a n c,.slice j i f,.slice d b e]⟩/\na h g 3 (.slice a n c) (x.map zV)/\na h g 3 (.slice j i f) (y.map zV)/\na h g 3 (.slice d b e) (z.map zV)
def nh(i j:Nat)(c:Int):List Int:=if j<i then opt c []else[]
theorem Kp(w:Wf h){t:Option Addr}{F:List Mv}(K:nL (λk B=>h.get k=some B) t F)(nn:∀m∈F,Qk m)(hl:F.length<=1000000):FW SS 68 [.pointer t] h (acb h (wI F.reverse) (wL F.reverse) (wR F.reverse)):=by
 refine Nd t h _ ⟨_,HR,_,HR,_,HR,?_⟩;obtain⟨M,_⟩:=(OL.nil (Ok.refl w)).push (.cells [nA] 27 0 true);have n1:(h.push (.cells [nA] 27 0 true)).next=h.next+1:=rfl;generalize h.push (.cells [nA] 27 0 true)=g1 at*;obtain⟨o2,_⟩:=M.push (.cells [nA] 27 0 true);generalize g1.push (.cells [nA] 27 0 true)=d at*;obtain⟨o3,_⟩:=o2.push (.cells [nA] 27 0 true);generalize d.push (.cells [nA] 27 0 true)=g3 at*;obtain⟨H,_⟩:=o3.cY 3;generalize h.next=j at*;generalize g1.next=r at*;generalize d.next=l at*;have s0:WS h j r l [] [] [] g3:=⟨nA,nA,nA,[],[],[],H,dy.nil 3,dy.nil 3,dy.nil 3⟩
 clear M o2 o3 H n1;refine uk t j r l (λmz t' g=>∃c I,F=c++I/\nL (λk B=>h.get k=some B) t' I/\WS h j r l (wI c) (wL c) (wR c) g/\mz=I.length) _ (λmz t'=>?_) F.length ⟨[],F,rfl,K,s0,rfl⟩;clear s0 K;intro zz g x6;obtain⟨c,I,rfl,K,s,rfl⟩:=x6;refine⟨_,abn t',ah (λq=>?_) (λq=>?_)⟩
 ·cases K with
  |nil=>cases q
  |@cons k p m I hk K=>
  obtain⟨i0,l0,r0⟩:=nn m (by simp);have y6:c.length+I.length<1000000:=by rw[length_append,length_cons]at hl;omega
  have sR:=s.grow ((Ok.refl (by obtain⟨_,_,_,_,_,_,o,_⟩:=s;exact o.ok.wf)).room 20);generalize Go.Ab.room g 20=g1 at*;have N:∀{g:aa}{x y z:List Int},WS h j r l x y z g->g.get k=some (zp m p):=λ{g} {x y z} s=>by
   obtain⟨_,_,_,_,_,_,o,_⟩:=s;exact o.ok.ext _ _ hk
  refine gj ⟨_,FN _,_,XX _,_,zp.l0 (N sR),_,K2 _ _,gj ⟨_,FN _,_,FL _,_,zp.l1 (N sR),_,K2 _ _,gj ⟨_,FN _,_,FM _,_,zp.l2 (N sR),_,K2 _ _,_,aaL _ _ _ _ _ _,?_⟩⟩⟩;refine um t (some ⟨k,0,none⟩) j r l _ _ _ (λx2 i g=>i<=3/\x2=3-i/\WS h j r l (wI c++nh i 0 m.i) (wL c++nh i 1 m.l) (wR c++nh i 2 m.r) g) _ (λx2 i=>?_) 3 (i:=0) ⟨by omega,rfl,by unfold nh;simpa using sR⟩;clear sR s;intro y7 d x5;obtain⟨hi,rfl,s⟩:=x5;refine ah (λq2=>?_) (λq2=>?_)
  ·have q2:=dT q2;have x1:i=0\/i=1\/i=2:=by omega
   have bI:=dM Mv.i c;have bL:=dM Mv.l c;have bR:=dM Mv.r c;have bI:(wI c).length<=c.length:=bI;have bL:(wL c).length<=c.length:=bL;have bR:(wR c).length<=c.length:=bR;have x4:∃(L:List cD)(n:Int)(A E:Nat)(v:Value)(G:cD)(x:List Int),OL h d L/\L[E]?=some (ja A v)/\L[E+3]?=some G/\dy 3 v (x.map zV) G/\x.length<=1000000000/\bH SS.P 188 (.agg ⟨[.int .i64 m.i,pA j,.int .i64 m.l,pA r,.int .i64 m.r,pA l]⟩) (iA i)=some (.agg ⟨[.int .i64 n,pA A]⟩)/\0<=n/\
     ∀(v':Value)(D:cD)(Y:aa),dy 3 v' ((x++opt n []).map zV) D->OL h Y ((L.set (E+3) D).set E (ja A v'))->WS h j r l (wI c++nh (i+1) 0 m.i) (wL c++nh (i+1) 1 m.l) (wR c++nh (i+1) 2 m.r) Y:=by
    obtain⟨v2,v3,v4,G2,G3,G4,o,R,O,W⟩:=s;rcases x1 with rfl|rfl|rfl
    ·refine⟨_,m.i,j,0,v2,G2,wI c,o,rfl,rfl,(by simpa[nh]using R),(by omega),Yl _ _ _ _ _ _,i0,λv' D Y f o'=>⟨v',v3,v4,D,G3,G4,o',?_,?_,?_⟩⟩
     ·simpa[nh]using f
     ·simpa[nh]using O
     ·simpa[nh]using W
    ·refine⟨_,m.l,r,1,v3,G3,wL c,o,rfl,rfl,(by simpa[nh]using O),(by omega),Ym _ _ _ _ _ _,l0,λv' D Y f o'=>⟨v2,v',v4,G2,D,G4,o',?_,?_,?_⟩⟩
     ·simpa[nh]using R
     ·simpa[nh]using f
     ·simpa[nh]using W
    ·refine⟨_,m.r,l,2,v4,G4,wR c,o,rfl,rfl,(by simpa[nh]using W),(by omega),Yn _ _ _ _ _ _,r0,λv' D Y f o'=>⟨v2,v3,v',G2,G3,D,o',?_,?_,?_⟩⟩
     ·simpa[nh]using R
     ·simpa[nh]using O
     ·simpa[nh]using f
   obtain⟨L,n,A,E,v,G,x,o,h1,h2,x3,y4,x8,y8,fin⟩:=x4;refine⟨_,x8,_,acz,?_⟩;have kb:=aI d OT;have eb:Ok d ((aY.set d.next (uK n A)).app (d.push OT)):=((Ok.refl o.ok.wf).push _).set _ (Nat.le_refl _) (lt_succ_self _) o.ok.wf;have x0:Im ((aY.set d.next (uK n A)).app (d.push OT)) L d.next (uK n A):=o.new (Nat.le_refl _) (by show((d.push _).set _ _).get _=_;rw[aa.aw,if_pos rfl]);have M:=(o.grow eb).1;have st:aj SS.P 187 (pA d.next) (.agg ⟨[.int .i64 n,pA A]⟩) (d.push OT)=some (undef,.set d.next (uK n A)):=du abP rfl kb rfl rfl;refine⟨_,st,?_⟩;generalize (aY.set d.next (uK n A)).app (d.push OT)=g3 at*;refine⟨_,NR _,_,uK.l0 x0.1,ah (λX=>?_) (λX=>?_)⟩
   ·have X:=dT X;obtain⟨oR,cR⟩:=M.grow ((Ok.refl M.ok.wf).room 12);have mR:=cR _ _ x0;obtain⟨a,n1,cc,l1,b,n',c',u,ap,cg,u',y2,D,f,o5⟩:=Wi w M h1 h2 x3 y4 n;have mA:=cg _ _ x0;refine⟨_,NS _,_,uK.l1 mR.1,_,NS _,_,uK.l1 mR.1,gj ⟨a,n1,cc,l1,_,NR _,_,uK.l0 mR.1,_,_,_,tH _,b,n',c',u,ap,gj ⟨u',y2,⟨uK.l1 mA.1,by simp[cZ]⟩,?_⟩⟩⟩;rw[oD (n:=3) (by omega) (by omega)];refine cK (3-(i+1)) (by omega) ⟨by omega,rfl,fin _ D _ ?_ o5⟩;rw[eW (by omega)];exact f
   ·have X:=dF X;rw[oD (n:=3) (by omega) (by omega)];refine cK (3-(i+1)) (by omega) ⟨by omega,rfl,fin v G _ ?_ ?_⟩
    ·have:n=0:=by omega
     rw[this,bN,append_nil];exact x3
    ·have e1:L.set (E+3) G=L:=List.ext_getElem? λp=>by
      rw[getElem?_set];by_cases e:E+3=p
      ·subst e;rw[if_pos rfl,if_pos (List.getElem?_eq_some_iff.1 h2).1,h2]
      ·rw[if_neg e]
     have e2:L.set E (ja A v)=L:=List.ext_getElem? λp=>by
      rw[getElem?_set];by_cases e:E=p
      ·subst e;rw[if_pos rfl,if_pos (List.getElem?_eq_some_iff.1 h1).1,h1]
      ·rw[if_neg e]
     rw[e1,e2];exact M
  ·have q2:=dF q2;have x1:i=3:=by omega
   subst x1;refine gj ⟨_,XY _,_,zp.l3 (N s),?_⟩;refine cK I.length (by simp) ⟨c++[m],I,by simp,K,?_,rfl⟩;have e1:wI (c++[m])=wI c++nh 3 0 m.i:=by rw[Nk];rfl
   have e2:wL (c++[m])=wL c++nh 3 1 m.l:=by rw[CI];rfl
   have e3:wR (c++[m])=wR c++nh 3 2 m.r:=by rw[CJ];rfl
   rw[e1,e2,e3];exact s
 ·cases K with
  |cons hk K=>cases q
  |nil=>
  rw[append_nil]at hl nn;rw[append_nil];obtain⟨v2,v3,v4,G2,G3,G4,o,R,O,W⟩:=s;obtain⟨P,V,rfl⟩:=R.mU;obtain⟨S,U,rfl⟩:=O.mU;obtain⟨T,Q,rfl⟩:=W.mU;have bI:(wI c).length<=c.length:=dM Mv.i c;have bL:(wL c).length<=c.length:=dM Mv.l c;have bR:(wR c).length<=c.length:=dM Mv.r c;refine⟨_,_,_,aN cQ gL (o.get 0 rfl) (by simp),(ue w R o (k:=3) rfl (by omega)).mono ?_⟩;rintro _ d ⟨rfl,x9,x7,o2,_⟩;refine⟨rfl,_,_,_,aN cQ gL (o2.get 1 rfl) (by simp),(ue w O o2 (k:=4) rfl (by omega)).mono ?_⟩;rintro _ g3 ⟨rfl,y5,y1,o3,_⟩;refine⟨rfl,_,_,_,aN cQ gL (o3.get 2 rfl) (by simp),(ue w W o3 (k:=5) rfl (by omega)).mono ?_⟩;rintro _ Z ⟨rfl,y3,y0,H,_⟩;have l2:ae SS.P 27 Z (pA j)=some (.slice P ((wI c).map zV).length V):=aN cQ gL (H.get 0 rfl) (by simp);have l3:ae SS.P 27 Z (pA r)=some (.slice S ((wL c).map zV).length U):=aN cQ gL (H.get 1 rfl) (by simp);have l4:ae SS.P 27 Z (pA l)=some (.slice T ((wR c).map zV).length Q):=aN cQ gL (H.get 2 rfl) (by simp);obtain⟨o5,_⟩:=H.kF w 0 rfl (.cells [.slice P ((wI c).map zV).length V] 27 0 true);have s5:aj SS.P 27 (pA j) (.slice P ((wI c).map zV).length V) Z=some (undef,.set j (.cells [.slice P ((wI c).map zV).length V] 27 0 true)):=bC ef (H.get 0 rfl) (by simp) (aS ..) (cM ..);refine⟨rfl,_,_,_,l2,_,_,_,l3,_,_,_,l4,_,s5,?_⟩;generalize (aY.set j (.cells [.slice P ((wI c).map zV).length V] 27 0 true)).app Z=g5 at*;obtain⟨o6,_⟩:=o5.kF w 1 rfl (.cells [.slice S ((wL c).map zV).length U] 27 0 true);have s6:aj SS.P 27 (pA r) (.slice S ((wL c).map zV).length U) g5=some (undef,.set r (.cells [.slice S ((wL c).map zV).length U] 27 0 true)):=bC ef (o5.get 1 rfl) (by simp) (aS ..) (cM ..);refine⟨_,s6,?_⟩;generalize (aY.set r (.cells [.slice S ((wL c).map zV).length U] 27 0 true)).app g5=g6 at*;obtain⟨C,_⟩:=o6.kF w 2 rfl (.cells [.slice T ((wR c).map zV).length Q] 27 0 true);have s7:aj SS.P 27 (pA l) (.slice T ((wR c).map zV).length Q) g6=some (undef,.set l (.cells [.slice T ((wR c).map zV).length Q] 27 0 true)):=bC ef (o6.get 2 rfl) (by simp) (aS ..) (cM ..);refine⟨_,s7,?_⟩;generalize (aY.set l (.cells [.slice T ((wR c).map zV).length Q] 27 0 true)).app g6=g7 at*;rw[We,Wg,Wh];refine S7 (aN cQ gL (C.get 0 rfl) (by simp)) (aN cQ gL (C.get 1 rfl) (by simp)) (aN cQ gL (C.get 2 rfl) (by simp)) ⟨C.ok,P,_,V,S,_,U,T,_,Q,rfl,⟨x9,x7,λp J=>⟨C.IZ (i:=3) rfl p J,C.PJ (i:=3) rfl p J⟩⟩,⟨y5,y1,λp J=>⟨C.IZ (i:=4) rfl p J,C.PJ (i:=4) rfl p J⟩⟩,⟨y3,y0,λp J=>⟨C.IZ (i:=5) rfl p J,C.PJ (i:=5) rfl p J⟩⟩⟩
end
end
variable{a:Option Addr}
section
theorem XZ(k:Nat):af SS.P 170 (.pointer (some ⟨k,0,none⟩)) 0=some (.pointer (some ⟨k,0,none⟩)):=by kernel_rfl
theorem FO(k:Nat):af SS.P 170 (.pointer (some ⟨k,0,none⟩)) 1=some (.pointer (some ⟨k,3,none⟩)):=by kernel_rfl
theorem qo.l3{m:Mv}(h:g.get k=some (qo m a)):ae SS.P 168 g (.pointer (some ⟨k,3,none⟩))=some (.pointer a):=aN Kk HP h (by simp[rZ])
theorem qo.mv{m:Mv}(h:g.get k=some (qo m a)):ae SS.P 116 g (.pointer (some ⟨k,0,none⟩))=some (.agg ⟨rZ m⟩):=fE aat ZU Vz h (by simp[rZ])
theorem K1(m:Mv)(p:Option Addr):aD SS.P 118 [(0,(.agg ⟨rZ m⟩)),(1,(.pointer p))]=some (.agg ⟨rZ m++[.pointer p]⟩):=by cases p<;>kernel_rfl
theorem K5(m:Mv)(p:Option Addr):dK SS.P 118 (.agg ⟨rZ m++[.pointer p]⟩)=some (zp m p,dX):=by cases p<;>kernel_rfl
def Mr(L:List cD)(a b c:Nat)(x y z:Value):List cD:=((L.set 0 (ja a x)).set 1 (ja b y)).set 2 (ja c z)
def abv(h0 g:aa)(L:List cD)(b c d:Nat)(p:List Mv):VH:=λv a=>∃(x y z:Value),v = .bool (!decide (wL p=wR p))/\OL h0 a (Mr L b c d x y z)/\eS g L a (Mr L b c d x y z)/\sL a (Mr L b c d x y z) 3 x ((wI p).map zV)/\sL a (Mr L b c d x y z) 3 y ((wL p).map zV)/\sL a (Mr L b c d x y z) 3 z ((wR p).map zV)
section
variable {h0:aa}
theorem QE(V:Wf h0){g:aa}{L:List cD}(o:OL h0 g L){i h j:Nat}{v0 v1 v2:Value}(c0:L[0]?=some (ja i v0))(c1:L[1]?=some (ja h v1))(c2:L[2]?=some (ja j v2)){t:Option Addr}{z u:List Mv}{C:Nat}(H:nL (Im g L) t z)(G:Aw (Im g L) C u)(nn:∀m∈z.reverse++u,Qk m)(F:z.length+u.length<=1000000):FW SS 107 [.pointer t,pA C,pA i,pA h,pA j] g (abv h0 g L i h j (z.reverse++u)):=by
 refine QD t (some ⟨C,0,none⟩) i h j g _ ?_;generalize A:z.reverse++u=p at*;refine vW t (some ⟨C,0,none⟩) i h j (λmz t' r' N=>∃I E U,r'=some ⟨U,0,none⟩/\nL (Im N L) t' I/\Aw (Im N L) U E/\I.reverse++E=p/\I.length+E.length<=1000000/\OL h0 N L/\eS g L N L/\mz=E.length) _ (λmz t' r'=>?_) u.length ⟨z,u,C,rfl,H,G,A,F,o,eS.refl _ _,rfl⟩;clear H G A F o z u C t;intro zz g1 X;obtain⟨z,u,C,rfl,H,G,A,F,o,cg,rfl⟩:=X
 cases G with
 |@cons _ k' m u J G=>
  refine gj ⟨_,FO _,_,qo.l3 J.1,_,Ma _,ah (λ_=>?_) (λq=>by cases q)⟩;refine gj ⟨_,XZ _,_,qo.mv J.1,_,K1 _ _,_,K5 _ _,?_⟩;have e:=(Ok.refl o.ok.wf).push (zp m t');have mt:=o.fe (zp m t');have c:=(o.grow e).2;have o1:=(o.grow e).1;generalize g1.push (zp m t')=W at*;refine gj ⟨_,FO _,_,qo.l3 (c _ _ J).1,?_⟩;refine mE u.length (by simp) ⟨m::z,u,k',rfl,.cons mt (H.mono c),G.mono c,?_,by simp only[length_cons]at F⊢;omega,o1,cg.trans c,rfl⟩;rw[<-A];simp
 | nil m J=>
  refine gj ⟨_,FO _,_,qo.l3 J.1,_,Ma _,ah (λq=>by cases q) (λ_=>?_)⟩;rw[append_nil]at A;refine(Kp o.ok.wf (H.mono λk B m=>m.1) (λx hx=>nn x (by rw[<-A];exact List.mem_reverse.2 hx)) (by simpa using F)).mono ?_;rintro _ W ⟨e2,a,n,c,s,r,l,d,b,f,rfl,r1,r2,Y⟩;rw[A]at r1 r2 Y;have y:=r1.im o;have v:=r2.im o;have w:=Y.im o;have x2:=cg.trans (o.grow e2).2;have o2:=(o.grow e2).1;obtain⟨o3,P⟩:=o2.kF V 0 c0 (.cells [.slice a n c] 27 0 true);have s3:aj SS.P 27 (pA i) (.slice a n c) W=some (undef,.set i (.cells [.slice a n c] 27 0 true)):=bC ef (o2.get 0 c0) (by simp) (aS ..) (cM ..);refine⟨_,_,_,_,_,_,_,_,_,rfl,_,s3,?_⟩;have y:=y.cS P;have v:=v.cS P;have w:=w.cS P;have x0:=x2.trans P;generalize (aY.set i (.cells [.slice a n c] 27 0 true)).app W=g3 at*;have S:(L.set 0 [(i,.cells [.slice a n c] 27 0 true)])[1]?=some (ja h v1):=by rw[getElem?_set,if_neg (by omega)];exact c1
  obtain⟨o4,O⟩:=o3.kF V 1 S (.cells [.slice s r l] 27 0 true);have s4:aj SS.P 27 (pA h) (.slice s r l) g3=some (undef,.set h (.cells [.slice s r l] 27 0 true)):=bC ef (o3.get 1 S) (by simp) (aS ..) (cM ..);refine⟨_,s4,?_⟩;have y:=y.cS O;have v:=v.cS O;have w:=w.cS O;have x1:=x0.trans O;generalize (aY.set h (.cells [.slice s r l] 27 0 true)).app g3=g4 at*;have T:((L.set 0 [(i,.cells [.slice a n c] 27 0 true)]).set 1 [(h,.cells [.slice s r l] 27 0 true)])[2]?=some (ja j v2):=by rw[getElem?_set,if_neg (by omega),getElem?_set,if_neg (by omega)];exact c2
  obtain⟨D,R⟩:=o4.kF V 2 T (.cells [.slice d b f] 27 0 true);have s5:aj SS.P 27 (pA j) (.slice d b f) g4=some (undef,.set j (.cells [.slice d b f] 27 0 true)):=bC ef (o4.get 2 T) (by simp) (aS ..) (cM ..);refine⟨_,s5,?_⟩;have y:=y.cS R;have v:=v.cS R;have w:=w.cS R;have M:=x1.trans R;generalize (aY.set j (.cells [.slice d b f] 27 0 true)).app g4=K at*;have D:OL h0 K (Mr L i h j (.slice a n c) (.slice s r l) (.slice d b f)):=D;have M:eS g L K (Mr L i h j (.slice a n c) (.slice s r l) (.slice d b f)):=M;have y:sL K (Mr L i h j (.slice a n c) (.slice s r l) (.slice d b f)) 3 _ _:=y;have v:sL K (Mr L i h j (.slice a n c) (.slice s r l) (.slice d b f)) 3 _ _:=v;have w:sL K (Mr L i h j (.slice a n c) (.slice s r l) (.slice d b f)) 3 _ _:=w;have l1:1<L.length:=(List.getElem?_eq_some_iff.1 c1).1;have l2:2<L.length:=(List.getElem?_eq_some_iff.1 c2).1;have Z:(Mr L i h j (.slice a n c) (.slice s r l) (.slice d b f))[1]?=some (ja h (.slice s r l)):=by
   unfold Mr;rw[getElem?_set,if_neg (by omega),getElem?_set,if_pos rfl,if_pos (by rw[length_set];exact l1)]
  have x3:(Mr L i h j (.slice a n c) (.slice s r l) (.slice d b f))[2]?=some (ja j (.slice d b f)):=by
   unfold Mr;rw[getElem?_set,if_pos rfl,if_pos (by rw[length_set,length_set];exact l2)]
  have x4:(wL p).length<=1000000:=by
   have:(wL p).length<=p.length:=dM Mv.l p;rw[<-A]at this⊢;rw[List.length_reverse]at this;simp at F;omega
  refine⟨_,_,_,aN cQ gL (D.get 1 Z) (by simp),_,_,_,aN cQ gL (D.get 2 x3) (by simp),(xp D.ok.wf v.rd w.rd (by omega)).mono ?_⟩;rintro _ g6 ⟨rfl,e6⟩;have Q:=(D.grow e6).2;exact⟨_,rfl,_,_,_,rfl,(D.grow e6).1,M.trans Q,y.cS Q,v.cS Q,w.cS Q⟩
end
end
noncomputable def Ut:FD:=ei Tryz.f112 []
theorem QK(ov kv:LV)(kn t s v R p y U I:Nat)(h:aa)(Q:VH)(hx:xN (dK SS.P 116 (.agg ⟨ov⟩)) h λB1 g2=>xN (dK SS.P 105 (.agg ⟨kv⟩)) g2 λB3 b=>xV (ae SS.P 163 b (pA kn)) λv5=>xA (ae SS.P 105 b (pA (g2.next))) λc6=>xI .i64 (jF SS.P 163 v5 (.agg ⟨c6⟩) false b) λf=>xB (ae SS.P 4 b (pA t)) λb8=>aQ b8 (Q (.tuple ⟨[]⟩) b) (xL (ae SS.P 166 b (pA s)) λa9 u1 j6=>xP (ai SS.P 166 (.slice a9 u1 j6) (.int .i64 f)) λv1=>xO (ae SS.P 168 b (.pointer (some v1))) λv9=>xB (ay SS.P .eql 168 (.pointer v9) (.pointer none)) λu2=>aQ u2 (Q (.tuple ⟨[]⟩) b) (xL (ae SS.P 172 (room b 12) (pA v)) λy6 y9 y0=>xI .i64 (ae SS.P 3 (room b 12) (pA R)) λz8=>xP (ai SS.P 172 (.slice y6 y9 y0) (.int .i64 z8)) λz9=>xA (ae SS.P 175 (room b 12) (.pointer (some z9))) λu5=>xA (ae SS.P 116 (room b 12) (pA (h.next))) λy1=>FW SS 113 [(.agg ⟨u5⟩),(.agg ⟨y1⟩)] (room b 12) λq0 C=>∃r:LV,∃z:Bool,q0=(.tuple ⟨[(.agg ⟨r⟩),(.bool z)]⟩)/\zN (aA SS.P 175) λD=>xU (aj SS.P 175 (pA (b.next+9)) (.agg ⟨r⟩) (av C b.next [(9,D)])) (av C b.next [(9,D)]) λq4 d=>xA (ae SS.P 116 (room d 8) (pA (h.next))) λw9=>xL (ae SS.P 109 (room d 8) (pA p)) λj5 u8 u3=>xI .i64 (ae SS.P 3 (room d 8) (pA R)) λu0=>xP (ai SS.P 109 (.slice j5 u8 u3) (.int .i64 u0)) λj8=>xO (ae SS.P 112 (room d 8) (.pointer (some j8))) λy3=>xA (aD SS.P 118 [(0,(.agg ⟨w9⟩)),(1,(.pointer y3))]) λz7=>zN (dK SS.P 118 (.agg ⟨z7⟩)) λv0=>abd (av (room d 8) d.next [(6,v0)]) λa=>aQ (!z) (xF (ae SS.P 171 (room a 8) (pA y)) λA w5 z6=>xL (ae SS.P 166 (room a 8) (pA s)) λv6 j7 v2=>xP (ai SS.P 166 (.slice v6 j7 v2) (.int .i64 f)) λw1=>xO (ae SS.P 168 (room a 8) (.pointer (some w1))) λw6=>aQ (Nat.blt A YB) (FW SS A (w5++[(pA (d.next+6)),(.pointer w6)]++z6) (room a 8) λz5 F=>yB z5 λu7=>xU (aj SS.P 4 (pA t) (.bool u7) F) F λq6 v7=>Q (.tuple ⟨[]⟩) v7) False) (xL (ae SS.P 68 a (pA U)) λw0 y2 j3=>xP (ai SS.P 68 (.slice w0 y2 j3) (.int .i64 f)) λv3=>xB (ae SS.P 4 a (.pointer (some v3))) λj1=>aQ (!j1) (xL (ae SS.P 68 (room a 14) (pA U)) λw4 y8 w7=>xL (ae SS.P 172 (room a 14) (pA v)) λl n m=>xL (ae SS.P 109 (room a 14) (pA p)) λi e g=>xA (ae SS.P 175 (room a 14) (pA (b.next+9))) λo=>xP (ai SS.P 68 (.slice w4 y8 w7) (.int .i64 f)) λw2=>xU (aj SS.P 4 (.pointer (some w2)) (.bool true) (room a 14)) (room a 14) λq5 k=>xP (ai SS.P 172 (.slice l n m) (.int .i64 f)) λu9=>xU (aj SS.P 175 (.pointer (some u9)) (.agg ⟨o⟩) k) k λX0 x=>xP (ai SS.P 109 (.slice i e g) (.int .i64 f)) λz4=>xU (aj SS.P 112 (.pointer (some z4)) (pA (d.next+6)) x) x λq9 q=>(ae SS.P 172 k (pA v)=some (.slice l n m)/\cZ 4 (.slice l n m) (.slice l n m)=true)/\(ae SS.P 109 k (pA p)=some (.slice i e g)/\cZ 4 (.slice i e g) (.slice i e g)=true)/\(ae SS.P 109 x (pA p)=some (.slice i e g)/\cZ 4 (.slice i e g) (.slice i e g)=true)/\(ae SS.P 175 k (pA (b.next+9))=some (.agg ⟨o⟩)/\cZ 4 (.agg ⟨o⟩) (.agg ⟨o⟩)=true)/\xL (ae SS.P 27 q (pA I)) λy7 v8 j4=>xR (az SS.P 27 1 [(0,(.int .i64 f))]) q λq8 v4 y4 G=>xE (aE SS.P 27 27 (.slice y7 v8 j4) (sA (q.next) v4 y4) G) G λj9 j0 u6 q3 E=>xU (aj SS.P 27 (pA I) (.slice j9 j0 u6) E) E λq7 y5=>Q (.tuple ⟨[]⟩) y5) (xA (ae SS.P 175 (room a 8) (pA (b.next+9))) λz1=>xL (ae SS.P 172 (room a 8) (pA v)) λj2 w3 z2=>xP (ai SS.P 172 (.slice j2 w3 z2) (.int .i64 f)) λw8=>xA (ae SS.P 175 (room a 8) (.pointer (some w8))) λz0=>FW SS 110 [(.agg ⟨z1⟩),(.agg ⟨z0⟩)] (room a 8) λz3 j=>yB z3 λu4=>aQ (!u4) (xF (ae SS.P 171 (room j 20) (pA y)) λB T O=>xL (ae SS.P 166 (room j 20) (pA s)) λV x8 S=>xP (ai SS.P 166 (.slice V x8 S) (.int .i64 f)) λY=>xO (ae SS.P 168 (room j 20) (.pointer (some Y))) λJ=>aQ (Nat.blt B YB) (FW SS B (T++[(pA (d.next+6)),(.pointer J)]++O) (room j 20) λW c=>yB W λx9=>aQ x9 (xU (aj SS.P 4 (pA t) (.bool true) c) c λq2 H=>Q (.tuple ⟨[]⟩) H) (xF (ae SS.P 171 c (pA y)) λu X x6=>xL (ae SS.P 109 c (pA p)) λx1 Z x2=>xP (ai SS.P 109 (.slice x1 Z x2) (.int .i64 f)) λx5=>xO (ae SS.P 112 c (.pointer (some x5))) λx0=>xL (ae SS.P 166 c (pA s)) λK x3 x7=>xP (ai SS.P 166 (.slice K x3 x7) (.int .i64 f)) λx4=>xO (ae SS.P 168 c (.pointer (some x4))) λL=>aQ (Nat.blt u YB) (FW SS u (X++[(.pointer x0),(.pointer L)]++x6) c λN w=>yB N λM=>xU (aj SS.P 4 (pA t) (.bool M) w) w λq1 P=>Q (.tuple ⟨[]⟩) P) False)) False) (Q (.tuple ⟨[]⟩) j)))))):FW SS 112 [(.agg ⟨ov⟩),(.agg ⟨kv⟩),(pA kn),(pA t),(pA s),(pA v),(pA R),(pA p),(pA y),(pA U),(pA I)] h Q:=eu Ut Tryz.func112 (ax hx)
variable{M:aH}{b:Bool}
section
theorem YX:SS.P.underlying 172=some (.slice 175):=by kernel_rfl
theorem aam:Go.Ab.isAgg SS.P 172=false:=by kernel_rfl
theorem xT:SS.P.underlying 109=some (.slice 112):=by kernel_rfl
theorem JC:Go.Ab.isAgg SS.P 109=false:=by kernel_rfl
theorem Cf:au SS.P 112=some 1:=by kernel_rfl
theorem q68:SS.P.underlying 68=some (.slice 4):=by kernel_rfl
theorem adz:Go.Ab.isAgg SS.P 68=false:=by kernel_rfl
theorem q4:SS.P.underlying 4=some .bool:=by kernel_rfl
theorem q4a:Go.Ab.isAgg SS.P 4=false:=by kernel_rfl
theorem q4s:au SS.P 4=some 1:=by kernel_rfl
noncomputable def ady:TypeDesc:=(SS.P.underlying 171).getD .bool
theorem aeK:SS.P.underlying 171=some ady:=by kernel_rfl
theorem adx:Go.Ab.isAgg SS.P 171=false:=by kernel_rfl
theorem iO(g:Good M){s:Nat}{a:cq}(h:a∈bD M s):HA M.ak.length a:=by
 by_cases c:s<M.ak.length
 ·obtain⟨x,_,e,_,b⟩:=jB c;rw[e]at h;exact g.an x b a h
 ·unfold bD at h;rw[gD,getElem?_eq_none (by omega)]at h
  cases h
theorem Vu{B:aH}(c:Good M)(d:Good B){k f:NN}{m:Mv}(s:DQ M B k m f):Qk m:=by
 cases s with
 |left a h0=>exact⟨Int.le_refl _,(iO c a).o0,Int.le_refl _⟩
 |right b h0=>exact⟨Int.le_refl _,Int.le_refl _,(iO d b).o0⟩
 |both a b h0 e=>exact⟨(iO c a).i0,(iO c a).o0,(iO d b).o0⟩
theorem adw{B:aH}(f:Good M)(d:Good B){k c:NN}{b:List Mv}(r:PR M B k b c):∀m∈b,Qk m:=by
 induction r with
 |nil=>intro m a;cases a
 |cons h r e=>
  intro m a;rcases mem_cons.1 a with rfl|a
  ·exact Vu f d h
  ·exact e m a
theorem uX:∀{y z:List Int}{d:sK},iu y z=some d->d.1.length<=y.length/\d.2.length<=z.length
 |[],z,d,h=>by obtain rfl:=oI h;exact⟨Nat.le_refl _,Nat.le_refl _⟩
 |a::y,[],d,h=>by obtain rfl:=oI h;exact⟨Nat.le_refl _,Nat.le_refl _⟩
 |a::y,b::z,d,h=>by
  rw[iu]at h;split at h
  ·obtain⟨c,e⟩:=uX h;exact⟨Nat.le_succ_of_le c,Nat.le_succ_of_le e⟩
  ·cases h
def ng(ds:List Value)(k:Nat)(a b:Value):List Value:=(ds.set (2*k) a).set (2*k+1) b
theorem Zj{ds:List Value}{a b x y:Value}(f:2*k+1<ds.length)(c:ds[2*j]?=some x)(d:ds[2*j+1]?=some y)(e:j≠k):(ng ds k a b)[2*j]?=some x/\(ng ds k a b)[2*j+1]?=some y:=by
 unfold ng;rw[getElem?_set,if_neg (by omega),getElem?_set,if_neg (by omega),getElem?_set,if_neg (by omega),getElem?_set,if_neg (by omega)];exact⟨c,d⟩
theorem yg{ds:List Value}{a b:Value}(c:2*k+1<ds.length):(ng ds k a b)[2*k]?=some a/\(ng ds k a b)[2*k+1]?=some b:=by
 unfold ng;constructor
 ·rw[getElem?_set,if_neg (by omega),getElem?_set,if_pos rfl,if_pos (by omega)]
 ·rw[getElem?_set,if_pos rfl,if_pos (by rw[length_set];exact c)]
theorem Yf{n c:Nat}(h:i<n):ai SS.P 172 (sA k n c) (.int .i64 (i:Int))=some (.pointer (some ⟨k,2*i,none⟩)):=by
 rw[F0 YX uj (by omega) (by omega)];rw[toNat_natCast,zero_add,Nat.mul_comm]
theorem ld2{g:aa}{ds:List Value}{x y:Value}{e:TypeId}{z:Nat}(d:g.get k=some (.cells ds e z b))(c:ds[2*i]?=some x)(a:ds[2*i+1]?=some y):ae SS.P 175 g (.pointer (some ⟨k,2*i,none⟩))=some (.agg ⟨[x,y]⟩):=by
 have f:=(List.getElem?_eq_some_iff.1 a).1;rw[fE aau ZV uj d (by omega)];have e:(ds.drop (2*i)).take 2=[x,y]:=by
  refine List.ext_getElem? λj=>?_;rw[List.getElem?_take]
  match j with
  |0=>rw[if_pos (by omega),List.getElem?_drop];exact c
  |1=>rw[if_pos (by omega),List.getElem?_drop];exact a
  |j+2=>rw[if_neg (by omega)];rfl
 rw[e]
theorem ae3{g:aa}{ds:List Value}{x y:Value}{e:TypeId}{z:Nat}(q:g.get k=some (.cells ds e z true))(c:2*i+1<ds.length)(l:bc x=true)(r:bc y=true):aj SS.P 175 (.pointer (some ⟨k,2*i,none⟩)) (.agg ⟨[x,y]⟩) g=some (undef,.set k (.cells (ng ds i x y) e z true)):=by
 have d:ds.take (2*i)++[x,y]++ds.drop (2*i+2)=ng ds i x y:=by
  refine List.ext_getElem? λj=>?_;by_cases m:j<2*i
  ·unfold ng;rw[append_assoc,List.getElem?_append_left (by rw[length_take];omega),List.getElem?_take,if_pos m,getElem?_set,if_neg (by omega),getElem?_set,if_neg (by omega)]
  ·have h:(ds.take (2*i)).length=2*i:=by rw[length_take];omega
   rw[append_assoc,List.getElem?_append_right (by omega),h];by_cases o:j=2*i
   ·subst o;rw[(yg (a:=x) (b:=y) c).1,Nat.sub_self];rfl
   ·by_cases f:j=2*i+1
    ·subst f;rw[(yg (a:=x) (b:=y) c).2,show 2*i+1-2*i=1 by omega];rfl
    ·rw[List.getElem?_append_right (by show 2<=_;omega),List.getElem?_drop];unfold ng;rw[getElem?_set,if_neg (by omega),getElem?_set,if_neg (by omega)];congr 1;show 2*i+2+(j-2*i-2)=j;omega
 unfold aj;dsimp only;have p:(Value.agg ⟨[x,y]⟩).cells.size=2:=rfl;have n:(Value.agg ⟨[x,y]⟩).cells.toList=[x,y]:=rfl;rw[if_pos (by rw[p];exact uj)];unfold storeAt;rw[q,n];dsimp only;rw[if_pos ⟨by rw[length_cons,length_cons,List.length_nil];omega,by simp[l,r]⟩];show some (undef,aY.set k (.cells (ds.take (2*i)++[x,y]++ds.drop (2*i+2)) e z true))=_;rw[d]
abbrev uw:=List (Option (List Mv×sK))
structure yE(g:aa)(L:List cD)(n:Nat)(tr:uw)(ts ds ks:List Value):Prop where
 lt:tr.length=n
 lts:ts.length=n
 KB:ds.length=2*n
 lks:ks.length=n
 kn:∀(k:Nat)(v:Option (List Mv×sK)),tr[k]?=some v->ks[k]?=some (.bool v.isSome)
 row:∀(k:Nat)(ms:List Mv)(d:sK),tr[k]?=some (some (ms,d))->∃(p:Option Addr)(dl dr:Value),ts[k]?=some (.pointer p)/\nL (Im g L) p ms.reverse/\ds[2*k]?=some dl/\ds[2*k+1]?=some dr/\sL g L 3 dl (d.1.map zV)/\sL g L 3 dr (d.2.map zV)
theorem yE.cS{g g':aa}{L a:List cD}{n:Nat}{tr:uw}{ts ds ks:List Value}(r:yE g L n tr ts ds ks)(c:eS g L g' a):yE g' a n tr ts ds ks:=⟨r.lt,r.lts,r.KB,r.lks,r.kn,λk b d h=>by
 obtain⟨p,i,o,f,j,e,l,q,m⟩:=r.row k b d h;exact⟨p,i,o,f,j.mono c,e,l,q.cS c,m.cS c⟩⟩
theorem yE.set{g:aa}{L:List cD}{n:Nat}{tr:uw}{ts ds ks:List Value}(r:yE g L n tr ts ds ks){k:Nat}(G:k<n){q:List Mv}{d:sK}{p:Option Addr}{f i:Value}(A:nL (Im g L) p q.reverse)(x:sL g L 3 f (d.1.map zV))(w:sL g L 3 i (d.2.map zV)):yE g L n (tr.set k (some (q,d))) (ts.set k (.pointer p)) (ng ds k f i) (ks.set k (.bool true)):=by
 refine⟨by rw[length_set];exact r.lt,by rw[length_set];exact r.lts,by unfold ng;rw[length_set,length_set];exact r.KB,by rw[length_set];exact r.lks,λj v c=>?_,λj s C c=>?_⟩
 ·rw[getElem?_set]at c⊢;by_cases e:k=j
  ·rw[if_pos e]at c⊢;rw[if_pos (by rw[r.lks];omega)];split at c
   ·obtain rfl:=oI c;rfl
   ·cases c
  ·rw[if_neg e]at c⊢;exact r.kn j v c
 ·have t:2*k+1<ds.length:=by rw[r.KB];omega
  rw[getElem?_set]at c;by_cases e:k=j
  ·subst e;rw[if_pos rfl]at c;split at c
   ·have:=oI (oI c);injection this with y H
    subst y;subst H;obtain⟨m,l⟩:=yg (a:=f) (b:=i) t;exact⟨p,f,i,by rw[getElem?_set,if_pos rfl,if_pos (by rw[r.lts];exact G)],A,m,l,x,w⟩
   ·cases c
  ·rw[if_neg e]at c;obtain⟨z,u,o,D,E,B,F,J,I⟩:=r.row j s C c;obtain⟨m,l⟩:=Zj (a:=f) (b:=i) t B F (λh=>e h.symm);exact⟨z,u,o,by rw[getElem?_set,if_neg e];exact D,E,m,l,J,I⟩
structure KS where
 k1:Nat
 k2:Nat
 k3:Nat
 k4:Nat
 k5:Nat
 k7:Nat
 k8:Nat
 k9:Nat
 WA:Nat
 ix:Nat
 WB:Nat
 Ge:Nat
 kt:Nat
 kd:Nat
 kk:Nat
 km:Nat
 ko:Nat
def sk(K:KS)(x y z:Value)(f:Bool)(ts ds ks:List Value)(tv:Value)(Gq:cD):List cD:=[ja K.k2 x,ja K.k3 y,ja K.k4 z,[(K.k5,.cells [.bool f] 4 0 true)],[(K.kt,.cells ts 112 1 true)],[(K.kd,.cells ds 175 2 true)],[(K.kk,.cells ks 4 1 true)],ja K.Ge tv,Gq]
structure DC(K:KS)(T:eB)(ord:List NN)(outs:List (Option Nat))(n:Nat)(g:aa)(L:List cD):Prop where
 m1:Im g L K.k1 (kc T)
 m7:Im g L K.k7 (.cells [.map (some K.km)] 163 0 true)
 mm:Im g L K.km (.map (jo ord 0))
 m8:Im g L K.k8 (.cells [sA K.ko n n] 166 0 true)
 mo:Im g L K.ko (.cells (outs.map Dz) 168 1 true)
 m9:Im g L K.k9 (.cells [.func (.func 107) ⟨[]⟩ ⟨[pA K.k2,pA K.k3,pA K.k4]⟩] 171 0 true)
 m10:Im g L K.WA (.cells [sA K.kt n n] 109 0 true)
 m11:Im g L K.ix (.cells [sA K.kd n n] 172 0 true)
 m12:Im g L K.WB (.cells [sA K.kk n n] 68 0 true)
 lo:outs.length=n
 ok:pX (Im g L) T.A T.B ord outs
theorem DC.cS{K:KS}{T:eB}{ord:List NN}{outs:List (Option Nat)}{n:Nat}{g g':aa}{L a:List cD}(s:DC K T ord outs n g L)(c:eS g L g' a):DC K T ord outs n g' a:=⟨c _ _ s.m1,c _ _ s.m7,c _ _ s.mm,c _ _ s.m8,c _ _ s.mo,c _ _ s.m9,c _ _ s.m10,c _ _ s.m11,c _ _ s.m12,s.lo,s.ok.mono c⟩
def WL(A B:aH)(g:aa)(L:List cD)(x y z:Value):Prop:=∃p e,PR A B (sI A B) p e/\lI A B e/\wL p≠wR p/\p.length<=1000000/\sL g L 3 x ((wI p).map zV)/\sL g L 3 y ((wL p).map zV)/\sL g L 3 z ((wR p).map zV)
theorem WL.cS{B:aH}{g g':aa}{L a:List cD}{x y z:Value}(w:WL M B g L x y z)(c:eS g L g' a):WL M B g' a x y z:=by
 obtain⟨p,e,d,f,b,i,k,j,h⟩:=w;exact⟨p,e,d,f,b,i,k.cS c,j.cS c,h.cS c⟩
def Tx(tr:uw)(k:Nat):Prop:=∃v,tr[k]?=some (some v)
def WK(A B:aH)(ord:List NN)(tr:uw):Prop:=∀(k:Nat)(a:List Mv)(d:sK),tr[k]?=some (some (a,d))->∃x,ord[k]?=some x/\PR A B (sI A B) a x/\iu (wL a) (wR a)=some d/\a.length+cY tr<=tr.length
def HM(A B:aH)(ord:List NN)(tr:uw)(d:sK)(w:Mv×NN):Prop:=Co A B w.2->∃(k:Nat)(b:sK)(a:List Mv),nc ord w.2=some k/\zF d w.1=some b/\tr[k]?=some (some (a,b))
def qi(tr a:uw):Prop:=∀(k:Nat)(v:List Mv×sK),tr[k]?=some (some v)->a[k]?=some (some v)
theorem qi.set{tr:uw}(h:tr[k]?=some none)(v:List Mv×sK):qi tr (tr.set k (some v)):=λj w a=>by
 rw[getElem?_set];by_cases e:k=j
 ·subst e;rw[h]at a;cases a
 ·rw[if_neg e];exact a
theorem HM.ext{B:aH}{ord:List NN}{tr a:uw}{d:sK}{w:Mv×NN}(s:HM M B ord tr d w)(e:qi tr a):HM M B ord a d w:=λc=>by
 obtain⟨k,g,b,h,i,f⟩:=s c;exact⟨k,g,b,h,i,e _ _ f⟩
def As(A B:aH)(ord:List NN)(tr:uw)(k:Nat):Prop:=∀(b:List Mv)(d:sK)(x:NN),tr[k]?=some (some (b,d))->ord[k]?=some x->(lI A B x->d=([],[]))/\∀m a,DQ A B x m a->HM A B ord tr d (m,a)
theorem As.ext{B:aH}{ord:List NN}{tr c:uw}(h:As M B ord tr k)(o:Tx tr k)(e:qi tr c):As M B ord c k:=λg d x l n=>by
 obtain⟨v,f⟩:=o;have j:=e _ _ f;have:v=(g,d):=oI (oI (j.symm.trans l));subst this;obtain⟨a,b⟩:=h g d x f n;exact⟨a,λm i s=>(b m i s).ext e⟩
theorem qi.refl(tr:uw):qi tr tr:=λ_ _ h=>h
theorem qi.trans{a b c:uw}(h:qi a b)(d:qi b c):qi a c:=λk v x=>d k v (h k v x)
structure VC(h0:aa)(K:KS)(T:eB)(ord:List NN)(outs:List (Option Nat))(n:Nat)(tr:uw)(x y z:Value)(f:Bool)(ts ds ks:List Value)(todo:List Nat)(tv:Value)(Gq:cD)(g:aa)(L:List cD):Prop where
 e:L=sk K x y z f ts ds ks tv Gq
 o:OL h0 g L
 dc:DC K T ord outs n g L
 row:yE g L n tr ts ds ks
 RP:WK T.A T.B ord tr
 td:dy 3 tv (todo.map iv) Gq
 bd:todo.length+cY tr<=n
section
variable {h0:aa} {K:KS} {T:eB} {ord:List NN} {outs:List (Option Nat)} {n:Nat} {tr:uw} {x y z:Value} {f:Bool} {ts ds ks:List Value} {todo:List Nat} {tv:Value} {Gq:cD} {g g':aa} {L:List cD}
theorem VC.grow(c:VC h0 K T ord outs n tr x y z f ts ds ks todo tv Gq g L)(o:Ok g g'):VC h0 K T ord outs n tr x y z f ts ds ks todo tv Gq g' L/\eS g L g' L:=by
 obtain⟨b,a⟩:=c.o.grow o;exact⟨⟨c.e,b,c.dc.cS a,c.row.cS a,c.RP,c.td,c.bd⟩,a⟩
variable (vcx:VC h0 K T ord outs n tr x y z f ts ds ks todo tv Gq g L)
include vcx
theorem VC.Ef:ae SS.P 4 g (pA K.k5)=some (.bool f):=by
 have a:L[3]?=some [(K.k5,.cells [.bool f] 4 0 true)]:=by rw[vcx.e];rfl
 exact aN q4 q4a (vcx.o.get 3 a) (by simp)
theorem VC.num:ae SS.P 163 g (pA K.k7)=some (.map (some K.km)):=vcx.dc.m7.ld oq qD
theorem VC.rst:ae SS.P 166 g (pA K.k8)=some (sA K.ko n n):=vcx.dc.m8.ld ib uO
theorem VC.prv:ae SS.P 171 g (pA K.k9)=some (.func (.func 107) ⟨[]⟩ ⟨[pA K.k2,pA K.k3,pA K.k4]⟩):=vcx.dc.m9.ld aeK adx
theorem VC.trl:ae SS.P 109 g (pA K.WA)=some (sA K.kt n n):=vcx.dc.m10.ld xT JC
theorem VC.dly:ae SS.P 172 g (pA K.ix)=some (sA K.kd n n):=vcx.dc.m11.ld YX aam
theorem VC.knw:ae SS.P 68 g (pA K.WB)=some (sA K.kk n n):=vcx.dc.m12.ld q68 adz
theorem VC.out{t:Nat}{o:Option Nat}(h:outs[t]?=some o):ae SS.P 168 g (.pointer (some ⟨K.ko,t,none⟩))=some (Dz o):=by
 rw[aN Kk HP vcx.dc.mo.1 (by rw[lM];exact(List.getElem?_eq_some_iff.1 h).1),gD,getElem?_map,h];rfl
theorem VC.adf{t:Nat}{v:Option (List Mv×sK)}(h:tr[t]?=some v):ae SS.P 4 g (.pointer (some ⟨K.kk,t,none⟩))=some (.bool v.isSome):=by
 have a:=vcx.row.kn t v h;rw[aN q4 q4a (vcx.o.get 6 (by rw[vcx.e];rfl)) (List.getElem?_eq_some_iff.1 a).1,gD,a];rfl
theorem VC.ways{t:Nat}{f:List Mv}{d:sK}(h:tr[t]?=some (some (f,d))):∃(p:Option Addr)(a:Option Addr)(m c:Nat)(b:Option Addr)(n i:Nat),ae SS.P 112 g (.pointer (some ⟨K.kt,t,none⟩))=some (.pointer p)/\nL (Im g L) p f.reverse/\ae SS.P 175 g (.pointer (some ⟨K.kd,2*t,none⟩))=some (.agg ⟨[.slice a m c,.slice b n i]⟩)/\sL g L 3 (.slice a m c) (d.1.map zV)/\sL g L 3 (.slice b n i) (d.2.map zV):=by
 obtain⟨p,z,A,l,u,s,v,y,w⟩:=vcx.row.row t f d h;obtain⟨G,j,o⟩:=y;obtain⟨x,k,r⟩:=w;obtain⟨a,e,rfl⟩:=j.mU;obtain⟨b,q,rfl⟩:=k.mU;refine⟨p,a,_,e,b,_,q,?_,u,ld2 (vcx.o.get 5 (by rw[vcx.e];rfl)) s v,⟨G,j,o⟩,⟨x,k,r⟩⟩;rw[aN OP Nz (vcx.o.get 4 (by rw[vcx.e];rfl)) (List.getElem?_eq_some_iff.1 l).1,gD,l];rfl
theorem VC.found(h:Wf h0)(b:Bool):∃u:aY,aj SS.P 4 (pA K.k5) (.bool b) g=some (undef,u)/\VC h0 K T ord outs n tr x y z b ts ds ks todo tv Gq (u.app g) (sk K x y z b ts ds ks tv Gq)/\eS g L (u.app g) (sk K x y z b ts ds ks tv Gq):=by
 have d:L[3]?=some [(K.k5,.cells [.bool f] 4 0 true)]:=by rw[vcx.e];rfl
 obtain⟨c,a⟩:=vcx.o.kF h 3 d (.cells [.bool b] 4 0 true);have e:L.set 3 [(K.k5,.cells [.bool b] 4 0 true)]=sk K x y z b ts ds ks tv Gq:=by rw[vcx.e];rfl
 rw[e]at c a;exact⟨_,bC q4s (vcx.o.get 3 d) (by simp) rfl rfl,⟨rfl,c,vcx.dc.cS a,vcx.row.cS a,vcx.RP,vcx.td,vcx.bd⟩,a⟩
theorem VC.prove(u:Wf h0)(H:Good T.A)(B:Good T.B){t:Option Addr}{h d:List Mv}{r:Nat}{k e:NN}(w:nL (Im g L) t h.reverse)(C:Aw (Im g L) r d)(A:PR T.A T.B (sI T.A T.B) h k)(D:PR T.A T.B k d e)(E:lI T.A T.B e)(q:h.length+d.length<=1000000):
  FW SS 107 [.pointer t,pA r,pA K.k2,pA K.k3,pA K.k4] g (λv g'=>v = .bool (!decide (wL (h++d)=wR (h++d)))/\∃c a b,VC h0 K T ord outs n tr c a b f ts ds ks todo tv Gq g' (sk K c a b f ts ds ks tv Gq)/\eS g L g' (sk K c a b f ts ds ks tv Gq)/\(wL (h++d)≠wR (h++d)->WL T.A T.B g' (sk K c a b f ts ds ks tv Gq) c a b)):=by
 have p:=A.app D;have G:=adw H B p;have F:=QE u vcx.o (v0:=x) (v1:=y) (v2:=z) (by rw[vcx.e];rfl) (by rw[vcx.e];rfl) (by rw[vcx.e];rfl) w C (by rw[List.reverse_reverse];exact G) (by rw[List.length_reverse];exact q);refine F.mono ?_;rintro _ I ⟨c,a,b,rfl,o,i,j,l,m⟩;have e:Mr L K.k2 K.k3 K.k4 c a b=sk K c a b f ts ds ks tv Gq:=by rw[vcx.e];rfl
 rw[e]at o i j l m;rw[List.reverse_reverse]at j l m⊢;exact⟨rfl,c,a,b,⟨rfl,o,vcx.dc.cS i,vcx.row.cS i,vcx.RP,vcx.td,vcx.bd⟩,i,λs=>⟨_,_,p,E,s,by rw[length_append];exact q,j,l,m⟩⟩
end
end
variable{m:Nat}{h:aa}
section
theorem ZE{n c:Nat}{b:Option Addr}{d:Nat}(g:cZ 4 (.slice a n c) (.slice a n c)=true)(h:cZ 4 (.slice b m d) (.slice b m d)=true):cZ 4 (.agg ⟨[.slice a n c,.slice b m d]⟩) (.agg ⟨[.slice a n c,.slice b m d]⟩)=true:=by
 rcases a with _|⟨k,o,_|s⟩<;>rcases b with _|⟨e,i,_|f⟩<;>simp_all[cZ,yN]
theorem QP(p:Option Addr):bc (.pointer p)=true:=by cases p<;>rfl
theorem Mp(p:Option Addr):(Value.pointer p).cells = #[.pointer p]:=by cases p<;>rfl
theorem na.set{g:aa}{n:Nat}(k:j<n){e:TypeId}{v:Value}{a:List Value}(r:na (room g n) h e v a)(B f:bw):na g ((h.set (g.next+j) B).set (g.next+j) f) e v a:=by
 obtain⟨G,d,b⟩:=r;refine⟨G,d,λp c=>?_⟩;have i:g.next+n<=p.1:=(b p c).1;refine⟨by omega,?_⟩;rw[aa.aw,if_neg (by omega),aa.aw,if_neg (by omega)];exact(b p c).2
theorem WK.put{B:aH}{ord:List NN}{tr:uw}(s:WK M B ord tr){t:Nat}(h0:tr[t]?=some none){b:List Mv}{d:sK}{x:NN}(i:ord[t]?=some x)(r:PR M B (sI M B) b x)(o:iu (wL b) (wR b)=some d)(q:b.length+cY tr<=tr.length+1):WK M B ord (tr.set t (some (b,d))):=λk c h a=>by
 have p:=iT (b,d) h0;rw[getElem?_set]at a;by_cases e:t=k
 ·subst e;rw[if_pos rfl]at a;split at a
  ·have:=oI (oI a);injection this with f n
   subst f;subst n;exact⟨x,i,r,o,by rw[length_set];omega⟩
  ·cases a
 ·rw[if_neg e]at a;obtain⟨l,j,m,g,u⟩:=s k c h a;exact⟨l,j,m,g,by rw[length_set];omega⟩
def VD(h0:aa)(K:KS)(T:eB)(ord:List NN)(outs:List (Option Nat))(n:Nat)(tr0:uw)(xi:NN)(i ki N:Nat)(pre:List (Mv×NN))(d:sK)(g:aa)(L:List cD):Prop:=
 ∃(tr:uw)(x y z:Value)(f:Bool)(ts ds ks:List Value)(todo:List Nat)(tv:Value)(Gq:cD),VC h0 K T ord outs n tr x y z f ts ds ks todo tv Gq g L/\Im g L ki (.cells [iA i] 3 0 true)/\qi tr0 tr/\((∀k,Tx tr k->k∈todo\/k=i\/As T.A T.B ord tr k)/\∀k∈todo,Tx tr k)/\2*cY tr+todo.length<=N/\((f=true/\WL T.A T.B g L x y z)\/(f=false/\(lI T.A T.B xi->d=([],[]))/\∀w∈pre,HM T.A T.B ord tr d w))
theorem Tx.ext{tr a:uw}(h:Tx tr k)(e:qi tr a):Tx a k:=by
 obtain⟨v,b⟩:=h;exact⟨v,e _ _ b⟩
section
variable {h0:aa} {K:KS} {T:eB} {ord:List NN} {outs:List (Option Nat)} {n:Nat} {tr0:uw} {xi:NN} {i ki N:Nat} {pre:List (Mv×NN)} {d:sK} {g g':aa} {L:List cD}
theorem VD.ol(v:VD h0 K T ord outs n tr0 xi i ki N pre d g L):OL h0 g L:=by
 obtain⟨tr,x,y,z,f,ts,ds,ks,todo,tv,Gq,c,_⟩:=v;exact c.o
theorem VD.grow(v:VD h0 K T ord outs n tr0 xi i ki N pre d g L)(o:Ok g g'):VD h0 K T ord outs n tr0 xi i ki N pre d g' L:=by
 obtain⟨tr,x,y,z,f,ts,ds,ks,todo,tv,Gq,c,e,j,b,l,m⟩:=v;obtain⟨k,a⟩:=c.grow o;exact⟨tr,x,y,z,f,ts,ds,ks,todo,tv,Gq,k,a _ _ e,j,b,l,m.imp (λh=>⟨h.1,h.2.cS a⟩) id⟩
variable {tr:uw} {x y z:Value} {f:Bool} {ts ds ks:List Value} {todo:List Nat} {tv:Value} {Gq:cD}
theorem VC.put(D:Wf h0)(c:VC h0 K T ord outs n tr x y z f ts ds ks todo tv Gq g L){t:Nat}(H:tr[t]?=some none){i:List Mv}{d:sK}{P:NN}(hx:ord[t]?=some P)(r:PR T.A T.B (sI T.A T.B) i P)(hd:iu (wL i) (wR i)=some d)(hl:i.length+cY tr<=tr.length+1){p:Option Addr}(Z:nL (Im g L) p i.reverse){a b:Value}(sl:bc a=true)(sr:bc b=true)(X:sL g L 3 a (d.1.map zV))(W:sL g L 3 b (d.2.map zV)):
  ∃j:aY,aj SS.P 4 (.pointer (some ⟨K.kk,t,none⟩)) (.bool true) g=some (undef,j)/\∃l:aY,aj SS.P 175 (.pointer (some ⟨K.kd,2*t,none⟩)) (.agg ⟨[a,b]⟩) (j.app g)=some (undef,l)/\∃G:aY,aj SS.P 112 (.pointer (some ⟨K.kt,t,none⟩)) (.pointer p) (l.app (j.app g))=some (undef,G)/\
   (∃L1,eS g L (j.app g) L1)/\(∃L2,eS g L (l.app (j.app g)) L2)/\
   VC h0 K T ord outs n (tr.set t (some (i,d))) x y z f (ts.set t (.pointer p)) (ng ds t a b) (ks.set t (.bool true)) todo tv Gq (G.app (l.app (j.app g))) (sk K x y z f (ts.set t (.pointer p)) (ng ds t a b) (ks.set t (.bool true)) tv Gq)/\eS g L (G.app (l.app (j.app g))) (sk K x y z f (ts.set t (.pointer p)) (ng ds t a b) (ks.set t (.bool true)) tv Gq):=by
 have m:t<n:=by have:=(List.getElem?_eq_some_iff.1 H).1;rw[c.row.lt]at this;exact this
 have U:L[6]?=some [(K.kk,.cells ks 4 1 true)]:=by rw[c.e];rfl
 obtain⟨E,e⟩:=c.o.kF D 6 U (.cells (ks.set t (.bool true)) 4 1 true);refine⟨_,bC q4s (c.o.get 6 U) (by rw[c.row.lks];exact m) rfl rfl,?_⟩;have M:=c.row.cS e;have S:=c.dc.cS e;have B:=Z.mono e;have C:=X.cS e;have s:=W.cS e;have Y:L.set 6 [(K.kk,.cells (ks.set t (.bool true)) 4 1 true)]=sk K x y z f ts ds (ks.set t (.bool true)) tv Gq:=by rw[c.e];rfl
 rw[Y]at E e M S B C s;generalize (aY.set K.kk (.cells (ks.set t (.bool true)) 4 1 true)).app g=g1 at*;have V:(sk K x y z f ts ds (ks.set t (.bool true)) tv Gq)[5]?=some [(K.kd,.cells ds 175 2 true)]:=rfl;obtain⟨F,h⟩:=E.kF D 5 V (.cells (ng ds t a b) 175 2 true);refine⟨_,ae3 (E.get 5 V) (by rw[c.row.KB];omega) sl sr,?_⟩;have N:=M.cS h;have J:=S.cS h;have w:=B.mono h;have u:=C.cS h;have q:=s.cS h;have e2:(sk K x y z f ts ds (ks.set t (.bool true)) tv Gq).set 5 [(K.kd,.cells (ng ds t a b) 175 2 true)]=sk K x y z f ts (ng ds t a b) (ks.set t (.bool true)) tv Gq:=rfl;rw[e2]at F h N J w u q;generalize (aY.set K.kd (.cells (ng ds t a b) 175 2 true)).app g1=g2 at*;have R:(sk K x y z f ts (ng ds t a b) (ks.set t (.bool true)) tv Gq)[4]?=some [(K.kt,.cells ts 112 1 true)]:=rfl;obtain⟨Q,k⟩:=F.kF D 4 R (.cells (ts.set t (.pointer p)) 112 1 true);refine⟨_,bC Cf (F.get 4 R) (by rw[c.row.lts];exact m) (QP p) (Mp p),⟨_,e⟩,⟨_,e.trans h⟩,?_⟩;have I:=N.cS k;have O:=J.cS k;have A:=w.mono k;have o:=u.cS k;have v:=q.cS k;have e3:(sk K x y z f ts (ng ds t a b) (ks.set t (.bool true)) tv Gq).set 4 [(K.kt,.cells (ts.set t (.pointer p)) 112 1 true)]=sk K x y z f (ts.set t (.pointer p)) (ng ds t a b) (ks.set t (.bool true)) tv Gq:=rfl;rw[e3]at Q k I O A o v;have hn:=iT (i,d) H;exact⟨⟨rfl,Q,O,I.set m A o v,c.RP.put H hx r hd hl,c.td,by have:=c.bd;omega⟩,e.trans (h.trans k)⟩
theorem VC.push(s:Wf h0)(c:VC h0 K T ord outs n tr x y z f ts ds ks todo tv Gq g L)(t:Nat)(E:todo.length+1+cY tr<=n)(Q:n<=100000):
  ∃(a:Option Addr)(m cc:Nat),ae SS.P 27 g (pA K.Ge)=some (.slice a m cc)/\∃(B:Option Addr)(C b:Nat)(u:aY),aE SS.P 27 27 (.slice a m cc) (sA g.next 1 1) (g.push (.cells [.int .i64 (t:Int)] 3 1 true))=some (.slice B C b,u)/\∃r:aY,aj SS.P 27 (pA K.Ge) (.slice B C b) (u.app (g.push (.cells [.int .i64 (t:Int)] 3 1 true)))=some (undef,r)/\∃e i,VC h0 K T ord outs n tr x y z f ts ds ks (todo++[t]) e i (r.app (u.app (g.push (.cells [.int .i64 (t:Int)] 3 1 true)))) (sk K x y z f ts ds ks e i)/\eS g L (r.app (u.app (g.push (.cells [.int .i64 (t:Int)] 3 1 true)))) (sk K x y z f ts ds ks e i):=by
 have p:=c.td;obtain⟨a,cc,v⟩:=p.mU;rw[lM]at v;subst v;have D:L[7]?=some (ja K.Ge (.slice a todo.length cc)):=by rw[c.e];rfl
 have G:L[8]?=some Gq:=by rw[c.e];rfl
 have H:=aI g (.cells [.int .i64 (t:Int)] 3 1 true);obtain⟨M,J⟩:=c.o.grow ((Ok.refl c.o.ok.wf).push (.cells [.int .i64 (t:Int)] 3 1 true));refine⟨_,_,_,aN cQ gL (c.o.get 7 D) (by simp),?_⟩;generalize g.push (.cells [.int .i64 (t:Int)] 3 1 true)=F at*;obtain⟨h,d,b,u,O,R,l,q,A,P⟩:=p.snoc cQ rk kX Na s M (j:=8) G (x:= .int .i64 (t:Int)) rfl H (by rw[iV,lM];omega) (by rw[lM];omega);refine⟨h,d,b,u,O,?_⟩;generalize u.app F=S at*;have o:(L.set 8 l)[7]?=some (ja K.Ge (.slice a todo.length cc)):=by rw[getElem?_set,if_neg (by omega)];exact D
 obtain⟨w,N⟩:=A.kF s 7 o (.cells [.slice h d b] 27 0 true);have k:=J.trans (P.trans N);have I:(L.set 8 l).set 7 [(K.Ge,.cells [.slice h d b] 27 0 true)]=sk K x y z f ts ds ks (.slice h d b) l:=by rw[c.e];rfl
 rw[I]at w k;refine⟨_,bC ef (A.get 7 o) (by simp) (aS ..) (cM ..),.slice h d b,l,⟨rfl,w,c.dc.cS k,c.row.cS k,c.RP,?_,by rw[length_append];exact E⟩,k⟩;rw[map_append];exact q
end
end
section
theorem Fv:Nat.blt 107 YB=true:=by kernel_rfl
theorem aaN:Nat.blt 112 YB=true:=by kernel_rfl
section
variable {h0:aa} {K:KS} {T:eB} {ord:List NN} {outs:List (Option Nat)} {n:Nat} {tr0:uw} {xi:NN} {i ki N:Nat} {pre:List (Mv×NN)} {d:sK} {g g':aa} {L:List cD}
theorem QL(w0:Wf h0)(gA:Good T.A)(gB:Good T.B)(hn:n<=100000)(lo:ord.length=n)(al:∀j x,ord[j]?=some x->Co T.A T.B x->zZ outs j)(z9:ord[i]?=some xi){s:List Mv}(w9:tr0[i]?=some (some (s,d))){m:Mv}{P:NN}(hs:DQ T.A T.B xi m P)(hx:∃t,nc ord P=some t)(hv:VD h0 K T ord outs n tr0 xi i ki N pre d g L):
  FW SS 112 [.agg ⟨rZ m⟩,.agg ⟨kV P⟩,pA K.k7,pA K.k5,pA K.k8,pA K.ix,pA ki,pA K.WA,pA K.k9,pA K.WB,pA K.Ge] g (λv g'=>v = .tuple ⟨[]⟩/\∃L',VD h0 K T ord outs n tr0 xi i ki N (pre++[(m,P)]) d g' L'/\eS g L g' L'):=by
 refine QK (rZ m) (kV P) K.k7 K.k5 K.k8 K.ix ki K.WA K.k9 K.WB K.Ge g _ ⟨_,AP m,_,xg P,?_⟩;obtain⟨V,x,y,z,f,ts,ds,ks,W,tv,Gq,c,I,ex,kn,me,st⟩:=hv;have b1:=c.o.fe (iG m);obtain⟨c,H⟩:=c.grow ((Ok.refl c.o.ok.wf).push (iG m));generalize g.push (iG m)=g1 at*;have b2:=c.o.fe (dh P);obtain⟨c,M⟩:=c.grow ((Ok.refl c.o.ok.wf).push (dh P));have b1:=M _ _ b1;have H:=H.trans M;have I:=H _ _ I;generalize g1.push (dh P)=C at*;obtain⟨t,ht⟩:=hx;have x7:=r8 ht;have G:t<n:=by have:=(List.getElem?_eq_some_iff.1 x7).1;omega
 have z5:i<n:=by have:=(List.getElem?_eq_some_iff.1 z9).1;omega
 have w8:jF SS.P 163 (.map (some K.km)) (.agg ⟨kV P⟩) false C=some (.int .i64 (t:Int)):=by
  have:=(Ac c.dc.mm.1 P).2;rw[ht]at this;exact this
 refine⟨_,c.num,_,dh.all b2.1,_,w8,_,c.Ef,ah (λhf=>?_) (λhf=>?_)⟩
 ·refine⟨rfl,L,⟨V,x,y,z,f,ts,ds,ks,W,tv,Gq,c,I,ex,kn,me,.inl ⟨hf,?_⟩⟩,H⟩;rcases st with⟨_,w⟩|⟨z7,_⟩
  ·exact w.cS H
  ·rw[hf]at z7;cases z7
 subst hf;obtain⟨hP,st⟩:(lI T.A T.B xi->d=([],[]))/\∀w∈pre,HM T.A T.B ord V d w:=by
  rcases st with⟨h,_⟩|⟨_,h⟩
  ·cases h
  ·exact h
 have fin:∀{y4:uw},qi V y4->HM T.A T.B ord y4 d (m,P)->∀w∈pre++[(m,P)],HM T.A T.B ord y4 d w:=λhe hs w hw=>by
  rcases mem_append.1 hw with h|h
  ·exact(st w h).ext he
  ·obtain rfl:=mem_singleton.1 h;exact hs
 obtain⟨o,ho⟩:∃o,outs[t]?=some o:=⟨_,gE (by rw[c.dc.lo];exact G)⟩
 refine⟨_,_,_,c.rst,_,mF ib jV G,_,c.out ho,_,FI _,ah (λq=>?_) (λq=>?_)⟩
 ·refine⟨rfl,L,⟨V,x,y,z,false,ts,ds,ks,W,tv,Gq,c,I,ex,kn,me,.inr ⟨rfl,hP,fin (qi.refl _) λhc=>?_⟩⟩,H⟩;obtain⟨k,hk⟩:=al t P x7 hc;rw[ho]at hk;obtain rfl:=oI hk
  cases q
 obtain⟨kr,rfl⟩:∃kr,o=some kr:=by
  cases o with
  |none=>cases q
  |some kr=>exact⟨kr,rfl⟩
 obtain⟨y6,ns,e,u7,lr,r2,f2,_,q4⟩:=c.dc.ok t kr ho;obtain rfl:P=y6:=oI (x7.symm.trans u7);have hi:=ex _ _ w9;obtain⟨u8,u4,v6,z0,q2⟩:=c.RP i s d hi;obtain rfl:xi=u8:=oI (z9.symm.trans u4);have r1:=v6.snoc hs;obtain⟨_,v0,w6⟩:=Vu gA gB hs;obtain⟨z1,z2⟩:=uX z0;have l1:(wL s).length<=s.length:=dM Mv.l s;have l2:(wR s).length<=s.length:=dM Mv.r s;have z4:=c.row.lt;have j5:=c.dc.lo;obtain⟨c3,x3⟩:=c.grow ((Ok.refl c.o.ok.wf).room 12);obtain⟨p,a,S,Q,O,D,E,w1,w2,w3,w4,w5⟩:=c3.ways hi;refine⟨_,_,_,c3.dly,_,(x3 _ _ I).ld lp ll,_,Yf z5,_,w3,_,iG.all (x3 _ _ b1).1,(Pw c3.o.ok.wf w4.rd w5.rd v0 w6 (by omega) (by omega)).mono ?_⟩;rintro j1 R ⟨e4,hr⟩;obtain⟨a,S,Q,O,D,E,x0,rfl,y9⟩:∃(a:Option Addr)(n c:Nat)(O:Option Addr)(n' c':Nat)(b:Bool),j1 = .tuple ⟨[.agg ⟨[.slice a n c,.slice O n' c']⟩,.bool b]⟩/\((b=false/\zF d m=none)\/(b=true/\∃l,zF d m=some l/\na (room C 12) R 3 (.slice a n c) (l.1.map zV)/\na (room C 12) R 3 (.slice O n' c') (l.2.map zV))):=by
  rcases hr with⟨h1,a,n,c,b,m,d,rfl⟩|⟨l,a,n,c,b,m,d,h1,rfl,h2,h3⟩
  ·exact⟨a,n,c,b,m,d,false,rfl,.inl ⟨rfl,h1⟩⟩
  ·exact⟨a,n,c,b,m,d,true,rfl,.inr ⟨rfl,l,h1,h2,h3⟩⟩
 obtain⟨e5,b5⟩:=Ox c.o.ok.wf (by omega:9<12) e4 (bP nA nA);have e6:Ok C ((aY.set (C.next+9) (bP (.slice a S Q) (.slice O D E))).app (av R C.next [(9,bP nA nA)])):=e5.set (bP (.slice a S Q) (.slice O D E)) (Nat.le_add_right C.next 9) (e5.wf _ _ b5) c.o.ok.wf;have b6:((aY.set (C.next+9) (bP (.slice a S Q) (.slice O D E))).app (av R C.next [(9,bP nA nA)])).get (C.next+9)=some (bP (.slice a S Q) (.slice O D E)):=by
  show((av R C.next [(9,bP nA nA)]).set (C.next+9) (bP (.slice a S Q) (.slice O D E))).get (C.next+9)=_;rw[aa.aw,if_pos rfl]
 have u0:aj SS.P 175 (pA (C.next+9)) (.agg ⟨[.slice a S Q,.slice O D E]⟩) (av R C.next [(9,bP nA nA)])=some (undef,.set (C.next+9) (bP (.slice a S Q) (.slice O D E))):=du uj rfl b5 rfl (by simp[bc]);refine⟨_,x0,rfl,_,R8,_,u0,?_⟩;have y9:(x0=false/\zF d m=none)\/(x0=true/\∃l,zF d m=some l/\sL ((aY.set (C.next+9) (bP (.slice a S Q) (.slice O D E))).app (av R C.next [(9,bP nA nA)])) L 3 (.slice a S Q) (l.1.map zV)/\sL ((aY.set (C.next+9) (bP (.slice a S Q) (.slice O D E))).app (av R C.next [(9,bP nA nA)])) L 3 (.slice O D E) (l.2.map zV)):=by
  rcases y9 with h|⟨h,l,h1,h2,h3⟩
  ·exact .inl h
  ·exact .inr ⟨h,l,h1,na.im (na.set (by omega) h2 _ _) c.o,na.im (na.set (by omega) h3 _ _) c.o⟩
 have m6:=c.o.new (Nat.le_add_right C.next 9) b6;clear b5 e5 e4 hr u0;obtain⟨c,M⟩:=c.grow e6;have b1:=M _ _ b1;have H:=H.trans M;have I:=M _ _ I;have lr:=lr.mono M;clear e6 M b6 b2 w1 w2 w3 w4 w5 c3 x3;generalize (aY.set (C.next+9) (bP (.slice a S Q) (.slice O D E))).app (av R C.next [(9,bP nA nA)])=U at*;obtain⟨c3,x3⟩:=c.grow ((Ok.refl c.o.ok.wf).room 8);obtain⟨p,_,_,_,_,_,_,w1,w2,_⟩:=c3.ways hi;have w2:nL (Im U L) p s.reverse:=w2.mono λk B m=>m;obtain⟨e8,b8⟩:=vV c.o.ok.wf (n:=8) (j:=6) (by omega) (zp m p);refine⟨_,iG.all (x3 _ _ b1).1,_,_,_,c3.trl,_,(x3 _ _ I).ld lp ll,_,mF xT Cf z5,_,w1,_,K1 m p,_,K5 m p,?_⟩;have m8:=c.o.new (Nat.le_add_right U.next 6) b8;obtain⟨c,M⟩:=c.grow e8;have H:=H.trans M;have I:=M _ _ I;have lr:=lr.mono M;have m6:=M _ _ m6;have lt:nL (Im (av (room U 8) U.next [(6,zp m p)]) L) (some ⟨U.next+6,0,none⟩) (s++[m]).reverse:=by
  rw[reverse_append];exact .cons m8 (w2.mono M)
 have hr:(x0=false/\zF d m=none)\/(x0=true/\∃l,zF d m=some l/\sL (av (room U 8) U.next [(6,zp m p)]) L 3 (.slice a S Q) (l.1.map zV)/\sL (av (room U 8) U.next [(6,zp m p)]) L 3 (.slice O D E) (l.2.map zV)):=y9.imp id λ⟨h,l,h1,h2,h3⟩=>⟨h,l,h1,h2.cS M,h3.cS M⟩
 clear w1 w2 c3 x3 b8 e8 b1 m8 M;change abd (av (room U 8) U.next [(6,zp m p)]) _;generalize q3:U.next+6=k6 at*;generalize q0:C.next+9=k9 at*;unfold abd;generalize av (room U 8) U.next [(6,zp m p)]=g6 at*;have hl:(s++[m]).length+ns.length<=1000000:=by rw[length_append,length_singleton];omega
 refine ah (λq=>?_) (λq=>?_)
 ·have q:x0=false:=by simpa using q
  have hd:zF d m=none:=by
   rcases hr with⟨_,h⟩|⟨h,_⟩
   ·exact h
   ·rw[q]at h;cases h
  have x4:=XH (ns:=ns) (by rw[A8 (m:=m) z0];exact hd);obtain⟨J,r⟩:=c.grow ((Ok.refl c.o.ok.wf).room 8);refine⟨_,_,_,J.prv,_,_,_,J.rst,_,mF ib jV G,_,J.out ho,ah (λ_=>?_) (λq=>by rw[Fv]at q;cases q)⟩;refine(J.prove w0 gA gB (lt.mono r) (lr.mono r) r1 r2 f2 hl).mono ?_;rintro _ g7 ⟨rfl,x',y',z',x6,F,hw⟩;obtain⟨u,s1,Z,A⟩:=x6.found w0 (!decide (wL (s++[m]++ns)=wR (s++[m]++ns)));have ct:=H.trans (r.trans (F.trans A));exact⟨_,rfl,_,s1,rfl,_,⟨V,x',y',z',_,ts,ds,ks,W,tv,Gq,Z,(r.trans (F.trans A)) _ _ I,ex,kn,me,.inl ⟨by rw[decide_eq_false x4];rfl,(hw x4).cS A⟩⟩,ct⟩
 ·have q:x0=true:=by simpa using q
  obtain⟨l,y5,rl,rr⟩:∃l,zF d m=some l/\sL g6 L 3 (.slice a S Q) (l.1.map zV)/\sL g6 L 3 (.slice O D E) (l.2.map zV):=by
   rcases hr with⟨h,_⟩|⟨_,h⟩
   ·rw[q]at h;cases h
   ·exact h
  clear hr;have y0:iu (wL (s++[m])) (wR (s++[m]))=some l:=by rw[A8 (m:=m) z0];exact y5
  obtain⟨o',Y⟩:∃o',V[t]?=some o':=⟨_,gE (by rw[z4];exact G)⟩
  refine⟨_,_,_,c.knw,_,mF q68 q4s G,_,c.adf Y,ah (λq=>?_) (λq=>?_)⟩
  ·
   obtain rfl:o'=none:=by
    cases o' with
    |none=>rfl
    |some v=>cases q
   obtain⟨J,r⟩:=c.grow ((Ok.refl c.o.ok.wf).room 14);have m9:=r _ _ m6;obtain⟨u1,s1,u2,s2,u3,s3,⟨L1,x1⟩,⟨L2,x2⟩,x6,F⟩:=J.put w0 Y x7 r1 y0 (by rw[length_append,length_singleton];omega) (lt.mono r) (aS ..) (aS ..) (rl.cS r) (rr.cS r);refine⟨_,_,_,J.knw,_,_,_,J.dly,_,_,_,J.trl,_,bP.all m9.1,_,mF q68 q4s G,_,s1,_,Yf G,_,s2,_,mF xT Cf G,_,s3,⟨(x1 _ _ J.dc.m11).ld YX aam,pM ..⟩,⟨(x1 _ _ J.dc.m10).ld xT JC,pM ..⟩,⟨(x2 _ _ J.dc.m10).ld xT JC,pM ..⟩,⟨bP.all (x1 _ _ m9).1,ZE (Cm rl.rd) (Cm rr.rd)⟩,?_⟩;have q7:=iT (s++[m],l) Y;have j6:=c.bd;generalize u3.app (u2.app (u1.app (room g6 14)))=g7 at*;obtain⟨a9,q8,j8,h1,j9,j7,j4,u,h2,u',h3,v7,j2,Z,A⟩:=x6.push w0 t (by omega) hn;have he:qi V (V.set t (some (s++[m],l))):=qi.set Y _;have z8:(V.set t (some (s++[m],l)))[t]?=some (some (s++[m],l)):=by rw[getElem?_set,if_pos rfl,if_pos (by rw[z4];exact G)]
   refine⟨_,_,_,h1,_,_,_,tH _,_,_,_,_,h2,_,h3,rfl,_,⟨_,x,y,z,false,_,_,_,_,v7,j2,Z,(r.trans (F.trans A)) _ _ I,ex.trans he,⟨λk hk=>?_,λk hk=>?_⟩,by rw[length_append,length_singleton];omega,.inr ⟨rfl,hP,fin he λ_=>⟨t,l,_,ht,y5,z8⟩⟩⟩,H.trans (r.trans (F.trans A))⟩
   ·by_cases ek:k=t
    ·subst ek;exact .inl (List.mem_append_right _ (mem_singleton.2 rfl))
    ·have z6:Tx V k:=by
      obtain⟨v,hv⟩:=hk;rw[getElem?_set,if_neg (λe=>ek e.symm)]at hv;exact⟨v,hv⟩
     rcases kn.1 k z6 with h|h|h
     ·exact .inl (List.mem_append_left _ h)
     ·exact .inr (.inl h)
     ·exact .inr (.inr (h.ext z6 he))
   ·rcases mem_append.1 hk with h|h
    ·exact(kn.2 k h).ext he
    ·rw[mem_singleton.1 h];exact⟨_,z8⟩
  ·
   obtain⟨⟨y3,d2⟩,rfl⟩:∃v,o'=some v:=by
    cases o' with
    |none=>cases q
    |some v=>exact⟨v,rfl⟩
   obtain⟨y6,u5,z3,u6,j3⟩:=c.RP t y3 d2 Y;obtain rfl:P=y6:=oI (x7.symm.trans u5);obtain⟨J,r⟩:=c.grow ((Ok.refl c.o.ok.wf).room 8);have m9:=r _ _ m6;obtain⟨p2,b,n2,f1,b',q6,q5,v1,v2,v3,v4,v5⟩:=J.ways Y;obtain⟨y1,y2⟩:=uX y0;have j0:(wL (s++[m])).length<=(s++[m]).length:=dM Mv.l _;have w7:(wR (s++[m])).length<=(s++[m]).length:=dM Mv.r _;rw[length_append,length_singleton]at hl;refine⟨_,bP.all m9.1,_,_,_,J.dly,_,Yf G,_,v3,(Ig J.o.ok.wf (x:=l) (y:=d2) (rl.cS r).rd (rr.cS r).rd v4.rd v5.rd (by rw[length_append,length_singleton]at j0;omega) (by rw[length_append,length_singleton]at w7;omega)).mono ?_⟩;rintro _ g7 ⟨rfl,e7⟩;obtain⟨x6,F⟩:=J.grow e7;have H:=H.trans (r.trans F);have I:=(r.trans F) _ _ I;have lt:=lt.mono (r.trans F);have lr:=lr.mono (r.trans F);refine⟨_,rfl,ah (λq=>?_) (λq=>?_)⟩
   ·have y8:l≠d2:=by simpa using q
    have u9:=XJ r1 z3 y0 u6 y8 r2 f2;obtain⟨Z,A⟩:=x6.grow ((Ok.refl x6.o.ok.wf).room 20);refine⟨_,_,_,Z.prv,_,_,_,Z.rst,_,mF ib jV G,_,Z.out ho,ah (λ_=>?_) (λq=>by rw[Fv]at q;cases q)⟩;refine(Z.prove w0 gA gB (lt.mono A) (lr.mono A) r1 r2 f2 (by rw[length_append,length_singleton];omega)).mono ?_;rintro _ g8 ⟨rfl,x',y',z',x5,x9,hw⟩;have H:=H.trans (A.trans x9);have I:=(A.trans x9) _ _ I;refine⟨_,rfl,ah (λq=>?_) (λq=>?_)⟩
    ·have x4:wL (s++[m]++ns)≠wR (s++[m]++ns):=by simpa using q
     obtain⟨u,s1,y7,X⟩:=x5.found w0 true;exact⟨_,s1,rfl,_,⟨V,x',y',z',_,ts,ds,ks,W,tv,Gq,y7,X _ _ I,ex,kn,me,.inl ⟨rfl,(hw x4).cS X⟩⟩,H.trans X⟩
    ·have v9:wL (s++[m]++ns)=wR (s++[m]++ns):=by simpa using q
     have x4:=u9.resolve_left λh=>h v9;obtain⟨p3,_,_,_,_,_,_,t1,t2,_⟩:=x5.ways Y;refine⟨_,_,_,x5.prv,_,_,_,x5.trl,_,mF xT Cf G,_,t1,_,_,_,x5.rst,_,mF ib jV G,_,x5.out ho,ah (λ_=>?_) (λq=>by rw[Fv]at q;cases q)⟩;refine(x5.prove w0 gA gB t2 (lr.mono (A.trans x9)) z3 r2 f2 (by omega)).mono ?_;rintro _ g9 ⟨rfl,x',y',z',y7,X,hw⟩;obtain⟨u,s1,v8,x8⟩:=y7.found w0 (!decide (wL (y3++ns)=wR (y3++ns)));exact⟨_,rfl,_,s1,rfl,_,⟨V,x',y',z',_,ts,ds,ks,W,tv,Gq,v8,(X.trans x8) _ _ I,ex,kn,me,.inl ⟨by rw[decide_eq_false x4];rfl,(hw x4).cS x8⟩⟩,H.trans (X.trans x8)⟩
   ·have y8:l=d2:=by simpa using q
    subst y8;exact⟨rfl,L,⟨V,x,y,z,false,ts,ds,ks,W,tv,Gq,x6,I,ex,kn,me,.inr ⟨rfl,hP,fin (qi.refl _) λ_=>⟨t,l,y3,ht,y5,Y⟩⟩⟩,H⟩
end
end
noncomputable def gh:FD:=ei Tryz.f47 [([1,1,1,1,1,1,1,1,1,1,1,0,0,0],[1,2,3,4,5,6,7,8,9,10,11,12,13])]
abbrev dO(i h o j k m g l d b e f:Nat)(a:OA)(n c:Nat)(z:Unit):LV:=[(pA i),(pA h),(pA o),(pA j),(pA k),(.slice a n c),(pA m),(pA g),(pA l),(pA d),(pA b),(pA e),(pA f)]
theorem Mh(pv:LV)(h:aa)(Q:VH)(hx:xN (dK SS.P 66 (.agg ⟨pv⟩)) h λB1 c=>xN (aA SS.P 27) c λB3 d=>xN (aA SS.P 27) d λB5 e=>xN (aA SS.P 27) e λB7 f=>xN (aA SS.P 4) f λB9 J=>xP (af SS.P 66 (pA (h.next)) 0) λy6=>xA (ae SS.P 24 J (.pointer (some y6))) λz4=>FW SS 104 [(.agg ⟨z4⟩)] J λy9 n=>yB y9 λx4=>aQ x4 (xU (aj SS.P 27 (pA (c.next)) nA n) n λw4 K=>xU (aj SS.P 27 (pA (d.next)) nA K) K λw8 E=>xU (aj SS.P 27 (pA (e.next)) nA E) E λv0 G=>xU (aj SS.P 4 (pA (f.next)) (.bool false) G) G λv4 x8=>di SS [((pA (c.next)),some 27),((pA (d.next)),some 27),((pA (e.next)),some 27),((pA (f.next)),some 4)] x8 Q) (xP (af SS.P 66 (pA (h.next)) 1) λy3=>xA (ae SS.P 24 n (.pointer (some y3))) λx0=>FW SS 104 [(.agg ⟨x0⟩)] n λy5 k=>yB y5 λy1=>aQ y1 (xU (aj SS.P 27 (pA (c.next)) nA k) k λu2 I=>xU (aj SS.P 27 (pA (d.next)) nA I) I λv6 D=>xU (aj SS.P 27 (pA (e.next)) nA D) D λu4 v=>xU (aj SS.P 4 (pA (f.next)) (.bool false) v) v λv9 x6=>di SS [((pA (c.next)),some 27),((pA (d.next)),some 27),((pA (e.next)),some 27),((pA (f.next)),some 4)] x6 Q) (xA (ae SS.P 66 k (pA (h.next))) λy2=>FW SS 105 [(.agg ⟨y2⟩)] k λz1 m=>∃(s:OA) (a q:Nat),∃N:Value,z1=(.tuple ⟨[(.slice s a q),N]⟩)/\xN (aA SS.P 163) m λv8 H=>xU (aj SS.P 163 (pA (m.next)) N H) H λv5 p=>xA (ae SS.P 66 p (pA (h.next))) λy0=>xV (ae SS.P 163 p (pA (m.next))) λz0=>FW SS 106 [(.agg ⟨y0⟩),(.slice s a q),z0] p λx2 j=>yL x2 λy7 X z2=>xN (aA SS.P 166) j λw5 O=>xU (aj SS.P 166 (pA (j.next)) (.slice y7 X z2) O) O λw2 b=>xL (ae SS.P 166 b (pA (j.next))) λy4 x3 x7=>xP (ai SS.P 166 (.slice y4 x3 x7) (.int .i64 0)) λy8=>xO (ae SS.P 168 b (.pointer (some y8))) λz6=>xB (ay SS.P .eql 168 (.pointer z6) (.pointer none)) λx5=>aQ x5 (xU (aj SS.P 27 (pA (c.next)) nA b) b λu3 L=>xU (aj SS.P 27 (pA (d.next)) nA L) L λw6 F=>xU (aj SS.P 27 (pA (e.next)) nA F) F λv3 z=>xU (aj SS.P 4 (pA (f.next)) (.bool false) z) z λw3 z7=>di SS [((pA (c.next)),some 27),((pA (d.next)),some 27),((pA (e.next)),some 27),((pA (f.next)),some 4)] z7 Q) (xN (aA SS.P 171) b λw1 B=>xU (aj SS.P 171 (pA (b.next)) (.func (.func 107) ⟨[]⟩ ⟨[(pA (c.next)),(pA (d.next)),(pA (e.next))]⟩) B) B λu8 w=>xR (aR SS.P 109 (iA a) (iA a)) w λv1 x9 Z u=>xN (aA SS.P 109) u λu7 M=>xU (aj SS.P 109 (pA (u.next)) (sA (w.next) x9 Z) M) M λw0 y=>xR (aR SS.P 172 (iA a) (iA a)) y λv2 Y z5 r=>xN (aA SS.P 172) r λu6 C=>xU (aj SS.P 172 (pA (r.next)) (sA (y.next) Y z5) C) C λu9 A=>xR (aR SS.P 68 (iA a) (iA a)) A λu5 z3 x1 l=>xN (aA SS.P 68) l λv7 x=>xU (aj SS.P 68 (pA (l.next)) (sA (A.next) z3 x1) x) x λw7 i=>xL (ae SS.P 68 i (pA (l.next))) λW T U=>xP (ai SS.P 68 (.slice W T U) (.int .i64 0)) λS=>xU (aj SS.P 4 (.pointer (some S)) (.bool true) i) i λu1 t=>xR (az SS.P 27 1 [(0,(.int .i64 0))]) t λz9 V P g=>xN (aA SS.P 27) g λz8 o=>xU (aj SS.P 27 (pA (g.next)) (sA (t.next) V P) o) o λu0 R=>LL SS gh [1,1,1,1,1,1,1,1,1,1,1,0,0,0] [(pA (h.next)),(pA (c.next)),(pA (d.next)),(pA (e.next)),(pA (f.next)),(.slice s a q),(pA (m.next)),(pA (j.next)),(pA (b.next)),(pA (u.next)),(pA (r.next)),(pA (l.next)),(pA (g.next))] R (KK SS gh [1,1,1,1,1,1,1,1,1,1,1,0,0] [] (EE SS gh Q)))))):FW SS 47 [(.agg ⟨pv⟩)] h Q:=eu gh Tryz.func47 (ax hx)
theorem tZ(pv:LV)(v k g f d x u w j i l e:Nat)(a:OA)(n c:Nat)(y:Nat->Unit->aa->Prop)(Q:VH)(step:∀(B:Nat) (z:Unit) (zz:Nat->Value) (h:aa),y B z h->xL (ae SS.P 27 h (pA e)) λY0 w5 Y2=>aQ (decide (((w5:Int):Int)>0)) (xB (ae SS.P 4 h (pA d)) λj8=>aQ (!j8) (xL (ae SS.P 27 h (pA e)) λw6 v2 j7=>xP (ai SS.P 27 (.slice w6 v2 j7) (.int .i64 0)) λv5=>xI .i64 (ae SS.P 3 h (.pointer (some v5))) λz1=>xN (aA SS.P 3) h λY4 O=>xU (aj SS.P 3 (pA (h.next)) (.int .i64 z1) O) O λX9 I=>xL (ae SS.P 27 I (pA e)) λv7 q1 v3=>xL (bm SS.P 27 (.slice v7 q1 v3) (some (.int .i64 1)) none none I) λw8 z8 y6=>xU (aj SS.P 27 (pA e) (.slice w8 z8 y6) I) I λq5 G=>xA (ae SS.P 66 (room G 15) (pA v)) λu6=>xI .i64 (ae SS.P 3 (room G 15) (pA (h.next))) λw3=>xP (ai SS.P 162 (.slice a n c) (.int .i64 w3)) λj6=>xA (ae SS.P 105 (room G 15) (.pointer (some j6))) λj2=>FW SS 109 [(.agg ⟨u6⟩),(.agg ⟨j2⟩)] (room G 15) λx2 m=>yB x2 λv8=>aQ v8 (xL (ae SS.P 172 m (pA i)) λv9 y8 j3=>xI .i64 (ae SS.P 3 m (pA (h.next))) λy0=>xP (ai SS.P 172 (.slice v9 y8 j3) (.int .i64 y0)) λz3=>xA (ae SS.P 175 m (.pointer (some z3))) λv4=>xA (aD SS.P 175 []) λy2=>FW SS 110 [(.agg ⟨v4⟩),(.agg ⟨y2⟩)] m λy7 b=>yB y7 λx7=>aQ (!x7) (xF (ae SS.P 171 (room b 11) (pA w)) λT j9 w1=>xL (ae SS.P 109 (room b 11) (pA j)) λw7 x3 z9=>xI .i64 (ae SS.P 3 (room b 11) (pA (h.next))) λu2=>xP (ai SS.P 109 (.slice w7 x3 z9) (.int .i64 u2)) λu5=>xO (ae SS.P 112 (room b 11) (.pointer (some u5))) λu4=>xL (ae SS.P 166 (room b 11) (pA u)) λz4 z7 j4=>xI .i64 (ae SS.P 3 (room b 11) (pA (h.next))) λq0=>xP (ai SS.P 166 (.slice z4 z7 j4) (.int .i64 q0)) λx6=>xO (ae SS.P 168 (room b 11) (.pointer (some x6))) λq2=>aQ (Nat.blt T YB) (FW SS T (j9++[(.pointer u4),(.pointer q2)]++w1) (room b 11) λv0 R=>yB v0 λu9=>xU (aj SS.P 4 (pA d) (.bool u9) R) R λX6 H=>xA (ae SS.P 66 (room H 7) (pA v)) λq3=>xI .i64 (ae SS.P 3 (room H 7) (pA (h.next))) λu8=>xP (ai SS.P 162 (.slice a n c) (.int .i64 u8)) λu1=>xA (ae SS.P 105 (room H 7) (.pointer (some u1))) λw4=>FW SS 111 [(.agg ⟨q3⟩),(.agg ⟨w4⟩),(.func (.func 112) ⟨[]⟩ ⟨[(pA x),(pA d),(pA u),(pA i),(pA (h.next)),(pA j),(pA w),(pA l),(pA e)]⟩)] (room H 7) λw9 x4=>w9=(.tuple ⟨[]⟩)/\aJ (fB (dO v k g f d x u w j i l e a n c) y) B [(pA v),(pA k),(pA g),(pA f),(pA d),(.slice a n c),(pA x),(pA u),(pA w),(pA j),(pA i),(pA l),(pA e)] x4) False) (xA (ae SS.P 66 (room b 7) (pA v)) λj1=>xI .i64 (ae SS.P 3 (room b 7) (pA (h.next))) λz5=>xP (ai SS.P 162 (.slice a n c) (.int .i64 z5)) λw2=>xA (ae SS.P 105 (room b 7) (.pointer (some w2))) λz6=>FW SS 111 [(.agg ⟨j1⟩),(.agg ⟨z6⟩),(.func (.func 112) ⟨[]⟩ ⟨[(pA x),(pA d),(pA u),(pA i),(pA (h.next)),(pA j),(pA w),(pA l),(pA e)]⟩)] (room b 7) λx5 y1=>x5=(.tuple ⟨[]⟩)/\aJ (fB (dO v k g f d x u w j i l e a n c) y) B [(pA v),(pA k),(pA g),(pA f),(pA d),(.slice a n c),(pA x),(pA u),(pA w),(pA j),(pA i),(pA l),(pA e)] y1)) (xA (ae SS.P 66 (room m 7) (pA v)) λx1=>xI .i64 (ae SS.P 3 (room m 7) (pA (h.next))) λx8=>xP (ai SS.P 162 (.slice a n c) (.int .i64 x8)) λu0=>xA (ae SS.P 105 (room m 7) (.pointer (some u0))) λv1=>FW SS 111 [(.agg ⟨x1⟩),(.agg ⟨v1⟩),(.func (.func 112) ⟨[]⟩ ⟨[(pA x),(pA d),(pA u),(pA i),(pA (h.next)),(pA j),(pA w),(pA l),(pA e)]⟩)] (room m 7) λy3 w0=>y3=(.tuple ⟨[]⟩)/\aJ (fB (dO v k g f d x u w j i l e a n c) y) B [(pA v),(pA k),(pA g),(pA f),(pA d),(.slice a n c),(pA x),(pA u),(pA w),(pA j),(pA i),(pA l),(pA e)] w0)) (xB (ae SS.P 4 h (pA d)) λy9=>aQ (!y9) (xU (aj SS.P 27 (pA k) nA h) h λq7 W=>xU (aj SS.P 27 (pA g) nA W) W λX4 S=>xU (aj SS.P 27 (pA f) nA S) S λq8 X=>xU (aj SS.P 4 (pA d) (.bool false) X) X λX3 y5=>di SS [((pA k),some 27),((pA g),some 27),((pA f),some 27),((pA d),some 4)] y5 Q) (xL (ae SS.P 27 (room h 7) (pA k)) λj5 y4 j0=>xL (ae SS.P 27 (room h 7) (pA g)) λJ A L=>xL (ae SS.P 27 (room h 7) (pA f)) λt r o=>xU (aj SS.P 27 (pA k) (.slice j5 y4 j0) (room h 7)) (room h 7) λq9 K=>xU (aj SS.P 27 (pA g) (.slice J A L) K) K λY5 N=>xU (aj SS.P 27 (pA f) (.slice t r o) N) N λX1 P=>xU (aj SS.P 4 (pA d) (.bool true) P) P λX5 v6=>(ae SS.P 27 K (pA g)=some (.slice J A L)/\cZ 4 (.slice J A L) (.slice J A L)=true)/\(ae SS.P 27 K (pA f)=some (.slice t r o)/\cZ 4 (.slice t r o) (.slice t r o)=true)/\(ae SS.P 27 N (pA f)=some (.slice t r o)/\cZ 4 (.slice t r o) (.slice t r o)=true)/\di SS [((pA k),some 27),((pA g),some 27),((pA f),some 27),((pA d),some 4)] v6 Q))) (xB (ae SS.P 4 h (pA d)) λu7=>aQ (!u7) (xU (aj SS.P 27 (pA k) nA h) h λX8 U=>xU (aj SS.P 27 (pA g) nA U) U λq4 V=>xU (aj SS.P 27 (pA f) nA V) V λY1 Y=>xU (aj SS.P 4 (pA d) (.bool false) Y) Y λY3 z2=>di SS [((pA k),some 27),((pA g),some 27),((pA f),some 27),((pA d),some 4)] z2 Q) (xL (ae SS.P 27 (room h 7) (pA k)) λu3 x9 x0=>xL (ae SS.P 27 (room h 7) (pA g)) λC D E=>xL (ae SS.P 27 (room h 7) (pA f)) λp s q=>xU (aj SS.P 27 (pA k) (.slice u3 x9 x0) (room h 7)) (room h 7) λq6 F=>xU (aj SS.P 27 (pA g) (.slice C D E) F) F λX2 M=>xU (aj SS.P 27 (pA f) (.slice p s q) M) M λX0 Z=>xU (aj SS.P 4 (pA d) (.bool true) Z) Z λX7 z0=>(ae SS.P 27 F (pA g)=some (.slice C D E)/\cZ 4 (.slice C D E) (.slice C D E)=true)/\(ae SS.P 27 F (pA f)=some (.slice p s q)/\cZ 4 (.slice p s q) (.slice p s q)=true)/\(ae SS.P 27 M (pA f)=some (.slice p s q)/\cZ 4 (.slice p s q) (.slice p s q)=true)/\di SS [((pA k),some 27),((pA g),some 27),((pA f),some 27),((pA d),some 4)] z0 Q)))(B:Nat){z:Unit}{h:aa}(hi:y B z h):LL SS gh [1,1,1,1,1,1,1,1,1,1,1,0,0,0] (dO v k g f d x u w j i l e a n c z) h (KK SS gh [1,1,1,1,1,1,1,1,1,1,1,0,0] [] (EE SS gh Q)):=
 dQ (dO v k g f d x u w j i l e a n c) y (λB z zz h hi=>ax (step B z zz h hi)) B hi
noncomputable def Fc:FD:=ei Tryz.f14 []
theorem C0(q:LV)(h:aa)(Q:VH)(A:xN (dK SS.P 24 (.agg ⟨q⟩)) h λF t=>xA (ae SS.P 24 t (pA (h.next))) λB=>FW SS 39 [(.agg ⟨B⟩)] t λz b=>∃m:LV,∃o:Int,z=(.tuple ⟨[(.agg ⟨m⟩),(.int .i64 o)]⟩)/\xN (aA SS.P 24) b λG x=>xU (aj SS.P 24 (pA (b.next)) (.agg ⟨m⟩) x) x λC a=>aQ (((o:Int) !=0)) (Q (.tuple ⟨[(.bool false),nA,nA,nA,(.int .i64 o)]⟩) a) (xP (af SS.P 24 (pA (b.next)) 3) λu=>xL (ae SS.P 22 a (.pointer (some u))) λD s E=>aQ (decide (((s:Int):Int)>200)) (Q (.tuple ⟨[(.bool false),nA,nA,nA,(.int .i64 2)]⟩) a) (xA (ae SS.P 24 a (pA (b.next))) λv=>xA (ae SS.P 24 a (pA (b.next))) λp=>xA (aD SS.P 66 [(0,(.agg ⟨v⟩)),(1,(.agg ⟨p⟩))]) λr=>FW SS 47 [(.agg ⟨r⟩)] a λw y=>∃(f:OA) (n d:Nat),∃(g:OA) (c i:Nat),∃(l:OA) (j k:Nat),∃e:Bool,w=(.tuple ⟨[(.slice f n d),(.slice g c i),(.slice l j k),(.bool e)]⟩)/\Q (.tuple ⟨[(.bool (!e)),(.slice f n d),(.slice g c i),(.slice l j k),(.int .i64 0)]⟩) y))):FW SS 14 [(.agg ⟨q⟩)] h Q:=eu Fc Tryz.func14 (ax A)
section
theorem Lm{a b c d:Value}{t t' e f:TypeId}{m q:Value}(i:ae X.P t h a=some v)(k:ae X.P t' h b=some w)(g:ae X.P e h c=some m)(l:ae X.P f h d=some q)(j:Q (.tuple ⟨[v,w,m,q]⟩) h):di X [(a,some t),(b,some t'),(c,some e),(d,some f)] h Q:=by
 unfold di;simp only[JJ,i,k,g,l];exact j
def uZ(h:aa)(A B:aH):VH:=λv g=>∃(a:Option Addr)(n c:Nat)(l:Option Addr)(k j:Nat)(d:Option Addr)(b i:Nat)(f:Bool),v = .tuple ⟨[.slice a n c,.slice l k j,.slice d b i,.bool f]⟩/\Ok h g/\((f=false/\Value.slice a n c=nA/\Value.slice l k j=nA/\Value.slice d b i=nA/\Ar A B)\/(f=true/\∃p e,PR A B (sI A B) p e/\lI A B e/\wL p≠wR p/\p.length<=1000000/\Rd g 3 (.slice a n c) ((wI p).map zV)/\Rd g 3 (.slice l k j) ((wL p).map zV)/\Rd g 3 (.slice d b i) ((wR p).map zV)))
section
variable {h0:aa} {K:KS} {T:eB} {ord:List NN} {outs:List (Option Nat)} {n:Nat} {tr:uw} {x y z:Value} {f:Bool} {ts ds ks:List Value} {todo:List Nat} {tv:Value} {Gq:cD} {g g':aa} {L:List cD}
theorem VC.words(d:Wf h0)(c:VC h0 K T ord outs n tr x y z f ts ds ks todo tv Gq g L)(v:Value)(h:bc v=true)(i:v.cells = #[v]):
  (∃u:aY,aj SS.P 27 (pA K.k2) v g=some (undef,u)/\VC h0 K T ord outs n tr v y z f ts ds ks todo tv Gq (u.app g) (sk K v y z f ts ds ks tv Gq)/\eS g L (u.app g) (sk K v y z f ts ds ks tv Gq))/\
  (∃u:aY,aj SS.P 27 (pA K.k3) v g=some (undef,u)/\VC h0 K T ord outs n tr x v z f ts ds ks todo tv Gq (u.app g) (sk K x v z f ts ds ks tv Gq)/\eS g L (u.app g) (sk K x v z f ts ds ks tv Gq))/\
  (∃u:aY,aj SS.P 27 (pA K.k4) v g=some (undef,u)/\VC h0 K T ord outs n tr x y v f ts ds ks todo tv Gq (u.app g) (sk K x y v f ts ds ks tv Gq)/\eS g L (u.app g) (sk K x y v f ts ds ks tv Gq)):=by
 have l:L[0]?=some (ja K.k2 x):=by rw[c.e];rfl
 have j:L[1]?=some (ja K.k3 y):=by rw[c.e];rfl
 have k:L[2]?=some (ja K.k4 z):=by rw[c.e];rfl
 refine⟨?_,?_,?_⟩
 ·obtain⟨b,a⟩:=c.o.kF d 0 l (.cells [v] 27 0 true);have e:L.set 0 [(K.k2,.cells [v] 27 0 true)]=sk K v y z f ts ds ks tv Gq:=by rw[c.e];rfl
  rw[e]at b a;exact⟨_,bC ef (c.o.get 0 l) (by simp) h i,⟨rfl,b,c.dc.cS a,c.row.cS a,c.RP,c.td,c.bd⟩,a⟩
 ·obtain⟨b,a⟩:=c.o.kF d 1 j (.cells [v] 27 0 true);have e:L.set 1 [(K.k3,.cells [v] 27 0 true)]=sk K x v z f ts ds ks tv Gq:=by rw[c.e];rfl
  rw[e]at b a;exact⟨_,bC ef (c.o.get 1 j) (by simp) h i,⟨rfl,b,c.dc.cS a,c.row.cS a,c.RP,c.td,c.bd⟩,a⟩
 ·obtain⟨b,a⟩:=c.o.kF d 2 k (.cells [v] 27 0 true);have e:L.set 2 [(K.k4,.cells [v] 27 0 true)]=sk K x y v f ts ds ks tv Gq:=by rw[c.e];rfl
  rw[e]at b a;exact⟨_,bC ef (c.o.get 2 k) (by simp) h i,⟨rfl,b,c.dc.cS a,c.row.cS a,c.RP,c.td,c.bd⟩,a⟩
theorem VC.KB(c:VC h0 K T ord outs n tr x y z f ts ds ks todo tv Gq g L):ae SS.P 27 g (pA K.k2)=some x/\ae SS.P 27 g (pA K.k3)=some y/\ae SS.P 27 g (pA K.k4)=some z:=by
 have d:L[0]?=some (ja K.k2 x):=by rw[c.e];rfl
 have a:L[1]?=some (ja K.k3 y):=by rw[c.e];rfl
 have b:L[2]?=some (ja K.k4 z):=by rw[c.e];rfl
 exact⟨aN cQ gL (c.o.get 0 d) (by simp),aN cQ gL (c.o.get 1 a) (by simp),aN cQ gL (c.o.get 2 b) (by simp)⟩
theorem VC.pop(l:Wf h0){i:Nat}{b:List Nat}(c:VC h0 K T ord outs n tr x y z f ts ds ks (i::b) tv Gq g L):∃(a:Option Addr)(m cc:Nat),bm SS.P 27 tv (some (.int .i64 1)) none none g=some (.slice a m cc)/\∃u:aY,aj SS.P 27 (pA K.Ge) (.slice a m cc) g=some (undef,u)/\VC h0 K T ord outs n tr x y z f ts ds ks b (.slice a m cc) Gq (u.app g) (sk K x y z f ts ds ks (.slice a m cc) Gq)/\eS g L (u.app g) (sk K x y z f ts ds ks (.slice a m cc) Gq):=by
 have k:L[7]?=some (ja K.Ge tv):=by rw[c.e];rfl
 have p:L[8]?=some Gq:=by rw[c.e];rfl
 obtain⟨a,m,cc,o,h⟩:=dy.tail (g:=g) (x:=iv i) (vs:=b.map iv) cQ wF c.td (c.o.PJ p);obtain⟨j,d⟩:=c.o.kF l 7 k (.cells [.slice a m cc] 27 0 true);have e:L.set 7 [(K.Ge,.cells [.slice a m cc] 27 0 true)]=sk K x y z f ts ds ks (.slice a m cc) Gq:=by rw[c.e];rfl
 rw[e]at j d;exact⟨a,m,cc,o,_,bC ef (c.o.get 7 k) (by simp) (aS ..) (cM ..),⟨rfl,j,c.dc.cS d,c.row.cS d,c.RP,h,by have:=c.bd;rw[length_cons]at this;omega⟩,d⟩
theorem VC.ldt(c:VC h0 K T ord outs n tr x y z f ts ds ks todo tv Gq g L):ae SS.P 27 g (pA K.Ge)=some tv/\Rd g 3 tv (todo.map iv)/\∃(a:Option Addr)(cc:Nat),tv = .slice a todo.length cc:=by
 have d:L[7]?=some (ja K.Ge tv):=by rw[c.e];rfl
 have b:L[8]?=some Gq:=by rw[c.e];rfl
 obtain⟨a,cc,h⟩:=c.td.mU;rw[lM]at h;exact⟨aN cQ gL (c.o.get 7 d) (by simp),c.td.rd c.o b,a,cc,h⟩
theorem Ii(s:Wf h0)(c:VC h0 K T ord outs n tr x y z f ts ds ks todo tv Gq g L)(P:(f=true/\WL T.A T.B g L x y z)\/(f=false/\Ar T.A T.B)):
  xB (ae SS.P 4 g (pA K.k5)) λG=>aQ (!G) (xU (aj SS.P 27 (pA K.k2) nA g) g λS B=>xU (aj SS.P 27 (pA K.k3) nA B) B λx2 A=>xU (aj SS.P 27 (pA K.k4) nA A) A λX C=>xU (aj SS.P 4 (pA K.k5) (.bool false) C) C λx1 F=>di SS [((pA K.k2),some 27),((pA K.k3),some 27),((pA K.k4),some 27),((pA K.k5),some 4)] F (uZ h0 T.A T.B)) (xL (ae SS.P 27 (room g 7) (pA K.k2)) λJ E I=>xL (ae SS.P 27 (room g 7) (pA K.k3)) λm l r=>xL (ae SS.P 27 (room g 7) (pA K.k4)) λj d b=>xU (aj SS.P 27 (pA K.k2) (.slice J E I) (room g 7)) (room g 7) λZ o=>xU (aj SS.P 27 (pA K.k3) (.slice m l r) o) o λx4 v=>xU (aj SS.P 27 (pA K.k4) (.slice j d b) v) v λx0 w=>xU (aj SS.P 4 (pA K.k5) (.bool true) w) w λx3 H=>(ae SS.P 27 o (pA K.k3)=some (.slice m l r)/\cZ 4 (.slice m l r) (.slice m l r)=true)/\(ae SS.P 27 o (pA K.k4)=some (.slice j d b)/\cZ 4 (.slice j d b) (.slice j d b)=true)/\(ae SS.P 27 v (pA K.k4)=some (.slice j d b)/\cZ 4 (.slice j d b) (.slice j d b)=true)/\di SS [((pA K.k2),some 27),((pA K.k3),some 27),((pA K.k4),some 27),((pA K.k5),some 4)] H (uZ h0 T.A T.B)):=by
 refine⟨_,c.Ef,ah (λq=>?_) (λq=>?_)⟩
 ·obtain rfl:f=false:=by simpa using q
  have ag:Ar T.A T.B:=by
   rcases P with⟨h,_⟩|⟨_,h⟩
   ·cases h
   ·exact h
  obtain⟨u,i,a,_⟩:=(c.words s nA rfl rfl).1;refine⟨_,i,?_⟩;obtain⟨u,i,a,_⟩:=(a.words s nA rfl rfl).2.1;refine⟨_,i,?_⟩;obtain⟨u,i,a,_⟩:=(a.words s nA rfl rfl).2.2;refine⟨_,i,?_⟩;obtain⟨u,i,a,_⟩:=a.found s false;refine⟨_,i,Lm a.KB.1 a.KB.2.1 a.KB.2.2 a.Ef ⟨_,_,_,_,_,_,_,_,_,_,rfl,a.o.ok,.inl ⟨rfl,rfl,rfl,rfl,ag⟩⟩⟩
 ·obtain rfl:f=true:=by simpa using q
  have wt:WL T.A T.B g L x y z:=by
   rcases P with⟨_,h⟩|⟨h,_⟩
   ·exact h
   ·cases h
  obtain⟨p,e,h1,h2,h3,h4,O,D,M⟩:=wt;have j1:=O;have j2:=D;have j3:=M;obtain⟨G1,W,_⟩:=j1;obtain⟨G2,r2,_⟩:=j2;obtain⟨G3,R,_⟩:=j3;obtain⟨a1,U,rfl⟩:=W.mU;obtain⟨Y,e2,rfl⟩:=r2.mU;obtain⟨a3,e3,rfl⟩:=R.mU;have V:=Cm D.rd;have N:=Cm M.rd;obtain⟨a,k⟩:=c.grow ((Ok.refl c.o.ok.wf).room 7);refine⟨_,_,_,a.KB.1,_,_,_,a.KB.2.1,_,_,_,a.KB.2.2,?_⟩;obtain⟨u,i,a,t⟩:=(a.words s (.slice a1 _ U) (aS ..) (cM ..)).1;have k:=k.trans t;refine⟨_,i,?_⟩;have Q:=a.KB;obtain⟨u,i,a,t⟩:=(a.words s (.slice Y _ e2) (aS ..) (cM ..)).2.1;have k:=k.trans t;refine⟨_,i,?_⟩;have l4:=a.KB;obtain⟨u,i,a,t⟩:=(a.words s (.slice a3 _ e3) (aS ..) (cM ..)).2.2;have k:=k.trans t;refine⟨_,i,?_⟩;obtain⟨u,i,a,t⟩:=a.found s true;have k:=k.trans t;refine⟨_,i,⟨Q.2.1,V⟩,⟨Q.2.2,N⟩,⟨l4.2.2,N⟩,Lm a.KB.1 a.KB.2.1 a.KB.2.2 a.Ef ⟨_,_,_,_,_,_,_,_,_,_,rfl,a.o.ok,.inr ⟨rfl,p,e,h1,h2,h3,h4,(O.cS k).rd,(D.cS k).rd,(M.cS k).rd⟩⟩⟩
end
def RK(g:aa)(L:List cD)(e:TypeId)(a:Nat)(v:Value)(b:List (List Value)):Prop:=∃G,fh e a v b G/\∀p∈G,Im g L p.1 p.2
theorem RK.cS{g g':aa}{L a:List cD}{e:TypeId}{b:List (List Value)}(r:RK g L e m v b)(c:eS g L g' a):RK g' a e m v b:=by
 obtain⟨G,d,f⟩:=r;exact⟨G,d,λp h=>c _ _ (f p h)⟩
theorem RK.rd{g:aa}{L:List cD}{e:TypeId}{d:List (List Value)}(r:RK g L e m v d):qA g e m v d:=by
 obtain⟨G,⟨a,⟨rfl,rfl,rfl⟩|⟨k,b,cs,c,rfl,rfl,f,i,j⟩⟩,h⟩:=r
 ·exact⟨a,.inl ⟨.inl rfl,rfl⟩⟩
 ·exact cT.rd (h0:={ g with next:=0 }) ⟨a,.inr ⟨k,b,cs,c,rfl,zero_le _,(h _ (mem_singleton.2 rfl)).1,f,i,j⟩⟩
def Dk(ord:List NN)(tr:uw)(k:NN):Option sK:=(nc ord k).bind λj=>(tr[j]?).bind λo=>o.map (·.2)
theorem Fb{ord:List NN}{tr:uw}{k:NN}{d:sK}:Dk ord tr k=some d↔ ∃j b,nc ord k=some j/\tr[j]?=some (some (b,d)):=by
 unfold Dk;constructor
 ·intro h
  cases c:nc ord k with
  |none=>rw[c]at h;cases h
  | some j=>
   rw[c]at h
   cases a:tr[j]? with
   |none=>simp[a]at h
   | some o=>
    cases o with
    |none=>simp[a]at h
    |some v=>
     obtain⟨b,e⟩:=v;simp[a]at h;subst h;exact⟨j,b,rfl,a⟩
 ·rintro⟨j,b,c,a⟩;simp[c,a]
theorem Lk{B:aH}{ord:List NN}(b:WJ M B ord){tr:uw}(h0:tr[0]?=some (some ([],([],[]))))(n:∀k,Tx tr k->As M B ord tr k):Ar M B:=by
 refine XG (Dk ord tr) ?_ (λk d m o h s c=>?_) (λk d h f=>?_)
 ·obtain⟨j,w,e⟩:=qT (List.mem_of_getElem? b.hd);have r:=(List.getElem?_eq_some_iff.1 e).1;have y:=(List.getElem?_eq_some_iff.1 b.hd).1;have:j=0:=(List.getElem?_inj r b.nd).1 (e.trans b.hd.symm);subst this;exact Fb.2 ⟨0,[],w,h0⟩
 ·obtain⟨j,g,i,a⟩:=Fb.1 h;obtain⟨_,v⟩:=n j ⟨_,a⟩ g d k a (r8 i);obtain⟨p,t,l,q,u,x⟩:=v m o s c;exact⟨t,u,Fb.2 ⟨p,l,q,x⟩⟩
 ·obtain⟨j,g,i,a⟩:=Fb.1 h;exact(n j ⟨_,a⟩ g d k a (r8 i)).1 f
section
variable {h0:aa} {K:KS} {T:eB} {ord:List NN} {outs:List (Option Nat)} {n:Nat} {tr0:uw} {xi:NN} {i ki N:Nat} {d:sK} {g:aa} {L:List cD}
theorem xk(D:Wf h0)(u:T.Rows h0)(O:Good T.A)(F:Good T.B)(V:∀s∈T.A.ak,s.an.length<=2000)(Y:∀s∈T.B.ak,s.an.length<=2000)(E:WJ T.A T.B ord)(Z:ord.length=n)(hn:n<=90000)(al:∀j x,ord[j]?=some x->Co T.A T.B x->zZ outs j)(b:ord[i]?=some xi){U:List Mv}(M:tr0[i]?=some (some (U,d))){a:Option Addr}{c:Nat}(e:VD h0 K T ord outs n tr0 xi i ki N [] d g L)(H:RK g L 105 2 (.slice a n c) (ord.map kV))(G:aa->Prop)(W:∀g' p,VD h0 K T ord outs n tr0 xi i ki N (dP T.A T.B xi) d g' p->RK g' p 105 2 (.slice a n c) (ord.map kV)->G g'):
  xA (ae SS.P 66 g (pA K.k1)) λC=>xI .i64 (ae SS.P 3 g (pA ki)) λw=>xP (ai SS.P 162 (.slice a n c) (.int .i64 w)) λv=>xA (ae SS.P 105 g (.pointer (some v))) λA=>FW SS 111 [(.agg ⟨C⟩),(.agg ⟨A⟩),(.func (.func 112) ⟨[]⟩ ⟨[(pA K.k7),(pA K.k5),(pA K.k8),(pA K.ix),(pA ki),(pA K.WA),(pA K.k9),(pA K.WB),(pA K.Ge)]⟩)] g λB q=>B=(.tuple ⟨[]⟩)/\G q:=by
 have J:=e;obtain⟨tr,x,y,z,f,ts,ds,ks,todo,tv,Gq,cc,mi,_⟩:=J;subst Z;obtain⟨kk,x1,d1,Q⟩:=Cb H.rd b;have k:=E.lt xi (List.mem_of_getElem? b);refine⟨_,kc.all cc.dc.m1.1,_,mi.ld lp ll,_,d1,_,Q,?_⟩;refine(wy D u O F V Y (h:=g) (L:=L) k.1 k.2 (fa:=[]) (fc:=[(pA K.k7),(pA K.k5),(pA K.k8),(pA K.ix),(pA ki),(pA K.WA),(pA K.k9),(pA K.WB),(pA K.Ge)]) aaN (λl g L=>VD h0 K T ord outs ord.length tr0 xi i ki N l d g L) (λl g L r=>r.ol) (λl g L g' r o=>r.grow o) e (λx0 x R I g' p e=>?_)).mono ?_
 ·have X:x∈dP T.A T.B xi:=by rw[I];simp
  have m:=fM.1 (show(x.1,x.2)∈dP T.A T.B xi from X);obtain⟨t,ht,_⟩:=qT (E.cl xi (List.mem_of_getElem? b) _ _ m);exact QL D O F (by omega) rfl al b M m ⟨t,ht⟩ e
 ·rintro _ g7 ⟨rfl,L7,P,S⟩;exact⟨rfl,W _ _ P (H.cS S)⟩
end
end
section
theorem Xb:aD SS.P 175 []=some (.agg ⟨[nA,nA]⟩):=by kernel_rfl
def DI(h0:aa)(K:KS)(T:eB)(ord:List NN)(outs:List (Option Nat))(n:Nat)(a:Option Addr)(c:Nat)(e:Nat)(g:aa):Prop:=
 ∃(d:uw)(x y z:Value)(f:Bool)(m h i:List Value)(b:List Nat)(j:Value)(l:cD)(L:List cD),VC h0 K T ord outs n d x y z f m h i b j l g L/\RK g L 105 2 (.slice a n c) (ord.map kV)/\d[0]?=some (some ([],([],[])))/\(∀k∈b,Tx d k)/\2*cY d+b.length=e/\((f=true/\WL T.A T.B g L x y z)\/(f=false/\∀k,Tx d k->k∈b\/As T.A T.B ord d k))
section
variable {h0:aa} {K:KS} {T:eB} {ord:List NN} {outs:List (Option Nat)} {n:Nat}
theorem SX(H:Wf h0)(G:T.Rows h0)(gA:Good T.A)(gB:Good T.B)(zA:∀s∈T.A.ak,s.an.length<=2000)(zB:∀s∈T.B.ak,s.an.length<=2000)(ro:WJ T.A T.B ord)(lo:ord.length=n)(hn:n<=90000)(al:∀j x,ord[j]?=some x->Co T.A T.B x->zZ outs j)(pv:LV){a:Option Addr}{c mz:Nat}{g:aa}(B:DI h0 K T ord outs n a c mz g):
  LL SS gh [1,1,1,1,1,1,1,1,1,1,1,0,0,0] (dO K.k1 K.k2 K.k3 K.k4 K.k5 K.k7 K.k8 K.k9 K.WA K.ix K.WB K.Ge a n c ()) g (KK SS gh [1,1,1,1,1,1,1,1,1,1,1,0,0] [] (EE SS gh (uZ h0 T.A T.B))):=by
 refine tZ pv K.k1 K.k2 K.k3 K.k4 K.k5 K.k7 K.k8 K.k9 K.WA K.ix K.WB K.Ge a n c (λmz _ g=>DI h0 K T ord outs n a c mz g) _ (λv7 z=>?_) mz B;clear B g mz;intro zz g B;obtain⟨C,x,y,z,f,ts,ds,ks,S,tv,Gq,L,cc,o,x9,tk,rfl,st⟩:=B;obtain⟨ld,rt,u8,ct,rfl⟩:=cc.ldt;refine⟨_,_,_,ld,ah (λq=>?_) (λq=>?_)⟩
 rotate_left
 ·have q:=dF q;obtain rfl:S=[]:=List.eq_nil_of_length_eq_zero (by omega);refine Ii H cc (st.imp id λ⟨h1,h2⟩=>⟨h1,Lk ro x9 λk R=>(h2 k R).resolve_left (λh=>by cases h)⟩)
 refine⟨_,cc.Ef,ah (λq2=>?_) (λq2=>?_)⟩
 rotate_left
 ·have hf:f=true:=by simpa using q2
  refine Ii H cc (.inl ?_);rcases st with h|⟨h,_⟩
  ·exact h
  ·rw[hf]at h;cases h
 obtain rfl:f=false:=by simpa using q2
 have q:=dT q;obtain⟨i,l,rfl⟩:∃i l,S=i::l:=by
  cases S with
  |nil=>simp at q
  |cons i l=>exact⟨i,l,rfl⟩
 have dn:∀k,Tx C k->k∈i::l\/As T.A T.B ord C k:=by
  rcases st with⟨h,_⟩|⟨_,h⟩
  ·cases h
  ·exact h
 obtain⟨⟨I,d⟩,Q⟩:=tk i (mem_cons_self ..);obtain⟨F,t,z5,y4,u6⟩:=cc.RP i I d Q;have u3:=cc.row.lt;have B:i<n:=by have:=(List.getElem?_eq_some_iff.1 t).1;omega
 obtain⟨p0,i1,i2⟩:=rt.at_ cQ wF lp ll (k:= .i64) (i:=((0:Nat):Int)) (by omega) (by simp);have i2:ae SS.P 3 g (.pointer (some p0))=some (iA i):=i2;refine⟨_,_,_,ld,_,i1,_,i2,_,al3,?_⟩;obtain⟨u1,z3,e1,m1⟩:=cc.o.cell (P:=SS.P) wF (.int .i64 0) (v:=iA i) rfl rfl;refine⟨u1,z3,?_⟩;obtain⟨cc,cg⟩:=cc.grow e1;have o:=o.cS cg;generalize u1.app (g.push (.cells [.int .i64 0] 3 0 true))=g1 at*;obtain⟨a',m',c',sl,u2,y5,c2,x8⟩:=cc.pop H;refine⟨_,_,_,cc.ldt.1,_,_,_,sl,_,y5,?_⟩;have o:=o.cS x8;have r:=x8 _ _ m1;generalize u2.app g1=g2 at*;generalize u4:g.next=ki at*;have z0:2*cY C+l.length<=2*cY C+l.length:=Nat.le_refl _;have M:∀(E:aa)(D:List cD),VD h0 K T ord outs n C F i ki (2*cY C+l.length) (dP T.A T.B F) d E D->RK E D 105 2 (.slice a n c) (ord.map kV)->aJ (fB (dO K.k1 K.k2 K.k3 K.k4 K.k5 K.k7 K.k8 K.k9 K.WA K.ix K.WB K.Ge a n c) (λmz (_:Unit) g=>DI h0 K T ord outs n a c mz g)) (2*cY C+(i::l).length) [(pA K.k1),(pA K.k2),(pA K.k3),(pA K.k4),(pA K.k5),(.slice a n c),(pA K.k7),(pA K.k8),(pA K.k9),(pA K.WA),(pA K.ix),(pA K.WB),(pA K.Ge)] E:=by
  rintro E D ⟨x4,J,N,O,U,y7,y9,y6,V,z6,z9,c',v6,ex,kn,me,z7⟩ z8;refine cK (a:=()) (2*cY x4+V.length) (by rw[length_cons];omega) ⟨x4,J,N,O,U,y7,y9,y6,V,z6,z9,D,c',z8,ex _ _ x9,kn.2,rfl,z7.imp id λ⟨h1,h2,h3⟩=>⟨h1,λk R=>?_⟩⟩;rcases kn.1 k R with h|rfl|h
  ·exact .inl h
  ·refine .inr λu5 d' x0 e1 e2=>?_;have e3:=oI (oI ((ex _ _ Q).symm.trans e1));injection e3 with e4 e5
   subst e4;subst e5;obtain rfl:=oI (t.symm.trans e2);exact⟨h2,λm k' s=>h3 _ (fM.2 s)⟩
  ·exact .inr h
 have vd:∀{E:aa}{D:List cD}{J N O:Value}{U:Bool},VC h0 K T ord outs n C J N O U ts ds ks l (.slice a' m' c') Gq E D->Im E D ki (.cells [iA i] 3 0 true)->((U=true/\WL T.A T.B E D J N O)\/(U=false/\(lI T.A T.B F->d=([],[]))))->VD h0 K T ord outs n C F i ki (2*cY C+l.length) [] d E D:=λ{E D J N O U} cv mv sv=>⟨C,J,N,O,U,ts,ds,ks,l,_,Gq,cv,mv,qi.refl _,⟨λk R=>by
   rcases dn k R with h|h
   ·rcases mem_cons.1 h with rfl|h
    ·exact .inr (.inl rfl)
    ·exact .inl h
   ·exact .inr (.inr h),λk R=>tk k (mem_cons_of_mem _ R)⟩,z0,sv.imp id λ⟨h1,h2⟩=>⟨h1,h2,λw Y=>by cases Y⟩⟩
 have u0:=o;obtain⟨c3,x6⟩:=c2.grow ((Ok.refl c2.o.ok.wf).room 15);have o:=o.cS x6;have r:=x6 _ _ r;have y8:=lo;subst y8;obtain⟨kk,v8,d1,d2⟩:=Cb o.rd t;have x2:=ro.lt F (List.mem_of_getElem? t);refine⟨_,kc.all c3.dc.m1.1,_,r.ld lp ll,_,d1,_,d2,?_⟩;refine(Jr c3.o.ok.wf (G.ok c3.o.ok) x2.1 x2.2).mono ?_;rintro _ g4 ⟨rfl,e4⟩;obtain⟨X,x7⟩:=c3.grow e4;have o:=o.cS x7;have r:=x7 _ _ r;refine⟨_,rfl,ah (λW=>?_) (λW=>?_)⟩
 ·rw[and_eq_true]at W;have f2:lI T.A T.B F:=⟨fY.1 W.1,fY.1 W.2⟩
  obtain⟨p,b,n2,f1,b',v0,u9,v1,v2,v3,v4,v5⟩:=X.ways Q;obtain⟨y1,y2⟩:=uX y4;have l1:(wL I).length<=I.length:=dM Mv.l _;have l2:(wR I).length<=I.length:=dM Mv.r _;refine⟨_,_,_,X.dly,_,r.ld lp ll,_,Yf B,_,v3,_,Xb,(Ig X.o.ok.wf (x:=d) (y:=([],[])) v4.rd v5.rd (.inl ⟨rfl,rfl⟩) (.inl ⟨rfl,rfl⟩) (by omega) (by omega)).mono ?_⟩;rintro _ g5 ⟨rfl,e5⟩;obtain⟨c5,y3⟩:=X.grow e5;have o:=o.cS y3;have r:=y3 _ _ r;refine⟨_,rfl,ah (λq4=>?_) (λq4=>?_)⟩
  ·have z4:d≠([],[]):=by simpa using q4
   obtain⟨kr,x5⟩:=al i F t ⟨[],F,.nil _,f2⟩;obtain⟨J,ns,e,z1,lr,r2,z2,hz,u7⟩:=c5.dc.ok i kr x5;obtain rfl:=oI (t.symm.trans z1);obtain rfl:=hz f2;obtain⟨Z,x1⟩:=c5.grow ((Ok.refl c5.o.ok.wf).room 11);have o:=o.cS x1;have r:=x1 _ _ r;obtain⟨p,_,_,_,_,_,_,w1,w2,_⟩:=Z.ways Q;refine⟨_,_,_,Z.prv,_,_,_,Z.trl,_,r.ld lp ll,_,mF xT Cf B,_,w1,_,_,_,Z.rst,_,r.ld lp ll,_,mF ib jV B,_,Z.out x5,ah (λ_=>?_) (λq=>by rw[Fv]at q;cases q)⟩;have hl:I.length+([]:List Mv).length<=1000000:=by rw[List.length_nil];omega
   refine(Z.prove H gA gB w2 (lr.mono x1) z5 r2 z2 hl).mono ?_;rintro _ g7 ⟨rfl,J,N,O,c7,y0,Y⟩;have hd:=XI y4 z4;rw[append_nil]at Y⊢;obtain⟨u,s1,c8,x3⟩:=c7.found H (!decide (wL I=wR I));refine⟨_,rfl,_,s1,?_⟩;have o:=o.cS (y0.trans x3);have r:=(y0.trans x3) _ _ r;have Y:=(Y hd).cS x3;generalize u.app g7=g8 at*;obtain⟨c9,A⟩:=c8.grow ((Ok.refl c8.o.ok.wf).room 7);refine xk H G gA gB zA zB ro rfl hn al t Q (vd c9 (A _ _ r) (.inl ⟨by rw[decide_eq_false hd];rfl,Y.cS A⟩)) (o.cS A) _ M
  ·have he:d=([],[]):=by simpa using q4
   obtain⟨c9,A⟩:=c5.grow ((Ok.refl c5.o.ok.wf).room 7);refine xk H G gA gB zA zB ro rfl hn al t Q (vd c9 (A _ _ r) (.inr ⟨rfl,λ_=>he⟩)) (o.cS A) _ M
 ·have nf:¬lI T.A T.B F:=λh=>by
   rw[fY.2 h.1,fY.2 h.2]at W;cases W
  obtain⟨c9,A⟩:=X.grow ((Ok.refl X.o.ok.wf).room 7);refine xk H G gA gB zA zB ro rfl hn al t Q (vd c9 (A _ _ r) (.inr ⟨rfl,λh=>absurd h nf⟩)) (o.cS A) _ M
end
end
section
theorem OL.perm{h0 g:aa}{L L':List cD}(o:OL h0 g L)(p:L.flatten.Perm L'.flatten):OL h0 g L'/\eS g L g L':=by
 have b:(keys L).Perm (keys L'):=p.map _;exact⟨⟨o.ok,b.nodup_iff.1 o.nd,λk a=>o.lo k (b.mem_iff.2 a),λq c=>o.at_ q (p.mem_iff.2 c)⟩,λk B m=>⟨m.1,λa=>m.2 (b.mem_iff.2 a)⟩⟩
theorem RK.abp{h0 g:aa}{L:List cD}{e:TypeId}{d:List (List Value)}(o:OL h0 g L)(i:cT g h e n v d):RK h L e n v d:=by
 obtain⟨j,⟨rfl,rfl⟩|⟨k,b,cs,c,rfl,l,f,m,r,q⟩⟩:=i
 ·exact⟨[],fh.nil ..,λp a=>by cases a⟩
 ·exact⟨_,⟨j,.inr ⟨k,b,cs,c,rfl,rfl,m,r,q⟩⟩,λp a=>by obtain rfl:=mem_singleton.1 a;exact o.new l f⟩
theorem rj{l:List Nat}{x:List Int}(r:dx M n l m x p)(g:Good M)(b:fX M m):ij (λp x=>iD M x p) (PE M) n:=by
 induction r with
 |nil n=>
  refine .base ?_;unfold fX at b;by_cases c:n<M.ak.length
  ·rw[gD,gE c]at b;exact⟨_,gE c,b⟩
  ·rw[gD,getElem?_eq_none (by omega)]at b;exact absurd rfl b
 |@cons n i m a l x p h r e=>
  refine .step (e b) ?_;by_cases c:n<M.ak.length
  ·obtain⟨t,f,d,_⟩:=jB c;rw[d]at h;exact⟨t,f,mem_map.2 ⟨a,List.mem_of_getElem? h,rfl⟩⟩
  ·unfold bD at h;rw[gD,getElem?_eq_none (l:=M.ak) (by omega)]at h;simp at h
theorem Ba(g:Good M)(h:A9 M=true):∀l x y,¬uy M l x y:=by
 rintro l x y ⟨e,r,f⟩;unfold A9 at h;rw[and_eq_true]at h;have a:=h.2;simp only[Bool.not_eq_true',decide_eq_false_iff_not]at a;exact a ⟨.base rfl,rj r g f⟩
theorem ZY:aA SS.P 109=some (.cells [nA] 109 0 true,dX):=by kernel_rfl
theorem acx:aA SS.P 172=some (.cells [nA] 172 0 true,dX):=by kernel_rfl
theorem acw:aA SS.P 171=some (.cells [.nilFunc] 171 0 true,dX):=by kernel_rfl
theorem acD:aA SS.P 68=some (.cells [nA] 68 0 true,dX):=by kernel_rfl
theorem al4:aA SS.P 4=some (.cells [.bool false] 4 0 true,dX):=by kernel_rfl
theorem aaD:aA SS.P 163=some (.cells [.map none] 163 0 true,dX):=by kernel_rfl
theorem MW:au SS.P 109=some 1:=by kernel_rfl
theorem abO:au SS.P 172=some 1:=by kernel_rfl
theorem abN:au SS.P 171=some 1:=by kernel_rfl
theorem abR:au SS.P 68=some 1:=by kernel_rfl
noncomputable def OJ:TypeInfo:=(SS.P.info? 112).getD default
theorem VK:SS.P.info? 112=some OJ:=by kernel_rfl
theorem CE:OJ.size=1:=by kernel_rfl
theorem zo:OJ.bytes=8:=by kernel_rfl
theorem ZJ:zeroOf SS.P 112=some (.pointer none):=by kernel_rfl
theorem adl(n:Nat)(a:n<=100000):aR SS.P 109 (.int .i64 (n:Int)) (.int .i64 (n:Int))=some (.cells (List.replicate n (.pointer none)) 112 1 true,jc n n):=by
 unfold aR aT;dsimp only;rw[xT]
 try dsimp only
 change (match SS.P.info? 112,zeroOf SS.P 112 with
  |some i,some z=>(if z.cells.size=i.size/\0<i.size/\(0:Int)<=(n:Int)/\(n:Int)<=(n:Int)/\(n:Int)*i.bytes<=140737488355328/\(n:Int)<=1099511627776 then some (bw.cells (bG z.cells.toList (n:Int).toNat) 112 i.size true,λk=>Value.slice (some ⟨k,0,none⟩) (n:Int).toNat (n:Int).toNat)else none)
  |_,_=>none)=_
 rw[VK,ZJ];dsimp only;rw[CE,zo,if_pos ⟨rfl,by omega,by omega,Int.le_refl _,by omega,by omega⟩];have e:((n:Int)).toNat=n:=by omega
 rw[e,show(Value.pointer none).cells.toList=[.pointer none]from rfl,lj];rfl
noncomputable def VN:TypeInfo:=(SS.P.info? 175).getD default
theorem VO:SS.P.info? 175=some VN:=by kernel_rfl
theorem M5:VN.size=2:=by kernel_rfl
theorem Kg:VN.bytes=48:=by kernel_rfl
theorem ZL:zeroOf SS.P 175=some (.agg ⟨[nA,nA]⟩):=by kernel_rfl
theorem adp(n:Nat)(a:n<=100000):aR SS.P 172 (.int .i64 (n:Int)) (.int .i64 (n:Int))=some (.cells (List.replicate n [nA,nA]).flatten 175 2 true,jc n n):=by
 unfold aR aT;dsimp only;rw[YX]
 try dsimp only
 change (match SS.P.info? 175,zeroOf SS.P 175 with
  |some i,some z=>(if z.cells.size=i.size/\0<i.size/\(0:Int)<=(n:Int)/\(n:Int)<=(n:Int)/\(n:Int)*i.bytes<=140737488355328/\(n:Int)<=1099511627776 then some (bw.cells (bG z.cells.toList (n:Int).toNat) 175 i.size true,λk=>Value.slice (some ⟨k,0,none⟩) (n:Int).toNat (n:Int).toNat)else none)
  |_,_=>none)=_
 rw[VO,ZL];dsimp only;rw[M5,Kg,if_pos ⟨rfl,by omega,by omega,Int.le_refl _,by omega,by omega⟩];have e:((n:Int)).toNat=n:=by omega
 rw[e,show(Value.agg ⟨[nA,nA]⟩).cells.toList=[nA,nA]from rfl,pR];rfl
section
variable {h0:aa} {T:eB} {g:aa} {L:List cD}
theorem A7(n:Wf h0)(o:OL h0 g L){b d c a:Nat}{x y z:Value}{f:Bool}{R:List cD}(e:L=[ja b x,ja d y,ja c z,[(a,.cells [.bool f] 4 0 true)]]++R)(C:Ar T.A T.B):
  xU (aj SS.P 27 (pA b) nA g) g λw l=>xU (aj SS.P 27 (pA d) nA l) l λE j=>xU (aj SS.P 27 (pA c) nA j) j λA m=>xU (aj SS.P 4 (pA a) (.bool false) m) m λD q=>di SS [((pA b),some 27),((pA d),some 27),((pA c),some 27),((pA a),some 4)] q (uZ h0 T.A T.B):=by
 subst e;obtain⟨p,_⟩:=o.kF n 0 (k:=b) (B:= .cells [x] 27 0 true) rfl (.cells [nA] 27 0 true);have h:aj SS.P 27 (pA b) nA g=some (undef,.set b (.cells [nA] 27 0 true)):=bC ef (cs:=[x]) (o.get 0 rfl) (by simp) rfl rfl;refine⟨_,h,?_⟩;change OL h0 _ ([ja b nA,ja d y,ja c z,[(a,.cells [.bool f] 4 0 true)]]++R)at p;generalize (aY.set b (.cells [nA] 27 0 true)).app g=u at*;obtain⟨s,_⟩:=p.kF n 1 (k:=d) (B:= .cells [y] 27 0 true) rfl (.cells [nA] 27 0 true);have h:aj SS.P 27 (pA d) nA u=some (undef,.set d (.cells [nA] 27 0 true)):=bC ef (cs:=[y]) (p.get 1 rfl) (by simp) rfl rfl;refine⟨_,h,?_⟩;change OL h0 _ ([ja b nA,ja d nA,ja c z,[(a,.cells [.bool f] 4 0 true)]]++R)at s;generalize (aY.set d (.cells [nA] 27 0 true)).app u=t at*;obtain⟨r,_⟩:=s.kF n 2 (k:=c) (B:= .cells [z] 27 0 true) rfl (.cells [nA] 27 0 true);have h:aj SS.P 27 (pA c) nA t=some (undef,.set c (.cells [nA] 27 0 true)):=bC ef (cs:=[z]) (s.get 2 rfl) (by simp) rfl rfl;refine⟨_,h,?_⟩;change OL h0 _ ([ja b nA,ja d nA,ja c nA,[(a,.cells [.bool f] 4 0 true)]]++R)at r;generalize (aY.set c (.cells [nA] 27 0 true)).app t=v at*;obtain⟨i,_⟩:=r.kF n 3 (k:=a) (B:= .cells [.bool f] 4 0 true) rfl (.cells [.bool false] 4 0 true);have h:aj SS.P 4 (pA a) (.bool false) v=some (undef,.set a (.cells [.bool false] 4 0 true)):=bC q4s (cs:=[.bool f]) (r.get 3 rfl) (by simp) rfl rfl;refine⟨_,h,?_⟩;change OL h0 _ ([ja b nA,ja d nA,ja c nA,[(a,.cells [.bool false] 4 0 true)]]++R)at i;generalize (aY.set a (.cells [.bool false] 4 0 true)).app v=F at*;exact Lm (aN cQ gL (i.get 0 rfl) (by simp)) (aN cQ gL (i.get 1 rfl) (by simp)) (aN cQ gL (i.get 2 rfl) (by simp)) (aN q4 q4a (k:=a) (cs:=[.bool false]) (e:=4) (sz:=0) (wr:=true) (i.get 3 rfl) (by simp)) ⟨_,_,_,_,_,_,_,_,_,_,rfl,i.ok,.inl ⟨rfl,rfl,rfl,rfl,C⟩⟩
end
end
def CF(n:Nat):uw:=(List.replicate n none).set 0 (some ([],([],[])))
theorem Hh{a:List Mv}{d:sK}(h:(CF n)[k]?=some (some (a,d))):k=0/\a=[]/\d=([],[]):=by
 unfold CF at h;rw[getElem?_set]at h;by_cases e:0=k
 ·rw[if_pos e]at h;split at h
  ·have:=oI (oI h);injection this with b c
   exact⟨e.symm,b.symm,c.symm⟩
  ·cases h
 ·rw[if_neg e,List.getElem?_replicate]at h;split at h<;>cases h
theorem E3(a:0<n):(CF n)[0]?=some (some ([],([],[]))):=by
 unfold CF;rw[getElem?_set,if_pos rfl,if_pos (by rw[List.length_replicate];exact a)]
theorem Nc(a:0<n):cY (CF n)+1<=n:=by
 have h:(List.replicate n (none:Option (List Mv×sK)))[0]?=some none:=by rw[List.getElem?_replicate,if_pos a]
 have:=iT (([],([],[])):List Mv×sK) h;have b:=Jj (List.replicate n (none:Option (List Mv×sK)));rw[List.length_replicate]at b;unfold CF;omega
theorem Zz{L:List cD}(b:0<n):yE g L n (CF n) (List.replicate n (.pointer none)) (List.replicate n [nA,nA]).flatten (((List.replicate n false).map Value.bool).set 0 (.bool true)):=by
 refine⟨by unfold CF;simp,by simp,by simp[List.length_flatten];omega,by simp,λk v h=>?_,λk i d h=>?_⟩
 ·unfold CF at h;rw[getElem?_set]at h⊢;by_cases e:0=k
  ·rw[if_pos e]at h⊢;rw[if_pos (by simpa using b)];split at h
   ·obtain rfl:=oI h;rfl
   ·cases h
  ·rw[if_neg e,List.getElem?_replicate]at h;rw[if_neg e,getElem?_map,List.getElem?_replicate];split at h
   ·next c=>
    obtain rfl:=oI h;rw[if_pos c];rfl
   ·cases h
 ·obtain⟨rfl,rfl,rfl⟩:=Hh h;obtain⟨m,rfl⟩:∃m,n=m+1:=⟨n-1,by omega⟩
  have a:sL g L 3 nA ([].map zV):=⟨[],dy.nil 3,λp f=>by cases f⟩
  exact⟨none,nA,nA,by simp[List.replicate_succ],.nil,by simp[List.replicate_succ],by simp[List.replicate_succ],a,a⟩
theorem kc.lA{T:eB}(h:g.get k=some (kc T)):ae SS.P 24 g (.pointer (some ⟨k,0,none⟩))=some (.agg ⟨ba T.A T.a T.n T.c⟩):=fE ym wQ iZ h (by simp[eB.arg,ba])
theorem kc.lB{T:eB}(h:g.get k=some (kc T)):ae SS.P 24 g (.pointer (some ⟨k,4,none⟩))=some (.agg ⟨ba T.B T.b T.m T.d⟩):=fE ym wQ iZ h (by simp[eB.arg,ba])
theorem Uu(A:List cD)(G a:cD):(A++[G,a]).flatten.Perm (A++[a,G]).flatten:=by
 rw[List.flatten_append,List.flatten_append];refine List.Perm.append_left _ ?_;simp only[List.flatten_cons,List.flatten_nil,append_nil];exact List.perm_append_comm
theorem Mi{T:eB}(tb:sO h)(w:Wf h)(x2:Small T.A)(x0:Small T.B)(U:T.Rows h)(gA:Good T.A)(gB:Good T.B):FW SS 47 [.agg ⟨T.arg⟩] h (uZ h T.A T.B):=by
 have zA:=x2.an;have zB:=x0.an;refine Mh T.arg h _ ⟨_,H5 T,_,HR,_,HR,_,HR,_,al4,?_⟩;have o0:=OL.nil (Ok.refl w);have g:=o0.fe (kc T);obtain⟨o1,_⟩:=o0.grow ((Ok.refl w).push (kc T));generalize q3:h.next=k1 at*;generalize h.push (kc T)=g1 at*;obtain⟨o2,c2⟩:=o1.push (.cells [nA] 27 0 true);have g:=c2 _ _ g;generalize j3:g1.next=k2 at*;generalize g1.push (.cells [nA] 27 0 true)=g2 at*;obtain⟨o3,c3⟩:=o2.push (.cells [nA] 27 0 true);have g:=c3 _ _ g;generalize q4:g2.next=k3 at*;generalize g2.push (.cells [nA] 27 0 true)=g3 at*;obtain⟨o4,c4⟩:=o3.push (.cells [nA] 27 0 true);have g:=c4 _ _ g;generalize j2:g3.next=k4 at*;generalize g3.push (.cells [nA] 27 0 true)=g4 at*;obtain⟨o5,c5⟩:=o4.push (.cells [.bool false] 4 0 true);have g:=c5 _ _ g;generalize j7:g4.next=k5 at*;generalize g4.push (.cells [.bool false] 4 0 true)=g5 at*;change OL h g5 [ja k2 nA,ja k3 nA,ja k4 nA,[(k5,.cells [.bool false] 4 0 true)]]at o5;change Im g5 [ja k2 nA,ja k3 nA,ja k4 nA,[(k5,.cells [.bool false] 4 0 true)]] k1 (kc T)at g;clear c2 c3 c4 c5 o1 o2 o3 o4;refine⟨_,FP _,_,kc.lA g.1,(Er (tb.ok o5.ok) o5.ok.wf x2 (U.ok o5.ok).ra).mono ?_⟩;rintro _ g6 ⟨rfl,e6⟩;obtain⟨o6,c6⟩:=o5.grow e6;have g:=c6 _ _ g;refine⟨_,rfl,ah (λq=>?_) (λq=>?_)⟩
 ·exact A7 w o6 (R:=[]) (by rw[append_nil]) λl l' x y z h _=>absurd h (Ba gA q l x y)
 refine⟨_,Br _,_,kc.lB g.1,(Er (tb.ok o6.ok) o6.ok.wf x0 (U.ok o6.ok).rb).mono ?_⟩;rintro _ g7 ⟨rfl,e7⟩;obtain⟨o7,c7⟩:=o6.grow e7;have g:=c7 _ _ g;refine⟨_,rfl,ah (λq=>?_) (λq=>?_)⟩
 ·exact A7 w o7 (R:=[]) (by rw[append_nil]) λl l' x y z _ h=>absurd h (Ba gB q l' x z)
 refine⟨_,kc.all g.1,(Jt o7.ok.wf (U.ok o7.ok) gA gB zA zB x2.He x0.He).mono ?_⟩;rintro _ g8 ⟨b,a,n,c,km,rfl,ro,ow,z6,w0,_,e8⟩;have w6:=nD ro.nd ro.lt;have j1:T.A.ak.length*T.B.ak.length<=90000:=Nat.mul_le_mul x2.He x0.He;have hn:b.length<=90000:=by omega
 have S:0<b.length:=(List.getElem?_eq_some_iff.1 ro.hd).1;have j:=RK.abp o7 ow;obtain rfl:n=b.length:=by
  obtain⟨G,r,_⟩:=j;rw[r.len,lM]
 have p:=o7.new w0 z6;obtain⟨o8,c8⟩:=o7.grow e8;have g:=c8 _ _ g;refine⟨_,_,_,_,rfl,_,aaD,?_⟩;obtain⟨u,s9,e9,s⟩:=o8.cell (P:=SS.P) MZ (.map none) (v:= .map (some km)) rfl rfl;refine⟨u,s9,?_⟩;obtain⟨o9,c9⟩:=o8.grow e9;have g:=c9 _ _ g;have p:=c9 _ _ p;have j:=j.cS c9;generalize q2:g8.next=k7 at*;generalize u.app (g8.push (.cells [.map none] 163 0 true))=g9 at*;refine⟨_,kc.all g.1,_,s.ld oq qD,(QJ o9.ok.wf (U.ok o9.ok) gA gB zA zB ro hn j.rd p.1).mono ?_⟩;rintro _ x6 ⟨ko,z3,rfl,u0,z4,lo,t,al,u3⟩;have A:=o9.new z4 u0;obtain⟨x7,x3⟩:=o9.grow u3;have t:=t.mono (I':=Im x6 [ja k2 nA,ja k3 nA,ja k4 nA,[(k5,.cells [.bool false] 4 0 true)]]) λk B m=>o9.new m.2 m.1;have g:=x3 _ _ g;have p:=x3 _ _ p;have s:=x3 _ _ s;have j:=j.cS x3;refine⟨_,_,_,rfl,_,Z0,?_⟩;obtain⟨u,z8,w4,C⟩:=x7.cell (P:=SS.P) VA nA (v:=sA ko b.length b.length) rfl rfl;refine⟨u,z8,?_⟩;obtain⟨x4,Z⟩:=x7.grow w4;have g:=Z _ _ g;have p:=Z _ _ p;have s:=Z _ _ s;have A:=Z _ _ A;have t:=t.mono Z;have j:=j.cS Z;generalize j4:x6.next=k8 at*;generalize u.app (x6.push (.cells [nA] 166 0 true))=x5 at*;obtain⟨o,ho⟩:∃o,z3[0]?=some o:=⟨_,gE (by omega)⟩
 have x8:ae SS.P 168 x5 (.pointer (some ⟨ko,0,none⟩))=some (Dz o):=by
  rw[aN Kk HP A.1 (by rw[lM];omega),gD,getElem?_map,ho];rfl
 refine⟨_,_,_,C.ld ib uO,_,mF (i:=0) ib jV S,_,x8,_,FI _,ah (λq=>?_) (λq=>?_)⟩
 ·refine A7 w x4 (R:=[]) (by rw[append_nil]) (DT.2 λms e r f=>?_);obtain⟨k,X⟩:=al 0 _ ro.hd ⟨ms,e,r,f⟩;rw[ho]at X;obtain rfl:=oI X
  cases q
 clear x8;refine⟨_,acw,?_⟩;obtain⟨u,v6,u6,J⟩:=x4.cell (P:=SS.P) abN .nilFunc (v:= .func (.func 107) ⟨[]⟩ ⟨[pA k2,pA k3,pA k4]⟩) rfl rfl;refine⟨u,v6,?_⟩;obtain⟨v4,V⟩:=x4.grow u6;have g:=V _ _ g;have p:=V _ _ p;have s:=V _ _ s;have C:=V _ _ C;have A:=V _ _ A;have t:=t.mono V;have j:=j.cS V;generalize j9:x5.next=k9 at*;generalize u.app (x5.push (.cells [.nilFunc] 171 0 true))=x9 at*;refine⟨_,_,_,adl _ (by omega),?_⟩;obtain⟨y3,N⟩:=v4.push (.cells (List.replicate b.length (.pointer none)) 112 1 true);have g:=N _ _ g;have p:=N _ _ p;have s:=N _ _ s;have C:=N _ _ C;have J:=N _ _ J;have A:=N _ _ A;have t:=t.mono N;have j:=j.cS N;generalize q1:x9.next=kt at*;generalize x9.push (.cells (List.replicate b.length (.pointer none)) 112 1 true)=y1 at*;refine⟨_,ZY,?_⟩;obtain⟨u,v3,v0,D⟩:=y3.cell (P:=SS.P) MW nA (v:=sA kt b.length b.length) rfl rfl;refine⟨u,v3,?_⟩;obtain⟨u5,O⟩:=y3.grow v0;have g:=O _ _ g;have p:=O _ _ p;have s:=O _ _ s;have C:=O _ _ C;have J:=O _ _ J;have A:=O _ _ A;have t:=t.mono O;have j:=j.cS O;generalize w8:y1.next=u4 at*;generalize u.app (y1.push (.cells [nA] 109 0 true))=y2 at*;refine⟨_,_,_,adp _ (by omega),?_⟩;obtain⟨z2,M⟩:=u5.push (.cells (List.replicate b.length [nA,nA]).flatten 175 2 true);have g:=M _ _ g;have p:=M _ _ p;have s:=M _ _ s;have C:=M _ _ C;have J:=M _ _ J;have D:=M _ _ D;have A:=M _ _ A;have t:=t.mono M;have j:=j.cS M;generalize j8:y2.next=kd at*;generalize y2.push (.cells (List.replicate b.length [nA,nA]).flatten 175 2 true)=y5 at*;refine⟨_,acx,?_⟩;obtain⟨u,w5,v7,Q⟩:=z2.cell (P:=SS.P) abO nA (v:=sA kd b.length b.length) rfl rfl;refine⟨u,w5,?_⟩;obtain⟨v2,L⟩:=z2.grow v7;have g:=L _ _ g;have p:=L _ _ p;have s:=L _ _ s;have C:=L _ _ C;have J:=L _ _ J;have D:=L _ _ D;have A:=L _ _ A;have t:=t.mono L;have j:=j.cS L;generalize j0:y5.next=u1 at*;generalize u.app (y5.push (.cells [nA] 172 0 true))=y4 at*;refine⟨_,_,_,adq _ (by omega),?_⟩;obtain⟨y0,H⟩:=v2.push (.cells ((List.replicate b.length false).map Value.bool) 4 1 true);have g:=H _ _ g;have p:=H _ _ p;have s:=H _ _ s;have C:=H _ _ C;have J:=H _ _ J;have D:=H _ _ D;have Q:=H _ _ Q;have A:=H _ _ A;have t:=t.mono H;have j:=j.cS H;generalize j5:y4.next=kk at*;generalize y4.push (.cells ((List.replicate b.length false).map Value.bool) 4 1 true)=z1 at*;refine⟨_,acD,?_⟩;obtain⟨u,u9,v8,x1⟩:=y0.cell (P:=SS.P) abR nA (v:=sA kk b.length b.length) rfl rfl;refine⟨u,u9,?_⟩;obtain⟨y6,I⟩:=y0.grow v8;have g:=I _ _ g;have p:=I _ _ p;have s:=I _ _ s;have C:=I _ _ C;have J:=I _ _ J;have D:=I _ _ D;have Q:=I _ _ Q;have A:=I _ _ A;have t:=t.mono I;have j:=j.cS I;generalize w9:z1.next=u7 at*;generalize u.app (z1.push (.cells [nA] 68 0 true))=v1 at*;obtain⟨u8,E⟩:=y6.kF w 6 (k:=kk) (B:= .cells ((List.replicate b.length false).map Value.bool) 4 1 true) rfl (.cells (((List.replicate b.length false).map Value.bool).set 0 (.bool true)) 4 1 true);refine⟨_,_,_,x1.ld q68 adz,_,mF (i:=0) q68 q4s S,_,bC q4s (k:=kk) (y6.get 6 rfl) (by simpa using S) rfl rfl,_,_,_,tH 0,_,HR,?_⟩;have g:=E _ _ g;have p:=E _ _ p;have s:=E _ _ s;have C:=E _ _ C;have J:=E _ _ J;have D:=E _ _ D;have Q:=E _ _ Q;have x1:=E _ _ x1;have A:=E _ _ A;have t:=t.mono E;have j:=j.cS E;generalize (aY.set kk (.cells (((List.replicate b.length false).map Value.bool).set 0 (.bool true)) 4 1 true)).app v1=y7 at*;obtain⟨w3,v5⟩:=u8.push (.cells [.int .i64 0] 3 1 true);have F:=v5;generalize j6:y7.next=W at*;generalize y7.push (.cells [.int .i64 0] 3 1 true)=z0 at*
 obtain⟨y9,z5⟩:=w3.push (.cells [nA] 27 0 true);have F:=F.trans z5;generalize w7:z0.next=Y at*;generalize z0.push (.cells [nA] 27 0 true)=y8 at*;obtain⟨z7,z9⟩:=y9.kF w 8 (k:=Y) (B:= .cells [nA] 27 0 true) rfl (.cells [sA W 1 1] 27 0 true);have F:=F.trans z9;have w1:aj SS.P 27 (pA Y) (sA W 1 1) y8=some (undef,.set Y (.cells [sA W 1 1] 27 0 true)):=bC ef (cs:=[nA]) (y9.get 8 rfl) (by simp) rfl rfl;refine⟨_,w1,?_⟩;generalize (aY.set Y (.cells [sA W 1 1] 27 0 true)).app y8=q0 at*
 let K:KS:=⟨k1,k2,k3,k4,k5,k7,k8,k9,u4,u1,u7,Y,kt,kd,kk,km,ko⟩
 obtain⟨v9,u2⟩:=OL.perm (L':=sk K nA nA nA false (List.replicate b.length (.pointer none)) (List.replicate b.length [nA,nA]).flatten (((List.replicate b.length false).map Value.bool).set 0 (.bool true)) (sA W 1 1) [(W,.cells [.int .i64 0] 3 1 true)]) z7 (Uu [ja k2 nA,ja k3 nA,ja k4 nA,[(k5,.cells [.bool false] 4 0 true)],[(kt,.cells (List.replicate b.length (.pointer none)) 112 1 true)],[(kd,.cells (List.replicate b.length [nA,nA]).flatten 175 2 true)],[(kk,.cells (((List.replicate b.length false).map Value.bool).set 0 (.bool true)) 4 1 true)]] [(W,.cells [.int .i64 0] 3 1 true)] (ja Y (sA W 1 1)));have F:=F.trans u2;have w2:dy 3 (sA W 1 1) (([0]:List Nat).map iv) [(W,.cells [.int .i64 0] 3 1 true)]:=fh.made (rs:=[[.int .i64 0]]) (by simp) (by decide +kernel);refine SX (K:=K) (mz:=2*cY (CF b.length)+1) w U gA gB zA zB ro rfl hn al T.arg ⟨CF b.length,nA,nA,nA,false,_,_,_,[0],_,_,_,⟨rfl,v9,⟨F _ _ g,F _ _ s,F _ _ p,F _ _ C,F _ _ A,F _ _ J,F _ _ D,F _ _ Q,F _ _ x1,lo,t.mono F⟩,Zz S,λk ms d X=>?_,w2,?_⟩,j.cS F,E3 S,λk X=>?_,rfl,.inr ⟨rfl,λk X=>?_⟩⟩
 ·obtain⟨rfl,rfl,rfl⟩:=Hh X;exact⟨_,ro.hd,.nil _,rfl,by rw[List.length_nil,zero_add];exact Jj _⟩
 ·have:=Nc S;rw[length_singleton];omega
 ·obtain rfl:=mem_singleton.1 X;exact⟨_,E3 S⟩
 ·obtain⟨⟨ms,d⟩,X⟩:=X;obtain⟨rfl,_⟩:=Hh X;exact .inl (mem_singleton.2 rfl)
variable{N:eC}{D:cq}
section
theorem Q1{M:aH}{ord:List Nat}(l:Good M)(e:M.start.toNat∈ord):Good (ig M ord):=by
 have f:(ig M ord).ak.length=ord.length:=by unfold ig;simp
 have g:=(Jm ord 0 M.start.toNat).2 e;have j:=ou ord 0 M.start.toNat;refine⟨?_,?_,λs e q m=>?_⟩
 ·show 0<=eP ord 0 M.start.toNat;rcases j with h|h
  ·exact absurd h g
  ·omega
 ·show eP ord 0 M.start.toNat<_;rw[f];rcases j with h|h
  ·exact absurd h g
  ·omega
 ·obtain⟨x,o,rfl⟩:=mem_map.1 e;obtain⟨p,b,c⟩:=List.mem_filterMap.1 m;unfold fR at c;split at c
  ·cases c
  ·next i=>
   obtain rfl:=oI c;have k:=ou ord 0 p.t.toNat;rw[f];rcases k with h|h
   ·exact absurd h i
   ·have d:HA M.ak.length p:=by
     rw[gD]at b
     cases a:M.ak[x]? with
     |none=>rw[a]at b;cases b
     |some n=>rw[a]at b;exact l.an n (List.mem_of_getElem? a) p b
    exact⟨d.i0,d.i1,d.o0,d.o1,by show 0<=eP ord 0 p.t.toNat;omega,by show eP ord 0 p.t.toNat<_;omega⟩
theorem GC:∀{l:List Nat}{i j x:Nat},l.Nodup->l[j]?=some x->eP l i x=((i+j:Nat):Int)
 |[],_,_,_,_,h=>by simp at h
 |o::r,i,0,x,a,h=>by
  obtain rfl:o=x:=by simpa using h
  unfold eP;rw[if_pos rfl];simp
 |o::r,i,j+1,x,a,h=>by
  have b:r[j]?=some x:=by simpa using h
  have c:o≠x:=λe=>(nodup_cons.1 a).1 (e▸List.mem_of_getElem? b);unfold eP;rw[if_neg c,GC (nodup_cons.1 a).2 b];omega
theorem Jl:∀{l:List Nat}{i j x:Nat},eP l i x=((i+j:Nat):Int)->l[j]?=some x
 |[],i,j,x,h=>by unfold eP at h;omega
 | o::r,i,j,x,h=>by
  unfold eP at h;split at h
  ·next e=>
   obtain rfl:j=0:=by omega
   rw[e];rfl
  ·have b:=ou r (i+1) x;obtain⟨a,rfl⟩:∃a,j=a+1:=⟨j-1,by omega⟩
   show r[a]?=some x;exact Jl (i:=i+1) (by rw[h];omega)
section
variable {M:aH} {ord:List Nat}
theorem Ot{x:Nat}(h:ord[i]?=some x):(ig M ord).ak[i]?=some (qg M ord x):=by
 show(ord.map (qg M ord))[i]?=_;rw[getElem?_map,h];rfl
theorem JH:(ig M ord).ak.length=ord.length:=by unfold ig;simp
theorem J6{x:Nat}(h:x<M.ak.length):M.ak[x]?=some (M.ak.getD x ⟨[],[]⟩):=by
 rw[gD,gE h];rfl
theorem Vw(d:Good M){x y:Nat}(h:iD M x y):x<M.ak.length/\y<M.ak.length:=by
 obtain⟨s,b,c⟩:=h;obtain⟨q,e,rfl⟩:=mem_map.1 c;have a:=d.an s (List.mem_of_getElem? b) q e;have g:=a.t0;have f:=a.t1;exact⟨(List.getElem?_eq_some_iff.1 b).1,by omega⟩
theorem Vq(a:Good M):M.start.toNat<M.ak.length:=by
 have c:=a.nR;have b:=a.rB;omega
theorem abC(a:Good M){x:Nat}(h:ij (iD M) (λy=>y=M.start.toNat) x):x<M.ak.length:=by
 cases h with
 |base h=>rw[h];exact Vq a
 |step h e=>exact(Vw a e).2
theorem Ca(a:Good M){x:Nat}:x∈iB M↔fU M x:=by
 unfold iB;rw[List.mem_filter,List.mem_range];constructor
 ·rintro⟨_,h⟩;exact @of_decide_eq_true _ (Classical.propDecidable _) h
 ·intro h;exact⟨abC a h.1,@decide_eq_true _ (Classical.propDecidable _) h⟩
theorem Q3(c:AH M.ak.length ord)(b:M.start.toNat∈ord):∃i,ord[i]?=some M.start.toNat/\(ig M ord).start=((i:Nat):Int):=by
 obtain⟨i,a⟩:=getElem?_of_mem b;refine⟨i,a,?_⟩;show eP ord 0 M.start.toNat=_;rw[GC c.nd a];simp
end
theorem pJ(f:Nat->Nat):∀(n:Nat)(l:List Nat),l.Nodup->(∀x∈l,x<n)->(l.map f).sum<=((List.range n).map f).sum
 |0,[],_,_=>Nat.le_refl _
 |0,x::l,_,h=>absurd (h x (mem_cons_self ..)) (Nat.not_lt_zero _)
 | n+1,l,b,h=>by
  rw[List.range_succ,map_append,List.sum_append];by_cases c:n∈l
  ·have j:=List.perm_cons_erase c;rw[(j.map f).sum_nat];have g:=pJ f n (l.erase n) (b.erase n) (λx a=>by
    have d:=h x (List.mem_of_mem_erase a);have i:x≠n:=λe=>by subst e;exact(b.not_mem_erase) a
    omega)
   simp only[List.map_cons,sum_cons,List.map_nil,List.sum_nil];omega
  ·have g:=pJ f n l b (λx a=>by
    have d:=h x a;have i:x≠n:=λe=>c (e▸a);omega)
   omega
theorem MU(M:aH):iR M.ak=((List.range M.ak.length).map λx=>(M.ak.getD x ⟨[],[]⟩).an.length).sum:=by
 unfold iR;congr 1;refine List.ext_getElem? λi=>?_;rw[getElem?_map,getElem?_map];by_cases a:i<M.ak.length
 ·rw[List.getElem?_range a,J6 a];rfl
 ·rw[getElem?_eq_none (by omega),getElem?_eq_none (by simpa using a)];rfl
theorem J8{a:Int}{N:Nat}:∀{l:List eC}{acc:Int},acc+(iR l:Nat)<=30000->(∀s∈l,(s.f==[]||cJ a s.f)=true/\s.an.all (ob a N)=true)->lH a N acc l=true
 |[],_,_,_=>rfl
 |s::l,acc,h,b=>by
  rw[fz]at h;have c:=b s (mem_cons_self ..);unfold lH;rw[c.1,c.2,J8 (acc:=acc+s.an.length) (by omega) λx d=>b x (mem_cons_of_mem _ d)];simp;omega
theorem EY{b:Int}{N:Nat}:∀{l:List eC}{a:Int},l≠[]->lH b N a l=true->a+(iR l:Nat)<=30000
 |[],_,h,_=>absurd rfl h
 |[s],a,_,h=>by
  unfold lH at h;simp only[and_eq_true,decide_eq_true_eq]at h;rw[fz];have:iR []=0:=rfl;omega
 |s::x::l,a,_,h=>by
  unfold lH at h;simp only[and_eq_true]at h;have c:=EY (l:=x::l) (by simp) h.2;rw[fz];omega
section
variable {M:aH} {ord:List Nat}
theorem Za(a:AH M.ak.length ord):iR (ig M ord).ak<=iR M.ak:=by
 rw[MU M];refine Nat.le_trans ?_ (pJ _ M.ak.length ord a.nd a.lt);show((ord.map (qg M ord)).map λs=>s.an.length).sum<=_;rw[List.map_map];have:∀l:List Nat,(l.map ((λs:eC=>s.an.length)∘qg M ord)).sum<=(l.map λx=>(M.ak.getD x ⟨[],[]⟩).an.length).sum:=λl=>by
  induction l with
  |nil=>exact Nat.le_refl _
  |cons x l b=>
   rw[List.map_cons,List.map_cons,sum_cons,sum_cons];have:(qg M ord x).an.length<=(M.ak.getD x ⟨[],[]⟩).an.length:=List.length_filterMap_le ..;show(qg M ord x).an.length+_<=_;omega
 exact this ord
theorem Y9{i:Nat}(g:AH M.ak.length ord)(c:N∈(ig M ord).ak)(e:D∈N.an):∃b∈M.ak,∃p∈b.an,N.f=b.f/\D.i=p.i/\D.o=p.o/\D.w=p.w/\0<=D.t/\D.t<ord.length:=by
 obtain⟨x,d,rfl⟩:=mem_map.1 c;obtain⟨p,h,a⟩:=List.mem_filterMap.1 e;have f:=J6 (g.lt x d);unfold fR at a;split at a
 ·cases a
 ·next j=>
  obtain rfl:=oI a;have k:=ou ord 0 p.t.toNat;refine⟨_,List.mem_of_getElem? f,p,h,rfl,rfl,rfl,rfl,?_,?_⟩
  ·show 0<=eP ord 0 p.t.toNat;omega
  ·show eP ord 0 p.t.toNat<_;omega
theorem Ou(d:AH M.ak.length ord)(b:N∈(ig M ord).ak):∃a∈M.ak,N.f=a.f/\N.an.length<=a.an.length:=by
 obtain⟨x,c,rfl⟩:=mem_map.1 b;exact⟨_,List.mem_of_getElem? (J6 (d.lt x c)),rfl,List.length_filterMap_le ..⟩
theorem pN(h:cn M=true):(1<=M.kind/\M.kind<=3)/\(1<=M.ak.length/\M.ak.length<=3000)/\(0<=M.start/\M.start<M.ak.length)/\cJ M.kind M.lead=true/\lH M.kind M.ak.length 0 M.ak=true:=by
 unfold cn at h;simp only[and_eq_true,decide_eq_true_eq]at h;obtain⟨⟨⟨⟨⟨⟨⟨c,d⟩,a⟩,f⟩,i⟩,g⟩,e⟩,b⟩:=h;exact⟨⟨c,d⟩,⟨a,f⟩,⟨i,g⟩,e,b⟩
theorem RC(b:1<=M.kind/\M.kind<=3)(c:1<=M.ak.length/\M.ak.length<=3000)(a:0<=M.start/\M.start<M.ak.length)(d:cJ M.kind M.lead=true)(e:lH M.kind M.ak.length 0 M.ak=true):cn M=true:=by
 unfold cn;simp only[and_eq_true,decide_eq_true_eq];exact⟨⟨⟨⟨⟨⟨⟨b.1,b.2⟩,c.1⟩,c.2⟩,a.1⟩,a.2⟩,d⟩,e⟩
theorem RD(h:cn M=true):iR M.ak<=30000:=by
 obtain⟨_,a,_,_,b⟩:=pN h;have:=EY (λe=>by rw[e]at a;exact absurd a.1 (by decide)) b;omega
theorem Q2(a:Small M)(b:AH M.ak.length ord):Small (ig M ord):=by
 have h:=ot _ b.nd b.lt;refine⟨a.lead,by rw[JH];exact Nat.le_trans h a.He,λs c=>?_,λs c=>?_,λs c q j=>?_,Nat.le_trans (Za b) a.tot⟩
 ·obtain⟨d,f,e,_⟩:=Ou b c;rw[e];exact a.fin d f
 ·obtain⟨d,f,_,e⟩:=Ou b c;exact Nat.le_trans e (a.an d f)
 ·obtain⟨d,g,p,l,m,r,n,k,t,o⟩:=Y9 (i:=0) b c j;rw[k];exact a.w d g p l
end
end
variable{x:List Nat}{s:List UInt8}
section
section
variable {M:aH}
noncomputable def Ux(M:aH)(s:Nat):Nat:=(iB M).getD s 0
noncomputable def psi(M:aH)(s i:Nat):Nat:=IG (fR (iB M)) (bD M (Ux M s)) i
theorem Mo{x:Nat}(h:(iB M)[n]?=some x):Ux M n=x:=by
 unfold Ux;rw[gD,h];rfl
theorem GN(h:n<(iB M).length):(iB M)[n]?=some (Ux M n):=by
 unfold Ux;rw[gD,gE h];rfl
theorem AL(h:n<(iB M).length):bD (ig M (iB M)) n=(bD M (Ux M n)).filterMap (fR (iB M)):=by
 unfold bD;rw[gD,Ot (GN h)];rfl
theorem IB(h:n<(iB M).length):fX (ig M (iB M)) n↔fX M (Ux M n):=by
 unfold fX;rw[gD,Ot (GN h)];rfl
theorem JG{a:cq}(h:fR x D=some a):a.i=D.i/\a.o=D.o/\∃j:Nat,a.t=(j:Int)/\x[j]?=some D.t.toNat:=by
 unfold fR at h;split at h
 ·cases h
 ·next b=>
  obtain rfl:=oI h;have c:=ou x 0 D.t.toNat;have d:eP x 0 D.t.toNat=((0+(eP x 0 D.t.toNat).toNat:Nat):Int):=by
   rcases c with h|h
   ·exact absurd h b
   ·omega
  exact⟨rfl,rfl,(eP x 0 D.t.toNat).toNat,by show eP x 0 D.t.toNat=_;omega,Jl d⟩
theorem VY(n:Good M)(t:fU M M.start.toNat):RJ (ig M (iB M)) M (λs=>s<(iB M).length) (Ux M) (psi M):=by
 have w:=pw M;obtain⟨x,g,r⟩:=Q3 w ((Ca n).2 t);have k:=(List.getElem?_eq_some_iff.1 g).1;refine⟨?_,λs i a c d=>?_,λs i j a b c d f e=>?_,λs c l=>(IB c).1 l⟩
 ·rw[r,toNat_natCast];exact⟨k,Mo g⟩
 ·rw[AL c]at d;obtain⟨q,o,u⟩:=Ls _ _ d;obtain⟨m,v,j,p,h⟩:=JG u;rw[p,toNat_natCast];exact⟨(List.getElem?_eq_some_iff.1 h).1,q,o,m.symm,v.symm,(Mo h).symm⟩
 ·rw[AL c]at d f;exact FT _ _ (List.getElem?_eq_some_iff.1 d).1 (List.getElem?_eq_some_iff.1 f).1 e
theorem UW(p:Good M){s e:Nat}{l:List Nat}{x y:List Int}(r:dx M s l e x y)(h:fX M e):∀{t:Nat},t<(iB M).length->Ux M t=s->ij (iD M) (λy=>y=M.start.toNat) s->∃k f,dx (ig M (iB M)) t k f x y/\fX (ig M (iB M)) f/\RN (ig M (iB M)) (psi M) t k=l:=by
 induction r with
 |nil s=>
  rintro t d rfl B;exact⟨[],t,.nil _,(IB d).2 h,rfl⟩
 | @cons s i e a l x y v r F=>
  rintro t d rfl B;have u:Ux M t<M.ak.length:=(pw M).lt _ (List.mem_of_getElem? (GN d));obtain⟨w,o,C,_⟩:=jB u;have A:w.an[i]?=some a:=by rw[<-C];exact v
  have c:iD M (Ux M t) a.t.toNat:=⟨w,o,mem_map.2 ⟨a,List.mem_of_getElem? A,rfl⟩⟩
  have g:ij (iD M) (λy=>y=M.start.toNat) a.t.toNat:= .step B c;have G:fU M a.t.toNat:=⟨g,rj r p h⟩
  obtain⟨j,m⟩:=getElem?_of_mem ((Ca p).2 G);have D:eP (iB M) 0 a.t.toNat=(j:Int):=by rw[GC (pw M).nd m,zero_add]
  have q:fR (iB M) a=some ⟨a.i,a.o,a.w,(j:Int)⟩:=by
   unfold fR;rw[D,if_neg (by omega)]
  obtain⟨n,b,z⟩:=NW _ _ v q;obtain⟨k,f,E,H,I⟩:=F h (t:=j) (List.getElem?_eq_some_iff.1 m).1 (Mo m) g;rw[<-AL d]at b;have J:=dx.cons b (l:=k) (e:=f) (x:=x) (y:=y) (by rw[show(cq.t ⟨a.i,a.o,a.w,(j:Int)⟩)=(j:Int)from rfl,toNat_natCast];exact E);refine⟨n::k,f,J,H,?_⟩;have K:(bD (ig M (iB M)) t).getD n q0=⟨a.i,a.o,a.w,(j:Int)⟩:=by rw[gD,b];rfl
  rw[RN,K];show psi M t n::RN _ _ ((j:Int)).toNat k=_;rw[toNat_natCast,I];show IG _ _ _::_=_;rw[z]
structure Trm(N M:aH):Prop where
 fw:∀l x y,uy N l x y->∃l',uy M l' x y
 f2:∀l l' x y z,uy N l x y->uy N l' x z->l≠l'->∃k k',uy M k x y/\uy M k' x z/\k≠k'
 fu:Av N↔Av M
 un:sP N↔sP M
theorem V1{N:aH}(a:∀l x y,¬uy N l x y)(b:∀l x y,¬uy M l x y):Trm N M:=
 ⟨λl x y h=>absurd h (a l x y),λl l' x y z h=>absurd h (a l x y),⟨λ_ l l' x y z h=>absurd h (b l x y),λ_ l l' x y z h=>absurd h (a l x y)⟩,⟨λ_ l l' x y z h=>absurd h (b l x y),λ_ l l' x y z h=>absurd h (a l x y)⟩⟩
theorem ZA(m:Good M)(s:fU M M.start.toNat):Trm (ig M (iB M)) M:=by
 have a:=VY m s;have d:∀{l x y},uy M l x y->∃k,uy (ig M (iB M)) k x y/\RN (ig M (iB M)) (psi M) (ig M (iB M)).start.toNat k=l:=by
  rintro l x y ⟨e,r,f⟩;obtain⟨k,u,q,t,i⟩:=UW m r f a.start.1 a.start.2 (.base rfl);exact⟨k,⟨u,q,t⟩,i⟩
 refine⟨λl x y h=>⟨_,a.acc h⟩,λl l' x y z b c n=>⟨_,_,a.acc b,a.acc c,λe=>n ?_⟩,⟨λh l l' x y z b c=>?_,a.func⟩,⟨λh l l' x y z b c=>?_,a.aec⟩⟩
 ·obtain⟨_,r,_⟩:=b;obtain⟨_,v,_⟩:=c;exact a.Gb l l' a.start.1 r v e
 ·obtain⟨k,j,_⟩:=d b;obtain⟨o,g,_⟩:=d c;exact h _ _ _ _ _ j g
 ·obtain⟨k,j,p⟩:=d b;obtain⟨o,g,i⟩:=d c;rw[<-p,<-i,h _ _ _ _ _ j g]
theorem Un{k:Int}:∀l x y,¬uy ⟨k,0,s,[⟨[],[]⟩]⟩ l x y:=by
 rintro l x y ⟨e,r,f⟩
 cases r with
 |nil=>exact f rfl
 |cons h _=>simp[bD]at h
theorem Mc(a:Good M)(b:¬fU M M.start.toNat):∀l x y,¬uy M l x y:=λl x y ⟨e,r,f⟩=>b ⟨.base rfl,rj r a f⟩
theorem Kj(c:cn M=true)(h:Small M):(dR M).2=0/\Good (dR M).1/\Small (dR M).1/\Trm (dR M).1 M/\(dR M).1.ak.length<=M.ak.length:=by
 have d:=rE c;by_cases b:fU M M.start.toNat
 ·rw[Ki c b];have i:=ot _ (pw M).nd (pw M).lt;exact⟨rfl,Q1 d ((Ca d).2 b),Q2 h (pw M),ZA d b,by show(ig M (iB M)).ak.length<=_;rw[JH];exact i⟩
 ·rw[CG c b];obtain⟨k,j,_⟩:=pN c;unfold sZ;rw[if_pos k];have g:M.kind=1\/M.kind=2\/M.kind=3:=by omega
  refine⟨rfl,⟨Int.le_refl _,by show(0:Int)<(1:Nat);omega,λs a q f=>?_⟩,⟨?_,(show 1<=300 by decide),λs a=>?_,λs a=>?_,λs a=>?_,(show 0<=2000 by decide)⟩,V1 Un (Mc d b),j.1⟩
  ·rw[mem_singleton.1 a]at f;cases f
  ·rcases g with e|e|e<;>rw[e]<;>decide +kernel
  ·rw[mem_singleton.1 a];exact zero_le _
  ·rw[mem_singleton.1 a];exact zero_le _
  ·rw[mem_singleton.1 a];exact λq f=>by cases f
end
end
theorem acJ(T:eB):aD SS.P 66 [(0,(.agg ⟨ba T.A T.a T.n T.c⟩)),(1,(.agg ⟨ba T.B T.b T.m T.d⟩))]=some (.agg ⟨T.arg⟩):=by
 obtain⟨A,a,n,c,B,b,m,d⟩:=T
 cases a<;>cases b<;>kernel_rfl
def aaa(h:aa)(M:aH):VH:=λv g=>∃(b:Bool)(a:Option Addr)(n c:Nat)(m:Option Addr)(f k:Nat)(i:Option Addr)(d j:Nat)(e:Int),v = .tuple ⟨[.bool b,.slice a n c,.slice m f k,.slice i d j,.int .i64 e]⟩/\Ok h g/\
 ((cn M=false/\b=false/\n=0/\f=0/\d=0/\e=1)\/(cn M=true/\200<M.ak.length/\b=false/\n=0/\f=0/\d=0/\e=2)\/
  (cn M=true/\e=0/\((b=true/\n=0/\f=0/\d=0/\Av M)\/(b=false/\∃l l' x y z,uy M l x y/\uy M l' x z/\y≠z/\Rd g 3 (.slice a n c) (x.map zV)/\Rd g 3 (.slice m f k) (y.map zV)/\Rd g 3 (.slice i d j) (z.map zV)))))
theorem qY{c:Nat}(I:sO h)(w:Wf h)(B:Small M)(r:ep h (.slice a n c) M.ak):FW SS 14 [.agg ⟨ba M a n c⟩] h (aaa h M):=by
 refine C0 (ba M a n c) h _ ⟨_,pZ M a n c,?_⟩;have s:=(Ok.refl w).push (Bm M a n c);have b1:=aI h (Bm M a n c);have W:ae SS.P 24 (h.push (Bm M a n c)) (pA h.next)=some (.agg ⟨ba M a n c⟩):=fE ym wQ iZ b1 (by simp[ba]);refine⟨_,W,?_⟩;generalize h.push (Bm M a n c)=g1 at*;refine(I7 (I.ok s) s.wf B (r.ok s)).mono ?_;rintro _ b ⟨d,g,i,ps,rfl,t,J,Z⟩;have z:=s.trans Z;refine⟨_,_,rfl,_,HQ,?_⟩;have V:=(Ok.refl z.wf).push mY;have O:=aI b mY;have X:aj SS.P 24 (pA b.next) (.agg ⟨ba (dR M).1 d g i⟩) (b.push mY)=some (undef,.set b.next (Bm (dR M).1 d g i)):=du iZ rfl O rfl (by simp[ba,bc,strOf]);refine⟨_,X,?_⟩;have F:Ok b ((aY.set b.next (Bm (dR M).1 d g i)).app (b.push mY)):=V.set _ (Nat.le_refl _) (lt_succ_self _) z.wf;have E:((aY.set b.next (Bm (dR M).1 d g i)).app (b.push mY)).get b.next=some (Bm (dR M).1 d g i):=by
  show((b.push mY).set _ _).get _=_;rw[aa.aw,if_pos rfl]
 generalize (aY.set b.next (Bm (dR M).1 d g i)).app (b.push mY)=C at*;have m:=z.trans F
 cases j:cn M with
 |false=>
  rw[yl j];exact ah (λ_=>⟨_,_,_,_,_,_,_,_,_,_,_,rfl,m,.inl ⟨j,rfl,rfl,rfl,rfl,rfl⟩⟩) (λq=>by cases q)
 | true=>
  obtain⟨t1,A,G,u,t5⟩:=Kj j B;have o:=(J.ok F).st;rw[t]at o;rw[t1];refine ah (λq=>by cases q) (λ_=>?_);have Y:ae SS.P 22 C (.pointer (some ⟨b.next,3,none⟩))=some (.slice d g i):=aN rz zG E (by simp[ba]);have K:ae SS.P 24 C (pA b.next)=some (.agg ⟨ba (dR M).1 d g i⟩):=fE ym wQ iZ E (by simp[ba]);have x0:g=(dR M).1.ak.length:=by have:=J.row.rd.len;rw[<-t,lM,this,lM]
  refine⟨_,dp _,_,_,_,Y,ah (λq=>?_) (λq=>?_)⟩
  ·have q:=dT q;exact⟨_,_,_,_,_,_,_,_,_,_,_,rfl,m,.inr (.inl ⟨j,by omega,rfl,rfl,rfl,rfl,rfl⟩)⟩
  ·refine⟨_,K,_,K,_,acJ ⟨(dR M).1,d,g,i,(dR M).1,d,g,i⟩,?_⟩;refine(Mi (T:=⟨(dR M).1,d,g,i,(dR M).1,d,g,i⟩) (I.ok m) m.wf G G ⟨o,o⟩ A A).mono ?_;rintro _ g5 ⟨xa,xn,xc,ya,yn,yc,za,zn,zc,f,rfl,e5,U⟩;refine⟨_,_,_,_,_,_,_,_,_,_,rfl,_,_,_,_,_,_,_,_,_,_,_,rfl,m.trans e5,.inr (.inr ⟨j,rfl,?_⟩)⟩;rcases U with⟨rfl,x,y,v,S⟩|⟨rfl,p,e,Q,H,D,_,N,P,i3⟩
   ·injection x with _ x
    injection y with _ y
    injection v with _ v
    exact .inl ⟨rfl,x,y,v,u.fu.1 S⟩
   ·obtain⟨⟨l,p1⟩,⟨l',R⟩⟩:=Q.runs;obtain⟨k,a1⟩:=u.fw l _ _ ⟨_,p1,H.1⟩;obtain⟨L,d⟩:=u.fw l' _ _ ⟨_,R,H.2⟩;exact .inr ⟨rfl,k,L,_,_,_,a1,d,D,N,P,i3⟩
noncomputable def V2:FD:=ei Tryz.f70 []
theorem Rw(K:Int)(N:LV)(l k c w:Nat)(h:aa)(Q:VH)(U:xN (dK SS.P 107 (.agg ⟨N⟩)) h λB1 b=>xV (ae SS.P 110 b (pA l)) λP=>xA (ae SS.P 107 b (pA (h.next))) λT=>xB (jF SS.P 110 P (.agg ⟨T⟩) false b) λV=>aQ (!V) (xV (ae SS.P 110 b (pA l)) λR=>xA (ae SS.P 107 b (pA (h.next))) λS=>xU (gG SS.P 110 R (.agg ⟨S⟩) (.bool true) b) b λu8 d=>xL (ae SS.P 108 d (pA k)) λp C L=>xA (ae SS.P 107 d (pA (h.next))) λy=>xR (az SS.P 108 1 [(0,(.agg ⟨y⟩))]) d λx0 s E j=>xE (aE SS.P 108 108 (.slice p C L) (sA (d.next) s E) j) j λx B z Y f=>xU (aj SS.P 108 (pA k) (.slice x B z) f) f λX a=>xL (ae SS.P 109 (room a 12) (pA c)) λt I u=>xA (aD SS.P 116 [(0,(.int .i64 K))]) λA=>xL (ae SS.P 109 (room a 12) (pA c)) λm v q=>xI .i64 (ae SS.P 3 (room a 12) (pA w)) λO=>xP (ai SS.P 109 (.slice m v q) (.int .i64 O)) λD=>xO (ae SS.P 112 (room a 12) (.pointer (some D))) λr=>xA (aD SS.P 118 [(0,(.agg ⟨A⟩)),(1,(.pointer r))]) λo=>zN (dK SS.P 118 (.agg ⟨o⟩)) λe=>zR (az SS.P 109 1 [(0,(pA (a.next+8)))]) λi M J=>xE (aE SS.P 109 109 (.slice t I u) (sA (a.next+9) M J) (av (room a 12) a.next [(9,i),(8,e)])) (av (room a 12) a.next [(9,i),(8,e)]) λG H F Z g=>xU (aj SS.P 109 (pA c) (.slice G H F) g) g λW n=>Q (.tuple ⟨[]⟩) n) (Q (.tuple ⟨[]⟩) b)):FW SS 70 [(.int .i64 K),(.agg ⟨N⟩),(pA l),(pA k),(pA c),(pA w)] h Q:=eu V2 Tryz.func70 (ax U)
noncomputable def bg:FD:=ei Tryz.f69 [([1,1,0,1,0,0],[2,4,7,30,31,32]),([1,1,0,1,0,0,1,1,0,0,1,1,1,0,0],[2,4,7,8,9,30,31,32,64,65,66]),([1,1,1,1,0,1,0,0],[2,4,117,118,119])]
abbrev dH(e:Nat)(g h:LV)(f:Nat)(a:OA)(n c:Nat)(b:OA)(m d:Nat)(i:Nat):LV:=[(.func (.func e) ⟨g⟩ ⟨h⟩),(pA f),(.slice b m d),(.slice a n c),(iA n),(iA i)]
abbrev bA(e:Nat)(g k:LV)(f:Nat)(a:OA)(n c:Nat)(b:OA)(m d h i:Nat)(j:Nat):LV:=[(.func (.func e) ⟨g⟩ ⟨k⟩),(pA f),(.slice b m d),(iA i),(pA h),(.slice a n c),(iA n),(iA i),(.slice b m d),(iA m),(iA j)]
abbrev jk(a:Nat)(e f:LV)(c:Nat)(b:OA)(m d:Nat)(i:Nat):LV:=[(.func (.func a) ⟨e⟩ ⟨f⟩),(pA c),(.slice b m d),(iA m),(iA i)]
theorem O5(d A:LV)(j:Nat)(x z:LV)(h:aa)(Q:VH)(D:xN (dK SS.P 24 (.agg ⟨d⟩)) h λH b=>xN (dK SS.P 107 (.agg ⟨A⟩)) b λI a=>xP (af SS.P 24 (pA (h.next)) 3) λB=>xL (ae SS.P 22 (room a 18) (.pointer (some B))) λC F E=>xP (af SS.P 107 (pA (b.next)) 0) λG=>xP (af SS.P 105 (.pointer (some G)) 0) λk=>xI .i64 (ae SS.P 3 (room a 18) (.pointer (some k))) λs=>xP (ai SS.P 22 (.slice C F E) (.int .i64 s)) λt=>xP (af SS.P 44 (.pointer (some t)) 1) λy=>xL (ae SS.P 42 (room a 18) (.pointer (some y))) λe c w=>xP (af SS.P 24 (pA (h.next)) 3) λm=>xL (ae SS.P 22 (room a 18) (.pointer (some m))) λl q o=>xP (af SS.P 107 (pA (b.next)) 0) λi=>xP (af SS.P 105 (.pointer (some i)) 1) λg=>xI .i64 (ae SS.P 3 (room a 18) (.pointer (some g))) λv=>xP (ai SS.P 22 (.slice l q o) (.int .i64 v)) λu=>xP (af SS.P 44 (.pointer (some u)) 1) λn=>xL (ae SS.P 42 (room a 18) (.pointer (some n))) λf r p=>LL SS bg [1,1,0,1,0,0] [(.func (.func j) ⟨x⟩ ⟨z⟩),(pA (b.next)),(.slice f r p),(.slice e c w),(iA c),(.int .i64 0)] (room a 18) (KK SS bg [1,1,0,1,0] [] (EE SS bg Q))):FW SS 69 [(.agg ⟨d⟩),(.agg ⟨A⟩),(.func (.func j) ⟨x⟩ ⟨z⟩)] h Q:=eu bg Tryz.func69 (ax D)
theorem uR(X Y:LV)(g:Nat)(j k:LV)(f:Nat)(a:OA)(n c:Nat)(b:OA)(m d:Nat)(l:Nat->Nat->aa->Prop)(Q:VH)(step:∀(o:Nat) (i:Nat) (G:Nat->Value) (h:aa),l o i h->aQ (decide (((i:Int):Int)<(n:Int))) (xP (ai SS.P 42 (.slice a n c) (iA i)) λR=>xA (ae SS.P 46 h (.pointer (some R))) λD=>xN (aA SS.P 46) h λW p=>xU (aj SS.P 46 (pA (h.next)) (.agg ⟨D⟩) p) p λV e=>xP (af SS.P 46 (pA (h.next)) 0) λN=>xI .i64 (ae SS.P 3 e (.pointer (some N))) λr=>aQ (((r:Int)==0)) (xP (af SS.P 107 (pA f) 1) λy=>xI .i64 (ae SS.P 3 e (.pointer (some y))) λT=>aQ (((T:Int)==0)) (xP (af SS.P 46 (pA (h.next)) 3) λz=>xI .i64 (ae SS.P 3 e (.pointer (some z))) λJ=>xP (af SS.P 107 (pA f) 0) λI=>xP (af SS.P 105 (.pointer (some I)) 1) λU=>xI .i64 (ae SS.P 3 e (.pointer (some U))) λS=>xA (aD SS.P 105 [(0,(.int .i64 J)),(1,(.int .i64 S))]) λF=>xA (aD SS.P 107 [(0,(.agg ⟨F⟩)),(1,(.int .i64 2))]) λM=>aQ (Nat.blt g YB) (FW SS g (j++[(.int .i64 0),(.agg ⟨M⟩)]++k) e λP C=>P=(.tuple ⟨[]⟩)/\LL SS bg [1,1,0,1,0,0,1,1,0,0,1,1,1,0,0] [(.func (.func g) ⟨j⟩ ⟨k⟩),(pA f),(.slice b m d),(iA i),(pA (h.next)),(.slice a n c),(iA n),(iA i),(.slice b m d),(iA m),(.int .i64 0)] C (KK SS bg [1,1,0,0,1,1,1,0] [1,1,0,1,0,0] (RR bg [1,1,0,1,0,0] (fB (dH g j k f a n c b m d) l) o (KK SS bg [1,1,0,1,0] [] (EE SS bg Q))))) False) (xP (af SS.P 46 (pA (h.next)) 3) λs=>xI .i64 (ae SS.P 3 e (.pointer (some s))) λO=>xP (af SS.P 107 (pA f) 0) λt=>xP (af SS.P 105 (.pointer (some t)) 1) λL=>xI .i64 (ae SS.P 3 e (.pointer (some L))) λH=>xA (aD SS.P 105 [(0,(.int .i64 O)),(1,(.int .i64 H))]) λK=>xP (af SS.P 107 (pA f) 1) λE=>xI .i64 (ae SS.P 3 e (.pointer (some E))) λw=>xA (aD SS.P 107 [(0,(.agg ⟨K⟩)),(1,(.int .i64 w))]) λA=>aQ (Nat.blt g YB) (FW SS g (j++[(.int .i64 0),(.agg ⟨A⟩)]++k) e λB v=>B=(.tuple ⟨[]⟩)/\LL SS bg [1,1,0,1,0,0,1,1,0,0,1,1,1,0,0] [(.func (.func g) ⟨j⟩ ⟨k⟩),(pA f),(.slice b m d),(iA i),(pA (h.next)),(.slice a n c),(iA n),(iA i),(.slice b m d),(iA m),(.int .i64 0)] v (KK SS bg [1,1,0,0,1,1,1,0] [1,1,0,1,0,0] (RR bg [1,1,0,1,0,0] (fB (dH g j k f a n c b m d) l) o (KK SS bg [1,1,0,1,0] [] (EE SS bg Q))))) False)) (LL SS bg [1,1,0,1,0,0,1,1,0,0,1,1,1,0,0] [(.func (.func g) ⟨j⟩ ⟨k⟩),(pA f),(.slice b m d),(iA i),(pA (h.next)),(.slice a n c),(iA n),(iA i),(.slice b m d),(iA m),(.int .i64 0)] e (KK SS bg [1,1,0,0,1,1,1,0] [1,1,0,1,0,0] (RR bg [1,1,0,1,0,0] (fB (dH g j k f a n c b m d) l) o (KK SS bg [1,1,0,1,0] [] (EE SS bg Q)))))) (xP (af SS.P 107 (pA f) 1) λu=>xI .i64 (ae SS.P 3 h (.pointer (some u))) λx=>aQ (((x:Int)==1)) (LL SS bg [1,1,1,1,0,1,0,0] [(.func (.func g) ⟨j⟩ ⟨k⟩),(pA f),(.slice b m d),(iA m),(.int .i64 0)] h (KK SS bg [1,1,1,1,0,1,0] [] (EE SS bg Q))) (Q (.tuple ⟨[]⟩) h)))(o:Nat){i:Nat}{h:aa}(q:l o i h):LL SS bg [1,1,0,1,0,0] (dH g j k f a n c b m d i) h (KK SS bg [1,1,0,1,0] [] (EE SS bg Q)):=
 dQ (dH g j k f a n c b m d) l (λo i G h q=>ax (step o i G h q)) o q
theorem uS(mv qv:LV)(f:Nat)(k l:LV)(o:Nat)(a:OA)(n c:Nat)(b:OA)(m d:Nat)(g:Nat)(s:Nat->Nat->aa->Prop)(mz i:Nat)(p:Nat->Nat->aa->Prop)(Q:VH)(step:∀(q:Nat) (j:Nat) (zz:Nat->Value) (h:aa),p q j h->aQ (decide (((j:Int):Int)<(m:Int))) (xP (ai SS.P 42 (.slice b m d) (iA j)) λx5=>xA (ae SS.P 46 h (.pointer (some x5))) λx2=>xN (aA SS.P 46) h λu6 t=>xU (aj SS.P 46 (pA (h.next)) (.agg ⟨x2⟩) t) t λu5 e=>xP (af SS.P 46 (pA g) 0) λz1=>xI .i64 (ae SS.P 3 e (.pointer (some z1))) λz3=>xP (af SS.P 46 (pA (h.next)) 0) λz2=>xI .i64 (ae SS.P 3 e (.pointer (some z2))) λu3=>aQ (((z3:Int) !=u3)) (aJ (fB (bA f k l o a n c b m d g i) p) q [(.func (.func f) ⟨k⟩ ⟨l⟩),(pA o),(.slice b m d),(iA i),(pA g),(.slice a n c),(iA n),(iA i),(.slice b m d),(iA m),(.int .i64 (wrap .i64 ((j:Int)+1)))] e) (xP (af SS.P 107 (pA o) 1) λz5=>xI .i64 (ae SS.P 3 e (.pointer (some z5))) λz7=>aQ (((z7:Int)==0)) (aQ ((((i:Int):Int)==(j:Int))) (xP (af SS.P 46 (pA g) 0) λy1=>xI .i64 (ae SS.P 3 e (.pointer (some y1))) λy9=>xP (af SS.P 46 (pA g) 3) λy0=>xI .i64 (ae SS.P 3 e (.pointer (some y0))) λy5=>xP (af SS.P 46 (pA (h.next)) 3) λx7=>xI .i64 (ae SS.P 3 e (.pointer (some x7))) λy7=>xA (aD SS.P 105 [(0,(.int .i64 y5)),(1,(.int .i64 y7))]) λx3=>xA (aD SS.P 107 [(0,(.agg ⟨x3⟩)),(1,(.int .i64 0))]) λu1=>aQ (Nat.blt f YB) (FW SS f (k++[(.int .i64 y9),(.agg ⟨u1⟩)]++l) e λz0 y2=>z0=(.tuple ⟨[]⟩)/\aJ (fB (bA f k l o a n c b m d g i) p) q [(.func (.func f) ⟨k⟩ ⟨l⟩),(pA o),(.slice b m d),(iA i),(pA g),(.slice a n c),(iA n),(iA i),(.slice b m d),(iA m),(.int .i64 (wrap .i64 ((j:Int)+1)))] y2) False) (xP (af SS.P 107 (pA o) 1) λz6=>xI .i64 (ae SS.P 3 e (.pointer (some z6))) λu=>aQ (((u:Int)==0)) (aQ (((u:Int)==0)) (xP (af SS.P 46 (pA g) 0) λy8=>xI .i64 (ae SS.P 3 e (.pointer (some y8))) λx1=>xP (af SS.P 46 (pA g) 3) λx6=>xI .i64 (ae SS.P 3 e (.pointer (some x6))) λy6=>xP (af SS.P 46 (pA (h.next)) 3) λu0=>xI .i64 (ae SS.P 3 e (.pointer (some u0))) λy3=>xA (aD SS.P 105 [(0,(.int .i64 y6)),(1,(.int .i64 y3))]) λu2=>xA (aD SS.P 107 [(0,(.agg ⟨u2⟩)),(1,(.int .i64 1))]) λx9=>aQ (Nat.blt f YB) (FW SS f (k++[(.int .i64 x1),(.agg ⟨x9⟩)]++l) e λx4 x8=>x4=(.tuple ⟨[]⟩)/\aJ (fB (bA f k l o a n c b m d g i) p) q [(.func (.func f) ⟨k⟩ ⟨l⟩),(pA o),(.slice b m d),(iA i),(pA g),(.slice a n c),(iA n),(iA i),(.slice b m d),(iA m),(.int .i64 (wrap .i64 ((j:Int)+1)))] x8) False) (aJ (fB (bA f k l o a n c b m d g i) p) q [(.func (.func f) ⟨k⟩ ⟨l⟩),(pA o),(.slice b m d),(iA i),(pA g),(.slice a n c),(iA n),(iA i),(.slice b m d),(iA m),(.int .i64 (wrap .i64 ((j:Int)+1)))] e)) (xP (af SS.P 46 (pA g) 0) λz4=>xI .i64 (ae SS.P 3 e (.pointer (some z4))) λz9=>aQ (decide ((z9:Int)>0)) (xP (af SS.P 46 (pA g) 0) λz8=>xI .i64 (ae SS.P 3 e (.pointer (some z8))) λu4=>xP (af SS.P 46 (pA g) 3) λy4=>xI .i64 (ae SS.P 3 e (.pointer (some y4))) λw=>xP (af SS.P 46 (pA (h.next)) 3) λX=>xI .i64 (ae SS.P 3 e (.pointer (some X))) λM=>xA (aD SS.P 105 [(0,(.int .i64 w)),(1,(.int .i64 M))]) λT=>xA (aD SS.P 107 [(0,(.agg ⟨T⟩)),(1,(.int .i64 1))]) λG=>aQ (Nat.blt f YB) (FW SS f (k++[(.int .i64 u4),(.agg ⟨G⟩)]++l) e λv z=>v=(.tuple ⟨[]⟩)/\aJ (fB (bA f k l o a n c b m d g i) p) q [(.func (.func f) ⟨k⟩ ⟨l⟩),(pA o),(.slice b m d),(iA i),(pA g),(.slice a n c),(iA n),(iA i),(.slice b m d),(iA m),(.int .i64 (wrap .i64 ((j:Int)+1)))] z) False) (aJ (fB (bA f k l o a n c b m d g i) p) q [(.func (.func f) ⟨k⟩ ⟨l⟩),(pA o),(.slice b m d),(iA i),(pA g),(.slice a n c),(iA n),(iA i),(.slice b m d),(iA m),(.int .i64 (wrap .i64 ((j:Int)+1)))] e)))) (xP (af SS.P 107 (pA o) 1) λx0=>xI .i64 (ae SS.P 3 e (.pointer (some x0))) λr=>aQ (((r:Int)==0)) (aQ (((r:Int)==0)) (xP (af SS.P 46 (pA g) 0) λE=>xI .i64 (ae SS.P 3 e (.pointer (some E))) λI=>xP (af SS.P 46 (pA g) 3) λV=>xI .i64 (ae SS.P 3 e (.pointer (some V))) λZ=>xP (af SS.P 46 (pA (h.next)) 3) λO=>xI .i64 (ae SS.P 3 e (.pointer (some O))) λH=>xA (aD SS.P 105 [(0,(.int .i64 Z)),(1,(.int .i64 H))]) λx=>xA (aD SS.P 107 [(0,(.agg ⟨x⟩)),(1,(.int .i64 1))]) λF=>aQ (Nat.blt f YB) (FW SS f (k++[(.int .i64 I),(.agg ⟨F⟩)]++l) e λS P=>S=(.tuple ⟨[]⟩)/\aJ (fB (bA f k l o a n c b m d g i) p) q [(.func (.func f) ⟨k⟩ ⟨l⟩),(pA o),(.slice b m d),(iA i),(pA g),(.slice a n c),(iA n),(iA i),(.slice b m d),(iA m),(.int .i64 (wrap .i64 ((j:Int)+1)))] P) False) (aJ (fB (bA f k l o a n c b m d g i) p) q [(.func (.func f) ⟨k⟩ ⟨l⟩),(pA o),(.slice b m d),(iA i),(pA g),(.slice a n c),(iA n),(iA i),(.slice b m d),(iA m),(.int .i64 (wrap .i64 ((j:Int)+1)))] e)) (xP (af SS.P 46 (pA g) 0) λL=>xI .i64 (ae SS.P 3 e (.pointer (some L))) λK=>aQ (decide ((K:Int)>0)) (xP (af SS.P 46 (pA g) 0) λD=>xI .i64 (ae SS.P 3 e (.pointer (some D))) λJ=>xP (af SS.P 46 (pA g) 3) λW=>xI .i64 (ae SS.P 3 e (.pointer (some W))) λC=>xP (af SS.P 46 (pA (h.next)) 3) λY=>xI .i64 (ae SS.P 3 e (.pointer (some Y))) λy=>xA (aD SS.P 105 [(0,(.int .i64 C)),(1,(.int .i64 y))]) λA=>xA (aD SS.P 107 [(0,(.agg ⟨A⟩)),(1,(.int .i64 1))]) λB=>aQ (Nat.blt f YB) (FW SS f (k++[(.int .i64 J),(.agg ⟨B⟩)]++l) e λU R=>U=(.tuple ⟨[]⟩)/\aJ (fB (bA f k l o a n c b m d g i) p) q [(.func (.func f) ⟨k⟩ ⟨l⟩),(pA o),(.slice b m d),(iA i),(pA g),(.slice a n c),(iA n),(iA i),(.slice b m d),(iA m),(.int .i64 (wrap .i64 ((j:Int)+1)))] R) False) (aJ (fB (bA f k l o a n c b m d g i) p) q [(.func (.func f) ⟨k⟩ ⟨l⟩),(pA o),(.slice b m d),(iA i),(pA g),(.slice a n c),(iA n),(iA i),(.slice b m d),(iA m),(.int .i64 (wrap .i64 ((j:Int)+1)))] e))))) (aJ (fB (dH f k l o a n c b m d) s) mz [(.func (.func f) ⟨k⟩ ⟨l⟩),(pA o),(.slice b m d),(.slice a n c),(iA n),(.int .i64 (wrap .i64 ((i:Int)+1)))] h))(q:Nat){j:Nat}{h:aa}(N:p q j h):LL SS bg [1,1,0,1,0,0,1,1,0,0,1,1,1,0,0] (bA f k l o a n c b m d g i j) h (KK SS bg [1,1,0,0,1,1,1,0] [1,1,0,1,0,0] (RR bg [1,1,0,1,0,0] (fB (dH f k l o a n c b m d) s) mz (KK SS bg [1,1,0,1,0] [] (EE SS bg Q)))):=
 dQ (bA f k l o a n c b m d g i) p (λq j zz h N=>ax (step q j zz h N)) q N
theorem uT(E F:LV)(f:Nat)(j k:LV)(g:Nat)(b:OA)(m d:Nat)(e:Nat->Nat->aa->Prop)(Q:VH)(step:∀(a:Nat) (i:Nat) (B:Nat->Value) (h:aa),e a i h->aQ (decide (((i:Int):Int)<(m:Int))) (xP (ai SS.P 42 (.slice b m d) (iA i)) λn=>xA (ae SS.P 46 h (.pointer (some n))) λt=>xN (aA SS.P 46) h λC l=>xU (aj SS.P 46 (pA (h.next)) (.agg ⟨t⟩) l) l λD c=>xP (af SS.P 46 (pA (h.next)) 0) λw=>xI .i64 (ae SS.P 3 c (.pointer (some w))) λx=>aQ (((x:Int)==0)) (xP (af SS.P 107 (pA g) 0) λy=>xP (af SS.P 105 (.pointer (some y)) 0) λq=>xI .i64 (ae SS.P 3 c (.pointer (some q))) λv=>xP (af SS.P 46 (pA (h.next)) 3) λu=>xI .i64 (ae SS.P 3 c (.pointer (some u))) λr=>xA (aD SS.P 105 [(0,(.int .i64 v)),(1,(.int .i64 r))]) λA=>xA (aD SS.P 107 [(0,(.agg ⟨A⟩)),(1,(.int .i64 1))]) λz=>aQ (Nat.blt f YB) (FW SS f (j++[(.int .i64 0),(.agg ⟨z⟩)]++k) c λo p=>o=(.tuple ⟨[]⟩)/\aJ (fB (jk f j k g b m d) e) a [(.func (.func f) ⟨j⟩ ⟨k⟩),(pA g),(.slice b m d),(iA m),(.int .i64 (wrap .i64 ((i:Int)+1)))] p) False) (aJ (fB (jk f j k g b m d) e) a [(.func (.func f) ⟨j⟩ ⟨k⟩),(pA g),(.slice b m d),(iA m),(.int .i64 (wrap .i64 ((i:Int)+1)))] c)) (Q (.tuple ⟨[]⟩) h))(a:Nat){i:Nat}{h:aa}(s:e a i h):LL SS bg [1,1,1,1,0,1,0,0] (jk f j k g b m d i) h (KK SS bg [1,1,1,1,0,1,0] [] (EE SS bg Q)):=
 dQ (jk f j k g b m d) e (λa i B h s=>ax (step a i B h s)) a s
section
abbrev Pl:=Nat×Nat×Nat
def qV(k:Pl):List Value:=[.int .i64 (k.1:Int),.int .i64 (k.2.1:Int),.int .i64 (k.2.2:Int)]
def dS(k:Pl):bw:= .cells (qV k) 107 0 true
theorem Sv(k:Pl):dK SS.P 107 (.agg ⟨qV k⟩)=some (dS k,dX):=by kernel_rfl
theorem oY(k:Nat):af SS.P 107 (.pointer (some ⟨k,0,none⟩)) 0=some (.pointer (some ⟨k,0,none⟩)):=by kernel_rfl
theorem oZ(k:Nat):af SS.P 107 (.pointer (some ⟨k,0,none⟩)) 1=some (.pointer (some ⟨k,2,none⟩)):=by kernel_rfl
noncomputable def ab6:TypeDesc:=(SS.P.underlying 107).getD .bool
theorem aas:SS.P.underlying 107=some ab6:=by kernel_rfl
theorem ZR:Go.Ab.isAgg SS.P 107=true:=by kernel_rfl
theorem Hf:au SS.P 107=some 3:=by kernel_rfl
section
variable {g:aa} {k:Nat} {x:Pl}
theorem dS.all(h:g.get k=some (dS x)):ae SS.P 107 g (.pointer (some ⟨k,0,none⟩))=some (.agg ⟨qV x⟩):=fE aas ZR Hf h (by simp[qV])
theorem dS.l0(h:g.get k=some (dS x)):ae SS.P 3 g (.pointer (some ⟨k,0+0,none⟩))=some (.int .i64 (x.1:Int)):=aN lp ll h (by simp[qV])
theorem dS.l1(h:g.get k=some (dS x)):ae SS.P 3 g (.pointer (some ⟨k,0+1,none⟩))=some (.int .i64 (x.2.1:Int)):=aN lp ll h (by simp[qV])
theorem dS.l2(h:g.get k=some (dS x)):ae SS.P 3 g (.pointer (some ⟨k,2,none⟩))=some (.int .i64 (x.2.2:Int)):=aN lp ll h (by simp[qV])
end
theorem tG(p q h:Int):aD SS.P 107 [(0,(.agg ⟨[.int .i64 p,.int .i64 q]⟩)),(1,(.int .i64 h))]=some (.agg ⟨[.int .i64 p,.int .i64 q,.int .i64 h]⟩):=by kernel_rfl
theorem OM{x y:Int}(a:x=(n:Int))(c:y=(m:Int))(b:z=(i:Int)):([.int .i64 x,.int .i64 y,.int .i64 z]:List Value)=qV (n,m,i):=by rw[a,c,b];rfl
def Hv(q h:Nat)(a:cq):List (Int×Pl):=if a.i=0 then[(0,(a.t.toNat,q,if h=0 then 2 else h))]else[]
def HU(h i:Nat)(a:cq)(k:Nat)(b:cq):List (Int×Pl):=
 if a.i=b.i then(if h=0 then[(a.i,(a.t.toNat,b.t.toNat,if i=k then 0 else 1))]else if 0<a.i then[(a.i,(a.t.toNat,b.t.toNat,1))]else[])else[]
def uP(h i:Nat)(a:cq):List cq->Nat->List (Int×Pl)
 |[],_=>[]
 |b::r,k=>HU h i a k b++uP h i a r (k+1)
def zW(q h:Nat)(b:List cq):List cq->Nat->List (Int×Pl)
 |[],_=>[]
 |a::r,i=>Hv q h a++uP h i a b 0++zW q h b r (i+1)
def ND(p:Nat)(b:cq):List (Int×Pl):=if b.i=0 then[(0,(p,b.t.toNat,1))]else[]
def RM(M:aH)(k:Pl):List (Int×Pl):=zW k.2.1 k.2.2 (bD M k.2.1) (bD M k.1) 0++(if k.2.2=1 then(bD M k.2.1).flatMap (ND k.1)else[])
theorem Fq(h i:Nat)(a:cq):∀(l m:List cq)(k:Nat),uP h i a (l++m) k=uP h i a l k++uP h i a m (k+l.length)
 |[],m,k=>rfl
 |b::l,m,k=>by
  rw[cons_append,uP,uP,Fq h i a l m (k+1),append_assoc,length_cons,Nat.add_assoc,Nat.add_comm 1]
theorem Fs(q h:Nat)(a:List cq):∀(l m:List cq)(k:Nat),zW q h a (l++m) k=zW q h a l k++zW q h a m (k+l.length)
 |[],m,k=>rfl
 |b::l,m,k=>by
  rw[cons_append,zW,zW,Fs q h a l m (k+1),append_assoc,append_assoc,append_assoc,length_cons,Nat.add_assoc,Nat.add_comm 1]
theorem vL{h i:Nat}{a:cq}{x:Int×Pl}:∀{l:List cq}{k:Nat},x∈uP h i a l k↔ ∃j b,l[j]?=some b/\x∈HU h i a (k+j) b
 |[],k=>by simp[uP]
 | c::l,k=>by
  rw[uP,mem_append,vL];constructor
  ·rintro(d|⟨j,b,d,e⟩)
   ·exact⟨0,c,rfl,d⟩
   ·exact⟨j+1,b,d,by rw[show k+(j+1)=k+1+j by omega];exact e⟩
  ·rintro⟨j,b,d,e⟩
   cases j with
   |zero=>
    obtain rfl:c=b:=by simpa using d
    exact .inl e
   |succ j=>exact .inr ⟨j,b,by simpa using d,by rw[show k+1+j=k+(j+1) by omega];exact e⟩
theorem N9{q h:Nat}{f:List cq}{x:Int×Pl}:∀{l:List cq}{k:Nat},x∈zW q h f l k↔ ∃i a,l[i]?=some a/\(x∈Hv q h a\/x∈uP h (k+i) a f 0)
 |[],k=>by simp[zW]
 | c::l,k=>by
  rw[zW,mem_append,mem_append,N9];constructor
  ·rintro(d|⟨j,b,d,e⟩)
   ·exact⟨0,c,rfl,d⟩
   ·exact⟨j+1,b,d,by rw[show k+(j+1)=k+1+j by omega];exact e⟩
  ·rintro⟨j,b,d,e⟩
   cases j with
   |zero=>
    obtain rfl:c=b:=by simpa using d
    exact .inl e
   |succ j=>exact .inr ⟨j,b,by simpa using d,by rw[show k+1+j=k+(j+1) by omega];exact e⟩
theorem N8(x:Good M){k v:Pl}{c:Int}:(c,v)∈RM M k↔RX M k c v:=by
 obtain⟨p,q,h⟩:=k;unfold RM;rw[mem_append,N9];dsimp only;constructor
 ·rintro(⟨i,a,g,m|m⟩|m)
  ·unfold Hv at m;split at m
   ·next l=>
    have:=mem_singleton.1 m;injection this with o r
    subst o;subst r;exact .WC (List.mem_of_getElem? g) l
   ·cases m
  ·obtain⟨j,b,f,d⟩:=vL.1 m;rw[zero_add,zero_add]at d;unfold HU at d;split at d
   ·next e=>
    split at d
    ·next l=>
     subst l;have:=mem_singleton.1 d;injection this with o r
     subst o;subst r;by_cases s:i=j
     ·subst s;rw[if_pos rfl];exact .same g f e
     ·rw[if_neg s];exact .fork g f e s
    ·next l=>
     split at d
     ·next z=>
      have:=mem_singleton.1 d;injection this with o r
      subst o;subst r;exact .read (List.mem_of_getElem? g) (List.mem_of_getElem? f) e (by omega) l
     ·cases d
   ·cases d
  ·split at m
   ·next t=>
    obtain⟨b,f,d⟩:=List.mem_flatMap.1 m;unfold ND at d;split at d
    ·next l=>
     have:=mem_singleton.1 d;injection this with o r
     subst o;subst r;subst t;exact .U7 f l
    ·cases d
   ·cases m
 ·intro w
  cases w with
  |@WC _ _ _ a g l=>
   obtain⟨i,u⟩:=getElem?_of_mem g;exact .inl ⟨i,a,u,.inl (by unfold Hv;rw[if_pos l];exact mem_singleton.2 rfl)⟩
  |@same _ _ i a b g f e=>
   exact .inl ⟨i,a,g,.inr (vL.2 ⟨i,b,f,by unfold HU;rw[if_pos e,if_pos rfl,if_pos (by omega)];exact mem_singleton.2 rfl⟩)⟩
  |@fork _ _ i k a b g f e n=>
   exact .inl ⟨i,a,g,.inr (vL.2 ⟨k,b,f,by unfold HU;rw[if_pos e,if_pos rfl,if_neg (by omega)];exact mem_singleton.2 rfl⟩)⟩
  |@read _ _ _ a b g f e l t=>
   obtain⟨i,u⟩:=getElem?_of_mem g;obtain⟨j,y⟩:=getElem?_of_mem f;have:=(iO x g).i0;exact .inl ⟨i,a,u,.inr (vL.2 ⟨j,b,y,by unfold HU;rw[if_pos e,if_neg t,if_pos (by omega)];exact mem_singleton.2 rfl⟩)⟩
  |@U7 _ _ b f l=>
   exact .inr (by rw[if_pos rfl];exact List.mem_flatMap.2 ⟨b,f,by unfold ND;rw[if_pos l];exact mem_singleton.2 rfl⟩)
end
section
section
variable {h0:aa} {M:aH}
theorem Sf(w0:Wf h0){S:Option Addr}{R P:Nat}(y0:ep h0 (.slice S R P) M.ak)(gd:Good M)(zA:∀s∈M.ak,s.an.length<=2000){h:aa}{L:List cD}{k:Pl}(hp:k.1<M.ak.length)(hq:k.2.1<M.ak.length){A:Nat}{fa fc:List Value}(hf:Nat.blt A YB=true)
  (I:List (Int×Pl)->aa->List cD->Prop) (Y:∀l g L,I l g L->OL h0 g L) (hG:∀l g L t,I l g L->Ok g t->I l t L) (hi:I [] h L)
  (hs:∀D x z8,RM M k=D++x::z8->∀g L,I D g L->FW SS A (fa++[.int .i64 x.1,.agg ⟨qV x.2⟩]++fc) g (λv t=>v = .tuple ⟨[]⟩/\∃m,I (D++[x]) t m/\eS g L t m)):
  FW SS 69 [.agg ⟨ba M S R P⟩,.agg ⟨qV k⟩,.func (.func A) ⟨fa⟩ ⟨fc⟩] h (λv t=>v = .tuple ⟨[]⟩/\∃m,I (RM M k) t m/\eS h L t m):=by
 obtain⟨p,q,d⟩:=k;refine O5 (ba M S R P) (qV (p,q,d)) A fa fc h _ ⟨_,pZ M S R P,_,Sv (p,q,d),?_⟩;have o:=Y _ _ _ hi;have e1:=(Ok.refl o.ok.wf).push (Bm M S R P);have m1:=o.fe (Bm M S R P);have i1:=hG _ _ _ _ hi e1;have c1:=(o.grow e1).2;generalize h.push (Bm M S R P)=O at*;have o1:=Y _ _ _ i1;have e2:=(Ok.refl o1.ok.wf).push (dS (p,q,d));have m2:=o1.fe (dS (p,q,d));have i2:=hG _ _ _ _ i1 e2;have z7:=(o1.grow e2).2;have m1:=z7 _ _ m1;have c2:=c1.trans z7;generalize O.push (dS (p,q,d))=g2 at*;have o2:=Y _ _ _ i2;have e3:=(Ok.refl o2.ok.wf).room 18;have y3:=(o2.grow e3).2;have m1:=y3 _ _ m1;have m2:=y3 _ _ m2;have i2:=hG _ _ _ _ i2 e3;have c2:=c2.trans y3;dsimp only;generalize v6:room g2 18=g3 at*;obtain⟨s,u3,ea,_,ms⟩:=jB hp;obtain⟨f,u8,eb,_,z0⟩:=jB hq;obtain⟨b,o,x,y,z,d1,d2,d3,d4,ar⟩:=y0.Ky (Y _ _ _ i2).ok u3;obtain⟨b',o',K,E,J,u9,v8,v5,u4,y6⟩:=y0.Ky (Y _ _ _ i2).ok u8;have hy:y=s.an.length:=ar.len;have v9:E=f.an.length:=y6.len;have v7:=zA s ms;have v3:=zA f z0;have l1:ae SS.P 22 g3 (.pointer (some ⟨h.next,3,none⟩))=some (.slice S R P):=aN rz zG m1.1 (by simp[ba]);refine⟨_,dp _,_,_,_,l1,_,oY _,_,rT _ _,_,dS.l0 m2.1,_,d1,_,fL _ _,_,_,_,d4,_,dp _,_,_,_,l1,_,oY _,_,nw _ _,_,dS.l1 m2.1,_,u9,_,fL _ _,_,_,_,u4,?_⟩;dsimp only at ea eb;have x4:RM M (p,q,d)=zW q d f.an s.an 0++(if d=1 then f.an.flatMap (ND p)else[]):=by unfold RM;dsimp only;rw[ea,eb]
 refine uR (ba M S R P) (qV (p,q,d)) A fa fc O.next x y z K E J (λmz i g=>i<=s.an.length/\mz=s.an.length-i/\∃m,I (zW q d f.an (s.an.take i) 0) g m/\eS g3 L g m) _ (λmz i=>?_) s.an.length (i:=0) ⟨zero_le _,rfl,L,i2,eS.refl _ _⟩;intros;rename_i g x9;obtain⟨f1,rfl,m,iL,hc⟩:=x9;have og:=Y _ _ _ iL;have B:=hc _ _ m2;refine ah (λG=>?_) (λG=>?_)
 ·have G:=dT G;have z1:i<s.an.length:=by omega
  obtain⟨a,ha⟩:∃a,s.an[i]?=some a:=⟨_,gE z1⟩
  have x9:=gd.an s ms a (List.mem_of_getElem? ha);obtain⟨t1,t2⟩:=fT ha;obtain⟨bb,oo,x1,x2,_⟩:=(ar.ok og.ok).at_ ha;obtain⟨u,p1,p2,p3⟩:=wb og.ok.wf a;refine⟨_,x1,_,x2,_,Fp,u,p1,?_⟩;have i3:=hG _ _ _ _ iL p2;have c3:=(og.grow p2).2;have N:Im (u.app (g.push Hu)) m g.next _:=og.new (Nat.le_refl _) p3;have B:=c3 _ _ B;have hc:=hc.trans c3;generalize u.app (g.push Hu)=V at*;have o3:=Y _ _ _ i3;have y4:(s.an.take i).length=i:=by rw[length_take];omega
  have y9:RM M (p,q,d)=zW q d f.an (s.an.take i) 0++(Hv q d a++(uP d i a f.an 0++(zW q d f.an (s.an.drop (i+1)) (i+1)++(if d=1 then f.an.flatMap (ND p)else[])))):=by
   rw[x4]
   conv=>lhs;rw[t1,Fs,y4,zero_add,zW]
   simp only[append_assoc]
  have v0:zW q d f.an (s.an.take (i+1)) 0=zW q d f.an (s.an.take i) 0++(Hv q d a++uP d i a f.an 0):=by
   rw[t2,Fs,y4,zero_add];show _++(Hv q d a++uP d i a f.an 0++zW q d f.an [] (i+1))=_;rw[zW,append_nil]
  have u2:wrap .i64 ((i:Int)+1)=((i+1:Nat):Int):=bF z1 (by omega);have z6:a.t=((a.t.toNat:Nat):Int):=by have:=x9.t0;omega
  generalize v4:zW q d f.an (s.an.take i) 0=D at*;have Z:∀(W:aa)(T:List cD),I (D++Hv q d a) W T->eS V m W T->LL SS bg [1,1,0,1,0,0,1,1,0,0,1,1,1,0,0] (bA A fa fc O.next x y z K E J g.next i 0) W (KK SS bg [1,1,0,0,1,1,1,0] [1,1,0,1,0,0] (RR bg [1,1,0,1,0,0] (fB (dH A fa fc O.next x y z K E J) (λmz i g=>i<=s.an.length/\mz=s.an.length-i/\∃m,I (zW q d f.an (s.an.take i) 0) g m/\eS g3 L g m)) (s.an.length-i) (KK SS bg [1,1,0,1,0] [] (EE SS bg (λv t=>v = .tuple ⟨[]⟩/\∃m,I (RM M (p,q,d)) t m/\eS h L t m))))):=by
   intro W T i5 c5;refine uS (ba M S R P) (qV (p,q,d)) A fa fc O.next x y z K E J g.next _ _ i (λF j t=>j<=f.an.length/\F=f.an.length-j/\∃w,I (D++Hv q d a++uP d i a (f.an.take j) 0) t w/\eS V m t w) _ (λF j=>?_) f.an.length (j:=0) ⟨zero_le _,rfl,T,by rw[List.take_zero,uP,append_nil];exact i5,c5⟩;intros;rename_i g6 u0;obtain⟨f6,rfl,L6,i6,x7⟩:=u0;have o6:=Y _ _ _ i6;have B:=x7 _ _ B;have N:=x7 _ _ N;refine ah (λG=>?_) (λG=>?_)
   ·have G:=dT G;have x3:j<f.an.length:=by omega
    obtain⟨c,Q⟩:∃c,f.an[j]?=some c:=⟨_,gE x3⟩
    have x5:=gd.an f z0 c (List.mem_of_getElem? Q);obtain⟨v1,v2⟩:=fT Q;obtain⟨cc,oc,y1,y2,_⟩:=(y6.ok o6.ok).at_ Q;obtain⟨u6,r1,r2,r3⟩:=wb o6.ok.wf c;refine⟨_,y1,_,y2,_,Fp,u6,r1,?_⟩;have i7:=hG _ _ _ _ i6 r2;have c7:=(o6.grow r2).2;have B:_=some (dS (p,q,d)):=(c7 _ _ B).1;have N:AB _ _ a:=(c7 _ _ N).1;have z4:=x7.trans c7;generalize u6.app (g6.push Hu)=g7 at*;have x0:wrap .i64 ((j:Int)+1)=((j+1:Nat):Int):=bF x3 (by omega);have y5:c.t=((c.t.toNat:Nat):Int):=by have:=x5.t0;omega
    have z2:(f.an.take j).length=j:=by rw[length_take];omega
    have z3:uP d i a (f.an.take (j+1)) 0=uP d i a (f.an.take j) 0++HU d i a j c:=by
     rw[v2,Fq,z2,zero_add];show _++(HU d i a j c++uP d i a [] (j+1))=_;rw[uP,append_nil]
    have u1:uP d i a f.an 0=uP d i a (f.an.take j) 0++(HU d i a j c++uP d i a (f.an.drop (j+1)) (j+1)):=by
     conv=>lhs;rw[v1,Fq,z2,zero_add,uP]
    have z5:HU d i a j c=[]->aJ (fB (bA A fa fc O.next x y z K E J g.next i) (λF j t=>j<=f.an.length/\F=f.an.length-j/\∃w,I (D++Hv q d a++uP d i a (f.an.take j) 0) t w/\eS V m t w)) (f.an.length-j) [(.func (.func A) ⟨fa⟩ ⟨fc⟩),(pA O.next),(.slice K E J),(iA i),(pA g.next),(.slice x y z),(iA y),(iA i),(.slice K E J),(iA E),(.int .i64 (wrap .i64 ((j:Int)+1)))] g7:=λhB=>by
     rw[x0];exact cK (a:=j+1) (f.an.length-(j+1)) (by omega) ⟨by omega,rfl,L6,by rw[z3,hB,append_nil];exact i7,z4⟩
    have u7:∀xx:Int×Pl,HU d i a j c=[xx]->FW SS A (fa++[.int .i64 xx.1,.agg ⟨qV xx.2⟩]++fc) g7 (λv h=>v = .tuple ⟨[]⟩/\aJ (fB (bA A fa fc O.next x y z K E J g.next i) (λF j t=>j<=f.an.length/\F=f.an.length-j/\∃w,I (D++Hv q d a++uP d i a (f.an.take j) 0) t w/\eS V m t w)) (f.an.length-j) [(.func (.func A) ⟨fa⟩ ⟨fc⟩),(pA O.next),(.slice K E J),(iA i),(pA g.next),(.slice x y z),(iA y),(iA i),(.slice K E J),(iA E),(.int .i64 (wrap .i64 ((j:Int)+1)))] h):=λxx hB=>by
     have x6:RM M (p,q,d)=(D++Hv q d a++uP d i a (f.an.take j) 0)++xx::(uP d i a (f.an.drop (j+1)) (j+1)++(zW q d f.an (s.an.drop (i+1)) (i+1)++(if d=1 then f.an.flatMap (ND p)else[]))):=by
      rw[y9,u1,hB];simp only[append_assoc,cons_append,List.nil_append]
     refine(hs _ _ _ x6 g7 L6 i7).mono ?_;rintro _ g8 ⟨rfl,L8,i8,c8⟩;refine⟨rfl,?_⟩;rw[x0];exact cK (a:=j+1) (f.an.length-(j+1)) (by omega) ⟨by omega,rfl,L8,by rw[z3,hB,<-append_assoc];exact i8,z4.trans c8⟩
    have x8:∀r:Nat,HU d i a j c=[(a.i,(a.t.toNat,c.t.toNat,r))]->∀(Kx:Prop),aQ (Nat.blt A YB) (FW SS A (fa++[.int .i64 a.i,.agg ⟨[.int .i64 a.t,.int .i64 c.t,.int .i64 (r:Int)]⟩]++fc) g7 (λv h=>v = .tuple ⟨[]⟩/\aJ (fB (bA A fa fc O.next x y z K E J g.next i) (λF j t=>j<=f.an.length/\F=f.an.length-j/\∃w,I (D++Hv q d a++uP d i a (f.an.take j) 0) t w/\eS V m t w)) (f.an.length-j) [(.func (.func A) ⟨fa⟩ ⟨fc⟩),(pA O.next),(.slice K E J),(iA i),(pA g.next),(.slice x y z),(iA y),(iA i),(.slice K E J),(iA E),(.int .i64 (wrap .i64 ((j:Int)+1)))] h)) False:=λr hB Kx=>by
     refine ah (λ_=>?_) (λqx=>by rw[hf]at qx;cases qx);rw[OM z6 y5 rfl];exact u7 _ hB
    refine⟨_,js _ _,_,N.l0,_,js _ _,_,r3.l0,ah (λn=>?_) (λn=>?_)⟩
    ·have n:a.i≠c.i:=by simpa using n
     exact z5 (by unfold HU;rw[if_neg n])
    have n:a.i=c.i:=by simpa using n
    refine⟨_,oZ _,_,dS.l2 B,ah (λC=>?_) (λC=>?_)⟩
    ·have C:d=0:=by
      have:(d:Int)=0:=by simpa using C
      omega
     refine ah (λH=>?_) (λH=>?_)
     ·have H:i=j:=by
       have:(i:Int)=j:=by simpa using H
       omega
      exact⟨_,js _ _,_,N.l0,_,eU _ _,_,N.l3,_,eU _ _,_,r3.l3,_,mw _ _,_,tG _ _ _,x8 0 (by unfold HU;rw[if_pos n,if_pos C,if_pos H]) True⟩
     ·have H:i≠j:=by
       intro e;rw[e]at H;simp at H
      refine⟨_,oZ _,_,dS.l2 B,ah (λq4=>?_) (λq4=>?_)⟩
      ·refine ah (λU=>?_) (λU=>by rw[q4]at U;cases U);exact⟨_,js _ _,_,N.l0,_,eU _ _,_,N.l3,_,eU _ _,_,r3.l3,_,mw _ _,_,tG _ _ _,x8 1 (by unfold HU;rw[if_pos n,if_pos C,if_neg H]) True⟩
      ·exfalso;have:¬(d:Int)=0:=by simpa using q4
       omega
    ·have C:d≠0:=by
      intro e;rw[e]at C;simp at C
     refine⟨_,oZ _,_,dS.l2 B,ah (λq4=>?_) (λq4=>?_)⟩
     ·exfalso;have:(d:Int)=0:=by simpa using q4
      omega
     ·refine⟨_,js _ _,_,N.l0,ah (λU=>?_) (λU=>?_)⟩
      ·have U:0<a.i:=dT U;exact⟨_,js _ _,_,N.l0,_,eU _ _,_,N.l3,_,eU _ _,_,r3.l3,_,mw _ _,_,tG _ _ _,x8 1 (by unfold HU;rw[if_pos n,if_neg C,if_pos U]) True⟩
      ·have U:¬0<a.i:=dF U;exact z5 (by unfold HU;rw[if_pos n,if_neg C,if_neg U])
   ·have G:=dF G;have e:f.an.take j=f.an:=List.take_of_length_le (by omega);rw[e]at i6;rw[u2];refine cK (s.an.length-(i+1)) (by omega) ⟨by omega,rfl,L6,?_,hc.trans x7⟩;rw[v0,<-append_assoc];exact i6
  have y7:AB V g.next a:=N.1;refine⟨_,js _ _,_,y7.l0,ah (λn=>?_) (λn=>?_)⟩
  ·have n:a.i=0:=by simpa using n
   have y8:∀r:Nat,(if d=0 then 2 else d)=r->∀(Kx:aa->Prop),(∀(W:aa)(T:List cD),I (D++Hv q d a) W T->eS V m W T->Kx W)->aQ (Nat.blt A YB) (FW SS A (fa++[.int .i64 0,.agg ⟨[.int .i64 a.t,.int .i64 (q:Int),.int .i64 (r:Int)]⟩]++fc) V (λv h=>v = .tuple ⟨[]⟩/\Kx h)) False:=λr hr Kx hK=>by
    refine ah (λ_=>?_) (λqx=>by rw[hf]at qx;cases qx);rw[OM z6 rfl rfl];have hS:Hv q d a=[(0,(a.t.toNat,q,r))]:=by unfold Hv;rw[if_pos n,hr]
    rw[hS]at y9 hK;refine(hs D (0,(a.t.toNat,q,r)) _ y9 V m i3).mono ?_;rintro _ g8 ⟨rfl,L8,i8,c8⟩;exact⟨rfl,hK g8 L8 i8 c8⟩
   refine⟨_,oZ _,_,dS.l2 B.1,ah (λC=>?_) (λC=>?_)⟩
   ·have C:d=0:=by
     have:(d:Int)=0:=by simpa using C
     omega
    exact⟨_,eU _ _,_,y7.l3,_,oY _,_,nw _ _,_,dS.l1 B.1,_,mw _ _,_,tG _ _ _,y8 2 (if_pos C) _ Z⟩
   ·have C:d≠0:=by
     intro e;rw[e]at C;simp at C
    exact⟨_,eU _ _,_,y7.l3,_,oY _,_,nw _ _,_,dS.l1 B.1,_,mw _ _,_,oZ _,_,dS.l2 B.1,_,tG _ _ _,y8 d (if_neg C) _ Z⟩
  ·have n:a.i≠0:=by simpa using n
   have hS:Hv q d a=[]:=by unfold Hv;rw[if_neg n]
   exact Z V m (by rw[hS,append_nil];exact i3) (eS.refl _ _)
 ·have G:=dF G;have e:s.an.take i=s.an:=List.take_of_length_le (by omega);rw[e]at iL;refine⟨_,oZ _,_,dS.l2 B.1,ah (λn=>?_) (λn=>?_)⟩
  rotate_left
  ·have n:d≠1:=by
    intro e;rw[e]at n;simp at n
   rw[x4,if_neg n,append_nil];exact⟨rfl,m,iL,c2.trans hc⟩
  have n:d=1:=by
   have:(d:Int)=1:=by simpa using n
   omega
  rw[if_pos n]at x4;refine uT (ba M S R P) (qV (p,q,d)) A fa fc O.next K E J (λF j t=>j<=f.an.length/\F=f.an.length-j/\∃w,I (zW q d f.an s.an 0++(f.an.take j).flatMap (ND p)) t w/\eS g m t w) _ (λF j=>?_) f.an.length (i:=0) ⟨zero_le _,rfl,m,by simpa using iL,eS.refl _ _⟩;intros;rename_i W z9;obtain⟨f5,rfl,T,i5,X⟩:=z9;have o5:=Y _ _ _ i5;have B:=X _ _ B;refine ah (λG=>?_) (λG=>?_)
  ·have G:=dT G;have x3:j<f.an.length:=by omega
   obtain⟨c,Q⟩:∃c,f.an[j]?=some c:=⟨_,gE x3⟩
   have x5:=gd.an f z0 c (List.mem_of_getElem? Q);obtain⟨v1,v2⟩:=fT Q;obtain⟨cc,oc,y1,y2,_⟩:=(y6.ok o5.ok).at_ Q;obtain⟨u5,r1,r2,r3⟩:=wb o5.ok.wf c;refine⟨_,y1,_,y2,_,Fp,u5,r1,?_⟩;have i6:=hG _ _ _ _ i5 r2;have c6:=(o5.grow r2).2;have B:=c6 _ _ B;have X:=X.trans c6;generalize u5.app (W.push Hu)=g6 at*;have x0:wrap .i64 ((j:Int)+1)=((j+1:Nat):Int):=bF x3 (by omega);have y5:c.t=((c.t.toNat:Nat):Int):=by have:=x5.t0;omega
   refine⟨_,js _ _,_,r3.l0,ah (λH=>?_) (λH=>?_)⟩
   ·have H:c.i=0:=by simpa using H
    have hC:ND p c=[(0,(p,c.t.toNat,1))]:=by unfold ND;rw[if_pos H]
    refine⟨_,oY _,_,rT _ _,_,dS.l0 B.1,_,eU _ _,_,r3.l3,_,mw _ _,_,tG _ _ _,ah (λ_=>?_) (λq=>by rw[hf]at q;cases q)⟩;have x6:RM M (p,q,d)=(zW q d f.an s.an 0++(f.an.take j).flatMap (ND p))++(0,(p,c.t.toNat,1))::(f.an.drop (j+1)).flatMap (ND p):=by
     rw[x4];have e:=congrArg (List.flatMap (ND p)) v1;rw[List.flatMap_append,List.flatMap_cons,hC]at e;rw[e];simp only[append_assoc,cons_append,List.nil_append]
    rw[show([.int .i64 (((p,q,d):Pl).1:Int),.int .i64 c.t,.int .i64 1]:List Value)=qV (p,c.t.toNat,1)from OM rfl y5 rfl];refine(hs _ _ _ x6 g6 T i6).mono ?_;rintro _ g7 ⟨rfl,L7,i7,c7⟩;refine⟨rfl,?_⟩;rw[x0];refine cK (f.an.length-(j+1)) (by omega) ⟨by omega,rfl,L7,?_,X.trans c7⟩;rw[v2,List.flatMap_append,List.flatMap_cons,hC,<-append_assoc];exact i7
   ·have H:c.i≠0:=by simpa using H
    rw[x0];refine cK (f.an.length-(j+1)) (by omega) ⟨by omega,rfl,T,?_,X⟩;rw[v2,List.flatMap_append,List.flatMap_cons,show ND p c=[] by unfold ND;rw[if_neg H]];simpa using i6
  ·have G:=dF G;have e:f.an.take j=f.an:=List.take_of_length_le (by omega);rw[e,<-x4]at i5;exact⟨rfl,T,i5,c2.trans (hc.trans X)⟩
end
end
theorem SW(a b c d:Int):eF SS.P 2 105 (.agg ⟨[.int .i64 a,.int .i64 b]⟩) (.agg ⟨[.int .i64 c,.int .i64 d]⟩)=some ((a==c)&&(b==d)):=by
 have e:eF SS.P 2 105 (.agg ⟨[.int .i64 a,.int .i64 b]⟩) (.agg ⟨[.int .i64 c,.int .i64 d]⟩)=Bool.rec (motive:=λ_=>Option Bool) (some false) (Bool.rec (motive:=λ_=>Option Bool) (some false) (some true) (b==d)) (a==c):=by kernel_rfl
 rw[e]
 cases (a==c)<;>cases (b==d)<;>rfl
theorem XD(a b c d e f:Int):eF SS.P 3 107 (.agg ⟨[.int .i64 a,.int .i64 b,.int .i64 c]⟩) (.agg ⟨[.int .i64 d,.int .i64 e,.int .i64 f]⟩)=some ((a==d)&&(b==e)&&(c==f)):=by
 have h:eF SS.P 3 107 (.agg ⟨[.int .i64 a,.int .i64 b,.int .i64 c]⟩) (.agg ⟨[.int .i64 d,.int .i64 e,.int .i64 f]⟩)=match eF SS.P 2 105 (.agg ⟨[.int .i64 a,.int .i64 b]⟩) (.agg ⟨[.int .i64 d,.int .i64 e]⟩)with
  |some true=>Bool.rec (motive:=λ_=>Option Bool) (some false) (some true) (c==f)
  |some false=>some false
  |none=>none:=by kernel_rfl
 rw[h,SW]
 cases (a==d)<;>cases (b==e)<;>cases (c==f)<;>rfl
theorem Tz(x y:Pl):qd SS.P 107 (.agg ⟨qV x⟩) (.agg ⟨qV y⟩)=some (decide (x=y)):=by
 unfold qd;rw[if_pos (show xy (Value.agg ⟨qV y⟩)=true from rfl)];rw[show eF SS.P 3 107 (.agg ⟨qV x⟩) (.agg ⟨qV y⟩)=_ from XD ..];by_cases h:x=y
 ·subst h;simp[qV,JS,zh,EO]
 ·have:((x.1:Int)==(y.1:Int)&&(x.2.1:Int)==(y.2.1:Int)&&(x.2.2:Int)==(y.2.2:Int))=false:=by
   refine Bool.eq_false_iff.2 λe=>h ?_;simp only[and_eq_true,beq_iff_eq]at e;obtain⟨⟨a,c⟩,b⟩:=e;exact Prod.ext (by omega) (Prod.ext (by omega) (by omega))
  rw[this];simp[h]
def lN(l:List Pl):List (Value×Value):=l.map λk=>(.agg ⟨qV k⟩,.bool true)
theorem Z9(x:Pl):∀(l:List Pl),od SS.P 107 (.agg ⟨qV x⟩) (lN l)=some (if x∈l then some (.bool true)else none)
 |[]=>rfl
 | k::l=>by
  show(match qd SS.P 107 (.agg ⟨qV x⟩) (.agg ⟨qV k⟩)with|some true=>some (some (Value.bool true))|some false=>od SS.P 107 (.agg ⟨qV x⟩) (lN l)|none=>none)=_;rw[Tz];by_cases h:x=k
  ·rw[decide_eq_true h,if_pos (by rw[h];exact mem_cons_self ..)]
  ·rw[decide_eq_false h];dsimp only;rw[Z9 x l];by_cases a:x∈l
   ·rw[if_pos a,if_pos (mem_cons_of_mem _ a)]
   ·rw[if_neg a,if_neg (λe=>(mem_cons.1 e).elim h a)]
theorem NZ{x:Pl}:∀{l:List Pl},x∉l->ju SS.P 107 (.agg ⟨qV x⟩) (.bool true) (lN l)=some (lN (l++[x]))
 |[],_=>rfl
 |k::l,h=>by
  show(match qd SS.P 107 (.agg ⟨qV x⟩) (.agg ⟨qV k⟩)with|some true=>some ((Value.agg ⟨qV x⟩,Value.bool true)::lN l)|some false=>(ju SS.P 107 (.agg ⟨qV x⟩) (.bool true) (lN l)).map ((Value.agg ⟨qV k⟩,Value.bool true)::·)|none=>none)=_;rw[Tz,decide_eq_false (λe=>h (by rw[e];exact mem_cons_self ..))];dsimp only;rw[NZ λe=>h (mem_cons_of_mem _ e)];rfl
theorem Oa:SS.P.underlying 110=some (.map 107 4):=by kernel_rfl
theorem aei:zeroOf SS.P 4=some (.bool false):=by kernel_rfl
theorem Yv{l:List Pl}(c:h.get k=some (.map (lN l)))(x:Pl):jF SS.P 110 (.map (some k)) (.agg ⟨qV x⟩) false h=some (.bool (decide (x∈l))):=by
 have b:jF SS.P 110 (.map (some k)) (.agg ⟨qV x⟩) false h=match (match h.get k with|some (.map a)=>some a|_=>none),zeroOf SS.P 4 with
  |some a,some z=>if kO SS.P 107 (.agg ⟨qV x⟩)then match od SS.P 107 (.agg ⟨qV x⟩) a with
   |some (some v)=>some v
   |some none=>some z
   |none=>none else none
  |_,_=>none:=by
  unfold jF bj;dsimp only;rw[Oa];rfl
 rw[b,c,aei];dsimp only;rw[show kO SS.P 107 (.agg ⟨qV x⟩)=true by kernel_rfl,if_pos rfl,Z9];by_cases h:x∈l
 ·rw[if_pos h,decide_eq_true h]
 ·rw[if_neg h,decide_eq_false h]
theorem Wa{l:List Pl}(b:h.get k=some (.map (lN l))){x:Pl}(a:x∉l):gG SS.P 110 (.map (some k)) (.agg ⟨qV x⟩) (.bool true) h=some (undef,.set k (.map (lN (l++[x])))):=by
 unfold gG;rw[Oa];dsimp only;rw[b];dsimp only;rw[show kO SS.P 107 (.agg ⟨qV x⟩)=true by kernel_rfl,if_pos rfl,NZ a];rfl
theorem ZT:Go.Ab.isAgg SS.P 110=false:=by kernel_rfl
theorem OB:SS.P.underlying 108=some (.slice 107):=by kernel_rfl
theorem ZS:Go.Ab.isAgg SS.P 108=false:=by kernel_rfl
noncomputable def VJ:TypeInfo:=(SS.P.info? 107).getD default
theorem adD:dG SS.P 107=some VJ:=by kernel_rfl
theorem M3:VJ.size=3:=by kernel_rfl
theorem Ke:VJ.bytes=24:=by kernel_rfl
theorem adW:bZ SS.P 108=true:=by kernel_rfl
theorem Vy:au SS.P 108=some 1:=by kernel_rfl
theorem Z2(x:Pl):az SS.P 108 1 [(0,(.agg ⟨qV x⟩))]=some (.cells (qV x) 107 3 true,jc 1 1):=by kernel_rfl
theorem adE:dG SS.P 112=some OJ:=by kernel_rfl
theorem adX:bZ SS.P 109=true:=by kernel_rfl
theorem Z3(p:Option Addr):az SS.P 109 1 [(0,(.pointer p))]=some (.cells [.pointer p] 112 1 true,jc 1 1):=by cases p<;>kernel_rfl
theorem W0(a:Int):aD SS.P 116 [(0,(.int .i64 a))]=some (.agg ⟨rZ ⟨a,0,0⟩⟩):=by kernel_rfl
structure PT where
 k:Pl
 ms:List Mv
 p:Option Addr
def inP(M:aH)(k:Pl):Prop:=k.1<M.ak.length/\k.2.1<M.ak.length/\k.2.2<=2
structure UC where
 k5:Nat
 k7:Nat
 k8:Nat
 k9:Nat
 km:Nat
def ZD(K:UC)(b d:Value)(a:List PT)(e c:cD):List cD:=[[(K.k7,.cells [b] 108 0 true)],e,[(K.k8,.cells [d] 109 0 true)],c,[(K.km,.map (lN (a.map PT.k)))]]
structure US(h0:aa)(K:UC)(M:aH)(sa:Option Addr)(sn sc:Nat)(us:List PT)(g:aa)(L:List cD):Prop where
 o:OL h0 g L
 e:∃lv tv Gl Gt,L=ZD K lv tv us Gl Gt/\fh 107 3 lv (us.map λu=>qV u.k) Gl/\dy 112 tv (us.map λu=> .pointer u.p) Gt
 m5:Im g L K.k5 (Bm M sa sn sc)
 m9:Im g L K.k9 (.cells [.map (some K.km)] 110 0 true)
 nd:(us.map PT.k).Nodup
 at_:∀(j:Nat)(u:PT),us[j]?=some u->inP M u.k/\Rel M (wI u.ms.reverse) u.k/\(∀m∈u.ms,Qk m)/\u.ms.length<=j/\nL (Im g L) u.p u.ms
theorem US.aaU{K:UC}{e:List PT}{d:aa}{L b:List cD}(r:US h K M a n m e g L)(c:eS g L d b):∀(j:Nat)(u:PT),e[j]?=some u->inP M u.k/\Rel M (wI u.ms.reverse) u.k/\(∀q∈u.ms,Qk q)/\u.ms.length<=j/\nL (Im d b) u.p u.ms:=λj u l=>by
 obtain⟨i,k,f,o,p⟩:=r.at_ j u l;exact⟨i,k,f,o,p.mono c⟩
theorem US.grow{K:UC}{d:List PT}{c:aa}{L:List cD}(r:US h K M a n m d g L)(o:Ok g c):US h K M a n m d c L/\eS g L c L:=by
 obtain⟨e,b⟩:=r.o.grow o;exact⟨⟨e,r.e,b _ _ r.m5,b _ _ r.m9,r.nd,r.aaU b⟩,b⟩
theorem Nh{a:List PT}(i:(a.map PT.k).Nodup)(h:∀u∈a,inP M u.k):a.length<=M.ak.length*(3*M.ak.length):=by
 have n:((a.map PT.k).map λk:Pl=>((k.1,3*k.2.1+k.2.2):NN)).Nodup:=by
  refine List.pairwise_map.2 (List.Pairwise.imp_of_mem (λ{x y} b p f e=>f ?_) i);obtain⟨u,c,rfl⟩:=mem_map.1 b;obtain⟨v,j,rfl⟩:=mem_map.1 p;have d:=(h u c).2.2;have m:=(h v j).2.2;injection e with l e2
  exact Prod.ext l (Prod.ext (by omega) (by omega))
 have g:=nD (N:=M.ak.length) (M:=3*M.ak.length) n λk o=>by
  obtain⟨x,b,rfl⟩:=mem_map.1 o;obtain⟨u,c,rfl⟩:=mem_map.1 b;obtain⟨d,m,q⟩:=h u c;exact⟨d,by dsimp only;omega⟩
 rw[lM,lM]at g;exact g
section
section
variable {h0:aa} {K:UC} {M:aH} {sa:Option Addr} {sn sc:Nat} {us us0:List PT} {g:aa} {L:List cD} {ki i:Nat}
def UV(h0:aa)(K:UC)(M:aH)(sa:Option Addr)(sn sc:Nat)(us0:List PT)(ki i:Nat)(a:List (Int×Pl))(g:aa)(L:List cD):Prop:=
 ∃us,US h0 K M sa sn sc us g L/\Im g L ki (.cells [iA i] 3 0 true)/\(∃r,us=us0++r)/\∀x∈a,x.2∈us.map PT.k
theorem UV.ol{a:List (Int×Pl)}(v:UV h0 K M sa sn sc us0 ki i a g L):OL h0 g L:=by
 obtain⟨us,r,_⟩:=v;exact r.o
theorem UV.grow{a:List (Int×Pl)}(v:UV h0 K M sa sn sc us0 ki i a g L)(o:Ok g h):UV h0 K M sa sn sc us0 ki i a h L:=by
 obtain⟨us,r,c,d⟩:=v;obtain⟨b,e⟩:=r.grow o;exact⟨us,b,e _ _ c,d⟩
theorem Rx(T:Wf h0)(gd:Good M)(sz:M.ak.length<=300){s:PT}(S:us0[i]?=some s){c:Int}{d:Pl}(hs:RX M s.k c d)(hk:inP M d)(hc:0<=c){x2:List (Int×Pl)}(hv:UV h0 K M sa sn sc us0 ki i x2 g L):
  FW SS 70 [.int .i64 c,.agg ⟨qV d⟩,pA K.k9,pA K.k7,pA K.k8,pA ki] g (λv g'=>v = .tuple ⟨[]⟩/\∃L',UV h0 K M sa sn sc us0 ki i (x2++[(c,d)]) g' L'/\eS g L g' L'):=by
 refine Rw c (qV d) K.k9 K.k7 K.k8 ki g _ ⟨_,Sv d,?_⟩;obtain⟨us,r,C,⟨V,A⟩,Z⟩:=hv;have b:=r.o.fe (dS d);obtain⟨r,p⟩:=r.grow ((Ok.refl r.o.ok.wf).push (dS d));have C:=p _ _ C;generalize g.push (dS d)=g1 at*;obtain⟨o,⟨lv,tv,Gl,G,rfl,rl,rt⟩,U,J,nd,P⟩:=id r;obtain⟨la,lc,x1⟩:=rl.mU;obtain⟨B,tc,x5⟩:=rt.mU;rw[lM]at x1 x5;subst x1;subst x5;have z1:=Nh nd λu S=>by
  obtain⟨j,D⟩:=getElem?_of_mem S;exact(P j u D).1
 have z3:M.ak.length*(3*M.ak.length)<=300*900:=Nat.mul_le_mul sz (by omega);refine⟨_,J.ld Oa ZT,_,dS.all b.1,_,Yv (o.get 4 rfl) d,ah (λq=>?_) (λq=>?_)⟩
 rotate_left
 ·have hm:d∈us.map PT.k:=by simpa using q
  refine⟨rfl,_,⟨us,r,C,⟨V,A⟩,λx hx=>?_⟩,p⟩;rcases mem_append.1 hx with h|h
  ·exact Z x h
  ·rw[mem_singleton.1 h];exact hm
 have hm:d∉us.map PT.k:=by simpa using q
 obtain⟨o2,t⟩:=o.kF T 4 rfl (.map (lN (us.map PT.k++[d])));refine⟨_,J.ld Oa ZT,_,dS.all b.1,_,Wa (o.get 4 rfl) hm,?_⟩;have b:=t _ _ b;have p:=p.trans t;generalize (aY.set K.km (.map (lN (us.map PT.k++[d])))).app g1=g2 at*;refine⟨_,_,_,aN OB ZS (o2.get 0 rfl) (by simp),_,dS.all b.1,_,_,_,Z2 d,?_⟩;have k4:=aI g2 (.cells (qV d) 107 3 true);obtain⟨o4,c4⟩:=o2.grow ((Ok.refl o2.ok.wf).push (.cells (qV d) 107 3 true));have p:=p.trans c4;generalize g2.push (.cells (qV d) 107 3 true)=g4 at*;obtain⟨m,l,f,u,p1,p2,w,y3,o5,c5⟩:=rl.add OB adD M3 adW T o4 (j:=1) rfl (Hb k4 rfl) (λr hr=>by rw[mem_singleton.1 hr];rfl) rfl (by rw[Ke,lM,length_singleton];omega) (by rw[lM,length_singleton];omega) (.inl (Nat.le_refl _));refine⟨_,_,_,_,p1,?_⟩;have p:=p.trans c5;generalize u.app g4=H at*;obtain⟨R,c6⟩:=o5.kF T 0 rfl (.cells [.slice m l f] 108 0 true);have s6:aj SS.P 108 (pA K.k7) (.slice m l f) H=some (undef,.set K.k7 (.cells [.slice m l f] 108 0 true)):=bC Vy (cs:=[.slice la us.length lc]) (o5.get 0 rfl) (by simp) (aS ..) (cM ..);refine⟨_,s6,?_⟩;have p:=p.trans c6;have F:=((t.trans c4).trans c5).trans c6;have C:=F _ _ C;have U:=F _ _ U;have J:=F _ _ J;have N:∀(j:Nat)(u:PT),us[j]?=some u->nL (Im _ _) u.p u.ms:=λj u S=>(P j u S).2.2.2.2.mono F;clear t c4 c5 c6 F o2 o4 o5 k4 p1 b;change OL h0 ((aY.set K.k7 (.cells [.slice m l f] 108 0 true)).app H) [[(K.k7,.cells [.slice m l f] 108 0 true)],w,[(K.k8,.cells [.slice B us.length tc] 109 0 true)],G,[(K.km,.map (lN (us.map PT.k++[d])))]]at R;have p:eS g _ ((aY.set K.k7 (.cells [.slice m l f] 108 0 true)).app H) [[(K.k7,.cells [.slice m l f] 108 0 true)],w,[(K.k8,.cells [.slice B us.length tc] 109 0 true)],G,[(K.km,.map (lN (us.map PT.k++[d])))]]:=p;have C:Im ((aY.set K.k7 (.cells [.slice m l f] 108 0 true)).app H) [[(K.k7,.cells [.slice m l f] 108 0 true)],w,[(K.k8,.cells [.slice B us.length tc] 109 0 true)],G,[(K.km,.map (lN (us.map PT.k++[d])))]] ki (.cells [iA i] 3 0 true):=C;have U:Im ((aY.set K.k7 (.cells [.slice m l f] 108 0 true)).app H) [[(K.k7,.cells [.slice m l f] 108 0 true)],w,[(K.k8,.cells [.slice B us.length tc] 109 0 true)],G,[(K.km,.map (lN (us.map PT.k++[d])))]] K.k5 _:=U;have J:Im ((aY.set K.k7 (.cells [.slice m l f] 108 0 true)).app H) [[(K.k7,.cells [.slice m l f] 108 0 true)],w,[(K.k8,.cells [.slice B us.length tc] 109 0 true)],G,[(K.km,.map (lN (us.map PT.k++[d])))]] K.k9 _:=J;have N:∀(j:Nat)(u:PT),us[j]?=some u->nL (Im ((aY.set K.k7 (.cells [.slice m l f] 108 0 true)).app H) [[(K.k7,.cells [.slice m l f] 108 0 true)],w,[(K.k8,.cells [.slice B us.length tc] 109 0 true)],G,[(K.km,.map (lN (us.map PT.k++[d])))]]) u.p u.ms:=N;clear s6;generalize (aY.set K.k7 (.cells [.slice m l f] 108 0 true)).app H=E at*;have O:us[i]?=some s:=by
  rw[A,List.getElem?_append_left (List.getElem?_eq_some_iff.1 S).1];exact S
 have z0:i<us.length:=(List.getElem?_eq_some_iff.1 O).1;obtain⟨y8,x8,y4,y7,_⟩:=P i s O;have y5:=N i s O;have e7:=(Ok.refl R.ok.wf).room 12;obtain⟨o7,c7⟩:=R.grow e7;obtain⟨p0,i1,i2⟩:=(rt.rd o7 (i:=3) rfl).at_ xT Cf OP Nz (k:= .i64) (i:=(i:Int)) (by omega) (by rw[lM];omega);have i2:ae SS.P 112 (Go.Ab.room E 12) (.pointer (some p0))=some (.pointer s.p):=by
  rw[i2,toNat_natCast,gD,getElem?_map,O];rfl
 have l8:ae SS.P 109 (Go.Ab.room E 12) (pA K.k8)=some (.slice B us.length tc):=aN xT JC (o7.get 2 rfl) (by simp);refine⟨_,_,_,l8,_,W0 c,_,_,_,l8,_,(c7 _ _ C).ld lp ll,_,i1,_,i2,_,K1 ⟨c,0,0⟩ s.p,_,K5 ⟨c,0,0⟩ s.p,_,_,_,Z3 _,?_⟩;obtain⟨e8,g8,g9⟩:=ON R.ok.wf (n:=12) (i:=8) (j:=9) (by omega) (by omega) (by omega) (zp ⟨c,0,0⟩ s.p) (.cells [.pointer (some ⟨E.next+8,0,none⟩)] 112 1 true);have m8:=R.new (Nat.le_add_right E.next 8) g8;obtain⟨o8,c8⟩:=R.grow e8;have p:=p.trans c8;clear e7 o7 c7 i2 l8 i1;generalize y9:E.next+8=I at*;generalize z2:E.next+9=ky at*;generalize av (Go.Ab.room E 12) E.next [(9,.cells [.pointer (some ⟨I,0,none⟩)] 112 1 true),(8,zp ⟨c,0,0⟩ s.p)]=x3 at*;obtain⟨z,y,t,u2,y6,p3,Q,x7,x0,x6⟩:=rt.snoc xT adE CE adX T o8 (j:=3) rfl (x:= .pointer (some ⟨I,0,none⟩)) rfl g9 (by rw[zo,lM];omega) (by rw[lM];omega);refine⟨_,_,_,_,y6,?_⟩;have p:=p.trans x6;generalize u2.app x3=Y at*;obtain⟨W,x4⟩:=x0.kF T 2 rfl (.cells [.slice z y t] 109 0 true);have p:=p.trans x4;have eL:ZD K (.slice m l f) (.slice z y t) (us++[⟨d,⟨c,0,0⟩::s.ms,some ⟨I,0,none⟩⟩]) w Q=[[(K.k7,.cells [.slice m l f] 108 0 true)],w,[(K.k8,.cells [.slice z y t] 109 0 true)],Q,[(K.km,.map (lN (us.map PT.k++[d])))]]:=by
  unfold ZD;rw[map_append];rfl
 have cb:eS x3 ([[(K.k7,.cells [.slice m l f] 108 0 true)],w,[(K.k8,.cells [.slice B us.length tc] 109 0 true)],G,[(K.km,.map (lN (us.map PT.k++[d])))]]) ((aY.set K.k8 (.cells [.slice z y t] 109 0 true)).app Y) (ZD K (.slice m l f) (.slice z y t) (us++[⟨d,⟨c,0,0⟩::s.ms,some ⟨I,0,none⟩⟩]) w Q):=by rw[eL];exact x6.trans x4
 have X:=c8.trans cb;have W:OL h0 ((aY.set K.k8 (.cells [.slice z y t] 109 0 true)).app Y) (ZD K (.slice m l f) (.slice z y t) (us++[⟨d,⟨c,0,0⟩::s.ms,some ⟨I,0,none⟩⟩]) w Q):=by rw[eL];exact W
 have p:eS g (ZD K (.slice la us.length lc) (.slice B us.length tc) us Gl G) ((aY.set K.k8 (.cells [.slice z y t] 109 0 true)).app Y) (ZD K (.slice m l f) (.slice z y t) (us++[⟨d,⟨c,0,0⟩::s.ms,some ⟨I,0,none⟩⟩]) w Q):=by rw[eL];exact p
 refine⟨_,bC MW (x0.get 2 rfl) (by simp) (aS ..) (cM ..),rfl,_,⟨us++[⟨d,⟨c,0,0⟩::s.ms,some ⟨I,0,none⟩⟩],⟨W,⟨.slice m l f,.slice z y t,w,Q,rfl,by rw[map_append];exact y3,by rw[map_append];exact x7⟩,X _ _ U,X _ _ J,?_,λj u D=>?_⟩,X _ _ C,⟨V++[⟨d,⟨c,0,0⟩::s.ms,some ⟨I,0,none⟩⟩],by rw[A,append_assoc]⟩,λx hx=>?_⟩,p⟩
 ·rw[map_append];refine List.nodup_append.2 ⟨nd,by simp,λa ha b hb e=>?_⟩;have y1:b=d:=by simpa using hb
  rw[e,y1]at ha;exact hm ha
 ·by_cases y2:j<us.length
  ·rw[List.getElem?_append_left y2]at D;obtain⟨h1,h2,h3,h4,_⟩:=P j u D;exact⟨h1,h2,h3,h4,(N j u D).mono X⟩
  ·rw[List.getElem?_append_right (by omega)]at D;have y0:j-us.length=0:=by
    have:=(List.getElem?_eq_some_iff.1 D).1;simp at this;omega
   rw[y0]at D;obtain rfl:=oI D;refine⟨hk,?_,λmm x9=>?_,by show(s.ms.length+1)<=j;omega,.cons (cb _ _ m8) (y5.mono X)⟩
   ·show Rel M (wI (⟨c,0,0⟩::s.ms).reverse) d;rw[reverse_cons,Nk];exact x8.step hs
   ·rcases mem_cons.1 x9 with rfl|h
    ·exact⟨hc,Int.le_refl _,Int.le_refl _⟩
    ·exact y4 mm h
 ·rw[map_append];rcases mem_append.1 hx with h|h
  ·exact List.mem_append_left _ (Z x h)
  ·rw[mem_singleton.1 h];exact List.mem_append_right _ (mem_singleton.2 rfl)
end
end
noncomputable def kD:FD:=ei Tryz.f26 [([1,1,1,1,1,1,1,0,1,0,0],[5,7,8,9,10])]
abbrev eg(c e a d:Nat)(b:Nat):LV:=[(pA c),(pA e),(pA a),(pA d),(pA b)]
theorem V8(u:LV)(h:aa)(Q:VH)(M:xN (dK SS.P 24 (.agg ⟨u⟩)) h λB1 w=>xA (ae SS.P 24 w (pA (h.next))) λN=>FW SS 39 [(.agg ⟨N⟩)] w λL d=>∃r:LV,∃s:Int,L=(.tuple ⟨[(.agg ⟨r⟩),(.int .i64 s)]⟩)/\xN (aA SS.P 24) d λB8 I=>xU (aj SS.P 24 (pA (d.next)) (.agg ⟨r⟩) I) I λY a=>aQ (((s:Int) !=0)) (Q (.tuple ⟨[(.bool false),nA,(.int .i64 s)]⟩) a) (xP (af SS.P 24 (pA (d.next)) 3) λA=>xL (ae SS.P 22 a (.pointer (some A))) λZ v x2=>aQ (decide (((v:Int):Int)>200)) (Q (.tuple ⟨[(.bool false),nA,(.int .i64 2)]⟩) a) (xP (af SS.P 24 (pA (d.next)) 1) λz=>xI .i64 (ae SS.P 3 a (.pointer (some z))) λJ=>xP (af SS.P 24 (pA (d.next)) 1) λE=>xI .i64 (ae SS.P 3 a (.pointer (some E))) λy=>xA (aD SS.P 105 [(0,(.int .i64 J)),(1,(.int .i64 y))]) λx=>xA (aD SS.P 107 [(0,(.agg ⟨x⟩)),(1,(.int .i64 0))]) λt=>xN (aA SS.P 107) a λx1 n=>xU (aj SS.P 107 (pA (a.next)) (.agg ⟨t⟩) n) n λS i=>xA (ae SS.P 107 i (pA (a.next))) λC=>xR (az SS.P 108 1 [(0,(.agg ⟨C⟩))]) i λx0 D F q=>xR (az SS.P 109 1 [(0,(.pointer none))]) q λx4 K G e=>xN (aA SS.P 108) e λV g=>xN (aA SS.P 109) g λX l=>xU (aj SS.P 108 (pA (e.next)) (sA (i.next) D F) l) l λR m=>xU (aj SS.P 109 (pA (g.next)) (sA (q.next) K G) m) m λT b=>∃c:bw,oj SS.P 110=some (c,λk=> .map (some k))/\xA (ae SS.P 107 (b.push c) (pA (a.next))) λB=>xU (gG SS.P 110 (.map (some b.next)) (.agg ⟨B⟩) (.bool true) (b.push c)) (b.push c) λO f=>xN (aA SS.P 110) f λW o=>xU (aj SS.P 110 (pA (f.next)) (.map (some b.next)) o) o λU j=>xN (aA SS.P 3) j λP p=>xU (aj SS.P 3 (pA (j.next)) (.int .i64 0) p) p λx3 H=>LL SS kD [1,1,1,1,1,1,1,0,1,0,0] (eg (d.next) (e.next) (g.next) (f.next) (j.next)) H (KK SS kD [1,1,1,1,1,1,1,0,1,0] [] (EE SS kD Q))))):FW SS 26 [(.agg ⟨u⟩)] h Q:=eu kD Tryz.func26 (ax M)
theorem yp(mv:LV)(e f i j:Nat)(k:Nat->Nat->aa->Prop)(Q:VH)(step:∀(l:Nat) (b:Nat) (zz:Nat->Value) (h:aa),k l b h->xI .i64 (ae SS.P 3 h (pA b)) λx1=>xL (ae SS.P 108 h (pA f)) λv3 y2 v4=>aQ (decide ((x1:Int)<(y2:Int))) (xL (ae SS.P 108 h (pA f)) λy4 x5 x9=>xI .i64 (ae SS.P 3 h (pA b)) λz1=>xP (ai SS.P 108 (.slice y4 x5 x9) (.int .i64 z1)) λy7=>xA (ae SS.P 107 h (.pointer (some y7))) λy6=>xN (aA SS.P 107) h λv5 v=>xU (aj SS.P 107 (pA (h.next)) (.agg ⟨y6⟩) v) v λv6 a=>xP (af SS.P 107 (pA (h.next)) 1) λz0=>xI .i64 (ae SS.P 3 a (.pointer (some z0))) λu3=>aQ (((u3:Int) !=0)) (xP (af SS.P 24 (pA e) 3) λz7=>xL (ae SS.P 22 a (.pointer (some z7))) λY y8 u1=>xP (af SS.P 107 (pA (h.next)) 0) λx3=>xP (af SS.P 105 (.pointer (some x3)) 0) λz2=>xI .i64 (ae SS.P 3 a (.pointer (some z2))) λy5=>xP (ai SS.P 22 (.slice Y y8 u1) (.int .i64 y5)) λx4=>xP (af SS.P 44 (.pointer (some x4)) 0) λu2=>xS (ae SS.P 9 a (.pointer (some u2))) λz4=>aQ (!((z4:LB)==[])) (xP (af SS.P 24 (pA e) 3) λZ=>xL (ae SS.P 22 a (.pointer (some Z))) λy0 x8 x6=>xP (af SS.P 107 (pA (h.next)) 0) λy3=>xP (af SS.P 105 (.pointer (some y3)) 1) λy1=>xI .i64 (ae SS.P 3 a (.pointer (some y1))) λW=>xP (ai SS.P 22 (.slice y0 x8 x6) (.int .i64 W)) λx7=>xP (af SS.P 44 (.pointer (some x7)) 0) λu0=>xS (ae SS.P 9 a (.pointer (some u0))) λz6=>aQ (!((z6:LB)==[])) (xL (ae SS.P 109 a (pA i)) λz3 y9 x2=>xI .i64 (ae SS.P 3 a (pA b)) λz9=>xP (ai SS.P 109 (.slice z3 y9 x2) (.int .i64 z9)) λz5=>xO (ae SS.P 112 a (.pointer (some z5))) λz8=>FW SS 68 [(.pointer z8)] a λX x0=>∃(u:OA) (p r:Nat),∃(G:OA) (S F:Nat),∃(E:OA) (O P:Nat),X=(.tuple ⟨[(.slice u p r),(.slice G S F),(.slice E O P)]⟩)/\Q (.tuple ⟨[(.bool false),(.slice u p r),(.int .i64 0)]⟩) x0) (xA (ae SS.P 24 a (pA e)) λB=>xA (ae SS.P 107 a (pA (h.next))) λC=>FW SS 69 [(.agg ⟨B⟩),(.agg ⟨C⟩),(.func (.func 70) ⟨[]⟩ ⟨[(pA j),(pA f),(pA i),(pA b)]⟩)] a λw c=>w=(.tuple ⟨[]⟩)/\xI .i64 (ae SS.P 3 c (pA b)) λT=>xN (aA SS.P 3) c λu5 q=>xU (aj SS.P 3 (pA (c.next)) (.int .i64 T) q) q λu8 o=>xI .i64 (ae SS.P 3 o (pA (c.next))) λV=>xU (aj SS.P 3 (pA (c.next)) (.int .i64 (wrap .i64 (V+1))) o) o λu7 D=>aJ (fB (eg e f i j) k) l [(pA e),(pA f),(pA i),(pA j),(pA (c.next))] D)) (xA (ae SS.P 24 a (pA e)) λJ=>xA (ae SS.P 107 a (pA (h.next))) λR=>FW SS 69 [(.agg ⟨J⟩),(.agg ⟨R⟩),(.func (.func 70) ⟨[]⟩ ⟨[(pA j),(pA f),(pA i),(pA b)]⟩)] a λK g=>K=(.tuple ⟨[]⟩)/\xI .i64 (ae SS.P 3 g (pA b)) λz=>xN (aA SS.P 3) g λv0 t=>xU (aj SS.P 3 (pA (g.next)) (.int .i64 z) t) t λu4 n=>xI .i64 (ae SS.P 3 n (pA (g.next))) λU=>xU (aj SS.P 3 (pA (g.next)) (.int .i64 (wrap .i64 (U+1))) n) n λv1 I=>aJ (fB (eg e f i j) k) l [(pA e),(pA f),(pA i),(pA j),(pA (g.next))] I)) (xA (ae SS.P 24 a (pA e)) λL=>xA (ae SS.P 107 a (pA (h.next))) λy=>FW SS 69 [(.agg ⟨L⟩),(.agg ⟨y⟩),(.func (.func 70) ⟨[]⟩ ⟨[(pA j),(pA f),(pA i),(pA b)]⟩)] a λN d=>N=(.tuple ⟨[]⟩)/\xI .i64 (ae SS.P 3 d (pA b)) λA=>xN (aA SS.P 3) d λv2 s=>xU (aj SS.P 3 (pA (d.next)) (.int .i64 A) s) s λu6 m=>xI .i64 (ae SS.P 3 m (pA (d.next))) λM=>xU (aj SS.P 3 (pA (d.next)) (.int .i64 (wrap .i64 (M+1))) m) m λu9 x=>aJ (fB (eg e f i j) k) l [(pA e),(pA f),(pA i),(pA j),(pA (d.next))] x)) (Q (.tuple ⟨[(.bool true),nA,(.int .i64 0)]⟩) h))(l:Nat){b:Nat}{h:aa}(H:k l b h):LL SS kD [1,1,1,1,1,1,1,0,1,0,0] (eg e f i j b) h (KK SS kD [1,1,1,1,1,1,1,0,1,0] [] (EE SS kD Q)):=
 dQ (eg e f i j) k (λl b zz h H=>ax (step l b zz h H)) l H
section
theorem Tu{M:aH}(m:Good M){k g:Pl}{c:Int}(r:inP M k)(l:RX M k c g):inP M g/\0<=c:=by
 have d:∀{s:Nat}{a:cq},a∈bD M s->a.t.toNat<M.ak.length/\0<=a.i:=λb=>by
  have h:=iO m b;have h0:=h.t0;have i:=h.t1;exact⟨by omega,h.i0⟩
 obtain⟨i,o,j⟩:=r
 cases l with
 |@WC p q h a b h0=>exact⟨⟨(d b).1,o,by dsimp only at j⊢;split<;>omega⟩,Int.le_refl _⟩
 |same b f e=>exact⟨⟨(d (List.mem_of_getElem? b)).1,(d (List.mem_of_getElem? f)).1,zero_le _⟩,(d (List.mem_of_getElem? b)).2⟩
 |fork b f e n=>exact⟨⟨(d (List.mem_of_getElem? b)).1,(d (List.mem_of_getElem? f)).1,(show 1<=2 by decide)⟩,(d (List.mem_of_getElem? b)).2⟩
 |read b f e h0 t=>exact⟨⟨(d b).1,(d f).1,(show 1<=2 by decide)⟩,(d b).2⟩
 |U7 f h0=>exact⟨⟨i,(d f).1,(show 1<=2 by decide)⟩,Int.le_refl _⟩
theorem ZX:aA SS.P 107=some (.cells (qV (0,0,0)) 107 0 true,dX):=by kernel_rfl
theorem acK:Nat.blt 70 YB=true:=by kernel_rfl
def unQ(h:aa)(N:aH):VH:=λv g=>∃(b:Bool)(a:Option Addr)(n c:Nat),v = .tuple ⟨[.bool b,.slice a n c,.int .i64 0]⟩/\Ok h g/\((b=true/\n=0/\sP N)\/(b=false/\∃l l' x y z,uy N l x y/\uy N l' x z/\l≠l'/\Rd g 3 (.slice a n c) (x.map zV)))
section
variable {h0:aa} {K:UC} {M:aH} {sa:Option Addr} {sn sc:Nat}
def UI(h0:aa)(K:UC)(M:aH)(sa:Option Addr)(sn sc:Nat)(d e:Nat)(g:aa):Prop:=
 ∃(a:List PT)(i:Nat)(L:List cD),US h0 K M sa sn sc a g L/\Im g L e (.cells [iA i] 3 0 true)/\i<=a.length/\d=270000-i/\(∃u,a[0]?=some u/\u.k=(M.start.toNat,M.start.toNat,0))/\∀(j:Nat)(u:PT),j<i->a[j]?=some u->(u.k.2.2≠0->fX M u.k.1->fX M u.k.2.1->False)/\∀c b,RX M u.k c b->b∈a.map PT.k
theorem Ry(w0:Wf h0)(H:ep h0 (.slice sa sn sc) M.ak)(Y:Good M)(zA:∀s∈M.ak,s.an.length<=2000)(sz:M.ak.length<=300)(mv:LV){J mz:Nat}{g:aa}{Qf:VH}(hQ:∀v g,unQ h0 M v g->Qf v g)(b:UI h0 K M sa sn sc mz J g):
  LL SS kD [1,1,1,1,1,1,1,0,1,0,0] (eg K.k5 K.k7 K.k8 K.k9 J) g (KK SS kD [1,1,1,1,1,1,1,0,1,0] [] (EE SS kD Qf)):=by
 refine yp mv K.k5 K.k7 K.k8 K.k9 (λmz J g=>UI h0 K M sa sn sc mz J g) _ (λw9 Q=>?_) mz b;clear b g mz J;intro zz g b;obtain⟨d,i,L,r,T,v2,rfl,⟨uf,x5,x2⟩,cl⟩:=b;have v3:=Nh r.nd λu t=>by
  obtain⟨j,A⟩:=getElem?_of_mem t;exact(r.at_ j u A).1
 have w4:M.ak.length*(3*M.ak.length)<=300*900:=Nat.mul_le_mul sz (by omega);obtain⟨o,⟨lv,tv,Gl,Gt,rfl,rl,rt⟩,m5,m9,nd,z7⟩:=id r;obtain⟨la,lc,x1⟩:=rl.mU;obtain⟨ta,tc,x7⟩:=rt.mU;rw[lM]at x1 x7;subst x1;subst x7;have l7:ae SS.P 108 g (pA K.k7)=some (.slice la d.length lc):=aN OB ZS (o.get 0 rfl) (by simp);refine⟨_,T.ld lp ll,_,_,_,l7,ah (λq=>?_) (λq=>?_)⟩
 rotate_left
 ·have q:=dF q;have v5:i=d.length:=by omega
  refine hQ _ _ ⟨true,none,0,0,rfl,o.ok,.inl ⟨rfl,rfl,?_⟩⟩;refine V7 (P:=λk=>k∈d.map PT.k) (λk c U hk V=>?_) ?_ (λp q h hk hh f f'=>?_)
  ·obtain⟨u,t,rfl⟩:=mem_map.1 hk;obtain⟨j,A⟩:=getElem?_of_mem t;exact(cl j u (by have:=(List.getElem?_eq_some_iff.1 A).1;omega) A).2 c U V
  ·rw[<-x2];exact mem_map.2 ⟨uf,List.mem_of_getElem? x5,rfl⟩
  ·obtain⟨u,t,e⟩:=mem_map.1 hk;obtain⟨j,A⟩:=getElem?_of_mem t;refine(cl j u (by have:=(List.getElem?_eq_some_iff.1 A).1;omega) A).1 ?_ ?_ ?_
   ·rw[e];exact hh
   ·rw[e];exact f
   ·rw[e];exact f'
 have q:=dT q;have x0:i<d.length:=by omega
 obtain⟨u,t⟩:∃u,d[i]?=some u:=⟨_,gE x0⟩
 obtain⟨b,y3,u0,u3,w7⟩:=z7 i u t;obtain⟨kk,oo,d1,d2,_⟩:=(rl.rd o (i:=1) rfl).at_ OB Hf aas ZR (ik:= .i64) (i:=(i:Int)) (by omega) (by rw[lM];omega);have d2:ae SS.P 107 g (.pointer (some ⟨kk,oo,none⟩))=some (.agg ⟨qV u.k⟩):=by
  rw[d2,toNat_natCast,gD,getElem?_map,t];rfl
 refine⟨_,_,_,l7,_,T.ld lp ll,_,d1,_,d2,_,ZX,?_⟩;have e2:=((Ok.refl o.ok.wf).push (.cells (qV (0,0,0)) 107 0 true)).set (dS u.k) (Nat.le_refl _) (lt_succ_self _) o.ok.wf;have G:((g.push (.cells (qV (0,0,0)) 107 0 true)).set g.next (dS u.k)).get g.next=some (dS u.k):=by rw[aa.aw,if_pos rfl]
 have s2:aj SS.P 107 (pA g.next) (.agg ⟨qV u.k⟩) (g.push (.cells (qV (0,0,0)) 107 0 true))=some (undef,.set g.next (dS u.k)):=du Hf rfl (aI g _) rfl (by simp[qV,bc]);refine⟨_,s2,?_⟩;have e2:Ok g ((aY.set g.next (dS u.k)).app (g.push (.cells (qV (0,0,0)) 107 0 true))):=e2;have G:((aY.set g.next (dS u.k)).app (g.push (.cells (qV (0,0,0)) 107 0 true))).get g.next=some (dS u.k):=G;have G:=o.new (Nat.le_refl g.next) G;obtain⟨I,c2⟩:=r.grow e2;have T:=c2 _ _ T;clear e2 s2;generalize ((aY.set g.next (dS u.k)).app (g.push (.cells (qV (0,0,0)) 107 0 true)))=O at*;generalize g.next=kx at*;have D:(u.k.2.2≠0->fX M u.k.1->fX M u.k.2.1->False)->xA (ae SS.P 24 O (pA K.k5)) λx9=>xA (ae SS.P 107 O (pA kx)) λy0=>FW SS 69 [(.agg ⟨x9⟩),(.agg ⟨y0⟩),(.func (.func 70) ⟨[]⟩ ⟨[(pA K.k9),(pA K.k7),(pA K.k8),(pA Q)]⟩)] O λx8 w=>x8=(.tuple ⟨[]⟩)/\xI .i64 (ae SS.P 3 w (pA Q)) λy7=>xN (aA SS.P 3) w λu1 W=>xU (aj SS.P 3 (pA (w.next)) (.int .i64 y7) W) W λu8 N=>xI .i64 (ae SS.P 3 N (pA (w.next))) λy8=>xU (aj SS.P 3 (pA (w.next)) (.int .i64 (wrap .i64 (y8+1))) N) N λu4 y1=>aJ (fB (eg K.k5 K.k7 K.k8 K.k9) (λmz J g=>UI h0 K M sa sn sc mz J g)) (270000-i) [(pA K.k5),(pA K.k7),(pA K.k8),(pA K.k9),(pA (w.next))] y1:=λy2=>by
  have lM:ae SS.P 24 O (pA K.k5)=some (.agg ⟨ba M sa sn sc⟩):=fE ym wQ iZ I.m5.1 (by simp[ba]);refine⟨_,lM,_,dS.all G.1,?_⟩;refine(Sf w0 H Y zA b.1 b.2.1 (fa:=[]) (fc:=[(pA K.k9),(pA K.k7),(pA K.k8),(pA Q)]) acK (λl g L=>UV h0 K M sa sn sc d Q i l g L) (λl g L v=>v.ol) (λl g L g' v e=>v.grow e) ⟨d,I,T,⟨[],(append_nil _).symm⟩,λx X=>(by cases X)⟩ (λv9 x u2 Z g' L' hv=>?_)).mono ?_
  ·have X:x∈RM M u.k:=by rw[Z];simp
   have x3:=(N8 Y).1 (show(x.1,x.2)∈RM M u.k from X);obtain⟨h1,h2⟩:=Tu Y b x3;exact Rx w0 Y sz t x3 h1 h2 hv
  ·rintro _ F ⟨rfl,L5,⟨R,S,z5,⟨u7,C⟩,y5⟩,c5⟩;have u5:=Nh S.nd λu t=>by
    obtain⟨j,A⟩:=getElem?_of_mem t;exact(S.at_ j u A).1
   have w6:d.length<=R.length:=by rw[C,length_append];omega
   refine⟨rfl,_,z5.ld lp ll,_,al3,?_⟩;obtain⟨u6,s6,e6,m6⟩:=S.o.cell (P:=SS.P) wF (.int .i64 0) (v:=iA i) rfl rfl;refine⟨u6,s6,?_⟩;generalize u9:u6.app (F.push (.cells [.int .i64 0] 3 0 true))=g6 at*;have hw:wrap .i64 ((i:Int)+1)=((i+1:Nat):Int):=bF x0 (by omega);have s7:aj SS.P 3 (pA F.next) (iA (i+1)) g6=some (undef,.set F.next (.cells [iA (i+1)] 3 0 true)):=bC wF (cs:=[iA i]) m6.1 (by simp) rfl rfl;refine⟨_,m6.ld lp ll,?_⟩;dsimp only;rw[hw];refine⟨_,s7,?_⟩;have e7:Ok F ((aY.set F.next (.cells [iA (i+1)] 3 0 true)).app g6):=e6.set _ (Nat.le_refl _) (e6.wf _ _ m6.1) S.o.ok.wf;have b7:((aY.set F.next (.cells [iA (i+1)] 3 0 true)).app g6).get F.next=some (.cells [iA (i+1)] 3 0 true):=by
    show(g6.set _ _).get _=_;rw[aa.aw,if_pos rfl]
   have m7:=S.o.new (Nat.le_refl F.next) b7;obtain⟨r7,c7⟩:=S.grow e7;have z8:∀(j:Nat)(v:PT),d[j]?=some v->R[j]?=some v:=λj v A=>by
    rw[C,List.getElem?_append_left (List.getElem?_eq_some_iff.1 A).1];exact A
   have z0:∀x,x∈d.map PT.k->x∈R.map PT.k:=λx X=>by
    rw[C,map_append];exact List.mem_append_left _ X
   refine cK (270000-(i+1)) (by omega) ⟨R,i+1,L5,r7,m7,by omega,rfl,⟨uf,z8 0 uf x5,x2⟩,λj v A hv=>?_⟩;have x6:d[j]?=some v:=by
    rw[C,List.getElem?_append_left (by omega)]at hv;exact hv
   by_cases z4:j<i
   ·obtain⟨h1,h2⟩:=cl j v z4 x6;exact⟨h1,λc U V=>z0 _ (h2 c U V)⟩
   ·obtain rfl:j=i:=by omega
    obtain rfl:=oI (t.symm.trans x6);exact⟨y2,λc U V=>y5 (c,U) ((N8 Y).2 V)⟩
 refine⟨_,oZ _,_,dS.l2 G.1,ah (λE=>?_) (λE=>?_)⟩
 rotate_left
 ·have E:u.k.2.2=0:=by
   have:(u.k.2.2:Int)=0:=by simpa using E
   omega
  exact D λh=>absurd E h
 have E:u.k.2.2≠0:=by
  intro e;rw[e]at E;simp at E
 obtain⟨sp,Z,_,fp,_⟩:=jB b.1;obtain⟨sq,y4,_,fq,_⟩:=jB b.2.1;obtain⟨_,_,_,_,_,d1,_,d3,_,_⟩:=H.Ky I.o.ok Z;obtain⟨_,_,_,_,_,z9,_,y9,_,_⟩:=H.Ky I.o.ok y4;have x4:ae SS.P 22 O (.pointer (some ⟨K.k5,3,none⟩))=some (.slice sa sn sc):=aN rz zG I.m5.1 (by simp[ba]);refine⟨_,dp _,_,_,_,x4,_,oY _,_,rT _ _,_,dS.l0 G.1,_,d1,_,pc _ _,_,d3,ah (λq3=>?_) (λq3=>?_)⟩
 rotate_left
 ·exact D λ_ h _=>by rw[<-fY,fp]at h;rw[h]at q3;cases q3
 refine⟨_,dp _,_,_,_,x4,_,oY _,_,nw _ _,_,dS.l1 G.1,_,z9,_,pc _ _,_,y9,ah (λq4=>?_) (λq4=>?_)⟩
 rotate_left
 ·exact D λ_ _ h=>by rw[<-fY,fq]at h;rw[h]at q4;cases q4
 have f1:fX M u.k.1:=fY.1 (by rw[fp];exact q3);have f2:fX M u.k.2.1:=fY.1 (by rw[fq];exact q4);obtain⟨l,l',y,z,a1,a2,z6⟩:=Rel.end_ (p:=u.k.1) (q:=u.k.2.1) (h:=u.k.2.2) y3 E f1 f2;obtain⟨o3,⟨v7,v1,v4,z3,z1,v0,w8⟩,_⟩:=id I;have h2:(ZD K (.slice la d.length lc) (.slice ta d.length tc) d Gl Gt)[3]?=some z3:=by rw[z1];rfl
 have y6:ae SS.P 109 O (pA K.k8)=some (.slice ta d.length tc):=aN xT JC (o3.get 2 rfl) (by simp);obtain⟨p0,i1,i2⟩:=(rt.rd o3 (i:=3) rfl).at_ xT Cf OP Nz (k:= .i64) (i:=(i:Int)) (by omega) (by rw[lM];omega);have i2:ae SS.P 112 O (.pointer (some p0))=some (.pointer u.p):=by
  rw[i2,toNat_natCast,gD,getElem?_map,t];rfl
 have z2:=(I.at_ i u t).2.2.2.2;refine⟨_,_,_,y6,_,T.ld lp ll,_,i1,_,i2,(Kp o3.ok.wf (z2.mono λk B m=>m.1) u0 (by omega)).mono ?_⟩;rintro _ g4 ⟨e4,a,n,c,a',n',c',v8,v6,w5,rfl,w1,w2,w3⟩;exact⟨_,_,_,_,_,_,_,_,_,rfl,hQ _ _ ⟨false,a,n,c,rfl,o3.ok.trans e4,.inr ⟨rfl,l,l',_,y,z,a1,a2,z6,w1.rd⟩⟩⟩
end
end
variable{A:Type}
theorem acr:aA SS.P 108=some (.cells [nA] 108 0 true,dX):=by kernel_rfl
theorem acs:aA SS.P 110=some (.cells [.map none] 110 0 true,dX):=by kernel_rfl
theorem abM:au SS.P 110=some 1:=by kernel_rfl
theorem adm:oj SS.P 110=some (.map [],λk=> .map (some k)):=by kernel_rfl
theorem adv(a b c d e:A):List.Perm [a,b,c,d,e] [c,a,d,b,e]:=
 (List.perm_middle (l₁:=[a,b]) (a:=c) (l₂:=[d,e])).trans (.cons c (.cons a (.swap d b [e])))
def aav(h:aa)(M:aH):VH:=λv g=>∃(b:Bool)(a:Option Addr)(n c:Nat)(e:Int),v = .tuple ⟨[.bool b,.slice a n c,.int .i64 e]⟩/\Ok h g/\
 ((cn M=false/\b=false/\n=0/\e=1)\/(cn M=true/\200<M.ak.length/\b=false/\n=0/\e=2)\/
  (cn M=true/\e=0/\((b=true/\n=0/\sP M)\/(b=false/\∃l l' x y z,uy M l x y/\uy M l' x z/\l≠l'/\Rd g 3 (.slice a n c) (x.map zV)))))
theorem Ju{c:Nat}(tb:sO h)(w:Wf h)(sm:Small M)(r:ep h (.slice a n c) M.ak):FW SS 26 [.agg ⟨ba M a n c⟩] h (aav h M):=by
 refine V8 (ba M a n c) h _ ⟨_,pZ M a n c,?_⟩;have Q:=(Ok.refl w).push (Bm M a n c);have b1:=aI h (Bm M a n c);have l1:ae SS.P 24 (h.push (Bm M a n c)) (pA h.next)=some (.agg ⟨ba M a n c⟩):=fE ym wQ iZ b1 (by simp[ba]);refine⟨_,l1,?_⟩;generalize h.push (Bm M a n c)=g1 at*;refine(I7 (tb.ok Q) Q.wf sm (r.ok Q)).mono ?_;rintro _ i ⟨C,E,t,ps,rfl,X,om,e2⟩;have o2:=Q.trans e2;refine⟨_,_,rfl,_,HQ,?_⟩;have e3:=(Ok.refl o2.wf).push mY;have b3:=aI i mY;have st:aj SS.P 24 (pA i.next) (.agg ⟨ba (dR M).1 C E t⟩) (i.push mY)=some (undef,.set i.next (Bm (dR M).1 C E t)):=du iZ rfl b3 rfl (by simp[ba,bc,strOf]);refine⟨_,st,?_⟩;have e4:Ok i ((aY.set i.next (Bm (dR M).1 C E t)).app (i.push mY)):=e3.set _ (Nat.le_refl _) (lt_succ_self _) o2.wf;have b4:((aY.set i.next (Bm (dR M).1 C E t)).app (i.push mY)).get i.next=some (Bm (dR M).1 C E t):=by
  show((i.push mY).set _ _).get _=_;rw[aa.aw,if_pos rfl]
 generalize (aY.set i.next (Bm (dR M).1 C E t)).app (i.push mY)=f at*;have J:=o2.trans e4
 cases H:cn M with
 |false=>
  rw[yl H];exact ah (λ_=>⟨_,_,_,_,_,rfl,J,.inl ⟨H,rfl,rfl,rfl⟩⟩) (λq=>by cases q)
 | true=>
  obtain⟨t1,t2,t3,t4,t5⟩:=Kj H sm;have W:=(om.ok e4).st;rw[X]at W;rw[t1];refine ah (λq=>by cases q) (λ_=>?_);have l4:ae SS.P 22 f (.pointer (some ⟨i.next,3,none⟩))=some (.slice C E t):=aN rz zG b4 (by simp[ba]);have l6:ae SS.P 3 f (.pointer (some ⟨i.next,1,none⟩))=some (.int .i64 (dR M).1.start):=aN lp ll b4 (by simp[ba]);have y6:E=(dR M).1.ak.length:=by have:=om.row.rd.len;rw[<-X,lM,this,lM]
  refine⟨_,dp _,_,_,_,l4,ah (λq=>?_) (λq=>?_)⟩
  ·have q:=dT q;exact⟨_,_,_,_,_,rfl,J,.inr (.inl ⟨H,by omega,rfl,rfl,rfl⟩)⟩
  generalize hN:(dR M).1=N at*;have s0:=t2.nR;have s1:=t2.rB;have Y:N.start=((N.start.toNat:Nat):Int):=by omega
  refine⟨_,pb _,_,l6,_,pb _,_,l6,_,mw _ _,_,tG _ _ _,_,ZX,?_⟩;rw[show([.int .i64 N.start,.int .i64 N.start,.int .i64 0]:List Value)=qV (N.start.toNat,N.start.toNat,0)from OM Y Y rfl];generalize I:((N.start.toNat,N.start.toNat,0):Pl)=d at*;have A:=J.wf;have q0:=OL.nil (Ok.refl A);have s5:aj SS.P 107 (pA f.next) (.agg ⟨qV d⟩) (f.push (.cells (qV (0,0,0)) 107 0 true))=some (undef,.set f.next (dS d)):=du Hf rfl (aI f _) rfl (by simp[qV,bc]);refine⟨_,s5,?_⟩;have e5:Ok f ((aY.set f.next (dS d)).app (f.push (.cells (qV (0,0,0)) 107 0 true))):=((Ok.refl A).push _).set _ (Nat.le_refl _) (lt_succ_self _) A;have b5:((aY.set f.next (dS d)).app (f.push (.cells (qV (0,0,0)) 107 0 true))).get f.next=some (dS d):=by
   show((f.push _).set _ _).get _=_;rw[aa.aw,if_pos rfl]
  have e:=q0.old A b4;have o:=q0.new (Nat.le_refl f.next) b5;obtain⟨q1,c1⟩:=q0.grow e5;have e:=c1 _ _ e;clear s5 e5 b5;generalize z1:(aY.set f.next (dS d)).app (f.push (.cells (qV (0,0,0)) 107 0 true))=g5 at*;generalize f.next=kf at*;have A:Wf f:=J.wf;refine⟨_,dS.all o.1,_,_,_,Z2 d,?_⟩;obtain⟨q2,t⟩:=q1.push (.cells (qV d) 107 3 true);have e:=t _ _ e;have o:=t _ _ o;generalize z2:g5.next=p at*;generalize g5.push (.cells (qV d) 107 3 true)=g6 at*;refine⟨_,_,_,Z3 none,?_⟩;obtain⟨q3,c3⟩:=q2.push (.cells [.pointer none] 112 1 true);have e:=c3 _ _ e;have o:=c3 _ _ o;generalize y9:g6.next=s at*;generalize g6.push (.cells [.pointer none] 112 1 true)=g7 at*;refine⟨_,acr,_,ZY,?_⟩;obtain⟨q4,c4⟩:=q3.push (.cells [nA] 108 0 true);have e:=c4 _ _ e;have o:=c4 _ _ o;generalize z0:g7.next=G at*;generalize g7.push (.cells [nA] 108 0 true)=g8 at*;obtain⟨q5,c5⟩:=q4.push (.cells [nA] 109 0 true);have e:=c5 _ _ e;have o:=c5 _ _ o;generalize y4:g8.next=D at*;generalize g8.push (.cells [nA] 109 0 true)=g9 at*;change OL f g9 [[(p,.cells (qV d) 107 3 true)],[(s,.cells [.pointer none] 112 1 true)],[(G,.cells [nA] 108 0 true)],[(D,.cells [nA] 109 0 true)]]at q5;obtain⟨q6,c6⟩:=q5.kF A 2 rfl (.cells [sA p 1 1] 108 0 true);have s6:aj SS.P 108 (pA G) (sA p 1 1) g9=some (undef,.set G (.cells [sA p 1 1] 108 0 true)):=bC Vy (cs:=[nA]) (q5.get 2 rfl) (by simp) rfl rfl;refine⟨_,s6,?_⟩;have e:=c6 _ _ e;have o:=c6 _ _ o;generalize (aY.set G (.cells [sA p 1 1] 108 0 true)).app g9=Z at*;obtain⟨q7,c7⟩:=q6.kF A 3 (k:=D) (B:= .cells [nA] 109 0 true) rfl (.cells [sA s 1 1] 109 0 true);have s7:aj SS.P 109 (pA D) (sA s 1 1) Z=some (undef,.set D (.cells [sA s 1 1] 109 0 true)):=bC MW (cs:=[nA]) (q6.get 3 rfl) (by simp) rfl rfl;refine⟨_,s7,?_⟩;have e:=c7 _ _ e;have o:=c7 _ _ o;generalize (aY.set D (.cells [sA s 1 1] 109 0 true)).app Z=L at*;obtain⟨q8,c8⟩:=q7.push (.map []);have e:=c8 _ _ e;have o:=c8 _ _ o;refine⟨_,adm,?_⟩;change xA (ae SS.P 107 (L.push (.map [])) (pA kf)) _;generalize y3:L.next=F at*;change OL f _ [[(p,.cells (qV d) 107 3 true)],[(s,.cells [.pointer none] 112 1 true)],[(G,.cells [sA p 1 1] 108 0 true)],[(D,.cells [sA s 1 1] 109 0 true)],[(F,.map [])]]at q8;refine⟨_,dS.all o.1,?_⟩;dsimp only;generalize L.push (.map [])=S at*;have s9:gG SS.P 110 (.map (some F)) (.agg ⟨qV d⟩) (.bool true) S=some (undef,.set F (.map (lN [d]))):=Wa (l:=[]) (q8.get 4 rfl) (x:=d) (by simp);refine⟨_,s9,?_⟩;obtain⟨q9,c9⟩:=q8.kF A 4 (k:=F) (B:= .map []) rfl (.map (lN [d]));have e:=c9 _ _ e;generalize (aY.set F (.map (lN [d]))).app S=T at*;change OL f _ [[(p,.cells (qV d) 107 3 true)],[(s,.cells [.pointer none] 112 1 true)],[(G,.cells [sA p 1 1] 108 0 true)],[(D,.cells [sA s 1 1] 109 0 true)],[(F,.map (lN [d]))]]at q9;refine⟨_,acs,?_⟩;obtain⟨u,x9,x4,m9⟩:=q9.cell (P:=SS.P) abM (.map none) (v:= .map (some F)) rfl rfl;refine⟨u,x9,?_⟩;obtain⟨V,y1⟩:=q9.grow x4;have e:=y1 _ _ e;generalize y7:T.next=k9 at*;generalize u.app (T.push (.cells [.map none] 110 0 true))=U at*;refine⟨_,al3,?_⟩;obtain⟨u2,x2,y2,x6⟩:=V.cell (P:=SS.P) wF (.int .i64 0) (v:=iA 0) rfl rfl;refine⟨u2,x2,?_⟩;obtain⟨y0,x0⟩:=V.grow y2;have e:=x0 _ _ e;have m9:=x0 _ _ m9;generalize y5:U.next=ki at*;generalize u2.app (U.push (.cells [.int .i64 0] 3 0 true))=y8 at*
  let K:UC:=⟨i.next,G,D,k9,F⟩
  obtain⟨x8,O⟩:=OL.perm (L':=ZD K (sA p 1 1) (sA s 1 1) [⟨d,[],none⟩] [(p,.cells (qV d) 107 3 true)] [(s,.cells [.pointer none] 112 1 true)]) y0 (adv _ _ _ _ _);have x3:inP N d:=by rw[<-I];exact⟨by dsimp only;omega,by dsimp only;omega,zero_le _⟩
  have x1:Rel N (wI ([]:List Mv).reverse) d:=by rw[<-I];exact⟨rfl,[],[],.nil _⟩
  refine Ry (K:=K) (h0:=f) (mz:=270000) A W t2 t3.an t3.He (ba M a n c) (λv g hq=>?_) ⟨[⟨d,[],none⟩],0,_,⟨x8,⟨_,_,_,_,rfl,fh.made (rs:=[qV d]) (by simp[qV]) (show 1<ca by decide +kernel),fh.made (rs:=[[.pointer none]]) (by simp) (show 1<ca by decide +kernel)⟩,O _ _ e,O _ _ m9,by simp,λj u R=>?_⟩,O _ _ x6,zero_le _,rfl,⟨_,rfl,I.symm⟩,λj u R=>absurd R (Nat.not_lt_zero _)⟩
  ·obtain⟨b,xa,xn,xc,rfl,ok,hh⟩:=hq;refine⟨b,xa,xn,xc,0,rfl,J.trans ok,.inr (.inr ⟨H,rfl,?_⟩)⟩;rcases hh with⟨rfl,h1,h2⟩|⟨rfl,l,l',x,y,z,h1,h2,h3,h4⟩
   ·exact .inl ⟨rfl,h1,t4.un.1 h2⟩
   ·obtain⟨k,k',a1,C,x7⟩:=t4.f2 l l' x y z h1 h2 h3;exact .inr ⟨rfl,k,k',x,y,z,a1,C,x7,h4⟩
  ·have x5:j=0:=by
    have:=(List.getElem?_eq_some_iff.1 R).1;simp at this;omega
   subst x5;obtain rfl:=oI R;exact⟨x3,x1,λm hm=>(by cases hm),Nat.le_refl _,.nil⟩
noncomputable def Yp:FD:=ei Tryz.f12 []
theorem TA(b:LV)(h:aa)(Q:VH)(g:xN (dK SS.P 24 (.agg ⟨b⟩)) h λk a=>xP (af SS.P 24 (pA (h.next)) 3) λj=>xL (ae SS.P 22 a (.pointer (some j))) λl d m=>aQ (decide (((d:Int):Int)>8)) (Q (.bool true) a) (xA (ae SS.P 24 a (pA (h.next))) λe=>FW SS 23 [(.agg ⟨e⟩)] a λf i=>yI .i64 f λc=>Q (.bool (decide ((c:Int)>30))) i)):FW SS 12 [(.agg ⟨b⟩)] h Q:=eu Yp Tryz.func12 (ax g)
section
def EQ(h:aa):VH:=λv g=>v = .bool true/\Ok h g
structure aaz(M:aH):Prop where
 lead:M.lead.length<=281474976710656
 fin:∀s∈M.ak,s.f.length<=281474976710656
 w:∀s∈M.ak,∀q∈s.an,q.w.length<=281474976710656
theorem Es{s:eC}:∀{l:List eC},s∈l->s.an.length<=iR l
 |[],h=>by cases h
 |x::l,h=>by
  rw[fz];rcases mem_cons.1 h with rfl|h
  ·omega
  ·have:=Es h;omega
def lrg(M:aH):Bool:=decide (8<M.ak.length)||decide (30<iR M.ak)
theorem Vm{M:aH}(a:aaz M)(q:lrg M=false):Small M:=by
 unfold lrg at q;rw[Bool.or_eq_false_iff,decide_eq_false_iff_not,decide_eq_false_iff_not]at q;exact⟨a.lead,by omega,a.fin,λs b=>by have:=Es b;omega,a.w,by omega⟩
theorem abh:SS.pr 13=some (EN [([],.bool true)]):=by kernel_rfl
theorem Bn{h:aa}(c:Ok h g):FW SS 13 [] g λv a=>yB v λb=>EQ h (.bool b) a:=
 rU (by unfold YB;decide) abh (v:= .bool true) (h':=g) (λ_=>rfl) ⟨true,rfl,rfl,c⟩
section
variable {h:aa} {M:aH} {a:Option Addr} {n c:Nat}
theorem TC(w:Wf h)(g:Bnd M)(r:ep h (.slice a n c) M.ak):FW SS 12 [.agg ⟨ba M a n c⟩] h (λv i=>v = .bool (lrg M)/\Ok h i):=by
 obtain⟨b,d⟩:=oQ w r;have j:=b.len;refine TA (ba M a n c) h _ ⟨_,pZ M a n c,_,dp _,_,_,_,b.l3,ah (λq=>?_) (λq=>?_)⟩
 ·have q:=dT q;refine⟨?_,d⟩;unfold lrg;rw[decide_eq_true (by omega)];rfl
 ·have q:=dF q;refine⟨_,b.all,(UN d.wf g (by omega) b.row).mono ?_⟩;rintro _ k ⟨rfl,f⟩;refine⟨_,rfl,?_,d.trans f⟩;unfold lrg;rw[decide_eq_false (by omega:¬8<M.ak.length),Bool.false_or];congr 1;by_cases e:30<iR M.ak
  ·rw[decide_eq_true e,decide_eq_true (by omega)]
  ·rw[decide_eq_false e,decide_eq_false (by omega)]
end
end
section
def TK(y:eC)(k:Nat):eC:=⟨y.f,y.an.eraseIdx k⟩
def qe(M:aH)(s k:Nat):aH:=⟨M.kind,M.start,M.lead,M.ak.set s (TK (M.ak.getD s ⟨[],[]⟩) k)⟩
theorem OI{x:eC}:∀{l:List eC}{s:Nat},(∀y,l[s]?=some y->x.an.length<=y.an.length)->iR (l.set s x)<=iR l
 |[],_,_=>Nat.le_refl _
 |y::l,0,h=>by
  rw[List.set_cons_zero,fz,fz];have:=h y rfl;omega
 |y::l,s+1,h=>by
  rw[List.set_cons_succ,fz,fz];have:=OI (l:=l) (s:=s) λy a=>h y (by simpa using a);omega
section
variable {M:aH} {s k:Nat}
theorem N3(t:Nat):(qe M s k).ak.getD t ⟨[],[]⟩=if t=s then TK (M.ak.getD s ⟨[],[]⟩) k else M.ak.getD t ⟨[],[]⟩:=by
 show(M.ak.set s _).getD t _=_;rw[gD,getElem?_set];split
 ·next e=>
  subst e;rw[if_pos rfl];split
  ·rfl
  ·rw[gD,getElem?_eq_none (by omega)];rfl
 ·next e=>rw[if_neg (λh=>e h.symm),gD]
theorem TL:RJ (qe M s k) M (λ_=>True) id (λt i=>if t=s/\k<=i then i+1 else i):=by
 refine⟨⟨trivial,rfl⟩,λt i a _ c=>⟨trivial,a,?_,rfl,rfl,rfl⟩,λt i j a b _ _ _ e=>?_,λt _ f=>?_⟩
 ·unfold bD at c⊢;rw[N3]at c;by_cases e:t=s
  ·subst e;rw[if_pos rfl]at c;have c:((M.ak.getD t ⟨[],[]⟩).an.eraseIdx k)[i]?=some a:=c;rw[List.getElem?_eraseIdx]at c;split at c
   ·rw[if_neg (by omega)];exact c
   ·rw[if_pos ⟨rfl,by omega⟩];exact c
  ·rw[if_neg e]at c;rw[if_neg (λh=>e h.1)];exact c
 ·split at e<;>split at e<;>omega
 ·unfold fX at f⊢;rw[N3]at f;by_cases e:t=s
  ·subst e;rw[if_pos rfl]at f;exact f
  ·rw[if_neg e]at f;exact f
theorem vE(a:s<M.ak.length){x:eC}(h:x∈(qe M s k).ak):∃y∈M.ak,x.f=y.f/\x.an.length<=y.an.length/\∀q∈x.an,q∈y.an:=by
 rcases List.mem_or_eq_of_mem_set h with h|rfl
 ·exact⟨x,h,rfl,Nat.le_refl _,λ_ h=>h⟩
 ·exact⟨_,List.mem_of_getElem? (J6 a),rfl,List.length_eraseIdx_le ..,λq b=>List.mem_of_mem_eraseIdx b⟩
theorem IX:iR (qe M s k).ak<=iR M.ak:=OI λy a=>by
 rw[gD,a];exact List.length_eraseIdx_le ..
theorem qM:(qe M s k).ak.length=M.ak.length:=length_set ..
theorem LJ(d:s<M.ak.length)(a:Small M):Small (qe M s k):=
 ⟨a.lead,by rw[qM];exact a.He,λx b=>by
  obtain⟨y,c,e,_⟩:=vE d b;rw[e];exact a.fin y c,λx b=>by
  obtain⟨y,c,_,e,_⟩:=vE d b;exact Nat.le_trans e (a.an y c),λx b q f=>by
  obtain⟨y,c,_,_,e⟩:=vE d b;exact a.w y c q (e q f),Nat.le_trans IX a.tot⟩
theorem LK(d:s<M.ak.length)(a:cn M=true):cn (qe M s k)=true:=by
 obtain⟨f,h,c,i,l⟩:=pN a;refine RC f (by rw[qM];exact h) (by rw[qM];exact c) i (J8 ?_ λx e=>?_)
 ·have:=RD a;have:=IX (M:=M) (s:=s) (k:=k);omega
 ·obtain⟨y,m,b,_,j⟩:=vE d e;have:=yk l y m;rw[qM];exact⟨by rw[b];exact this.1,List.all_eq_true.2 λq g=>this.2 q (j q g)⟩
end
end
noncomputable def aaY:FD:=ei Tryz.f77 []
theorem Xx(a:OA)(n c:Nat)(h:aa)(Q:VH)(g:aQ ((((n:Int):Int)==0)) (Q nA h) (xR (aR SS.P 22 (iA n) (iA n)) h λj b e d=>xC (copyV SS.P 22 (sA (h.next) b e) (.slice a n c) d) d λi k f=>Q (sA (h.next) b e) f)):FW SS 77 [(.slice a n c)] h Q:=eu aaY Tryz.func77 (ax g)
noncomputable def aaX:FD:=ei Tryz.f78 []
theorem Xv(a:OA)(n c:Nat)(h:aa)(Q:VH)(g:aQ ((((n:Int):Int)==0)) (Q nA h) (xR (aR SS.P 42 (iA n) (iA n)) h λj b e d=>xC (copyV SS.P 42 (sA (h.next) b e) (.slice a n c) d) d λi k f=>Q (sA (h.next) b e) f)):FW SS 78 [(.slice a n c)] h Q:=eu aaX Tryz.func78 (ax g)
noncomputable def iy:FD:=ei Tryz.f32 [([1,1,0,1,0,0],[1,2,10,11])]
abbrev gU(k a n:Nat)(i:Nat):LV:=[(pA k),(pA a),(iA n),(iA i)]
theorem Qa(c:LV)(h:aa)(Q:VH)(o:xN (dK SS.P 24 (.agg ⟨c⟩)) h λv e=>xN (aA SS.P 24) e λw g=>xP (af SS.P 24 (pA (h.next)) 3) λm=>xL (ae SS.P 22 g (.pointer (some m))) λn q p=>FW SS 77 [(.slice n q p)] g λr b=>yL r λd l j=>xP (af SS.P 24 (pA (h.next)) 3) λf=>xU (aj SS.P 22 (.pointer (some f)) (.slice d l j) b) b λu a=>xP (af SS.P 24 (pA (h.next)) 3) λi=>xL (ae SS.P 22 a (.pointer (some i))) λs k t=>LL SS iy [1,1,0,1,0,0] (gU (h.next) (e.next) k 0) a (KK SS iy [1,1,0,1,0] [] (EE SS iy Q))):FW SS 32 [(.agg ⟨c⟩)] h Q:=eu iy Tryz.func32 (ax o)
theorem vH(I:LV)(k f n:Nat)(b:Nat->Nat->aa->Prop)(Q:VH)(step:∀(a:Nat) (i:Nat) (y:Nat->Value) (h:aa),b a i h->aQ (decide (((i:Int):Int)<(n:Int))) (xP (af SS.P 24 (pA k) 3) λj=>xL (ae SS.P 22 (room h 13) (.pointer (some j))) λc d e=>xP (af SS.P 24 (pA k) 3) λv=>xL (ae SS.P 22 (room h 13) (.pointer (some v))) λo x w=>xP (ai SS.P 22 (.slice o x w) (iA i)) λD=>xP (af SS.P 44 (.pointer (some D)) 1) λq=>xL (ae SS.P 42 (room h 13) (.pointer (some q))) λt F B=>FW SS 78 [(.slice t F B)] (room h 13) λC g=>yL C λp r m=>xP (ai SS.P 22 (.slice c d e) (iA i)) λs=>xP (af SS.P 44 (.pointer (some s)) 1) λu=>xU (aj SS.P 42 (.pointer (some u)) (.slice p r m) g) g λG A=>(ae SS.P 22 g (.pointer (some j))=some (.slice c d e)/\cZ 4 (.slice c d e) (.slice c d e)=true)/\aJ (fB (gU k f n) b) a [(pA k),(pA f),(iA n),(.int .i64 (wrap .i64 ((i:Int)+1)))] A) (xA (ae SS.P 24 h (pA k)) λE=>xU (aj SS.P 24 (pA f) (.agg ⟨E⟩) h) h λH z=>di SS [((pA f),some 24)] z Q))(a:Nat){i:Nat}{h:aa}(l:b a i h):LL SS iy [1,1,0,1,0,0] (gU k f n i) h (KK SS iy [1,1,0,1,0] [] (EE SS iy Q)):=
 dQ (gU k f n) b (λa i y h l=>ax (step a i y h l)) a l
section
noncomputable def abY:TypeInfo:=(SS.P.info? 46).getD default
theorem Zx:SS.P.info? 46=some abY:=by kernel_rfl
theorem Rs:abY.size=4:=by kernel_rfl
theorem M9:abY.bytes=40:=by kernel_rfl
theorem acf:zeroOf SS.P 46=some (.agg ⟨dk q0⟩):=by kernel_rfl
theorem aeI(n:Nat)(a:n<=100000):aR SS.P 42 (.int .i64 (n:Int)) (.int .i64 (n:Int))=some (.cells ((List.replicate n q0).map dk).flatten 46 4 true,jc n n):=by
 unfold aR aT;dsimp only;rw[zQ]
 try dsimp only
 change (match SS.P.info? 46,zeroOf SS.P 46 with
  |some i,some z=>(if z.cells.size=i.size/\0<i.size/\(0:Int)<=(n:Int)/\(n:Int)<=(n:Int)/\(n:Int)*i.bytes<=140737488355328/\(n:Int)<=1099511627776 then some (bw.cells (bG z.cells.toList (n:Int).toNat) 46 i.size true,λk=>Value.slice (some ⟨k,0,none⟩) (n:Int).toNat (n:Int).toNat)else none)
  |_,_=>none)=_
 rw[Zx,acf];dsimp only;rw[Rs,M9,if_pos ⟨rfl,by omega,by omega,Int.le_refl _,by omega,by omega⟩];have e:((n:Int)).toNat=n:=by omega
 rw[e,show(Value.agg ⟨dk q0⟩).cells.toList=dk q0 from rfl,pR,List.map_replicate];rfl
section
variable {h:aa} {a:Option Addr} {n c:Nat}
theorem Xw{l:List cq}(w:Wf h)(r:gk h (.slice a n c) l)(o:l.length<=100000):FW SS 78 [.slice a n c] h (λv g=>cT h g 46 4 v (l.map dk)/\Ok h g):=by
 have k:=r.len;refine Xv a n c h _ (ah (λq=>?_) (λq=>?_))
 ·have q:n=0:=by
   have:(n:Int)=0:=by simpa using q
   omega
  have e:l=[]:=List.eq_nil_of_length_eq_zero (by omega);subst e;exact⟨cT.nil _ _ _ _,Ok.refl w⟩
 ·have q:n≠0:=by
   intro e;subst e;simp at q
  have b:=(Ok.refl w).push (.cells ((List.replicate n q0).map dk).flatten 46 4 true);have i:=aI h (.cells ((List.replicate n q0).map dk).flatten 46 4 true);have f:((List.replicate n q0).map dk).flatten.length=n*4:=by
   rw[fj (sz:=4) (λr d=>by obtain⟨x,_,rfl⟩:=mem_map.1 d;rfl),lM,List.length_replicate]
  have p:=Ie (c':=n) zQ E1 (qA.ok r b) q (rL l) i f;refine⟨_,_,_,aeI n (by omega),_,_,p,?_⟩;have s:Ok h ((aY.set h.next (.cells (l.map dk).flatten 46 4 true)).app (h.push (.cells ((List.replicate n q0).map dk).flatten 46 4 true))):=b.set _ (Nat.le_refl _) (b.wf _ _ i) w;have m:((aY.set h.next (.cells (l.map dk).flatten 46 4 true)).app (h.push (.cells ((List.replicate n q0).map dk).flatten 46 4 true))).get h.next=some (.cells (l.map dk).flatten 46 4 true):=by
   show((h.push _).set h.next _).get h.next=_;rw[aa.aw,if_pos rfl]
  have j:=cT.made (h0:=h) m (λr d=>by obtain⟨x,_,rfl⟩:=mem_map.1 d;rfl) (Nat.le_refl _) (by rw[lM];exact Nat.lt_of_le_of_lt o (by decide));rw[lM,<-k]at j;exact⟨j,s⟩
theorem Xy{b:List (eC×Value)}(w:Wf h)(r:qA h 44 2 (.slice a n c) (b.map jd))(o:(b.map jd).flatten.all bc=true)(m:b.length<=100000):FW SS 77 [.slice a n c] h (λv i=>cT h i 44 2 v (b.map jd)/\Ok h i):=by
 have f:=r.len;rw[lM]at f;refine Xx a n c h _ (ah (λq=>?_) (λq=>?_))
 ·have q:n=0:=by
   have:(n:Int)=0:=by simpa using q
   omega
  have e:b=[]:=List.eq_nil_of_length_eq_zero (by omega);subst e;exact⟨cT.nil _ _ _ _,Ok.refl w⟩
 ·have q:n≠0:=by
   intro e;subst e;simp at q
  have d:=(Ok.refl w).push (.cells ((List.replicate n Aq).map jd).flatten 44 2 true);have j:=aI h (.cells ((List.replicate n Aq).map jd).flatten 44 2 true);have g:((List.replicate n Aq).map jd).flatten.length=n*2:=by
   rw[fj (sz:=2) Hc,lM,List.length_replicate]
  have p:=Ie (c':=n) rz Ka (qA.ok r d) q o j g;refine⟨_,_,_,abi n (by omega),_,_,p,?_⟩;have s:Ok h ((aY.set h.next (.cells (b.map jd).flatten 44 2 true)).app (h.push (.cells ((List.replicate n Aq).map jd).flatten 44 2 true))):=d.set _ (Nat.le_refl _) (d.wf _ _ j) w;have l:((aY.set h.next (.cells (b.map jd).flatten 44 2 true)).app (h.push (.cells ((List.replicate n Aq).map jd).flatten 44 2 true))).get h.next=some (.cells (b.map jd).flatten 44 2 true):=by
   show((h.push _).set h.next _).get h.next=_;rw[aa.aw,if_pos rfl]
  have k:=cT.made (h0:=h) l Hc (Nat.le_refl _) (by rw[lM];exact Nat.lt_of_le_of_lt m (by decide));rw[lM,<-f]at k;exact⟨k,s⟩
end
end
section
section
variable {h:aa} {M:aH} {a:Option Addr} {n c:Nat}
structure ClI(h:aa)(lo k k2:Nat)(M:aH)(a:Option Addr)(n c i:Nat)(g:aa)(qs:List (eC×Value)):Prop where
 nxt:lo<=g.next
 He:qs.map (·.1)=M.ak
 row:cT h g 44 2 (.slice a n c) (qs.map jd)
 ok:Ok h g
 box:g.get k=some (.cells (ba M a n c) 24 0 true)
 aaP:g.get k2=some mY
 rlo:∀b,bE (.slice a n c)=some b->lo<=b
 an:∀(j:Nat)(q:eC×Value),qs[j]?=some q->j<i->cT h g 46 4 q.2 (q.1.an.map dk)/\∀b,bE q.2=some b->lo<=b/\bE (.slice a n c)≠some b
 Lj:∀(j j':Nat)(q q':eC×Value),j<i->j'<i->j≠j'->qs[j]?=some q->qs[j']?=some q'->∀b,bE q.2=some b->bE q'.2≠some b
 old:∀(j:Nat)(q:eC×Value),qs[j]?=some q->i<=j->gk h q.2 q.1.an
def clI(h:aa)(e k d:Nat)(M:aH)(a:Option Addr)(n c:Nat)(b i:Nat)(g:aa):Prop:=i<=M.ak.length/\b=M.ak.length-i/\∃f,ClI h e k d M a n c i g f
theorem Le(w:Wf h){lo k r:Nat}(x8:h.next<=k/\k<lo/\h.next<=r/\r<lo/\k≠r)(hN:M.ak.length<=100000)(hA:∀s∈M.ak,s.an.length<=100000){qs:List (eC×Value)}(E:ClI h lo k r M a n c 0 g qs)(mv:List Value):
  LL SS iy [1,1,0,1,0,0] (gU k r n 0) g (KK SS iy [1,1,0,1,0] [] (EE SS iy (YR h M))):=by
 refine vH mv k r n (clI h lo k r M a n c) _ (λmz i=>?_) M.ak.length (i:=0) ⟨zero_le _,rfl,qs,E⟩;clear E qs;intros;rename_i U E;obtain⟨f1,rfl,qs,d⟩:=E;obtain⟨y2,y5,x0,z0,z1⟩:=x8;have y8:qs.length=M.ak.length:=by
  have:=congrArg List.length d.He;rwa[lM]at this
 have hn:n=M.ak.length:=by
  have:=qA.len d.row.rd;rw[lM]at this;omega
 have T:=d.ok.wf;refine ah (λq=>?_) (λq=>?_)
 ·have q:=dT q;have hi:i<M.ak.length:=by omega
  obtain⟨p,f⟩:∃p,qs[i]?=some p:=⟨_,gE (by omega)⟩
  have H:=(Ok.refl T).room 13;have ar:=d.old i p f (Nat.le_refl _);obtain⟨x,z,hx⟩:=qA.mU ar;obtain⟨G,K,c',e,y9⟩:=d.row.blk (by rw[lM];omega);injection e with X e2 e3
  obtain rfl:=X;have V:(qs.map jd)[i]?=some (jd p):=by rw[getElem?_map,f];rfl
  obtain⟨x1,x2,x3⟩:=(d.row.ok H).at_ rz Ka V .i64;have x4:=x2 42 _ 1 zQ WN (by omega);have e5:(jd p).getD 1 undef=p.2:=rfl;have l3:ae SS.P 22 (Go.Ab.room U 13) (.pointer (some ⟨k,3,none⟩))=some (.slice (some ⟨G,K,none⟩) n c):=aN rz zG (H.ext _ _ d.box) (by simp[ba]);have W:=qA.ok ar (d.ok.trans H);rw[hx]at W;have x5:ae SS.P 42 (Go.Ab.room U 13) (.pointer (some ⟨G,K+i*2+1,none⟩))=some p.2:=x4;rw[hx]at x5;have x7:p.1∈M.ak:=by rw[<-d.He];exact mem_map.2 ⟨p,List.mem_of_getElem? f,rfl⟩
  refine⟨_,dp _,_,_,_,l3,_,dp _,_,_,_,l3,_,x1,_,fL _ _,_,_,_,x5,(Xw H.wf W (hA _ x7)).mono ?_⟩;rintro v gS ⟨Z,o2⟩;obtain⟨y,Y,rfl⟩:=Z.mU;have m:=H.trans o2;have O:∀b,bE (.slice y (p.1.an.map dk).length Y)=some b->U.next<=b:=λb e=>by
   have D:=(Z.lt o2.wf e).2;have C:(Go.Ab.room U 13).next=U.next+13:=rfl;omega
  obtain⟨u,s1,s2,s3,S,s5⟩:=(d.row.ok m).put (t':=42) (by kernel_rfl) w (d.ok.trans m) (i:=i) (j:=1) V (by omega) (v':= .slice y (p.1.an.map dk).length Y) (aS ..) (by cases y<;>rfl);have x9:ae SS.P 22 gS (.pointer (some ⟨k,3,none⟩))=some (.slice (some ⟨G,K,none⟩) n c):=aN rz zG (m.ext _ _ d.box) (by simp[ba]);have y3:=d.rlo G rfl;have y1:=(d.row.lt T (k:=G) rfl).1;have y7:=d.nxt;have y6:=m.nx;refine⟨_,_,_,rfl,_,x1,_,fL _ _,u,s1,⟨x9,pM _ _ _ _⟩,?_⟩;rw[bF hi (by omega)];refine cK (M.ak.length-(i+1)) (by omega) ⟨by omega,rfl,qs.set i (p.1,.slice y (p.1.an.map dk).length Y),⟨by omega,?_,?_,s3,S _ _ (m.ext _ _ d.box) (by omega),S _ _ (m.ext _ _ d.aaP) (by omega),d.rlo,?_,?_,?_⟩⟩
  ·rw[List.map_set,d.He];refine List.ext_getElem? λj=>?_;rw[getElem?_set];split
   ·next e=>
    subst e;rw[<-d.He,getElem?_map,f];rfl
   ·rfl
  ·rw[List.map_set];exact s2
  ·intro j N o x6;rw[getElem?_set]at o;split at o
   ·next e=>
    rw[if_pos (by omega)]at o;obtain rfl:=oI o;refine⟨(Z.base (d.ok.trans H)).jb λb B l A=>S _ _ A (λe=>?_),λb l=>⟨?_,λe=>?_⟩⟩
    ·have:=O b l;omega
    ·have:=O b l;omega
    ·have D:=O b l;have C:G=b:=oI e;omega
   ·next e=>
    obtain⟨P,F⟩:=d.an j N o (by omega);exact⟨(P.ok m).jb λb B l A=>S _ _ A (λe=>(F b l).2 (by rw[<-e];rfl)),F⟩
  ·intro j Q q1 q2 o y4 L D C b J I;rw[getElem?_set]at D C;split at D
   ·next X=>
    rw[if_pos (by omega)]at D;obtain rfl:=oI D;rw[if_neg (by omega)]at C;have P:=((d.an Q q2 C (by omega)).1.lt T I).1;have F:=O b J;omega
   ·next X=>
    split at C
    ·next e2=>
     rw[if_pos (by omega)]at C;obtain rfl:=oI C;have P:=((d.an j q1 D (by omega)).1.lt T J).1;have F:=O b I;omega
    ·exact d.Lj j Q q1 q2 (by omega) (by omega) L D C b J I
  ·intro j N o x6;rw[getElem?_set,if_neg (by omega)]at o;exact d.old j N o (by omega)
 ·have q:=dF q;obtain rfl:i=M.ak.length:=by omega
  have y0:=du (t:=24) iZ (cs0:=[.int .i64 0,.int .i64 0,strOf [],.slice none 0 0]) rfl d.aaP (cs:=ba M a n c) rfl (xK _ _ _ _);obtain⟨o5,k5⟩:=lF (cs:=ba M a n c) w d.ok d.aaP x0;have kp:∀(j:Nat)(B:bw),lo<=j->U.get j=some B->((aY.set r (.cells (ba M a n c) 24 0 true)).app U).get j=some B:=λj B o A=>by
   show(U.set r _).get j=_;rw[aa.aw,if_neg (by omega)];exact A
  have R:∀{j:Nat}{p:eC×Value},qs[j]?=some p->j<M.ak.length:=λf=>by
   have:=(List.getElem?_eq_some_iff.1 f).1;omega
  refine⟨_,fE ym wQ iZ d.box (by simp[ba]),_,y0,Bb (v:= .agg ⟨ba M a n c⟩) (fE ym wQ iZ k5 (by simp[ba])) ?_⟩;refine⟨_,_,_,qs,rfl,d.He,⟨d.row.jb λb B l A=>kp b B (d.rlo b l) A,λj p f=>?_,λj p f b l=>((d.an j p f (R f)).2 b l).2,λj Q p N L f hq=>d.Lj j Q p N (R f) (R hq) L f hq⟩,o5⟩;obtain⟨P,F⟩:=d.an j p f (R f);exact P.jb λb B l A=>kp b B (F b l).1 A
end
end
section
theorem OE:∀{a:List (eC×Value)},(∀p∈a,bc p.2=true)->(a.map jd).flatten.all bc=true
 |[],_=>rfl
 |p::a,b=>by
  rw[List.map_cons,List.flatten_cons,List.all_append,OE λq d=>b q (mem_cons_of_mem _ d)];have c:=b p (mem_cons_self ..);unfold jd;simp[c];rfl
section
variable {h:aa} {M:aH} {a:Option Addr} {n c:Nat}
theorem Qb(w:Wf h)(V:M.ak.length<=100000)(hA:∀s∈M.ak,s.an.length<=100000)(r:ep h (.slice a n c) M.ak):FW SS 32 [.agg ⟨ba M a n c⟩] h (YR h M):=by
 obtain⟨D,o⟩:=oQ w r;obtain⟨d,C,hr,F,_⟩:=r;have x1:d.length=M.ak.length:=by
  have:=congrArg List.length C;rwa[lM]at this
 have n0:h.next<(h.push (Bm M a n c)).next:=o.wf _ _ D.box;have L:=(Ok.refl o.wf).push mY;have Q:=aI (h.push (Bm M a n c)) mY;have l:=o.trans L;have A:=D.ok L;have N:=l.wf _ _ Q;refine Qa (ba M a n c) h _ ⟨_,pZ M a n c,_,HQ,?_⟩;generalize h.push (Bm M a n c)=T at*;generalize T.push mY=Y at*;generalize T.next=K at*;refine⟨_,dp _,_,_,_,A.l3,(Xy l.wf (hr.ok l) (OE λp Z=>?_) (by omega)).mono ?_⟩
 ·obtain⟨x,z,e⟩:=qA.mU (F p Z);rw[e];exact aS ..
 rintro v k ⟨u,m⟩;obtain⟨f,g,rfl⟩:=u.mU;have E:=l.trans m;have y:=A.ok m;have I:au SS.P 22=some 1:=by kernel_rfl
 have S:=bC (t:=22) I y.box (i:=3) (by simp) (v:= .slice f (d.map jd).length g) (aS ..) (by cases f<;>rfl);have U:([.int .i64 M.kind,.int .i64 M.start,strOf M.lead,.slice a n c]:List Value).set 3 (.slice f (d.map jd).length g)=ba M f (d.map jd).length g:=rfl;rw[U]at S;have X:Ok h ((aY.set h.next (.cells (ba M f (d.map jd).length g) 24 0 true)).app k):=E.set _ (Nat.le_refl _) (E.wf _ _ y.box) w;have O:∀(j:Nat)(B:bw),h.next≠j->k.get j=some B->((aY.set h.next (.cells (ba M f (d.map jd).length g) 24 0 true)).app k).get j=some B:=λj B P H=>by
  show(k.set h.next _).get j=_;rw[aa.aw,if_neg (λe=>P e.symm)];exact H
 have R:((aY.set h.next (.cells (ba M f (d.map jd).length g) 24 0 true)).app k).get h.next=some (.cells (ba M f (d.map jd).length g) 24 0 true):=by
  show(k.set h.next _).get h.next=_;rw[aa.aw,if_pos rfl]
 have hx:((aY.set h.next (.cells (ba M f (d.map jd).length g) 24 0 true)).app k).next=k.next:=rfl;have x0:=m.nx;have x2:h.next<K:=by omega
 refine⟨_,_,_,rfl,_,dp _,_,S,?_⟩;generalize (aY.set h.next (.cells (ba M f (d.map jd).length g) 24 0 true)).app k=g3 at*;have W:ae SS.P 22 g3 (.pointer (some ⟨h.next,3,none⟩))=some (.slice f (d.map jd).length g):=aN rz zG R (by simp[ba]);refine⟨_,dp _,_,_,_,W,?_⟩;refine Le (lo:=Y.next) (qs:=d) w ⟨Nat.le_refl _,by omega,by omega,N,by omega⟩ V hA ⟨by omega,C,(u.base l).jb λb B G H=>O b B (λe=>?_) H,X,R,O _ _ (by omega) (m.ext _ _ Q),λb G=>(u.lt m.wf G).2,λj q _ J=>absurd J (Nat.not_lt_zero _),λj _ q _ J=>absurd J (Nat.not_lt_zero _),λj q hj _=>F q (List.mem_of_getElem? hj)⟩ (ba M a n c);have:=(u.lt m.wf G).2;omega
end
end
noncomputable def PZ:FD:=ei Tryz.f7 []
theorem LH(mv:LV)(s k:Int)(h:aa)(Q:VH)(hx:xN (dK SS.P 24 (.agg ⟨mv⟩)) h λB1 g2=>xA (ae SS.P 24 g2 (pA (h.next))) λc3=>FW SS 12 [(.agg ⟨c3⟩)] g2 λv4 h5=>yB v4 λb6=>aQ b6 (FW SS 13 [] h5 λv7 h8=>yB v7 λb9=>Q (.bool b9) h8) (xA (ae SS.P 24 h5 (pA (h.next))) λX1=>FW SS 30 [(.agg ⟨X1⟩)] h5 λu4 c=>yB u4 λX8=>aQ (!X8) (FW SS 13 [] c λu0 u3=>yB u0 λj0=>Q (.bool j0) u3) (aQ (decide ((s:Int)<0)) (FW SS 13 [] c λX5 v8=>yB X5 λj3=>Q (.bool j3) v8) (xP (af SS.P 24 (pA (h.next)) 3) λj1=>xL (ae SS.P 22 c (.pointer (some j1))) λY4 X3 Y1=>aQ (decide ((s:Int)>=(X3:Int))) (FW SS 13 [] c λz7 v5=>yB z7 λv3=>Q (.bool v3) v5) (aQ (decide ((k:Int)<0)) (FW SS 13 [] c λq2 j7=>yB q2 λv0=>Q (.bool v0) j7) (xP (af SS.P 24 (pA (h.next)) 3) λu6=>xL (ae SS.P 22 c (.pointer (some u6))) λw0 X4 j8=>xP (ai SS.P 22 (.slice w0 X4 j8) (.int .i64 s)) λX0=>xP (af SS.P 44 (.pointer (some X0)) 1) λq0=>xL (ae SS.P 42 c (.pointer (some q0))) λY2 v6 Y0=>aQ (decide ((k:Int)>=(v6:Int))) (FW SS 13 [] c λu7 q9=>yB u7 λw6=>Q (.bool w6) q9) (xA (ae SS.P 24 c (pA (h.next))) λw8=>FW SS 32 [(.agg ⟨w8⟩)] c λX7 i=>yA X7 λj4=>xN (aA SS.P 24) i λY7 G=>xU (aj SS.P 24 (pA (i.next)) (.agg ⟨j4⟩) G) G λY5 b=>xP (af SS.P 24 (pA (i.next)) 3) λz9=>xL (ae SS.P 22 b (.pointer (some z9))) λj6 w9 j2=>xP (ai SS.P 22 (.slice j6 w9 j2) (.int .i64 s)) λw3=>xP (af SS.P 44 (.pointer (some w3)) 1) λw5=>xL (ae SS.P 42 b (.pointer (some w5))) λu w v=>xP (af SS.P 24 (pA (i.next)) 3) λq=>xL (ae SS.P 22 (room b 16) (.pointer (some q))) λe g f=>zR (az SS.P 42 0 []) λD w7 q1=>xL (bm SS.P 42 (.slice u w v) none (some (.int .i64 k)) none (room b 16)) λv9 w1 q4=>xE (aE SS.P 42 42 (sA (b.next+3) w7 q1) (.slice v9 w1 q4) (av (room b 16) b.next [(3,D)])) (av (room b 16) b.next [(3,D)]) λz8 X2 j9 X9 n=>xL (bm SS.P 42 (.slice u w v) (some (.int .i64 (wrap .i64 (k+1)))) none none n) λm p o=>xE (aE SS.P 42 42 (.slice z8 X2 j9) (.slice m p o) n) n λv2 w2 u2 Y6 t=>xP (ai SS.P 22 (.slice e g f) (.int .i64 s)) λq8=>xP (af SS.P 44 (.pointer (some q8)) 1) λq5=>xU (aj SS.P 42 (.pointer (some q5)) (.slice v2 w2 u2) t) t λY3 E=>(ae SS.P 22 n (.pointer (some q))=some (.slice e g f)/\cZ 4 (.slice e g f) (.slice e g f)=true)/\(ae SS.P 22 t (.pointer (some q))=some (.slice e g f)/\cZ 4 (.slice e g f) (.slice e g f)=true)/\(bm SS.P 42 (.slice u w v) (some (.int .i64 (wrap .i64 (k+1)))) none none (room b 16)=some (.slice m p o)/\cZ 4 (.slice m p o) (.slice m p o)=true)/\xA (ae SS.P 24 E (pA (h.next))) λw4=>FW SS 14 [(.agg ⟨w4⟩)] E λX6 F=>∃j:Bool,∃(u1:OA) (u5 u8:Nat),∃(v1:OA) (q7 u9:Nat),∃(q6:OA) (q3 j5:Nat),∃C:Int,X6=(.tuple ⟨[(.bool j),(.slice u1 u5 u8),(.slice v1 q7 u9),(.slice q6 q3 j5),(.int .i64 C)]⟩)/\xA (ae SS.P 24 F (pA (i.next))) λz3=>FW SS 14 [(.agg ⟨z3⟩)] F λL r=>∃x:Bool,∃(y8:OA) (x9 x2:Nat),∃(y0:OA) (y9 Z:Nat),∃(y1:OA) (x8 x4:Nat),∃y:Int,L=(.tuple ⟨[(.bool x),(.slice y8 x9 x2),(.slice y0 y9 Z),(.slice y1 x8 x4),(.int .i64 y)]⟩)/\xA (ae SS.P 24 r (pA (h.next))) λz1=>FW SS 26 [(.agg ⟨z1⟩)] r λx6 A=>∃d:Bool,∃(z4:OA) (y2 y6:Nat),∃z:Int,x6=(.tuple ⟨[(.bool d),(.slice z4 y2 y6),(.int .i64 z)]⟩)/\xA (ae SS.P 24 A (pA (i.next))) λz5=>FW SS 26 [(.agg ⟨z5⟩)] A λy4 a=>∃l:Bool,∃(y7:OA) (y3 R:Nat),∃B:Int,y4=(.tuple ⟨[(.bool l),(.slice y7 y3 R),(.int .i64 B)]⟩)/\aQ (((C:Int)==0)) (aQ (((y:Int)==0)) (aQ (((z:Int)==0)) (aQ (((B:Int)==0)) (aQ (!j) (aQ (!d) (aQ (!d) (FW SS 13 [] a λx5 z6=>yB x5 λV=>Q (.bool V) z6) (aQ j (FW SS 13 [] a λO X=>yB O λM=>Q (.bool M) X) (Q (.bool false) a))) (aQ l (aQ (!d) (FW SS 13 [] a λx3 x7=>yB x3 λT=>Q (.bool T) x7) (aQ j (FW SS 13 [] a λI P=>yB I λY=>Q (.bool Y) P) (Q (.bool false) a))) (Q (.bool false) a))) (aQ x (aQ (!d) (aQ (!d) (FW SS 13 [] a λU x1=>yB U λH=>Q (.bool H) x1) (aQ j (FW SS 13 [] a λy5 W=>yB y5 λz2=>Q (.bool z2) W) (Q (.bool false) a))) (aQ l (aQ (!d) (FW SS 13 [] a λS x0=>yB S λN=>Q (.bool N) x0) (aQ j (FW SS 13 [] a λJ K=>yB J λz0=>Q (.bool z0) K) (Q (.bool false) a))) (Q (.bool false) a))) (Q (.bool false) a))) (Q (.bool false) a)) (Q (.bool false) a)) (Q (.bool false) a)) (Q (.bool false) a)))))))):FW SS 7 [(.agg ⟨mv⟩),(.int .i64 s),(.int .i64 k)] h Q:=eu PZ Tryz.func7 (ax hx)
end Go.Proofs.YtnlccnpbjeiccaaGreatDoor
end
