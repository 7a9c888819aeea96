/- Whatever is handed to it, in whatever memory, on every schedule, BuildStars returns true. No condition. -/
import Derived.Test.YtaaichlgdgjgjaaGreatDoorPart6
import Derived.Test.YtaaichlgdgjgjaaGreatDoorPart3
import Derived.Test.YtaaichlgdgjgjaaGreatDoorPart2
import Derived.Shelf.SortM.Plain
import Derived.Shelf.SortM.SortNone
import Derived.Test.YtaaichlgdgjgjaaGreatDoorProg
import Derived.OpenShut
import Derived.MakeChecks
import Derived.FnData
import Derived.ChangeSame
import Derived.Test.YtaaichlgdgjgjaaGreatDoorRows
import Derived.ProofKit
import Derived.LaidLaws
import Derived.LaidHandle
import Derived.ChangeVars
import Derived.Test.YtaaichlgdgjgjaaGreatDoorCards
import Derived.Test.YtaaichlgdgjgjaaGreatDoorTie
import Derived.WalkKit
import Derived.Carry
import Derived.SevenTiedAt
set_option linter.unusedVariables false
set_option linter.unusedSimpArgs false
set_option maxRecDepth 100000
open List (all_eq_true getElem?_map length_drop length_take mem_append_left mem_append_right mem_cons)
open Nat (sub_self)
open Bool (and_eq_true)
open Go.IntKind (wrap)
section
namespace Go.Proofs.YtaaichlgdgjgjaaGreatDoor
open Go Go.Ab Go.Num Go.Num.aN
variable{p:List Int}{a:Option Addr}{n:Nat}
section
structure TD where
 M:bu
 s:Option Addr
 sc:Nat
 xa:Option Addr
 xc:Nat
 xs:List Int
 ya:Option Addr
 yc:Nat
 ys:List Int
def TD.cs(D:TD)(ok:Bool):List Value:=[.int .i64 D.M.kind,.slice D.xa D.xs.length D.xc,.slice D.ya D.ys.length D.yc,.int .i64 D.M.kind,.int .i64 D.M.start,strOf D.M.lead,.slice D.s D.M.af.length D.sc,.bool ok]
structure TGd(D:TD)(h0:ae):Prop where
 wf:Wf h0
 st:dA h0 (.slice D.s D.M.af.length D.sc) D.M.af
 rx:dP h0 (.slice D.xa D.xs.length D.xc) D.xs
 hx:D.xs.length<=bG D.xc
 ry:dP h0 (.slice D.ya D.ys.length D.yc) D.ys
 hy:D.ys.length<=bG D.yc
 sm:Small D.M
 vm:cx D.M=true
 wx:eQ D.xs=true
 wy:eQ D.ys=true
structure zA(D:TD)(h0 g:ae)(k:Nat)(ok:Bool):Prop where
 box:g.get k=some (.cells (D.cs ok) 48 0 true)
 ok:Ok h0 g
 nk:h0.next<=k
def Kt(k:Nat)(g g':ae):Prop:=g.next<=g'.next/\∀(j:Nat)(B:dZ),j≠k->g.get j=some B->g'.get j=some B
theorem Kt.refl(k:Nat)(g:ae):Kt k g g:=⟨Nat.le_refl _,λ_ _ _ h=>h⟩
theorem Kt.trans{k:Nat}{g d c:ae}(a:Kt k g d)(b:Kt k d c):Kt k g c:=⟨Nat.le_trans a.1 b.1,λj B e h=>b.2 j B e (a.2 j B e h)⟩
theorem Kt.ofO{g g':ae}(o:Ok g g')(k:Nat):Kt k g g':=⟨o.nx,λj B _ h=>o.ext j B h⟩
theorem EH(h:eQ p=true)(i j:Nat):eQ ((p.take j).drop i)=true:=by
 unfold eQ at*;rw[and_eq_true,all_eq_true]at*;refine⟨?_,λx a=>h.2 x (List.mem_of_mem_take (List.mem_of_mem_drop a))⟩;have:=dT h.1;refine decide_eq_true ?_;rw[length_drop,length_take];omega
theorem NV(k:Nat):aI SS.P 48 (pA k) 1=some (.pointer (some ⟨k,1,none⟩)):=by kernel_rfl
theorem AS(k:Nat):aI SS.P 48 (pA k) 0=some (.pointer (some ⟨k,0,none⟩)):=by kernel_rfl
theorem NW(k:Nat):aI SS.P 48 (pA k) 2=some (.pointer (some ⟨k,2,none⟩)):=by kernel_rfl
theorem ach(k:Nat):aI SS.P 48 (pA k) 3=some (.pointer (some ⟨k,3,none⟩)):=by kernel_rfl
theorem IL(k:Nat):aI SS.P 48 (pA k) 4=some (.pointer (some ⟨k,7,none⟩)):=by kernel_rfl
theorem GY{g:ae}{c:Nat}(r:dP g (.slice a n c) p)(C:n<=bG c){i j:Nat}(y:i<=j)(B:j<=n):
  ∃(o:Option Addr)(m:Nat),bF SS.P 22 (.slice a n c) (some (iA i)) (some (iA j)) none g=some (.slice o (j-i) m)/\dP g (.slice o (j-i) m) ((p.take j).drop i):=by
 have t:=dP.len r;rcases r with⟨f,l⟩|⟨k,b,cs,A,w,e,z,f,l,q,u⟩
 ·injection f with d s h
  subst d;subst h;subst s;have v:p=[]:=List.eq_nil_of_length_eq_zero t.symm;obtain rfl:j=0:=by omega
  obtain rfl:i=0:=by omega
  refine⟨none,0,?_,.inl ⟨rfl,by rw[v];rfl⟩⟩;unfold bF;dsimp only;rw[qP];dsimp only[eY];rw[St];rfl
 ·injection f with d s h
  subst d;subst h;refine⟨some ⟨k,b+i,none⟩,c-i,?_,.inr ⟨k,b+i,cs,c-i,w,e,z,?_,l,q,?_⟩⟩
  ·unfold bF;dsimp only;rw[qP];dsimp only[eY];rw[St,l];dsimp only;have d:((j:Int)-(i:Int)).toNat=j-i:=by omega
   have x:((i:Nat):Int).toNat=i:=by omega
   rw[if_pos (q.elim (λa=> .inl a.2) .inr),if_pos (by omega),d,x,Nat.mul_one]
  ·rw[length_drop,length_take];congr 1;omega
  ·rw[length_drop,length_take,Nat.min_eq_left (by omega),<-List.drop_drop];have:((cs.drop b).drop i).take (j-i)=(((cs.drop b).take p.length).take j).drop i:=by
    rw[List.take_take,Nat.min_eq_left (by omega),List.drop_take]
   rw[this,u];unfold wT;rw[<-List.map_take,<-List.map_drop]
section
variable {K:Type} {S:aN K} {dec:List UInt8->K} {M:bu}
theorem Xz(h:pV S dec M.kind)(f:cx M=true){a b:List Int}(c:eQ a=true)(d:eQ b=true):(∃w,A4 M a b=(w,0)/\aM M.kind w=true/\dec w=xp S dec M a b)\/A4 M a b=([],2):=by
 unfold A4;rw[f,c,d,if_pos (show(true&&(true&&true))=true from rfl)]
 cases e:eI (aY M.kind) (gm M) a b with
 |none=>exact .inr rfl
 |some w=>
  obtain⟨g,i⟩:=Xm h (su f) (Wy c) (Wy d) e;exact .inl ⟨w,rfl,g,i⟩
end
section
variable {D:TD} {h0 g g':ae} {k:Nat} {ok:Bool}
theorem zA.qL(t:zA D h0 g k ok)(o:Ok g g'):zA D h0 g' k ok:=⟨o.ext _ _ t.box,t.ok.trans o,t.nk⟩
theorem zA.l0(t:zA D h0 g k ok):aj SS.P 3 g (.pointer (some ⟨k,0,none⟩))=some (.int .i64 D.M.kind):=ct Ha F4 t.box (by simp[TD.cs])
theorem zA.l1(t:zA D h0 g k ok):aj SS.P 22 g (.pointer (some ⟨k,1,none⟩))=some (.slice D.xa D.xs.length D.xc):=ct qP S0 t.box (by simp[TD.cs])
theorem zA.l2(t:zA D h0 g k ok):aj SS.P 22 g (.pointer (some ⟨k,2,none⟩))=some (.slice D.ya D.ys.length D.yc):=ct qP S0 t.box (by simp[TD.cs])
theorem zA.l3(t:zA D h0 g k ok):aj SS.P 29 g (.pointer (some ⟨k,3,none⟩))=some (.agg ⟨bL D.M D.s D.M.af.length D.sc⟩):=pz NU Mj uG t.box (by simp[TD.cs])
theorem zA.l4(t:zA D h0 g k ok):aj SS.P 4 g (.pointer (some ⟨k,7,none⟩))=some (.bool ok):=ct un4 ag4 t.box (by simp[TD.cs])
theorem zA.put(w:Wf h0)(t:zA D h0 g k ok)(b:Bool):∃u:dU,ah SS.P 4 (.pointer (some ⟨k,7,none⟩)) (.bool b) g=some (undef,u)/\zA D h0 (u.app g) k b/\Kt k g (u.app g):=by
 refine⟨_,jh ad4 t.box (i:=7) (by simp[TD.cs]) rfl rfl,⟨?_,t.ok.set _ t.nk (t.ok.wf _ _ t.box) w,t.nk⟩,Nat.le_refl _,λj B a h=>?_⟩
 ·show(g.set k _).get k=_;rw[ae.ax,if_pos rfl];rfl
 ·show(g.set k _).get j=_;rw[ae.ax,if_neg a];exact h
theorem pn(w:Wf h0)(t:zA D h0 g k ok){n:Int}{A B:ae->Prop}(l:n≠0->∀g',zA D h0 g' k false->Kt k g g'->A g')(j:n=0->∀g',zA D h0 g' k ok->Kt k g g'->B g'):
  xP (aI SS.P 48 (pA k) 4) λp=>xB (aj SS.P 4 g (.pointer (some p))) λb=>au b (xP (aI SS.P 48 (pA k) 4) λh=>xU (ah SS.P 4 (.pointer (some h)) (.bool ((n:Int)==0)) g) g λu d=>au ((n:Int) !=0) (A d) (B d))
   (xP (aI SS.P 48 (pA k) 4) λh=>xU (ah SS.P 4 (.pointer (some h)) (.bool false) g) g λu d=>au ((n:Int) !=0) (A d) (B d)):=by
 refine⟨_,IL k,_,t.l4,aa (λq=>?_) (λq=>?_)⟩
 ·obtain⟨u,i,c,f⟩:=t.put w (n==0);refine⟨_,IL k,u,i,aa (λa=>?_) (λa=>?_)⟩
  ·have a:n≠0:=by simpa using a
   have e:(n==0)=false:=by simpa using a
   rw[e]at c;exact l a _ c f
  ·have a:n=0:=by simpa using a
   have e:(n==0)=true:=by simpa using a
   rw[e]at c;exact j a _ (by rw[q];exact c) f
 ·obtain⟨u,i,c,f⟩:=t.put w false;refine⟨_,IL k,u,i,aa (λa=>?_) (λa=>?_)⟩
  ·exact l (by simpa using a) _ c f
  ·exact j (by simpa using a) _ (by rw[q];exact c) f
end
section
variable {K:Type} {S:aN K} {dec:List UInt8->K} {D:TD} {h0 g:ae} {k:Nat} {ok:Bool}
def TQ(S:aN K)(dec:List UInt8->K)(D:TD)(h0 g:ae)(k:Nat)(ok:Bool)(a:K):VH:=λv g'=>∃(w:List UInt8)(b:Bool),v=strOf w/\zA D h0 g' k b/\Kt k g g'/\aM D.M.kind w=true/\(b=true->ok=true/\dec w=a)
theorem WG(o:pV S dec D.M.kind)(w:Wf h0)(t:zA D h0 g k ok){a b:List UInt8}(i:aM D.M.kind a=true)(j:aM D.M.kind b=true):FW SS 29 [pA k,strOf a,strOf b] g (TQ S dec D h0 g k ok (S.add (dec a) (dec b))):=by
 refine WE k a b g _ ⟨_,AS k,_,t.l0,(rp i j t.ok.wf).mono ?_⟩;rintro _ q ⟨rfl,d⟩;have l:=t.qL d
 cases e:eN D.M.kind a b with
 |none=>
  refine⟨[],2,rfl,pn w l (λ_ m f h=>⟨a,false,rfl,f,(Kt.ofO d k).trans h,i,λc=>by cases c⟩) (λc=>by cases c)⟩
 |some c=>
  obtain⟨n,p⟩:=o.plus i j e;exact⟨c,0,rfl,pn w l (λc=>absurd rfl c) (λ_ m f h=>⟨c,ok,rfl,f,(Kt.ofO d k).trans h,n,λe=>⟨e,p⟩⟩)⟩
theorem G6(o:pV S dec D.M.kind)(w:Wf h0)(t:zA D h0 g k ok){a b:List UInt8}(i:aM D.M.kind a=true)(j:aM D.M.kind b=true):FW SS 32 [pA k,strOf a,strOf b] g (TQ S dec D h0 g k ok (S.mul (dec a) (dec b))):=by
 refine Sc k a b g _ ⟨_,AS k,_,t.l0,(xe i j t.ok.wf).mono ?_⟩;rintro _ q ⟨rfl,d⟩;have l:=t.qL d
 cases e:dj D.M.kind a b with
 |none=>
  refine⟨[],2,rfl,pn w l (λ_ m f h=>⟨a,false,rfl,f,(Kt.ofO d k).trans h,i,λc=>by cases c⟩) (λc=>by cases c)⟩
 |some c=>
  obtain⟨n,p⟩:=o.times i j e;exact⟨c,0,rfl,pn w l (λc=>absurd rfl c) (λ_ m f h=>⟨c,ok,rfl,f,(Kt.ofO d k).trans h,n,λe=>⟨e,p⟩⟩)⟩
theorem WD(B:pV S dec D.M.kind)(a:TGd D h0)(t:zA D h0 g k ok){i j p q:Nat}(u:i<=j)(H:j<=D.xs.length)(r:p<=q)(C:q<=D.ys.length):
  FW SS 30 [pA k,iA i,iA j,iA p,iA q] g (TQ S dec D h0 g k ok (xp S dec D.M ((D.xs.take j).drop i) ((D.ys.take q).drop p))):=by
 have s:=su a.vm;have v:=(Ok.refl t.ok.wf).room 24;have b:=t.qL v;obtain⟨O,M,x,z⟩:=GY (dP.ok a.rx b.ok) a.hx u H;obtain⟨L,N,F,A⟩:=GY (dP.ok a.ry b.ok) a.hy r C;refine ab8 k i j p q g _ ⟨_,ach k,_,b.l3,_,NV k,_,_,_,b.l1,_,_,_,x,_,NW k,_,_,_,b.l2,_,_,_,F,(IS b.ok.wf a.sm (a.st.ok b.ok) z A).mono ?_⟩;rintro _ E ⟨rfl,o⟩;have J:=b.qL o;have f:Kt k g E:=Kt.ofO (v.trans o) k;refine⟨_,_,rfl,pn a.wf J (λh l d m=>?_) (λh l d m=>?_)⟩
 ·refine⟨_,AS k,_,d.l0,(gw s.kind l).mono ?_⟩;rintro _ K ⟨rfl,G⟩;obtain rfl:l=K:=G.symm;exact⟨_,rfl,_,false,rfl,d,f.trans m,qw s.kind,λc=>by cases c⟩
 ·rcases Xz B a.vm (EH a.wx i j) (EH a.wy p q)with⟨w,n,I,y⟩|n
  ·rw[n];exact⟨w,ok,rfl,d,f.trans m,I,λe=>⟨e,y⟩⟩
  ·rw[n]at h;cases h
end
end
variable{s:List UInt8}{h:ae}{z:Int}
section
section
variable {K:Type} {S:aN K} {dec:List UInt8->K} {D:TD} {h0 g:ae} {k:Nat} {ok:Bool}
theorem Qh(F:List Int->List Int->List Int->List Int->K)(x y:List Int):ew S F x y=S.bP (λp=>S.bP (λq=>F (x.take p) (y.take q) (x.drop p) (y.drop q)) (y.length+1)) (x.length+1):=rfl
theorem Lo{l:List Int}{p:Nat}(h:p<=l.length):l.take p=[]↔p=0:=by
 constructor
 ·intro e;have:=congrArg List.length e;rw[length_take]at this;have:min p l.length=0:=this;omega
 ·rintro rfl;rfl
theorem Z1(x y:List Int){i j:Nat}(e:i<=x.length)(f:j<=y.length):Num.unit S (x.drop i) (y.drop j)=if i=x.length/\j=y.length then S.one else S.zero:=by
 unfold Num.unit emp;have a:x.drop i=[]↔i=x.length:=by rw[List.drop_eq_nil_iff];omega
 have b:y.drop j=[]↔j=y.length:=by rw[List.drop_eq_nil_iff];omega
 by_cases c:i=x.length/\j=y.length
 ·rw[if_pos c,if_pos ⟨a.2 c.1,b.2 c.2⟩]
 ·rw[if_neg c,if_neg (λd=>c ⟨a.1 d.1,b.1 d.2⟩)]
def VN(S:aN K)(G:Nat->Nat->K)(n p:Nat):K:=S.bP (λa=>S.bP (G a) n) p
structure LI(S:aN K)(dec:List UInt8->K)(D:TD)(h0 g0:ae)(k:Nat)(ok:Bool)(s:List UInt8)(val:K)(g:ae):Prop where
 ex:∃b,zA D h0 g k b/\(b=true->ok=true/\dec s=val)
 kt:Kt k g0 g
 v:aM D.M.kind s=true
theorem LI.cast{b a:K}(l:LI S dec D h0 g k ok s b h)(e:b=a):LI S dec D h0 g k ok s a h:=e▸l
theorem vf(l:List Int)(i p:Nat):(l.take p).drop i=(l.drop i).take (p-i):=List.drop_take ..
theorem Gz(l:List Int){i p:Nat}(h:i<=p):l.drop p=(l.drop i).drop (p-i):=by rw[List.drop_drop];congr 1;omega
theorem Yo(v:pV S dec D.M.kind)(u:TGd D h0){s:List UInt8}{h f r:K}{x:ae}(l:LI S dec D h0 g k ok s h x){i p j q:Nat}(B:i<=p)(hp:p<=D.xs.length)(A:j<=q)(R:q<=D.ys.length)
  (hf:f=xp S dec D.M ((D.xs.drop i).take (p-i)) ((D.ys.drop j).take (q-j))) {C:Nat} {d:List Value}
  (rest:∀{a:ae}{b:Bool},zA D h0 a k b->FW SS C d a (TQ S dec D h0 a k b r))
  {Z:List UInt8->ae->Prop} (hZ:∀(z:List UInt8)(c:ae),LI S dec D h0 g k ok z (S.add h (S.mul f r)) c->Z z c):
  FW SS 30 [pA k,iA i,iA p,iA j,iA q] x λw a=>yS w λl1=>FW SS C d a λn c=>yS n λl2=>FW SS 32 [pA k,strOf l1,strOf l2] c λm F=>yS m λl3=>FW SS 29 [pA k,strOf s,strOf l3] F λo y=>yS o λl4=>Z l4 y:=by
 obtain⟨b,t,P⟩:=l.ex;refine(WD v u t B hp A R).mono ?_;rintro _ a ⟨G,b1,rfl,t1,U,w,E⟩;rw[vf,vf,<-hf]at E;refine⟨G,rfl,(rest t1).mono ?_⟩;rintro _ c ⟨w2,b2,rfl,I,O,n,H⟩;refine⟨w2,rfl,(G6 v u.wf I w n).mono ?_⟩;rintro _ F ⟨w3,b3,rfl,Y,k3,m,Q⟩;refine⟨w3,rfl,(WG v u.wf Y l.v m).mono ?_⟩;rintro _ y ⟨L,T,rfl,M,W,o,N⟩;refine⟨L,rfl,hZ _ _ ⟨⟨T,M,λe=>?_⟩,(((l.kt.trans U).trans O).trans k3).trans W,o⟩⟩;obtain⟨X,x4⟩:=N e;obtain⟨e2,x3⟩:=Q X;obtain⟨J,V⟩:=H e2;obtain⟨e0,x1⟩:=E J;obtain⟨e,x0⟩:=P e0;exact⟨e,by rw[x4,x3,V,x1,x0]⟩
theorem Ze(a:1<=z/\z<=3):aM z (df z)=true:=by
 have:z=1\/z=2\/z=3:=by omega
 rcases this with rfl|rfl|rfl<;>decide
theorem WK(h:pV S dec D.M.kind)(a:TGd D h0):∀(N:Nat){i j:Nat}{g:ae}{ok:Bool},D.xs.length-i+(D.ys.length-j)=N->i<=D.xs.length->j<=D.ys.length->zA D h0 g k ok->
  FW SS 34 [pA k,iA i,iA j] g (TQ S dec D h0 g k ok (xp S dec (eP D.M) (D.xs.drop i) (D.ys.drop j))):=by
 intro N
 induction N using Nat.strongRecOn with
 |_ N ih=>
 intro i j g ok hN hi hj t;have r:=su a.vm;have cp:=p0 a.sm a.vm;have h1:=YC r.kind h;have lx:=zt a.wx;have ly:=zt a.wy;obtain⟨V,hV⟩:∃V,V=xp S dec (eP D.M):=⟨_,rfl⟩
 obtain⟨F,Y⟩:∃F,F=xp S dec D.M:=⟨_,rfl⟩
 have o:V (D.xs.drop i) (D.ys.drop j)=S.mul (S.star (F [] [])) (S.add (Num.unit S (D.xs.drop i) (D.ys.drop j)) (qY S F V (D.xs.drop i) (D.ys.drop j))):=by
  rw[hV,Y];exact Xd cp r.kind h1 _ _
 rw[<-hV]at ih⊢;obtain⟨G,R⟩:∃G:Nat->Nat->K,G=λp q=>if(D.xs.drop i).take p=[]/\(D.ys.drop j).take q=[]then S.zero else S.mul (F ((D.xs.drop i).take p) ((D.ys.drop j).take q)) (V ((D.xs.drop i).drop p) ((D.ys.drop j).drop q)):=⟨_,rfl⟩
 have hX:(D.xs.drop i).length=D.xs.length-i:=length_drop;have hY:(D.ys.drop j).length=D.ys.length-j:=length_drop;have Q:qY S F V (D.xs.drop i) (D.ys.drop j)=VN S G (D.ys.length-j+1) (D.xs.length-i+1):=by
  unfold qY VN;rw[Qh,hX,hY,R]
 obtain⟨U,hU⟩:∃U,U=Num.unit S (D.xs.drop i) (D.ys.drop j):=⟨_,rfl⟩
 rw[<-hU]at o;have L:U=if i=D.xs.length/\j=D.ys.length then S.one else S.zero:=by rw[hU];exact Z1 _ _ hi hj
 have d:∀{s:List UInt8}{u:ae},LI S dec D h0 g k ok s U u->LL SS dO [1,1,1,0,1,0,0] (ff k i j s i) u (KK SS dO [1,1,1,0,1,0] [] (EE SS dO (TQ S dec D h0 g k ok (V (D.xs.drop i) (D.ys.drop j))))):=by
  intro s u l0;refine AO k i j (λM s p n=>i<=p/\p<=D.xs.length+1/\M=D.xs.length+1-p/\LI S dec D h0 g k ok s (S.add U (VN S G (D.ys.length-j+1) (p-i))) n) _ (λM s p=>?_) (D.xs.length+1-i) (s:=s) (p:=i) ⟨Nat.le_refl _,by omega,rfl,l0.cast (by rw[sub_self];exact(aN.add_zero _).symm)⟩;intros;rename_i g2 x3;obtain⟨p1,p2,p3,x⟩:=x3;obtain⟨b2,O,d2⟩:=x.ex;refine⟨_,NV k,_,_,_,O.l1,aa (λq=>?_) (λq=>?_)⟩
  ·have H:p<=D.xs.length:=by have:=dT q;omega
   refine AP k i j _ M p (λb s q n=>j<=q/\q<=D.ys.length+1/\b=D.ys.length+1-q/\LI S dec D h0 g k ok s (S.add (S.add U (VN S G (D.ys.length-j+1) (p-i))) (S.bP (G (p-i)) (q-j))) n) _ (λb s q=>?_) (D.ys.length+1-j) (s:=s) (q:=j) ⟨Nat.le_refl _,by omega,rfl,x.cast (by rw[sub_self];exact(aN.add_zero _).symm)⟩;intros;rename_i g3 W;obtain⟨q1,f,q3,B⟩:=W;obtain⟨b3,m,T⟩:=B.ex;refine⟨_,NW k,_,_,_,m.l2,aa (λc=>?_) (λc=>?_)⟩
   ·have y:q<=D.ys.length:=by have:=dT c;omega
    have A:wrap .i64 ((q:Int)+1)=((q+1:Nat):Int):=by rw[aD (by omega) (by omega)];omega
    have w:S.bP (G (p-i)) (q+1-j)=S.add (S.bP (G (p-i)) (q-j)) (G (p-i) (q-j)):=by rw[show q+1-j=(q-j)+1 by omega];rfl
    have n1:=Lo (l:=D.xs.drop i) (p:=p-i) (by omega);have n2:=Lo (l:=D.ys.drop j) (p:=q-j) (by omega);have I:¬(p=i/\q=j)->FW SS 30 [pA k,iA i,iA p,iA j,iA q] g3 λx7 x6=>yS x7 λx8=>FW SS 34 [pA k,iA p,iA q] x6 λx0 x5=>yS x0 λx4=>FW SS 32 [pA k,strOf x8,strOf x4] x5 λy7 y6=>yS y7 λy8=>FW SS 29 [pA k,strOf s,strOf y8] y6 λx9 y1=>yS x9 λy2=>aJ (oV (gR k i j p) (λb s q n=>j<=q/\q<=D.ys.length+1/\b=D.ys.length+1-q/\LI S dec D h0 g k ok s (S.add (S.add U (VN S G (D.ys.length-j+1) (p-i))) (S.bP (G (p-i)) (q-j))) n)) b [pA k,iA i,iA j,strOf y2,iA p,.int .i64 (wrap .i64 ((q:Int)+1))] y1:=λy0=>by
     refine Yo h a B p1 H q1 y (hf:=rfl) (rest:=λt=>ih (D.xs.length-p+(D.ys.length-q)) (by omega) rfl H y t) λz g4 l4=>?_;rw[A];refine gU (D.ys.length+1-(q+1)) (by omega) ⟨by omega,by omega,rfl,l4.cast ?_⟩;rw[w,<-aN.add_assoc];congr 1;rw[R];dsimp only;rw[if_neg (λe=>y0 ⟨by have:=n1.1 e.1;omega,by have:=n2.1 e.2;omega⟩),<-Gz _ p1,<-Gz _ q1,Y]
    refine aa (λE=>?_) (λE=>aa (λC=>?_) (λC=>?_))
    ·have:=dT E;exact I λe=>by omega
    ·have:=dT C;exact I λe=>by omega
    ·have E:=dF E;have C:=dF C;rw[A];refine gU (D.ys.length+1-(q+1)) (by omega) ⟨by omega,by omega,rfl,B.cast ?_⟩;have hz:G (p-i) (q-j)=S.zero:=by
      rw[R];dsimp only;rw[if_pos ⟨n1.2 (by omega),n2.2 (by omega)⟩]
     rw[w,hz,aN.add_zero]
   ·have y:q=D.ys.length+1:=by have:=dF c;omega
    have A:wrap .i64 ((p:Int)+1)=((p+1:Nat):Int):=by rw[aD (by omega) (by omega)];omega
    rw[A];refine gU (D.xs.length+1-(p+1)) (by omega) ⟨by omega,by omega,rfl,B.cast ?_⟩;rw[y,show D.ys.length+1-j=D.ys.length-j+1 by omega,show p+1-i=(p-i)+1 by omega,aN.add_assoc];rfl
  ·have H:p=D.xs.length+1:=by have:=dF q;omega
   have or:=(Ok.refl O.ok.wf).room 16;have tr:=O.qL or;rw[H,show D.xs.length+1-i=D.xs.length-i+1 by omega,<-Q]at d2;refine⟨_,AS k,_,tr.l0,(WD h a tr (Nat.le_refl i) hi (Nat.le_refl j) hj).mono ?_⟩;rintro _ g3 ⟨w3,b3,rfl,m,k3,Z,T⟩;have v:xp S dec D.M ((D.xs.take i).drop i) ((D.ys.take j).drop j)=F [] []:=by
    rw[vf,vf,sub_self,sub_self,Y];rfl
   rw[v]at T;refine⟨w3,rfl,(GD Z m.ok.wf).mono ?_⟩;rintro _ g4 ⟨rfl,o4⟩;have t4:=m.qL o4;have J:Kt k g g4:=((x.kt.trans (Kt.ofO or k)).trans k3).trans (Kt.ofO o4 k)
   cases e:kV D.M.kind w3 with
   |none=>
    refine⟨[],2,rfl,⟨m.l0,Cw _⟩,pn a.wf t4 (λ_ g5 P X=>⟨s,false,rfl,P,J.trans X,x.v,λc=>by cases c⟩) (λc=>by cases c)⟩
   |some c=>
    obtain⟨x1,x2⟩:=h.star Z e;refine⟨c,0,rfl,⟨m.l0,Cw _⟩,pn a.wf t4 (λc=>absurd rfl c) (λ_ g5 P X=>?_)⟩;refine(G6 h a.wf P x1 x.v).mono ?_;rintro _ g6 ⟨w6,b6,rfl,t6,k6,v6,d6⟩;refine⟨w6,rfl,w6,b6,rfl,t6,(J.trans X).trans k6,v6,λe=>?_⟩;obtain⟨e5,y5⟩:=d6 e;obtain⟨e4,y4⟩:=T e5;obtain⟨e3,y3⟩:=d2 e4;exact⟨e3,by rw[y5,x2,y4,y3,o]⟩
 refine WJ k i j g _ ⟨_,AS k,_,t.l0,(gw r.kind g).mono ?_⟩;rintro _ u ⟨rfl,v⟩;obtain rfl:g=u:=v.symm;have lz:¬(i=D.xs.length/\j=D.ys.length)->LI S dec D h0 g k ok (bH D.M.kind) U g:=λc=>⟨⟨ok,t,λe=>⟨e,by rw[L,if_neg c];exact h.zero⟩⟩,Kt.refl k g,qw r.kind⟩
 refine⟨_,rfl,_,NV k,_,_,_,t.l1,aa (λq=>⟨_,NW k,_,_,_,t.l2,aa (λf=>⟨_,AS k,_,t.l0,(Ip _ g).mono ?_⟩) (λf=>d (lz λc=>?_))⟩) (λq=>d (lz λc=>?_))⟩
 ·have q:(i:Int)=(D.xs.length:Int):=by simpa using q
  have f:(j:Int)=(D.ys.length:Int):=by simpa using f
  rintro _ g2 ⟨rfl,v⟩;obtain rfl:g=g2:=v.symm;exact⟨_,rfl,d ⟨⟨ok,t,λe=>⟨e,by rw[L,if_pos ⟨by omega,by omega⟩];exact h1⟩⟩,Kt.refl k g,Ze r.kind⟩⟩
 ·have f:¬(j:Int)=(D.ys.length:Int):=by simpa using f
  omega
 ·have q:¬(i:Int)=(D.xs.length:Int):=by simpa using q
  omega
end
end
end Go.Proofs.YtaaichlgdgjgjaaGreatDoor
end
section
namespace Go.Proofs.YtaaichlgdgjgjaaGreatDoor
open Go Go.Ab Go.Num
variable{M:bu}
def YA:Nat->Nat->List UInt8
 |0,_=>[]
 |f+1,n=>if n<10 then[fg n]else YA f (n/10)++[fg (n%10)]
theorem Oy:∀{f n:Nat},n<f->YA f n=ag n
 |f+1,n,h=>by
  unfold YA;by_cases c:n<10
  ·rw[if_pos c,dI c]
  ·rw[if_neg c,iB (by omega),Oy (by omega)]
def Et(n:Nat):List UInt8:=YA (n+1) n
theorem Cv(n:Nat):ag n=Et n:=(Oy (Nat.lt_succ_self n)).symm
def YY(s:Bool)(n d:Nat):List UInt8:=(if s=true/\n≠0 then[45]else[])++(Et n++(if d=1 then[]else 47::Et d))
theorem aaR(s:Bool)(n d:Nat):cP s n d=YY s n d:=by unfold cP YY;rw[Cv,Cv]
def Uq(s:Bool)(n d:Nat):Option (List UInt8):=if 400<(Et (n/Nat.gcd n d)).length\/400<(Et (d/Nat.gcd n d)).length then none else some (YY s (n/Nat.gcd n d) (d/Nat.gcd n d))
theorem VD(s:Bool)(n d:Nat):lW s n d=Uq s n d:=by unfold lW Uq;rw[Cv,Cv,aaR]
def YX(a b:List UInt8):Option (List UInt8):=Uq (dL (Num.isNeg a) (Num.val (Num.numOf a)*Num.val (ak b)) (Num.isNeg b) (Num.val (Num.numOf b)*Num.val (ak a))).1 (dL (Num.isNeg a) (Num.val (Num.numOf a)*Num.val (ak b)) (Num.isNeg b) (Num.val (Num.numOf b)*Num.val (ak a))).2 (Num.val (ak a)*Num.val (ak b))
def adF(a b:List UInt8):Option (List UInt8):=Uq (Num.isNeg a !=Num.isNeg b) (Num.val (Num.numOf a)*Num.val (Num.numOf b)) (Num.val (ak a)*Num.val (ak b))
def adE(a b:List UInt8):Option (List UInt8):=Uq (Num.isNeg a !=Num.isNeg b) (Num.val (Num.numOf a)*Num.val (ak b)) (Num.val (ak a)*Num.val (Num.numOf b))
def adG(a:List UInt8):List UInt8:=YY (!Num.isNeg a) (Num.val (Num.numOf a)) (Num.val (ak a))
theorem SZ:qA=YX:=by funext a b;exact VD _ _ _
theorem adK:CR=adF:=by funext a b;exact VD _ _ _
theorem adt:Hl=adE:=by funext a b;exact VD _ _ _
theorem adL:qB=adG:=by funext a;exact aaR _ _ _
def Up(c:Int)(a b:List UInt8):Option (List UInt8):=if c≠2 then some (if Hj c b a<0 then b else a)else if a=dn\/b=dn then some dn else YX a b
def MO(c:Int)(a b:List UInt8):Option (List UInt8):=if a=bH c\/b=bH c then some (bH c)else if a=dn\/b=dn then some dn else if a=iy\/b=iy then some iy else if c=1 then YX a b else adF a b
def Ur(b:Int)(a:List UInt8):Option (List UInt8):=if b=1 then(if dw a [48]>=0 then some [48]else some iy)else if b=3 then(if dw a [49]<=0 then some [49]else some dn)else if dw a [49]>=0 then some dn else match YX [49] (adG a)with
 |some d=>adE [49] d
 |none=>none
theorem abQ:eN=Up:=by funext k a b;unfold eN Up;rw[SZ]
theorem II:dj=MO:=by funext k a b;unfold dj MO;rw[SZ,adK]
theorem ab6:kV=Ur:=by funext k a;unfold kV Ur;rw[SZ,adt,adL];rfl
def abF(b:Int):qy (List UInt8):=⟨bH b,qX b,λa=>a==bH b,Up b,MO b,Ur b⟩
theorem adQ(a:Int):aY a=abF a:=by unfold aY abF;rw[abQ,II,ab6]
def aeq(M:bu)(a b:List Int):List UInt8×Int:=if(cx M&&(eQ a&&eQ b))=true then(match eI (abF M.kind) (gm M) a b with|some w=>(w,0)|none=>([],2))else([],1)
theorem B9(M:bu)(a b:List Int):A4 M a b=aeq M a b:=by unfold A4 aeq;rw[adQ];rfl
def LN:bu:=Hc 1 [1] [2] [51]
def awB:bu:=Hc 1 [1] [2] [53]
def awU:bu:=Xb LN awB
def awC:bu:=Cd LN awB [56]
def awS:bu:=eP LN
def awR:bu:=adT LN 2 3
def awT:bu:=NB LN [55,47,50]
def awL:bu:=DK 1 [2,1,2]
def awH:bu:=Hc 2 [] [] [49,47,50]
def awK:bu:=eP awH
theorem aa9:oA [2,1,2]=[1,2]:=by
 have:mB [2,1,2]=[1,2,2]:=by simp[mB,List.mergeSort,List.MergeSort.Internal.splitInTwo]
 unfold oA;rw[this];decide
theorem aa8:awL=⟨1,0,df 1,[⟨[],HU 1 [1,2]⟩,⟨df 1,[]⟩]⟩:=by unfold awL DK;rw[aa9]
theorem acM:BA 1 [1] [2] [51]=(LN,0):=by unfold BA;rw[if_pos (by decide +kernel)];rfl
theorem acN:BA 1 [1] [2] [53]=(awB,0):=by unfold BA;rw[if_pos (by decide +kernel)];rfl
theorem acV:IM LN awB=(awU,0):=by unfold IM;rw[if_pos (by decide +kernel)];rfl
theorem aba:dj LN.kind LN.lead awB.lead=some [56]:=by rw[II];decide +kernel
theorem acO:Ce LN awB [56]=(awC,0):=by unfold Ce;rw[if_pos (by decide +kernel)];rfl
theorem acT:wz LN=(awS,0):=by unfold wz;rw[if_pos (by decide +kernel)];rfl
theorem acS:Zy LN 2 3=(awR,0):=by unfold Zy;rw[if_pos (by decide +kernel)];rfl
theorem abb:dj LN.kind [49,47,50] LN.lead=some [55,47,50]:=by rw[II];decide +kernel
theorem acU:IC LN [49,47,50] [55,47,50]=(awT,0):=by unfold IC;rw[if_pos (by decide +kernel)];rfl
theorem acR:yq 1 [2,1,2]=(awL,0):=by unfold yq;rw[if_pos (by decide)];rfl
theorem acP:BA 2 [] [] [49,47,50]=(awH,0):=by unfold BA;rw[if_pos (by decide +kernel)];rfl
theorem acQ:wz awH=(awK,0):=by unfold wz;rw[if_pos (by decide +kernel)];rfl
theorem ac0:A4 awU [1] [2]=([51],0):=by rw[B9];decide +kernel
theorem ac1:A4 awU [1] [1]=([105,110,102],0):=by rw[B9];decide +kernel
theorem ac2:A4 awC [1,1] [2,2]=([56],0):=by rw[B9];decide +kernel
theorem ac3:A4 awS [] []=([48],0):=by rw[B9];decide +kernel
theorem ac4:A4 awS [1,1] [2,2]=([54],0):=by rw[B9];decide +kernel
theorem ac5:A4 awS [1] []=([105,110,102],0):=by rw[B9];decide +kernel
theorem ac6:A4 awR [1] [2]=([105,110,102],0):=by rw[B9];decide +kernel
theorem ac7:A4 awR [1,1] [2,2]=([54],0):=by rw[B9];decide +kernel
theorem ac8:A4 awT [1] [2]=([55,47,50],0):=by rw[B9];decide +kernel
theorem abc:A4 awL [2] [2]=([48],0):=by rw[B9,aa8];decide +kernel
theorem abd:A4 awL [1,2] [1,2]=([105,110,102],0):=by rw[B9,aa8];decide +kernel
theorem abe:A4 awK [] []=([50],0):=by rw[B9];decide +kernel
theorem kO(a:cx M=true)(b:M.af.length<=300)(c:cg M.af<=2000):Small M:=(Xf a (by omega)).small b c
theorem JE:Small LN:=kO (by decide +kernel) (by decide +kernel) (by decide +kernel)
theorem aar:Small awB:=kO (by decide +kernel) (by decide +kernel) (by decide +kernel)
theorem aau:Small awU:=kO (by decide +kernel) (by decide +kernel) (by decide +kernel)
theorem acW:Small awC:=kO (by decide +kernel) (by decide +kernel) (by decide +kernel)
theorem S9:Small awS:=kO (by decide +kernel) (by decide +kernel) (by decide +kernel)
theorem aat:Small awR:=kO (by decide +kernel) (by decide +kernel) (by decide +kernel)
theorem acZ:Small awT:=kO (by decide +kernel) (by decide +kernel) (by decide +kernel)
theorem aas:Small awL:=by rw[aa8];exact kO (by decide +kernel) (by decide +kernel) (by decide +kernel)
theorem acX:Small awH:=kO (by decide +kernel) (by decide +kernel) (by decide +kernel)
theorem acY:Small awK:=kO (by decide +kernel) (by decide +kernel) (by decide +kernel)
noncomputable def X5:FD:=cI Tryz.f12 []
theorem Ta  (h:ae) (Q:VH) (hx:xR (aG SS.P 22 1 [(0,(.int .i64 1))]) h λ_ A C B=>xR (aG SS.P 22 1 [(0,(.int .i64 2))]) B λ_ F D J=>xR (aG SS.P 22 2 [(0,(.int .i64 1)),(1,(.int .i64 1))]) J λ_ W k7 I=>xR (aG SS.P 22 2 [(0,(.int .i64 2)),(1,(.int .i64 2))]) I λ_ k3 Z k5=>FW SS 13 [(.int .i64 1),(sA (h.next) A C),(sA (B.next) F D),(strOf [51])] k5 λk1 E=>∃k0:LV,∃j9:Int,k1=(.tuple ⟨[(.agg ⟨k0⟩),(.int .i64 j9)]⟩)/\xN (br SS.P 29) E λ_ j8=>xU (ah SS.P 29 (pA (E.next)) (.agg ⟨k0⟩) j8) j8 λ_ j7=>FW SS 13 [(.int .i64 1),(sA (h.next) A C),(sA (B.next) F D),(strOf [53])] j7 λj5 L=>∃j4:LV,∃j3:Int,j5=(.tuple ⟨[(.agg ⟨j4⟩),(.int .i64 j3)]⟩)/\xN (br SS.P 29) L λ_ j2=>xU (ah SS.P 29 (pA (L.next)) (.agg ⟨j4⟩) j2) j2 λ_ H=>au (((j9:Int) !=0)) (Q (.bool false) H) (au (((j3:Int) !=0)) (Q (.bool false) H) (lA 29 H (pA (E.next)) λj0=>lA 29 H (pA (L.next)) λi9=>FW SS 25 [(.agg ⟨j0⟩),(.agg ⟨i9⟩)] H λi7 K=>∃i6:LV,∃i5:Int,i7=(.tuple ⟨[(.agg ⟨i6⟩),(.int .i64 i5)]⟩)/\xN (br SS.P 29) K λ_ i4=>xU (ah SS.P 29 (pA (K.next)) (.agg ⟨i6⟩) i4) i4 λ_ i3=>lA 29 i3 (pA (E.next)) λi2=>lA 29 i3 (pA (L.next)) λi1=>FW SS 31 [(.agg ⟨i2⟩),(.agg ⟨i1⟩)] i3 λh9 P=>∃h8:LV,∃h7:Int,h9=(.tuple ⟨[(.agg ⟨h8⟩),(.int .i64 h7)]⟩)/\xN (br SS.P 29) P λ_ h6=>xU (ah SS.P 29 (pA (P.next)) (.agg ⟨h8⟩) h6) h6 λ_ h5=>lA 29 h5 (pA (E.next)) λh4=>FW SS 33 [(.agg ⟨h4⟩)] h5 λh2 G=>∃h1:LV,∃M:Int,h2=(.tuple ⟨[(.agg ⟨h1⟩),(.int .i64 M)]⟩)/\xN (br SS.P 29) G λ_ g9=>xU (ah SS.P 29 (pA (G.next)) (.agg ⟨h1⟩) g9) g9 λ_ g7=>lA 29 g7 (pA (E.next)) λg6=>FW SS 35 [(.agg ⟨g6⟩),(.int .i64 2),(.int .i64 3)] g7 λg3 N=>∃g2:LV,∃g1:Int,g3=(.tuple ⟨[(.agg ⟨g2⟩),(.int .i64 g1)]⟩)/\xN (br SS.P 29) N λ_ g0=>xU (ah SS.P 29 (pA (N.next)) (.agg ⟨g2⟩) g0) g0 λ_ f9=>lA 29 f9 (pA (E.next)) λf8=>FW SS 37 [(.agg ⟨f8⟩),(strOf [49,47,50])] f9 λf6 V=>∃f5:LV,∃f4:Int,f6=(.tuple ⟨[(.agg ⟨f5⟩),(.int .i64 f4)]⟩)/\xN (br SS.P 29) V λ_ f3=>xU (ah SS.P 29 (pA (V.next)) (.agg ⟨f5⟩) f3) f3 λ_ f2=>xR (aG SS.P 22 3 [(0,(.int .i64 2)),(1,(.int .i64 1)),(2,(.int .i64 2))]) f2 λ_ e9 f0 f1=>FW SS 21 [(.int .i64 1),(sA (f2.next) e9 f0)] f1 λe7 O=>∃e6:LV,∃e5:Int,e7=(.tuple ⟨[(.agg ⟨e6⟩),(.int .i64 e5)]⟩)/\xN (br SS.P 29) O λ_ e4=>xU (ah SS.P 29 (pA (O.next)) (.agg ⟨e6⟩) e4) e4 λ_ e3=>FW SS 13 [(.int .i64 2),nA,nA,(strOf [49,47,50])] e3 λe1 e2=>∃e0:LV,∃d9:Int,e1=(.tuple ⟨[(.agg ⟨e0⟩),(.int .i64 d9)]⟩)/\xN (br SS.P 29) e2 λ_ d8=>xU (ah SS.P 29 (pA (e2.next)) (.agg ⟨e0⟩) d8) d8 λ_ d7=>lA 29 d7 (pA (e2.next)) λd6=>FW SS 33 [(.agg ⟨d6⟩)] d7 λd4 d5=>∃d3:LV,∃d2:Int,d4=(.tuple ⟨[(.agg ⟨d3⟩),(.int .i64 d2)]⟩)/\xN (br SS.P 29) d5 λ_ d1=>xU (ah SS.P 29 (pA (d5.next)) (.agg ⟨d3⟩) d1) d1 λ_ d0=>au (((d9:Int)==0)) (lA 29 d0 (pA (K.next)) λc9=>FW SS 39 [(.agg ⟨c9⟩),(.int .i64 i5),(sA (h.next) A C),(sA (B.next) F D)] d0 λc6 U=>yS c6 λc5=>au ((c5:LB)==[51]) (lA 29 U (pA (K.next)) λc4=>FW SS 39 [(.agg ⟨c4⟩),(.int .i64 i5),(sA (h.next) A C),(sA (h.next) A C)] U λc1 c2=>yS c1 λc0=>au ((c0:LB)==[105,110,102]) (lA 29 c2 (pA (P.next)) λb9=>FW SS 39 [(.agg ⟨b9⟩),(.int .i64 h7),(sA (J.next) W k7),(sA (I.next) k3 Z)] c2 λb7 T=>yS b7 λb6=>au ((b6:LB)==[56]) (lA 29 T (pA (G.next)) λb5=>FW SS 39 [(.agg ⟨b5⟩),(.int .i64 M),nA,nA] T λb3 X=>yS b3 λb2=>au ((b2:LB)==[48]) (lA 29 X (pA (G.next)) λb1=>FW SS 39 [(.agg ⟨b1⟩),(.int .i64 M),(sA (J.next) W k7),(sA (I.next) k3 Z)] X λa9 Y=>yS a9 λa8=>au ((a8:LB)==[54]) (lA 29 Y (pA (G.next)) λa7=>FW SS 39 [(.agg ⟨a7⟩),(.int .i64 M),(sA (h.next) A C),nA] Y λa5 S=>yS a5 λa4=>au ((a4:LB)==[105,110,102]) (lA 29 S (pA (N.next)) λa3=>FW SS 39 [(.agg ⟨a3⟩),(.int .i64 g1),(sA (h.next) A C),(sA (B.next) F D)] S λa1 R=>yS a1 λa0=>au ((a0:LB)==[105,110,102]) (lA 29 R (pA (N.next)) λz=>FW SS 39 [(.agg ⟨z⟩),(.int .i64 g1),(sA (J.next) W k7),(sA (I.next) k3 Z)] R λx y=>yS x λw=>au ((w:LB)==[54]) (lA 29 y (pA (V.next)) λv=>FW SS 39 [(.agg ⟨v⟩),(.int .i64 f4),(sA (h.next) A C),(sA (B.next) F D)] y λt u=>yS t λs=>au ((s:LB)==[55,47,50]) (lA 29 u (pA (O.next)) λr=>FW SS 39 [(.agg ⟨r⟩),(.int .i64 e5),(sA (B.next) F D),(sA (B.next) F D)] u λp q=>yS p λo=>au ((o:LB)==[48]) (lA 29 q (pA (O.next)) λn=>xR (aG SS.P 22 2 [(0,(.int .i64 1)),(1,(.int .i64 2))]) q λ_ k l m=>xR (aG SS.P 22 2 [(0,(.int .i64 1)),(1,(.int .i64 2))]) m λ_ h i j=>FW SS 39 [(.agg ⟨n⟩),(.int .i64 e5),(sA (q.next) k l),(sA (m.next) h i)] j λf g=>yS f λe=>au ((e:LB)==[105,110,102]) (lA 29 g (pA (d5.next)) λd=>FW SS 39 [(.agg ⟨d⟩),(.int .i64 d2),nA,nA] g λb c=>yS b λa=>Q (.bool ((a:LB)==[50])) c) (Q (.bool false) g)) (Q (.bool false) q)) (Q (.bool false) u)) (Q (.bool false) y)) (Q (.bool false) R)) (Q (.bool false) S)) (Q (.bool false) Y)) (Q (.bool false) X)) (Q (.bool false) T)) (Q (.bool false) c2)) (Q (.bool false) U)) (Q (.bool false) d0)))):FW SS 12 [] h Q:=cN X5 Tryz.func12 (ai hx)
variable{h:ae}{g:ae}{a:Option Addr}{n:Nat}{k:Nat}{d:List Value}{p:List Int}{t:List UInt8}
theorem U8{c:Nat}{d:List (dz×Value)}(w:Wf g)(b:d.map (·.1)=M.af)(f:kz h g (.slice a n c) d):
  ∃u:dU,ah SS.P 29 (.pointer (some ⟨g.next,0,none⟩)) (.agg ⟨bL M a n c⟩) (g.push m5)=some (undef,u)/\Ok g (u.app (g.push m5))/\MB (u.app (g.push m5)) g.next M a n c:=by
 obtain⟨o,e⟩:=pG (cs:=bL M a n c) w ((Ok.refl w).push m5) (aO g m5) (Nat.le_refl _);refine⟨_,k9 (t:=29) uG (cs0:=[.int .i64 0,.int .i64 0,strOf [],.slice none 0 0]) rfl (aO g m5) (cs:=bL M a n c) rfl (uZ ..),o,e,?_⟩;have:=f.st;rw[b]at this;exact dA.ok this o
theorem adh(z:Int):aG SS.P 22 1 [(0,.int .i64 z)]=some (.cells [.int .i64 z] 3 1 true,mW 1 1):=by kernel_rfl
theorem Ym(z y:Int):aG SS.P 22 2 [(0,.int .i64 z),(1,.int .i64 y)]=some (.cells [.int .i64 z,.int .i64 y] 3 1 true,mW 2 2):=by kernel_rfl
theorem aeI(z y x:Int):aG SS.P 22 3 [(0,.int .i64 z),(1,.int .i64 y),(2,.int .i64 x)]=some (.cells [.int .i64 z,.int .i64 y,.int .i64 x] 3 1 true,mW 3 3):=by kernel_rfl
theorem sO{cs:List Value}{l:List Int}(h:g.get k=some (.cells cs 3 1 true))(b:cs=wT l)(a:l.length=n):dP g (.slice (some ⟨k,0,none⟩) n n) l:=by
 subst a;subst b;exact .inr ⟨k,0,wT l,l.length,true,3,1,rfl,h,.inl ⟨rfl,rfl⟩,by rw[List.drop_zero,List.take_of_length_le (Nat.le_of_eq (jF l))]⟩
theorem wY(g:ae):dP g (.slice none 0 0) []:= .inl ⟨rfl,rfl⟩
theorem px{R:bu}{e:Int}{r:bu×Int}(l:FW SS n d g (B1 g r))(m:r=(R,e)){Z:ae->List Value->Int->Prop}
  (p:∀(b:ae)(a:Option Addr)(i c:Nat)(u:dU),Ok g b->ah SS.P 29 (.pointer (some ⟨b.next,0,none⟩)) (.agg ⟨bL R a i c⟩) (b.push m5)=some (undef,u)->Ok g (u.app (b.push m5))->MB (u.app (b.push m5)) b.next R a i c->Z b (bL R a i c) e):
  FW SS n d g λv h=>∃cs:LV,∃i:Int,v = .tuple ⟨[.agg ⟨cs⟩,.int .i64 i]⟩/\Z h cs i:=by
 refine l.mono ?_;rintro _ b ⟨a,i,c,t,rfl,f,s,j⟩;rw[m]at f⊢;obtain⟨u,o,q,k⟩:=U8 j.wf f s;exact⟨_,_,rfl,p b a i c u j o (j.trans q) k⟩
theorem od{c:Nat}{j:List Int}(w:Wf g)(x:MB g k M a n c)(s:Small M){d f:Option Addr}{q i e m:Nat}(r:dP g (.slice d q i) p)(u:dP g (.slice f e m) j)(z:A4 M p j=(t,0))
  {Z:List UInt8->ae->Prop} (y:∀b,Ok g b->Z t b):
  FW SS 39 [.agg ⟨bL M a n c⟩,.int .i64 0,.slice d q i,.slice f e m] g λv h=>yS v λl=>Z l h:=by
 refine(QB w s x.row r u).mono ?_;rintro _ b ⟨rfl,o⟩;rw[z];exact⟨_,rfl,y b o⟩
theorem Tb(w:Wf h)(r:oe h):FW SS 12 [] h (λv g=>v = .bool true/\Ok h g):=by
 have o1:=(Ok.refl w).push (.cells [.int .i64 1] 3 1 true);have e:=sO (l:=[1]) (n:=1) (aO h (.cells [.int .i64 1] 3 1 true)) rfl rfl;refine Ta h _ ⟨_,_,_,adh 1,_,_,_,adh 2,_,_,_,Ym 1 1,_,_,_,Ym 2 2,?_⟩;generalize h.push (.cells [.int .i64 1] 3 1 true)=g1 at*;have o2:=(Ok.refl o1.wf).push (.cells [.int .i64 2] 3 1 true);have f:=sO (l:=[2]) (n:=1) (aO g1 (.cells [.int .i64 2] 3 1 true)) rfl rfl;generalize g1.push (.cells [.int .i64 2] 3 1 true)=g2 at*;have X:=(Ok.refl o2.wf).push (.cells [.int .i64 1,.int .i64 1] 3 1 true);have t:=sO (l:=[1,1]) (n:=2) (aO g2 (.cells [.int .i64 1,.int .i64 1] 3 1 true)) rfl rfl;generalize g2.push (.cells [.int .i64 1,.int .i64 1] 3 1 true)=g3 at*;have M:=(Ok.refl X.wf).push (.cells [.int .i64 2,.int .i64 2] 3 1 true);have Q:=sO (l:=[2,2]) (n:=2) (aO g3 (.cells [.int .i64 2,.int .i64 2] 3 1 true)) rfl rfl;generalize g3.push (.cells [.int .i64 2,.int .i64 2] 3 1 true)=g4 at*;have q4:=((o1.trans o2).trans X).trans M;have e:=dP.ok e ((o2.trans X).trans M);have f:=dP.ok f (X.trans M);have t:=dP.ok t M;refine px (C8 M.wf (r.ok q4) e f (by decide)) acM λv5 a n c z8 ob st T b=>⟨_,re,z8,st,?_⟩
 generalize z8.app (v5.push m5)=v8 at*;have y3:=q4.trans T;have e:=dP.ok e T;have f:=dP.ok f T;refine px (C8 T.wf (r.ok y3) e f (by decide)) acN λj0 a' n' c' y8 j6 w3 V x=>⟨_,re,y8,w3,aa (λq=>by cases q) (λ_=>aa (λq=>by cases q) (λ_=>?_))⟩
 generalize y8.app (j0.push m5)=w5 at*;have z6:=y3.trans V;have b:=b.ok V;refine⟨_,b.all,_,x.all,px (PM V.wf (r.ok z6) JE aar b.row x.row) acV λu2 aU nU cU z4 q0 v3 L B=>⟨_,re,z4,v3,?_⟩⟩;generalize z4.app (u2.push m5)=w8 at*;have y9:=z6.trans L;have b:=b.ok L;have x:=x.ok L;refine⟨_,b.all,_,x.all,px (Mo L.wf (r.ok y9) JE aar b.row x.row (λ_=>aba)) acO λw2 aC nC cC y4 X1 v7 W Z=>⟨_,re,y4,v7,?_⟩⟩;generalize y4.app (w2.push m5)=w7 at*;have x9:=y9.trans W;have b:=b.ok W;refine⟨_,b.all,px (C7 W.wf (r.ok x9) JE b.row) acT λu8 aS nS cS y7 j9 j3 K s=>⟨_,re,y7,j3,?_⟩⟩;generalize y7.app (u8.push m5)=u5 at*;have z3:=x9.trans K;have b:=b.ok K;refine⟨_,b.all,px (Mq K.wf (r.ok z3) JE (by decide) (by decide) b.row) acS λu3 aR nR cR x5 X3 u7 o E=>⟨_,re,x5,u7,?_⟩⟩;generalize x5.app (u3.push m5)=w1 at*;have z0:=z3.trans o;have b:=b.ok o;refine⟨_,b.all,px (PE o.wf (r.ok z0) JE (by decide) b.row (λ_ _=>abb)) acU λj5 aT nT cT z1 X2 w4 p Y=>⟨_,re,z1,w4,?_⟩⟩;generalize z1.app (j5.push m5)=J at*;have v6:=z0.trans p;refine⟨_,_,_,aeI 2 1 2,?_⟩;have m:=(Ok.refl p.wf).push (.cells [.int .i64 2,.int .i64 1,.int .i64 2] 3 1 true);have v9:=sO (l:=[2,1,2]) (n:=3) (aO J (.cells [.int .i64 2,.int .i64 1,.int .i64 2] 3 1 true)) rfl rfl;generalize J.push (.cells [.int .i64 2,.int .i64 1,.int .i64 2] 3 1 true)=q3 at*;refine px (Yc m.wf v9 (by decide)) acR λu6 aL nL cL x8 q1 j4 k G=>⟨_,re,x8,j4,?_⟩
 generalize x8.app (u6.push m5)=R at*;have z2:=(v6.trans m).trans k;refine px (C8 k.wf (r.ok z2) (wY R) (wY R) (by decide)) acP λv0 aH nH cH x0 j7 j1 j mH=>⟨_,re,x0,j1,?_⟩
 generalize x0.app (v0.push m5)=j8 at*;have x6:=z2.trans j;refine⟨_,mH.all,px (C7 j.wf (r.ok x6) acX mH.row) acQ λz9 aK nK cK I X0 w0 i mK=>⟨_,re,I,w0,aa (λ_=>?_) (λq=>by cases q)⟩⟩;generalize I.app (z9.push m5)=d at*;have x7:Ok w8 d:=((((((W.trans K).trans o).trans p).trans m).trans k).trans j).trans i;have u4:Ok w7 d:=(((((K.trans o).trans p).trans m).trans k).trans j).trans i;have j2:Ok u5 d:=((((o.trans p).trans m).trans k).trans j).trans i;have v2:Ok w1 d:=(((p.trans m).trans k).trans j).trans i;have v1:Ok J d:=((m.trans k).trans j).trans i;have w9:Ok R d:=j.trans i;have u1:Ok w5 d:=L.trans x7;have P:Ok v8 d:=V.trans u1;have e4:Ok g4 d:=T.trans P;have u0:=x6.trans i;have B:=B.ok x7;have Z:=Z.ok u4;have s:=s.ok j2;have E:=E.ok v2;have Y:=Y.ok v1;have G:=G.ok w9;have e:=dP.ok e P;have f:=dP.ok f P;have t:=dP.ok t e4;have Q:=dP.ok Q e4;refine⟨_,B.all,od i.wf B aau e f ac0 λh1 p1=>aa (λ_=>?_) (λq=>by cases q)⟩;have y:=p1;refine⟨_,(B.ok y).all,od y.wf (B.ok y) aau (dP.ok e y) (dP.ok e y) ac1 λh2 p2=>aa (λ_=>?_) (λq=>by cases q)⟩;have A:=y.trans p2;refine⟨_,(Z.ok A).all,od A.wf (Z.ok A) acW (dP.ok t A) (dP.ok Q A) ac2 λh3 p3=>aa (λ_=>?_) (λq=>by cases q)⟩;have U:=A.trans p3;refine⟨_,(s.ok U).all,od U.wf (s.ok U) S9 (wY h3) (wY h3) ac3 λh4 p4=>aa (λ_=>?_) (λq=>by cases q)⟩;have H:=U.trans p4;refine⟨_,(s.ok H).all,od H.wf (s.ok H) S9 (dP.ok t H) (dP.ok Q H) ac4 λh5 p5=>aa (λ_=>?_) (λq=>by cases q)⟩;have O:=H.trans p5;refine⟨_,(s.ok O).all,od O.wf (s.ok O) S9 (dP.ok e O) (wY h5) ac5 λh6 p6=>aa (λ_=>?_) (λq=>by cases q)⟩;have C:=O.trans p6;refine⟨_,(E.ok C).all,od C.wf (E.ok C) aat (dP.ok e C) (dP.ok f C) ac6 λh7 p7=>aa (λ_=>?_) (λq=>by cases q)⟩;have F:=C.trans p7;refine⟨_,(E.ok F).all,od F.wf (E.ok F) aat (dP.ok t F) (dP.ok Q F) ac7 λh8 p8=>aa (λ_=>?_) (λq=>by cases q)⟩;have D:=F.trans p8;refine⟨_,(Y.ok D).all,od D.wf (Y.ok D) acZ (dP.ok e D) (dP.ok f D) ac8 λh9 p9=>aa (λ_=>?_) (λq=>by cases q)⟩;have z:=D.trans p9;refine⟨_,(G.ok z).all,od z.wf (G.ok z) aas (dP.ok f z) (dP.ok f z) abc λz7 v4=>aa (λ_=>?_) (λq=>by cases q)⟩;have N:=z.trans v4;refine⟨_,(G.ok N).all,_,_,_,Ym 1 2,_,_,_,Ym 1 2,?_⟩;have y6:=(Ok.refl N.wf).push (.cells [.int .i64 1,.int .i64 2] 3 1 true);have y1:=sO (l:=[1,2]) (n:=2) (aO z7 (.cells [.int .i64 1,.int .i64 2] 3 1 true)) rfl rfl;generalize z7.push (.cells [.int .i64 1,.int .i64 2] 3 1 true)=y0 at*;have y5:=(Ok.refl y6.wf).push (.cells [.int .i64 1,.int .i64 2] 3 1 true);have y2:=sO (l:=[1,2]) (n:=2) (aO y0 (.cells [.int .i64 1,.int .i64 2] 3 1 true)) rfl rfl;generalize y0.push (.cells [.int .i64 1,.int .i64 2] 3 1 true)=q2 at*;have S:=(N.trans y6).trans y5;refine od S.wf (G.ok S) aas (dP.ok y1 y5) y2 abd λz5 w6=>aa (λ_=>?_) (λq=>by cases q);have u:=S.trans w6;refine⟨_,(mK.ok u).all,od u.wf (mK.ok u) acY (wY z5) (wY z5) abe λX4 u9=>⟨rfl,u0.trans (u.trans u9)⟩⟩
section
def EQ(h:ae):VH:=λv g=>v = .bool true/\Ok h g
section
variable {h g:ae}
theorem JD(d:oe h)(a:Ok h g):FW SS 12 [] g λv c=>yB v λb=>EQ h (.bool b) c:=by
 refine(Tb a.wf (d.ok a)).mono ?_;rintro _ e ⟨rfl,o⟩;exact⟨_,rfl,rfl,a.trans o⟩
theorem Uh{K:Type}{S:aN K}{b:List UInt8->K}(d:pV S b M.kind)(c:cx M=true){xs ys:List Int}(g:eQ xs=true)(i:eQ ys=true){a:List UInt8}(f:aM M.kind a=true)(k:xp S b M xs ys=b a):Dy M M.kind xs ys a=true:=by
 unfold Dy;rw[c];rcases Xz d c g i with⟨w,e,h,j⟩|e
 ·rw[e];have:=d.inj h f (j.trans k);subst this;simp
 ·rw[e];simp
variable {kind:Int} {xa ya ua va:Option Addr} {xc yc uc vc:Nat} {xs ys us vs:List Int} {wt:List UInt8}
end
end
theorem Lg(h:IG M=true):Small M/\M.af.length<=8/\cg M.af<=40/\M.lead.length<=40:=by
 unfold IG at h;simp only[and_eq_true,decide_eq_true_eq,all_eq_true]at h;obtain⟨d,f,c,g⟩:=h;have b:∀s∈M.af,s.f.length<=40/\∀q∈s.arcs,q.w.length<=40:=λs a=>by
  have:=g s a;unfold KB at this;simp only[and_eq_true,decide_eq_true_eq,all_eq_true]at this;exact this
 refine⟨⟨by omega,by omega,λs a=>by have:=(b s a).1;omega,λs a=>?_,λs a q e=>by have:=(b s a).2 q e;omega,by omega⟩,d,f,c⟩;have:=DO a;omega
theorem ade(D:TD):bg SS.P 48 [(0,.int .i64 D.M.kind),(1,.slice D.xa D.xs.length D.xc),(2,.slice D.ya D.ys.length D.yc),(3,.agg ⟨bL D.M D.s D.M.af.length D.sc⟩),(4,.bool true)]=some (.agg ⟨D.cs true⟩):=by kernel_rfl
theorem adg(D:TD):eT SS.P 48 (.agg ⟨D.cs true⟩)=some (.cells (D.cs true) 48 0 true,lr):=by
 cases D.s<;>cases D.xa<;>cases D.ya<;>kernel_rfl
noncomputable def Tn:FD:=cI Tryz.f7 []
theorem PF(L:LV)(C:OA)(H F:Nat)(E:OA)(D G:Nat)(h:ae)(Q:VH)(Y:xN (eT SS.P 29 (.agg ⟨L⟩)) h λ_ N=>lA 29 N (pA (h.next)) λc3=>FW SS 24 [(.agg ⟨c3⟩)] N λS P=>yB S λJ=>au J (FW SS 12 [] P λb c=>yB b λa=>Q (.bool a) c) (FW SS 11 [(.slice C H F),(.slice E D G)] P λb7 K=>yB b7 λJ=>au (!J) (FW SS 12 [] K λb c=>yB b λa=>Q (.bool a) c) (lA 29 K (pA (h.next)) λb5=>FW SS 33 [(.agg ⟨b5⟩)] K λT B=>∃R:LV,∃I:Int,T=(.tuple ⟨[(.agg ⟨R⟩),(.int .i64 I)]⟩)/\xN (br SS.P 29) B λ_ O=>xU (ah SS.P 29 (pA (B.next)) (.agg ⟨R⟩) O) O λ_ M=>lA 29 M (pA (h.next)) λU=>FW SS 26 [(.agg ⟨U⟩)] M λX A=>yB X λa5=>au (!a5) (au (((I:Int)==1)) (FW SS 12 [] A λb c=>yB b λa=>Q (.bool a) c) (Q (.bool false) A)) (au (((I:Int) !=0)) (lA 29 A (pA (h.next)) λj=>xR (aG SS.P 86 1 [(0,(.agg ⟨j⟩))]) A λ_ g h i=>FW SS 28 [(.int .i64 I),(sA (A.next) g h)] i λe f=>yB e λd=>au d (FW SS 12 [] f λb c=>yB b λa=>Q (.bool a) c) (Q (.bool false) f)) (fP 29 (pA (h.next)) 0 λa4=>lI A a4 λZ=>lA 29 A (pA (h.next)) λV=>xA (bg SS.P 48 [(0,(.int .i64 Z)),(1,(.slice C H F)),(2,(.slice E D G)),(3,(.agg ⟨V⟩)),(4,(.bool true))]) λa1=>xN (eT SS.P 48 (.agg ⟨a1⟩)) A λ_ W=>FW SS 34 [(pA (A.next)),(.int .i64 0),(.int .i64 0)] W λy z=>yS y λx=>lA 29 z (pA (h.next)) λw=>FW SS 20 [(.agg ⟨w⟩)] z λu v=>yB u λt=>au t (lA 29 v (pA (B.next)) λs=>FW SS 20 [(.agg ⟨s⟩)] v λq r=>yB q λp=>au (!p) (Q (.bool false) r) (lA 29 r (pA (B.next)) λo=>FW SS 26 [(.agg ⟨o⟩)] r λm n=>yB m λl=>au (!l) (Q (.bool false) n) (fP 48 (pA (A.next)) 4 λk=>lB n k λj=>au (!j) (FW SS 12 [] n λb c=>yB b λa=>Q (.bool a) c) (lA 29 n (pA (B.next)) λi=>fP 29 (pA (h.next)) 0 λh=>lI n h λg=>FW SS 19 [(.agg ⟨i⟩),(.int .i64 g),(.slice C H F),(.slice E D G),(strOf x)] n λe f=>yB e λd=>au d (FW SS 12 [] f λb c=>yB b λa=>Q (.bool a) c) (Q (.bool false) f))))) (lA 29 v (pA (B.next)) λo=>FW SS 26 [(.agg ⟨o⟩)] v λm n=>yB m λl=>au (!l) (Q (.bool false) n) (fP 48 (pA (A.next)) 4 λk=>lB n k λj=>au (!j) (FW SS 12 [] n λb c=>yB b λa=>Q (.bool a) c) (lA 29 n (pA (B.next)) λi=>fP 29 (pA (h.next)) 0 λh=>lI n h λg=>FW SS 19 [(.agg ⟨i⟩),(.int .i64 g),(.slice C H F),(.slice E D G),(strOf x)] n λe f=>yB e λd=>au d (FW SS 12 [] f λb c=>yB b λa=>Q (.bool a) c) (Q (.bool false) f))))))))):FW SS 7 [(.agg ⟨L⟩),(.slice C H F),(.slice E D G)] h Q:=cN Tn Tryz.func7 (ai Y)
variable{b:Bool}
section
section
variable {h g:ae} {A M:bu} {kA km kt:Nat} {a m:Option Addr} {nA nM cA cM:Nat} {xa ya:Option Addr} {xc yc:Nat} {xs ys:List Int}
abbrev onT(h:ae)(kA km kt:Nat)(w v:Value)(c:List UInt8)(g:ae):Prop:=
 xA (aj SS.P 29 g (pA km)) λu=>FW SS 26 [(.agg ⟨u⟩)] g λr a=>yB r λe=>au (!e) (EQ h (.bool false) a) (xP (aI SS.P 48 (pA kt) 4) λo=>xB (aj SS.P 4 a (.pointer (some o))) λq=>au (!q) (FW SS 12 [] a λk n=>yB k λt=>EQ h (.bool t) n) (xA (aj SS.P 29 a (pA km)) λj=>xP (aI SS.P 29 (pA kA) 0) λp=>xI .i64 (aj SS.P 3 a (.pointer (some p))) λf=>FW SS 19 [(.agg ⟨j⟩),(.int .i64 f),w,v,(strOf c)] a λi b=>yB i λd=>au d (FW SS 12 [] b λm l=>yB m λs=>EQ h (.bool s) l) (EQ h (.bool false) b)))
theorem UY{D:TD}{w:ae}(l:oe h)(n:Ok h g)(t:zA D w g kt b)(k:Small M)(r:cx M=true)(i:MB g km M m nM cM)(v:MB g kA A a nA cA)(o:dP g (.slice xa xs.length xc) xs)(p:dP g (.slice ya ys.length yc) ys){c:List UInt8}(s:b=true->Dy M A.kind xs ys c=true):
  onT h kA km kt (.slice xa xs.length xc) (.slice ya ys.length yc) c g:=by
 refine⟨_,i.all,(rq n.wf k i.row).mono ?_⟩;rintro _ x ⟨rfl,d⟩;have f:=n.trans d;have e:=i.ok d;refine⟨_,rfl,aa (λq=>by rw[r]at q;cases q) (λ_=>⟨_,IL kt,_,(t.qL d).l4,aa (λ_=>JD l f) (λq=>⟨_,e.all,_,dV _,_,(v.ok d).l0,(Qz d.wf k e.row (dP.ok o d) (dP.ok p d) A.kind c).mono ?_⟩)⟩)⟩;rintro _ y ⟨rfl,u⟩;exact⟨_,rfl,aa (λ_=>JD l (f.trans u)) (λj=>by rw[s (by simpa using q)]at j;cases j)⟩
theorem XU{T:ae->Prop}(v:Wf g)(u:Small A)(t:Small M)(r:MB g kA A a nA cA)(o:MB g km M m nM cM)(e:Hx A=true->Hx M=true)(s:∀i,Ok g i->T i):
  xA (aj SS.P 29 g (pA kA)) λp=>FW SS 20 [(.agg ⟨p⟩)] g λf c=>yB f λk=>au k (xA (aj SS.P 29 c (pA km)) λj=>FW SS 20 [(.agg ⟨j⟩)] c λn d=>yB n λl=>au (!l) (EQ h (.bool false) d) (T d)) (T c):=by
 refine⟨_,r.all,(OW v u r.row).mono ?_⟩;rintro _ z ⟨rfl,b⟩;refine⟨_,rfl,aa (λw=>⟨_,(o.ok b).all,(OW b.wf t (o.ok b).row).mono ?_⟩) (λ_=>s _ b)⟩;rintro _ y ⟨rfl,x⟩;exact⟨_,rfl,aa (λq=>by rw[e w]at q;cases q) (λ_=>s _ (b.trans x))⟩
theorem SY(c:cx (eP A)=true)(b:Hx A=true):Hx (eP A)=true:=by
 unfold Hx S4 at*;rw[and_eq_true,all_eq_true]at b;rw[c,Bool.true_and,all_eq_true];intro s a;rcases mem_cons.1 a with rfl|a
 ·rfl
 ·obtain⟨t,d,rfl⟩:=List.mem_map.1 a;exact Yx (b.2 t d)
theorem XW(d:oe h)(e:Ok h g):au (((1:Int)==1)) (FW SS 12 [] g λa c=>yB a λb=>EQ h (.bool b) c) (EQ h (.bool false) g):=aa (λ_=>JD d e) (λq=>by cases q)
theorem PG(w:Wf h)(p:oe h)(bA:Bnd A)(rA:dA h (.slice a nA cA) A.af)(n:dP h (.slice xa xs.length xc) xs)(o:dP h (.slice ya ys.length yc) ys)(hx:xs.length<=281474976710656)(hy:ys.length<=281474976710656)(E:xs.length<=bG xc)(F:ys.length<=bG yc):
  FW SS 7 [.agg ⟨bL A a nA cA⟩,.slice xa xs.length xc,.slice ya ys.length yc] h (EQ h):=by
 obtain⟨b,H⟩:=fy w rA;refine PF (bL A a nA cA) xa _ xc ya _ yc h _ ⟨_,iW A a nA cA,?_⟩;generalize h.push (Bm A a nA cA)=g2 at*;generalize h.next=kA at*;refine⟨_,b.all,(Uu H.wf bA b.row).mono ?_⟩;rintro _ g5 ⟨rfl,N⟩;have d:=H.trans N;refine⟨_,rfl,aa (λ_=>JD p d) (λq=>(QD (dP.ok n d) (dP.ok o d) hx hy).mono ?_)⟩;rw[Bool.not_eq_false']at q;obtain⟨x,x4,x0,Y⟩:=Lg q;rintro _ g7 ⟨rfl,e0⟩;obtain rfl:g5=g7:=e0.symm;have b:=b.ok N;refine⟨_,rfl,aa (λ_=>JD p d) (λv=>⟨_,b.all,px (C7 d.wf (p.ok d) x b.row) (e:=(wz A).2) (R:=(wz A).1) rfl λz m' nM cM u ob st G k=>⟨_,re,u,st,?_⟩⟩)⟩;rw[Bool.not_eq_false']at v;unfold NZ at v;rw[and_eq_true,and_eq_true]at v;obtain⟨_,J,O⟩:=v;generalize u.app (z.push m5)=g8 at*;generalize z.next=km at*;have y:=d.trans G;have b:=b.ok G;refine⟨_,b.all,(rq y.wf x b.row).mono ?_⟩;rintro _ f ⟨rfl,m⟩;have g:=y.trans m;have b:=b.ok m;refine⟨_,rfl,aa (λq=>?_) (λr=>?_)⟩
 ·rw[Bool.not_eq_true']at q;have:wz A=(uL,1):=if_neg (by rw[q];exact Bool.false_ne_true);rw[this];exact XW p g
 rw[Bool.not_eq_false']at r;have hu:wz A=(eP A,0):=if_pos r;rw[hu]at k⊢;dsimp only at k⊢;have k:=k.ok m;refine aa (λq=>by cases q) (λ_=>?_);have L:=b.len;subst L;have n:=dP.ok n g;have o:=dP.ok o g
 let D:TD:=⟨A,a,cA,xa,xc,xs,ya,yc,ys⟩
 have X:TGd D f:=⟨m.wf,b.row,n,E,o,F,x,r,J,O⟩
 refine⟨_,dV _,_,b.l0,_,b.all,_,ade D,_,adg D,?_⟩;have Z:=(Ok.refl m.wf).push (.cells (D.cs true) 48 0 true);have t:zA D f (f.push (.cells (D.cs true) 48 0 true)) f.next true:=⟨aO f _,Z,Nat.le_refl _⟩
 generalize f.push (.cells (D.cs true) 48 0 true)=x3 at*;generalize f.next=kt at*;have Q:=su r;obtain⟨K,S,B,P⟩:=xH Q.kind;have vA:=Xf r (by omega);obtain⟨s,nU,sU⟩:=ab7 vA (by omega) (by omega);have I:Small (eP A):=s.small (by omega) (by omega);refine(WK (S:=S) (dec:=B) (D:=D) P X _ (i:=0) (j:=0) rfl (Nat.zero_le _) (Nat.zero_le _) t).mono ?_;rintro _ x2 ⟨C,b1,rfl,V,k1,v1,d1⟩;have c:=V.ok;have U:=g.trans c;refine⟨C,rfl,XU (T:=onT h kA km kt (.slice xa xs.length xc) (.slice ya ys.length yc) C) c.wf x I (b.ok c) (k.ok c) (SY s.valid) λg' l=>UY p (U.trans l) (V.qL l) I s.valid ((k.ok c).ok l) ((b.ok c).ok l) (dP.ok n (c.trans l)) (dP.ok o (c.trans l)) λW=>?_⟩;obtain⟨_,x1⟩:=d1 W;exact Uh (M:=eP A) P s.valid J O v1 x1.symm
end
end
end Go.Proofs.YtaaichlgdgjgjaaGreatDoor
end
section
namespace Go.Proofs.YtaaichlgdgjgjaaGreatDoor
open Go.Shelf Go.RowKit Go.Lib Go.Sort
def Lh:Go.Shelf.Ren:=⟨fun|5=>81|8=>101|7=>100|19=>134|20=>135|10=>125|11=>126|12=>127|13=>128|14=>129|15=>130|16=>131|17=>132|18=>133|30=>160|31=>161|32=>162|33=>163|34=>164|35=>165|40=>182|n=>n,fun|23=>22|25=>3|3=>3|32=>111|22=>22|0=>0|44=>148|46=>150|4=>4|36=>140|35=>139|41=>145|5=>5|9=>9|53=>166|57=>170|63=>185|64=>186|n=>n,fun|n=>n⟩
theorem ZP:Go.Proofs.SlLaysM.n5 Tryz.prog Lh:={
 mixed:=by kernel_rfl,
 f5:=⟨Tryz.f81.name,by decide,Tryz.func81.trans (congrArg some (by kernel_rfl))⟩,
 f7:=⟨Tryz.f100.name,by decide,Tryz.func100.trans (congrArg some (by kernel_rfl))⟩,
 f8:=Tryz.func101.trans (congrArg some (by kernel_rfl)),
 f10:=⟨Tryz.f125.name,by decide,Tryz.func125.trans (congrArg some (by kernel_rfl))⟩,
 f11:=⟨Tryz.f126.name,by decide,Tryz.func126.trans (congrArg some (by kernel_rfl))⟩,
 f12:=⟨Tryz.f127.name,by decide,Tryz.func127.trans (congrArg some (by kernel_rfl))⟩,
 f13:=⟨Tryz.f128.name,by decide,Tryz.func128.trans (congrArg some (by kernel_rfl))⟩,
 f14:=⟨Tryz.f129.name,by decide,Tryz.func129.trans (congrArg some (by kernel_rfl))⟩,
 f15:=⟨Tryz.f130.name,by decide,Tryz.func130.trans (congrArg some (by kernel_rfl))⟩,
 f16:=⟨Tryz.f131.name,by decide,Tryz.func131.trans (congrArg some (by kernel_rfl))⟩,
 f17:=⟨Tryz.f132.name,by decide,Tryz.func132.trans (congrArg some (by kernel_rfl))⟩,
 f18:=⟨Tryz.f133.name,by decide,Tryz.func133.trans (congrArg some (by kernel_rfl))⟩,
 f19:=Tryz.func134.trans (congrArg some (by kernel_rfl)),
 f20:=Tryz.func135.trans (congrArg some (by kernel_rfl)),
 f30:=⟨Tryz.f160.name,by decide,Tryz.func160.trans (congrArg some (by kernel_rfl))⟩,
 f31:=Tryz.func161.trans (congrArg some (by kernel_rfl)),
 f32:=Tryz.func162.trans (congrArg some (by kernel_rfl)),
 f33:=⟨Tryz.f163.name,by decide,Tryz.func163.trans (congrArg some (by kernel_rfl))⟩,
 f34:=⟨Tryz.f164.name,by decide,Tryz.func164.trans (congrArg some (by kernel_rfl))⟩,
 f35:=⟨Tryz.f165.name,by decide,Tryz.func165.trans (congrArg some (by kernel_rfl))⟩,
 f40:=⟨Tryz.f182.name,by decide,Tryz.func182.trans (congrArg some (by kernel_rfl))⟩,
 t0:=Tryz.underlying0,
 a0:=Tryz.isAgg0,
 z0:=Tryz.sizeOf0,
 v0:=Tryz.zeroValue0,
 t3:=Tryz.underlying3,
 a3:=Tryz.isAgg3,
 z3:=Tryz.sizeOf3,
 v3:=Tryz.zeroValue3,
 t4:=Tryz.underlying4,
 a4:=Tryz.isAgg4,
 z4:=Tryz.sizeOf4,
 v4:=Tryz.zeroValue4,
 t5:=Tryz.underlying5,
 a5:=Tryz.isAgg5,
 z5:=Tryz.sizeOf5,
 v5:=Tryz.zeroValue5,
 t9:=Tryz.underlying9,
 a9:=Tryz.isAgg9,
 z9:=Tryz.sizeOf9,
 v9:=Tryz.zeroValue9,
 t22:=Tryz.underlying22,
 a22:=Tryz.isAgg22,
 z22:=Tryz.sizeOf22,
 v22:=Tryz.zeroValue22,
 t23:=Tryz.underlying22,
 a23:=Tryz.isAgg22,
 z23:=Tryz.sizeOf22,
 v23:=Tryz.zeroValue22,
 t25:=Tryz.underlying3,
 a25:=Tryz.isAgg3,
 z25:=Tryz.sizeOf3,
 v25:=Tryz.zeroValue3,
 t32:=Tryz.underlying111,
 a32:=Tryz.isAgg111,
 z32:=Tryz.sizeOf111,
 v32:=Tryz.zeroValue111,
 t35:=Tryz.underlying139,
 a35:=Tryz.isAgg139,
 z35:=Tryz.sizeOf139,
 v35:=Tryz.zeroValue139,
 t36:=Tryz.underlying140,
 a36:=Tryz.isAgg140,
 z36:=Tryz.sizeOf140,
 v36:=Tryz.zeroValue140,
 t41:=Tryz.underlying145,
 a41:=Tryz.isAgg145,
 z41:=Tryz.sizeOf145,
 v41:=Tryz.zeroValue145,
 t44:=Tryz.underlying148,
 a44:=Tryz.isAgg148,
 z44:=Tryz.sizeOf148,
 v44:=Tryz.zeroValue148,
 t46:=Tryz.underlying150,
 a46:=Tryz.isAgg150,
 z46:=Tryz.sizeOf150,
 v46:=Tryz.zeroValue150,
 t53:=Tryz.underlying166,
 a53:=Tryz.isAgg166,
 z53:=Tryz.sizeOf166,
 v53:=Tryz.zeroValue166,
 t57:=Tryz.underlying170,
 a57:=Tryz.isAgg170,
 z57:=Tryz.sizeOf170,
 v57:=Tryz.zeroValue170,
 t63:=Tryz.underlying185,
 a63:=Tryz.isAgg185,
 z63:=Tryz.sizeOf185,
 v63:=Tryz.zeroValue185,
 t64:=Tryz.underlying186,
 a64:=Tryz.isAgg186,
 z64:=Tryz.sizeOf186,
 v64:=Tryz.zeroValue186 }
end Go.Proofs.YtaaichlgdgjgjaaGreatDoor
end
section
namespace Go.Proofs.YtaaichlgdgjgjaaGreatDoor
open Go Go.Ab Go.RowKit
theorem DS:pg Tryz.prog XF 222 rC:=Kx (fn:=(Tryz.prog.funcs[222]?).getD default) (by kernel_rfl) (by kernel_rfl) (by kernel_rfl) (by kernel_rfl) (by kernel_rfl)
theorem BT:pg Tryz.prog XF 226 pN:=HQ (fn:=(Tryz.prog.funcs[226]?).getD default) (by kernel_rfl) (by kernel_rfl) (by kernel_rfl) (by kernel_rfl) (by kernel_rfl)
theorem FJ:pg Tryz.prog XF 166 (xl Tryz.prog XF Tryz.f166 (NG Ga) (IE (IE Ga)) 5):=
 TP Pa.names Tryz.func166 rfl rfl rfl rfl rfl rfl rfl Tryz.func183 rfl HP (by kernel_rfl) (by kernel_rfl)
theorem NL:pg Tryz.prog XF 81 Ee:=Wm ZP (f5:=Tryz.f81) Tryz.func81 (by kernel_rfl)
theorem U7:rT Tryz.prog XF prS:=oD NL (oD DS (oD BT (oD FJ KH)))
end Go.Proofs.YtaaichlgdgjgjaaGreatDoor
end
section
namespace Go.Proofs.YtaaichlgdgjgjaaGreatDoor
open Go Go.Ab Go.ChangeShapes Go.RowKit
variable{n:Nat}{J:dK}{s:List UInt8}{v:Value}{w:Value}{h:ae}
section
theorem co3:Tryz.prog.cellsOf 3=1:=by kernel_rfl
theorem co9:Tryz.prog.cellsOf 9=1:=by kernel_rfl
theorem aeQ:Tryz.prog.cellsOf 27=1:=by kernel_rfl
theorem aeR:Tryz.prog.cellsOf 29=4:=by kernel_rfl
theorem aeS:Tryz.prog.cellsOf 71=1:=by kernel_rfl
theorem adq:Tryz.prog.cellsOf 73=2:=by kernel_rfl
theorem adp:Tryz.prog.cellsOf 70=4:=by kernel_rfl
theorem ado:Tryz.prog.cellsOf 150=1:=by kernel_rfl
theorem aeE:Tryz.prog.bytesOf 70=40:=by kernel_rfl
theorem HY{a c:Type}{p:a->c}{P:a->Prop}:∀{l:List c},(∀x∈l,∃q,x=p q/\P q)->∃k:List a,l=k.map p/\∀q∈k,P q
 |[],_=>⟨[],rfl,λ_ h=>by cases h⟩
 | x::l,h=>by
  obtain⟨q,rfl,e⟩:=h x (List.mem_cons_self ..);obtain⟨k,rfl,f⟩:=HY λx d=>h x (List.mem_cons_of_mem _ d);exact⟨q::k,rfl,λy b=>by
   rcases mem_cons.1 b with rfl|b
   ·exact e
   ·exact f y b⟩
def SW(W:World)(q:dz×Value):Prop:=Bg W q.2 4 (q.1.arcs.map fN)/\q.1.arcs.length<=281474976710656
section
variable {H:Type} {enc:TypeId×Value->H} {W:World} {held:Bool}
theorem S5{cs:List Value}{y:DataW H×List MemPlace}(h:DataW.trod enc Tryz.prog W 0 (λ_=>true) held n 70 cs=some y):∃q:gW,cs=fN q/\True:=by
 obtain⟨r,m,_,_,l,a,b⟩:=DataW.trod_struct Tryz.underlying70 h;rw[adp]at l;have a:r.length=4:=a
 match r,a,cs,l with
 |[k,v,g,p],_,[f,c,e,d],_=>
  obtain⟨i,z,_,_⟩:=DataW.trod_int (x:=k) Tryz.underlying3 (show DataW.trod enc Tryz.prog W 0 (λ_=>true) held m 3 (([f,c,e,d].drop 0).take (Tryz.prog.cellsOf 3))=some k from b 0 _ rfl);obtain⟨o,j,_,_⟩:=DataW.trod_int (x:=v) Tryz.underlying3 (show DataW.trod enc Tryz.prog W 0 (λ_=>true) held m 3 (([f,c,e,d].drop 1).take (Tryz.prog.cellsOf 3))=some v from b 1 _ rfl);obtain⟨s,w,_,_⟩:=DataW.trod_string (x:=g) Tryz.underlying9 (show DataW.trod enc Tryz.prog W 0 (λ_=>true) held m 9 (([f,c,e,d].drop 2).take (Tryz.prog.cellsOf 9))=some g from b 2 _ rfl);obtain⟨t,u,_,_⟩:=DataW.trod_int (x:=p) Tryz.underlying3 (show DataW.trod enc Tryz.prog W 0 (λ_=>true) held m 3 (([f,c,e,d].drop 3).take (Tryz.prog.cellsOf 3))=some p from b 3 _ rfl);simp only[co3,co9,List.drop,List.take,List.cons.injEq,and_true]at z j w u;subst z;subst j;subst w;subst u;exact⟨⟨i,o,s.data.toList,t⟩,rfl,trivial⟩
theorem NN{cs:List Value}{y:DataW H×List MemPlace}(h:DataW.trod enc Tryz.prog W 0 (λ_=>true) held n 73 cs=some y)(d:(y.1.weights Tryz.prog 73).all (· <=reachBytes)=true):∃q:dz×Value,cs=vt q/\SW W q:=by
 obtain⟨k,o,m,rfl,c,i,f⟩:=trod_struct2 Tryz.underlying73 h;rw[adq]at c
 match cs,c with
 |[u,g],_=>
  obtain⟨s,e,_,_⟩:=DataW.trod_string Tryz.underlying9 i;simp only[DataW.weights,Tryz.underlying73,DataW.weightsEach,List.map,List.append_nil,List.all_append,and_eq_true]at d;obtain⟨v,t,b,r,j,a⟩:=Ax (P:=Tryz.prog) (p:=λcs=>∃q:gW,cs=fN q/\True) Tryz.underlying71 adp (by decide) (λn cs y h _=>S5 h) f d.2;simp only[co9,aeS,List.drop,List.take,List.cons.injEq,and_true]at e b;subst e;subst b;obtain⟨l,rfl,_⟩:=HY j;refine⟨(⟨s.data.toList,l⟩,g),rfl,r,?_⟩;rw[aeE,lM]at a;unfold reachBytes at a;show l.length<=_;omega
theorem HX{cs:List Value}{y:DataW H×List MemPlace}(h:DataW.trod enc Tryz.prog W 0 (λ_=>true) held n 29 cs=some y)(e:(y.1.weights Tryz.prog 29).all (· <=reachBytes)=true):
  ∃(k s:Int)(o:List UInt8)(v:Value)(j:List (dz×Value)),cs=[.int .i64 k,.int .i64 s,strOf o,v]/\Bg W v 2 (j.map vt)/\∀q∈j,SW W q:=by
 obtain⟨A,m,_,rfl,d,a,c⟩:=DataW.trod_struct Tryz.underlying29 h;rw[aeR]at d;have a:A.length=4:=a
 match A,a,cs,d with
 |[w,C,t,z],_,[i,f,g,b],_=>
  obtain⟨k,E,_,_⟩:=DataW.trod_int (x:=w) Tryz.underlying3 (show DataW.trod enc Tryz.prog W 0 (λ_=>true) held m 3 (([i,f,g,b].drop 0).take (Tryz.prog.cellsOf 3))=some w from c 0 _ rfl);obtain⟨s,u,_,_⟩:=DataW.trod_int (x:=C) Tryz.underlying3 (show DataW.trod enc Tryz.prog W 0 (λ_=>true) held m 3 (([i,f,g,b].drop 1).take (Tryz.prog.cellsOf 3))=some C from c 1 _ rfl);obtain⟨o,D,_,_⟩:=DataW.trod_string (x:=t) Tryz.underlying9 (show DataW.trod enc Tryz.prog W 0 (λ_=>true) held m 9 (([i,f,g,b].drop 2).take (Tryz.prog.cellsOf 9))=some t from c 2 _ rfl);simp only[DataW.weights,Tryz.underlying29,DataW.weightsEach,List.map,List.append_nil,List.all_append,and_eq_true]at e;obtain⟨v,G,B,r,F,_⟩:=Ax (P:=Tryz.prog) (x:=z) (p:=λcs=>∃q:dz×Value,cs=vt q/\SW W q) Tryz.underlying27 adq (by decide) (λn cs y h e=>NN h e) (show DataW.trod enc Tryz.prog W 0 (λ_=>true) held m 27 (([i,f,g,b].drop 3).take (Tryz.prog.cellsOf 27))=some z from c 3 _ rfl) e.2.2.2;simp only[co3,co9,aeQ,List.drop,List.take,List.cons.injEq,and_true]at E u D B;subst E;subst u;subst D;subst B;obtain⟨l,rfl,d⟩:=HY F;exact⟨k,s,o.data.toList,b,l,rfl,r,d⟩
end
section
variable {W:World}
theorem PA(q:gW):(fN q).all Go.Ab.bare=true:=rfl
theorem ZS(h:aE J v w):bp J [strOf s,v] [strOf s,w]:= .cons (.string _) (.cons h (.nil J))
theorem Gs:∀(a:List (dz×Value)),(∀q∈a,SW W q)->∀{c:dK}{h:ae},vF c h W->
  ∃(d:dK)(m:ae)(b:List (dz×Value)),vF d m W/\c.le d/\Ok h m/\b.length=a.length/\b.map (·.1)=a.map (·.1)/\(∀p∈b,mC m p.2 p.1.arcs)/\
   ∀(k:Nat) r s,(b.map vt)[k]?=some r->(a.map vt)[k]?=some s->bp d r s
 |[],_,c,h,i=>⟨c,h,[],i,c.le_refl,Ok.refl i.wf,rfl,rfl,λ_ f=>absurd f (by simp),λk v q h=>absurd h (by simp)⟩
 | q::a,u,c,h,i=>by
  obtain⟨r,_⟩:=u q (List.mem_cons_self ..);obtain⟨K,g,v,A,G,z,C,I⟩:=i.row (e:=70) r (rs:=q.1.arcs.map fN) rfl (λk r s g j=>by
    rw[g]at j;obtain rfl:=oI j;rw[getElem?_map]at g;obtain⟨x,_,rfl⟩:=Option.map_eq_some_iff.1 g;exact bp.yE (PA x))
  obtain⟨t,j,b,B,y,w,D,f,F,H⟩:=Gs a (λq f=>u q (List.mem_cons_of_mem _ f)) A;refine⟨t,j,(q.1,v)::b,B,dK.le_trans G y,z.trans w,by simp[D],by simp[f],λp o=>?_,λk J E n l=>?_⟩
  ·rcases mem_cons.1 o with rfl|o
   ·exact mC.ok I w
   ·exact F p o
  ·cases k with
   |zero=>
    simp only[List.map_cons,List.getElem?_cons_zero,Option.some.injEq]at n l;subst n;subst l;exact ZS (C.mono y)
   |succ k=>exact H k J E (by simpa using n) (by simpa using l)
theorem Kl(i:vF J h W){v:Value}{b:List (dz×Value)}(r:Bg W v 2 (b.map vt))(y:∀q∈b,SW W q)(F:∀a,v = .slice (some a) 0 0->a.spot=none/\∃cs t x,W.heap[a.block]?=some (.cells cs t x)):
  ∃c f d,vF c f W/\J.le c/\Ok h f/\aE c d v/\dA f d (b.map (·.1)):=by
 obtain⟨H,I,j,n,B,l,u,m,A,D⟩:=Gs b y i;obtain⟨g,z,d,o,G,k,w,s,C⟩:=n.VP (e:=73) (rs:=j.map vt) r (by simp[u]) D F;exact⟨g,z,d,o,dK.le_trans B G,l.trans k,w,j,m,s,λp E=>mC.ok (A p E) k,C⟩
end
end
end Go.Proofs.YtaaichlgdgjgjaaGreatDoor
end
section
namespace Go.Proofs.YtaaichlgdgjgjaaGreatDoor
open Go Go.ChangeShapes Go.WideShapes Go.ChangeAt Go.RowKit
theorem Wa:ownKnob Tryz.prog.godebug=none:=by kernel_rfl
abbrev nz{H:Type}:List (String×DataW H):=[("math/bits.deBruijn32tab",Rows.laid_math_bits_deBruijn32tab),("math/bits.deBruijn64tab",Rows.laid_math_bits_deBruijn64tab),("internal/strconv.uint64pow10",Rows.laid_internal_strconv_uint64pow10)]
def abG:DataW Unit->Value
 |.lit (.int k n)=> .int k n
 |_=>undef
def Df:DataW Unit->Array Value
 |.agg l=>(l.map abG).toArray
 |_=> #[]
def Uy(c:Array Value):Obj->Obj
 |.cells _ t a=> .cells c t a
 |o=>o
noncomputable def Gp(a:Os):World:=
 { World.holding Tryz.prog a ⟨#[],#[],[]⟩with heap:=(((World.holding Tryz.prog a ⟨#[],#[],[]⟩).heap.modify 2 (Uy (Df Rows.laid_math_bits_deBruijn32tab))).modify 3 (Uy (Df Rows.laid_math_bits_deBruijn64tab))).modify 1 (Uy (Df Rows.laid_internal_strconv_uint64pow10)) }
theorem Fq(b:Os)(a:Array Value):laidMetH Tryz.prog nz ((Gp b).forCall (λ_ _=>0) ⟨#[],a,[]⟩).memory:=
 laidMetH_of_parts (laidMet_of_run' 24 (by kernel_rfl) (by kernel_rfl)) (by kernel_rfl)
end Go.Proofs.YtaaichlgdgjgjaaGreatDoor
end
section
namespace Go.Proofs.YtaaichlgdgjgjaaGreatDoor
open Go Go.Ab Go.ChangeShapes Go.WideShapes Go.RowKit
variable{v:Value}
section
theorem DF{P:Program}{w:World}:∀{l:List (String×DataW Unit)}{c:List MemPlace},DataW.LaidVars P w l c->∀n d,(n,d)∈l->
  ∃g t cs a p,P.globalNamed n=some g/\(P.globals[g]?).map (·.type)=some t/\w.var? P n=some cs/\DataW.trod (λ_=>()) P w 0 (λ_=>true) false a t cs.toList=some (d,p)
 |[],_,_,_,_,b=>by cases b
 | (s,o)::r,c,h,n,d,b=>by
  obtain⟨g,t,cs,a,p,q,i,j,f,k,m,_⟩:=h;rcases mem_cons.1 b with e|e
  ·cases e
   exact⟨g,t,cs,a,p,i,j,f,k⟩
  ·exact DF m n d e
theorem U6:Rows.laid_internal_strconv_uint64pow10=(.agg ((List.range 20).map λi=>(.lit (.int .u64 ((10^i:Nat):Int)):DataW Unit)):DataW Unit):=by kernel_rfl
section
variable {W:World}
theorem Zj(j:laidMetH Tryz.prog nz W):∃cs t a,W.heap[1]?=some (.cells cs t a)/\∀s,gx s Ln 0 cs:=by
 rw[MakeChecks.laidMetH_plain _ _ _ (by kernel_rfl)]at j;obtain⟨F,l,_⟩:=j;obtain⟨g,t,cs,x,p,r,E,b,C⟩:=DF l "internal/strconv.uint64pow10" Rows.laid_internal_strconv_uint64pow10 (by simp[nz]);obtain rfl:=oI ((show Tryz.prog.globalNamed "internal/strconv.uint64pow10" = some 1 by kernel_rfl).symm.trans r);obtain rfl:=oI ((show(Tryz.prog.globals[1]?).map (·.type)=some 230 by kernel_rfl).symm.trans E);obtain⟨f,m,_,D,_,l,o⟩:=DataW.trod_array Tryz.underlying230 C;have w:f.map (·.1)=(List.range 20).map λi=>(.lit (.int .u64 ((10^i:Nat):Int)):DataW Unit):=by
  have:=(Prod.mk.inj D).1.symm.trans U6;exact DataW.agg.inj this
 have d:∃t a,W.heap[1]?=some (.cells cs t a):=by
  simp only[World.var?,r,Option.bind_some]at b;split at b
  ·next c t a d=>obtain rfl:=oI b;exact⟨t,a,d⟩
  ·cases b
 obtain⟨t,a,d⟩:=d;refine⟨cs,t,a,d,λs k v h=>?_⟩;have e:k<20:=by
  have:=(List.getElem?_eq_some_iff.1 h).1;simpa[Ln]using this
 have b:v=uv (10^k):=by
  simp[Ln,List.getElem?_range e]at h;exact h.symm
 have n:=o k e;rw[ado,Nat.mul_one,gE (by omega)]at n;obtain⟨z,u,B,_⟩:=DataW.trod_int Tryz.underlying150 n;have q:(f.map (·.1))[k]?=some (.lit (.int .u64 ((10^k:Nat):Int))):=by rw[w];simp[List.getElem?_range e]
 rw[getElem?_map,gE (by omega:k<f.length),B]at q;have A:z=((10^k:Nat):Int):=by
  simpa using q
 subst A;have:cs.toList[k]?=some (.int .u64 ((10^k:Nat):Int)):=by
  have y:((cs.toList.drop k).take 1)[0]?=some (.int .u64 ((10^k:Nat):Int)):=by rw[u];rfl
  simpa using y
 refine⟨.int .u64 ((10^k:Nat):Int),by simpa using this,?_⟩;rw[b];exact .int _ _
theorem YS(c:laidMetH Tryz.prog nz W):∃a h,vF a h W/\Gl XF a/\oe h:=by
 obtain⟨cs,t,f,b,e⟩:=Zj c;refine⟨_,_,(aeX 1 W).push b (e _),λg d=>?_,t,false,ae.fJ ⟨1,.nil⟩ _⟩;have:g=1:=by simpa[XF]using d
 subst this;exact⟨_,dK.cF _ _ _,rfl,rfl,rfl⟩
theorem WY{base:Nat}{k s:Int}{o:List UInt8}(b:Value.okWide Tryz.prog W .any base 29 (.agg #[.int .i64 k,.int .i64 s,strOf o,v]))(a:Addr)(e:v = .slice (some a) 0 0):a.spot=none/\∃cs t f,W.heap[a.block]?=some (.cells cs t f):=by
 simp only[Value.okWide,Tryz.underlying29]at b;obtain⟨cs,h,_,r,i,_,p⟩:=b;obtain rfl:=Value.agg.inj h;obtain rfl:=oI ((show Tryz.prog.cellTypes Tryz.prog.depth 29=some [3,3,9,27] by kernel_rfl).symm.trans i);obtain⟨u,n,g⟩:=p 3 v rfl;obtain rfl:27=u:=oI n;subst e;simp only[Cell.okWide,Cell.ok,Tryz.underlying27]at g;obtain⟨_,_,_,m,q,j,d,_⟩:=g;refine⟨m,?_⟩;unfold World.shape? at d;split at d
 ·next c t f l=>exact⟨c,t,f,l⟩
 ·cases d
end
end
variable{n:Nat}{J:dK}{h:ae}
section
theorem bo3:Tryz.prog.bytesOf 3=8:=by kernel_rfl
section
variable {H:Type} {enc:TypeId×Value->H} {W:World} {held:Bool}
theorem Qu{cs:List Value}{y:DataW H×List MemPlace}(h:DataW.trod enc Tryz.prog W 0 (λ_=>true) held n 22 cs=some y)(c:(y.1.weights Tryz.prog 22).all (· <=reachBytes)=true):
  ∃(v:Value)(l:List Int),cs=[v]/\Bg W v 1 (l.map qJ)/\l.length<=281474976710656:=by
 obtain⟨v,f,b,r,d,a⟩:=Ax (P:=Tryz.prog) (p:=λcs=>∃z:Int,cs=qJ z/\True) Tryz.underlying22 co3 (by decide) (λn cs y h _=>by
  obtain⟨z,e,_,_⟩:=DataW.trod_int Tryz.underlying3 h;exact⟨z,e,trivial⟩) h c
 obtain⟨l,rfl,_⟩:=HY d;refine⟨v,l,b,r,?_⟩;rw[bo3,lM]at a;unfold reachBytes at a;omega
theorem QF(i:vF J h W){v:Value}{l:List Int}(r:Bg W v 1 (l.map qJ))(B:∀a,v = .slice (some a) 0 0->a.spot=none/\∃cs t s,W.heap[a.block]?=some (.cells cs t s)):
  ∃g u a c,vF g u W/\J.le g/\Ok h u/\aE g (.slice a l.length c) v/\dP u (.slice a l.length c) l/\l.length<=bG c:=by
 obtain⟨D,⟨rfl,q⟩|⟨a,rfl,q⟩|⟨b,d,f,cs,t,s,rfl,y,E,p,F,C⟩⟩:=r
 ·obtain rfl:l=[]:=by simpa using q
  exact⟨J,h,none,0,i,J.le_refl,Ok.refl i.wf,.mc,.inl ⟨rfl,rfl⟩,Nat.zero_le _⟩
 ·obtain rfl:l=[]:=by simpa using q
  obtain⟨x,cs,t,s,p⟩:=B a rfl;obtain⟨b,d,w⟩:=a
  cases (show w=none from x)
  have o:=i.push (cs:=[]) p (λk v e=>by simp at e);exact⟨_,_,some ⟨h.next,0,none⟩,0,o,i.le _,(Ok.refl i.wf).push _,aE.slice (n:=0) (c:=0) (c':=0) (sl:=AD b cs.size t) (dK.cF _ _ _) rfl (λ_=>rfl) (λh=>by unfold dp at h;omega) (by unfold bG;split<;>omega) (.inr ⟨rfl,rfl⟩) (.inl rfl),.inr ⟨h.next,0,_,0,false,t,0,rfl,ae.fJ _ _,.inr rfl,rfl⟩,Nat.zero_le _⟩
 ·rw[lM]at y⊢;have j:gx J (List.replicate d ij++l.map zV) 0 cs:=λk v e=>by
   rw[Nat.zero_add];rw[List.getElem?_append]at e;split at e
   ·next m=>
    rw[List.length_replicate]at m;rw[List.getElem?_replicate,if_pos m]at e;obtain rfl:=oI e;exact⟨_,Array.getElem?_eq_getElem (by omega),.ij _⟩
   ·next m=>
    rw[List.length_replicate]at m e;rw[getElem?_map]at e;obtain⟨z,A,rfl⟩:=Option.map_eq_some_iff.1 e;have:=C (k-d) (qJ z) (by rw[getElem?_map,A];rfl) 0 (by omega);rw[show d+((k-d)*1+0)=k by omega]at this;exact⟨_,this,.int _ _⟩
  have o:=i.push p j;refine⟨_,_,some ⟨h.next,d,none⟩,f,o,i.le _,(Ok.refl i.wf).push _,aE.slice (sl:=AD b cs.size t) (i:=d) (n:=l.length) (c:=f) (i':=d) (c':=f) (dK.cF _ _ _) rfl (λ_=>rfl) (λh=>by omega) (by unfold bG;split<;>omega) (.inl (by simp)) (.inl rfl),.inr ⟨h.next,d,_,f,false,t,0,rfl,ae.fJ _ _,.inr rfl,?_⟩,by unfold bG;split<;>omega⟩;rw[List.drop_append,List.length_replicate,List.drop_eq_nil_of_le (by simp),List.nil_append,sub_self,List.drop_zero,List.take_of_length_le (by simp)];rfl
end
end
variable{c:List Value}{g:ae}{f:FuncId}{F:Func}
section
section
variable {W:World}
def Ldx(W:World)(v:Value)(S:Value->ae->Prop):Prop:=(∀c h a,Ok h a->S c h->S c a)/\∀{d:dK}{h:ae},vF d h W->∃b a c,vF b a W/\d.le b/\Ok h a/\aE b c v/\S c a
def Lds(W:World)(e:List Value)(T:List Value->ae->Prop):Prop:=∀{d:dK}{h:ae},vF d h W->∃a c b,vF a c W/\d.le a/\Ok h c/\bp a b e/\T b c
theorem Y0:Lds W [] λa _=>a=[]:=λ{b h} i=>⟨b,h,[],i,b.le_refl,Ok.refl i.wf,.nil _,rfl⟩
theorem DG{S:Value->ae->Prop}{T:List Value->ae->Prop}(a:Ldx W v S)(b:Lds W c T):Lds W (v::c) λe h=>∃x r,e=x::r/\S x h/\T r h:=λ{w h} i=>by
 obtain⟨t,u,x,l,q,j,n,s⟩:=a.2 i;obtain⟨d,p,r,m,g,f,o,k⟩:=b l;exact⟨d,p,x::r,m,dK.le_trans q g,j.trans f,.cons (n.mono g) o,x,r,rfl,a.1 _ _ _ f s,k⟩
def acx(v:Value)(h:ae):Prop:=∃(M:bu)(a:Option Addr)(c:Nat),v = .agg ⟨bL M a M.af.length c⟩/\Bnd M/\dA h (.slice a M.af.length c) M.af
def XT(v:Value)(h:ae):Prop:=∃(l:List Int)(a:Option Addr)(c:Nat),v = .slice a l.length c/\dP h (.slice a l.length c) l/\l.length<=281474976710656/\l.length<=bG c
theorem XT.ok(o:Ok h g)(s:XT v h):XT v g:=by
 obtain⟨l,a,c,d,e,b,f⟩:=s;exact⟨l,a,c,d,e.ok o,b,f⟩
theorem Le{b:Nat}{t:TypeId}(h:W.shape? b=some (t,n)):∃cs t a,W.heap[b]?=some (.cells cs t a):=by
 unfold World.shape? at h;split at h
 ·next c t a d=>exact⟨c,t,a,d⟩
 ·cases h
variable {H:Type} {enc:TypeId×Value->H}
theorem YZ{base:Nat}{A:DataW H}{p:List MemPlace}(f:Value.okWide Tryz.prog W .any base 29 v)(l:DataW.Trod enc Tryz.prog W 0 (λ_=>true) true 29 v A p)(G:(A.weights Tryz.prog 29).all (· <=reachBytes)=true):Ldx W v acx:=by
 refine⟨λN h O o s=>?_,λ{Q h} i=>?_⟩
 ·obtain⟨M,a,c,e,b,r⟩:=s;exact⟨M,a,c,e,b,r.ok o⟩
 obtain⟨cs,rfl,_⟩:=okWide_struct Tryz.underlying29 f;obtain⟨I,l⟩:=l;obtain⟨k,s,m,N,d,j,L,w⟩:=HX l G;have j:cs = #[.int .i64 k,.int .i64 s,strOf m,N]:=by
  rw[<-Array.toList_inj];exact j
 subst j;obtain⟨y,F,P,D,J,C,n,g⟩:=Kl i L w (WY f);obtain⟨K,t,u,_,_⟩:=id g;obtain⟨a,c,rfl⟩:=u.XH;have B:(K.map vt).length=(d.map (·.1)).length:=by rw[<-t,lM,lM]
 rw[B]at n g;refine⟨y,F,.agg ⟨bL ⟨k,s,m,d.map (·.1)⟩ a (d.map (·.1)).length c⟩,D,J,C,?_,⟨k,s,m,d.map (·.1)⟩,a,c,rfl,λx E=>?_,g⟩
 ·exact .agg rfl (jT.toList.2 (.cons (.int _ _) (.cons (.int _ _) (.cons (.string _) (.cons n (.nil _)))))).2
 ·obtain⟨q,z,rfl⟩:=List.mem_map.1 E;exact(w q z).2
theorem UU{base:Nat}(b:Value.okWide Tryz.prog W .any base 22 v)(a:Addr)(e:v = .slice (some a) 0 0):a.spot=none/\∃cs t g,W.heap[a.block]?=some (.cells cs t g):=by
 subst e;simp only[Value.okWide,Cell.okWide,Cell.ok,Tryz.underlying22]at b;obtain⟨_,_,_,f,h,d,c,_⟩:=b;exact⟨f,Le c⟩
theorem Uz{base:Nat}{m:DataW H}{p:List MemPlace}(b:Value.okWide Tryz.prog W .any base 22 v)(d:DataW.Trod enc Tryz.prog W 0 (λ_=>true) true 22 v m p)(y:(m.weights Tryz.prog 22).all (· <=reachBytes)=true):Ldx W v XT:=by
 refine⟨λv h C o s=>s.ok o,λ{D h} i=>?_⟩;obtain⟨f,j,k,rfl⟩:=okWide_slice Tryz.underlying22 b;obtain⟨z,d⟩:=d;obtain⟨v,l,e,r,u⟩:=Qu d y;have e:Value.slice f j k=v:=by
  have:[Value.slice f j k]=[v]:=e;simpa using this
 subst e;obtain⟨g,w,a,c,q,A,n,t,x,B⟩:=QF i r (UU b);exact⟨g,w,_,q,A,n,t,l,a,c,rfl,x,u,B⟩
theorem QE(m:Tryz.prog.funcs[f]?=some F)(b:F.body.isSome=true)(q:f<YB){a:Array Value}{T:List Value->ae->Prop}(l:Lds W a.toList T)(p:laidMetH Tryz.prog nz W)
  (i:∀{h:ae}{c:List Value}(_:oe h)(_:Wf h),T c h->FW SS f c h (EQ h)):Calls Tryz.prog f a W λe d=>e = .returned (.bool true)/\Below W.heap.size W d:=by
 obtain⟨t,C,k,v,n⟩:=YS p;obtain⟨y,z,c,g,s,j,o,u⟩:=l k;refine(JL Pa U7 (i (n.ok j) g.wf u) q m b g (v.mono s) (args':=a) o).mono ?_;rintro e d ⟨x,A,B,w,rfl,⟨rfl,_⟩,r,_,b⟩
 cases r
 exact⟨rfl,b⟩
end
end
end Go.Proofs.YtaaichlgdgjgjaaGreatDoor
end
section
namespace Go.Proofs.YtaaichlgdgjgjaaGreatDoor
open Go Go.Ab Go.ChangeShapes Go.WideShapes Go.ChangeAt Go.RowKit
theorem Aq:laidOutB Tryz.prog=true:=by kernel_rfl
set_option maxRecDepth 100000 in
theorem xY(i:Os)(g:i.Started)(H:Type)(c:TypeId×Value->H):
  ReturnsInHanded {} Tryz.checked i 7 .any (λw b=>(Rows.buildStarsSpec.pre c Tryz.prog Tryz.f7 [] false w b/\laidMetH Tryz.prog nz w)/\sizedMet c Tryz.prog Tryz.f7 (OpenSpec.ofChange Rows.buildStarsSpec) false w b)
   (Rows.buildStarsSpec.post c Tryz.prog Tryz.f7 false true false false):=by
 refine returnsInHanded_of_change_and (C:=Tryz.checked) (X:=λw _=>laidMetH Tryz.prog nz w) (λ_ _ _ hh h=>h.of_heap hh) Wa g (by kernel_rfl) Tryz.func7
  (ChangeSpec.witness_at (enc:=c) (C:=Tryz.checked) (os:=i) (X:=λw _=>laidMetH Tryz.prog nz w) false (Gp i) #[.agg #[.int .i64 0,.int .i64 0,.string ⟨#[]⟩,.slice none 0 0],.slice none 0 0,.slice none 0 0] 8 rfl (by kernel_rfl) (by kernel_rfl) (by kernel_rfl) (by kernel_rfl) (by kernel_rfl) (Fq i _)) ?_
 intro W base b M gs B o P _ x3 hL _;have d:∀(j:Nat) t v,Tryz.f7.params[j]?=some t->b[j]?=some v->Value.okWide Tryz.prog W .any base t v:=o;have l:=P;obtain⟨p,q,D,hV,rfl,y1,x6⟩:=P;have hA:DataW.TrodAll c Tryz.prog W 0 (λ_=>true) true Tryz.f7.params.toList b.toList M p:=D;rw[Tryz.params7]at hA d;obtain⟨r,y7,A,y2,N,q0,f,rfl,rfl,G,Y⟩:=trodAll_cons hA;obtain⟨z,y6,y,y0,p1,q1,rfl,rfl,rfl,t1,Z⟩:=trodAll_cons Y;obtain⟨u,x7,s,y5,I,q2,rfl,rfl,rfl,E,K⟩:=trodAll_cons Z;obtain⟨rfl,rfl,rfl⟩:=trodAll_nil K;have f:b = #[r,z,u]:=by
  rw[<-Array.toList_inj];exact f
 subst f;obtain⟨rfl,rfl⟩:=trodVars_none hV;rw[List.append_nil]at l;have Q:(DataW.weightsEach Tryz.prog (Tryz.f7.params.toList++Rows.buildStarsSpec.plain.varTypes Tryz.prog) ([A,y,s]++[])).all (· <=reachBytes)=true:=x3;rw[Tryz.params7]at Q;have S:(A.weights Tryz.prog 29++(y.weights Tryz.prog 22++(s.weights Tryz.prog 22++(DataW.weightsEach Tryz.prog (Rows.buildStarsSpec.plain.varTypes Tryz.prog) [])))).all (· <=reachBytes)=true:=Q;simp only[List.all_append,and_eq_true]at S;obtain⟨w0,w1,w2,_⟩:=S;have ld:Lds W #[r,z,u].toList _:=DG (YZ (d 0 29 r rfl rfl) G w0) (DG (Uz (d 1 22 z rfl rfl) t1 w1) (DG (Uz (d 2 22 u rfl rfl) E w2) (Y0)));refine(QE Tryz.func7 (by kernel_rfl) (by unfold YB;decide) ld hL λtb w T=>?_).mono λe W2 ⟨he,n⟩=>?_
 ·obtain⟨x0,J,rfl,s0,x1,r1,rfl,s1,x2,r2,rfl,s2,rfl⟩:=T;obtain⟨M0,a0,c0,rfl,b0,J⟩:=s0;obtain⟨x5,x9,x4,rfl,U,L,F⟩:=s1;obtain⟨y4,x8,y3,rfl,R,V,O⟩:=s2;exact PG w tb b0 J U R L V F O
 subst he;have k:∀x∈N++(p1++(I++([]))),x.block<W.heap.size:=λx a=>l.lt x a;exact⟨_,rfl,Ux (ds:=[A,y,s]) (places:=N++(p1++(I++([])))) rfl l n rfl rfl (λ_ _ _=>(trodAll_cons_mk (shut_bool Tryz.underlying4 _) trodAll_mk0))
  (ok_one (by kernel_rfl) rfl (okWide_bool_mk Tryz.underlying4 _)) (λsp m=>by
   rw[Tryz.params7];exact trodAll_cons_mk (WideElems.Trod_stays Aq (by kernel_rfl) (dT (by kernel_rfl)) G (λx a=>n.same (k x (mem_append_left _ a))) (λx a=>m x (mem_append_left _ a))) (trodAll_cons_mk (WideElems.Trod_stays Aq (by kernel_rfl) (dT (by kernel_rfl)) t1 (λx a=>n.same (k x (mem_append_right _ (mem_append_left _ a)))) (λx a=>m x (mem_append_right _ (mem_append_left _ a)))) (trodAll_cons_mk (WideElems.Trod_stays Aq (by kernel_rfl) (dT (by kernel_rfl)) E (λx a=>n.same (k x (mem_append_right _ (mem_append_right _ (mem_append_left _ a))))) (λx a=>m x (mem_append_right _ (mem_append_right _ (mem_append_left _ a))))) (trodAll_mk0))))⟩
theorem BO:Rows.BuildStarsSaid:=
 OpenClaim.holds_of_wide 7 Tryz.f7 rfl rfl rfl rfl rfl rfl rfl ⟨rfl,rfl,rfl,rfl,rfl⟩ rfl rfl rfl rfl rfl (by kernel_rfl) Tryz.func7 (by kernel_rfl)
  (dT (by kernel_rfl)) (by unfold Func.isWrapper;first|(rw[if_pos (by decide +kernel)];kernel_rfl)|(rw[if_neg (by decide +kernel)];exact⟨rfl,rfl⟩))
  (λc a H b _=>xY c a H b)
theorem buildStars_holds:Rows.BuildStarsCardSaid:=
 Claim7.holds_tied_plain_at .later [] [.data,.data,.data] true (true,"c6fdbccbd4f7b918257715cfda7cd04cead22867ce6bb9351446e2ee10eec580") true
  BO (λ_ h=>by cases h) (by kernel_rfl) (λ_ h=>by cases h) buildStars_row_tie rfl ⟨rfl,rfl⟩ (by kernel_rfl) rfl
  (λf d e b=>by
   obtain rfl:f=7:=oI ((show Tryz.prog.funcNamed "abugida/abugidalaw09.BuildStars" = some 7 by kernel_rfl).symm.trans e) |>.symm
   obtain rfl:d=Tryz.f7:=(oI (Tryz.func7.symm.trans b)).symm;exact⟨by kernel_rfl,λj t c=>by
    rw[Tryz.params7]at c;have g:t∈[29,22,22]:=by simpa using Array.mem_of_getElem? c
    have a:([29,22,22].all λu=> !Tryz.prog.wantsStandIn u)=true:=by kernel_rfl
    exact(show Tryz.prog.wantsStandIn t=false by simpa using all_eq_true.1 a t g)⟩)
  (by kernel_rfl)
end Go.Proofs.YtaaichlgdgjgjaaGreatDoor
end
