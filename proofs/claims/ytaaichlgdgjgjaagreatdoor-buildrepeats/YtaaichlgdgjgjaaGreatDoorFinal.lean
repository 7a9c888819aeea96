/- Whatever is handed to it, in whatever memory, on every schedule, BuildRepeats returns true. No condition. -/
import Derived.Test.YtaaichlgdgjgjaaGreatDoorPart6
import Derived.Test.YtaaichlgdgjgjaaGreatDoorPart3
import Derived.Test.YtaaichlgdgjgjaaGreatDoorPart2
import Derived.Shelf.SortM.Plain
import Derived.Shelf.SortM.SortNone
import Derived.Test.YtaaichlgdgjgjaaGreatDoorProg
import Derived.OpenShut
import Derived.MakeChecks
import Derived.FnData
import Derived.ChangeSame
import Derived.Test.YtaaichlgdgjgjaaGreatDoorRows
import Derived.ProofKit
import Derived.LaidLaws
import Derived.LaidHandle
import Derived.ChangeVars
import Derived.Test.YtaaichlgdgjgjaaGreatDoorCards
import Derived.Test.YtaaichlgdgjgjaaGreatDoorTie
import Derived.WalkKit
import Derived.Carry
import Derived.SevenTiedAt
set_option linter.unusedVariables false
set_option linter.unusedSimpArgs false
set_option maxRecDepth 100000
open List (all_eq_true getElem?_map length_drop mem_append_left mem_append_right mem_cons mem_map)
open Bool (and_eq_true)
open Go.IntKind (wrap)
section
namespace Go.Proofs.YtaaichlgdgjgjaaGreatDoor
open Go Go.Ab Go.Num Go.Num.aN
variable{p:List Int}{a:Option Addr}{n:Nat}
section
structure TD where
 M:bp
 s:Option Addr
 sc:Nat
 xa:Option Addr
 xc:Nat
 xs:List Int
 ya:Option Addr
 yc:Nat
 ys:List Int
def TD.cs(D:TD)(ok:Bool):List Value:=[.int .i64 D.M.kind,.slice D.xa D.xs.length D.xc,.slice D.ya D.ys.length D.yc,.int .i64 D.M.kind,.int .i64 D.M.start,strOf D.M.lead,.slice D.s D.M.af.length D.sc,.bool ok]
structure TGd(D:TD)(h0:ae):Prop where
 wf:Wf h0
 st:dy h0 (.slice D.s D.M.af.length D.sc) D.M.af
 rx:dL h0 (.slice D.xa D.xs.length D.xc) D.xs
 hx:D.xs.length<=bC D.xc
 ry:dL h0 (.slice D.ya D.ys.length D.yc) D.ys
 hy:D.ys.length<=bC D.yc
 sm:Small D.M
 vm:ca D.M=true
 wx:eD D.xs=true
 wy:eD D.ys=true
structure zJ(D:TD)(h0 g:ae)(k:Nat)(ok:Bool):Prop where
 box:g.get k=some (.cells (D.cs ok) 48 0 true)
 ok:Ok h0 g
 nk:h0.next<=k
def Kt(k:Nat)(g g':ae):Prop:=g.next<=g'.next/\∀(j:Nat)(B:dV),j≠k->g.get j=some B->g'.get j=some B
theorem Kt.refl(k:Nat)(g:ae):Kt k g g:=⟨Nat.le_refl _,λ_ _ _ h=>h⟩
theorem Kt.trans{k:Nat}{g d c:ae}(a:Kt k g d)(b:Kt k d c):Kt k g c:=⟨Nat.le_trans a.1 b.1,λj B e h=>b.2 j B e (a.2 j B e h)⟩
theorem Kt.ofO{g g':ae}(o:Ok g g')(k:Nat):Kt k g g':=⟨o.nx,λj B _ h=>o.ext j B h⟩
theorem Ex(h:eD p=true)(i j:Nat):eD ((p.take j).drop i)=true:=by
 unfold eD at*;rw[and_eq_true,all_eq_true]at*;refine⟨?_,λx a=>h.2 x (List.mem_of_mem_take (List.mem_of_mem_drop a))⟩;have:=dT h.1;refine decide_eq_true ?_;rw[length_drop,List.length_take];omega
theorem IE(k:Nat):aE SS.P 48 (pA k) 1=some (.pointer (some ⟨k,1,none⟩)):=by kernel_rfl
theorem xg(k:Nat):aE SS.P 48 (pA k) 0=some (.pointer (some ⟨k,0,none⟩)):=by kernel_rfl
theorem IF(k:Nat):aE SS.P 48 (pA k) 2=some (.pointer (some ⟨k,2,none⟩)):=by kernel_rfl
theorem ab7(k:Nat):aE SS.P 48 (pA k) 3=some (.pointer (some ⟨k,3,none⟩)):=by kernel_rfl
theorem IG(k:Nat):aE SS.P 48 (pA k) 4=some (.pointer (some ⟨k,7,none⟩)):=by kernel_rfl
theorem GN{g:ae}{c:Nat}(r:dL g (.slice a n c) p)(C:n<=bC c){i j:Nat}(y:i<=j)(B:j<=n):
  ∃(o:Option Addr)(m:Nat),bF SS.P 22 (.slice a n c) (some (iA i)) (some (iA j)) none g=some (.slice o (j-i) m)/\dL g (.slice o (j-i) m) ((p.take j).drop i):=by
 have t:=dL.len r;rcases r with⟨f,l⟩|⟨k,b,cs,A,w,e,z,f,l,q,u⟩
 ·injection f with d s h
  subst d;subst h;subst s;have v:p=[]:=List.eq_nil_of_length_eq_zero t.symm;obtain rfl:j=0:=by omega
  obtain rfl:i=0:=by omega
  refine⟨none,0,?_,.inl ⟨rfl,by rw[v];rfl⟩⟩;unfold bF;dsimp only;rw[qG];dsimp only[eU];rw[Sr];rfl
 ·injection f with d s h
  subst d;subst h;refine⟨some ⟨k,b+i,none⟩,c-i,?_,.inr ⟨k,b+i,cs,c-i,w,e,z,?_,l,q,?_⟩⟩
  ·unfold bF;dsimp only;rw[qG];dsimp only[eU];rw[Sr,l];dsimp only;have d:((j:Int)-(i:Int)).toNat=j-i:=by omega
   have x:((i:Nat):Int).toNat=i:=by omega
   rw[if_pos (q.elim (λa=> .inl a.2) .inr),if_pos (by omega),d,x,Nat.mul_one]
  ·rw[length_drop,List.length_take];congr 1;omega
  ·rw[length_drop,List.length_take,Nat.min_eq_left (by omega),<-List.drop_drop];have:((cs.drop b).drop i).take (j-i)=(((cs.drop b).take p.length).take j).drop i:=by
    rw[List.take_take,Nat.min_eq_left (by omega),List.drop_take]
   rw[this,u];unfold wO;rw[<-List.map_take,<-List.map_drop]
section
variable {K:Type} {S:aN K} {dec:List UInt8->K} {M:bp}
theorem Xq(h:pM S dec M.kind)(f:ca M=true){a b:List Int}(c:eD a=true)(d:eD b=true):(∃w,AX M a b=(w,0)/\aM M.kind w=true/\dec w=AN S dec M a b)\/AX M a b=([],2):=by
 unfold AX;rw[f,c,d,if_pos (show(true&&(true&&true))=true from rfl)]
 cases e:eF (aY M.kind) (gm M) a b with
 |none=>exact .inr rfl
 |some w=>
  obtain⟨g,i⟩:=Xd h (qB f) (Wt c) (Wt d) e;exact .inl ⟨w,rfl,g,i⟩
end
section
variable {D:TD} {h0 g g':ae} {k:Nat} {ok:Bool}
theorem zJ.sk(t:zJ D h0 g k ok)(o:Ok g g'):zJ D h0 g' k ok:=⟨o.ext _ _ t.box,t.ok.trans o,t.nk⟩
theorem zJ.l0(t:zJ D h0 g k ok):aj SS.P 3 g (.pointer (some ⟨k,0,none⟩))=some (.int .i64 D.M.kind):=cq G0 FT t.box (by simp[TD.cs])
theorem zJ.l1(t:zJ D h0 g k ok):aj SS.P 22 g (.pointer (some ⟨k,1,none⟩))=some (.slice D.xa D.xs.length D.xc):=cq qG SY t.box (by simp[TD.cs])
theorem zJ.l2(t:zJ D h0 g k ok):aj SS.P 22 g (.pointer (some ⟨k,2,none⟩))=some (.slice D.ya D.ys.length D.yc):=cq qG SY t.box (by simp[TD.cs])
theorem zJ.l3(t:zJ D h0 g k ok):aj SS.P 29 g (.pointer (some ⟨k,3,none⟩))=some (.agg ⟨bK D.M D.s D.M.af.length D.sc⟩):=pk NS Mg uE t.box (by simp[TD.cs])
theorem zJ.l4(t:zJ D h0 g k ok):aj SS.P 4 g (.pointer (some ⟨k,7,none⟩))=some (.bool ok):=cq un4 ag4 t.box (by simp[TD.cs])
theorem zJ.put(w:Wf h0)(t:zJ D h0 g k ok)(b:Bool):∃u:dP,ah SS.P 4 (.pointer (some ⟨k,7,none⟩)) (.bool b) g=some (undef,u)/\zJ D h0 (u.app g) k b/\Kt k g (u.app g):=by
 refine⟨_,jf adU t.box (i:=7) (by simp[TD.cs]) rfl rfl,⟨?_,t.ok.set _ t.nk (t.ok.wf _ _ t.box) w,t.nk⟩,Nat.le_refl _,λj B a h=>?_⟩
 ·show(g.set k _).get k=_;rw[ae.aw,if_pos rfl];rfl
 ·show(g.set k _).get j=_;rw[ae.aw,if_neg a];exact h
theorem tP(w:Wf h0)(t:zJ D h0 g k ok){n:Int}{A B:ae->Prop}(l:n≠0->∀g',zJ D h0 g' k false->Kt k g g'->A g')(j:n=0->∀g',zJ D h0 g' k ok->Kt k g g'->B g'):
  xP (aE SS.P 48 (pA k) 4) λp=>xB (aj SS.P 4 g (.pointer (some p))) λb=>au b (xP (aE SS.P 48 (pA k) 4) λh=>xU (ah SS.P 4 (.pointer (some h)) (.bool ((n:Int)==0)) g) g λu d=>au ((n:Int) !=0) (A d) (B d))
   (xP (aE SS.P 48 (pA k) 4) λh=>xU (ah SS.P 4 (.pointer (some h)) (.bool false) g) g λu d=>au ((n:Int) !=0) (A d) (B d)):=by
 refine⟨_,IG k,_,t.l4,aa (λq=>?_) (λq=>?_)⟩
 ·obtain⟨u,i,c,f⟩:=t.put w (n==0);refine⟨_,IG k,u,i,aa (λa=>?_) (λa=>?_)⟩
  ·have a:n≠0:=by simpa using a
   have e:(n==0)=false:=by simpa using a
   rw[e]at c;exact l a _ c f
  ·have a:n=0:=by simpa using a
   have e:(n==0)=true:=by simpa using a
   rw[e]at c;exact j a _ (by rw[q];exact c) f
 ·obtain⟨u,i,c,f⟩:=t.put w false;refine⟨_,IG k,u,i,aa (λa=>?_) (λa=>?_)⟩
  ·exact l (by simpa using a) _ c f
  ·exact j (by simpa using a) _ (by rw[q];exact c) f
end
section
variable {K:Type} {S:aN K} {dec:List UInt8->K} {D:TD} {h0 g:ae} {k:Nat} {ok:Bool}
def TQ(S:aN K)(dec:List UInt8->K)(D:TD)(h0 g:ae)(k:Nat)(ok:Bool)(a:K):VH:=λv g'=>∃(w:List UInt8)(b:Bool),v=strOf w/\zJ D h0 g' k b/\Kt k g g'/\aM D.M.kind w=true/\(b=true->ok=true/\dec w=a)
theorem Wz(o:pM S dec D.M.kind)(w:Wf h0)(t:zJ D h0 g k ok){a b:List UInt8}(i:aM D.M.kind a=true)(j:aM D.M.kind b=true):FW SS 29 [pA k,strOf a,strOf b] g (TQ S dec D h0 g k ok (S.add (dec a) (dec b))):=by
 refine Wy k a b g _ ⟨_,xg k,_,t.l0,(qZ i j t.ok.wf).mono ?_⟩;rintro _ q ⟨rfl,d⟩;have l:=t.sk d
 cases e:eM D.M.kind a b with
 |none=>
  refine⟨[],2,rfl,tP w l (λ_ m f h=>⟨a,false,rfl,f,(Kt.ofO d k).trans h,i,λc=>by cases c⟩) (λc=>by cases c)⟩
 |some c=>
  obtain⟨n,p⟩:=o.plus i j e;exact⟨c,0,rfl,tP w l (λc=>absurd rfl c) (λ_ m f h=>⟨c,ok,rfl,f,(Kt.ofO d k).trans h,n,λe=>⟨e,p⟩⟩)⟩
theorem Sb(o:pM S dec D.M.kind)(w:Wf h0)(t:zJ D h0 g k ok){a b:List UInt8}(i:aM D.M.kind a=true)(j:aM D.M.kind b=true):FW SS 32 [pA k,strOf a,strOf b] g (TQ S dec D h0 g k ok (S.mul (dec a) (dec b))):=by
 refine Sa k a b g _ ⟨_,xg k,_,t.l0,(wX i j t.ok.wf).mono ?_⟩;rintro _ q ⟨rfl,d⟩;have l:=t.sk d
 cases e:dg D.M.kind a b with
 |none=>
  refine⟨[],2,rfl,tP w l (λ_ m f h=>⟨a,false,rfl,f,(Kt.ofO d k).trans h,i,λc=>by cases c⟩) (λc=>by cases c)⟩
 |some c=>
  obtain⟨n,p⟩:=o.times i j e;exact⟨c,0,rfl,tP w l (λc=>absurd rfl c) (λ_ m f h=>⟨c,ok,rfl,f,(Kt.ofO d k).trans h,n,λe=>⟨e,p⟩⟩)⟩
theorem abZ(B:pM S dec D.M.kind)(a:TGd D h0)(t:zJ D h0 g k ok){i j p q:Nat}(u:i<=j)(H:j<=D.xs.length)(r:p<=q)(C:q<=D.ys.length):
  FW SS 30 [pA k,iA i,iA j,iA p,iA q] g (TQ S dec D h0 g k ok (AN S dec D.M ((D.xs.take j).drop i) ((D.ys.take q).drop p))):=by
 have s:=qB a.vm;have v:=(Ok.refl t.ok.wf).room 24;have b:=t.sk v;obtain⟨O,M,x,z⟩:=GN (dL.ok a.rx b.ok) a.hx u H;obtain⟨L,N,F,A⟩:=GN (dL.ok a.ry b.ok) a.hy r C;refine abY k i j p q g _ ⟨_,ab7 k,_,b.l3,_,IE k,_,_,_,b.l1,_,_,_,x,_,IF k,_,_,_,b.l2,_,_,_,F,(IN b.ok.wf a.sm (a.st.ok b.ok) z A).mono ?_⟩;rintro _ E ⟨rfl,o⟩;have J:=b.sk o;have f:Kt k g E:=Kt.ofO (v.trans o) k;refine⟨_,_,rfl,tP a.wf J (λh l d m=>?_) (λh l d m=>?_)⟩
 ·refine⟨_,xg k,_,d.l0,(fO s.kind l).mono ?_⟩;rintro _ K ⟨rfl,G⟩;obtain rfl:l=K:=G.symm;exact⟨_,rfl,_,false,rfl,d,f.trans m,oD s.kind,λc=>by cases c⟩
 ·rcases Xq B a.vm (Ex a.wx i j) (Ex a.wy p q)with⟨w,n,I,y⟩|n
  ·rw[n];exact⟨w,ok,rfl,d,f.trans m,I,λe=>⟨e,y⟩⟩
  ·rw[n]at h;cases h
end
end
variable{s:List UInt8}{h:ae}{z:Int}
section
section
variable {K:Type} {S:aN K} {dec:List UInt8->K} {D:TD} {h0 g:ae} {k:Nat} {ok:Bool}
theorem Qf(F:List Int->List Int->List Int->List Int->K)(x y:List Int):eK S F x y=S.bS (λp=>S.bS (λq=>F (x.take p) (y.take q) (x.drop p) (y.drop q)) (y.length+1)) (x.length+1):=rfl
theorem Pb(x y:List Int){i j:Nat}(e:i<=x.length)(f:j<=y.length):tI S (x.drop i) (y.drop j)=if i=x.length/\j=y.length then S.one else S.zero:=by
 unfold tI emp;have a:x.drop i=[]↔i=x.length:=by rw[List.drop_eq_nil_iff];omega
 have b:y.drop j=[]↔j=y.length:=by rw[List.drop_eq_nil_iff];omega
 by_cases c:i=x.length/\j=y.length
 ·rw[if_pos c,if_pos ⟨a.2 c.1,b.2 c.2⟩]
 ·rw[if_neg c,if_neg (λd=>c ⟨a.1 d.1,b.1 d.2⟩)]
def Zs(S:aN K)(G:Nat->Nat->K)(n p:Nat):K:=S.bS (λa=>S.bS (G a) n) p
structure LI(S:aN K)(dec:List UInt8->K)(D:TD)(h0 g0:ae)(k:Nat)(ok:Bool)(s:List UInt8)(val:K)(g:ae):Prop where
 ex:∃b,zJ D h0 g k b/\(b=true->ok=true/\dec s=val)
 kt:Kt k g0 g
 v:aM D.M.kind s=true
theorem LI.fin{a:K}{c:ae}(l:LI S dec D h0 g k ok s a c):TQ S dec D h0 g k ok a (strOf s) c:=by
 obtain⟨b,t,h⟩:=l.ex;exact⟨s,b,rfl,t,l.kt,l.v,h⟩
theorem LI.cast{b a:K}(l:LI S dec D h0 g k ok s b h)(e:b=a):LI S dec D h0 g k ok s a h:=e▸l
theorem Gq(l:List Int)(i p:Nat):(l.take p).drop i=(l.drop i).take (p-i):=List.drop_take ..
theorem Gp(l:List Int){i p:Nat}(h:i<=p):l.drop p=(l.drop i).drop (p-i):=by rw[List.drop_drop];congr 1;omega
theorem Yg(v:pM S dec D.M.kind)(u:TGd D h0){s:List UInt8}{h f r:K}{x:ae}(l:LI S dec D h0 g k ok s h x){i p j q:Nat}(B:i<=p)(hp:p<=D.xs.length)(A:j<=q)(R:q<=D.ys.length)
  (hf:f=AN S dec D.M ((D.xs.drop i).take (p-i)) ((D.ys.drop j).take (q-j))) {C:Nat} {d:List Value}
  (rest:∀{a:ae}{b:Bool},zJ D h0 a k b->FW SS C d a (TQ S dec D h0 a k b r))
  {Z:List UInt8->ae->Prop} (hZ:∀(z:List UInt8)(c:ae),LI S dec D h0 g k ok z (S.add h (S.mul f r)) c->Z z c):
  FW SS 30 [pA k,iA i,iA p,iA j,iA q] x λw a=>yS w λl1=>FW SS C d a λn c=>yS n λl2=>FW SS 32 [pA k,strOf l1,strOf l2] c λm F=>yS m λl3=>FW SS 29 [pA k,strOf s,strOf l3] F λo y=>yS o λl4=>Z l4 y:=by
 obtain⟨b,t,P⟩:=l.ex;refine(abZ v u t B hp A R).mono ?_;rintro _ a ⟨G,b1,rfl,t1,U,w,E⟩;rw[Gq,Gq,<-hf]at E;refine⟨G,rfl,(rest t1).mono ?_⟩;rintro _ c ⟨w2,b2,rfl,I,O,n,H⟩;refine⟨w2,rfl,(Sb v u.wf I w n).mono ?_⟩;rintro _ F ⟨w3,b3,rfl,Y,k3,m,Q⟩;refine⟨w3,rfl,(Wz v u.wf Y l.v m).mono ?_⟩;rintro _ y ⟨L,T,rfl,M,W,o,N⟩;refine⟨L,rfl,hZ _ _ ⟨⟨T,M,λe=>?_⟩,(((l.kt.trans U).trans O).trans k3).trans W,o⟩⟩;obtain⟨X,x4⟩:=N e;obtain⟨e2,x3⟩:=Q X;obtain⟨J,V⟩:=H e2;obtain⟨e0,x1⟩:=E J;obtain⟨e,x0⟩:=P e0;exact⟨e,by rw[x4,x3,V,x1,x0]⟩
theorem OO(a:1<=z/\z<=3):aM z (df z)=true:=by
 have:z=1\/z=2\/z=3:=by omega
 rcases this with rfl|rfl|rfl<;>decide
end
end
section
section
variable {K:Type} {S:aN K} {dec:List UInt8->K} {D:TD} {h0 g:ae} {k:Nat} {ok:Bool}
theorem ZR(u:pM S dec D.M.kind)(r:TGd D h0):∀(m:Nat){n:Int}{i j:Nat}{g:ae}{ok:Bool},m<=1000->(m:Int)-2000<=n->n<=2000->i<=D.xs.length->j<=D.ys.length->zJ D h0 g k ok->
  FW SS 36 [pA k,.int .i64 n,.int .i64 (m:Int),iA i,iA j] g (TQ S dec D h0 g k ok (Fm S (AN S dec D.M) n m (D.xs.drop i) (D.ys.drop j))):=by
 intro m
 induction m with
 | zero=>
  intro n i j g ok hm hn x0 R W t;have d:=qB r.vm;have L:=Hv d.kind u;refine O7 k n _ i j g _ ⟨_,xg k,_,t.l0,(fO d.kind g).mono ?_⟩;rintro _ l ⟨rfl,o⟩;obtain rfl:g=l:=o.symm;have J:∀v:K,v=S.zero->(TQ S dec D h0 g k ok v) (strOf (bE D.M.kind)) g:=λv hv=>⟨_,ok,rfl,t,Kt.refl k g,oD d.kind,λe=>⟨e,by rw[hv];exact u.zero⟩⟩
  have O:=Pb (S:=S) D.xs D.ys R W;have h:Fm S (AN S dec D.M) n 0 (D.xs.drop i) (D.ys.drop j)=if n<=0 then(if i=D.xs.length/\j=D.ys.length then S.one else S.zero)else S.zero:=by
   show(if n<=0 then tI S _ _ else S.zero)=_;rw[O]
  refine⟨_,rfl,aa (λa=>⟨_,IE k,_,_,_,t.l1,aa (λq=>⟨_,IF k,_,_,_,t.l2,aa (λb=>⟨_,xg k,_,t.l0,(Cl _ g).mono ?_⟩) (λb=>aa (λ_=>J _ ?_) (λe=>by cases e))⟩) (λq=>aa (λ_=>J _ ?_) (λe=>by cases e))⟩) (λa=>aa (λ_=>J _ ?_) (λe=>by cases e))⟩
  ·have a:=dT a;have q:(i:Int)=(D.xs.length:Int):=by simpa using q
   have b:(j:Int)=(D.ys.length:Int):=by simpa using b
   rintro _ x ⟨rfl,o⟩;obtain rfl:g=x:=o.symm;refine⟨_,rfl,aa (λ_=>⟨_,ok,rfl,t,Kt.refl k g,OO d.kind,λe=>⟨e,?_⟩⟩) (λe=>by cases e)⟩;rw[h,if_pos a,if_pos ⟨by omega,by omega⟩];exact L
  ·have b:¬(j:Int)=(D.ys.length:Int):=by simpa using b
   rw[h,if_neg (show ¬(i=D.xs.length/\j=D.ys.length) by omega)];split<;>rfl
  ·have q:¬(i:Int)=(D.xs.length:Int):=by simpa using q
   rw[h,if_neg (show ¬(i=D.xs.length/\j=D.ys.length) by omega)];split<;>rfl
  ·have a:=dF a;rw[h,if_neg a]
 | succ m ih=>
  intro n i j g ok hm hn x0 R W t;have d:=qB r.vm;have L:=Hv d.kind u;have lx:=zo r.wx;have ly:=zo r.wy;obtain⟨F,hF⟩:∃F,F=AN S dec D.M:=⟨_,rfl⟩
  rw[<-hF]at ih⊢;obtain⟨V,Y⟩:∃V,V=Fm S F (n-1) m:=⟨_,rfl⟩
  have O:=Pb (S:=S) D.xs D.ys R W;obtain⟨U,w⟩:∃U,U=if n<=0 then(if i=D.xs.length/\j=D.ys.length then S.one else S.zero)else S.zero:=⟨_,rfl⟩
  obtain⟨G,hG⟩:∃G:Nat->Nat->K,G=λp q=>S.mul (F ((D.xs.drop i).take p) ((D.ys.drop j).take q)) (V ((D.xs.drop i).drop p) ((D.ys.drop j).drop q)):=⟨_,rfl⟩
  have hX:(D.xs.drop i).length=D.xs.length-i:=length_drop;have hY:(D.ys.drop j).length=D.ys.length-j:=length_drop;have I:Fm S F n (m+1) (D.xs.drop i) (D.ys.drop j)=S.add U (Zs S G (D.ys.length-j+1) (D.xs.length-i+1)):=by
   show S.add (if n<=0 then tI S _ _ else S.zero) (I6 S F (Fm S F (n-1) m) _ _)=_;rw[O,<-w,<-Y];congr 1;unfold I6 Zs;rw[Qf,hX,hY,hG]
  have x1:wrap .i64 (n-1)=n-1:=aB (by omega) (by omega);have x2:wrap .i64 (((m+1:Nat):Int)-1)=(m:Int):=by rw[aB (by omega) (by omega)];omega
  have f:∀{s:List UInt8}{l:ae},LI S dec D h0 g k ok s U l->LL SS eC [1,1,1,1,0,1,0,0] (eY k n ((m+1:Nat):Int) i j s i) l (KK SS eC [1,1,1,1,0,1,0] [] (EE SS eC (TQ S dec D h0 g k ok (Fm S F n (m+1) (D.xs.drop i) (D.ys.drop j))))):=by
   intro s l l0;refine BW k n ((m+1:Nat):Int) i j (λH s p E=>i<=p/\p<=D.xs.length+1/\H=D.xs.length+1-p/\LI S dec D h0 g k ok s (S.add U (Zs S G (D.ys.length-j+1) (p-i))) E) _ (λH s p=>?_) (D.xs.length+1-i) (s:=s) (p:=i) ⟨Nat.le_refl _,by omega,rfl,l0.cast (by rw[Nat.sub_self];exact(aN.add_zero _).symm)⟩;intros;rename_i x Z;obtain⟨p1,p2,p3,B⟩:=Z;obtain⟨b2,t2,d2⟩:=B.ex;refine⟨_,IE k,_,_,_,t2.l1,aa (λq=>?_) (λq=>?_)⟩
   ·have h:p<=D.xs.length:=by have:=dT q;omega
    refine BX k n ((m+1:Nat):Int) i j _ H p (λC s q E=>j<=q/\q<=D.ys.length+1/\C=D.ys.length+1-q/\LI S dec D h0 g k ok s (S.add (S.add U (Zs S G (D.ys.length-j+1) (p-i))) (S.bS (G (p-i)) (q-j))) E) _ (λC s q=>?_) (D.ys.length+1-j) (s:=s) (q:=j) ⟨Nat.le_refl _,by omega,rfl,B.cast (by rw[Nat.sub_self];exact(aN.add_zero _).symm)⟩;intros;rename_i g3 M;obtain⟨q1,b,q3,Q⟩:=M;obtain⟨b3,t3,d3⟩:=Q.ex;refine⟨_,IF k,_,_,_,t3.l2,aa (λc=>?_) (λc=>?_)⟩
    ·have y:q<=D.ys.length:=by have:=dT c;omega
     have N:wrap .i64 ((q:Int)+1)=((q+1:Nat):Int):=by rw[aB (by omega) (by omega)];omega
     have X:S.bS (G (p-i)) (q+1-j)=S.add (S.bS (G (p-i)) (q-j)) (G (p-i) (q-j)):=by rw[show q+1-j=(q-j)+1 by omega];rfl
     rw[x1,x2];refine Yg u r Q p1 h q1 y (hf:=rfl) (rest:=λt=>ih (by omega) (by omega) (by omega) h y t) λz g4 l4=>?_;rw[N];refine gY (D.ys.length+1-(q+1)) (by omega) ⟨by omega,by omega,rfl,l4.cast ?_⟩;rw[X,<-aN.add_assoc];congr 1;rw[hG,Y];dsimp only;rw[<-Gp _ p1,<-Gp _ q1,hF]
    ·have y:q=D.ys.length+1:=by have:=dF c;omega
     have N:wrap .i64 ((p:Int)+1)=((p+1:Nat):Int):=by rw[aB (by omega) (by omega)];omega
     rw[N];refine gY (D.xs.length+1-(p+1)) (by omega) ⟨by omega,by omega,rfl,Q.cast ?_⟩;rw[y,show D.ys.length+1-j=D.ys.length-j+1 by omega,show p+1-i=(p-i)+1 by omega,aN.add_assoc];rfl
   ·have h:p=D.xs.length+1:=by have:=dF q;omega
    rw[h,show D.xs.length+1-i=D.xs.length-i+1 by omega,<-I]at B;exact B.fin
  refine O7 k n _ i j g _ ⟨_,xg k,_,t.l0,(fO d.kind g).mono ?_⟩;rintro _ l ⟨rfl,o⟩;obtain rfl:g=l:=o.symm;have T:U=S.zero->LI S dec D h0 g k ok (bE D.M.kind) U g:=λc=>⟨⟨ok,t,λe=>⟨e,by rw[c];exact u.zero⟩⟩,Kt.refl k g,oD d.kind⟩
  have A:∀{P:Prop},((((m+1:Nat):Int)==0))=true->P:=λe=>by
   have:((m+1:Nat):Int)=0:=by simpa using e
   omega
  refine⟨_,rfl,aa (λa=>⟨_,IE k,_,_,_,t.l1,aa (λq=>⟨_,IF k,_,_,_,t.l2,aa (λb=>⟨_,xg k,_,t.l0,(Cl _ g).mono ?_⟩) (λb=>aa (λe=>A e) (λ_=>f (T ?_)))⟩) (λq=>aa (λe=>A e) (λ_=>f (T ?_)))⟩) (λa=>aa (λe=>A e) (λ_=>f (T ?_)))⟩
  ·have a:=dT a;have q:(i:Int)=(D.xs.length:Int):=by simpa using q
   have b:(j:Int)=(D.ys.length:Int):=by simpa using b
   rintro _ x ⟨rfl,o⟩;obtain rfl:g=x:=o.symm;exact⟨_,rfl,aa (λe=>A e) (λ_=>f ⟨⟨ok,t,λe=>⟨e,by rw[w,if_pos a,if_pos ⟨by omega,by omega⟩];exact L⟩⟩,Kt.refl k g,OO d.kind⟩)⟩
  ·have b:¬(j:Int)=(D.ys.length:Int):=by simpa using b
   rw[w,if_neg (show ¬(i=D.xs.length/\j=D.ys.length) by omega)];split<;>rfl
  ·have q:¬(i:Int)=(D.xs.length:Int):=by simpa using q
   rw[w,if_neg (show ¬(i=D.xs.length/\j=D.ys.length) by omega)];split<;>rfl
  ·have a:=dF a;rw[w,if_neg a]
end
end
end Go.Proofs.YtaaichlgdgjgjaaGreatDoor
end
section
namespace Go.Proofs.YtaaichlgdgjgjaaGreatDoor
open Go Go.Ab Go.Num
variable{M:bp}
def Ys:Nat->Nat->List UInt8
 |0,_=>[]
 |f+1,n=>if n<10 then[eZ n]else Ys f (n/10)++[eZ (n%10)]
theorem Ov:∀{f n:Nat},n<f->Ys f n=ag n
 |f+1,n,h=>by
  unfold Ys;by_cases c:n<10
  ·rw[if_pos c,dD c]
  ·rw[if_neg c,iu (by omega),Ov (by omega)]
def Ek(n:Nat):List UInt8:=Ys (n+1) n
theorem Cr(n:Nat):ag n=Ek n:=(Ov (Nat.lt_succ_self n)).symm
def YP(s:Bool)(n d:Nat):List UInt8:=(if s=true/\n≠0 then[45]else[])++(Ek n++(if d=1 then[]else 47::Ek d))
theorem aaK(s:Bool)(n d:Nat):cN s n d=YP s n d:=by unfold cN YP;rw[Cr,Cr]
def Un(s:Bool)(n d:Nat):Option (List UInt8):=if 400<(Ek (n/Nat.gcd n d)).length\/400<(Ek (d/Nat.gcd n d)).length then none else some (YP s (n/Nat.gcd n d) (d/Nat.gcd n d))
theorem Vz(s:Bool)(n d:Nat):lQ s n d=Un s n d:=by unfold lQ Un;rw[Cr,Cr,aaK]
def YO(a b:List UInt8):Option (List UInt8):=Un (dI (Num.isNeg a) (Num.val (Num.numOf a)*Num.val (ak b)) (Num.isNeg b) (Num.val (Num.numOf b)*Num.val (ak a))).1 (dI (Num.isNeg a) (Num.val (Num.numOf a)*Num.val (ak b)) (Num.isNeg b) (Num.val (Num.numOf b)*Num.val (ak a))).2 (Num.val (ak a)*Num.val (ak b))
def adv(a b:List UInt8):Option (List UInt8):=Un (Num.isNeg a !=Num.isNeg b) (Num.val (Num.numOf a)*Num.val (Num.numOf b)) (Num.val (ak a)*Num.val (ak b))
def adu(a b:List UInt8):Option (List UInt8):=Un (Num.isNeg a !=Num.isNeg b) (Num.val (Num.numOf a)*Num.val (ak b)) (Num.val (ak a)*Num.val (Num.numOf b))
def adw(a:List UInt8):List UInt8:=YP (!Num.isNeg a) (Num.val (Num.numOf a)) (Num.val (ak a))
theorem SX:qp=YO:=by funext a b;exact Vz _ _ _
theorem adA:CK=adv:=by funext a b;exact Vz _ _ _
theorem adk:Hd=adu:=by funext a b;exact Vz _ _ _
theorem adB:qq=adw:=by funext a;exact aaK _ _ _
def Um(c:Int)(a b:List UInt8):Option (List UInt8):=if c≠2 then some (if Hb c b a<0 then b else a)else if a=di\/b=di then some di else YO a b
def MM(c:Int)(a b:List UInt8):Option (List UInt8):=if a=bE c\/b=bE c then some (bE c)else if a=di\/b=di then some di else if a=iq\/b=iq then some iq else if c=1 then YO a b else adv a b
def Uo(b:Int)(a:List UInt8):Option (List UInt8):=if b=1 then(if dt a [48]>=0 then some [48]else some iq)else if b=3 then(if dt a [49]<=0 then some [49]else some di)else if dt a [49]>=0 then some di else match YO [49] (adw a)with
 |some d=>adu [49] d
 |none=>none
theorem abI:eM=Um:=by funext k a b;unfold eM Um;rw[SX]
theorem IB:dg=MM:=by funext k a b;unfold dg MM;rw[SX,adA]
theorem abX:lR=Uo:=by funext k a;unfold lR Uo;rw[SX,adk,adB];rfl
def aby(b:Int):qn (List UInt8):=⟨bE b,qN b,λa=>a==bE b,Um b,MM b,Uo b⟩
theorem adG(a:Int):aY a=aby a:=by unfold aY aby;rw[abI,IB,abX]
def aeg(M:bp)(a b:List Int):List UInt8×Int:=if(ca M&&(eD a&&eD b))=true then(match eF (aby M.kind) (gm M) a b with|some w=>(w,0)|none=>([],2))else([],1)
theorem B3(M:bp)(a b:List Int):AX M a b=aeg M a b:=by unfold AX aeg;rw[adG]<;>rfl
def LH:bp:=G3 1 [1] [2] [51]
def awB:bp:=G3 1 [1] [2] [53]
def awU:bp:=WU LH awB
def awC:bp:=B7 LH awB [56]
def awS:bp:=uB LH
def awR:bp:=mg LH 2 3
def awT:bp:=Nz LH [55,47,50]
def awL:bp:=DB 1 [2,1,2]
def awH:bp:=G3 2 [] [] [49,47,50]
def awK:bp:=uB awH
theorem aa2:oj [2,1,2]=[1,2]:=by
 have:mq [2,1,2]=[1,2,2]:=by simp[mq,List.mergeSort,List.MergeSort.Internal.splitInTwo]
 unfold oj;rw[this];decide
theorem aa1:awL=⟨1,0,df 1,[⟨[],HM 1 [1,2]⟩,⟨df 1,[]⟩]⟩:=by unfold awL DB;rw[aa2]
theorem acD:Bu 1 [1] [2] [51]=(LH,0):=by unfold Bu;rw[if_pos (by decide +kernel)];rfl
theorem acE:Bu 1 [1] [2] [53]=(awB,0):=by unfold Bu;rw[if_pos (by decide +kernel)];rfl
theorem acM:IH LH awB=(awU,0):=by unfold IH;rw[if_pos (by decide +kernel)];rfl
theorem aa3:dg LH.kind LH.lead awB.lead=some [56]:=by rw[IB];decide +kernel
theorem acF:B8 LH awB [56]=(awC,0):=by unfold B8;rw[if_pos (by decide +kernel)];rfl
theorem acK:GP LH=(awS,0):=by unfold GP;rw[if_pos (by decide +kernel)];rfl
theorem acJ:It LH 2 3=(awR,0):=by unfold It;rw[if_pos (by decide +kernel)];rfl
theorem aa4:dg LH.kind [49,47,50] LH.lead=some [55,47,50]:=by rw[IB];decide +kernel
theorem acL:Iv LH [49,47,50] [55,47,50]=(awT,0):=by unfold Iv;rw[if_pos (by decide +kernel)];rfl
theorem acI:yk 1 [2,1,2]=(awL,0):=by unfold yk;rw[if_pos (by decide)];rfl
theorem acG:Bu 2 [] [] [49,47,50]=(awH,0):=by unfold Bu;rw[if_pos (by decide +kernel)];rfl
theorem acH:GP awH=(awK,0):=by unfold GP;rw[if_pos (by decide +kernel)];rfl
theorem acR:AX awU [1] [2]=([51],0):=by rw[B3];decide +kernel
theorem acS:AX awU [1] [1]=([105,110,102],0):=by rw[B3];decide +kernel
theorem acT:AX awC [1,1] [2,2]=([56],0):=by rw[B3];decide +kernel
theorem acU:AX awS [] []=([48],0):=by rw[B3];decide +kernel
theorem acV:AX awS [1,1] [2,2]=([54],0):=by rw[B3];decide +kernel
theorem acW:AX awS [1] []=([105,110,102],0):=by rw[B3];decide +kernel
theorem acX:AX awR [1] [2]=([105,110,102],0):=by rw[B3];decide +kernel
theorem acY:AX awR [1,1] [2,2]=([54],0):=by rw[B3];decide +kernel
theorem acZ:AX awT [1] [2]=([55,47,50],0):=by rw[B3];decide +kernel
theorem aa5:AX awL [2] [2]=([48],0):=by rw[B3,aa1];decide +kernel
theorem aa6:AX awL [1,2] [1,2]=([105,110,102],0):=by rw[B3,aa1];decide +kernel
theorem aa7:AX awK [] []=([50],0):=by rw[B3];decide +kernel
theorem kN(a:ca M=true)(b:M.af.length<=300)(c:cg M.af<=2000):Small M:=(WX a (by omega)).small b c
theorem JA:Small LH:=kN (by decide +kernel) (by decide +kernel) (by decide +kernel)
theorem aak:Small awB:=kN (by decide +kernel) (by decide +kernel) (by decide +kernel)
theorem aan:Small awU:=kN (by decide +kernel) (by decide +kernel) (by decide +kernel)
theorem acN:Small awC:=kN (by decide +kernel) (by decide +kernel) (by decide +kernel)
theorem S7:Small awS:=kN (by decide +kernel) (by decide +kernel) (by decide +kernel)
theorem aam:Small awR:=kN (by decide +kernel) (by decide +kernel) (by decide +kernel)
theorem acQ:Small awT:=kN (by decide +kernel) (by decide +kernel) (by decide +kernel)
theorem aal:Small awL:=by rw[aa1];exact kN (by decide +kernel) (by decide +kernel) (by decide +kernel)
theorem acO:Small awH:=kN (by decide +kernel) (by decide +kernel) (by decide +kernel)
theorem acP:Small awK:=kN (by decide +kernel) (by decide +kernel) (by decide +kernel)
noncomputable def XS:FD:=cF Tryz.f12 []
theorem S8  (h:ae) (Q:VH) (hx:xR (aI SS.P 22 1 [(0,(.int .i64 1))]) h λ_ A C B=>xR (aI SS.P 22 1 [(0,(.int .i64 2))]) B λ_ F D J=>xR (aI SS.P 22 2 [(0,(.int .i64 1)),(1,(.int .i64 1))]) J λ_ W k7 I=>xR (aI SS.P 22 2 [(0,(.int .i64 2)),(1,(.int .i64 2))]) I λ_ k3 Z k5=>FW SS 13 [(.int .i64 1),(sA (h.next) A C),(sA (B.next) F D),(strOf [51])] k5 λk1 E=>∃k0:LV,∃j9:Int,k1=(.tuple ⟨[(.agg ⟨k0⟩),(.int .i64 j9)]⟩)/\xN (br SS.P 29) E λ_ j8=>xU (ah SS.P 29 (pA (E.next)) (.agg ⟨k0⟩) j8) j8 λ_ j7=>FW SS 13 [(.int .i64 1),(sA (h.next) A C),(sA (B.next) F D),(strOf [53])] j7 λj5 L=>∃j4:LV,∃j3:Int,j5=(.tuple ⟨[(.agg ⟨j4⟩),(.int .i64 j3)]⟩)/\xN (br SS.P 29) L λ_ j2=>xU (ah SS.P 29 (pA (L.next)) (.agg ⟨j4⟩) j2) j2 λ_ H=>au (((j9:Int) !=0)) (Q (.bool false) H) (au (((j3:Int) !=0)) (Q (.bool false) H) (lA 29 H (pA (E.next)) λj0=>lA 29 H (pA (L.next)) λi9=>FW SS 25 [(.agg ⟨j0⟩),(.agg ⟨i9⟩)] H λi7 K=>∃i6:LV,∃i5:Int,i7=(.tuple ⟨[(.agg ⟨i6⟩),(.int .i64 i5)]⟩)/\xN (br SS.P 29) K λ_ i4=>xU (ah SS.P 29 (pA (K.next)) (.agg ⟨i6⟩) i4) i4 λ_ i3=>lA 29 i3 (pA (E.next)) λi2=>lA 29 i3 (pA (L.next)) λi1=>FW SS 31 [(.agg ⟨i2⟩),(.agg ⟨i1⟩)] i3 λh9 P=>∃h8:LV,∃h7:Int,h9=(.tuple ⟨[(.agg ⟨h8⟩),(.int .i64 h7)]⟩)/\xN (br SS.P 29) P λ_ h6=>xU (ah SS.P 29 (pA (P.next)) (.agg ⟨h8⟩) h6) h6 λ_ h5=>lA 29 h5 (pA (E.next)) λh4=>FW SS 33 [(.agg ⟨h4⟩)] h5 λh2 G=>∃h1:LV,∃M:Int,h2=(.tuple ⟨[(.agg ⟨h1⟩),(.int .i64 M)]⟩)/\xN (br SS.P 29) G λ_ g9=>xU (ah SS.P 29 (pA (G.next)) (.agg ⟨h1⟩) g9) g9 λ_ g7=>lA 29 g7 (pA (E.next)) λg6=>FW SS 35 [(.agg ⟨g6⟩),(.int .i64 2),(.int .i64 3)] g7 λg3 N=>∃g2:LV,∃g1:Int,g3=(.tuple ⟨[(.agg ⟨g2⟩),(.int .i64 g1)]⟩)/\xN (br SS.P 29) N λ_ g0=>xU (ah SS.P 29 (pA (N.next)) (.agg ⟨g2⟩) g0) g0 λ_ f9=>lA 29 f9 (pA (E.next)) λf8=>FW SS 37 [(.agg ⟨f8⟩),(strOf [49,47,50])] f9 λf6 V=>∃f5:LV,∃f4:Int,f6=(.tuple ⟨[(.agg ⟨f5⟩),(.int .i64 f4)]⟩)/\xN (br SS.P 29) V λ_ f3=>xU (ah SS.P 29 (pA (V.next)) (.agg ⟨f5⟩) f3) f3 λ_ f2=>xR (aI SS.P 22 3 [(0,(.int .i64 2)),(1,(.int .i64 1)),(2,(.int .i64 2))]) f2 λ_ e9 f0 f1=>FW SS 21 [(.int .i64 1),(sA (f2.next) e9 f0)] f1 λe7 O=>∃e6:LV,∃e5:Int,e7=(.tuple ⟨[(.agg ⟨e6⟩),(.int .i64 e5)]⟩)/\xN (br SS.P 29) O λ_ e4=>xU (ah SS.P 29 (pA (O.next)) (.agg ⟨e6⟩) e4) e4 λ_ e3=>FW SS 13 [(.int .i64 2),nA,nA,(strOf [49,47,50])] e3 λe1 e2=>∃e0:LV,∃d9:Int,e1=(.tuple ⟨[(.agg ⟨e0⟩),(.int .i64 d9)]⟩)/\xN (br SS.P 29) e2 λ_ d8=>xU (ah SS.P 29 (pA (e2.next)) (.agg ⟨e0⟩) d8) d8 λ_ d7=>lA 29 d7 (pA (e2.next)) λd6=>FW SS 33 [(.agg ⟨d6⟩)] d7 λd4 d5=>∃d3:LV,∃d2:Int,d4=(.tuple ⟨[(.agg ⟨d3⟩),(.int .i64 d2)]⟩)/\xN (br SS.P 29) d5 λ_ d1=>xU (ah SS.P 29 (pA (d5.next)) (.agg ⟨d3⟩) d1) d1 λ_ d0=>au (((d9:Int)==0)) (lA 29 d0 (pA (K.next)) λc9=>FW SS 39 [(.agg ⟨c9⟩),(.int .i64 i5),(sA (h.next) A C),(sA (B.next) F D)] d0 λc6 U=>yS c6 λc5=>au ((c5:LB)==[51]) (lA 29 U (pA (K.next)) λc4=>FW SS 39 [(.agg ⟨c4⟩),(.int .i64 i5),(sA (h.next) A C),(sA (h.next) A C)] U λc1 c2=>yS c1 λc0=>au ((c0:LB)==[105,110,102]) (lA 29 c2 (pA (P.next)) λb9=>FW SS 39 [(.agg ⟨b9⟩),(.int .i64 h7),(sA (J.next) W k7),(sA (I.next) k3 Z)] c2 λb7 T=>yS b7 λb6=>au ((b6:LB)==[56]) (lA 29 T (pA (G.next)) λb5=>FW SS 39 [(.agg ⟨b5⟩),(.int .i64 M),nA,nA] T λb3 X=>yS b3 λb2=>au ((b2:LB)==[48]) (lA 29 X (pA (G.next)) λb1=>FW SS 39 [(.agg ⟨b1⟩),(.int .i64 M),(sA (J.next) W k7),(sA (I.next) k3 Z)] X λa9 Y=>yS a9 λa8=>au ((a8:LB)==[54]) (lA 29 Y (pA (G.next)) λa7=>FW SS 39 [(.agg ⟨a7⟩),(.int .i64 M),(sA (h.next) A C),nA] Y λa5 S=>yS a5 λa4=>au ((a4:LB)==[105,110,102]) (lA 29 S (pA (N.next)) λa3=>FW SS 39 [(.agg ⟨a3⟩),(.int .i64 g1),(sA (h.next) A C),(sA (B.next) F D)] S λa1 R=>yS a1 λa0=>au ((a0:LB)==[105,110,102]) (lA 29 R (pA (N.next)) λz=>FW SS 39 [(.agg ⟨z⟩),(.int .i64 g1),(sA (J.next) W k7),(sA (I.next) k3 Z)] R λx y=>yS x λw=>au ((w:LB)==[54]) (lA 29 y (pA (V.next)) λv=>FW SS 39 [(.agg ⟨v⟩),(.int .i64 f4),(sA (h.next) A C),(sA (B.next) F D)] y λt u=>yS t λs=>au ((s:LB)==[55,47,50]) (lA 29 u (pA (O.next)) λr=>FW SS 39 [(.agg ⟨r⟩),(.int .i64 e5),(sA (B.next) F D),(sA (B.next) F D)] u λp q=>yS p λo=>au ((o:LB)==[48]) (lA 29 q (pA (O.next)) λn=>xR (aI SS.P 22 2 [(0,(.int .i64 1)),(1,(.int .i64 2))]) q λ_ k l m=>xR (aI SS.P 22 2 [(0,(.int .i64 1)),(1,(.int .i64 2))]) m λ_ h i j=>FW SS 39 [(.agg ⟨n⟩),(.int .i64 e5),(sA (q.next) k l),(sA (m.next) h i)] j λf g=>yS f λe=>au ((e:LB)==[105,110,102]) (lA 29 g (pA (d5.next)) λd=>FW SS 39 [(.agg ⟨d⟩),(.int .i64 d2),nA,nA] g λb c=>yS b λa=>Q (.bool ((a:LB)==[50])) c) (Q (.bool false) g)) (Q (.bool false) q)) (Q (.bool false) u)) (Q (.bool false) y)) (Q (.bool false) R)) (Q (.bool false) S)) (Q (.bool false) Y)) (Q (.bool false) X)) (Q (.bool false) T)) (Q (.bool false) c2)) (Q (.bool false) U)) (Q (.bool false) d0)))):FW SS 12 [] h Q:=cI XS Tryz.func12 (ai hx)
variable{h:ae}{g:ae}{a:Option Addr}{n:Nat}{k:Nat}{d:List Value}{p:List Int}{t:List UInt8}
theorem U5{c:Nat}{d:List (dx×Value)}(w:Wf g)(b:d.map (·.1)=M.af)(f:ko h g (.slice a n c) d):
  ∃u:dP,ah SS.P 29 (.pointer (some ⟨g.next,0,none⟩)) (.agg ⟨bK M a n c⟩) (g.push mW)=some (undef,u)/\Ok g (u.app (g.push mW))/\MB (u.app (g.push mW)) g.next M a n c:=by
 obtain⟨o,e⟩:=px (cs:=bK M a n c) w ((Ok.refl w).push mW) (aO g mW) (Nat.le_refl _);refine⟨_,kZ (t:=29) uE (cs0:=[.int .i64 0,.int .i64 0,strOf [],.slice none 0 0]) rfl (aO g mW) (cs:=bK M a n c) rfl (uX ..),o,e,?_⟩;have:=f.st;rw[b]at this;exact dy.ok this o
theorem ac6(z:Int):aI SS.P 22 1 [(0,.int .i64 z)]=some (.cells [.int .i64 z] 3 1 true,mR 1 1):=by kernel_rfl
theorem Ye(z y:Int):aI SS.P 22 2 [(0,.int .i64 z),(1,.int .i64 y)]=some (.cells [.int .i64 z,.int .i64 y] 3 1 true,mR 2 2):=by kernel_rfl
theorem aez(z y x:Int):aI SS.P 22 3 [(0,.int .i64 z),(1,.int .i64 y),(2,.int .i64 x)]=some (.cells [.int .i64 z,.int .i64 y,.int .i64 x] 3 1 true,mR 3 3):=by kernel_rfl
theorem sG{cs:List Value}{l:List Int}(h:g.get k=some (.cells cs 3 1 true))(b:cs=wO l)(a:l.length=n):dL g (.slice (some ⟨k,0,none⟩) n n) l:=by
 subst a;subst b;exact .inr ⟨k,0,wO l,l.length,true,3,1,rfl,h,.inl ⟨rfl,rfl⟩,by rw[List.drop_zero,List.take_of_length_le (Nat.le_of_eq (jD l))]⟩
theorem wS(g:ae):dL g (.slice none 0 0) []:= .inl ⟨rfl,rfl⟩
theorem ph{R:bp}{e:Int}{r:bp×Int}(l:FW SS n d g (BR g r))(m:r=(R,e)){Z:ae->List Value->Int->Prop}
  (p:∀(b:ae)(a:Option Addr)(i c:Nat)(u:dP),Ok g b->ah SS.P 29 (.pointer (some ⟨b.next,0,none⟩)) (.agg ⟨bK R a i c⟩) (b.push mW)=some (undef,u)->Ok g (u.app (b.push mW))->MB (u.app (b.push mW)) b.next R a i c->Z b (bK R a i c) e):
  FW SS n d g λv h=>∃cs:LV,∃i:Int,v = .tuple ⟨[.agg ⟨cs⟩,.int .i64 i]⟩/\Z h cs i:=by
 refine l.mono ?_;rintro _ b ⟨a,i,c,t,rfl,f,s,j⟩;rw[m]at f⊢;obtain⟨u,o,q,k⟩:=U5 j.wf f s;exact⟨_,_,rfl,p b a i c u j o (j.trans q) k⟩
theorem nV{c:Nat}{j:List Int}(w:Wf g)(x:MB g k M a n c)(s:Small M){d f:Option Addr}{q i e m:Nat}(r:dL g (.slice d q i) p)(u:dL g (.slice f e m) j)(z:AX M p j=(t,0))
  {Z:List UInt8->ae->Prop} (y:∀b,Ok g b->Z t b):
  FW SS 39 [.agg ⟨bK M a n c⟩,.int .i64 0,.slice d q i,.slice f e m] g λv h=>yS v λl=>Z l h:=by
 refine(Qz w s x.row r u).mono ?_;rintro _ b ⟨rfl,o⟩;rw[z];exact⟨_,rfl,y b o⟩
theorem S9(w:Wf h)(r:nW h):FW SS 12 [] h (λv g=>v = .bool true/\Ok h g):=by
 have o1:=(Ok.refl w).push (.cells [.int .i64 1] 3 1 true);have e:=sG (l:=[1]) (n:=1) (aO h (.cells [.int .i64 1] 3 1 true)) rfl rfl;refine S8 h _ ⟨_,_,_,ac6 1,_,_,_,ac6 2,_,_,_,Ye 1 1,_,_,_,Ye 2 2,?_⟩;generalize h.push (.cells [.int .i64 1] 3 1 true)=g1 at*;have o2:=(Ok.refl o1.wf).push (.cells [.int .i64 2] 3 1 true);have f:=sG (l:=[2]) (n:=1) (aO g1 (.cells [.int .i64 2] 3 1 true)) rfl rfl;generalize g1.push (.cells [.int .i64 2] 3 1 true)=g2 at*;have X:=(Ok.refl o2.wf).push (.cells [.int .i64 1,.int .i64 1] 3 1 true);have t:=sG (l:=[1,1]) (n:=2) (aO g2 (.cells [.int .i64 1,.int .i64 1] 3 1 true)) rfl rfl;generalize g2.push (.cells [.int .i64 1,.int .i64 1] 3 1 true)=g3 at*;have M:=(Ok.refl X.wf).push (.cells [.int .i64 2,.int .i64 2] 3 1 true);have Q:=sG (l:=[2,2]) (n:=2) (aO g3 (.cells [.int .i64 2,.int .i64 2] 3 1 true)) rfl rfl;generalize g3.push (.cells [.int .i64 2,.int .i64 2] 3 1 true)=g4 at*;have q4:=((o1.trans o2).trans X).trans M;have e:=dL.ok e ((o2.trans X).trans M);have f:=dL.ok f (X.trans M);have t:=dL.ok t M;refine ph (C2 M.wf (r.ok q4) e f (by decide)) acD λv5 a n c z8 ob st T b=>⟨_,qS,z8,st,?_⟩
 generalize z8.app (v5.push mW)=v8 at*;have y3:=q4.trans T;have e:=dL.ok e T;have f:=dL.ok f T;refine ph (C2 T.wf (r.ok y3) e f (by decide)) acE λj0 a' n' c' y8 j6 w3 V x=>⟨_,qS,y8,w3,aa (λq=>by cases q) (λ_=>aa (λq=>by cases q) (λ_=>?_))⟩
 generalize y8.app (j0.push mW)=w5 at*;have z6:=y3.trans V;have b:=b.ok V;refine⟨_,b.all,_,x.all,ph (PL V.wf (r.ok z6) JA aak b.row x.row) acM λu2 aU nU cU z4 q0 v3 L B=>⟨_,qS,z4,v3,?_⟩⟩;generalize z4.app (u2.push mW)=w8 at*;have y9:=z6.trans L;have b:=b.ok L;have x:=x.ok L;refine⟨_,b.all,_,x.all,ph (Ml L.wf (r.ok y9) JA aak b.row x.row (λ_=>aa3)) acF λw2 aC nC cC y4 X1 v7 W Z=>⟨_,qS,y4,v7,?_⟩⟩;generalize y4.app (w2.push mW)=w7 at*;have x9:=y9.trans W;have b:=b.ok W;refine⟨_,b.all,ph (JD W.wf (r.ok x9) JA b.row) acK λu8 aS nS cS y7 j9 j3 K s=>⟨_,qS,y7,j3,?_⟩⟩;generalize y7.app (u8.push mW)=u5 at*;have z3:=x9.trans K;have b:=b.ok K;refine⟨_,b.all,ph (C1 K.wf (r.ok z3) JA (by decide) (by decide) b.row) acJ λu3 aR nR cR x5 X3 u7 o E=>⟨_,qS,x5,u7,?_⟩⟩;generalize x5.app (u3.push mW)=w1 at*;have z0:=z3.trans o;have b:=b.ok o;refine⟨_,b.all,ph (PF o.wf (r.ok z0) JA (by decide) b.row (λ_ _=>aa4)) acL λj5 aT nT cT z1 X2 w4 p Y=>⟨_,qS,z1,w4,?_⟩⟩;generalize z1.app (j5.push mW)=J at*;have v6:=z0.trans p;refine⟨_,_,_,aez 2 1 2,?_⟩;have m:=(Ok.refl p.wf).push (.cells [.int .i64 2,.int .i64 1,.int .i64 2] 3 1 true);have v9:=sG (l:=[2,1,2]) (n:=3) (aO J (.cells [.int .i64 2,.int .i64 1,.int .i64 2] 3 1 true)) rfl rfl;generalize J.push (.cells [.int .i64 2,.int .i64 1,.int .i64 2] 3 1 true)=q3 at*;refine ph (XZ m.wf v9 (by decide)) acI λu6 aL nL cL x8 q1 j4 k G=>⟨_,qS,x8,j4,?_⟩
 generalize x8.app (u6.push mW)=R at*;have z2:=(v6.trans m).trans k;refine ph (C2 k.wf (r.ok z2) (wS R) (wS R) (by decide)) acG λv0 aH nH cH x0 j7 j1 j mH=>⟨_,qS,x0,j1,?_⟩
 generalize x0.app (v0.push mW)=j8 at*;have x6:=z2.trans j;refine⟨_,mH.all,ph (JD j.wf (r.ok x6) acO mH.row) acH λz9 aK nK cK I X0 w0 i mK=>⟨_,qS,I,w0,aa (λ_=>?_) (λq=>by cases q)⟩⟩;generalize I.app (z9.push mW)=d at*;have x7:Ok w8 d:=((((((W.trans K).trans o).trans p).trans m).trans k).trans j).trans i;have u4:Ok w7 d:=(((((K.trans o).trans p).trans m).trans k).trans j).trans i;have j2:Ok u5 d:=((((o.trans p).trans m).trans k).trans j).trans i;have v2:Ok w1 d:=(((p.trans m).trans k).trans j).trans i;have v1:Ok J d:=((m.trans k).trans j).trans i;have w9:Ok R d:=j.trans i;have u1:Ok w5 d:=L.trans x7;have P:Ok v8 d:=V.trans u1;have e4:Ok g4 d:=T.trans P;have u0:=x6.trans i;have B:=B.ok x7;have Z:=Z.ok u4;have s:=s.ok j2;have E:=E.ok v2;have Y:=Y.ok v1;have G:=G.ok w9;have e:=dL.ok e P;have f:=dL.ok f P;have t:=dL.ok t e4;have Q:=dL.ok Q e4;refine⟨_,B.all,nV i.wf B aan e f acR λh1 p1=>aa (λ_=>?_) (λq=>by cases q)⟩;have y:=p1;refine⟨_,(B.ok y).all,nV y.wf (B.ok y) aan (dL.ok e y) (dL.ok e y) acS λh2 p2=>aa (λ_=>?_) (λq=>by cases q)⟩;have A:=y.trans p2;refine⟨_,(Z.ok A).all,nV A.wf (Z.ok A) acN (dL.ok t A) (dL.ok Q A) acT λh3 p3=>aa (λ_=>?_) (λq=>by cases q)⟩;have U:=A.trans p3;refine⟨_,(s.ok U).all,nV U.wf (s.ok U) S7 (wS h3) (wS h3) acU λh4 p4=>aa (λ_=>?_) (λq=>by cases q)⟩;have H:=U.trans p4;refine⟨_,(s.ok H).all,nV H.wf (s.ok H) S7 (dL.ok t H) (dL.ok Q H) acV λh5 p5=>aa (λ_=>?_) (λq=>by cases q)⟩;have O:=H.trans p5;refine⟨_,(s.ok O).all,nV O.wf (s.ok O) S7 (dL.ok e O) (wS h5) acW λh6 p6=>aa (λ_=>?_) (λq=>by cases q)⟩;have C:=O.trans p6;refine⟨_,(E.ok C).all,nV C.wf (E.ok C) aam (dL.ok e C) (dL.ok f C) acX λh7 p7=>aa (λ_=>?_) (λq=>by cases q)⟩;have F:=C.trans p7;refine⟨_,(E.ok F).all,nV F.wf (E.ok F) aam (dL.ok t F) (dL.ok Q F) acY λh8 p8=>aa (λ_=>?_) (λq=>by cases q)⟩;have D:=F.trans p8;refine⟨_,(Y.ok D).all,nV D.wf (Y.ok D) acQ (dL.ok e D) (dL.ok f D) acZ λh9 p9=>aa (λ_=>?_) (λq=>by cases q)⟩;have z:=D.trans p9;refine⟨_,(G.ok z).all,nV z.wf (G.ok z) aal (dL.ok f z) (dL.ok f z) aa5 λz7 v4=>aa (λ_=>?_) (λq=>by cases q)⟩;have N:=z.trans v4;refine⟨_,(G.ok N).all,_,_,_,Ye 1 2,_,_,_,Ye 1 2,?_⟩;have y6:=(Ok.refl N.wf).push (.cells [.int .i64 1,.int .i64 2] 3 1 true);have y1:=sG (l:=[1,2]) (n:=2) (aO z7 (.cells [.int .i64 1,.int .i64 2] 3 1 true)) rfl rfl;generalize z7.push (.cells [.int .i64 1,.int .i64 2] 3 1 true)=y0 at*;have y5:=(Ok.refl y6.wf).push (.cells [.int .i64 1,.int .i64 2] 3 1 true);have y2:=sG (l:=[1,2]) (n:=2) (aO y0 (.cells [.int .i64 1,.int .i64 2] 3 1 true)) rfl rfl;generalize y0.push (.cells [.int .i64 1,.int .i64 2] 3 1 true)=q2 at*;have S:=(N.trans y6).trans y5;refine nV S.wf (G.ok S) aal (dL.ok y1 y5) y2 aa6 λz5 w6=>aa (λ_=>?_) (λq=>by cases q);have u:=S.trans w6;refine⟨_,(mK.ok u).all,nV u.wf (mK.ok u) acP (wS z5) (wS z5) aa7 λX4 u9=>⟨rfl,u0.trans (u.trans u9)⟩⟩
section
def EQ(h:ae):VH:=λv g=>v = .bool true/\Ok h g
section
variable {h g:ae}
theorem CZ(d:nW h)(a:Ok h g):FW SS 12 [] g λv c=>yB v λb=>EQ h (.bool b) c:=by
 refine(S9 a.wf (d.ok a)).mono ?_;rintro _ e ⟨rfl,o⟩;exact⟨_,rfl,rfl,a.trans o⟩
theorem Ue{K:Type}{S:aN K}{b:List UInt8->K}(d:pM S b M.kind)(c:ca M=true){xs ys:List Int}(g:eD xs=true)(i:eD ys=true){a:List UInt8}(f:aM M.kind a=true)(k:AN S b M xs ys=b a):HH M M.kind xs ys a=true:=by
 unfold HH;rw[c];rcases Xq d c g i with⟨w,e,h,j⟩|e
 ·rw[e];have:=d.inj h f (j.trans k);subst this;simp
 ·rw[e];simp
variable {kind:Int} {xa ya ua va:Option Addr} {xc yc uc vc:Nat} {xs ys us vs:List Int} {wt:List UInt8}
end
end
theorem Lh(h:Iz M=true):Small M/\M.af.length<=8/\cg M.af<=40/\M.lead.length<=40:=by
 unfold Iz at h;simp only[and_eq_true,decide_eq_true_eq,all_eq_true]at h;obtain⟨d,f,c,g⟩:=h;have b:∀s∈M.af,s.f.length<=40/\∀q∈s.arcs,q.w.length<=40:=λs a=>by
  have:=g s a;unfold KB at this;simp only[and_eq_true,decide_eq_true_eq,all_eq_true]at this;exact this
 refine⟨⟨by omega,by omega,λs a=>by have:=(b s a).1;omega,λs a=>?_,λs a q e=>by have:=(b s a).2 q e;omega,by omega⟩,d,f,c⟩;have:=DF a;omega
theorem ac3(D:TD):bd SS.P 48 [(0,.int .i64 D.M.kind),(1,.slice D.xa D.xs.length D.xc),(2,.slice D.ya D.ys.length D.yc),(3,.agg ⟨bK D.M D.s D.M.af.length D.sc⟩),(4,.bool true)]=some (.agg ⟨D.cs true⟩):=by kernel_rfl
theorem ac5(D:TD):eL SS.P 48 (.agg ⟨D.cs true⟩)=some (.cells (D.cs true) 48 0 true,lk):=by
 cases D.s<;>cases D.xa<;>cases D.ya<;>kernel_rfl
noncomputable def Mn:FD:=cF Tryz.f8 []
theorem JB(R:LV)(H C:Int)(G:OA)(F J:Nat)(I:OA)(D K:Nat)(h:ae)(Q:VH)(hx:xN (eL SS.P 29 (.agg ⟨R⟩)) h λ_ S=>lA 29 S (pA (h.next)) λc3=>FW SS 24 [(.agg ⟨c3⟩)] S λX V=>yB X λL=>au L (FW SS 12 [] V λb c=>yB b λa=>Q (.bool a) c) (FW SS 11 [(.slice G F J),(.slice I D K)] V λc1 N=>yB c1 λc0=>au (!c0) (FW SS 12 [] N λb c=>yB b λa=>Q (.bool a) c) (au (decide ((wrap .i64 ((F:Int)+(D:Int)):Int)>4)) (FW SS 12 [] N λb c=>yB b λa=>Q (.bool a) c) (lA 29 N (pA (h.next)) λb9=>FW SS 35 [(.agg ⟨b9⟩),(.int .i64 H),(.int .i64 C)] N λb7 B=>∃L:LV,∃E:Int,b7=(.tuple ⟨[(.agg ⟨L⟩),(.int .i64 E)]⟩)/\xN (br SS.P 29) B λ_ U=>xU (ah SS.P 29 (pA (B.next)) (.agg ⟨L⟩) U) U λ_ T=>lA 29 T (pA (h.next)) λb2=>FW SS 26 [(.agg ⟨b2⟩)] T λb0 A=>yB b0 λW=>au (!W) (au (((E:Int)==1)) (FW SS 12 [] A λb c=>yB b λa=>Q (.bool a) c) (Q (.bool false) A)) (au (decide ((H:Int)<0)) (au (((E:Int)==1)) (FW SS 12 [] A λb c=>yB b λa=>Q (.bool a) c) (Q (.bool false) A)) (au (decide ((C:Int)<H)) (au (((E:Int)==1)) (FW SS 12 [] A λb c=>yB b λa=>Q (.bool a) c) (Q (.bool false) A)) (au (decide ((C:Int)>30)) (au (((E:Int)==1)) (FW SS 12 [] A λb c=>yB b λa=>Q (.bool a) c) (Q (.bool false) A)) (au (((E:Int) !=0)) (lA 29 A (pA (h.next)) λj=>xR (aI SS.P 86 1 [(0,(.agg ⟨j⟩))]) A λ_ g h i=>FW SS 28 [(.int .i64 E),(sA (A.next) g h)] i λe f=>yB e λd=>au d (FW SS 12 [] f λb c=>yB b λa=>Q (.bool a) c) (Q (.bool false) f)) (lA 29 A (pA (h.next)) λY=>FW SS 20 [(.agg ⟨Y⟩)] A λa6 M=>yB a6 λa5=>au a5 (lA 29 M (pA (B.next)) λa4=>FW SS 20 [(.agg ⟨a4⟩)] M λZ P=>yB Z λa1=>au (!a1) (Q (.bool false) P) (lA 29 P (pA (B.next)) λO=>FW SS 26 [(.agg ⟨O⟩)] P λy z=>yB y λx=>au (!x) (Q (.bool false) z) (fP 29 (pA (B.next)) 0 λw=>lI z w λv=>fP 29 (pA (h.next)) 0 λu=>lI z u λt=>au (((v:Int) !=t)) (Q (.bool false) z) (au (decide ((C:Int)>3)) (FW SS 12 [] z λb c=>yB b λa=>Q (.bool a) c) (fP 29 (pA (h.next)) 0 λs=>lI z s λr=>lA 29 z (pA (h.next)) λq=>xA (bd SS.P 48 [(0,(.int .i64 r)),(1,(.slice G F J)),(2,(.slice I D K)),(3,(.agg ⟨q⟩)),(4,(.bool true))]) λp=>xN (eL SS.P 48 (.agg ⟨p⟩)) z λ_ o=>FW SS 36 [(pA (z.next)),(.int .i64 H),(.int .i64 C),(.int .i64 0),(.int .i64 0)] o λm n=>yS m λl=>fP 48 (pA (z.next)) 4 λk=>lB n k λj=>au (!j) (FW SS 12 [] n λb c=>yB b λa=>Q (.bool a) c) (lA 29 n (pA (B.next)) λi=>fP 29 (pA (h.next)) 0 λh=>lI n h λg=>FW SS 19 [(.agg ⟨i⟩),(.int .i64 g),(.slice G F J),(.slice I D K),(strOf l)] n λe f=>yB e λd=>au d (FW SS 12 [] f λb c=>yB b λa=>Q (.bool a) c) (Q (.bool false) f))))))) (lA 29 M (pA (B.next)) λO=>FW SS 26 [(.agg ⟨O⟩)] M λy z=>yB y λx=>au (!x) (Q (.bool false) z) (fP 29 (pA (B.next)) 0 λw=>lI z w λv=>fP 29 (pA (h.next)) 0 λu=>lI z u λt=>au (((v:Int) !=t)) (Q (.bool false) z) (au (decide ((C:Int)>3)) (FW SS 12 [] z λb c=>yB b λa=>Q (.bool a) c) (fP 29 (pA (h.next)) 0 λs=>lI z s λr=>lA 29 z (pA (h.next)) λq=>xA (bd SS.P 48 [(0,(.int .i64 r)),(1,(.slice G F J)),(2,(.slice I D K)),(3,(.agg ⟨q⟩)),(4,(.bool true))]) λp=>xN (eL SS.P 48 (.agg ⟨p⟩)) z λ_ o=>FW SS 36 [(pA (z.next)),(.int .i64 H),(.int .i64 C),(.int .i64 0),(.int .i64 0)] o λm n=>yS m λl=>fP 48 (pA (z.next)) 4 λk=>lB n k λj=>au (!j) (FW SS 12 [] n λb c=>yB b λa=>Q (.bool a) c) (lA 29 n (pA (B.next)) λi=>fP 29 (pA (h.next)) 0 λh=>lI n h λg=>FW SS 19 [(.agg ⟨i⟩),(.int .i64 g),(.slice G F J),(.slice I D K),(strOf l)] n λe f=>yB e λd=>au d (FW SS 12 [] f λb c=>yB b λa=>Q (.bool a) c) (Q (.bool false) f))))))))))))))):FW SS 8 [(.agg ⟨R⟩),(.int .i64 H),(.int .i64 C),(.slice G F J),(.slice I D K)] h Q:=cI Mn Tryz.func8 (ai hx)
variable{z:Int}
section
section
variable {h g:ae} {A M:bp} {kA km kt:Nat} {a m:Option Addr} {nA nM cA cM:Nat} {xa ya:Option Addr} {xc yc:Nat} {xs ys:List Int}
theorem XL{T:ae->Prop}(v:Wf g)(u:Small A)(t:Small M)(r:MB g kA A a nA cA)(o:MB g km M m nM cM)(e:Ho A=true->Ho M=true)(s:∀i,Ok g i->T i):
  xA (aj SS.P 29 g (pA kA)) λp=>FW SS 20 [(.agg ⟨p⟩)] g λf c=>yB f λk=>au k (xA (aj SS.P 29 c (pA km)) λj=>FW SS 20 [(.agg ⟨j⟩)] c λn d=>yB n λl=>au (!l) (EQ h (.bool false) d) (T d)) (T c):=by
 refine⟨_,r.all,(OU v u r.row).mono ?_⟩;rintro _ z ⟨rfl,b⟩;refine⟨_,rfl,aa (λw=>⟨_,(o.ok b).all,(OU b.wf t (o.ok b).row).mono ?_⟩) (λ_=>s _ b)⟩;rintro _ y ⟨rfl,x⟩;exact⟨_,rfl,aa (λq=>by rw[e w]at q;cases q) (λ_=>s _ (b.trans x))⟩
theorem XM{m:Nat}(c:ca (mg A z m)=true)(b:Ho A=true):Ho (mg A z m)=true:=by
 unfold Ho S2 at*;rw[and_eq_true,all_eq_true]at b;rw[c,Bool.true_and,all_eq_true];intro s a;rcases List.mem_append.1 a with a|a
 ·unfold iV at a;obtain⟨j,_,rfl⟩:=mem_map.1 a;show(if j<m then _ else _:List gj).all xK=true;split<;>rfl
 ·unfold kM at a;obtain⟨j,_,a⟩:=List.mem_flatMap.1 a;obtain⟨t,d,rfl⟩:=mem_map.1 a;exact Yp (b.2 t d)
theorem XO(d:nW h)(e:Ok h g):au (((1:Int)==1)) (FW SS 12 [] g λa c=>yB a λb=>EQ h (.bool b) c) (EQ h (.bool false) g):=aa (λ_=>CZ d e) (λq=>by cases q)
end
end
section
section
variable {h g:ae} {A M:bp} {kA km kt:Nat} {a m:Option Addr} {nA nM cA cM:Nat} {xa ya:Option Addr} {xc yc:Nat} {xs ys:List Int} {rn rm:Int}
abbrev rpT(h:ae)(kA km:Nat)(rn rm:Int)(xa:Option Addr)(F xc:Nat)(ya:Option Addr)(i yc:Nat)(g:ae):Prop:=
 xA (aj SS.P 29 g (pA km)) λf=>FW SS 26 [(.agg ⟨f⟩)] g λA a=>yB A λd=>au (!d) (EQ h (.bool false) a) (xP (aE SS.P 29 (pA km) 0) λz=>xI .i64 (aj SS.P 3 a (.pointer (some z))) λE=>xP (aE SS.P 29 (pA kA) 0) λC=>xI .i64 (aj SS.P 3 a (.pointer (some C))) λJ=>au (((E:Int) !=J)) (EQ h (.bool false) a) (au (decide ((rm:Int)>3)) (FW SS 12 [] a λj K=>yB j λl=>EQ h (.bool l) K) (xP (aE SS.P 29 (pA kA) 0) λr=>xI .i64 (aj SS.P 3 a (.pointer (some r))) λy=>xA (aj SS.P 29 a (pA kA)) λv=>xA (bd SS.P 48 [(0,(.int .i64 y)),(1,(.slice xa F xc)),(2,(.slice ya i yc)),(3,(.agg ⟨v⟩)),(4,(.bool true))]) λx=>xN (eL SS.P 48 (.agg ⟨x⟩)) a λL m=>FW SS 36 [(pA (a.next)),(.int .i64 rn),(.int .i64 rm),(.int .i64 0),(.int .i64 0)] m λD b=>yS D λB=>xP (aE SS.P 48 (pA (a.next)) 4) λG=>xB (aj SS.P 4 b (.pointer (some G))) λk=>au (!k) (FW SS 12 [] b λt q=>yB t λp=>EQ h (.bool p) q) (xA (aj SS.P 29 b (pA km)) λI=>xP (aE SS.P 29 (pA kA) 0) λH=>xI .i64 (aj SS.P 3 b (.pointer (some H))) λo=>FW SS 19 [(.agg ⟨I⟩),(.int .i64 o),(.slice xa F xc),(.slice ya i yc),(strOf B)] b λu c=>yB u λn=>au n (FW SS 12 [] c λw e=>yB w λs=>EQ h (.bool s) e) (EQ h (.bool false) c)))))
theorem VG(y:nW h)(O:Ok h g){n:Int}{b:Nat}(J:Small A)(w:ca A=true)(E:Small (mg A n b))(I:ca (mg A n b)=true)(Y:0<=n/\n<=(b:Int)/\(b:Int)<=30)(k:MB g km (mg A n b) m nM cM)(d:MB g kA A a nA cA)(o:dL g (.slice xa xs.length xc) xs)(p:dL g (.slice ya ys.length yc) ys)(F:eD xs=true)(H:eD ys=true)(B:xs.length<=bC xc)(C:ys.length<=bC yc):
  rpT h kA km n (b:Int) xa xs.length xc ya ys.length yc g:=by
 refine⟨_,k.all,(q7 O.wf E k.row).mono ?_⟩;rintro _ e ⟨rfl,f⟩;have s:=O.trans f;have k:=k.ok f;have d:=d.ok f;refine⟨_,rfl,aa (λq=>by rw[I]at q;cases q) (λ_=>⟨_,du _,_,k.l0,_,du _,_,d.l0,aa (λq=>?_) (λ_=>aa (λ_=>CZ y s) (λX=>?_))⟩)⟩
 ·have:(mg A n b).kind=A.kind:=rfl;rw[this]at q;simp at q
 have G:=d.len;subst G;have o:=dL.ok o f;have p:=dL.ok p f
 let D:TD:=⟨A,a,cA,xa,xc,xs,ya,yc,ys⟩
 have Q:TGd D e:=⟨f.wf,d.row,o,B,p,C,J,w,F,H⟩
 refine⟨_,du _,_,d.l0,_,d.all,_,ac3 D,_,ac5 D,?_⟩;have R:=(Ok.refl f.wf).push (.cells (D.cs true) 48 0 true);have t:zJ D e (e.push (.cells (D.cs true) 48 0 true)) e.next true:=⟨aO e _,R,Nat.le_refl _⟩
 generalize e.push (.cells (D.cs true) 48 0 true)=g3 at*;generalize e.next=kt at*;have l:=qB w;obtain⟨K,S,u,x⟩:=xx l.kind;have L:=pR J w;refine(ZR (S:=S) (dec:=u) (D:=D) x Q b (n:=n) (i:=0) (j:=0) (by omega) (by omega) (by omega) (Nat.zero_le _) (Nat.zero_le _) t).mono ?_;rintro _ Z ⟨z,b1,rfl,N,k1,V,U⟩;have c:=N.ok;have v:=s.trans c;have r:=k.ok c;refine⟨z,rfl,_,IG kt,_,N.l4,aa (λ_=>CZ y v) (λq=>⟨_,r.all,_,du _,_,(d.ok c).l0,(Qx c.wf E r.row (dL.ok o c) (dL.ok p c) A.kind z).mono ?_⟩)⟩;rintro _ g5 ⟨rfl,T⟩;refine⟨_,rfl,aa (λ_=>CZ y (v.trans T)) (λP=>?_)⟩;exfalso;obtain⟨_,W⟩:=U (by simpa using q);have:=Ue (M:=mg A n b) x I F H V (by
  rw[ZX L l.kind (Hv l.kind x)];exact W.symm)
 rw[show A.kind=(mg A n b).kind from rfl,this]at P
 cases P
theorem JC(w:Wf h)(j:nW h)(Y:Bnd A)(X:dy h (.slice a nA cA) A.af)(G:dL h (.slice xa xs.length xc) xs)(K:dL h (.slice ya ys.length yc) ys)(U:xs.length<=281474976710656)(hy:ys.length<=281474976710656)(B:xs.length<=bC xc)(C:ys.length<=bC yc):
  FW SS 8 [.agg ⟨bK A a nA cA⟩,.int .i64 rn,.int .i64 rm,.slice xa xs.length xc,.slice ya ys.length yc] h (EQ h):=by
 obtain⟨b,E⟩:=fv w X;refine JB (bK A a nA cA) rn rm xa _ xc ya _ yc h _ ⟨_,iS A a nA cA,?_⟩;generalize h.push (Bm A a nA cA)=g2 at*;generalize h.next=kA at*;refine⟨_,b.all,(Ur E.wf Y b.row).mono ?_⟩;rintro _ g5 ⟨rfl,L⟩;have d:=E.trans L;refine⟨_,rfl,aa (λ_=>CZ j d) (λq=>(QB (dL.ok G d) (dL.ok K d) U hy).mono ?_)⟩;rw[Bool.not_eq_false']at q;obtain⟨r,l,o,P⟩:=Lh q;rintro _ S ⟨rfl,e0⟩;obtain rfl:g5=S:=e0.symm;have b:=b.ok L;refine⟨_,rfl,aa (λ_=>CZ j d) (λp=>aa (λ_=>CZ j d) (λ_=>⟨_,b.all,ph (C1 d.wf (j.ok d) r l o b.row) (e:=(It A rn rm).2) (R:=(It A rn rm).1) rfl λv m' nM cM u ob st D i=>⟨_,qS,u,st,?_⟩⟩))⟩;rw[Bool.not_eq_false']at p;unfold NW at p;rw[and_eq_true,and_eq_true]at p;obtain⟨_,Q,V⟩:=p;generalize u.app (v.push mW)=g8 at*;generalize v.next=km at*;have t:=d.trans D;have b:=b.ok D;refine⟨_,b.all,(q7 t.wf r b.row).mono ?_⟩;rintro _ O ⟨rfl,x⟩;have g:=t.trans x;have b:=b.ok x;have bad:¬(ca A=true/\0<=rn/\rn<=rm/\rm<=30)->au ((((It A rn rm).2:Int)==1)) (FW SS 12 [] O λF M=>yB F λI=>EQ h (.bool I) M) (EQ h (.bool false) O):=λc=>by
  have:It A rn rm=(uJ,1):=if_neg c;rw[this];exact XO j g
 refine⟨_,rfl,aa (λq=>bad λc=>by rw[c.1]at q;cases q) (λs=>aa (λq=>bad λc=>by have:=dT q;omega) (λN=>aa (λq=>bad λc=>by have:=dT q;omega) (λJ=>aa (λq=>bad λc=>by have:=dT q;omega) (λz=>?_))))⟩;rw[Bool.not_eq_false']at s;have N:=dF N;have J:=dF J;have z:=dF z;obtain⟨f,rfl⟩:∃f:Nat,rm=(f:Int):=⟨rm.toNat,by omega⟩
 have Z:It A rn (f:Int)=(mg A rn f,0):=if_pos ⟨s,by omega,by omega,by omega⟩;rw[Z]at i⊢;dsimp only at i⊢;have i:=i.ok x;have W:=WX s (by omega);obtain⟨y,nU,sU⟩:=adJ (n:=rn) (m:=f) W (by omega) l o;have e1:f*A.af.length<=30*8:=Nat.mul_le_mul (by omega) l;have e2:f*(cg A.af+A.af.length)<=30*48:=Nat.mul_le_mul (by omega) (by omega);have H:Small (mg A rn f):=y.small (by omega) (by omega);refine aa (λq=>by cases q) (λ_=>?_);exact XL (T:=rpT h kA km rn (f:Int) xa xs.length xc ya ys.length yc) g.wf r H b i (XM y.valid) λg' k=>VG j (g.trans k) r s H y.valid ⟨by omega,by omega,by omega⟩ (i.ok k) (b.ok k) (dL.ok G (g.trans k)) (dL.ok K (g.trans k)) Q V B C
end
end
end Go.Proofs.YtaaichlgdgjgjaaGreatDoor
end
section
namespace Go.Proofs.YtaaichlgdgjgjaaGreatDoor
open Go.Shelf Go.RowKit Go.Lib Go.Sort
def Li:Go.Shelf.Ren:=⟨fun|5=>81|8=>101|7=>100|19=>134|20=>135|10=>125|11=>126|12=>127|13=>128|14=>129|15=>130|16=>131|17=>132|18=>133|30=>160|31=>161|32=>162|33=>163|34=>164|35=>165|40=>182|n=>n,fun|23=>22|25=>3|3=>3|32=>111|22=>22|0=>0|44=>148|46=>150|4=>4|36=>140|35=>139|41=>145|5=>5|9=>9|53=>166|57=>170|63=>185|64=>186|n=>n,fun|n=>n⟩
theorem ZG:Go.Proofs.SlLaysM.n5 Tryz.prog Li:={
 mixed:=by kernel_rfl,
 f5:=⟨Tryz.f81.name,by decide,Tryz.func81.trans (congrArg some (by kernel_rfl))⟩,
 f7:=⟨Tryz.f100.name,by decide,Tryz.func100.trans (congrArg some (by kernel_rfl))⟩,
 f8:=Tryz.func101.trans (congrArg some (by kernel_rfl)),
 f10:=⟨Tryz.f125.name,by decide,Tryz.func125.trans (congrArg some (by kernel_rfl))⟩,
 f11:=⟨Tryz.f126.name,by decide,Tryz.func126.trans (congrArg some (by kernel_rfl))⟩,
 f12:=⟨Tryz.f127.name,by decide,Tryz.func127.trans (congrArg some (by kernel_rfl))⟩,
 f13:=⟨Tryz.f128.name,by decide,Tryz.func128.trans (congrArg some (by kernel_rfl))⟩,
 f14:=⟨Tryz.f129.name,by decide,Tryz.func129.trans (congrArg some (by kernel_rfl))⟩,
 f15:=⟨Tryz.f130.name,by decide,Tryz.func130.trans (congrArg some (by kernel_rfl))⟩,
 f16:=⟨Tryz.f131.name,by decide,Tryz.func131.trans (congrArg some (by kernel_rfl))⟩,
 f17:=⟨Tryz.f132.name,by decide,Tryz.func132.trans (congrArg some (by kernel_rfl))⟩,
 f18:=⟨Tryz.f133.name,by decide,Tryz.func133.trans (congrArg some (by kernel_rfl))⟩,
 f19:=Tryz.func134.trans (congrArg some (by kernel_rfl)),
 f20:=Tryz.func135.trans (congrArg some (by kernel_rfl)),
 f30:=⟨Tryz.f160.name,by decide,Tryz.func160.trans (congrArg some (by kernel_rfl))⟩,
 f31:=Tryz.func161.trans (congrArg some (by kernel_rfl)),
 f32:=Tryz.func162.trans (congrArg some (by kernel_rfl)),
 f33:=⟨Tryz.f163.name,by decide,Tryz.func163.trans (congrArg some (by kernel_rfl))⟩,
 f34:=⟨Tryz.f164.name,by decide,Tryz.func164.trans (congrArg some (by kernel_rfl))⟩,
 f35:=⟨Tryz.f165.name,by decide,Tryz.func165.trans (congrArg some (by kernel_rfl))⟩,
 f40:=⟨Tryz.f182.name,by decide,Tryz.func182.trans (congrArg some (by kernel_rfl))⟩,
 t0:=Tryz.underlying0,
 a0:=Tryz.isAgg0,
 z0:=Tryz.sizeOf0,
 v0:=Tryz.zeroValue0,
 t3:=Tryz.underlying3,
 a3:=Tryz.isAgg3,
 z3:=Tryz.sizeOf3,
 v3:=Tryz.zeroValue3,
 t4:=Tryz.underlying4,
 a4:=Tryz.isAgg4,
 z4:=Tryz.sizeOf4,
 v4:=Tryz.zeroValue4,
 t5:=Tryz.underlying5,
 a5:=Tryz.isAgg5,
 z5:=Tryz.sizeOf5,
 v5:=Tryz.zeroValue5,
 t9:=Tryz.underlying9,
 a9:=Tryz.isAgg9,
 z9:=Tryz.sizeOf9,
 v9:=Tryz.zeroValue9,
 t22:=Tryz.underlying22,
 a22:=Tryz.isAgg22,
 z22:=Tryz.sizeOf22,
 v22:=Tryz.zeroValue22,
 t23:=Tryz.underlying22,
 a23:=Tryz.isAgg22,
 z23:=Tryz.sizeOf22,
 v23:=Tryz.zeroValue22,
 t25:=Tryz.underlying3,
 a25:=Tryz.isAgg3,
 z25:=Tryz.sizeOf3,
 v25:=Tryz.zeroValue3,
 t32:=Tryz.underlying111,
 a32:=Tryz.isAgg111,
 z32:=Tryz.sizeOf111,
 v32:=Tryz.zeroValue111,
 t35:=Tryz.underlying139,
 a35:=Tryz.isAgg139,
 z35:=Tryz.sizeOf139,
 v35:=Tryz.zeroValue139,
 t36:=Tryz.underlying140,
 a36:=Tryz.isAgg140,
 z36:=Tryz.sizeOf140,
 v36:=Tryz.zeroValue140,
 t41:=Tryz.underlying145,
 a41:=Tryz.isAgg145,
 z41:=Tryz.sizeOf145,
 v41:=Tryz.zeroValue145,
 t44:=Tryz.underlying148,
 a44:=Tryz.isAgg148,
 z44:=Tryz.sizeOf148,
 v44:=Tryz.zeroValue148,
 t46:=Tryz.underlying150,
 a46:=Tryz.isAgg150,
 z46:=Tryz.sizeOf150,
 v46:=Tryz.zeroValue150,
 t53:=Tryz.underlying166,
 a53:=Tryz.isAgg166,
 z53:=Tryz.sizeOf166,
 v53:=Tryz.zeroValue166,
 t57:=Tryz.underlying170,
 a57:=Tryz.isAgg170,
 z57:=Tryz.sizeOf170,
 v57:=Tryz.zeroValue170,
 t63:=Tryz.underlying185,
 a63:=Tryz.isAgg185,
 z63:=Tryz.sizeOf185,
 v63:=Tryz.zeroValue185,
 t64:=Tryz.underlying186,
 a64:=Tryz.isAgg186,
 z64:=Tryz.sizeOf186,
 v64:=Tryz.zeroValue186 }
end Go.Proofs.YtaaichlgdgjgjaaGreatDoor
end
section
namespace Go.Proofs.YtaaichlgdgjgjaaGreatDoor
open Go Go.Ab Go.RowKit
theorem DK:oY Tryz.prog Xw 222 re:=Kx (fn:=(Tryz.prog.funcs[222]?).getD default) (by kernel_rfl) (by kernel_rfl) (by kernel_rfl) (by kernel_rfl) (by kernel_rfl)
theorem BK:oY Tryz.prog Xw 226 pE:=HJ (fn:=(Tryz.prog.funcs[226]?).getD default) (by kernel_rfl) (by kernel_rfl) (by kernel_rfl) (by kernel_rfl) (by kernel_rfl)
theorem Fy:oY Tryz.prog Xw 166 (xe Tryz.prog Xw Tryz.f166 (ND F0) (Ix (Ix F0)) 5):=
 TM O8.names Tryz.func166 rfl rfl rfl rfl rfl rfl rfl Tryz.func183 rfl HI (by kernel_rfl) (by kernel_rfl)
theorem NJ:oY Tryz.prog Xw 81 D6:=Wg ZG (f5:=Tryz.f81) Tryz.func81 (by kernel_rfl)
theorem U4:rJ Tryz.prog Xw prS:=ou NJ (ou DK (ou BK (ou Fy KH)))
end Go.Proofs.YtaaichlgdgjgjaaGreatDoor
end
section
namespace Go.Proofs.YtaaichlgdgjgjaaGreatDoor
open Go Go.Ab Go.ChangeShapes Go.RowKit
variable{n:Nat}{J:dH}{s:List UInt8}{v:Value}{w:Value}{h:ae}
section
theorem co3:Tryz.prog.cellsOf 3=1:=by kernel_rfl
theorem co9:Tryz.prog.cellsOf 9=1:=by kernel_rfl
theorem aeH:Tryz.prog.cellsOf 27=1:=by kernel_rfl
theorem aeI:Tryz.prog.cellsOf 29=4:=by kernel_rfl
theorem aeJ:Tryz.prog.cellsOf 71=1:=by kernel_rfl
theorem adh:Tryz.prog.cellsOf 73=2:=by kernel_rfl
theorem adg:Tryz.prog.cellsOf 70=4:=by kernel_rfl
theorem adf:Tryz.prog.cellsOf 150=1:=by kernel_rfl
theorem aev:Tryz.prog.bytesOf 70=40:=by kernel_rfl
theorem HQ{a c:Type}{p:a->c}{P:a->Prop}:∀{l:List c},(∀x∈l,∃q,x=p q/\P q)->∃k:List a,l=k.map p/\∀q∈k,P q
 |[],_=>⟨[],rfl,λ_ h=>by cases h⟩
 | x::l,h=>by
  obtain⟨q,rfl,e⟩:=h x (List.mem_cons_self ..);obtain⟨k,rfl,f⟩:=HQ λx d=>h x (List.mem_cons_of_mem _ d);exact⟨q::k,rfl,λy b=>by
   rcases mem_cons.1 b with rfl|b
   ·exact e
   ·exact f y b⟩
def SV(W:World)(q:dx×Value):Prop:=A9 W q.2 4 (q.1.arcs.map fK)/\q.1.arcs.length<=281474976710656
section
variable {H:Type} {enc:TypeId×Value->H} {W:World} {held:Bool}
theorem S3{cs:List Value}{y:DataW H×List MemPlace}(h:DataW.trod enc Tryz.prog W 0 (λ_=>true) held n 70 cs=some y):∃q:gj,cs=fK q/\True:=by
 obtain⟨r,m,_,_,l,a,b⟩:=DataW.trod_struct Tryz.underlying70 h;rw[adg]at l;have a:r.length=4:=a
 match r,a,cs,l with
 |[k,v,g,p],_,[f,c,e,d],_=>
  obtain⟨i,z,_,_⟩:=DataW.trod_int (x:=k) Tryz.underlying3 (show DataW.trod enc Tryz.prog W 0 (λ_=>true) held m 3 (([f,c,e,d].drop 0).take (Tryz.prog.cellsOf 3))=some k from b 0 _ rfl);obtain⟨o,j,_,_⟩:=DataW.trod_int (x:=v) Tryz.underlying3 (show DataW.trod enc Tryz.prog W 0 (λ_=>true) held m 3 (([f,c,e,d].drop 1).take (Tryz.prog.cellsOf 3))=some v from b 1 _ rfl);obtain⟨s,w,_,_⟩:=DataW.trod_string (x:=g) Tryz.underlying9 (show DataW.trod enc Tryz.prog W 0 (λ_=>true) held m 9 (([f,c,e,d].drop 2).take (Tryz.prog.cellsOf 9))=some g from b 2 _ rfl);obtain⟨t,u,_,_⟩:=DataW.trod_int (x:=p) Tryz.underlying3 (show DataW.trod enc Tryz.prog W 0 (λ_=>true) held m 3 (([f,c,e,d].drop 3).take (Tryz.prog.cellsOf 3))=some p from b 3 _ rfl);simp only[co3,co9,List.drop,List.take,List.cons.injEq,and_true]at z j w u;subst z;subst j;subst w;subst u;exact⟨⟨i,o,s.data.toList,t⟩,rfl,trivial⟩
theorem NL{cs:List Value}{y:DataW H×List MemPlace}(h:DataW.trod enc Tryz.prog W 0 (λ_=>true) held n 73 cs=some y)(d:(y.1.weights Tryz.prog 73).all (· <=reachBytes)=true):∃q:dx×Value,cs=vp q/\SV W q:=by
 obtain⟨k,o,m,rfl,c,i,f⟩:=trod_struct2 Tryz.underlying73 h;rw[adh]at c
 match cs,c with
 |[u,g],_=>
  obtain⟨s,e,_,_⟩:=DataW.trod_string Tryz.underlying9 i;simp only[DataW.weights,Tryz.underlying73,DataW.weightsEach,List.map,List.append_nil,List.all_append,and_eq_true]at d;obtain⟨v,t,b,r,j,a⟩:=Aq (P:=Tryz.prog) (p:=λcs=>∃q:gj,cs=fK q/\True) Tryz.underlying71 adg (by decide) (λn cs y h _=>S3 h) f d.2;simp only[co9,aeJ,List.drop,List.take,List.cons.injEq,and_true]at e b;subst e;subst b;obtain⟨l,rfl,_⟩:=HQ j;refine⟨(⟨s.data.toList,l⟩,g),rfl,r,?_⟩;rw[aev,lM]at a;unfold reachBytes at a;show l.length<=_;omega
theorem HP{cs:List Value}{y:DataW H×List MemPlace}(h:DataW.trod enc Tryz.prog W 0 (λ_=>true) held n 29 cs=some y)(e:(y.1.weights Tryz.prog 29).all (· <=reachBytes)=true):
  ∃(k s:Int)(o:List UInt8)(v:Value)(j:List (dx×Value)),cs=[.int .i64 k,.int .i64 s,strOf o,v]/\A9 W v 2 (j.map vp)/\∀q∈j,SV W q:=by
 obtain⟨A,m,_,rfl,d,a,c⟩:=DataW.trod_struct Tryz.underlying29 h;rw[aeI]at d;have a:A.length=4:=a
 match A,a,cs,d with
 |[w,C,t,z],_,[i,f,g,b],_=>
  obtain⟨k,E,_,_⟩:=DataW.trod_int (x:=w) Tryz.underlying3 (show DataW.trod enc Tryz.prog W 0 (λ_=>true) held m 3 (([i,f,g,b].drop 0).take (Tryz.prog.cellsOf 3))=some w from c 0 _ rfl);obtain⟨s,u,_,_⟩:=DataW.trod_int (x:=C) Tryz.underlying3 (show DataW.trod enc Tryz.prog W 0 (λ_=>true) held m 3 (([i,f,g,b].drop 1).take (Tryz.prog.cellsOf 3))=some C from c 1 _ rfl);obtain⟨o,D,_,_⟩:=DataW.trod_string (x:=t) Tryz.underlying9 (show DataW.trod enc Tryz.prog W 0 (λ_=>true) held m 9 (([i,f,g,b].drop 2).take (Tryz.prog.cellsOf 9))=some t from c 2 _ rfl);simp only[DataW.weights,Tryz.underlying29,DataW.weightsEach,List.map,List.append_nil,List.all_append,and_eq_true]at e;obtain⟨v,G,B,r,F,_⟩:=Aq (P:=Tryz.prog) (x:=z) (p:=λcs=>∃q:dx×Value,cs=vp q/\SV W q) Tryz.underlying27 adh (by decide) (λn cs y h e=>NL h e) (show DataW.trod enc Tryz.prog W 0 (λ_=>true) held m 27 (([i,f,g,b].drop 3).take (Tryz.prog.cellsOf 27))=some z from c 3 _ rfl) e.2.2.2;simp only[co3,co9,aeH,List.drop,List.take,List.cons.injEq,and_true]at E u D B;subst E;subst u;subst D;subst B;obtain⟨l,rfl,d⟩:=HQ F;exact⟨k,s,o.data.toList,b,l,rfl,r,d⟩
end
section
variable {W:World}
theorem PB(q:gj):(fK q).all Go.Ab.bare=true:=rfl
theorem ZK(h:aF J v w):bo J [strOf s,v] [strOf s,w]:= .cons (.string _) (.cons h (.nil J))
theorem Gg:∀(a:List (dx×Value)),(∀q∈a,SV W q)->∀{c:dH}{h:ae},vy c h W->
  ∃(d:dH)(m:ae)(b:List (dx×Value)),vy d m W/\c.le d/\Ok h m/\b.length=a.length/\b.map (·.1)=a.map (·.1)/\(∀p∈b,mr m p.2 p.1.arcs)/\
   ∀(k:Nat) r s,(b.map vp)[k]?=some r->(a.map vp)[k]?=some s->bo d r s
 |[],_,c,h,i=>⟨c,h,[],i,c.le_refl,Ok.refl i.wf,rfl,rfl,λ_ f=>absurd f (by simp),λk v q h=>absurd h (by simp)⟩
 | q::a,u,c,h,i=>by
  obtain⟨r,_⟩:=u q (List.mem_cons_self ..);obtain⟨K,g,v,A,G,z,C,I⟩:=i.row (e:=70) r (rs:=q.1.arcs.map fK) rfl (λk r s g j=>by
    rw[g]at j;obtain rfl:=oI j;rw[getElem?_map]at g;obtain⟨x,_,rfl⟩:=Option.map_eq_some_iff.1 g;exact bo.yy (PB x))
  obtain⟨t,j,b,B,y,w,D,f,F,H⟩:=Gg a (λq f=>u q (List.mem_cons_of_mem _ f)) A;refine⟨t,j,(q.1,v)::b,B,dH.le_trans G y,z.trans w,by simp[D],by simp[f],λp o=>?_,λk J E n l=>?_⟩
  ·rcases mem_cons.1 o with rfl|o
   ·exact mr.ok I w
   ·exact F p o
  ·cases k with
   |zero=>
    simp only[List.map_cons,List.getElem?_cons_zero,Option.some.injEq]at n l;subst n;subst l;exact ZK (C.mono y)
   |succ k=>exact H k J E (by simpa using n) (by simpa using l)
theorem Kl(i:vy J h W){v:Value}{b:List (dx×Value)}(r:A9 W v 2 (b.map vp))(y:∀q∈b,SV W q)(F:∀a,v = .slice (some a) 0 0->a.spot=none/\∃cs t x,W.heap[a.block]?=some (.cells cs t x)):
  ∃c f d,vy c f W/\J.le c/\Ok h f/\aF c d v/\dy f d (b.map (·.1)):=by
 obtain⟨H,I,j,n,B,l,u,m,A,D⟩:=Gg b y i;obtain⟨g,z,d,o,G,k,w,s,C⟩:=n.VL (e:=73) (rs:=j.map vp) r (by simp[u]) D F;exact⟨g,z,d,o,dH.le_trans B G,l.trans k,w,j,m,s,λp E=>mr.ok (A p E) k,C⟩
end
end
end Go.Proofs.YtaaichlgdgjgjaaGreatDoor
end
section
namespace Go.Proofs.YtaaichlgdgjgjaaGreatDoor
open Go Go.ChangeShapes Go.WideShapes Go.ChangeAt Go.RowKit
theorem VY:ownKnob Tryz.prog.godebug=none:=by kernel_rfl
abbrev nr{H:Type}:List (String×DataW H):=[("math/bits.deBruijn32tab",Rows.laid_math_bits_deBruijn32tab),("math/bits.deBruijn64tab",Rows.laid_math_bits_deBruijn64tab),("internal/strconv.uint64pow10",Rows.laid_internal_strconv_uint64pow10)]
def abz:DataW Unit->Value
 |.lit (.int k n)=> .int k n
 |_=>undef
def C9:DataW Unit->Array Value
 |.agg l=>(l.map abz).toArray
 |_=> #[]
def Uv(c:Array Value):Obj->Obj
 |.cells _ t a=> .cells c t a
 |o=>o
noncomputable def Gd(a:Os):World:=
 { World.holding Tryz.prog a ⟨#[],#[],[]⟩with heap:=(((World.holding Tryz.prog a ⟨#[],#[],[]⟩).heap.modify 2 (Uv (C9 Rows.laid_math_bits_deBruijn32tab))).modify 3 (Uv (C9 Rows.laid_math_bits_deBruijn64tab))).modify 1 (Uv (C9 Rows.laid_internal_strconv_uint64pow10)) }
theorem Fg(b:Os)(a:Array Value):laidMetH Tryz.prog nr ((Gd b).forCall (λ_ _=>0) ⟨#[],a,[]⟩).memory:=
 laidMetH_of_parts (laidMet_of_run' 24 (by kernel_rfl) (by kernel_rfl)) (by kernel_rfl)
end Go.Proofs.YtaaichlgdgjgjaaGreatDoor
end
section
namespace Go.Proofs.YtaaichlgdgjgjaaGreatDoor
open Go Go.Ab Go.ChangeShapes Go.WideShapes Go.RowKit
variable{v:Value}
section
theorem Dy{P:Program}{w:World}:∀{l:List (String×DataW Unit)}{c:List MemPlace},DataW.LaidVars P w l c->∀n d,(n,d)∈l->
  ∃g t cs a p,P.globalNamed n=some g/\(P.globals[g]?).map (·.type)=some t/\w.var? P n=some cs/\DataW.trod (λ_=>()) P w 0 (λ_=>true) false a t cs.toList=some (d,p)
 |[],_,_,_,_,b=>by cases b
 | (s,o)::r,c,h,n,d,b=>by
  obtain⟨g,t,cs,a,p,q,i,j,f,k,m,_⟩:=h;rcases mem_cons.1 b with e|e
  ·cases e
   exact⟨g,t,cs,a,p,i,j,f,k⟩
  ·exact Dy m n d e
theorem U3:Rows.laid_internal_strconv_uint64pow10=(.agg ((List.range 20).map λi=>(.lit (.int .u64 ((10^i:Nat):Int)):DataW Unit)):DataW Unit):=by kernel_rfl
section
variable {W:World}
theorem Za(j:laidMetH Tryz.prog nr W):∃cs t a,W.heap[1]?=some (.cells cs t a)/\∀s,gp s Lo 0 cs:=by
 rw[MakeChecks.laidMetH_plain _ _ _ (by kernel_rfl)]at j;obtain⟨F,l,_⟩:=j;obtain⟨g,t,cs,x,p,r,E,b,C⟩:=Dy l "internal/strconv.uint64pow10" Rows.laid_internal_strconv_uint64pow10 (by simp[nr]);obtain rfl:=oI ((show Tryz.prog.globalNamed "internal/strconv.uint64pow10" = some 1 by kernel_rfl).symm.trans r);obtain rfl:=oI ((show(Tryz.prog.globals[1]?).map (·.type)=some 230 by kernel_rfl).symm.trans E);obtain⟨f,m,_,D,_,l,o⟩:=DataW.trod_array Tryz.underlying230 C;have w:f.map (·.1)=(List.range 20).map λi=>(.lit (.int .u64 ((10^i:Nat):Int)):DataW Unit):=by
  have:=(Prod.mk.inj D).1.symm.trans U3;exact DataW.agg.inj this
 have d:∃t a,W.heap[1]?=some (.cells cs t a):=by
  simp only[World.var?,r,Option.bind_some]at b;split at b
  ·next c t a d=>obtain rfl:=oI b;exact⟨t,a,d⟩
  ·cases b
 obtain⟨t,a,d⟩:=d;refine⟨cs,t,a,d,λs k v h=>?_⟩;have e:k<20:=by
  have:=(List.getElem?_eq_some_iff.1 h).1;simpa[Lo]using this
 have b:v=uv (10^k):=by
  simp[Lo,List.getElem?_range e]at h;exact h.symm
 have n:=o k e;rw[adf,Nat.mul_one,gE (by omega)]at n;obtain⟨z,u,B,_⟩:=DataW.trod_int Tryz.underlying150 n;have q:(f.map (·.1))[k]?=some (.lit (.int .u64 ((10^k:Nat):Int))):=by rw[w];simp[List.getElem?_range e]
 rw[getElem?_map,gE (by omega:k<f.length),B]at q;have A:z=((10^k:Nat):Int):=by
  simpa using q
 subst A;have:cs.toList[k]?=some (.int .u64 ((10^k:Nat):Int)):=by
  have y:((cs.toList.drop k).take 1)[0]?=some (.int .u64 ((10^k:Nat):Int)):=by rw[u];rfl
  simpa using y
 refine⟨.int .u64 ((10^k:Nat):Int),by simpa using this,?_⟩;rw[b];exact .int _ _
theorem YJ(c:laidMetH Tryz.prog nr W):∃a h,vy a h W/\Gl Xw a/\nW h:=by
 obtain⟨cs,t,f,b,e⟩:=Za c;refine⟨_,_,(aeO 1 W).push b (e _),λg d=>?_,t,false,ae.fG ⟨1,.nil⟩ _⟩;have:g=1:=by simpa[Xw]using d
 subst this;exact⟨_,dH.cD _ _ _,rfl,rfl,rfl⟩
theorem WQ{base:Nat}{k s:Int}{o:List UInt8}(b:Value.okWide Tryz.prog W .any base 29 (.agg #[.int .i64 k,.int .i64 s,strOf o,v]))(a:Addr)(e:v = .slice (some a) 0 0):a.spot=none/\∃cs t f,W.heap[a.block]?=some (.cells cs t f):=by
 simp only[Value.okWide,Tryz.underlying29]at b;obtain⟨cs,h,_,r,i,_,p⟩:=b;obtain rfl:=Value.agg.inj h;obtain rfl:=oI ((show Tryz.prog.cellTypes Tryz.prog.depth 29=some [3,3,9,27] by kernel_rfl).symm.trans i);obtain⟨u,n,g⟩:=p 3 v rfl;obtain rfl:27=u:=oI n;subst e;simp only[Cell.okWide,Cell.ok,Tryz.underlying27]at g;obtain⟨_,_,_,m,q,j,d,_⟩:=g;refine⟨m,?_⟩;unfold World.shape? at d;split at d
 ·next c t f l=>exact⟨c,t,f,l⟩
 ·cases d
end
end
variable{n:Nat}{J:dH}{h:ae}
section
theorem bo3:Tryz.prog.bytesOf 3=8:=by kernel_rfl
section
variable {H:Type} {enc:TypeId×Value->H} {W:World} {held:Bool}
theorem Qs{cs:List Value}{y:DataW H×List MemPlace}(h:DataW.trod enc Tryz.prog W 0 (λ_=>true) held n 22 cs=some y)(c:(y.1.weights Tryz.prog 22).all (· <=reachBytes)=true):
  ∃(v:Value)(l:List Int),cs=[v]/\A9 W v 1 (l.map qA)/\l.length<=281474976710656:=by
 obtain⟨v,f,b,r,d,a⟩:=Aq (P:=Tryz.prog) (p:=λcs=>∃z:Int,cs=qA z/\True) Tryz.underlying22 co3 (by decide) (λn cs y h _=>by
  obtain⟨z,e,_,_⟩:=DataW.trod_int Tryz.underlying3 h;exact⟨z,e,trivial⟩) h c
 obtain⟨l,rfl,_⟩:=HQ d;refine⟨v,l,b,r,?_⟩;rw[bo3,lM]at a;unfold reachBytes at a;omega
theorem QD(i:vy J h W){v:Value}{l:List Int}(r:A9 W v 1 (l.map qA))(B:∀a,v = .slice (some a) 0 0->a.spot=none/\∃cs t s,W.heap[a.block]?=some (.cells cs t s)):
  ∃g u a c,vy g u W/\J.le g/\Ok h u/\aF g (.slice a l.length c) v/\dL u (.slice a l.length c) l/\l.length<=bC c:=by
 obtain⟨D,⟨rfl,q⟩|⟨a,rfl,q⟩|⟨b,d,f,cs,t,s,rfl,y,E,p,F,C⟩⟩:=r
 ·obtain rfl:l=[]:=by simpa using q
  exact⟨J,h,none,0,i,J.le_refl,Ok.refl i.wf,.lZ,.inl ⟨rfl,rfl⟩,Nat.zero_le _⟩
 ·obtain rfl:l=[]:=by simpa using q
  obtain⟨x,cs,t,s,p⟩:=B a rfl;obtain⟨b,d,w⟩:=a
  cases (show w=none from x)
  have o:=i.push (cs:=[]) p (λk v e=>by simp at e);exact⟨_,_,some ⟨h.next,0,none⟩,0,o,i.le _,(Ok.refl i.wf).push _,aF.slice (n:=0) (c:=0) (c':=0) (sl:=Aw b cs.size t) (dH.cD _ _ _) rfl (λ_=>rfl) (λh=>by unfold dm at h;omega) (by unfold bC;split<;>omega) (.inr ⟨rfl,rfl⟩) (.inl rfl),.inr ⟨h.next,0,_,0,false,t,0,rfl,ae.fG _ _,.inr rfl,rfl⟩,Nat.zero_le _⟩
 ·rw[lM]at y⊢;have j:gp J (List.replicate d ib++l.map zV) 0 cs:=λk v e=>by
   rw[Nat.zero_add];rw[List.getElem?_append]at e;split at e
   ·next m=>
    rw[List.length_replicate]at m;rw[List.getElem?_replicate,if_pos m]at e;obtain rfl:=oI e;exact⟨_,Array.getElem?_eq_getElem (by omega),.ib _⟩
   ·next m=>
    rw[List.length_replicate]at m e;rw[getElem?_map]at e;obtain⟨z,A,rfl⟩:=Option.map_eq_some_iff.1 e;have:=C (k-d) (qA z) (by rw[getElem?_map,A];rfl) 0 (by omega);rw[show d+((k-d)*1+0)=k by omega]at this;exact⟨_,this,.int _ _⟩
  have o:=i.push p j;refine⟨_,_,some ⟨h.next,d,none⟩,f,o,i.le _,(Ok.refl i.wf).push _,aF.slice (sl:=Aw b cs.size t) (i:=d) (n:=l.length) (c:=f) (i':=d) (c':=f) (dH.cD _ _ _) rfl (λ_=>rfl) (λh=>by omega) (by unfold bC;split<;>omega) (.inl (by simp)) (.inl rfl),.inr ⟨h.next,d,_,f,false,t,0,rfl,ae.fG _ _,.inr rfl,?_⟩,by unfold bC;split<;>omega⟩;rw[List.drop_append,List.length_replicate,List.drop_eq_nil_of_le (by simp),List.nil_append,Nat.sub_self,List.drop_zero,List.take_of_length_le (by simp)];rfl
end
end
variable{c:List Value}{g:ae}{f:FuncId}{F:Func}
section
section
variable {W:World}
def Ldx(W:World)(v:Value)(S:Value->ae->Prop):Prop:=(∀c h a,Ok h a->S c h->S c a)/\∀{d:dH}{h:ae},vy d h W->∃b a c,vy b a W/\d.le b/\Ok h a/\aF b c v/\S c a
def Lds(W:World)(e:List Value)(T:List Value->ae->Prop):Prop:=∀{d:dH}{h:ae},vy d h W->∃a c b,vy a c W/\d.le a/\Ok h c/\bo a b e/\T b c
theorem YR:Lds W [] λa _=>a=[]:=λ{b h} i=>⟨b,h,[],i,b.le_refl,Ok.refl i.wf,.nil _,rfl⟩
theorem tS{S:Value->ae->Prop}{T:List Value->ae->Prop}(a:Ldx W v S)(b:Lds W c T):Lds W (v::c) λe h=>∃x r,e=x::r/\S x h/\T r h:=λ{w h} i=>by
 obtain⟨t,u,x,l,q,j,n,s⟩:=a.2 i;obtain⟨d,p,r,m,g,f,o,k⟩:=b l;exact⟨d,p,x::r,m,dH.le_trans q g,j.trans f,.cons (n.mono g) o,x,r,rfl,a.1 _ _ _ f s,k⟩
def aem(v:Value)(_:ae):Prop:=∃z:Int,v = .int .i64 z
def acn(v:Value)(h:ae):Prop:=∃(M:bp)(a:Option Addr)(c:Nat),v = .agg ⟨bK M a M.af.length c⟩/\Bnd M/\dy h (.slice a M.af.length c) M.af
def XJ(v:Value)(h:ae):Prop:=∃(l:List Int)(a:Option Addr)(c:Nat),v = .slice a l.length c/\dL h (.slice a l.length c) l/\l.length<=281474976710656/\l.length<=bC c
theorem XJ.ok(o:Ok h g)(s:XJ v h):XJ v g:=by
 obtain⟨l,a,c,d,e,b,f⟩:=s;exact⟨l,a,c,d,e.ok o,b,f⟩
theorem Uw{base:Nat}(a:Value.okWide Tryz.prog W .any base 3 v):Ldx W v aem:=by
 obtain⟨z,rfl⟩:=okWide_int Tryz.underlying3 a;exact⟨λ_ _ _ _ s=>s,λ{b h} i=>⟨b,h,_,i,b.le_refl,Ok.refl i.wf,.int _ _,z,rfl⟩⟩
theorem Lf{b:Nat}{t:TypeId}(h:W.shape? b=some (t,n)):∃cs t a,W.heap[b]?=some (.cells cs t a):=by
 unfold World.shape? at h;split at h
 ·next c t a d=>exact⟨c,t,a,d⟩
 ·cases h
variable {H:Type} {enc:TypeId×Value->H}
theorem YQ{base:Nat}{A:DataW H}{p:List MemPlace}(f:Value.okWide Tryz.prog W .any base 29 v)(l:DataW.Trod enc Tryz.prog W 0 (λ_=>true) true 29 v A p)(G:(A.weights Tryz.prog 29).all (· <=reachBytes)=true):Ldx W v acn:=by
 refine⟨λN h O o s=>?_,λ{Q h} i=>?_⟩
 ·obtain⟨M,a,c,e,b,r⟩:=s;exact⟨M,a,c,e,b,r.ok o⟩
 obtain⟨cs,rfl,_⟩:=okWide_struct Tryz.underlying29 f;obtain⟨I,l⟩:=l;obtain⟨k,s,m,N,d,j,L,w⟩:=HP l G;have j:cs = #[.int .i64 k,.int .i64 s,strOf m,N]:=by
  rw[<-Array.toList_inj];exact j
 subst j;obtain⟨y,F,P,D,J,C,n,g⟩:=Kl i L w (WQ f);obtain⟨K,t,u,_,_⟩:=id g;obtain⟨a,c,rfl⟩:=u.Xy;have B:(K.map vp).length=(d.map (·.1)).length:=by rw[<-t,lM,lM]
 rw[B]at n g;refine⟨y,F,.agg ⟨bK ⟨k,s,m,d.map (·.1)⟩ a (d.map (·.1)).length c⟩,D,J,C,?_,⟨k,s,m,d.map (·.1)⟩,a,c,rfl,λx E=>?_,g⟩
 ·exact .agg rfl (jR.toList.2 (.cons (.int _ _) (.cons (.int _ _) (.cons (.string _) (.cons n (.nil _)))))).2
 ·obtain⟨q,z,rfl⟩:=mem_map.1 E;exact(w q z).2
theorem UR{base:Nat}(b:Value.okWide Tryz.prog W .any base 22 v)(a:Addr)(e:v = .slice (some a) 0 0):a.spot=none/\∃cs t g,W.heap[a.block]?=some (.cells cs t g):=by
 subst e;simp only[Value.okWide,Cell.okWide,Cell.ok,Tryz.underlying22]at b;obtain⟨_,_,_,f,h,d,c,_⟩:=b;exact⟨f,Lf c⟩
theorem Ux{base:Nat}{m:DataW H}{p:List MemPlace}(b:Value.okWide Tryz.prog W .any base 22 v)(d:DataW.Trod enc Tryz.prog W 0 (λ_=>true) true 22 v m p)(y:(m.weights Tryz.prog 22).all (· <=reachBytes)=true):Ldx W v XJ:=by
 refine⟨λv h C o s=>s.ok o,λ{D h} i=>?_⟩;obtain⟨f,j,k,rfl⟩:=okWide_slice Tryz.underlying22 b;obtain⟨z,d⟩:=d;obtain⟨v,l,e,r,u⟩:=Qs d y;have e:Value.slice f j k=v:=by
  have:[Value.slice f j k]=[v]:=e;simpa using this
 subst e;obtain⟨g,w,a,c,q,A,n,t,x,B⟩:=QD i r (UR b);exact⟨g,w,_,q,A,n,t,l,a,c,rfl,x,u,B⟩
theorem QC(m:Tryz.prog.funcs[f]?=some F)(b:F.body.isSome=true)(q:f<YB){a:Array Value}{T:List Value->ae->Prop}(l:Lds W a.toList T)(p:laidMetH Tryz.prog nr W)
  (i:∀{h:ae}{c:List Value}(_:nW h)(_:Wf h),T c h->FW SS f c h (EQ h)):Calls Tryz.prog f a W λe d=>e = .returned (.bool true)/\Below W.heap.size W d:=by
 obtain⟨t,C,k,v,n⟩:=YJ p;obtain⟨y,z,c,g,s,j,o,u⟩:=l k;refine(JK O8 U4 (i (n.ok j) g.wf u) q m b g (v.mono s) (args':=a) o).mono ?_;rintro e d ⟨x,A,B,w,rfl,⟨rfl,_⟩,r,_,b⟩
 cases r
 exact⟨rfl,b⟩
end
end
end Go.Proofs.YtaaichlgdgjgjaaGreatDoor
end
section
namespace Go.Proofs.YtaaichlgdgjgjaaGreatDoor
open Go Go.Ab Go.ChangeShapes Go.WideShapes Go.ChangeAt Go.RowKit
theorem qW:laidOutB Tryz.prog=true:=by kernel_rfl
set_option maxRecDepth 100000 in
theorem vE(m:Os)(l:m.Started)(H:Type)(d:TypeId×Value->H):
  ReturnsInHanded {} Tryz.checked m 8 .any (λw c=>(Rows.buildRepeatsSpec.pre d Tryz.prog Tryz.f8 [] false w c/\laidMetH Tryz.prog nr w)/\sizedMet d Tryz.prog Tryz.f8 (OpenSpec.ofChange Rows.buildRepeatsSpec) false w c)
   (Rows.buildRepeatsSpec.post d Tryz.prog Tryz.f8 false true false false):=by
 refine returnsInHanded_of_change_and (C:=Tryz.checked) (X:=λw _=>laidMetH Tryz.prog nr w) (λ_ _ _ hh h=>h.of_heap hh) VY l (by kernel_rfl) Tryz.func8
  (ChangeSpec.witness_at (enc:=d) (C:=Tryz.checked) (os:=m) (X:=λw _=>laidMetH Tryz.prog nr w) false (Gd m) #[.agg #[.int .i64 0,.int .i64 0,.string ⟨#[]⟩,.slice none 0 0],.int .i64 0,.int .i64 0,.slice none 0 0,.slice none 0 0] 8 rfl (by kernel_rfl) (by kernel_rfl) (by kernel_rfl) (by kernel_rfl) (by kernel_rfl) (Fg m _)) ?_
 intro W base c S gs I o Y _ x8 hL _;have b:∀(j:Nat) t v,Tryz.f8.params[j]?=some t->c[j]?=some v->Value.okWide Tryz.prog W .any base t v:=o;have n:=Y;obtain⟨p,q,J,hV,rfl,y8,y1⟩:=Y;have hA:DataW.TrodAll d Tryz.prog W 0 (λ_=>true) true Tryz.f8.params.toList c.toList S p:=J;rw[Tryz.params8]at hA b;obtain⟨r,z9,F,y9,U,q0,f,rfl,rfl,K,x5⟩:=trodAll_cons hA;obtain⟨E,z5,D,y6,p1,q1,rfl,rfl,rfl,t1,x7⟩:=trodAll_cons x5;obtain⟨y,y2,u,z4,M,q2,rfl,rfl,rfl,t2,O⟩:=trodAll_cons x7;obtain⟨s,z6,B,z3,p3,q3,rfl,rfl,rfl,t3,V⟩:=trodAll_cons O;obtain⟨z,y3,A,y4,p4,q4,rfl,rfl,rfl,L,G⟩:=trodAll_cons V;obtain⟨rfl,rfl,rfl⟩:=trodAll_nil G;have f:c = #[r,E,y,s,z]:=by
  rw[<-Array.toList_inj];exact f
 subst f;obtain⟨rfl,rfl⟩:=trodVars_none hV;rw[List.append_nil]at n;have Z:(DataW.weightsEach Tryz.prog (Tryz.f8.params.toList++Rows.buildRepeatsSpec.plain.varTypes Tryz.prog) ([F,D,u,B,A]++[])).all (· <=reachBytes)=true:=x8;rw[Tryz.params8]at Z;have h2:(F.weights Tryz.prog 29++(D.weights Tryz.prog 3++(u.weights Tryz.prog 3++(B.weights Tryz.prog 22++(A.weights Tryz.prog 22++(DataW.weightsEach Tryz.prog (Rows.buildRepeatsSpec.plain.varTypes Tryz.prog) [])))))).all (· <=reachBytes)=true:=Z;simp only[List.all_append,and_eq_true]at h2;obtain⟨w0,w1,w2,w3,w4,_⟩:=h2;have ld:Lds W #[r,E,y,s,z].toList _:=tS (YQ (b 0 29 r rfl rfl) K w0) (tS (Uw (b 1 3 E rfl rfl)) (tS (Uw (b 2 3 y rfl rfl)) (tS (Ux (b 3 22 s rfl rfl) t3 w3) (tS (Ux (b 4 22 z rfl rfl) L w4) (YR)))));refine(QC Tryz.func8 (by kernel_rfl) (by unfold YB;decide) ld hL λtb w T=>?_).mono λe W2 ⟨he,k⟩=>?_
 ·obtain⟨x0,N,rfl,s0,x1,r1,rfl,s1,x2,r2,rfl,s2,x3,r3,rfl,s3,x4,r4,rfl,s4,rfl⟩:=T;obtain⟨M0,a0,c0,rfl,b0,N⟩:=s0;obtain⟨z1,rfl⟩:=s1;obtain⟨z2,rfl⟩:=s2;obtain⟨u0,y7,y5,rfl,Q,x9,R⟩:=s3;obtain⟨z0,z7,z8,rfl,y0,x6,P⟩:=s4;exact JC w tb b0 N Q y0 x9 x6 R P
 subst he;have g:∀x∈U++(p1++(M++(p3++(p4++([]))))),x.block<W.heap.size:=λx a=>n.lt x a;exact⟨_,rfl,Uu (ds:=[F,D,u,B,A]) (places:=U++(p1++(M++(p3++(p4++([])))))) rfl n k rfl rfl (λ_ _ _=>(trodAll_cons_mk (shut_bool Tryz.underlying4 _) trodAll_mk0))
  (ok_one (by kernel_rfl) rfl (okWide_bool_mk Tryz.underlying4 _)) (λsp i=>by
   rw[Tryz.params8];exact trodAll_cons_mk (WideElems.Trod_stays qW (by kernel_rfl) (dT (by kernel_rfl)) K (λx a=>k.same (g x (mem_append_left _ a))) (λx a=>i x (mem_append_left _ a))) (trodAll_cons_mk (WideElems.Trod_stays qW (by kernel_rfl) (dT (by kernel_rfl)) t1 (λx a=>k.same (g x (mem_append_right _ (mem_append_left _ a)))) (λx a=>i x (mem_append_right _ (mem_append_left _ a)))) (trodAll_cons_mk (WideElems.Trod_stays qW (by kernel_rfl) (dT (by kernel_rfl)) t2 (λx a=>k.same (g x (mem_append_right _ (mem_append_right _ (mem_append_left _ a))))) (λx a=>i x (mem_append_right _ (mem_append_right _ (mem_append_left _ a))))) (trodAll_cons_mk (WideElems.Trod_stays qW (by kernel_rfl) (dT (by kernel_rfl)) t3 (λx a=>k.same (g x (mem_append_right _ (mem_append_right _ (mem_append_right _ (mem_append_left _ a)))))) (λx a=>i x (mem_append_right _ (mem_append_right _ (mem_append_right _ (mem_append_left _ a)))))) (trodAll_cons_mk (WideElems.Trod_stays qW (by kernel_rfl) (dT (by kernel_rfl)) L (λx a=>k.same (g x (mem_append_right _ (mem_append_right _ (mem_append_right _ (mem_append_right _ (mem_append_left _ a))))))) (λx a=>i x (mem_append_right _ (mem_append_right _ (mem_append_right _ (mem_append_right _ (mem_append_left _ a))))))) (trodAll_mk0))))))⟩
theorem xV:Rows.BuildRepeatsSaid:=
 OpenClaim.holds_of_wide 8 Tryz.f8 rfl rfl rfl rfl rfl rfl rfl ⟨rfl,rfl,rfl,rfl,rfl⟩ rfl rfl rfl rfl rfl (by kernel_rfl) Tryz.func8 (by kernel_rfl)
  (dT (by kernel_rfl)) (by unfold Func.isWrapper;first|(rw[if_pos (by decide +kernel)];kernel_rfl)|(rw[if_neg (by decide +kernel)];exact⟨rfl,rfl⟩))
  (λc a H b _=>vE c a H b)
theorem buildRepeats_holds:Rows.BuildRepeatsCardSaid:=
 Claim7.holds_tied_plain_at .later [] [.data,.data,.data] true (true,"c6fdbccbd4f7b918257715cfda7cd04cead22867ce6bb9351446e2ee10eec580") true
  xV (λ_ h=>by cases h) (by kernel_rfl) (λ_ h=>by cases h) buildRepeats_row_tie rfl ⟨rfl,rfl⟩ (by kernel_rfl) rfl
  (λf d e b=>by
   obtain rfl:f=8:=oI ((show Tryz.prog.funcNamed "abugida/abugidalaw09.BuildRepeats" = some 8 by kernel_rfl).symm.trans e) |>.symm
   obtain rfl:d=Tryz.f8:=(oI (Tryz.func8.symm.trans b)).symm;exact⟨by kernel_rfl,λj t c=>by
    rw[Tryz.params8]at c;have g:t∈[29,3,3,22,22]:=by simpa using Array.mem_of_getElem? c
    have a:([29,3,3,22,22].all λu=> !Tryz.prog.wantsStandIn u)=true:=by kernel_rfl
    exact(show Tryz.prog.wantsStandIn t=false by simpa using all_eq_true.1 a t g)⟩)
  (by kernel_rfl)
end Go.Proofs.YtaaichlgdgjgjaaGreatDoor
end
