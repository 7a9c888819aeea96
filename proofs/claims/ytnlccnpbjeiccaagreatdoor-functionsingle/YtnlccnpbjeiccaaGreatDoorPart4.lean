/- Laws and walks that the proof leans on (part 4): P26; P22; P27; P28; W13; P29 and others. No condition. -/
import Derived.Test.YtnlccnpbjeiccaaGreatDoorPart3
import Derived.Test.YtnlccnpbjeiccaaGreatDoorPart2
set_option linter.unusedVariables false
set_option linter.unusedSimpArgs false
set_option maxRecDepth 100000
open BitVec renaming ofInt → cZ
open Bool renaming and_eq_true → bg, false → aj, not_eq_false' → dc, not_eq_true' → cK, true → af, true_and → dz
open Classical renaming propDecidable → dU
open Go renaming Addr → aJ, Program → aO, TypeId → aF, Value → ag
open Go.IntKind renaming bits → dr, i64 → ak, u64 → aw, u8 → aK, wrap → ai
open Go.Value renaming agg → al, bool → ah, func → aN, int → aC, pointer → bj, slice → ae, tuple → av
open Int renaming le_refl → gr, toNat_natCast → bc
open List renaming all_cons → ep, all_eq_true → bY, append_assoc → bP, append_nil → cp, drop_eq_getElem_cons → cX, drop_eq_nil_of_le → bV, drop_zero → bO, eq_nil_of_length_eq_zero → bE, ext_getElem? → dH, length_append → bF, length_cons → bU, length_drop → da, length_map → aH, length_replicate → bX, length_set → dt, length_singleton → de, length_take → bq, map_append → bK, map_replicate → jO, mem_append → bG, mem_cons → cW, mem_cons_of_mem → cF, mem_cons_self → cj, mem_filter → fe, mem_map → cI, mem_of_getElem? → aM, mem_of_mem_take → dy, mem_or_eq_of_mem_set → jW, mem_singleton → ba, nil_append → dL, nodup_append → fx, range → dA, replicate → aQ, take_add_one → fM, take_append_drop → dM, take_length → fi, take_of_length_le → bC, take_zero → dQ
open Nat renaming add_mul → dh, add_zero → eR, blt → cQ, le_add_right → du, le_refl → aT, le_succ → fA, le_trans → bN, lt_of_lt_of_le → cD, lt_or_ge → db, lt_succ_self → ff, min_eq_left → dI, mod_eq_of_lt → ef, mod_lt → dJ, mul_le_mul → fy, mul_le_mul_right → bM, mul_one → dB, mul_zero → hZ, not_lt_zero → dR, one_mul → ew, pow_le_pow_right → di, zero_add → bJ, zero_le → ck
open Option renaming map_eq_some_iff → bo, map_some → gf, some → aa
open Option.some renaming inj → aG
open UInt8 renaming toNat_inj → fL
open List (ext_getElem getElem?_drop getElem?_map getElem?_replicate getElem?_set getElem?_take map_set set_set)
section
namespace Go.Proofs.YtnlccnpbjeiccaaGreatDoor
open Go Go.Ab Go.Num
variable{h:au}{g:au}{v:ag}{w:ag}{s:List UInt8}{t:List UInt8}{n:Nat}{m:Nat}
theorem Cq(l:List UInt8)(h:au):aX 248 [strOf l] h (λv a=>v=ah (decide (l.length<=400)&&Num.valid l)/\a=h):=by
 refine LX l h _ (az (λg=>?_) (λg=>?_))
 ·have g:=dT g;refine(gY l h).mono ?_;rintro _ c ⟨rfl,b⟩;refine⟨_,rfl,?_,b⟩;rw[eT (show l.length<=400 by omega),dz]
 ·have g:=dF g;refine⟨?_,rfl⟩;rw[eF (show ¬l.length<=400 by omega),Bool.false_and]
def acD(n d:List UInt8)(neg a:Bool):Prop:=(Num.valid n=af/\n.length<=400)/\(Num.valid d=af/\d.length<=400)/\d≠[48]/\¬(n=[48]/\(neg=af\/a=af))/\¬(d=[49]/\a=af)/\(Nat.gcd (Num.val n) (Num.val d)=1\/d=[49])
def vx:ag:= av ⟨[ah aj,strOf [],strOf [],ah aj]⟩
def qA(neg:Bool)(n d:List UInt8):ag:= av ⟨[ah neg,strOf n,strOf d,ah af]⟩
def tj(h:au)(C:Prop)(G B:ag):VH:=λv a=>Ok h a/\(C->v=G)/\(¬C->v=B)
theorem nU{C:Prop}(o:Ok h g)(a:¬C):tj h C v w w g:=⟨o,λc=>absurd c a,λ_=>rfl⟩
theorem AJ{C:Prop}(o:Ok h g)(a:C):tj h C v w v g:=⟨o,λ_=>rfl,λc=>absurd a c⟩
theorem Kh{n:List UInt8}(g:(decide (n.length<=400)&&Num.valid n)=af):Num.valid n=af/\n.length<=400:=by
 rw[bg,decide_eq_true_eq]at g;exact⟨g.2,g.1⟩
theorem NM(a:Num.valid s=af)(b:Num.valid t=af):ET s t=H4 (bn (Nat.gcd (Num.val s) (Num.val t))) 0:=by unfold ET;rw[iP ⟨a,b⟩]
theorem uM(n d:List UInt8)(neg:Bool)(l:Int)(a:Bool)(v2:a=decide (l>=0)){h:au}(w:Wf h){x0 x1 x2 x3 x4 x5 z3 z5 H y9 X u1 u8 y8 u0 z7 I D A W Z v1 z2 x9 Q z1 y3 M u6 r z q L u9 u5 K C y G x6 v t z6 v0 u3 y0 u2 y2 F s z4 m z8 y4 y6 J z0 E T x7 P B N R y1 O S x8 u7 y5 y7 Y o p V z9 u4:ag}:
  TT SS bT (pq 127) [x0,x1,x2,x3,x4,x5,strOf n,strOf d,ah neg,aE l,z3,z5,H,y9,X,u1,u8,y8,u0,z7,I,D,A,W,Z,v1,z2,x9,Q,z1,y3,M,u6,r,z,q,L,u9,u5,K,C,y,G,x6,v,t,z6,v0,u3,y0,u2,y2,F,s,z4,m,z8,y4,y6,J,z0,E,T,x7,P,B,N,R,y1,O,S,x8,u7,y5,y7,Y,o,p,V,z9,u4] h (mK bT (tj h (acD n d neg a) (qA neg n d) vx)):=by
 refine E5 ((Cq n h).mono ?_);rintro _ g0 ⟨rfl,e0⟩;obtain rfl:h=g0:=e0.symm;refine⟨_,rfl,az (λg=>nU (Ok.refl w) λc=>?_) (λg=>?_)⟩
 ·obtain⟨⟨c1,c2⟩,_⟩:=c;rw[c1,eT c2]at g;cases g
 have hn:=Kh (n:=n) (by simpa using g);refine(Cq d h).mono ?_;rintro _ g0 ⟨rfl,e0⟩;obtain rfl:h=g0:=e0.symm;refine⟨_,rfl,az (λg=>nU (Ok.refl w) λc=>?_) (λg=>?_)⟩
 ·obtain⟨_,⟨c1,c2⟩,_⟩:=c;rw[c1,eT c2]at g;cases g
 have hd:=Kh (n:=d) (by simpa using g);have fin:d≠[48]->¬(n=[48]/\(neg=af\/a=af))->¬(d=[49]/\a=af)->∀{x0 x1 x2 x3 x4 x5 z3 z5 H y9 X u1 u8 y8 u0 z7 I D A W Z v1 z2 x9 Q z1 y3 M u6 r z q L u9 u5 K C y G x6 v t z6 v0 u3 y0 u2 y2 F s z4 m z8 y4 y6 J z0 E T x7 P B N R y1 O S x8 u7 y5 y7 Y o p V z9 u4:ag},
   TT SS bT (pq 255) [x0,x1,x2,x3,x4,x5,strOf n,strOf d,ah neg,aE l,z3,z5,H,y9,X,u1,u8,y8,u0,z7,I,D,A,W,Z,v1,z2,x9,Q,z1,y3,M,u6,r,z,q,L,u9,u5,K,C,y,G,x6,v,t,z6,v0,u3,y0,u2,y2,F,s,z4,m,z8,y4,y6,J,z0,E,T,x7,P,B,N,R,y1,O,S,x8,u7,y5,y7,Y,o,p,V,z9,u4] h (mK bT (tj h (acD n d neg a) (qA neg n d) vx)):=by
  intro c3 c4 c5;intros;refine E6 ((Vs n d h w).mono ?_);rintro _ h1 ⟨rfl,o1⟩;rw[NM hn.1 hd.1];refine⟨_,_,rfl,?_⟩;have e1:bn (Nat.gcd (Num.val n) (Num.val d))=[49]↔Nat.gcd (Num.val n) (Num.val d)=1:=pF;refine az (λb=>az (λi=>nU o1 λc=>?_) (λi=>AJ o1 ?_)) (λb=>AJ o1 ?_)
  ·have b:¬bn (Nat.gcd (Num.val n) (Num.val d))=[49]:=by simpa using b
   have i:¬d=[49]:=by simpa using i
   rcases c.2.2.2.2.2 with c|c
   ·exact b (e1.2 c)
   ·exact i c
  ·have i:d=[49]:=by simpa using i
   exact⟨hn,hd,c3,c4,c5,.inr i⟩
  ·have b:bn (Nat.gcd (Num.val n) (Num.val d))=[49]:=by simpa using b
   exact⟨hn,hd,c3,c4,c5,.inl (e1.1 b)⟩
 refine az (λb=>nU (Ok.refl w) λc=>?_) (λb=>?_)
 ·exact c.2.2.1 (by simpa using b)
 have b:d≠[48]:=by simpa using b
 have v3:∀{x:Bool},(x=af->l>=0)->True:=λ_=>trivial;have U:decide (l>=0)=aj->¬a=af:=λe f=>by rw[v2]at f;rw[f]at e;cases e
 have u:decide (l>=0)=af->a=af:=λe=>by rw[v2,e]
 refine az (λi=>?_) (λi=>?_)
 ·have i:n=[48]:=by simpa using i
  refine az (λg3=>nU (Ok.refl w) λc=>c.2.2.2.1 ⟨i,.inl g3⟩) (λg3=>?_);have g3:¬neg=af:=by rw[g3];simp
  refine az (λg4=>nU (Ok.refl w) λc=>c.2.2.2.1 ⟨i,.inr (u g4)⟩) (λg4=>?_);have f4:¬(n=[48]/\(neg=af\/a=af)):=λc=>c.2.elim g3 (U g4);refine az (λk=>?_) (λk=>?_)
  ·refine az (λj=>nU (Ok.refl w) λc=>c.2.2.2.2.1 ⟨by simpa using k,u j⟩) (λj=>?_);exact fin b f4 (λc=>U j c.2)
  ·exact fin b f4 (λc=>(by
    have:¬d=[49]:=by simpa using k
    exact this c.1))
 ·have f4:¬(n=[48]/\(neg=af\/a=af)):=λc=>by
   have:¬n=[48]:=by simpa using i
   exact this c.1
  refine az (λk=>?_) (λk=>?_)
  ·refine az (λj=>nU (Ok.refl w) λc=>c.2.2.2.2.1 ⟨by simpa using k,u j⟩) (λj=>?_);exact fin b f4 (λc=>U j c.2)
  ·exact fin b f4 (λc=>(by
    have:¬d=[49]:=by simpa using k
    exact this c.1))
def pW(l:List UInt8):ag:=if ft l=af then qA (Num.isNeg l) (Num.numOf l) (dS l)else vx
theorem LK{l:List UInt8}(q:tj h (acD (Num.numOf l) (dS l) (Num.isNeg l) (eG l)) (qA (Num.isNeg l) (Num.numOf l) (dS l)) vx v g):v=pW l/\Ok h g:=by
 obtain⟨o,d,b⟩:=q;refine⟨?_,o⟩;unfold pW;by_cases a:ft l=af
 ·rw[iP a];exact d (D0.1 (kc.1 a))
 ·rw[iN a];exact b λc=>a (kc.2 (D0.2 c))
theorem sv(l:List UInt8)(y:l.length<=281474976710656){h:au}(w:Wf h):aX 225 [strOf l] h (λv H=>v=pW l/\Ok h H):=by
 refine FW.mono (Q:=tj h (acD (Num.numOf l) (dS l) (Num.isNeg l) (eG l)) (qA (Num.isNeg l) (Num.numOf l) (dS l)) vx) ?_ (λ_ _ q=>LK q);have z:∀m:List UInt8,m.length<=281474976710656->∀(K:VH),(∀(b:Int),b=Ix m->(if b>=0 then ∃i:Nat,b=(i:Int)/\ai ak (b+1)=((i+1:Nat):Int)/\i=iC 47 m/\i<m.length else ¬iC 47 m<m.length)  ->K (aE b) h)->aX 247 [strOf m,aC aK 47] h K:=by
  intro m C K G;refine(LU m C h).mono ?_;rintro _ J ⟨rfl,I⟩;obtain rfl:h=J:=I.symm;refine G _ rfl ?_;unfold Ix;by_cases g:iC 47 m<m.length
  ·rw[iP g,iP (by omega)];exact⟨_,rfl,by rw[cd (by omega) (by omega)];omega,rfl,g⟩
  ·rw[iN g,iN (by omega)];exact g
 have s:∀(m:List UInt8),m=dX l->m.length<=281474976710656->∀(b:Int),(if b>=0 then ∃i:Nat,b=(i:Int)/\ai ak (b+1)=((i+1:Nat):Int)/\i=iC 47 m/\i<m.length else ¬iC 47 m<m.length)->
   (decide (b>=0)=af->eG l=af/\dN aq 9 (strOf m) (aa (aE (ai ak (b+1)))) none none h=aa (strOf (dS l))/\dN aq 9 (strOf m) none (aa (aE b)) none h=aa (strOf (Num.numOf l)))/\
   (decide (b>=0)=aj->eG l=aj/\m=Num.numOf l/\dS l=[49]):=by
  intro m d C b p;refine⟨λg=>?_,λg=>?_⟩
  ·rw[iP (dT g)]at p;obtain⟨i,rfl,F,rfl,A⟩:=p;have r:eG l=af:=by unfold eG;rw[<-d];exact eT A
   refine⟨r,?_,?_⟩
   ·rw[F,yQ m h A];unfold dS;rw[iP r,d]
   ·rw[Mp m h (Nat.le_of_lt A)];unfold Num.numOf;rw[d]
  ·rw[iN (dF g)]at p;have r:eG l=aj:=by unfold eG;rw[<-d];exact eF p
   refine⟨r,?_,?_⟩
   ·unfold Num.numOf;rw[<-d,bC (by omega)]
   ·unfold dS;rw[r];rfl
 have t:∀(m:List UInt8),m=dX l->m.length<=281474976710656:=λm d=>by
  rw[d];unfold dX;split
  ·rw[da];omega
  ·exact y
 refine LW l h _ (az (λg=>?_) (λg=>?_))
 ·have g:=dT g
  cases l with
  |nil=>simp at g
  | cons c l'=>
   have e:dE aq 9 (strOf (c::l')) (aE 0)=aa (aC aK ((c.toNat:Nat):Int)):=by
    have:=sE RG (c::l') ak (i:=0) (by omega) g;simpa using this
   refine⟨_,e,az (λo=>?_) (λo=>?_)⟩
   ·have o:c=45:=by
     have:((c.toNat:Nat):Int)=45:=by simpa using o
     rw[<-fL];show c.toNat=45;omega
    have n:Num.isNeg (c::l')=af:=by unfold Num.isNeg;rw[o];rfl
    have d:l'=dX (c::l'):=by unfold dX;rw[iP n];rfl
    have D:dN aq 9 (strOf (c::l')) (aa (aE 1)) none none h=aa (strOf l'):=yQ (c::l') h (a:=1) (by simp);refine⟨_,D,z l' (t _ d) _ (λb E p=>⟨b,rfl,?_⟩)⟩;obtain⟨u,x⟩:=s l' d (t _ d) b p;have B:(((c.toNat:Nat):Int)==45)=af:=o▸rfl;rw[n,B];refine az (λg=>?_) (λg=>?_)
    ·obtain⟨k,j,f⟩:=u g;exact⟨_,j,_,f,uM _ _ af b _ (by rw[k,g]) w⟩
    ·obtain⟨k,j,f⟩:=x g;rw[f,<-j];exact uM _ _ af b _ (by rw[k,g]) w
   ·have o:¬c=45:=λe=>by rw[e]at o;cases o
    have n:Num.isNeg (c::l')=aj:=by
     unfold Num.isNeg;simp[o]
    have d:c::l'=dX (c::l'):=by unfold dX;rw[n];rfl
    have B:(((c.toNat:Nat):Int)==45)=aj:=by
     have:((c.toNat:Nat):Int)≠45:=λe=>o (by rw[<-fL];show c.toNat=45;omega);simpa using this
    refine z (c::l') y _ (λb E p=>⟨b,rfl,?_⟩);obtain⟨u,x⟩:=s _ d y b p;rw[n,B];refine az (λg=>?_) (λg=>?_)
    ·obtain⟨k,j,f⟩:=u g;exact⟨_,j,_,f,uM _ _ aj b _ (by rw[k,g]) w⟩
    ·obtain⟨k,j,f⟩:=x g;rw[f,<-j];exact uM _ _ aj b _ (by rw[k,g]) w
 ·have g:=dF g;obtain rfl:l=[]:=bE (by omega);have d:[]=dX []:=rfl;refine z [] (by simp) _ (λb E p=>⟨b,rfl,?_⟩);obtain⟨u,x⟩:=s _ d (by simp) b p;refine az (λg=>?_) (λg=>?_)
  ·obtain⟨k,j,f⟩:=u g;exact⟨_,j,_,f,uM _ _ aj b _ (by rw[k,g]) w⟩
  ·obtain⟨k,j,f⟩:=x g;rw[f,<-j];exact uM _ _ aj b _ (by rw[k,g]) w
theorem JM{l:List UInt8}{K:ag->Prop}(a:K (pW l)):∃(c:Bool)(d e:List UInt8)(b:Bool),pW l=(av ⟨[ah c,strOf d,strOf e,ah b]⟩)/\K (av ⟨[ah c,strOf d,strOf e,ah b]⟩)/\b=ft l:=by
 unfold pW at*
 cases g:ft l with
 |true=>rw[g]at a;exact⟨_,_,_,_,rfl,a,rfl⟩
 |false=>rw[g]at a;exact⟨_,_,_,_,rfl,a,rfl⟩
theorem L0(l:List UInt8)(d:l.length<=281474976710656){h:au}(w:Wf h):aX 188 [strOf l] h (λv f=>v=ah (ft l)/\Ok h f):=by
 refine LZ l h _ ((sv l d w).mono ?_);rintro _ k ⟨rfl,a⟩;obtain⟨b,i,j,c,e,_,g⟩:=JM (l:=l) (K:=λ_=>True) trivial;exact⟨b,i,j,c,e,by rw[g],a⟩
theorem sJ(h:n<10^800):Num.valid (bn n)=af:=qH.2 (cD h (Be (k:=800) (m:=1000) (by decide)))
theorem SH(h:m<10^1000):te m=H4 (bn m) 0:=by
 unfold te;rw[iN];have:=(iO (n:=m) (k:=1000) (by decide)).2 h;omega
theorem MY(b:n<10^800)(a:m<10^800):EN (bn n) (bn m)=H4 (bn (n+m)) 0:=by
 unfold EN;rw[iP ⟨sJ b,sJ a⟩,eQ,eQ];exact SH (cD (Nat.add_lt_add b a) Tt)
theorem CO(b:n<10^800)(a:m<10^800)(h:m<=n):E7 (bn n) (bn m)=H4 (bn (n-m)) 0:=by
 unfold E7;rw[iP ⟨sJ b,sJ a⟩,eQ,eQ,iN (Nat.not_lt.2 h)]
theorem Nd(b:n<10^800)(a:m<10^800):ES (bn n) (bn m)=aE (iB n m):=by
 unfold ES;rw[iP ⟨sJ b,sJ a⟩,eQ,eQ]
theorem tf{a b:List UInt8}(d:Num.valid a=af)(c:Num.valid b=af)(e:a.length<=400)(f:b.length<=400):E0 a b=H4 (bn (Num.val a*Num.val b)) 0/\Num.val a*Num.val b<10^800:=by
 have h:=Ia (FK (k:=400) d (by decide) e) (FK (k:=400) c (by decide) f);refine⟨?_,h⟩;unfold E0;rw[iP ⟨d,c⟩];exact SH (cD h (Be (k:=800) (m:=1000) (by decide)))
def Ej(s:Bool)(A:Nat)(t:Bool)(B:Nat):ag:= av ⟨[ah (nE s A t B).1,strOf (bn (nE s A t B).2)]⟩
theorem Bz:iB n m<0↔n<m:=zY
theorem Rb(s:Bool)(A:Nat)(t:Bool)(B:Nat)(f:A<10^800)(e:B<10^800){h:au}(w:Wf h):aX 226 [ah s,strOf (bn A),ah t,strOf (bn B)] h (λv l=>v=Ej s A t B/\Ok h l):=by
 refine Ra s _ t _ h _ (az (λg=>?_) (λg=>?_))
 ·have g:s=t:=by simpa using g
  refine(Vm _ _ w).mono ?_;rintro _ j ⟨rfl,a⟩;rw[MY f e];refine⟨_,_,rfl,?_,a⟩;unfold Ej nE;rw[iP g]
 ·have g:¬s=t:=by simpa using g
  refine(Vo _ _ w).mono ?_;rintro _ j ⟨rfl,a⟩;rw[Nd f e];refine⟨_,rfl,az (λd=>?_) (λd=>?_)⟩
  ·have d:=dT d;have b:¬A<B:=λc=>by have:=Bz.2 c;omega
   refine(JU _ _ a.wf).mono ?_;rintro _ k ⟨rfl,i⟩;rw[CO f e (Nat.not_lt.1 b)];refine⟨_,_,rfl,?_,a.trans i⟩;unfold Ej nE;rw[iN g,iN b]
  ·have d:=dF d;have b:A<B:=Bz.1 (by omega);refine(JU _ _ a.wf).mono ?_;rintro _ k ⟨rfl,i⟩;rw[CO e f (Nat.le_of_lt b)];refine⟨_,_,rfl,?_,a.trans i⟩;unfold Ej nE;rw[iN g,iP b]
theorem Cr{a b:List UInt8}(f:Num.valid a=af)(c:Num.valid b=af)(g:a.length<=400)(i:b.length<=400){h:au}(w:Wf h):aX 227 [strOf a,strOf b] h (λv e=>v=strOf (bn (Num.val a*Num.val b))/\Ok h e):=by
 refine LY a b h _ ((Vu a b w).mono ?_);rintro _ j ⟨rfl,d⟩;rw[(tf f c g i).1];exact⟨_,_,rfl,rfl,d⟩
theorem Q9(l m:List UInt8)(u:l.length<=281474976710656)(p:m.length<=281474976710656){h:au}(w:Wf h):aX 189 [strOf l,strOf m] h (λv A=>v=aE (jM l m)/\Ok h A):=by
 refine Q8 l m h _ ((sv l u w).mono ?_);rintro _ E ⟨rfl,i⟩
 cases g:ft l with
 |false=>
  have e:pW l=vx:=by unfold pW;rw[g];rfl
  refine⟨_,_,_,_,e,(sv m p i.wf).mono ?_⟩;rintro _ y ⟨rfl,j⟩;obtain⟨s,B,C,t,k,_,G⟩:=JM (l:=m) (K:=λ_=>True) trivial;refine⟨s,B,C,t,k,?_,i.trans j⟩;unfold jM;rw[iN (λc=>by rw[c.1]at g;cases g)]
 | true=>
  have e:pW l=qA (Num.isNeg l) (Num.numOf l) (dS l):=by unfold pW;rw[g];rfl
  refine⟨_,_,_,_,e,(sv m p i.wf).mono ?_⟩;rintro _ y ⟨rfl,j⟩
  cases f:ft m with
  |false=>
   have k:pW m=vx:=by unfold pW;rw[f];rfl
   refine⟨_,_,_,_,k,?_,i.trans j⟩;unfold jM;rw[iN (λc=>by rw[c.2]at f;cases f)]
  | true=>
   have k:pW m=qA (Num.isNeg m) (Num.numOf m) (dS m):=by unfold pW;rw[f];rfl
   have a:=kc.1 g;have b:=kc.1 f;refine⟨_,_,_,_,k,(Cr a.num b.den a.ln b.ld j.wf).mono ?_⟩;rintro _ D ⟨rfl,r⟩;refine⟨_,rfl,(Cr b.num a.den b.ln a.ld r.wf).mono ?_⟩;rintro _ F ⟨rfl,q⟩;refine⟨_,rfl,(Rb _ _ _ _ (tf a.num b.den a.ln b.ld).2 (tf b.num a.den b.ln a.ld).2 q.wf).mono ?_⟩;rintro _ H ⟨rfl,x⟩;have o:=(((i.trans j).trans r).trans q).trans x;refine⟨_,_,rfl,?_⟩;unfold jM;rw[iP ⟨g,f⟩];generalize nE _ _ _ _=z;refine az (λd=>⟨?_,o⟩) (λd=>?_)
   ·have d:bn z.2=[48]:=by simpa using d
    rw[iP (gF.1 d)]
   ·have d:¬bn z.2=[48]:=by simpa using d
    rw[iN (λc=>d (gF.2 c))];refine az (λn=>⟨?_,o⟩) (λn=>⟨?_,o⟩)
    ·rw[iP n]
    ·rw[iN (by rw[n];simp)]
end Go.Proofs.YtnlccnpbjeiccaaGreatDoor
end
section
set_option linter.defProp false
namespace Go.Proofs.YtnlccnpbjeiccaaGreatDoor
open Go Go.Ab Go.Num
variable{h:au}{n:Nat}{m:Nat}{x:List Nat}{g:au}
structure MR(hb:au)(kt N:Nat)(L:List Nat)(g:au):Prop where
 len:L.length=N
 lt:∀d∈L,d<BB
 row:g.get kt=aa (.cells (fm ((aQ N 0).map uv) 0 L) 240 1 af)
 ok:Ok hb g
theorem MR.room(a:MR h n m x g)(r:Nat):MR h n m x (Go.Ab.room g r):=⟨a.len,a.lt,a.row,a.ok.room r⟩
theorem MR.get{c:Nat}{b:au}(a:MR g n m x b){j:Int}{jn:Nat}(r:j=(jn:Int))(f:jn<m):∃p:aJ,aW aq 260 (sA n m c) (aE j)=aa (bw p)/\aS aq 240 b (bw p)=aa (bA (x.getD jn 0:Nat))/\
  ∀d:Nat,d<BB->n<b.aD->g.aD<=n->Wf g->∃u:ek,bh aq 240 (bw p) (bA (d:Int)) b=aa (undef,u)/\MR g n m (x.set jn d) (u.app b):=by
 subst r;have i:(0:Nat)+x.length<=((aQ m 0).map uv).length:=by rw[aH,bX,a.len];omega
 refine⟨⟨n,0+(jn:Int).toNat,none⟩,BQ (by omega) (by omega),?_,?_⟩
 ·rw[bc];exact GU a.row i (by rw[a.len];exact f)
 ·intro d q o k w;rw[bc];refine⟨_,HC a.row i (by rw[a.len];exact f) d,by rw[dt];exact a.len,λe l=>?_,?_,a.ok.set _ k o w⟩
  ·rcases jW l with h|h
   ·exact a.lt e h
   ·rw[h];exact q
  ·show(b.set n _).get n=_;rw[au.cE,iP rfl]
def Yn(a:au)(b N n:Nat)(x y:List Nat)(mz i:Nat)(g:au):Prop:=i<=n/\mz=n-i/\∃L,MR a b N L g/\Num.bv BB L=Num.bv BB (x.take i)*Num.bv BB y
def adF(b:au)(c N k:Nat)(x y:List Nat)(i mz j:Nat)(cy:Int)(g:au):Prop:=j<=k+1/\mz=k+1-j/\∃(L:List Nat)(a:Nat),cy=(a:Int)/\a<BB/\MR b c N L g/\Num.bv BB L+a*BB^(i+j)=Num.bv BB (x.take i)*Num.bv BB y+x.getD i 0*Num.bv BB (y.take j)*BB^i
theorem QG(w:Wf h){c N k:Nat}{x y:List Nat}(z:h.aD<=c)(t:∀d∈x,d<BB)(v:∀d∈y,d<BB){i mz j:Nat}{f:Nat}{L:List Nat}{g:au}(B:j<k+1)(n:i+j<N)(A:mz=k+1-j)(l:f<BB)(m:MR h c N L g)(r:Num.bv BB L+f*BB^(i+j)=Num.bv BB (x.take i)*Num.bv BB y+x.getD i 0*Num.bv BB (y.take j)*BB^i){q:Nat}(p:q=x.getD i 0*y.getD j 0):
  q<=999999998000000001/\L.getD (i+j) 0<BB/\(∀o,MR h c N (L.set (i+j) ((L.getD (i+j) 0+f+q)%BB)) o->mz-1<mz/\adF h c N k x y i (mz-1) (j+1) (((L.getD (i+j) 0+f+q)/BB:Nat):Int) o)/\(L.getD (i+j) 0+f+q)%BB<BB/\c<g.aD:=by
 have e:=cV (b:=BB) (by decide) t i;have a:=cV (b:=BB) (by decide) v j;have s:=cV (b:=BB) (by decide) m.lt (i+j);refine⟨?_,s,λo u=>⟨by omega,by omega,by omega,_,_,rfl,?_,u,?_⟩,dJ _ (by decide),m.ok.wf _ _ m.row⟩
 ·rw[p];exact bN (fy (Nat.le_of_lt_succ e) (Nat.le_of_lt_succ a)) (by decide)
 ·exact(Ac kJ m.lt (by rw[m.len];exact n) l e a (by rw[p]) r).2.1
 ·exact(Ac kJ m.lt (by rw[m.len];exact n) l e a (by rw[p]) r).2.2
def UB{f:au}(w:Wf f){a:Option aJ}{n c:Nat}{b:Option aJ}{k d:Nat}{t N tc:Nat}{x y:List Nat}(ra:Rd f 240 (ae a n c) (x.map uv))(rb:Rd f 240 (ae b k d) (y.map uv))(O:∀d∈x,d<BB)(U:∀d∈y,d<BB)(o:f.aD<=t){i:Nat}(hi:i<n)(hn:n=x.length)(hk:k=y.length)(hN:N=n+k+1)(x0:N<=1000)(l m:List UInt8)(Q:VH)(mz:Nat)(x2:mz=n-i):=
 Ce l m a n c b k d (aa ⟨t,0,none⟩) N tc (n:Int) (Yn f t N n x y) mz i ((k:Int)+1) (adF f t N k x y i) Q (by
  intro z j cy;intros;rename_i g J;obtain⟨h1,h2,L,v,rfl,Y,e,R⟩:=J;have x1:BB=1000000000:=rfl;have V:ai ak ((i:Int)+(j:Int))=((i+j:Nat):Int):=by rw[cd (by omega) (by omega)];omega
  have e2:ai ak ((j:Int)+1)=((j+1:Nat):Int):=by rw[cd (by omega) (by omega)];omega
  have e3:ai ak ((i:Int)+1)=((i+1:Nat):Int):=by rw[cd (by omega) (by omega)];omega
  rw[V,e2,e3];refine az (λs=>?_) (λs=>?_)
  ·have s:=dT s;obtain⟨q,D⟩:∃q,q=x.getD i 0*y.getD j 0:=⟨_,rfl⟩
   obtain⟨s1,s2,A,C,K⟩:=QG w o O U (by omega) (by omega) h2 Y e R D;obtain⟨p,g1,W,_⟩:=e.get (c:=tc) (j:=((i+j:Nat):Int)) rfl (by omega);have P:ai aw (((L.getD (i+j) 0:Nat):Int)+(v:Int))=((L.getD (i+j) 0+v:Nat):Int):=by rw[jB (by omega) (by omega)];omega
   refine⟨p,g1,_,W,az (λr=>?_) (λr=>?_)⟩
   ·have r:=dT r;obtain⟨p1,f1,S⟩:=Jb (ra.ok (e.room 12).ok) (i:=(i:Int)) (by omega) (by omega);obtain⟨X,f3,T⟩:=Jb (rb.ok (e.room 12).ok) (i:=(j:Int)) (by omega) (by omega);rw[bc]at S T;have e5:ai aw (((x.getD i 0:Nat):Int)*((y.getD j 0:Nat):Int))=(q:Int):=by rw[<-Int.natCast_mul,<-D];exact jB (by omega) (by omega)
    have e6:ai aw (((L.getD (i+j) 0+v:Nat):Int)+(q:Int))=((L.getD (i+j) 0+v+q:Nat):Int):=by rw[jB (by omega) (by omega)];omega
    rw[P];refine⟨p1,f1,_,S,X,f3,_,T,?_⟩;dsimp only;rw[e5,e6];obtain⟨H,I,_,F⟩:=(e.room 12).get (c:=tc) (j:=((i+j:Nat):Int)) rfl (by omega);obtain⟨u,E,B⟩:=F _ C (cD K (du _ _)) o w;obtain⟨G,h⟩:=A _ B;refine⟨_,lV (b:=BB) (by omega) (by decide),_,tP (b:=BB) (by omega) (by omega) (by decide),H,I,u,E,iu (z-1) G ?_⟩;rw[Int.natCast_ediv]at h;exact h
   ·have r:=dF r;have Z:y.getD j 0=0:=by rw[gD,List.getElem?_eq_none (by omega)];rfl
    have M:q=0:=by rw[D,Z,hZ]
    rw[P];obtain⟨H,I,_,F⟩:=e.get (c:=tc) (j:=((i+j:Nat):Int)) rfl (by omega);rw[M,eR]at A C;obtain⟨u,E,B⟩:=F _ C K o w;obtain⟨G,h⟩:=A _ B;refine⟨_,lV (b:=BB) (by omega) (by decide),_,tP (b:=BB) (by omega) (by omega) (by decide),H,I,u,E,iu (z-1) G ?_⟩;rw[Int.natCast_ediv]at h;exact h
  ·have s:=dF s;obtain rfl:j=k+1:=by omega
   refine fC (n-(i+1)) (by omega) ⟨by omega,rfl,L,e,?_⟩;exact I0 kJ O U (by omega) e.lt (by rw[<-hk];exact R))
theorem aac(d:(cO BB n).length<=112)(f:(cO BB m).length<=112):(cO BB (n*m)).length<=10000:=by
 have a:=jv (fU kJ n);have b:=jv (fU kJ m);rw[eP kJ]at a b;have c:=cD a (di (show 0<BB by decide) d);have e:=cD b (di (show 0<BB by decide) f);refine bN (pD kJ (k:=224) ?_) (by omega);rw[show 224=112+112 from rfl,Nat.pow_add];exact Nat.mul_lt_mul'' c e
theorem JE(a b:List UInt8){h:au}(t:za h)(w:Wf h):aX 172 [strOf a,strOf b] h (λv A=>v=E0 a b/\Ok h A):=by
 refine UL a b h _ ((iw a h).mono ?_);rintro _ D ⟨rfl,B⟩;obtain rfl:h=D:=B.symm;refine⟨_,rfl,az (λg=>?_) (λg=>?_)⟩
 ·have g:Num.valid a=aj:=by simpa using g
  refine⟨?_,Ok.refl w⟩;unfold E0;rw[iN (λe=>by rw[e.1]at g;cases g)];rfl
 have g:Num.valid a=af:=by simpa using g
 refine(iw b h).mono ?_;rintro _ D ⟨rfl,B⟩;obtain rfl:h=D:=B.symm;refine⟨_,rfl,az (λl=>?_) (λl=>?_)⟩
 ·have l:Num.valid b=aj:=by simpa using l
  refine⟨?_,Ok.refl w⟩;unfold E0;rw[iN (λe=>by rw[e.2]at l;cases l)];rfl
 have l:Num.valid b=af:=by simpa using l
 have P:=ac2 g l;have lx:=P.lx;have ly:=P.ly;refine(qY g w).mono ?_;rintro _ h1 ⟨S,f,O,rfl,T,u⟩;refine⟨_,_,_,rfl,(qY l u.wf).mono ?_⟩;rintro _ m ⟨G,k,Q,rfl,o2,z⟩;refine⟨_,_,_,rfl,?_⟩;have hS:E0 a b=te (Num.val a*Num.val b):=by unfold E0;rw[iP ⟨g,l⟩]
 rw[hS];have q:=T.rd.ok z;have r:=o2.rd;have s:=u.trans z;have N:f=(cO BB (Num.val a)).length:=by have:=q.len;rwa[aH]at this
 have F:k=(cO BB (Num.val b)).length:=by have:=r.len;rwa[aH]at this
 have hX:=fU kJ (Num.val a);have W:=fU kJ (Num.val b);have Z:=eP kJ (Num.val a);have V:=eP kJ (Num.val b);have q:Rd m 240 (ae S f O) ((cO BB (Num.val a)).map uv):=q;have r:Rd m 240 (ae G k Q) ((cO BB (Num.val b)).map uv):=r;have J:(cO BB (Num.val a*Num.val b)).length<=10000:=aac lx ly;generalize Num.val a=X at*;generalize Num.val b=Y at*;generalize cO BB X=x at*;generalize cO BB Y=y at*;have U:ai ak (ai ak ((f:Int)+(k:Int))+1)=((f+k+1:Nat):Int):=by
  rw[cd (n:=(f:Int)+(k:Int)) (by omega) (by omega),cd (by omega) (by omega)];omega
 dsimp only;rw[U];refine⟨_,_,_,adD _ (by omega),?_⟩;have I:=(Ok.refl s.wf).push (.cells ((aQ (f+k+1) 0).map uv) 240 1 af);have m0:MR m m.aD (f+k+1) (aQ (f+k+1) 0) (m.push (.cells ((aQ (f+k+1) 0).map uv) 240 1 af)):=by
  refine⟨bX,λd hd=>by rw[(List.mem_replicate.1 hd).2];decide,?_,I⟩;rw[au.cY,iP rfl,qZ (by rw[bO,bX,bC (by rw[aH,bX];omega)])]
 refine Cd a b S f O G k Q (aa ⟨m.aD,0,none⟩) (f+k+1) (f+k+1) (f:Int) (Yn m m.aD (f+k+1) f x y) (λv A=>v=te (X*Y)/\Ok h A) (λmz i=>?_) f (i:=0) ⟨by omega,by omega,_,m0,by rw[wE,dQ];simp[Num.bv]⟩;intros;rename_i g hi;obtain⟨f1,f2,L,o,E⟩:=hi;refine az (λp=>?_) (λp=>?_)
 ·have p:=dT p;have e2:ai ak ((k:Int)+1)=(k:Int)+1:=cd (by omega) (by omega);rw[e2];exact UB s.wf q r hX W (aT _) (i:=i) (by omega) N F rfl (by omega) a b _ mz f2 (k+1) (j:=0) (cy:=0) ⟨by omega,by omega,L,0,rfl,by decide,o,by rw[E,dQ];simp[Num.bv]⟩
 ·have p:=dF p;obtain rfl:f=i:=by omega
  rw[bC (by omega),Z,V]at E;have C:f+k+1<=dw (f+k+1):=by unfold dw;rw[iN (by unfold fg;omega)];omega
  have M:=Fu o.row (n:=f+k+1) (c:=f+k+1) o.len.symm C;refine(tO M (by rw[o.len];omega)).mono ?_;rintro _ h6 ⟨rfl,e6⟩;subst e6;have H:=DL M o.lt;rw[E]at H;refine⟨_,_,_,rfl,(zF H J (t.ok (s.trans o.ok)) o.ok.wf).mono ?_⟩;rintro _ h7 ⟨rfl,R⟩;exact Fx (K:=λv=>v=te (X*Y)/\Ok h h7) (BV _) ⟨rfl,(s.trans o.ok).trans R⟩
end Go.Proofs.YtnlccnpbjeiccaaGreatDoor
end
section
namespace Go.Proofs.YtnlccnpbjeiccaaGreatDoor
open Go Go.Ab Go.Num
variable{h:au}{k:Nat}{b:Bool}{s:List UInt8}{t:List UInt8}{g:au}{v:ag}
def H5:eA:= .cells [ah aj,strOf [],strOf []] 222 0 af
theorem WK:cP aq 222=aa (H5,m4):=by kernel_rfl
theorem afQ(neg:Bool)(n d:List UInt8):cJ aq 222 [(0,(ah neg)),(1,(strOf n)),(2,(strOf d))]=aa (al ⟨[ah neg,strOf n,strOf d]⟩):=by kernel_rfl
theorem tX:cJ aq 222 []=aa (al ⟨[ah aj,strOf [],strOf []]⟩):=by kernel_rfl
theorem Z0:bZ aq 222=aa 3:=by kernel_rfl
theorem afx:Go.Ab.isAgg aq 222=af:=by kernel_rfl
noncomputable def afi:TypeDesc:=(aq.underlying 222).getD .bool
theorem ag8:aq.underlying 222=aa afi:=by kernel_rfl
theorem adN{cs0:List ag}(a:cs0.length=3)(e:h.get k=aa (.cells cs0 222 0 af))(b:Bool)(n d:List UInt8):bh aq 222 (pA k) (al ⟨[ah b,strOf n,strOf d]⟩) h=aa (undef,.set k (.cells [ah b,strOf n,strOf d] 222 0 af)):=by
 unfold bh;dsimp only;rw[iP (show bZ aq 222=aa ((al ⟨[ah b,strOf n,strOf d]⟩).cells).size from Z0)];unfold storeAt;rw[e];dsimp only;have c:([ah b,strOf n,strOf d]:List ag).all eZ=af:=rfl;rw[show(al ⟨[ah b,strOf n,strOf d]⟩).cells.toList=[ah b,strOf n,strOf d]from rfl,iP ⟨by simp[a],c⟩,bV (by simp[a])];rfl
theorem agk(a:h.get k=aa (.cells [ah b,strOf s,strOf t] 222 0 af)):aS aq 222 h (pA k)=aa (al ⟨[ah b,strOf s,strOf t]⟩):=jr ag8 afx Z0 a (by simp)
theorem tl(l:List UInt8)(h:au):aX 171 [strOf l,aE 0] h (λv a=>v=strOf l/\a=h):=
 Q2 l 0 h _ (az (λg=>by cases g) (λ_=>⟨rfl,rfl⟩))
theorem Q4(s:Bool)(A:Nat)(t:Bool)(B:Nat)(i:A<10^800)(e:B<10^800){h:au}(f:za h)(w:Wf h):aX 170 [ah s,strOf (bn A),ah t,strOf (bn B)] h (λv m=>v=Ej s A t B/\Ok h m):=by
 refine Q3 s _ t _ h _ (az (λg=>?_) (λg=>?_))
 ·have g:s=t:=by simpa using g
  refine(UF _ _ f w).mono ?_;rintro _ k ⟨rfl,a⟩;rw[MY i e];refine⟨_,_,rfl,(tl _ _).mono ?_⟩;rintro _ _ ⟨rfl,rfl⟩;refine⟨_,rfl,?_,a⟩;unfold Ej nE;rw[iP g]
 ·have g:¬s=t:=by simpa using g
  refine(UH _ _ f w).mono ?_;rintro _ k ⟨rfl,a⟩;rw[Nd i e];refine⟨_,rfl,az (λd=>?_) (λd=>?_)⟩
  ·have d:=dT d;have b:A<B:=Bz.1 (by omega);refine(JF _ _ (f.ok a) a.wf).mono ?_;rintro _ l ⟨rfl,j⟩;rw[CO e i (Nat.le_of_lt b)];refine⟨_,_,rfl,(tl _ _).mono ?_⟩;rintro _ _ ⟨rfl,rfl⟩;refine⟨_,rfl,?_,a.trans j⟩;unfold Ej nE;rw[iN g,iP b]
  ·have d:=dF d;have b:¬A<B:=λc=>by have:=Bz.2 c;omega
   refine(JF _ _ (f.ok a) a.wf).mono ?_;rintro _ l ⟨rfl,j⟩;rw[CO i e (Nat.not_lt.1 b)];refine⟨_,_,rfl,(tl _ _).mono ?_⟩;rintro _ _ ⟨rfl,rfl⟩;refine⟨_,rfl,?_,a.trans j⟩;unfold Ej nE;rw[iN g,iN b]
def UP(b:Bool)(n d:List UInt8):ag:= al ⟨[ah b,strOf n,strOf d]⟩
def AI(l:List UInt8):ag:=if ft l=af then av ⟨[UP (Num.isNeg l) (Num.numOf l) (dS l),ah af]⟩else av ⟨[UP aj [] [],ah aj]⟩
def yK(b:Bool)(n d:List UInt8):ag:= av ⟨[UP b n d,ah af]⟩
def xr:ag:= av ⟨[UP aj [] [],ah aj]⟩
structure PA(h0:au)(k:Nat)(g:au):Prop where
 row:∃cs0:List ag,cs0.length=3/\g.get k=aa (.cells cs0 222 0 af)
 new:h0.aD<=k
 ok:Ok h0 g
theorem PA.trans{a:au}(m:PA h k g)(o:Ok g a):PA h k a:=by
 obtain⟨⟨cs,c,d⟩,b,e⟩:=m;exact⟨⟨cs,c,o.ext _ _ d⟩,b,e.trans o⟩
theorem Od(w:Wf h){k:Nat}{g:au}(m:PA h k g)(b:Bool)(n d:List UInt8)(a:Bool){Q:VH}(j:∀c,Ok h c->Q (av ⟨[UP b n d,ah a]⟩) c):
  ∃u:ek,bh aq 222 (pA k) (al ⟨[ah b,strOf n,strOf d]⟩) g=aa (undef,u)/\jq SS [(pA k,aa 222),(ah a,none)] (u.app g) Q:=by
 obtain⟨⟨cs,i,e⟩,l,f⟩:=m;refine⟨_,adN i e b n d,?_⟩;have o:Ok h ((ek.set k (.cells [ah b,strOf n,strOf d] 222 0 af)).app g):=f.set _ l (f.wf _ _ e) w;have p:((ek.set k (.cells [ah b,strOf n,strOf d] 222 0 af)).app g).get k=aa (.cells [ah b,strOf n,strOf d] 222 0 af):=by
  show(g.set k _).get k=_;rw[au.cE,iP rfl]
 refine uB (v:=UP b n d) (agk p) ?_;exact j _ o
def acy(n d:List UInt8)(neg a:Bool):Prop:=Num.valid n=af/\Num.valid d=af/\n.length<=400/\d.length<=400/\¬(neg=af/\n=[48])/\¬(a=af/\(d=[48]\/d=[49]))/\Nat.gcd (Num.val n) (Num.val d)=1
theorem qQ(w:Wf h){k:Nat}{g:au}(m:PA h k g){C:Prop}(a:¬C){G:ag}:
  ∃u:ek,bh aq 222 (pA k) (al ⟨[ah aj,strOf [],strOf []]⟩) g=aa (undef,u)/\jq SS [(pA k,aa 222),(ah aj,none)] (u.app g) (tj h C G xr):=
 Od w m aj [] [] aj (λ_ o=>nU o a)
theorem S0(n d:List UInt8)(neg h:Bool)(k:Nat){h0 g:au}(w:Wf h0)(m:PA h0 k g)(tb:za g){x0 x1 x3 x4 x9 z1 z3 I y7 W z8 u4 y6 z7 z5 J E B V Y u7 z0 x6 R y9 y1 N u2 u A t M u5 u1 L D z H Z y x z4 u6 u0 x7 z9 y0 G v z2 r z6 y2 y4 K y8 F U x2 Q C O S x8 P T x5 u3 y3 y5 X s:ag}:
  TT SS bH (pq 31) [x0,x1,pA k,x3,x4,ah neg,strOf n,strOf d,ah h,x9,z1,z3,I,y7,W,z8,u4,y6,z7,z5,J,E,B,V,Y,u7,z0,x6,R,y9,y1,N,u2,u,A,t,M,u5,u1,L,D,z,H,Z,y,x,z4,u6,u0,x7,z9,y0,G,v,z2,r,z6,y2,y4,K,y8,F,U,x2,Q,C,O,S,x8,P,T,x5,u3,y3,y5,X,s] g (mK bH (tj h0 (acy n d neg h) (yK neg n d) xr)):=by
 refine Hk ((iw n g).mono ?_);rintro _ g0 ⟨rfl,e0⟩;obtain rfl:g=g0:=e0.symm;refine⟨_,rfl,az (λl=>⟨_,tX,qQ w m (λc=>?_)⟩) (λl=>?_)⟩
 ·rw[c.1]at l;cases l
 have l:Num.valid n=af:=by simpa using l
 refine(iw d g).mono ?_;rintro _ g0 ⟨rfl,e0⟩;obtain rfl:g=g0:=e0.symm;refine⟨_,rfl,az (λi=>⟨_,tX,qQ w m (λc=>?_)⟩) (λi=>?_)⟩
 ·rw[c.2.1]at i;cases i
 have i:Num.valid d=af:=by simpa using i
 refine az (λq=>⟨_,tX,qQ w m (λc=>?_)⟩) (λq=>?_)
 ·have:=c.2.2.1;have q:=dT q;omega
 have q:n.length<=400:=by have q:=dF q;omega
 refine az (λj=>⟨_,tX,qQ w m (λc=>?_)⟩) (λj=>?_)
 ·have:=c.2.2.2.1;have j:=dT j;omega
 have j:d.length<=400:=by have j:=dF j;omega
 have fin:¬(neg=af/\n=[48])->¬(h=af/\(d=[48]\/d=[49]))->∀{x0 x1 x3 x4 x9 z1 z3 I y7 W z8 u4 y6 z7 z5 J E B V Y u7 z0 x6 R y9 y1 N u2 u A t M u5 u1 L D z H Z y x z4 u6 u0 x7 z9 y0 G v z2 r z6 y2 y4 K y8 F U x2 Q C O S x8 P T x5 u3 y3 y5 X s:ag},TT SS bH (pq 127) [x0,x1,pA k,x3,x4,ah neg,strOf n,strOf d,ah h,x9,z1,z3,I,y7,W,z8,u4,y6,z7,z5,J,E,B,V,Y,u7,z0,x6,R,y9,y1,N,u2,u,A,t,M,u5,u1,L,D,z,H,Z,y,x,z4,u6,u0,x7,z9,y0,G,v,z2,r,z6,y2,y4,K,y8,F,U,x2,Q,C,O,S,x8,P,T,x5,u3,y3,y5,X,s] g (mK bH (tj h0 (acy n d neg h) (yK neg n d) xr)):=by
  intro p c6;intros;refine Hm ((UK n d tb m.ok.wf).mono ?_);rintro _ h1 ⟨rfl,o1⟩;have m1:=m.trans o1;rw[NM l i];refine⟨_,_,rfl,az (λe=>by cases e) (λ_=>?_)⟩;refine az (λe=>⟨_,tX,qQ w m1 (λc=>?_)⟩) (λe=>?_)
  ·have e:¬bn (Nat.gcd (Num.val n) (Num.val d))=[49]:=by simpa using e
   exact e (pF.2 c.2.2.2.2.2.2)
  ·have e:bn (Nat.gcd (Num.val n) (Num.val d))=[49]:=by simpa using e
   refine Hn ⟨_,afQ neg n d,Od w m1 neg n d af (λ_ o=>AJ o ?_)⟩;exact⟨l,i,q,j,p,c6,pF.1 e⟩
 refine Hl (az (λg5=>az (λg6=>⟨_,tX,qQ w m (λc=>?_)⟩) (λg6=>?_)) (λg5=>?_))
 ·exact c.2.2.2.2.1 ⟨g5,by simpa using g6⟩
 ·have p:¬(neg=af/\n=[48]):=λc=>by
   have:¬n=[48]:=by simpa using g6
   exact this c.2
  refine az (λb=>az (λa=>⟨_,tX,qQ w m (λc=>?_)⟩) (λa=>az (λf=>⟨_,tX,qQ w m (λc=>?_)⟩) (λf=>?_))) (λb=>?_)
  ·exact c.2.2.2.2.2.1 ⟨b,.inl (by simpa using a)⟩
  ·exact c.2.2.2.2.2.1 ⟨b,.inr (by simpa using f)⟩
  ·refine fin p (λc=>?_);have a:¬d=[48]:=by simpa using a
   have f:¬d=[49]:=by simpa using f
   exact c.2.elim a f
  ·exact fin p (λc=>by rw[c.1]at b;cases b)
 ·have p:¬(neg=af/\n=[48]):=λc=>by rw[c.1]at g5;cases g5
  refine az (λb=>az (λa=>⟨_,tX,qQ w m (λc=>?_)⟩) (λa=>az (λf=>⟨_,tX,qQ w m (λc=>?_)⟩) (λf=>?_))) (λb=>?_)
  ·exact c.2.2.2.2.2.1 ⟨b,.inl (by simpa using a)⟩
  ·exact c.2.2.2.2.2.1 ⟨b,.inr (by simpa using f)⟩
  ·refine fin p (λc=>?_);have a:¬d=[48]:=by simpa using a
   have f:¬d=[49]:=by simpa using f
   exact c.2.elim a f
  ·exact fin p (λc=>by rw[c.1]at b;cases b)
theorem LJ{l:List UInt8}(q:tj h (acy (Num.numOf l) (dS l) (Num.isNeg l) (eG l)) (yK (Num.isNeg l) (Num.numOf l) (dS l)) xr v g):v=AI l/\Ok h g:=by
 obtain⟨o,d,b⟩:=q;refine⟨?_,o⟩;unfold AI;by_cases a:ft l=af
 ·rw[iP a];have r:=kc.1 a;exact d ⟨r.num,r.den,r.ln,r.ld,r.neg,r.fr,r.one⟩
 ·rw[iN a];exact b λc=>a (kc.2 ⟨c.1,c.2.1,c.2.2.1,c.2.2.2.1,c.2.2.2.2.1,c.2.2.2.2.2.1,c.2.2.2.2.2.2⟩)
theorem xw(l:List UInt8)(m:l.length<=281474976710656){h:au}(o:za h)(w:Wf h):aX 169 [strOf l] h (λv n=>v=AI l/\Ok h n):=by
 refine FW.mono (Q:=tj h (acy (Num.numOf l) (dS l) (Num.isNeg l) (eG l)) (yK (Num.isNeg l) (Num.numOf l) (dS l)) xr) ?_ (λ_ _ q=>LJ q);have f:PA h h.aD (h.push H5):=⟨⟨_,rfl,by rw[au.cY,iP rfl];rfl⟩,aT _,(Ok.refl w).push _⟩
 refine OD l h _ ⟨_,WK,(T1 l _).mono ?_⟩;rintro _ r ⟨rfl,rfl⟩;have j:(dX l).length<=281474976710656:=by
  unfold dX;split
  ·rw[da];omega
  ·exact m
 refine⟨_,_,rfl,(aej _ j f.ok.wf).mono ?_⟩;rintro _ p ⟨rfl,i⟩;have c:=f.trans i;have g:=o.ok c.ok;unfold T2;by_cases b:iC 47 (dX l)<(dX l).length
 ·rw[iP b];have a:eG l=af:=eT b;have d:dS l=(dX l).drop (iC 47 (dX l)+1):=by unfold dS;rw[iP a]
  rw[a];refine⟨_,_,_,rfl,az (λe=>by cases e) (λ_=>?_)⟩;rw[<-d];exact S0 _ _ _ af _ w c g
 ·rw[iN b];have a:eG l=aj:=eF b;have d:dS l=[49]:=by unfold dS;rw[a];rfl
  have k:Num.numOf l=dX l:=by unfold Num.numOf;rw[bC (by omega)]
  rw[a,k,d];refine⟨_,_,_,rfl,az (λ_=>?_) (λe=>by cases e)⟩;exact S0 _ _ _ aj _ w c g
theorem QW(l:List UInt8):∃(cs:List ag)(b:Bool),AI l=av ⟨[al ⟨cs⟩,ah b]⟩/\b=ft l:=by
 unfold AI
 cases g:ft l with
 |true=>exact⟨_,_,rfl,rfl⟩
 |false=>exact⟨_,_,rfl,rfl⟩
theorem Ek(l:List UInt8)(c:l.length<=281474976710656){h:au}(f:za h)(w:Wf h):aX 155 [strOf l] h (λv d=>v=ah (ft l)/\Ok h d):=by
 refine OE l h _ ((xw l c f w).mono ?_);rintro _ i ⟨rfl,a⟩;obtain⟨cs,b,e,g⟩:=QW l;exact⟨cs,b,e,by rw[g],a⟩
theorem St(k:Nat):aY aq 222 (pA k) 0=aa (pA k):=by kernel_rfl
theorem Su(k:Nat):aY aq 222 (pA k) 1=aa (df k 1):=by kernel_rfl
theorem Sv(k:Nat):aY aq 222 (pA k) 2=aa (df k 2):=by kernel_rfl
theorem un4:aq.underlying 4=aa .bool:=Tryz.underlying4
theorem ag4:Go.Ab.isAgg aq 4=aj:=by kernel_rfl
theorem WJ:Go.Ab.isAgg aq 9=aj:=by kernel_rfl
def tW(g:au)(k:Nat)(b:Bool)(n d:List UInt8):Prop:=g.get k=aa (.cells [ah b,strOf n,strOf d] 222 0 af)
theorem tW.ok(x:tW h k b s t)(o:Ok h g):tW g k b s t:=o.ext _ _ x
theorem tW.l0(x:tW h k b s t):aS aq 4 h (pA k)=aa (ah b):=ej un4 ag4 x (by simp)
theorem tW.l1(x:tW h k b s t):aS aq 9 h (df k 1)=aa (strOf s):=ej RG WJ x (by simp)
theorem tW.l2(x:tW h k b s t):aS aq 9 h (df k 2)=aa (strOf t):=ej RG WJ x (by simp)
theorem YT(w:Wf h)(b:Bool)(n d:List UInt8):∃u:ek,bh aq 222 (pA h.aD) (al ⟨[ah b,strOf n,strOf d]⟩) (h.push H5)=aa (undef,u)/\Ok h (u.app (h.push H5))/\tW (u.app (h.push H5)) h.aD b n d:=by
 have a:(h.push H5).get h.aD=aa H5:=by rw[au.cY,iP rfl]
 refine⟨_,adN (cs0:=[ah aj,strOf [],strOf []]) rfl a b n d,?_,?_⟩
 ·exact((Ok.refl w).push _).set _ (aT _) (ff _) w
 ·show((h.push H5).set h.aD _).get h.aD=_;rw[au.cE,iP rfl]
theorem JK(l:List UInt8):∃(b:Bool)(n d:List UInt8),AI l=av ⟨[al ⟨[ah b,strOf n,strOf d]⟩,ah (ft l)]⟩/\(ft l=af->b=Num.isNeg l/\n=Num.numOf l/\d=dS l):=by
 unfold AI
 cases g:ft l with
 |true=>exact⟨_,_,_,rfl,λ_=>⟨rfl,rfl,rfl⟩⟩
 |false=>exact⟨_,_,_,rfl,λe=>by cases e⟩
theorem Ez(b:Bool):oQ 4 (ah b) (ah b)=af:=by simp[oQ]
theorem Tn(l:List UInt8):oQ 4 (strOf l) (strOf l)=af:=by simp[oQ,strOf]
theorem Vb(l m:List UInt8)(S:l.length<=281474976710656)(N:m.length<=281474976710656){h:au}(s:za h)(w:Wf h):aX 131 [strOf l,strOf m] h (λv X=>v=aE (jM l m)/\Ok h X):=by
 refine Va l m h _ ((xw l S s w).mono ?_);rintro _ K ⟨rfl,F⟩;obtain⟨b,n,d,O,f1⟩:=JK l;obtain⟨I,s1,Y,Q⟩:=YT F.wf b n d;refine⟨_,_,O,_,WK,I,s1,?_⟩;have r:=F.trans Y;generalize I.app (K.push H5)=g1 at*;refine(xw m N (s.ok r) r.wf).mono ?_;rintro _ L ⟨rfl,C⟩;obtain⟨Z,W,U,e2,f2⟩:=JK m;obtain⟨E,P,J,g⟩:=YT C.wf Z W U;refine⟨_,_,e2,_,WK,E,P,?_⟩;have f:=(r.trans C).trans J;have i:=(Q.ok C).ok J;generalize E.app (L.push H5)=H at*;generalize K.aD=k1 at*;generalize L.aD=k2 at*;refine az (λq=>⟨?_,f⟩) (λq=>az (λa=>⟨?_,f⟩) (λa=>?_))
 ·have q:ft l=aj:=by simpa using q
  unfold jM;rw[iN (λc=>by rw[c.1]at q;cases q)]
 ·have a:ft m=aj:=by simpa using a
  unfold jM;rw[iN (λc=>by rw[c.2]at a;cases a)]
 have q:ft l=af:=by simpa using q
 have a:ft m=af:=by simpa using a
 obtain⟨rfl,rfl,rfl⟩:=f1 q;obtain⟨rfl,rfl,rfl⟩:=f2 a;have j:=kc.1 q;have k:=kc.1 a;have o:Ok H (Go.Ab.room H 27):=(Ok.refl f.wf).room 27;refine⟨_,St _,_,(i.ok o).l0,_,Su _,_,(i.ok o).l1,_,Sv _,_,(g.ok o).l2,?_⟩;have y:=f.trans o;refine(JE _ _ (s.ok y) y.wf).mono ?_;rintro _ R ⟨rfl,o3⟩;rw[(tf j.num k.den j.ln k.ld).1];refine⟨_,_,rfl,(tl _ _).mono ?_⟩;rintro _ G ⟨rfl,D⟩;obtain rfl:R=G:=D.symm;have e:=o.trans o3;refine⟨_,rfl,_,St _,_,(g.ok e).l0,_,Su _,_,(g.ok e).l1,_,Sv _,_,(i.ok e).l2,?_⟩;have A:=f.trans e;refine(JE _ _ (s.ok A) A.wf).mono ?_;rintro _ h4 ⟨rfl,T⟩;rw[(tf k.num j.den k.ln j.ld).1];refine⟨_,_,rfl,(tl _ _).mono ?_⟩;rintro _ M ⟨rfl,D⟩;obtain rfl:h4=M:=D.symm;have t:=e.trans T;have x:=f.trans t;refine⟨_,rfl,(Q4 _ _ _ _ (tf j.num k.den j.ln k.ld).2 (tf k.num j.den k.ln j.ld).2 (s.ok x) x.wf).mono ?_⟩;rintro _ h5 ⟨rfl,V⟩;have u:=x.trans V;refine⟨_,_,rfl,⟨(i.ok e).l0,Ez _⟩,⟨(i.ok e).l0,Ez _⟩,⟨(i.ok t).l0,Ez _⟩,⟨(i.ok t).l0,Ez _⟩,⟨(g.ok o).l0,Ez _⟩,⟨(g.ok e).l0,Ez _⟩,⟨(g.ok t).l0,Ez _⟩,⟨(g.ok t).l0,Ez _⟩,⟨(g.ok o).l1,Tn _⟩,⟨(g.ok e).l1,Tn _⟩,⟨(i.ok o).l2,Tn _⟩,⟨(i.ok e).l2,Tn _⟩,?_⟩;unfold jM;rw[iP ⟨q,a⟩];generalize nE _ _ _ _=z;refine az (λp=>⟨?_,u⟩) (λp=>?_)
 ·have p:bn z.2=[48]:=by simpa using p
  rw[iP (gF.1 p)]
 ·have p:¬bn z.2=[48]:=by simpa using p
  rw[iN (λc=>p (gF.2 c))];refine az (λB=>⟨?_,u⟩) (λB=>⟨?_,u⟩)
  ·rw[iP B]
  ·rw[iN (by rw[B];simp)]
noncomputable def Rn:FD:=gU Tryz.f121 []
theorem O1  (h:au) (Q:VH) (d:xN (cP aq 184) h λi a=>xA (cJ aq 100 [(0,(strOf [105,110,102])),(1,(strOf [48])),(2,(ah af)),(3,(aN (.func 152) ⟨[]⟩ ⟨[]⟩)),(4,(aN (.func 153) ⟨[]⟩ ⟨[]⟩)),(5,(aN (.func 154) ⟨[]⟩ ⟨[]⟩)),(6,(aN (.func 155) ⟨[]⟩ ⟨[]⟩)),(7,(aN (.func 155) ⟨[]⟩ ⟨[]⟩))]) λe=>xA (cJ aq 100 [(0,(strOf [48])),(1,(strOf [49])),(2,(ah aj)),(3,(aN (.func 156) ⟨[]⟩ ⟨[]⟩)),(4,(aN (.func 157) ⟨[]⟩ ⟨[]⟩)),(5,(aN (.func 158) ⟨[]⟩ ⟨[]⟩)),(6,(aN (.func 159) ⟨[]⟩ ⟨[]⟩)),(7,(aN (.func 160) ⟨[]⟩ ⟨[]⟩))]) λc=>xA (cJ aq 100 [(0,(strOf [48])),(1,(strOf [49])),(2,(ah aj)),(3,(aN (.func 152) ⟨[]⟩ ⟨[]⟩)),(4,(aN (.func 157) ⟨[]⟩ ⟨[]⟩)),(5,(aN (.func 161) ⟨[]⟩ ⟨[]⟩)),(6,(aN (.func 159) ⟨[]⟩ ⟨[]⟩)),(7,(aN (.func 160) ⟨[]⟩ ⟨[]⟩))]) λg=>xA (cJ aq 184 [(1,(al ⟨e⟩)),(2,(al ⟨c⟩)),(3,(al ⟨g⟩))]) λf=>xU (bh aq 184 (pA (h.aD)) (al ⟨f⟩) a) a λj b=>jq SS [((pA (h.aD)),aa 184)] b Q):aX 121 [] h Q:=hH Rn Tryz.func121 (bD d)
noncomputable def acJ:FD:=gU Tryz.f67 []
theorem Zz(a:Int)(h:au)(Q:VH)(i:xN (cP aq 100) h λo b=>cq (decide ((a:Int)<1)) (xA (cJ aq 100 []) λj=>xU (bh aq 100 (pA (h.aD)) (al ⟨j⟩) b) b λp m=>jq SS [((pA (h.aD)),aa 100),((ah aj),none)] m Q) (cq (decide ((a:Int)>3)) (xA (cJ aq 100 []) λk=>xU (bh aq 100 (pA (h.aD)) (al ⟨k⟩) b) b λq g=>jq SS [((pA (h.aD)),aa 100),((ah aj),none)] g Q) (aX 121 [] b λl c=>yA l λe=>xA (dE aq 184 (al ⟨e⟩) (aE a)) λf=>xU (bh aq 100 (pA (h.aD)) (al ⟨f⟩) c) c λn d=>jq SS [((pA (h.aD)),aa 100),((ah af),none)] d Q))):aX 67 [(aE a)] h Q:=hH acJ Tryz.func67 (bD i)
noncomputable def IN:FD:=gU Tryz.f160 []
theorem Hz(l:LB)(h:au)(Q:VH)(d:aX 155 [(strOf l)] h λf a=>yB f λc=>cq c (aX 131 [(strOf l),(strOf [48])] a λb g=>yI ak b λe=>Q (ah (decide (e>0))) g) (Q (ah aj) a)):aX 160 [(strOf l)] h Q:=hH IN Tryz.func160 (bD d)
noncomputable def O3:FD:=gU Tryz.f73 []
theorem Mm(a:Int)(l:LB)(h:au)(Q:VH)(o:aX 67 [(aE a)] h λp e=>∃b:LV,∃i:Bool,p=(av ⟨[(al ⟨b⟩),(ah i)]⟩)/\xN (cP aq 100) e λr j=>xU (bh aq 100 (pA (e.aD)) (al ⟨b⟩) j) j λq d=>cq i (qF xF 100 (pA (e.aD)) 7 86 d λc f m=>cq (cQ c YB) (aX c (f++[(strOf l)]++m) d λk n=>yB k λg=>Q (ah g) n) False) (Q (ah aj) d)):aX 73 [(aE a),(strOf l)] h Q:=hH O3 Tryz.func73 (bD o)
noncomputable def Rc:FD:=gU Tryz.f118 []
theorem Eo(a:Int)(h:au)(Q:VH)(b:cq (decide ((a:Int)>=1)) (Q (ah (decide ((a:Int)<=3))) h) (Q (ah aj) h)):aX 118 [(aE a)] h Q:=hH Rc Tryz.func118 (bD b)
noncomputable def OJ:FD:=gU Tryz.f151 []
theorem L4(a:Int)(l:LB)(h:au)(Q:VH)(k:aX 118 [(aE a)] h λm b=>yB m λg=>cq (!g) (Q (ah aj) b) (cq ((l:LB)==[105,110,102]) (cq ((l:LB)==[105,110,102]) (Q (ah af) b) (Q (ah (((a:Int)==1))) b)) (cq ((l:LB)==[45,105,110,102]) (cq ((l:LB)==[105,110,102]) (Q (ah af) b) (Q (ah (((a:Int)==1))) b)) (aX 188 [(strOf l)] b λf c=>yB f λi=>cq i (cq (((a:Int)==1)) (Q (ah af) c) (aX 189 [(strOf l),(strOf [48])] c λd j=>yI ak d λe=>Q (ah (decide (e>=0))) j)) (Q (ah aj) c))))):aX 151 [(aE a),(strOf l)] h Q:=hH OJ Tryz.func151 (bD k)
noncomputable def Ma:FD:=gU Tryz.f119 []
theorem II(a:Int)(l:LB)(h:au)(Q:VH)(d:aX 151 [(aE a),(strOf l)] h λe b=>yB e λc=>cq c (cq (!((l:LB)==[105,110,102])) (cq (!((l:LB)==[45,105,110,102])) (cq (((a:Int)==1)) (Q (ah af) b) (Q (ah (!((l:LB)==[48]))) b)) (Q (ah aj) b)) (Q (ah aj) b)) (Q (ah aj) b)):aX 119 [(aE a),(strOf l)] h Q:=hH Ma Tryz.func119 (bD d)
variable{P:aO}{n:Nat}{c:List ag}
theorem ib{t:aF}(c:bZ P t=aa n){h:au}{k:Nat}{cs0:List ag}(g:cs0.length=n)(d:h.get k=aa (.cells cs0 t 0 af)){cs:List ag}(f:cs.length=n)(a:cs.all eZ=af):bh P t (pA k) (al ⟨cs⟩) h=aa (undef,.set k (.cells cs t 0 af)):=by
 unfold bh;dsimp only;have b:(al ⟨cs⟩).cells.size=n:=by show cs.toArray.size=n;simpa using f
 have e:(al ⟨cs⟩).cells.toList=cs:=rfl;rw[iP (by rw[b,c])];unfold storeAt;rw[d,e];dsimp only;rw[iP ⟨by omega,a⟩,bV (by omega)];simp
theorem qq(w:Wf g)(o:Ok g h){k:Nat}{t:aF}{a cs:List ag}(c:h.get k=aa (.cells a t 0 af))(b:g.aD<=k):Ok g ((ek.set k (.cells cs t 0 af)).app h)/\((ek.set k (.cells cs t 0 af)).app h).get k=aa (.cells cs t 0 af):=by
 refine⟨o.set _ b (o.wf _ _ c) w,?_⟩;show(h.set k _).get k=_;rw[au.cE,iP rfl]
theorem cT(h:au)(B:eA):(h.push B).get h.aD=aa B:=by rw[au.cY,iP rfl]
def H2(i:Nat):ag:= aN (.func i) ⟨[]⟩ ⟨[]⟩
def rD:List ag:=[strOf [],strOf [],ah aj,.nilFunc,.nilFunc,.nilFunc,.nilFunc,.nilFunc]
def Es:List ag:=[strOf [105,110,102],strOf [48],ah af,H2 152,H2 153,H2 154,H2 155,H2 155]
def Et:List ag:=[strOf [48],strOf [49],ah aj,H2 156,H2 157,H2 158,H2 159,H2 160]
def Eu:List ag:=[strOf [48],strOf [49],ah aj,H2 152,H2 157,H2 161,H2 159,H2 160]
def DK:List ag:=rD++Es++Et++Eu
def aaK:eA:= .cells (rD++rD++rD++rD) 184 0 af
def ED:eA:= .cells rD 100 0 af
theorem afB:cP aq 184=aa (aaK,m4):=by kernel_rfl
theorem R6:cP aq 100=aa (ED,m4):=by kernel_rfl
theorem ZZ:bZ aq 184=aa 32:=by kernel_rfl
theorem HG:bZ aq 100=aa 8:=by kernel_rfl
theorem afv:Go.Ab.isAgg aq 184=af:=by kernel_rfl
theorem aft:Go.Ab.isAgg aq 100=af:=by kernel_rfl
noncomputable def afh:TypeDesc:=(aq.underlying 184).getD .bool
theorem ag6:aq.underlying 184=aa afh:=by kernel_rfl
noncomputable def afe:TypeDesc:=(aq.underlying 100).getD .bool
theorem ag1:aq.underlying 100=aa afe:=by kernel_rfl
noncomputable def ahf:TypeDesc:=(aq.underlying 86).getD .bool
theorem aib:aq.underlying 86=aa ahf:=by kernel_rfl
theorem ahs:Go.Ab.isAgg aq 86=aj:=by kernel_rfl
theorem aa3:cJ aq 100 [(0,(strOf [105,110,102])),(1,(strOf [48])),(2,(ah af)),(3,(aN (.func 152) ⟨[]⟩ ⟨[]⟩)),(4,(aN (.func 153) ⟨[]⟩ ⟨[]⟩)),(5,(aN (.func 154) ⟨[]⟩ ⟨[]⟩)),(6,(aN (.func 155) ⟨[]⟩ ⟨[]⟩)),(7,(aN (.func 155) ⟨[]⟩ ⟨[]⟩))]=aa (al ⟨Es⟩):=by kernel_rfl
theorem aa4:cJ aq 100 [(0,(strOf [48])),(1,(strOf [49])),(2,(ah aj)),(3,(aN (.func 156) ⟨[]⟩ ⟨[]⟩)),(4,(aN (.func 157) ⟨[]⟩ ⟨[]⟩)),(5,(aN (.func 158) ⟨[]⟩ ⟨[]⟩)),(6,(aN (.func 159) ⟨[]⟩ ⟨[]⟩)),(7,(aN (.func 160) ⟨[]⟩ ⟨[]⟩))]=aa (al ⟨Et⟩):=by kernel_rfl
theorem aa5:cJ aq 100 [(0,(strOf [48])),(1,(strOf [49])),(2,(ah aj)),(3,(aN (.func 152) ⟨[]⟩ ⟨[]⟩)),(4,(aN (.func 157) ⟨[]⟩ ⟨[]⟩)),(5,(aN (.func 161) ⟨[]⟩ ⟨[]⟩)),(6,(aN (.func 159) ⟨[]⟩ ⟨[]⟩)),(7,(aN (.func 160) ⟨[]⟩ ⟨[]⟩))]=aa (al ⟨Eu⟩):=by kernel_rfl
theorem Sb:cJ aq 100 []=aa (al ⟨rD⟩):=by kernel_rfl
theorem afP:cJ aq 184 [(1,(al ⟨Es⟩)),(2,(al ⟨Et⟩)),(3,(al ⟨Eu⟩))]=aa (al ⟨DK⟩):=by kernel_rfl
theorem O2(w:Wf h):aX 121 [] h (λv b=>v=al ⟨DK⟩/\Ok h b):=by
 have a:(h.push aaK).get h.aD=aa (.cells (rD++rD++rD++rD) 184 0 af):=cT h aaK;refine O1 h _ ⟨_,afB,_,aa3,_,aa4,_,aa5,_,afP,_,ib ZZ (by rfl) a (cs:=DK) (by rfl) (by rfl),?_⟩;obtain⟨o,g⟩:=qq (cs:=DK) w ((Ok.refl w).push aaK) a (aT _);refine Np (v:= al ⟨DK⟩) (jr ag6 afv ZZ g (by simp[DK,rD,Es,Et,Eu])) ?_;exact⟨rfl,o⟩
def ofV(a:Int):ag:=if a=1 then av ⟨[al ⟨Es⟩,ah af]⟩else if a=2 then av ⟨[al ⟨Et⟩,ah af]⟩else if a=3 then av ⟨[al ⟨Eu⟩,ah af]⟩else av ⟨[al ⟨rD⟩,ah aj]⟩
theorem G0(w:Wf h){g:au}(o:Ok h g){k:Nat}{a:List ag}(i:a.length=8)(d:g.get k=aa (.cells a 100 0 af))(e:h.aD<=k){cs:List ag}(l:cs.length=8)(f:cs.all eZ=af)(b:Bool){Q:VH}(j:∀c,Ok h c->Q (av ⟨[al ⟨cs⟩,ah b]⟩) c):
  ∃u:ek,bh aq 100 (pA k) (al ⟨cs⟩) g=aa (undef,u)/\jq SS [(pA k,aa 100),(ah b,none)] (u.app g) Q:=by
 refine⟨_,ib HG i d l f,?_⟩;obtain⟨o,g⟩:=qq (cs:=cs) w o d e;refine uB (v:= al ⟨cs⟩) (by rw[jr ag1 aft HG g (by omega),bO,bC (by omega)]) ?_;exact j _ o
theorem O0(a:Int){h:au}(w:Wf h):aX 67 [aE a] h (λv j=>v=ofV a/\Ok h j):=by
 have c:=(Ok.refl w).push ED;have f:=cT h ED;refine Zz a h _ ⟨_,R6,az (λg=>?_) (λg=>az (λb=>?_) (λb=>?_))⟩
 ·have g:=dT g;refine⟨_,Sb,G0 w c rfl f (aT _) rfl rfl aj (λ_ o=>⟨?_,o⟩)⟩;unfold ofV;rw[iN (by omega),iN (by omega),iN (by omega)]
 ·have b:=dT b;refine⟨_,Sb,G0 w c rfl f (aT _) rfl rfl aj (λ_ o=>⟨?_,o⟩)⟩;unfold ofV;rw[iN (by omega),iN (by omega),iN (by omega)]
 ·have g:=dF g;have b:=dF b;refine(O2 c.wf).mono ?_;rintro _ k ⟨rfl,i⟩;have d:=i.ext _ _ f;have e:=c.trans i;obtain rfl|rfl|rfl:a=1\/a=2\/a=3:=by omega
  ·exact⟨_,rfl,Es,by kernel_rfl,G0 w e rfl d (aT _) rfl rfl af (λ_ o=>⟨rfl,o⟩)⟩
  ·exact⟨_,rfl,Et,by kernel_rfl,G0 w e rfl d (aT _) rfl rfl af (λ_ o=>⟨rfl,o⟩)⟩
  ·exact⟨_,rfl,Eu,by kernel_rfl,G0 w e rfl d (aT _) rfl rfl af (λ_ o=>⟨rfl,o⟩)⟩
theorem yb(l:List UInt8)(b:l.length<=281474976710656){h:au}(c:za h)(w:Wf h):aX 160 [strOf l] h (λv d=>v=ah (ft l&&decide (0<jM l [48]))/\Ok h d):=by
 refine Hz l h _ ((Ek l b c w).mono ?_);rintro _ f ⟨rfl,a⟩;refine⟨_,rfl,az (λg=>?_) (λg=>?_)⟩
 ·refine(Vb l [48] b (by simp) (c.ok a) a.wf).mono ?_;rintro _ i ⟨rfl,e⟩;refine⟨_,rfl,?_,a.trans e⟩;rw[g,dz]
 ·refine⟨?_,a⟩;rw[g,Bool.false_and]
theorem agR{A B:Prop}(c:b=af)(a:A):cq b A B:=az (λ_=>a) (λe=>by rw[c]at e;cases e)
theorem Jf{K:VH}(d:cQ n YB=af)(e:aX n c h λv a=>∃b:Bool,v=ah b/\K (ah b) a):cq (cQ n YB) (aX n ([]++c++[]) h λv a=>∃b:Bool,v=ah b/\K (ah b) a) False:=
 agR d (by rw[dL,cp];exact e)
theorem vK(a:Int)(l:List UInt8)(u:l.length<=281474976710656){h:au}(z:za h)(w:Wf h):aX 73 [aE a,strOf l] h (λv y=>v=ah (fD a l)/\Ok h y):=by
 refine Mm a l h _ ((O0 a w).mono ?_);rintro _ b ⟨rfl,c⟩;have j:∀(cs:List ag)(f:Nat),cs.length=8->cs.all eZ=af->cs.getD 7 undef=H2 f->cQ f YB=af->(∀g,Ok h g->aX f [strOf l] g (λv y=>v=ah (fD a l)/\Ok g y))->ofV a=av ⟨[al ⟨cs⟩,ah af]⟩->∃p:List ag,∃D:Bool,ofV a=(av ⟨[(al ⟨p⟩),(ah D)]⟩)/\∃m:eA,cP aq 100=aa (m,m4)/\∃n:ek,bh aq 100 (pA b.aD) (al ⟨p⟩) (b.push m)=aa (undef,n)/\cq D (∃E:aJ,aY aq 100 (pA b.aD) 7=aa (bw E)/\∃(t:Nat)(B r:List ag),aS aq 86 (n.app (b.push m)) (bw E)=aa (aN (.func t) ⟨B⟩ ⟨r⟩)/\cq (cQ t YB) (aX t (B++[(strOf l)]++r) (n.app (b.push m)) λA k=>∃s:Bool,A=(ah s)/\(ah s=ah (fD a l)/\Ok h k)) False) (ah aj=ah (fD a l)/\Ok h (n.app (b.push m))):=by
  intro cs f M I H J L e;refine⟨_,_,e,_,R6,_,ib HG rfl (cT b ED) M I,az (λ_=>?_) (λg=>by cases g)⟩;obtain⟨o,g⟩:=qq (cs:=cs) c.wf ((Ok.refl c.wf).push ED) (cT b ED) (aT _);have q:=ej aib ahs g (i:=7) (by omega);rw[H]at q;refine⟨⟨b.aD,7,none⟩,by kernel_rfl,f,[],[],q,?_⟩;refine Jf (K:=λv k=>v=ah (fD a l)/\Ok h k) J ((L _ (c.trans o)).mono ?_);rintro _ x ⟨rfl,d⟩;exact⟨_,rfl,rfl,(c.trans o).trans d⟩
 by_cases F:a=1
 ·subst F;refine j Es 155 rfl rfl rfl (by decide +kernel) (λg o=>?_) rfl;refine(Ek l u (z.ok o) o.wf).mono ?_;rintro _ x ⟨rfl,d⟩;refine⟨?_,d⟩;unfold fD;simp
 by_cases C:a=2
 ·subst C;refine j Et 160 rfl rfl rfl (by decide +kernel) (λg o=>?_) rfl;refine(yb l u (z.ok o) o.wf).mono ?_;rintro _ x ⟨rfl,d⟩;refine⟨?_,d⟩;unfold fD;simp
 by_cases G:a=3
 ·subst G;refine j Eu 160 rfl rfl rfl (by decide +kernel) (λg o=>?_) rfl;refine(yb l u (z.ok o) o.wf).mono ?_;rintro _ x ⟨rfl,d⟩;refine⟨?_,d⟩;unfold fD;simp
 ·have e:ofV a=av ⟨[al ⟨rD⟩,ah aj]⟩:=by unfold ofV;rw[iN F,iN C,iN G]
  refine⟨_,_,e,_,R6,_,ib HG rfl (cT b ED) (cs:=rD) rfl rfl,az (λg=>by cases g) (λ_=>?_)⟩;obtain⟨o,g⟩:=qq (cs:=rD) c.wf ((Ok.refl c.wf).push ED) (cT b ED) (aT _);refine⟨?_,c.trans o⟩;unfold fD;rw[eF (by omega)];rfl
theorem L9(a:Int)(l:List UInt8)(k:l.length<=281474976710656){h:au}(w:Wf h):aX 151 [aE a,strOf l] h (λv j=>v=ah (decide (1<=a/\a<=3)&&(l==[105,110,102]||l==[45,105,110,102]&&a==1||ft l&&(a==1||decide (0<=jM l [48]))))/\Ok h j):=by
 have m:aX 118 [aE a] h (λv j=>v=ah (decide (1<=a/\a<=3))/\j=h):=by
  refine Eo a h _ (az (λg=>⟨?_,rfl⟩) (λg=>⟨?_,rfl⟩))
  ·have g:=dT g;congr 1;exact decide_eq_decide.2 ⟨λc=>⟨g,c⟩,λc=>c.2⟩
  ·have g:=dF g;rw[eF (by omega)]
 refine L4 a l h _ (m.mono ?_);rintro _ p ⟨rfl,o⟩;obtain rfl:h=p:=o.symm;refine⟨_,rfl,az (λg=>⟨?_,Ok.refl w⟩) (λg=>?_)⟩
 ·rw[cK]at g;rw[g];rfl
 rw[dc]at g;rw[g,dz];refine az (λe=>az (λ_=>⟨?_,Ok.refl w⟩) (λb=>by rw[e]at b;cases b)) (λe=>az (λb=>az (λd=>by rw[e]at d;cases d) (λ_=>⟨?_,Ok.refl w⟩)) (λb=>?_))
 ·rw[e];rfl
 ·rw[e,b];rw[show l=[45,105,110,102] by simpa using b,zt];simp
 ·rw[e,b];refine(L0 l k w).mono ?_;rintro _ q ⟨rfl,f⟩;refine⟨_,rfl,az (λd=>az (λi=>⟨?_,f⟩) (λi=>?_)) (λd=>⟨?_,f⟩)⟩
  ·rw[d,i];rfl
  ·refine(Q9 l [48] k (by simp) f.wf).mono ?_;rintro _ r ⟨rfl,n⟩;refine⟨_,rfl,?_,f.trans n⟩;rw[d,i];simp
  ·rw[d];rfl
theorem uh(a:Int)(l:List UInt8)(r:l.length<=281474976710656){h:au}(w:Wf h):aX 119 [aE a,strOf l] h (λv s=>v=ah (fD a l)/\Ok h s):=by
 refine II a l h _ ((L9 a l r w).mono ?_);rintro _ m ⟨rfl,d⟩;have q:(l==[105,110,102])=af->ft l=aj:=λe=>by rw[show l=[105,110,102] by simpa using e];exact MN
 have t:(l==[45,105,110,102])=af->ft l=aj:=λe=>by rw[show l=[45,105,110,102] by simpa using e];exact zt
 unfold fD;generalize decide (1<=a/\a<=3)=K;refine⟨_,rfl,az (λg=>?_) (λg=>⟨?_,d⟩)⟩
 ·refine az (λi=>az (λf=>?_) (λf=>⟨?_,d⟩)) (λi=>⟨?_,d⟩)
  ·have i:(l==[105,110,102])=aj:=by simpa using i
   have f:(l==[45,105,110,102])=aj:=by simpa using f
   rw[i,f]at g;simp only[Bool.false_or,Bool.false_and,bg]at g;obtain⟨p,k,b⟩:=g;rw[p,k];refine az (λn=>⟨?_,d⟩) (λn=>⟨?_,d⟩)
   ·rw[n];rfl
   ·rw[n]at b⊢;simp only[Bool.false_or,decide_eq_true_eq]at b;have:=H9 k;congr 1;by_cases j:l=[48]
    ·have m:=this.2 j;rw[m,j];rfl
    ·have m:¬jM l [48]=0:=λc=>j (this.1 c);rw[eT (by omega:0<jM l [48])];simpa using j
  ·rw[t (by simpa using f)];simp
  ·rw[q (by simpa using i)];simp
 ·congr 1
  cases K with
  |false=>rfl
  |true=>
   rw[dz]at g⊢;simp only[Bool.or_eq_false_iff,Bool.and_eq_false_iff]at g;obtain⟨⟨p,k⟩,b⟩:=g;rcases b with b|⟨b,o⟩
   ·rw[b];rfl
   ·have o:=dF o;rw[b,eF (by omega)];simp
variable{m:Nat}
section
def kS(h:au)(v:ag)(l:List eC):Prop:=H0 h 46 4 v (l.map iU)
def rG(p:il×ag):List ag:=[strOf p.1.f,p.2]
def eY(h:au)(v:ag)(l:List il):Prop:=∃a:List (il×ag),a.map (·.1)=l/\H0 h 44 2 v (a.map rG)/\(∀p∈a,kS h p.2 p.1.bB)/\v≠uz
theorem eY.ok{a:au}{l:List il}(r:eY h v l)(o:Ok h a):eY a v l:=by
 obtain⟨f,c,d,b,e⟩:=r;exact⟨f,c,d.ok o,λp g=>H0.ok (b p g) o,e⟩
theorem eY.len{a:Option aJ}{n c:Nat}{l:List il}(r:eY h (ae a n c) l):n=l.length:=by
 obtain⟨f,b,d,e,_⟩:=r;rw[d.len,aH,<-b,aH]
theorem zp:aq.underlying 22=aa (.slice 44):=by kernel_rfl
theorem O5:aq.underlying 42=aa (.slice 46):=by kernel_rfl
theorem Ko:bZ aq 44=aa 2:=by kernel_rfl
theorem Th:bZ aq 46=aa 4:=by kernel_rfl
theorem js:bZ aq 24=aa 4:=by kernel_rfl
theorem aaP:Go.Ab.isAgg aq 44=af:=by kernel_rfl
theorem adW:Go.Ab.isAgg aq 46=af:=by kernel_rfl
theorem tE:Go.Ab.isAgg aq 24=af:=by kernel_rfl
theorem EO:Go.Ab.isAgg aq 22=aj:=by kernel_rfl
theorem WI:Go.Ab.isAgg aq 42=aj:=by kernel_rfl
noncomputable def ahc:TypeDesc:=(aq.underlying 44).getD .bool
theorem ac3:aq.underlying 44=aa ahc:=by kernel_rfl
noncomputable def ahd:TypeDesc:=(aq.underlying 46).getD .bool
theorem afj:aq.underlying 46=aa ahd:=by kernel_rfl
noncomputable def aha:TypeDesc:=(aq.underlying 24).getD .bool
theorem tG:aq.underlying 24=aa aha:=by kernel_rfl
theorem kZ(k:Nat):aY aq 24 (pA k) 0=aa (pA k):=by kernel_rfl
theorem qk(k:Nat):aY aq 24 (pA k) 1=aa (df k 1):=by kernel_rfl
theorem Dj(k:Nat):aY aq 24 (pA k) 2=aa (df k 2):=by kernel_rfl
theorem dC(k:Nat):aY aq 24 (pA k) 3=aa (df k 3):=by kernel_rfl
theorem pb(k o:Nat):aY aq 44 (df k o) 0=aa (df k (o+0)):=by kernel_rfl
theorem fG(k o:Nat):aY aq 44 (df k o) 1=aa (df k (o+1)):=by kernel_rfl
theorem j0(k o:Nat):aY aq 46 (df k o) 0=aa (df k (o+0)):=by kernel_rfl
theorem Ao(k o:Nat):aY aq 46 (df k o) 1=aa (df k (o+1)):=by kernel_rfl
theorem Qi(k o:Nat):aY aq 46 (df k o) 2=aa (df k (o+2)):=by kernel_rfl
theorem jh(k o:Nat):aY aq 46 (df k o) 3=aa (df k (o+3)):=by kernel_rfl
structure MB(g:au)(k:Nat)(M:cm)(a:Option aJ)(n c:Nat):Prop where
 box:g.get k=aa (.cells [aE M.kind,aE M.start,strOf M.lead,ae a n c] 24 0 af)
 row:eY g (ae a n c) M.aI
section
variable {g g':au} {k:Nat} {M:cm} {a:Option aJ} {n c:Nat}
theorem MB.ok(m:MB g k M a n c)(o:Ok g g'):MB g' k M a n c:=⟨o.ext _ _ m.box,m.row.ok o⟩
theorem MB.l0(m:MB g k M a n c):aS aq 3 g (pA k)=aa (aE M.kind):=ej zs zb m.box (by simp)
theorem MB.l1(m:MB g k M a n c):aS aq 3 g (df k 1)=aa (aE M.start):=ej zs zb m.box (by simp)
theorem MB.l2(m:MB g k M a n c):aS aq 9 g (df k 2)=aa (strOf M.lead):=ej RG WJ m.box (by simp)
theorem MB.l3(m:MB g k M a n c):aS aq 22 g (df k 3)=aa (ae a n c):=ej zp EO m.box (by simp)
theorem MB.all(m:MB g k M a n c):aS aq 24 g (pA k)=aa (al ⟨[aE M.kind,aE M.start,strOf M.lead,ae a n c]⟩):=jr tG tE js m.box (by simp)
theorem MB.len(m:MB g k M a n c):n=M.aI.length:=m.row.len
end
theorem eY.at_{g:au}{a:Option aJ}{n c:Nat}{l:List il}(r:eY g (ae a n c) l){i:Nat}{s:il}(k:l[i]?=aa s):
  ∃(b o:Nat)(x:Option aJ)(y z:Nat),aW aq 22 (ae a n c) (aE (i:Int))=aa (df b o)/\aS aq 44 g (df b o)=aa (al ⟨[strOf s.f,ae x y z]⟩)/\
   aS aq 9 g (df b (o+0))=aa (strOf s.f)/\aS aq 42 g (df b (o+1))=aa (ae x y z)/\kS g (ae x y z) s.bB:=by
 obtain⟨B,v,w,t,_⟩:=r;rw[<-v,getElem?_map]at k;obtain⟨p,j,rfl⟩:=bo.1 k;have C:=(List.getElem?_eq_some_iff.1 j).1;obtain⟨b,o,q,d,e⟩:=w.at_ zp Ko ac3 aaP (ik:= ak) (i:=(i:Int)) (by omega) (by rw[aH];omega);have A:(B.map rG).getD (i:Int).toNat []=rG p:=by
  rw[bc,gD,getElem?_map,j];rfl
 rw[A]at d e;have f:=t p (aM j);obtain⟨x,z,u⟩:=H0.tB f;have m:=e 9 _ 0 RG WJ (by omega);have h:=e 42 _ 1 O5 WI (by omega);unfold rG at d m h;rw[u]at d h f;exact⟨b,o,x,_,z,q,d,m,h,f⟩
theorem kS.len{g:au}{x:Option aJ}{z:Nat}{l:List eC}(r:kS g (ae x m z) l):m=l.length:=by
 have:=H0.len r;rwa[aH]at this
theorem kS.ok{a:au}{l:List eC}(r:kS h v l)(o:Ok h a):kS a v l:=H0.ok r o
theorem kS.at_{g:au}{x:Option aJ}{z:Nat}{l:List eC}(r:kS g (ae x m z) l){j:Nat}{q:eC}(c:l[j]?=aa q):
  ∃(b o:Nat),aW aq 42 (ae x m z) (aE (j:Int))=aa (df b o)/\aS aq 46 g (df b o)=aa (al ⟨iU q⟩)/\
   aS aq 3 g (df b (o+0))=aa (aE q.i)/\aS aq 3 g (df b (o+1))=aa (aE q.o)/\aS aq 9 g (df b (o+2))=aa (strOf q.w)/\aS aq 3 g (df b (o+3))=aa (aE q.t):=by
 have h:=(List.getElem?_eq_some_iff.1 c).1;obtain⟨b,o,e,d,a⟩:=H0.at_ O5 Th afj adW r (ik:= ak) (i:=(j:Int)) (by omega) (by rw[aH];omega);have f:(l.map iU).getD (j:Int).toNat []=iU q:=by
  rw[bc,gD,getElem?_map,c];rfl
 rw[f]at d a;exact⟨b,o,e,d,a 3 _ 0 zs zb (by omega),a 3 _ 1 zs zb (by omega),a 9 _ 2 RG WJ (by omega),a 3 _ 3 zs zb (by omega)⟩
def SB(g:au)(k:Nat)(f:List UInt8)(x:Option aJ)(y z:Nat):Prop:=g.get k=aa (.cells [strOf f,ae x y z] 44 0 af)
theorem SB.ok{g g':au}{k:Nat}{x:Option aJ}{z:Nat}(s:SB g k t x m z)(o:Ok g g'):SB g' k t x m z:=o.ext _ _ s
theorem SB.l0{g:au}{k:Nat}{x:Option aJ}{z:Nat}(s:SB g k t x m z):aS aq 9 g (df k (0+0))=aa (strOf t):=ej RG WJ s (by simp)
theorem SB.l1{g:au}{k:Nat}{x:Option aJ}{z:Nat}(s:SB g k t x m z):aS aq 42 g (df k (0+1))=aa (ae x m z):=ej O5 WI s (by simp)
def AB(g:au)(k:Nat)(q:eC):Prop:=g.get k=aa (.cells (iU q) 46 0 af)
theorem AB.ok{g g':au}{k:Nat}{q:eC}(s:AB g k q)(o:Ok g g'):AB g' k q:=o.ext _ _ s
theorem AB.l0{g:au}{k:Nat}{q:eC}(s:AB g k q):aS aq 3 g (df k (0+0))=aa (aE q.i):=ej zs zb s (by simp[iU])
theorem AB.l1{g:au}{k:Nat}{q:eC}(s:AB g k q):aS aq 3 g (df k (0+1))=aa (aE q.o):=ej zs zb s (by simp[iU])
theorem AB.l2{g:au}{k:Nat}{q:eC}(s:AB g k q):aS aq 9 g (df k (0+2))=aa (strOf q.w):=ej RG WJ s (by simp[iU])
theorem AB.l3{g:au}{k:Nat}{q:eC}(s:AB g k q):aS aq 3 g (df k (0+3))=aa (aE q.t):=ej zs zb s (by simp[iU])
def H6:eA:= .cells [strOf [],nA] 44 0 af
theorem PO:cP aq 44=aa (H6,m4):=by kernel_rfl
def Ks:eA:= .cells [aE 0,aE 0,strOf [],aE 0] 46 0 af
theorem EP:cP aq 46=aa (Ks,m4):=by kernel_rfl
theorem Ox(w:Wf h)(f:List UInt8)(x:Option aJ)(y z:Nat):∃u:ek,bh aq 44 (pA h.aD) (al ⟨[strOf f,ae x y z]⟩) (h.push H6)=aa (undef,u)/\Ok h (u.app (h.push H6))/\SB (u.app (h.push H6)) h.aD f x y z:=by
 obtain⟨o,e⟩:=qq (cs:=[strOf f,ae x y z]) w ((Ok.refl w).push H6) (cT h H6) (aT _);exact⟨_,ib Ko rfl (cT h H6) rfl rfl,o,e⟩
theorem wo(w:Wf h)(q:eC):∃u:ek,bh aq 46 (pA h.aD) (al ⟨iU q⟩) (h.push Ks)=aa (undef,u)/\Ok h (u.app (h.push Ks))/\AB (u.app (h.push Ks)) h.aD q:=by
 obtain⟨o,e⟩:=qq (cs:=iU q) w ((Ok.refl w).push Ks) (cT h Ks) (aT _);exact⟨_,ib Th rfl (cT h Ks) rfl rfl,o,e⟩
def cU(M:cm)(a:Option aJ)(n c:Nat):List ag:=[aE M.kind,aE M.start,strOf M.lead,ae a n c]
def Bm(M:cm)(a:Option aJ)(n c:Nat):eA:= .cells (cU M a n c) 24 0 af
theorem kW(M:cm)(a:Option aJ)(n c:Nat):jY aq 24 (al ⟨cU M a n c⟩)=aa (Bm M a n c,m4):=by kernel_rfl
theorem jZ(w:Wf h){M:cm}{a:Option aJ}{n c:Nat}(r:eY h (ae a n c) M.aI):MB (h.push (Bm M a n c)) h.aD M a n c/\Ok h (h.push (Bm M a n c)):=
 ⟨⟨cT h _,r.ok ((Ok.refl w).push _)⟩,(Ok.refl w).push _⟩
def wu(s:Int):Bool:=decide (0<=s)&&decide (s<=500)
def my(b:Int)(N:Nat)(a:eC):Bool:=wu a.i&&wu a.o&&decide (0<=a.t)&&decide (a.t<N)&&fD b a.w
def py(a:Int)(N:Nat):Int->List il->Bool
 |_,[]=>af
 |b,s::r=>decide (b+s.bB.length<=30000)&&(s.f==[]||fD a s.f)&&s.bB.all (my a N)&&py a N (b+s.bB.length) r
def dO(M:cm):Bool:=decide (1<=M.kind)&&decide (M.kind<=3)&&decide (1<=M.aI.length)&&decide (M.aI.length<=3000)&&decide (0<=M.start)&&decide (M.start<M.aI.length)&&fD M.kind M.lead&&py M.kind M.aI.length 0 M.aI
def mo(l:List il):Nat:=(l.map λs=>s.bB.length).sum
structure Small(M:cm):Prop where
 lead:M.lead.length<=281474976710656
 AW:M.aI.length<=300
 fin:∀s∈M.aI,s.f.length<=281474976710656
 bB:∀s∈M.aI,s.bB.length<=2000
 w:∀s∈M.aI,∀q∈s.bB,q.w.length<=281474976710656
 MG:mo M.aI<=8000
end
noncomputable def ZV:FD:=gU Tryz.f74 []
theorem VY(s:Int)(h:au)(Q:VH)(a:cq (decide ((s:Int)>=0)) (Q (ah (decide ((s:Int)<=500))) h) (Q (ah aj) h)):aX 74 [(aE s)] h Q:=hH ZV Tryz.func74 (bD a)
noncomputable def iW:FD:=gU Tryz.f30 [((pq 303),[1,2,3,4,48,49,50]),((pq 324399),[1,2,3,4,6,48,49,50,75,76,77])]
abbrev lh(k:Nat)(a:OA)(n c:Nat)(i:Nat)(b:Int):LV:=[(pA k),(ah aj),(iA n),(aE b),(ae a n c),(iA n),(iA i)]
abbrev mX(k:Nat)(a:OA)(n c f:Nat)(b:OA)(m d i:Nat)(e:Int)(j:Nat):LV:=[(pA k),(ah aj),(iA n),(aE e),(pA f),(ae a n c),(iA n),(iA i),(ae b m d),(iA m),(iA j)]
theorem Uv(e:LV)(h:au)(Q:VH)(p:xN (jY aq 24 (al ⟨e⟩)) h λr a=>qM 24 (pA (h.aD)) 3 22 a λs c t=>kM 24 (pA (h.aD)) 0 a λq=>cq (decide (q<1)) (Q (ah aj) a) (kM 24 (pA (h.aD)) 0 a λk=>cq (decide (k>3)) (Q (ah aj) a) (cq (decide ((c:Int)<1)) (Q (ah aj) a) (cq (decide ((c:Int)>3000)) (Q (ah aj) a) (kM 24 (pA (h.aD)) 1 a λl=>cq (decide (l<0)) (Q (ah aj) a) (kM 24 (pA (h.aD)) 1 a λf=>cq (decide (f>=(c:Int))) (Q (ah aj) a) (kM 24 (pA (h.aD)) 0 a λi=>qF xS 24 (pA (h.aD)) 2 9 a λo=>aX 73 [(aE i),(strOf o)] a λm b=>yB m λj=>cq (!j) (Q (ah aj) b) (qM 24 (pA (h.aD)) 3 22 b λn d g=>cw iW (pq 303) [(pA (h.aD)),(ah aj),(iA c),(aE 0),(ae n d g),(iA d),(aE 0)] b (eu iW (pq 175) Q))))))))):aX 30 [(al ⟨e⟩)] h Q:=hH iW Tryz.func30 (bD p)
theorem B6(D:LV)(k:Nat)(a:OA)(n c:Nat)(d:Nat->Nat->Int->au->Prop)(Q:VH)(step:∀(mz:Nat) (i:Nat) (acc:Int) (r:Nat->ag) (h:au),d mz i acc h->cq (decide ((i:Int)<(n:Int))) (qX xA 22 (ae a n c) (iA i) 44 h λo=>xN (cP aq 44) h λC g=>xU (bh aq 44 (pA (h.aD)) (al ⟨o⟩) g) g λB b=>qM 44 (pA (h.aD)) 1 42 b λA e z=>cq (decide ((ai ak (acc+(e:Int)):Int)>30000)) (Q (ah aj) b) (qF xS 44 (pA (h.aD)) 0 9 b λl=>cq (!((l:LB)==[])) (kM 24 (pA k) 0 b λx=>qF xS 44 (pA (h.aD)) 0 9 b λs=>aX 73 [(aE x),(strOf s)] b λm f=>yB m λy=>cq (!y) (Q (ah aj) f) (qM 44 (pA (h.aD)) 1 42 f λw q p=>cw iW (pq 324399) (mX k a n c (h.aD) w q p i (ai ak (acc+(e:Int))) 0) f (fQ iW (pq 755) (pq 303) (RR iW (pq 303) (pB (lh k a n c) d) mz (eu iW (pq 175) Q))))) (qM 44 (pA (h.aD)) 1 42 b λv t u=>cw iW (pq 324399) (mX k a n c (h.aD) v t u i (ai ak (acc+(e:Int))) 0) b (fQ iW (pq 755) (pq 303) (RR iW (pq 303) (pB (lh k a n c) d) mz (eu iW (pq 175) Q)))))) (Q (ah af) h))(mz:Nat){i:Nat}{acc:Int}{h:au}(j:d mz i acc h):cw iW (pq 303) (lh k a n c i acc) h (eu iW (pq 175) Q):=
 mc (lh k a n c) d (λmz i acc r h j=>bD (step mz i acc r h j)) mz j
theorem B7(L:LV)(k:Nat)(a:OA)(n c:Nat)(p:Nat)(b:OA)(m d:Nat)(q:Nat->Nat->Int->au->Prop)(mz i:Nat)(l:Int)(g:Nat->Nat->au->Prop)(Q:VH)(step:∀(f:Nat) (j:Nat) (A:Nat->ag) (h:au),g f j h->cq (decide ((j:Int)<(m:Int))) (qX xA 42 (ae b m d) (iA j) 46 h λD=>xN (cP aq 46) h λK t=>xU (bh aq 46 (pA (h.aD)) (al ⟨D⟩) t) t λJ s=>kM 46 (pA (h.aD)) 0 s λx=>aX 74 [(aE x)] s λC o=>yB C λv=>cq (!v) (Q (ah aj) o) (kM 46 (pA (h.aD)) 1 o λy=>aX 74 [(aE y)] o λw e=>yB w λF=>cq (!F) (Q (ah aj) e) (kM 46 (pA (h.aD)) 3 e λG=>cq (decide (G<0)) (Q (ah aj) e) (kM 46 (pA (h.aD)) 3 e λE=>cq (decide (E>=(n:Int))) (Q (ah aj) e) (kM 24 (pA k) 0 e λB=>qF xS 46 (pA (h.aD)) 2 9 e λz=>aX 73 [(aE B),(strOf z)] e λH r=>yB H λI=>cq (!I) (Q (ah aj) r) (ct (jg (mX k a n c p b m d i l) g) f [(pA k),(ah aj),(iA n),(aE l),(pA p),(ae a n c),(iA n),(iA i),(ae b m d),(iA m),(aE (ai ak ((j:Int)+1)))] r)))))) (ct (pB (lh k a n c) q) mz [(pA k),(ah aj),(iA n),(aE l),(ae a n c),(iA n),(aE (ai ak ((i:Int)+1)))] h))(f:Nat){j:Nat}{h:au}(u:g f j h):cw iW (pq 324399) (mX k a n c p b m d i l j) h (fQ iW (pq 755) (pq 303) (RR iW (pq 303) (pB (lh k a n c) q) mz (eu iW (pq 175) Q))):=
 gm (mX k a n c p b m d i l) g (λf j A h u=>bD (step f j A h u)) f u
noncomputable def iZ:FD:=gU Tryz.f58 [((pq 151),[1,2,3,4]),((pq 81047),[1,2,3,4,5,6])]
abbrev jR(k:Nat)(i:Nat)(a:Int):LV:=[(pA k),(ah aj),(aE a),(iA i)]
abbrev nc(k b i:Nat)(a:Int)(j:Nat):LV:=[(pA k),(ah aj),(aE a),(iA i),(pA b),(iA j)]
theorem U9(c:LV)(h:au)(Q:VH)(o:xN (jY aq 24 (al ⟨c⟩)) h λy i=>kM 24 (pA (h.aD)) 0 i λr=>aX 118 [(aE r)] i λq a=>yB q λp=>cq (!p) (Q (ah aj) a) (qM 24 (pA (h.aD)) 3 22 a λx k w=>cq (decide ((k:Int)<1)) (Q (ah aj) a) (qM 24 (pA (h.aD)) 3 22 a λu f v=>cq (decide ((f:Int)>3000)) (Q (ah aj) a) (kM 24 (pA (h.aD)) 1 a λm=>cq (decide (m<0)) (Q (ah aj) a) (kM 24 (pA (h.aD)) 1 a λl=>qM 24 (pA (h.aD)) 3 22 a λt n s=>cq (decide (l>=(n:Int))) (Q (ah aj) a) (kM 24 (pA (h.aD)) 0 a λd=>qF xS 24 (pA (h.aD)) 2 9 a λj=>aX 119 [(aE d),(strOf j)] a λg b=>yB g λe=>cq (!e) (Q (ah aj) b) (cw iZ (pq 151) (jR (h.aD) 0 0) b (eu iZ (pq 87) Q)))))))):aX 58 [(al ⟨c⟩)] h Q:=hH iZ Tryz.func58 (bD o)
theorem Co(A:LV)(k:Nat)(b:Nat->Nat->Int->au->Prop)(Q:VH)(step:∀(mz:Nat) (i:Nat) (acc:Int) (r:Nat->ag) (h:au),b mz i acc h->qM 24 (pA k) 3 22 h λv p w=>cq (decide ((i:Int)<(p:Int))) (qM 24 (pA k) 3 22 h λj n g=>qX xA 22 (ae j n g) (iA i) 44 h λl=>xN (cP aq 44) h λu d=>xU (bh aq 44 (pA (h.aD)) (al ⟨l⟩) d) d λz a=>qM 44 (pA (h.aD)) 1 42 a λy c x=>cq (decide ((ai ak (acc+(c:Int)):Int)>30000)) (Q (ah aj) a) (qF xS 44 (pA (h.aD)) 0 9 a λo=>cq (!((o:LB)==[])) (kM 24 (pA k) 0 a λs=>qF xS 44 (pA (h.aD)) 0 9 a λq=>aX 119 [(aE s),(strOf q)] a λt e=>yB t λm=>cq (!m) (Q (ah aj) e) (cw iZ (pq 81047) (nc k (h.aD) i (ai ak (acc+(c:Int))) 0) e (fQ iZ (pq 377) (pq 151) (RR iZ (pq 151) (pB (jR k) b) mz (eu iZ (pq 87) Q))))) (cw iZ (pq 81047) (nc k (h.aD) i (ai ak (acc+(c:Int))) 0) a (fQ iZ (pq 377) (pq 151) (RR iZ (pq 151) (pB (jR k) b) mz (eu iZ (pq 87) Q)))))) (Q (ah af) h))(mz:Nat){i:Nat}{acc:Int}{h:au}(f:b mz i acc h):cw iZ (pq 151) (jR k i acc) h (eu iZ (pq 87) Q):=
 mc (jR k) b (λmz i acc r h f=>bD (step mz i acc r h f)) mz f
theorem Cp(K:LV)(k e:Nat)(f:Nat->Nat->Int->au->Prop)(mz i:Nat)(d:Int)(c:Nat->Nat->au->Prop)(Q:VH)(step:∀(b:Nat) (j:Nat) (y:Nat->ag) (h:au),c b j h->qM 44 (pA e) 1 42 h λG r F=>cq (decide ((j:Int)<(r:Int))) (qM 44 (pA e) 1 42 h λD w C=>qX xA 42 (ae D w C) (iA j) 46 h λv=>xN (cP aq 46) h λJ l=>xU (bh aq 46 (pA (h.aD)) (al ⟨v⟩) l) l λH a=>kM 46 (pA (h.aD)) 0 a λB=>cq (decide (B<0)) (Q (ah aj) a) (kM 46 (pA (h.aD)) 0 a λA=>cq (decide (A>500)) (Q (ah aj) a) (kM 46 (pA (h.aD)) 1 a λz=>cq (decide (z<0)) (Q (ah aj) a) (kM 46 (pA (h.aD)) 1 a λx=>cq (decide (x>500)) (Q (ah aj) a) (kM 46 (pA (h.aD)) 3 a λs=>cq (decide (s<0)) (Q (ah aj) a) (kM 46 (pA (h.aD)) 3 a λu=>qM 24 (pA k) 3 22 a λE n I=>cq (decide (u>=(n:Int))) (Q (ah aj) a) (kM 24 (pA k) 0 a λt=>qF xS 46 (pA (h.aD)) 2 9 a λo=>aX 119 [(aE t),(strOf o)] a λq g=>yB q λp=>cq (!p) (Q (ah aj) g) (ct (jg (nc k e i d) c) b [(pA k),(ah aj),(aE d),(iA i),(pA e),(aE (ai ak ((j:Int)+1)))] g)))))))) (ct (pB (jR k) f) mz [(pA k),(ah aj),(aE d),(aE (ai ak ((i:Int)+1)))] h))(b:Nat){j:Nat}{h:au}(m:c b j h):cw iZ (pq 81047) (nc k e i d j) h (fQ iZ (pq 377) (pq 151) (RR iZ (pq 151) (pB (jR k) f) mz (eu iZ (pq 87) Q))):=
 gm (nc k e i d) c (λb j y h m=>bD (step b j y h m)) b m
noncomputable def Cj:FD:=gU Tryz.f23 [((pq 75),[1,3,4])]
abbrev qN(k:Nat)(i:Nat)(a:Int):LV:=[(pA k),(aE a),(iA i)]
theorem YY(a:LV)(h:au)(Q:VH)(c:xN (jY aq 24 (al ⟨a⟩)) h λd b=>cw Cj (pq 75) (qN (h.aD) 0 0) b (eu Cj (pq 43) Q)):aX 23 [(al ⟨a⟩)] h Q:=hH Cj Tryz.func23 (bD c)
theorem Dw(o:LV)(k:Nat)(a:Nat->Nat->Int->au->Prop)(Q:VH)(step:∀(mz:Nat) (i:Nat) (acc:Int) (e:Nat->ag) (h:au),a mz i acc h->qM 24 (pA k) 3 22 h λp g q=>cq (decide ((i:Int)<(g:Int))) (qM 24 (pA k) 3 22 h λl j f=>H3 22 (ae l j f) (iA i) 44 1 λd=>xL (aS aq 42 h (bw d)) λm c n=>ct (pB (qN k) a) mz [(pA k),(aE (ai ak (acc+(c:Int)))),(aE (ai ak ((i:Int)+1)))] h) (Q (aE acc) h))(mz:Nat){i:Nat}{acc:Int}{h:au}(b:a mz i acc h):cw Cj (pq 75) (qN k i acc) h (eu Cj (pq 43) Q):=
 mc (qN k) a (λmz i acc e h b=>bD (step mz i acc e h b)) mz b
variable{A:Type}{i:Nat}
section
theorem ig{l:List A}{s:A}(h:l[i]?=aa s):l.drop i=s::l.drop (i+1):=by
 obtain⟨a,rfl⟩:=List.getElem?_eq_some_iff.1 h;exact cX a
theorem Kn(s:Int)(h:au):aX 74 [aE s] h (λv a=>v=ah (wu s)/\a=h):=by
 refine VY s h _ (az (λg=>⟨?_,rfl⟩) (λg=>⟨?_,rfl⟩))
 ·have g:=dT g;unfold wu;rw[eT (show 0<=s from g),dz]
 ·have g:=dF g;unfold wu;rw[eF (show ¬0<=s from g),Bool.false_and]
section
variable {h:au} {k:Nat} {M:cm} {a:Option aJ} {n c:Nat}
def bQ(h:au)(V:Bool):VH:=λv a=>v=ah V/\Ok h a
def ab6(h:au)(k:Nat)(M:cm)(a:Option aJ)(n c:Nat)(V:Bool)(mz i:Nat)(b:Int)(g:au):Prop:=i<=n/\mz=n-i/\0<=b/\b<=30000/\MB g k M a n c/\Ok h g/\py M.kind n b (M.aI.drop i)=V
def mIn(h:au)(k:Nat)(M:cm)(a:Option aJ)(n c:Nat)(s:il)(b:Option aJ)(m d i:Nat)(f:Int)(V:Bool)(e j:Nat)(g:au):Prop:=j<=m/\e=m-j/\MB g k M a n c/\Ok h g/\kS g (ae b m d) s.bB/\((s.bB.drop j).all (my M.kind n)&&py M.kind n f (M.aI.drop (i+1)))=V
theorem cH{n:Nat}(h:i<n)(a:n<=1000000000):ai ak ((i:Int)+1)=((i+1:Nat):Int):=by rw[cd (by omega) (by omega)];omega
theorem oO(a:Small M){s:il}{i:Nat}(b:M.aI[i]?=aa s):s.bB.length<=2000/\s.f.length<=281474976710656/\∀q∈s.bB,q.w.length<=281474976710656:=by
 have h:=aM b;exact⟨a.bB s h,bN (a.fin s h) (by decide),λq c=>bN (a.w s h q c) (by decide)⟩
set_option linter.defProp false in
def N7(w:Wf h)(Y:za h)(N:Small M)(V:Bool){s:il}{b:Option aJ}{m d i S:Nat}{l:Int}(T:M.aI[i]?=aa s)(X:i<n)(Z:0<=l)(U:l<=30000)(P:List ag)(mz:Nat)(x0:mz=n-i):=
 B7 P k a n c S b m d (ab6 h k M a n c V) mz i l (mIn h k M a n c s b m d i l V) (bQ h V) (by
  intro O j;intros;rename_i g J;obtain⟨f1,f2,E,H,C,f⟩:=J;have hn:n<=300:=by rw[E.len];exact N.AW
  obtain⟨l1,l2,W⟩:=oO N T;have hm:=C.len;refine az (λy=>?_) (λy=>?_)
  ·have y:=dT y;obtain⟨q,F⟩:∃q,s.bB[j]?=aa q:=⟨_,gE (by omega)⟩
   obtain⟨bb,o,R,e2,e3⟩:=C.at_ F;have Q:=W q (aM F);rw[ig F,ep]at f;obtain⟨u,p1,D,z⟩:=wo H.wf q;refine⟨_,R,_,e2,_,EP,u,p1,?_⟩;have e:=H.trans D;have B:=E.ok D;generalize u.app (g.push Ks)=K at*;refine⟨_,j0 _ _,_,z.l0,(Kn _ _).mono ?_⟩;rintro _ I ⟨rfl,G⟩;obtain rfl:K=I:=G.symm;refine⟨_,rfl,az (λt=>⟨?_,e⟩) (λt=>?_)⟩
   ·rw[cK]at t;rw[<-f];unfold my;rw[t];simp
   rw[dc]at t;refine⟨_,Ao _ _,_,z.l1,(Kn _ _).mono ?_⟩;rintro _ I ⟨rfl,G⟩;obtain rfl:K=I:=G.symm;refine⟨_,rfl,az (λp=>⟨?_,e⟩) (λp=>?_)⟩
   ·rw[cK]at p;rw[<-f];unfold my;rw[p];simp
   rw[dc]at p;refine⟨_,jh _ _,_,z.l3,az (λx=>⟨?_,e⟩) (λx=>?_)⟩
   ·have x:=dT x;rw[<-f];unfold my;rw[eF (show ¬0<=q.t by omega)];simp
   have x:=dF x;refine⟨_,jh _ _,_,z.l3,az (λr=>⟨?_,e⟩) (λr=>?_)⟩
   ·have r:=dT r;rw[<-f];unfold my;rw[eF (show ¬q.t<n by omega)];simp
   have r:=dF r;refine⟨_,kZ _,_,B.l0,_,Qi _ _,_,z.l2,(vK M.kind q.w Q (Y.ok e) e.wf).mono ?_⟩;rintro _ g4 ⟨rfl,A⟩;refine⟨_,rfl,az (λv=>⟨?_,e.trans A⟩) (λv=>?_)⟩
   ·rw[cK]at v;rw[<-f];unfold my;rw[v];simp
   rw[dc]at v;have L:my M.kind n q=af:=by
    unfold my;rw[t,p,v,eT (show 0<=q.t by omega),eT (show q.t<n by omega)];rfl
   rw[L,dz]at f;rw[cH (i:=j) (n:=m) (by omega) (by omega)];exact fC (O-1) (by omega) ⟨by omega,by omega,B.ok A,e.trans A,(C.ok D).ok A,f⟩
  ·have y:=dF y;obtain rfl:m=j:=by omega
   rw[bV (by omega)]at f;rw[cH X (by omega)];exact iu (n-(i+1)) (by omega) ⟨by omega,rfl,Z,U,E,H,by simpa using f⟩)
theorem Dr{h:au}(N:za h)(w:Wf h){M:cm}(q:Small M){a:Option aJ}{n c:Nat}(r:eY h (ae a n c) M.aI):aX 30 [al ⟨cU M a n c⟩] h (λv h'=>v=ah (dO M)/\Ok h h'):=by
 obtain⟨f,k⟩:=jZ w r;refine Uv (cU M a n c) h _ ⟨_,kW M a n c,?_⟩;have X:=f.len;have hn:n<=300:=by rw[X];exact q.AW
 generalize h.push (Bm M a n c)=g at*;refine⟨_,dC _,_,_,_,f.l3,_,kZ _,_,f.l0,az (λJ=>⟨?_,k⟩) (λJ=>?_)⟩
 ·have J:=dT J;unfold dO;rw[eF (show ¬1<=M.kind by omega)];simp
 have J:=dF J;refine⟨_,kZ _,_,f.l0,az (λp=>⟨?_,k⟩) (λp=>az (λF=>⟨?_,k⟩) (λF=>az (λT=>⟨?_,k⟩) (λT=>?_)))⟩
 ·have p:=dT p;unfold dO;rw[eF (show ¬M.kind<=3 by omega)];simp
 ·have F:=dT F;unfold dO;rw[eF (show ¬1<=M.aI.length by omega)];simp
 ·have T:=dT T;omega
 have p:=dF p;have F:=dF F;refine⟨_,qk _,_,f.l1,az (λC=>⟨?_,k⟩) (λC=>?_)⟩
 ·have C:=dT C;unfold dO;rw[eF (show ¬0<=M.start by omega)];simp
 have C:=dF C;refine⟨_,qk _,_,f.l1,az (λD=>⟨?_,k⟩) (λD=>?_)⟩
 ·have D:=dT D;unfold dO;rw[eF (show ¬M.start<M.aI.length by omega)];simp
 have D:=dF D;refine⟨_,kZ _,_,f.l0,_,Dj _,_,f.l2,(vK M.kind M.lead (bN q.lead (by decide)) (N.ok k) k.wf).mono ?_⟩;rintro _ g2 ⟨rfl,Z⟩;have R:=k.trans Z;have O:=f.ok Z;refine⟨_,rfl,az (λI=>⟨?_,R⟩) (λI=>?_)⟩
 ·rw[cK]at I;unfold dO;rw[I];simp
 rw[dc]at I;have hV:dO M=py M.kind n 0 M.aI:=by
  unfold dO;rw[I,eT (show 1<=M.kind by omega),eT (show M.kind<=3 by omega),eT (show 1<=M.aI.length by omega),eT (show M.aI.length<=3000 by omega),eT (show 0<=M.start by omega),eT (show M.start<M.aI.length by omega),X];rfl
 obtain⟨V,S⟩:∃V,V=py M.kind n 0 M.aI:=⟨_,rfl⟩
 rw[hV,<-S];refine⟨_,dC _,_,_,_,O.l3,?_⟩;refine B6 (cU M a n c) h.aD a n c (ab6 h h.aD M a n c V) (bQ h V) (λmz i l=>?_) n (i:=0) (acc:=0) ⟨by omega,rfl,by omega,by omega,O,R,S.symm⟩;intros;rename_i gg hi;obtain⟨f1,Y,f3,f4,Q,G,d⟩:=hi;refine az (λH=>?_) (λH=>?_)
 ·have H:=dT H;obtain⟨s,t⟩:∃s,M.aI[i]?=aa s:=⟨_,gE (by omega)⟩
  obtain⟨b,o,x,y,z,e1,e2,e3,e4,W⟩:=Q.row.at_ t;obtain⟨l1,l2,l3⟩:=oO q t;have hy:=W.len;rw[ig t]at d;unfold py at d;obtain⟨u,p1,U,K⟩:=Ox G.wf s.f x y z;refine⟨_,e1,_,e2,_,PO,u,p1,?_⟩;have e:=G.trans U;have L:=Q.ok U;have P:=W.ok U;generalize u.app (gg.push H6)=g3 at*;have hw:ai ak (l+(y:Int))=l+(s.bB.length:Int):=by rw[hy,cd (by omega) (by omega)]
  refine⟨_,fG _ _,_,_,_,K.l1,?_⟩;dsimp only;rw[hw];refine az (λA=>⟨?_,e⟩) (λA=>?_)
  ·have A:=dT A;rw[<-d,eF (show ¬l+(s.bB.length:Int)<=30000 by omega)];simp
  have A:=dF A;rw[eT (show l+(s.bB.length:Int)<=30000 by omega),dz]at d;refine⟨_,pb _ _,_,K.l0,az (λm=>?_) (λm=>?_)⟩
  ·refine⟨_,kZ _,_,L.l0,_,pb _ _,_,K.l0,(vK M.kind s.f l2 (N.ok e) e.wf).mono ?_⟩;rintro _ g4 ⟨rfl,B⟩;have m:(s.f==[])=aj:=by simpa using m
   rw[m,Bool.false_or]at d;refine⟨_,rfl,az (λE=>⟨?_,e.trans B⟩) (λE=>?_)⟩
   ·rw[cK]at E;rw[<-d,E];simp
   rw[dc]at E;rw[E,dz]at d;refine⟨_,fG _ _,_,_,_,(K.ok B).l1,?_⟩;exact N7 w N q _ t (by omega) (by omega) (by omega) [] mz Y y (j:=0) ⟨by omega,rfl,L.ok B,e.trans B,P.ok B,by rw[bO];exact d⟩
  ·have m:(s.f==[])=af:=by simpa using m
   rw[m,Bool.true_or,dz]at d;refine⟨_,fG _ _,_,_,_,K.l1,?_⟩;exact N7 w N q _ t (by omega) (by omega) (by omega) [] mz Y y (j:=0) ⟨by omega,rfl,L,e,P,by rw[bO];exact d⟩
 ·have H:=dF H;refine⟨?_,G⟩;rw[bV (by omega)]at d;rw[<-d];rfl
end
end
section
theorem Ep(a:Int)(h:au):aX 118 [aE a] h (λv b=>v=ah (decide (1<=a)&&decide (a<=3))/\b=h):=by
 refine Eo a h _ (az (λg=>⟨?_,rfl⟩) (λg=>⟨?_,rfl⟩))
 ·have g:=dT g;rw[eT (show 1<=a from g),dz]
 ·have g:=dF g;rw[eF (show ¬1<=a from g),Bool.false_and]
section
variable {h:au} {k:Nat} {M:cm} {a:Option aJ} {n c:Nat}
set_option linter.defProp false in
def OT(w:Wf h)(O:Small M)(V:Bool){s:il}{b:Option aJ}{m d i P:Nat}{p:Int}(T:M.aI[i]?=aa s)(X:i<n)(Y:0<=p)(U:p<=30000)(Q:List ag)(mz:Nat)(x0:mz=n-i):=
 Cp Q k P (ab6 h k M a n c V) mz i p (λx j g=>mIn h k M a n c s b m d i p V x j g/\SB g P s.f b m d) (bQ h V) (by
  intro x j;intros;rename_i g L;obtain⟨⟨f1,f2,H,K,G,f⟩,J⟩:=L;have hn:n<=300:=by rw[H.len];exact O.AW
  obtain⟨l1,l2,W⟩:=oO O T;have hm:=G.len;refine⟨_,fG _ _,_,_,_,J.l1,az (λD=>?_) (λD=>?_)⟩
  ·have D:=dT D;obtain⟨q,I⟩:∃q,s.bB[j]?=aa q:=⟨_,gE (by omega)⟩
   obtain⟨bb,o,S,Z,e3⟩:=G.at_ I;have R:=W q (aM I);rw[ig I,ep]at f;obtain⟨u,p1,F,l⟩:=wo K.wf q;refine⟨_,fG _ _,_,_,_,J.l1,_,S,_,Z,_,EP,u,p1,?_⟩;have e:=K.trans F;have E:=H.ok F;generalize u.app (g.push Ks)=g2 at*;refine⟨_,j0 _ _,_,l.l0,az (λt=>⟨?_,e⟩) (λt=>⟨_,j0 _ _,_,l.l0,az (λr=>⟨?_,e⟩) (λr=>⟨_,Ao _ _,_,l.l1,az (λB=>⟨?_,e⟩) (λB=>⟨_,Ao _ _,_,l.l1,az (λv=>⟨?_,e⟩) (λv=>⟨_,jh _ _,_,l.l3,az (λz=>⟨?_,e⟩) (λz=>⟨_,jh _ _,_,l.l3,_,dC _,_,_,_,E.l3,az (λA=>⟨?_,e⟩) (λA=>?_)⟩)⟩)⟩)⟩)⟩)⟩
   ·have t:=dT t;rw[<-f];unfold my wu;rw[eF (show ¬0<=q.i by omega)];simp
   ·have r:=dT r;rw[<-f];unfold my wu;rw[eF (show ¬q.i<=500 by omega)];simp
   ·have B:=dT B;rw[<-f];unfold my wu;rw[eF (show ¬0<=q.o by omega)];simp
   ·have v:=dT v;rw[<-f];unfold my wu;rw[eF (show ¬q.o<=500 by omega)];simp
   ·have z:=dT z;rw[<-f];unfold my;rw[eF (show ¬0<=q.t by omega)];simp
   ·have A:=dT A;rw[<-f];unfold my;rw[eF (show ¬q.t<n by omega)];simp
   have t:=dF t;have r:=dF r;have B:=dF B;have v:=dF v;have z:=dF z;have A:=dF A;refine⟨_,kZ _,_,E.l0,_,Qi _ _,_,l.l2,(uh M.kind q.w R e.wf).mono ?_⟩;rintro _ g4 ⟨rfl,y⟩;refine⟨_,rfl,az (λC=>⟨?_,e.trans y⟩) (λC=>?_)⟩
   ·rw[cK]at C;rw[<-f];unfold my;rw[C];simp
   rw[dc]at C;have N:my M.kind n q=af:=by
    unfold my wu;rw[C,eT (show 0<=q.i by omega),eT (show q.i<=500 by omega),eT (show 0<=q.o by omega),eT (show q.o<=500 by omega),eT (show 0<=q.t by omega),eT (show q.t<n by omega)];rfl
   rw[N,dz]at f;rw[cH (i:=j) (n:=m) (by omega) (by omega)];exact fC (x-1) (by omega) ⟨⟨by omega,by omega,E.ok y,e.trans y,(G.ok F).ok y,f⟩,(J.ok F).ok y⟩
  ·have D:=dF D;obtain rfl:m=j:=by omega
   rw[bV (by omega)]at f;rw[cH X (by omega)];exact iu (n-(i+1)) (by omega) ⟨by omega,rfl,Y,U,H,K,by simpa using f⟩)
end
theorem DG{h:au}(w:Wf h){M:cm}(t:Small M){a:Option aJ}{n c:Nat}(r:eY h (ae a n c) M.aI):aX 58 [al ⟨cU M a n c⟩] h (λv h'=>v=ah (dO M)/\Ok h h'):=by
 obtain⟨e,p⟩:=jZ w r;refine U9 (cU M a n c) h _ ⟨_,kW M a n c,?_⟩;have U:=e.len;have hn:n<=300:=by rw[U];exact t.AW
 generalize h.push (Bm M a n c)=g at*;refine⟨_,kZ _,_,e.l0,(Ep _ _).mono ?_⟩;rintro _ g1 ⟨rfl,eg⟩;obtain rfl:g=g1:=eg.symm;refine⟨_,rfl,az (λm=>⟨?_,p⟩) (λm=>?_)⟩
 ·rw[cK]at m;unfold dO;rw[m];simp
 rw[dc,bg]at m;have m:1<=M.kind/\M.kind<=3:=⟨dT m.1,dT m.2⟩
 refine⟨_,dC _,_,_,_,e.l3,az (λG=>⟨?_,p⟩) (λG=>⟨_,dC _,_,_,_,e.l3,az (λQ=>⟨?_,p⟩) (λQ=>?_)⟩)⟩
 ·have G:=dT G;unfold dO;rw[eF (show ¬1<=M.aI.length by omega)];simp
 ·have Q:=dT Q;omega
 have G:=dF G;refine⟨_,qk _,_,e.l1,az (λD=>⟨?_,p⟩) (λD=>?_)⟩
 ·have D:=dT D;unfold dO;rw[eF (show ¬0<=M.start by omega)];simp
 have D:=dF D;refine⟨_,qk _,_,e.l1,_,dC _,_,_,_,e.l3,az (λE=>⟨?_,p⟩) (λE=>?_)⟩
 ·have E:=dT E;unfold dO;rw[eF (show ¬M.start<M.aI.length by omega)];simp
 have E:=dF E;refine⟨_,kZ _,_,e.l0,_,Dj _,_,e.l2,(uh M.kind M.lead (bN t.lead (by decide)) p.wf).mono ?_⟩;rintro _ g2 ⟨rfl,X⟩;have O:=p.trans X;have T:=e.ok X;refine⟨_,rfl,az (λJ=>⟨?_,O⟩) (λJ=>?_)⟩
 ·rw[cK]at J;unfold dO;rw[J];simp
 rw[dc]at J;have Y:dO M=py M.kind n 0 M.aI:=by
  unfold dO;rw[J,eT (show 1<=M.kind by omega),eT (show M.kind<=3 by omega),eT (show 1<=M.aI.length by omega),eT (show M.aI.length<=3000 by omega),eT (show 0<=M.start by omega),eT (show M.start<M.aI.length by omega),U];rfl
 obtain⟨V,P⟩:∃V,V=py M.kind n 0 M.aI:=⟨_,rfl⟩
 rw[Y,<-P];refine Co (cU M a n c) h.aD (ab6 h h.aD M a n c V) (bQ h V) (λmz i k=>?_) n (i:=0) (acc:=0) ⟨by omega,rfl,by omega,by omega,T,O,P.symm⟩;intros;rename_i gg hi;obtain⟨f1,W,f3,f4,q,H,d⟩:=hi;refine⟨_,dC _,_,_,_,q.l3,az (λI=>?_) (λI=>?_)⟩
 ·have I:=dT I;obtain⟨s,A⟩:∃s,M.aI[i]?=aa s:=⟨_,gE (by omega)⟩
  obtain⟨b,o,x,y,z,Z,e2,e3,e4,S⟩:=q.row.at_ A;obtain⟨l1,l2,l3⟩:=oO t A;have hy:=S.len;rw[ig A]at d;unfold py at d;obtain⟨u,p1,R,K⟩:=Ox H.wf s.f x y z;refine⟨_,dC _,_,_,_,q.l3,_,Z,_,e2,_,PO,u,p1,?_⟩;have f:=H.trans R;have L:=q.ok R;have N:=S.ok R;generalize u.app (gg.push H6)=g3 at*;have hw:ai ak (k+(y:Int))=k+(s.bB.length:Int):=by rw[hy,cd (by omega) (by omega)]
  refine⟨_,fG _ _,_,_,_,K.l1,?_⟩;dsimp only;rw[hw];refine az (λB=>⟨?_,f⟩) (λB=>?_)
  ·have B:=dT B;rw[<-d,eF (show ¬k+(s.bB.length:Int)<=30000 by omega)];simp
  have B:=dF B;rw[eT (show k+(s.bB.length:Int)<=30000 by omega),dz]at d;refine⟨_,pb _ _,_,K.l0,az (λl=>?_) (λl=>?_)⟩
  ·refine⟨_,kZ _,_,L.l0,_,pb _ _,_,K.l0,(uh M.kind s.f l2 f.wf).mono ?_⟩;rintro _ g4 ⟨rfl,C⟩;have l:(s.f==[])=aj:=by simpa using l
   rw[l,Bool.false_or]at d;refine⟨_,rfl,az (λF=>⟨?_,f.trans C⟩) (λF=>?_)⟩
   ·rw[cK]at F;rw[<-d,F];simp
   rw[dc]at F;rw[F,dz]at d;exact OT w t _ A (by omega) (by omega) (by omega) [] mz W y (j:=0) ⟨⟨by omega,rfl,L.ok C,f.trans C,N.ok C,by rw[bO];exact d⟩,K.ok C⟩
  ·have l:(s.f==[])=af:=by simpa using l
   rw[l,Bool.true_or,dz]at d;exact OT w t _ A (by omega) (by omega) (by omega) [] mz W y (j:=0) ⟨⟨by omega,rfl,L,f,N,by rw[bO];exact d⟩,K⟩
 ·have I:=dF I;refine⟨?_,H⟩;rw[bV (by omega)]at d;rw[<-d];rfl
end
noncomputable def adV:FD:=gU Tryz.f76 []
theorem aaL(b:LV)(h:au)(Q:VH)(c:xN (jY aq 46 (al ⟨b⟩)) h λf a=>kM 46 (pA (h.aD)) 0 a λe=>kM 46 (pA (h.aD)) 1 a λd=>Q (ah ((e==d))) a):aX 76 [(al ⟨b⟩)] h Q:=hH adV Tryz.func76 (bD c)
noncomputable def adY:FD:=gU Tryz.f124 []
theorem aaQ(c:LV)(k:Nat)(h:au)(Q:VH)(f:xN (jY aq 46 (al ⟨c⟩)) h λm a=>xF (aS aq 130 a (pA k)) λb i l=>xA (aS aq 46 a (pA (h.aD))) λj=>cq (cQ b YB) (aX b (i++[(al ⟨j⟩)]++l) a λd e=>yB d λg=>Q (ah (!g)) e) False):aX 124 [(al ⟨c⟩),(pA k)] h Q:=hH adY Tryz.func124 (bD f)
noncomputable def uD:FD:=gU Tryz.f162 [((pq 37),[0,1,7,8])]
abbrev rK(b:OA)(m d k:Nat)(j:Nat):LV:=[(ae b m d),(aN (.func 124) ⟨[]⟩ ⟨[(pA k)]⟩),(iA m),(iA j)]
theorem Qt(b:OA)(m d k:Nat)(h:au)(Q:VH)(a:cw uD (pq 37) [(ae b m d),(aN (.func 124) ⟨[]⟩ ⟨[(pA k)]⟩),(iA m),(aE 0)] h (eu uD (pq 21) Q)):aX 162 [(ae b m d),(aN (.func 124) ⟨[]⟩ ⟨[(pA k)]⟩)] h Q:=hH uD Tryz.func162 (bD a)
theorem Ap(b:OA)(m d k:Nat)  (a:Nat->Nat->au->Prop) (Q:VH) (step:∀(mz:Nat)(j:Nat)(e:Nat->ag)(h:au),a mz j h->cq (decide ((j:Int)<(m:Int))) (qX xA 42 (ae b m d) (iA j) 46 h λl=>aX 124 [(al ⟨l⟩),(pA k)] h λg f=>yB g λi=>cq i (Q (iA j) f) (ct (jg (rK b m d k) a) mz [(ae b m d),(aN (.func 124) ⟨[]⟩ ⟨[(pA k)]⟩),(iA m),(aE (ai ak ((j:Int)+1)))] f)) (Q (aE (-1)) h)) (mz:Nat) {j:Nat} {h:au} (c:a mz j h):cw uD (pq 37) (rK b m d k j) h (eu uD (pq 21) Q):=
 gm (rK b m d k) a (λmz j e h c=>bD (step mz j e h c)) mz c
noncomputable def TY:FD:=gU Tryz.f123 []
theorem P0(b:OA)(m d k:Nat)(h:au)(Q:VH)(c:aX 162 [(ae b m d),(aN (.func 124) ⟨[]⟩ ⟨[(pA k)]⟩)] h λf e=>yI ak f λa=>Q (ah (decide (a>=0))) e):aX 123 [(ae b m d),(aN (.func 124) ⟨[]⟩ ⟨[(pA k)]⟩)] h Q:=hH TY Tryz.func123 (bD c)
noncomputable def GV:FD:=gU Tryz.f75 [((pq 75),[2,3,4,11,12,13])]
abbrev sb(k b:Nat)(a:OA)(n c:Nat)(i:Nat):LV:=[(pA k),(pA b),(ah aj),(ae a n c),(iA n),(iA i)]
theorem ab4(b:LV)(f:Nat)(h:au)(Q:VH)(l:xN (jY aq 24 (al ⟨b⟩)) h λn c=>xN (jY aq 130 (aN (.func f) ⟨[]⟩ ⟨[]⟩)) c λo d=>xA (aS aq 24 d (pA (h.aD))) λm=>aX 30 [(al ⟨m⟩)] d λj a=>yB j λk=>cq (!k) (Q (ah aj) a) (qM 24 (pA (h.aD)) 3 22 a λe g i=>cw GV (pq 75) (sb (h.aD) (c.aD) e g i 0) a (eu GV (pq 43) Q))):aX 75 [(al ⟨b⟩),(aN (.func f) ⟨[]⟩ ⟨[]⟩)] h Q:=hH GV Tryz.func75 (bD l)
theorem EV(w:LV)(f:Nat)(k d:Nat)(a:OA)(n c:Nat)(b:Nat->Nat->au->Prop)(Q:VH)(step:∀(mz:Nat) (i:Nat) (q:Nat->ag) (h:au),b mz i h->cq (decide ((i:Int)<(n:Int))) (qX xA 22 (ae a n c) (iA i) 44 h λr=>xN (cP aq 44) h λv j=>xU (bh aq 44 (pA (h.aD)) (al ⟨r⟩) j) j λu e=>qM 44 (pA (h.aD)) 1 42 e λt s o=>aX 123 [(ae t s o),(aN (.func 124) ⟨[]⟩ ⟨[(pA d)]⟩)] e λp g=>yB p λm=>cq m (Q (ah aj) g) (ct (jg (sb k d a n c) b) mz [(pA k),(pA d),(ah aj),(ae a n c),(iA n),(aE (ai ak ((i:Int)+1)))] g)) (Q (ah af) h))(mz:Nat){i:Nat}{h:au}(l:b mz i h):cw GV (pq 75) (sb k d a n c i) h (eu GV (pq 43) Q):=
 gm (sb k d a n c) b (λmz i q h l=>bD (step mz i q h l)) mz l
noncomputable def aew:FD:=gU Tryz.f31 []
theorem ab2(a:LV)(h:au)(Q:VH)(e:xN (jY aq 24 (al ⟨a⟩)) h λi b=>xA (aS aq 24 b (pA (h.aD))) λf=>aX 75 [(al ⟨f⟩),(aN (.func 76) ⟨[]⟩ ⟨[]⟩)] b λc g=>yB c λd=>Q (ah d) g):aX 31 [(al ⟨a⟩)] h Q:=hH aew Tryz.func31 (bD e)
noncomputable def lf:FD:=gU Tryz.f54 [((pq 75),[1,2,11,12,13]),((pq 19659),[1,2,4,11,12,13,18,19,20])]
abbrev lg(k:Nat)(a:OA)(n c:Nat)(i:Nat)(g:Int):LV:=[(pA k),(aE g),(ae a n c),(iA n),(iA i)]
abbrev pR(k:Nat)(a:OA)(n c e:Nat)(b:OA)(m d i:Nat)(j:Nat)(g:Int):LV:=[(pA k),(aE g),(pA e),(ae a n c),(iA n),(iA i),(ae b m d),(iA m),(iA j)]
theorem Ut(b:LV)(h:au)(Q:VH)(j:xN (jY aq 24 (al ⟨b⟩)) h λl c=>xA (aS aq 24 c (pA (h.aD))) λk=>aX 30 [(al ⟨k⟩)] c λf a=>yB f λg=>cq (!g) (Q (aE 0) a) (qM 24 (pA (h.aD)) 3 22 a λi e d=>cw lf (pq 75) (lg (h.aD) i e d 0 0) a (eu lf (pq 43) Q))):aX 54 [(al ⟨b⟩)] h Q:=hH lf Tryz.func54 (bD j)
theorem BY(s:LV)(k:Nat)(a:OA)(n c:Nat)(b:Nat->Nat->Int->au->Prop)(Q:VH)(step:∀(mz:Nat) (i:Nat) (g:Int) (o:Nat->ag) (h:au),b mz i g h->cq (decide ((i:Int)<(n:Int))) (qX xA 22 (ae a n c) (iA i) 44 h λp=>xN (cP aq 44) h λq d=>xU (bh aq 44 (pA (h.aD)) (al ⟨p⟩) d) d λr e=>qM 44 (pA (h.aD)) 1 42 e λj m l=>cw lf (pq 19659) (pR k a n c (h.aD) j m l i 0 g) e (fQ lf (pq 179) (pq 75) (RR lf (pq 75) (pB (lg k a n c) b) mz (eu lf (pq 43) Q)))) (Q (aE g) h))(mz:Nat){i:Nat}{g:Int}{h:au}(f:b mz i g h):cw lf (pq 75) (lg k a n c i g) h (eu lf (pq 43) Q):=
 mc (lg k a n c) b (λmz i g o h f=>bD (step mz i g o h f)) mz f
theorem BZ(z:LV)(k:Nat)(a:OA)(n c o:Nat)(b:OA)(m d:Nat)(p:Nat->Nat->Int->au->Prop)(mz i:Nat)(f:Nat->Nat->Int->au->Prop)(Q:VH)(step:∀(e:Nat) (j:Nat) (g:Int) (v:Nat->ag) (h:au),f e j g h->cq (decide ((j:Int)<(m:Int))) (qX xA 42 (ae b m d) (iA j) 46 h λs=>xN (cP aq 46) h λy q=>xU (bh aq 46 (pA (h.aD)) (al ⟨s⟩) q) q λx l=>kM 46 (pA (h.aD)) 0 l λw=>kM 46 (pA (h.aD)) 1 l λt=>xI ak (ud af [(aE g),(aE w),(aE t)]) λu=>ct (pB (pR k a n c o b m d i) f) e [(pA k),(aE u),(pA o),(ae a n c),(iA n),(iA i),(ae b m d),(iA m),(aE (ai ak ((j:Int)+1)))] l) (ct (pB (lg k a n c) p) mz [(pA k),(aE g),(ae a n c),(iA n),(aE (ai ak ((i:Int)+1)))] h))(e:Nat){j:Nat}{g:Int}{h:au}(r:f e j g h):cw lf (pq 19659) (pR k a n c o b m d i j g) h (fQ lf (pq 179) (pq 75) (RR lf (pq 75) (pB (lg k a n c) p) mz (eu lf (pq 43) Q))):=
 mc (pR k a n c o b m d i) f (λe j g v h r=>bD (step e j g v h r)) e r
noncomputable def qs:FD:=gU Tryz.f59 [((pq 75),[1,2,3]),((pq 4683),[1,2,3,4])]
abbrev nV(k:Nat)(i:Nat):LV:=[(pA k),(ah aj),(iA i)]
abbrev sj(k i:Nat)(j:Nat):LV:=[(pA k),(ah aj),(iA i),(iA j)]
theorem acs(a:LV)(h:au)(Q:VH)(f:xN (jY aq 24 (al ⟨a⟩)) h λi b=>xA (aS aq 24 b (pA (h.aD))) λg=>aX 58 [(al ⟨g⟩)] b λd c=>yB d λe=>cq (!e) (Q (ah aj) c) (cw qs (pq 75) (nV (h.aD) 0) c (eu qs (pq 43) Q))):aX 59 [(al ⟨a⟩)] h Q:=hH qs Tryz.func59 (bD f)
theorem E1(f:LV)(k:Nat)(a:Nat->Nat->au->Prop)(Q:VH)(step:∀(mz:Nat) (i:Nat) (c:Nat->ag) (h:au),a mz i h->qM 24 (pA k) 3 22 h λg d e=>cq (decide ((i:Int)<(d:Int))) (cw qs (pq 4683) (sj k i 0) h (fQ qs (pq 41) (pq 75) (RR qs (pq 75) (jg (nV k) a) mz (eu qs (pq 43) Q)))) (Q (ah af) h))(mz:Nat){i:Nat}{h:au}(b:a mz i h):cw qs (pq 75) (nV k i) h (eu qs (pq 43) Q):=
 gm (nV k) a (λmz i c h b=>bD (step mz i c h b)) mz b
theorem E2(I:LV)(k:Nat)(c:Nat->Nat->au->Prop)(mz i:Nat)(b:Nat->Nat->au->Prop)(Q:VH)(step:∀(a:Nat) (j:Nat) (A:Nat->ag) (h:au),b a j h->qM 24 (pA k) 3 22 h λe p B=>H3 22 (ae e p B) (iA i) 44 1 λz=>xL (aS aq 42 h (bw z)) λH t G=>cq (decide ((j:Int)<(t:Int))) (qM 24 (pA k) 3 22 (room h 21) λo F g=>H3 22 (ae o F g) (iA i) 44 1 λu=>xL (aS aq 42 (room h 21) (bw u)) λf y v=>H3 42 (ae f y v) (iA j) 46 0 λm=>xI ak (aS aq 3 (room h 21) (bw m)) λx=>qM 24 (pA k) 3 22 (room h 21) λw l q=>H3 22 (ae w l q) (iA i) 44 1 λs=>xL (aS aq 42 (room h 21) (bw s)) λr C n=>H3 42 (ae r C n) (iA j) 46 1 λE=>xI ak (aS aq 3 (room h 21) (bw E)) λD=>cq ((x !=D)) (Q (ah aj) (room h 21)) (ct (jg (sj k i) b) a [(pA k),(ah aj),(iA i),(aE (ai ak ((j:Int)+1)))] (room h 21))) (ct (jg (nV k) c) mz [(pA k),(ah aj),(aE (ai ak ((i:Int)+1)))] h))(a:Nat){j:Nat}{h:au}(d:b a j h):cw qs (pq 4683) (sj k i j) h (fQ qs (pq 41) (pq 75) (RR qs (pq 75) (jg (nV k) c) mz (eu qs (pq 43) Q))):=
 gm (sj k i) b (λa j A h d=>bD (step a j A h d)) a d
noncomputable def lq:FD:=gU Tryz.f66 [((pq 75),[1,2,3]),((pq 4683),[1,2,3,4])]
abbrev lr(k:Nat)(i:Nat):LV:=[(pA k),(ah aj),(iA i)]
abbrev na(k i:Nat)(j:Nat):LV:=[(pA k),(ah aj),(iA i),(iA j)]
theorem U6(a:LV)(h:au)(Q:VH)(f:xN (jY aq 24 (al ⟨a⟩)) h λi b=>xA (aS aq 24 b (pA (h.aD))) λg=>aX 58 [(al ⟨g⟩)] b λd c=>yB d λe=>cq (!e) (Q (ah aj) c) (cw lq (pq 75) (lr (h.aD) 0) c (eu lq (pq 43) Q))):aX 66 [(al ⟨a⟩)] h Q:=hH lq Tryz.func66 (bD f)
theorem Cm(f:LV)(k:Nat)(a:Nat->Nat->au->Prop)(Q:VH)(step:∀(mz:Nat) (i:Nat) (c:Nat->ag) (h:au),a mz i h->qM 24 (pA k) 3 22 h λg d e=>cq (decide ((i:Int)<(d:Int))) (cw lq (pq 4683) (na k i 0) h (fQ lq (pq 41) (pq 75) (RR lq (pq 75) (jg (lr k) a) mz (eu lq (pq 43) Q)))) (Q (ah af) h))(mz:Nat){i:Nat}{h:au}(b:a mz i h):cw lq (pq 75) (lr k i) h (eu lq (pq 43) Q):=
 gm (lr k) a (λmz i c h b=>bD (step mz i c h b)) mz b
theorem Cn(I:LV)(k:Nat)(c:Nat->Nat->au->Prop)(mz i:Nat)(b:Nat->Nat->au->Prop)(Q:VH)(step:∀(a:Nat) (j:Nat) (A:Nat->ag) (h:au),b a j h->qM 24 (pA k) 3 22 h λe p B=>H3 22 (ae e p B) (iA i) 44 1 λz=>xL (aS aq 42 h (bw z)) λH t G=>cq (decide ((j:Int)<(t:Int))) (qM 24 (pA k) 3 22 h λo F g=>H3 22 (ae o F g) (iA i) 44 1 λu=>xL (aS aq 42 h (bw u)) λf y v=>H3 42 (ae f y v) (iA j) 46 0 λm=>xI ak (aS aq 3 h (bw m)) λx=>cq ((x==0)) (qM 24 (pA k) 3 22 h λw l q=>H3 22 (ae w l q) (iA i) 44 1 λs=>xL (aS aq 42 h (bw s)) λr C n=>H3 42 (ae r C n) (iA j) 46 1 λE=>xI ak (aS aq 3 h (bw E)) λD=>cq ((D==0)) (Q (ah aj) h) (ct (jg (na k i) b) a [(pA k),(ah aj),(iA i),(aE (ai ak ((j:Int)+1)))] h)) (ct (jg (na k i) b) a [(pA k),(ah aj),(iA i),(aE (ai ak ((j:Int)+1)))] h)) (ct (jg (lr k) c) mz [(pA k),(ah aj),(aE (ai ak ((i:Int)+1)))] h))(a:Nat){j:Nat}{h:au}(d:b a j h):cw lq (pq 4683) (na k i j) h (fQ lq (pq 41) (pq 75) (RR lq (pq 75) (jg (lr k) c) mz (eu lq (pq 43) Q))):=
 gm (na k i) b (λa j A h d=>bD (step a j A h d)) a d
section
def FT(t:eC->Bool)(l:List il):Bool:=l.all λs=>s.bB.all t
def FP(q:eC):Bool:=q.i==q.o
def rP(q:eC):Bool:=q.i !=0||q.o !=0
def WE(f:Nat)(t:eC->Bool):Prop:=∀(q:eC)(g:au),Wf g->aX f [al ⟨iU q⟩] g (λv a=>v=ah (t q)/\Ok g a)
def Bq(q:eC):eA:= .cells (iU q) 46 0 af
theorem adk(q:eC):jY aq 46 (al ⟨iU q⟩)=aa (Bq q,m4):=by kernel_rfl
theorem aaM:WE 76 FP:=λq g w=>by
 have b:AB (g.push (Bq q)) g.aD q:=cT g _;exact aaL _ g _ ⟨_,adk q,_,j0 _ _,_,b.l0,_,Ao _ _,_,b.l1,rfl,(Ok.refl w).push _⟩
noncomputable def afg:TypeDesc:=(aq.underlying 130).getD .bool
theorem ag2:aq.underlying 130=aa afg:=by kernel_rfl
theorem afu:Go.Ab.isAgg aq 130=aj:=by kernel_rfl
def FnB(g:au)(k f:Nat):Prop:=g.get k=aa (.cells [H2 f] 130 0 af)
theorem FnB.ok{f:Nat}(x:FnB h k f)(o:Ok h g):FnB g k f:=o.ext _ _ x
section
variable {f:Nat} {t:eC->Bool} (hf:cQ f YB=af) (ht:WE f t)
include hf ht
theorem aaR(q:eC){k:Nat}{g:au}(w:Wf g)(b:FnB g k f):aX 124 [al ⟨iU q⟩,pA k] g (λv a=>v=ah (!t q)/\Ok g a):=by
 have o:=(Ok.refl w).push (Bq q);have c:=cT g (Bq q);refine aaQ _ k g _ ⟨_,adk q,f,[],[],ej ag2 afu (b.ok o) (by simp),_,jr afj adW Th c (by simp[iU]),?_⟩;refine Jf (K:=λv a=>(match v with|ah x=>ah (!x)=ah (!t q)|_=>False)/\Ok g a) hf ((ht q _ o.wf).mono ?_);rintro _ e ⟨rfl,d⟩;exact⟨_,rfl,rfl,o.trans d⟩
theorem Qu(w:Wf h)(x:FnB h k f){b:Option aJ}{m d:Nat}{l:List eC}(r:kS h (ae b m d) l)(D:l.length<=2000):
  aX 162 [ae b m d,aN (.func 124) ⟨[]⟩ ⟨[pA k]⟩] h (λv p=>∃n:Int,v=aE n/\decide (n>=0)=(!l.all t)/\Ok h p):=by
 have B:=r.len;refine Qt b m d k h _ (Ap b m d k (λmz j p=>j<=m/\mz=m-j/\Ok h p/\(l.drop j).all t=l.all t) _ (λmz j=>?_) m (j:=0) ⟨by omega,rfl,Ok.refl w,rfl⟩);intros;rename_i p z;obtain⟨E,G,c,a⟩:=z;refine az (λe=>?_) (λe=>?_)
 ·have e:=dT e;obtain⟨q,s⟩:∃q,l[j]?=aa q:=⟨_,gE (by omega)⟩
  obtain⟨H,o,y,A,F⟩:=(r.ok c).at_ s;rw[ig s,ep]at a;refine⟨_,y,_,A,(aaR hf ht q c.wf (x.ok c)).mono ?_⟩;rintro _ C ⟨rfl,u⟩;refine⟨_,rfl,az (λg=>⟨_,rfl,?_,c.trans u⟩) (λg=>?_)⟩
  ·rw[cK]at g;rw[<-a,g];simp
  ·rw[dc]at g;rw[g,dz]at a;rw[cH (i:=j) (n:=m) (by omega) (by omega)];exact fC (mz-1) (by omega) ⟨by omega,by omega,c.trans u,a⟩
 ·have e:=dF e;refine⟨_,rfl,?_,c⟩;rw[bV (by omega)]at a;rw[<-a];rfl
theorem Qa(w:Wf h)(c:FnB h k f){b:Option aJ}{m d:Nat}{l:List eC}(e:kS h (ae b m d) l)(g:l.length<=2000):
  aX 123 [ae b m d,aN (.func 124) ⟨[]⟩ ⟨[pA k]⟩] h (λv a=>v=ah (!l.all t)/\Ok h a):=by
 refine P0 b m d k h _ ((Qu hf ht w c e g).mono ?_);rintro _ j ⟨n,rfl,i,o⟩;exact⟨_,rfl,by rw[i],o⟩
theorem ab5(Y:za h)(w:Wf h){M:cm}(I:Small M){a:Option aJ}{n c:Nat}(r:eY h (ae a n c) M.aI):aX 75 [al ⟨cU M a n c⟩,H2 f] h (λv U=>v=ah (dO M&&FT t M.aI)/\Ok h U):=by
 obtain⟨P,D⟩:=jZ w r;refine ab4 (cU M a n c) f h _ ⟨_,kW M a n c,.cells [H2 f] 130 0 af,by kernel_rfl,?_⟩;generalize h.push (Bm M a n c)=e at*;have O:=(Ok.refl D.wf).push (.cells [H2 f] 130 0 af);have R:FnB (e.push (.cells [H2 f] 130 0 af)) e.aD f:=cT e _;have C:=P.ok O;have L:=D.trans O;generalize e.push (.cells [H2 f] 130 0 af)=g at*;refine⟨_,C.all,(Dr (Y.ok L) L.wf I C.row).mono ?_⟩;rintro _ g2 ⟨rfl,K⟩;have F:=L.trans K;have E:=C.ok K;have Q:=R.ok K;have hn:n<=300:=by rw[C.len];exact I.AW
 refine⟨_,rfl,az (λq=>⟨?_,F⟩) (λq=>?_)⟩
 ·rw[cK]at q;rw[q];rfl
 rw[dc]at q;rw[q,dz];refine⟨_,dC _,_,_,_,E.l3,?_⟩;obtain⟨V,N⟩:∃V,V=FT t M.aI:=⟨_,rfl⟩
 rw[<-N];refine EV (cU M a n c) f h.aD e.aD a n c (λmz i H=>i<=n/\mz=n-i/\MB H h.aD M a n c/\FnB H e.aD f/\Ok h H/\FT t (M.aI.drop i)=V) (bQ h V) (λmz i=>?_) n (i:=0) ⟨by omega,rfl,E,Q,F,N.symm⟩;intros;rename_i gg X;obtain⟨f1,f2,p,G,m,d⟩:=X;have hl:=p.len;refine az (λA=>?_) (λA=>?_)
 ·have A:=dT A;obtain⟨s,J⟩:∃s,M.aI[i]?=aa s:=⟨_,gE (by omega)⟩
  obtain⟨b,o,x,y,z,T,Z,e3,e4,S⟩:=p.row.at_ J;obtain⟨W,l2,l3⟩:=oO I J;rw[ig J]at d;unfold FT at d;rw[ep]at d;obtain⟨u,p1,j,p3⟩:=Ox m.wf s.f x y z;refine⟨_,T,_,Z,_,PO,u,p1,_,fG _ _,_,_,_,p3.l1,?_⟩;have l:=m.trans j;refine(Qa hf ht l.wf (G.ok j) (S.ok j) W).mono ?_;rintro _ g4 ⟨rfl,B⟩;refine⟨_,rfl,az (λk=>⟨?_,l.trans B⟩) (λk=>?_)⟩
  ·rw[cK]at k;rw[<-d,k];rfl
  ·rw[dc]at k;rw[k,dz]at d;rw[cH (i:=i) (n:=n) (by omega) (by omega)];exact fC (mz-1) (by omega) ⟨by omega,by omega,(p.ok j).ok B,(G.ok j).ok B,l.trans B,d⟩
 ·have A:=dF A;refine⟨?_,m⟩;rw[bV (by omega)]at d;rw[<-d];rfl
end
def EM(M:cm):Bool:=dO M&&FT FP M.aI
def Dv(M:cm):Bool:=dO M&&FT rP M.aI
theorem ab3(i:za h)(w:Wf h){M:cm}(e:Small M){a:Option aJ}{n c:Nat}(r:eY h (ae a n c) M.aI):aX 31 [al ⟨cU M a n c⟩] h (λv f=>v=ah (EM M)/\Ok h f):=by
 obtain⟨d,b⟩:=jZ w r;refine ab2 _ h _ ⟨_,kW M a n c,_,d.all,(ab5 (by decide +kernel) aaM (i.ok b) b.wf e d.row).mono ?_⟩;rintro _ g ⟨rfl,o⟩;exact⟨_,rfl,rfl,b.trans o⟩
end
section
section
variable {h:au} {k:Nat} {M:cm} {a:Option aJ} {n c:Nat}
def iQ(h:au)(V:Int):VH:=λv a=>v=aE V/\Ok h a
def acX(t:eC->Bool)(h:au)(k:Nat)(M:cm)(a:Option aJ)(n c:Nat)(V:Bool)(mz i:Nat)(g:au):Prop:=i<=n/\mz=n-i/\MB g k M a n c/\Ok h g/\FT t (M.aI.drop i)=V
def tIn(t:eC->Bool)(h:au)(k:Nat)(M:cm)(a:Option aJ)(n c:Nat)(s:il)(i:Nat)(V:Bool)(b j:Nat)(g:au):Prop:=j<=s.bB.length/\b=s.bB.length-j/\MB g k M a n c/\Ok h g/\((s.bB.drop j).all t&&FT t (M.aI.drop (i+1)))=V
set_option linter.defProp false in
def Y4(w:Wf h)(B:Small M)(V:Bool){s:il}{i:Nat}(v:M.aI[i]?=aa s)(K:i<n)(F:List ag)(mz:Nat)(N:mz=n-i):=
 E2 F k (acX FP h k M a n c V) mz i (tIn FP h k M a n c s i V) (bQ h V) (by
  intro C j;intros;rename_i g A;obtain⟨Z,W,l,t,f⟩:=A;have P:n<=300:=by rw[l.len];exact B.AW
  obtain⟨U,l2,T⟩:=oO B v;obtain⟨b,o,I,y,z,p,L,J,r,u⟩:=l.row.at_ v;have Q:=u.len;refine⟨_,dC _,_,_,_,l.l3,_,p,_,fG _ _,_,_,_,r,az (λm=>?_) (λm=>?_)⟩
  ·have m:=dT m;obtain⟨q,D⟩:∃q,s.bB[j]?=aa q:=⟨_,gE (by omega)⟩
   have x:=(Ok.refl t.wf).room 21;have e:=l.ok x;obtain⟨b,o,I,y,z,p,L,J,r,u⟩:=e.row.at_ v;obtain⟨X,Y,E,O,H,G,S,R⟩:=u.at_ D;rw[ig D,ep]at f;refine⟨_,dC _,_,_,_,e.l3,_,p,_,fG _ _,_,_,_,r,_,E,_,j0 _ _,_,H,_,dC _,_,_,_,e.l3,_,p,_,fG _ _,_,_,_,r,_,E,_,Ao _ _,_,G,az (λd=>⟨?_,t.trans x⟩) (λd=>?_)⟩
   ·have d:¬q.i=q.o:=by simpa using d
    rw[<-f,show FP q=aj by unfold FP;simpa using d];rfl
   ·have d:q.i=q.o:=by simpa using d
    rw[show FP q=af by unfold FP;simpa using d,dz]at f;rw[cH (i:=j) (n:=s.bB.length) (by omega) (by omega)];exact fC (C-1) (by omega) ⟨by omega,by omega,e,t.trans x,f⟩
  ·have m:=dF m;rw[bV (by omega)]at f;rw[cH K (by omega)];exact fC (n-(i+1)) (by omega) ⟨by omega,rfl,l,t,by simpa using f⟩)
theorem SZ{h:au}(w:Wf h){M:cm}(m:Small M){a:Option aJ}{n c:Nat}(r:eY h (ae a n c) M.aI):aX 59 [al ⟨cU M a n c⟩] h (λv y=>v=ah (EM M)/\Ok h y):=by
 obtain⟨e,x⟩:=jZ w r;refine acs (cU M a n c) h _ ⟨_,kW M a n c,_,e.all,(DG x.wf m e.row).mono ?_⟩;generalize h.push (Bm M a n c)=g at*;rintro _ C ⟨rfl,u⟩;have l:=x.trans u;have p:=e.ok u;have B:n<=300:=by rw[e.len];exact m.AW
 refine⟨_,rfl,az (λq=>⟨?_,l⟩) (λq=>?_)⟩
 ·rw[cK]at q;unfold EM;rw[q];rfl
 rw[dc]at q;obtain⟨V,o⟩:∃V,V=FT FP M.aI:=⟨_,rfl⟩
 have:EM M=V:=by unfold EM;rw[q,o];rfl
 rw[this];refine E1 (cU M a n c) h.aD (acX FP h h.aD M a n c V) (bQ h V) (λmz i=>?_) n (i:=0) ⟨by omega,rfl,p,l,o.symm⟩;intros;rename_i E A;obtain⟨F,z,b,k,f⟩:=A;have D:=b.len;refine⟨_,dC _,_,_,_,b.l3,az (λd=>?_) (λd=>?_)⟩
 ·have d:=dT d;obtain⟨s,t⟩:∃s,M.aI[i]?=aa s:=⟨_,gE (by omega)⟩
  rw[ig t]at f;exact Y4 w m V t (by omega) [] mz z s.bB.length (j:=0) ⟨by omega,by omega,b,k,by rw[bO];exact f⟩
 ·have d:=dF d;rw[bV (by omega)]at f;exact⟨by rw[<-f];rfl,k⟩
set_option linter.defProp false in
def Zj(w:Wf h)(A:Small M)(V:Bool){s:il}{i:Nat}(B:M.aI[i]?=aa s)(I:i<n)(F:List ag)(mz:Nat)(J:mz=n-i):=
 Cn F k (acX rP h k M a n c V) mz i (tIn rP h k M a n c s i V) (bQ h V) (by
  intro r j;intros;rename_i g v;obtain⟨Z,U,e,p,d⟩:=v;have L:n<=300:=by rw[e.len];exact A.AW
  obtain⟨T,l2,S⟩:=oO A B;obtain⟨b,o,O,y,z,t,X,Q,u,x⟩:=e.row.at_ B;have N:=x.len;refine⟨_,dC _,_,_,_,e.l3,_,t,_,fG _ _,_,_,_,u,az (λm=>?_) (λm=>?_)⟩
  ·have m:=dT m;obtain⟨q,C⟩:∃q,s.bB[j]?=aa q:=⟨_,gE (by omega)⟩
   obtain⟨W,Y,E,K,H,G,R,P⟩:=x.at_ C;rw[ig C,ep]at d;have D:=cH (i:=j) (n:=s.bB.length) (by omega) (by omega);refine⟨_,dC _,_,_,_,e.l3,_,t,_,fG _ _,_,_,_,u,_,E,_,j0 _ _,_,H,az (λf=>⟨_,dC _,_,_,_,e.l3,_,t,_,fG _ _,_,_,_,u,_,E,_,Ao _ _,_,G,az (λl=>⟨?_,p⟩) (λl=>?_)⟩) (λf=>?_)⟩
   ·have f:q.i=0:=by simpa using f
    have l:q.o=0:=by simpa using l
    rw[<-d,show rP q=aj by unfold rP;rw[f,l];rfl];rfl
   ·have l:¬q.o=0:=by simpa using l
    rw[show rP q=af by unfold rP;simp[l],dz]at d;rw[D];exact fC (r-1) (by omega) ⟨by omega,by omega,e,p,d⟩
   ·have f:¬q.i=0:=by simpa using f
    rw[show rP q=af by unfold rP;simp[f],dz]at d;rw[D];exact fC (r-1) (by omega) ⟨by omega,by omega,e,p,d⟩
  ·have m:=dF m;rw[bV (by omega)]at d;rw[cH I (by omega)];exact fC (n-(i+1)) (by omega) ⟨by omega,rfl,e,p,by simpa using d⟩)
theorem U7{h:au}(w:Wf h){M:cm}(m:Small M){a:Option aJ}{n c:Nat}(r:eY h (ae a n c) M.aI):aX 66 [al ⟨cU M a n c⟩] h (λv y=>v=ah (Dv M)/\Ok h y):=by
 obtain⟨e,x⟩:=jZ w r;refine U6 (cU M a n c) h _ ⟨_,kW M a n c,_,e.all,(DG x.wf m e.row).mono ?_⟩;generalize h.push (Bm M a n c)=g at*;rintro _ C ⟨rfl,u⟩;have l:=x.trans u;have p:=e.ok u;have B:n<=300:=by rw[e.len];exact m.AW
 refine⟨_,rfl,az (λq=>⟨?_,l⟩) (λq=>?_)⟩
 ·rw[cK]at q;unfold Dv;rw[q];rfl
 rw[dc]at q;obtain⟨V,o⟩:∃V,V=FT rP M.aI:=⟨_,rfl⟩
 have:Dv M=V:=by unfold Dv;rw[q,o];rfl
 rw[this];refine Cm (cU M a n c) h.aD (acX rP h h.aD M a n c V) (bQ h V) (λmz i=>?_) n (i:=0) ⟨by omega,rfl,p,l,o.symm⟩;intros;rename_i E A;obtain⟨F,z,b,k,f⟩:=A;have D:=b.len;refine⟨_,dC _,_,_,_,b.l3,az (λd=>?_) (λd=>?_)⟩
 ·have d:=dT d;obtain⟨s,t⟩:∃s,M.aI[i]?=aa s:=⟨_,gE (by omega)⟩
  rw[ig t]at f;exact Zj w m V t (by omega) [] mz z s.bB.length (j:=0) ⟨by omega,by omega,b,k,by rw[bO];exact f⟩
 ·have d:=dF d;rw[bV (by omega)]at f;exact⟨by rw[<-f];rfl,k⟩
end
end
section
theorem qB(s:il)(l:List il):mo (s::l)=s.bB.length+mo l:=by simp[mo]
theorem Tg{B:Nat}:∀{l:List il},(∀s∈l,s.bB.length<=B)->mo l<=l.length*B
 |[],_=>by simp[mo]
 |x::l,h=>by
  rw[qB,bU,dh,ew];have b:=h x (cj ..);have c:=Tg (l:=l) λs a=>h s (cF _ a);omega
def Bnd(M:cm):Prop:=∀s∈M.aI,s.bB.length<=281474976710656
section
variable {h:au} {k:Nat} {M:cm} {a:Option aJ} {n c:Nat}
theorem Oz(w:Wf h)(C:Bnd M)(q:M.aI.length<=300)(r:eY h (ae a n c) M.aI):aX 23 [al ⟨cU M a n c⟩] h (λv D=>v=aE (mo M.aI:Nat)/\Ok h D):=by
 obtain⟨u,H⟩:=jZ w r;refine YY (cU M a n c) h _ ⟨_,kW M a n c,?_⟩;generalize h.push (Bm M a n c)=g at*;have I:=u.len;have B:=Tg C;have t:M.aI.length*281474976710656<=300*281474976710656:=bM _ q;have O:mo M.aI<=300*281474976710656:=bN B t;refine Dw (cU M a n c) h.aD (λmz i f m=>i<=n/\mz=n-i/\MB m h.aD M a n c/\Ok h m/\∃j:Nat,f=(j:Int)/\j+mo (M.aI.drop i)=mo M.aI) (iQ h (mo M.aI:Nat)) (λmz i f=>?_) n (i:=0) (acc:=0) ⟨by omega,rfl,u,H,0,rfl,by rw[bO];omega⟩;intros;rename_i L G;obtain⟨Q,N,d,l,j,rfl,k⟩:=G;refine⟨_,dC _,_,_,_,d.l3,az (λe=>?_) (λe=>?_)⟩
 ·have e:=dT e;obtain⟨s,p⟩:∃s,M.aI[i]?=aa s:=⟨_,gE (by omega)⟩
  obtain⟨b,o,J,y,z,A,P,K,E,x⟩:=d.row.at_ p;have R:=x.len;rw[ig p,qB]at k;refine⟨_,dC _,_,_,_,d.l3,_,A,_,fG _ _,_,_,_,E,?_⟩;have F:ai ak ((j:Int)+(y:Int))=((j+y:Nat):Int):=by rw[cd (by omega) (by omega)];omega
  dsimp only;rw[F,cH (i:=i) (n:=n) (by omega) (by omega)];exact iu (mz-1) (by omega) ⟨by omega,by omega,d,l,_,rfl,by omega⟩
 ·have e:=dF e;rw[bV (by omega)]at k;refine⟨?_,l⟩;rw[show mo []=0 from rfl,eR]at k;rw[k]
end
end
noncomputable def qt:FD:=gU Tryz.f22 [((pq 75),[1,2,3]),((pq 9803),[1,2,3,4,5])]
abbrev nW(k:Nat)(i:Nat):LV:=[(pA k),(ah aj),(iA i)]
abbrev sk(k a tn tc i:Nat)(j:Nat):LV:=[(pA k),(ah aj),(iA i),(sA a tn tc),(iA j)]
theorem acu(b:LV)(h:au)(Q:VH)(k:xN (jY aq 24 (al ⟨b⟩)) h λm c=>xA (aS aq 24 c (pA (h.aD))) λl=>aX 59 [(al ⟨l⟩)] c λf a=>yB f λg=>cq (!g) (Q (ah aj) a) (xA (aS aq 24 a (pA (h.aD))) λi=>aX 66 [(al ⟨i⟩)] a λj e=>yB j λd=>cq (!d) (Q (ah aj) e) (cw qt (pq 75) (nW (h.aD) 0) e (eu qt (pq 43) Q)))):aX 22 [(al ⟨b⟩)] h Q:=hH qt Tryz.func22 (bD k)
theorem E3(n:LV)(k:Nat)(a:Nat->Nat->au->Prop)(Q:VH)(step:∀(mz:Nat) (i:Nat) (g:Nat->ag) (h:au),a mz i h->qM 24 (pA k) 3 22 h λj e l=>cq (decide ((i:Int)<(e:Int))) (xR (dD aq 68 (aE 501) (aE 501)) h λm d c f=>cw qt (pq 9803) (sk k (h.aD) d c i 0) f (fQ qt (pq 89) (pq 75) (RR qt (pq 75) (jg (nW k) a) mz (eu qt (pq 43) Q)))) (Q (ah af) h))(mz:Nat){i:Nat}{h:au}(b:a mz i h):cw qt (pq 75) (nW k i) h (eu qt (pq 43) Q):=
 gm (nW k) a (λmz i g h b=>bD (step mz i g h b)) mz b
theorem E4(N:LV)(k c tn tc:Nat)(d:Nat->Nat->au->Prop)(mz i:Nat)(b:Nat->Nat->au->Prop)(Q:VH)(step:∀(a:Nat) (j:Nat) (y:Nat->ag) (h:au),b a j h->qM 24 (pA k) 3 22 h λF A f=>H3 22 (ae F A f) (iA i) 44 1 λw=>xL (aS aq 42 h (bw w)) λK E L=>cq (decide ((j:Int)<(E:Int))) (qM 24 (pA k) 3 22 h λl q n=>H3 22 (ae l q n) (iA i) 44 1 λv=>xL (aS aq 42 h (bw v)) λp o m=>H3 42 (ae p o m) (iA j) 46 0 λI=>xI ak (aS aq 3 h (bw I)) λC=>qX xB 68 (sA c tn tc) (aE C) 4 h λx=>cq x (Q (ah aj) h) (qM 24 (pA k) 3 22 h λr s z=>H3 22 (ae r s z) (iA i) 44 1 λB=>xL (aS aq 42 h (bw B)) λH D G=>H3 42 (ae H D G) (iA j) 46 0 λt=>xI ak (aS aq 3 h (bw t)) λg=>xP (aW aq 68 (sA c tn tc) (aE g)) λu=>xU (bh aq 4 (bw u) (ah af) h) h λM J=>ct (jg (sk k c tn tc i) b) a [(pA k),(ah aj),(iA i),(sA c tn tc),(aE (ai ak ((j:Int)+1)))] J)) (ct (jg (nW k) d) mz [(pA k),(ah aj),(aE (ai ak ((i:Int)+1)))] h))(a:Nat){j:Nat}{h:au}(e:b a j h):cw qt (pq 9803) (sk k c tn tc i j) h (fQ qt (pq 89) (pq 75) (RR qt (pq 75) (jg (nW k) d) mz (eu qt (pq 43) Q))):=
 gm (sk k c tn tc i) b (λa j y h e=>bD (step a j y h e)) a e
variable{z:Int}
section
theorem yU{a:Int}{N:Nat}:∀{l:List il}{c:Int},py a N c l=af->∀s∈l,(s.f==[]||fD a s.f)=af/\∀q∈s.bB,my a N q=af
 |[],_,_,s,b=>by cases b
 |x::l,c,h,s,b=>by
  unfold py at h;simp only[bg]at h;obtain⟨⟨⟨i,f⟩,d⟩,g⟩:=h;rcases cW.1 b with rfl|b
  ·exact⟨f,λq e=>bY.1 d q e⟩
  ·exact yU g s b
structure IT(N:Nat)(q:eC):Prop where
 i0:0<=q.i
 i1:q.i<=500
 o0:0<=q.o
 o1:q.o<=500
 t0:0<=q.t
 t1:q.t<N
theorem WR{q:eC}(h:my z m q=af):IT m q:=by
 unfold my wu at h;simp only[bg,decide_eq_true_eq]at h;obtain⟨⟨⟨⟨⟨b,c⟩,a,d⟩,f⟩,e⟩,g⟩:=h;exact⟨b,c,a,d,f,e⟩
structure Good(M:cm):Prop where
 uj:0<=M.start
 uk:M.start<M.aI.length
 bB:∀s∈M.aI,∀q∈s.bB,IT M.aI.length q
theorem jG{M:cm}(h:dO M=af):Good M:=by
 unfold dO at h;simp only[bg,decide_eq_true_eq]at h;obtain⟨⟨⟨⟨⟨⟨⟨g,i⟩,f⟩,k⟩,e⟩,d⟩,j⟩,a⟩:=h;exact⟨e,d,λs b q c=>WR ((yU a s b).2 q c)⟩
def wk(s:il):List Int:=s.bB.map (·.i)
def Ni(s:il):Bool:=decide (wk s).Nodup
def Nh(M:cm):Bool:=EM M&&Dv M&&M.aI.all Ni
section
variable {h:au} {k:Nat} {M:cm} {a:Option aJ} {n c:Nat}
def af0(h:au)(k:Nat)(M:cm)(a:Option aJ)(n c:Nat)(V:Bool)(mz i:Nat)(g:au):Prop:=i<=n/\mz=n-i/\MB g k M a n c/\Ok h g/\(M.aI.drop i).all Ni=V
end
end
section
theorem zq:aq.underlying 68=aa (.slice 4):=by kernel_rfl
theorem VZ:bZ aq 4=aa 1:=by kernel_rfl
noncomputable def ti4:TypeInfo:=(aq.info? 4).getD default
theorem ae9:aq.info? 4=aa ti4:=by kernel_rfl
theorem Z7:ti4.size=1:=by kernel_rfl
theorem V4:ti4.bytes=1:=by kernel_rfl
theorem adQ:zeroOf aq 4=aa (ah aj):=by kernel_rfl
theorem Uy(n:Nat)(a:n<=100000):dD aq 68 (aE (n:Int)) (aE (n:Int))=aa (.cells ((aQ n aj).map ah) 4 1 af,qe n n):=by
 unfold dD dK;dsimp only;rw[zq]
 try dsimp only
 change (match aq.info? 4,zeroOf aq 4 with
  |some i,aa z=>(if z.cells.size=i.size/\0<i.size/\(0:Int)<=(n:Int)/\(n:Int)<=(n:Int)/\(n:Int)*i.bytes<=140737488355328/\(n:Int)<=1099511627776 then aa (eA.cells (fb z.cells.toList (n:Int).toNat) 4 i.size af,λk=>ae (aa ⟨k,0,none⟩) (n:Int).toNat (n:Int).toNat)else none)
  |_,_=>none)=_
 rw[ae9,adQ];dsimp only;rw[Z7,V4,iP ⟨rfl,by omega,by omega,gr _,by omega,by omega⟩];have e:((n:Int)).toNat=n:=by omega
 rw[e,show(ah aj).cells.toList=[ah aj]from rfl,tU,jO];rfl
structure BR(hb:au)(kt N:Nat)(L:List Bool)(g:au):Prop where
 len:L.length=N
 row:ur hb kt 4 (L.map ah) g
theorem BR.trans{L:List Bool}{b a:au}(c:BR g m i L b)(o:Ok b a):BR g m i L a:=⟨c.len,c.row.trans o⟩
theorem BR.get{c:Nat}{L:List Bool}{d:au}(j:BR g m i L d){x:Int}(n:0<=x)(k:x<i):aW aq 68 (sA m i c) (aE x)=aa (df m x.toNat)/\aS aq 4 d (df m x.toNat)=aa (ah (L.getD x.toNat aj))/\
  ∀b:Bool,Wf g->∃u:ek,bh aq 4 (df m x.toNat) (ah b) d=aa (undef,u)/\BR g m i (L.set x.toNat b) (u.app d)/\(∀a B,d.get a=aa B->a≠m->(u.app d).get a=aa B):=by
 have e:0+x.toNat*1=x.toNat:=by omega
 have f:x.toNat<L.length:=by rw[j.len];omega
 refine⟨by rw[<-e];exact GI zq VZ n k,?_,?_⟩
 ·rw[ej un4 ag4 j.row.row (by rw[aH];exact f),gD,getElem?_map,gD,gE f];rfl
 ·intro b w;refine⟨_,kG VZ j.row.row (by rw[aH];exact f) rfl rfl,⟨by rw[dt];exact j.len,?_⟩,λa B l h=>?_⟩
  ·have:=j.row.set w x.toNat (ah b);rw[Mn ah L x.toNat b]at this⊢;exact this
  ·show(d.set m _).get a=_;rw[au.cE,iN h];exact l
theorem BR.new{h:au}(w:Wf h)(n:Nat):BR h h.aD n (aQ n aj) (h.push (.cells ((aQ n aj).map ah) 4 1 af)):=
 ⟨bX,cT h _,aT _,(Ok.refl w).push _⟩
theorem GF{L:List Bool}{x:Nat}(a:x<L.length):(L.set x b).getD m aj=if m=x then b else L.getD m aj:=by
 rw[gD,getElem?_set,gD];split
 ·next e=>subst e;simp
 ·next e=>rw[iN (λc=>e c.symm)]
section
variable {h:au} {k:Nat} {M:cm} {a:Option aJ} {n c:Nat}
set_option linter.defProp false in
def Y6{v:au}(w:Wf v)(B:Ok h v)(P:Small M)(gd:Good M)(V:Bool){s:il}{i U:Nat}(G:M.aI[i]?=aa s)(hi:i<n)(W:MB v k M a n c)(D:(Ni s&&(M.aI.drop (i+1)).all Ni)=V)(mv:List ag)(mz:Nat)(x1:mz=n-i):=
 E4 mv k U 501 501 (af0 h k M a n c V) mz i (λp j g=>j<=s.bB.length/\p=s.bB.length-j/\∃L,BR v U 501 L g/\(∀x:Nat,x<501->(L.getD x aj=af↔(x:Int)∈(wk s).take j))/\((wk s).take j).Nodup) (bQ h V) (by
  intro p j;intros;rename_i g d;obtain⟨f1,f2,L,H,R,l⟩:=d;have K:=H.row.ok;have f:=W.ok K;have hn:n<=300:=by rw[f.len];exact P.AW
  obtain⟨l1,l2,l3⟩:=oO P G;obtain⟨b,o,x',y,z,E,e2,e3,J,N⟩:=f.row.at_ G;have hm:=N.len;refine⟨_,dC _,_,_,_,f.l3,_,E,_,fG _ _,_,_,_,J,az (λr=>?_) (λr=>?_)⟩
  ·have r:=dT r;obtain⟨q,I⟩:∃q,s.bB[j]?=aa q:=⟨_,gE (by omega)⟩
   obtain⟨bb,oo,X,d2,S,d4,d5,d6⟩:=N.at_ I;have d:=gd.bB s (aM G) q (aM I);have Y:=d.i0;have x0:=d.i1;obtain⟨O,r2,r3⟩:=H.get (c:=501) (x:=q.i) Y (by omega);have C:(wk s)[j]?=aa q.i:=by unfold wk;rw[getElem?_map,I];rfl
   have Z:(wk s).take (j+1)=(wk s).take j++[q.i]:=by rw[fM,C];rfl
   have m:=R q.i.toNat (by omega);rw[show((q.i.toNat:Nat):Int)=q.i by omega]at m;refine⟨_,dC _,_,_,_,f.l3,_,E,_,fG _ _,_,_,_,J,_,X,_,j0 _ _,_,S,_,O,_,r2,az (λA=>⟨?_,B.trans K⟩) (λA=>?_)⟩
   ·have F:=m.1 A;have:¬(wk s).Nodup:=λt=>by
     rw[<-dM j (wk s),fx]at t;refine t.2.2 _ F q.i ?_ rfl;rw[ig C];exact cj ..
    rw[<-D,show Ni s=aj from eF this];rfl
   ·have Q:q.i∉(wk s).take j:=λc=>by rw[m.2 c]at A;cases A
    obtain⟨u,s1,s2,s3⟩:=r3 af w;refine⟨_,dC _,_,_,_,f.l3,_,E,_,fG _ _,_,_,_,J,_,X,_,j0 _ _,_,S,_,O,u,s1,?_⟩;rw[cH (i:=j) (n:=s.bB.length) (by omega) (by omega)];refine fC (p-1) (by omega) ⟨by omega,by omega,_,s2,λx hx=>?_,?_⟩
    ·rw[GF (by rw[H.len];omega),Z,bG,ba];by_cases e:x=q.i.toNat
     ·rw[iP e];exact⟨λ_=> .inr (by omega),λ_=>rfl⟩
     ·rw[iN e,R x hx];exact⟨.inl,λc=>c.elim id (λc=>absurd (by omega) e)⟩
    ·rw[Z,fx];refine⟨l,by simp,λa1 h1 b1 T=>?_⟩;rw[ba]at T;rintro rfl;exact Q (T▸h1)
  ·have r:=dF r;rw[bC (by unfold wk;rw[aH];omega)]at l;rw[show Ni s=af from eT l,dz]at D;rw[cH hi (by omega)];exact fC (n-(i+1)) (by omega) ⟨by omega,rfl,f,B.trans K,D⟩)
theorem acv(w:Wf h)(l:Small M)(r:eY h (ae a n c) M.aI):aX 22 [al ⟨cU M a n c⟩] h (λv F=>v=ah (Nh M)/\Ok h F):=by
 obtain⟨m,C⟩:=jZ w r;refine acu (cU M a n c) h _ ⟨_,kW M a n c,_,m.all,(SZ C.wf l m.row).mono ?_⟩;generalize h.push (Bm M a n c)=g at*;rintro _ J ⟨rfl,B⟩;have f:=C.trans B;have d:=m.ok B;have I:n<=300:=by rw[m.len];exact l.AW
 refine⟨_,rfl,az (λq=>⟨?_,f⟩) (λq=>?_)⟩
 ·rw[cK]at q;unfold Nh;rw[q];rfl
 rw[dc]at q;refine⟨_,d.all,(U7 f.wf l d.row).mono ?_⟩;rintro _ N ⟨rfl,z⟩;have p:=f.trans z;have A:=d.ok z;refine⟨_,rfl,az (λt=>⟨?_,p⟩) (λt=>?_)⟩
 ·rw[cK]at t;unfold Nh;rw[t,Bool.and_false];rfl
 rw[dc]at t;have E:Good M:=jG (by unfold EM at q;rw[bg]at q;exact q.1);obtain⟨V,u⟩:∃V,V=M.aI.all Ni:=⟨_,rfl⟩
 have:Nh M=V:=by unfold Nh;rw[q,t,u];rfl
 rw[this];refine E3 (cU M a n c) h.aD (af0 h h.aD M a n c V) (bQ h V) (λmz i=>?_) n (i:=0) ⟨by omega,rfl,A,p,u.symm⟩;intros;rename_i L H;obtain⟨O,G,k,b,o⟩:=H;have K:=k.len;refine⟨_,dC _,_,_,_,k.l3,az (λe=>?_) (λe=>?_)⟩
 ·have e:=dT e;obtain⟨s,y⟩:∃s,M.aI[i]?=aa s:=⟨_,gE (by omega)⟩
  rw[ig y,ep]at o;refine⟨_,_,_,Uy 501 (by omega),?_⟩;exact Y6 b.wf b l E V y (by omega) k o [] mz G s.bB.length (j:=0) ⟨by omega,by omega,_,BR.new b.wf 501,λx D=>by rw[dQ,gD,getElem?_replicate,iP D];simp,List.nodup_nil⟩
 ·have e:=dF e;rw[bV (by omega)]at o;exact⟨by rw[<-o];rfl,b⟩
end
end
noncomputable def ac5:FD:=gU Tryz.f173 []
theorem aas(s:Int)(e d:Nat)(h:au)(Q:VH)(r:xL (aS aq 68 h (pA e)) λx p v=>qX xB 68 (ae x p v) (aE s) 4 h λu=>cq (!u) (xL (aS aq 68 h (pA e)) λq w t=>xP (aW aq 68 (ae q w t) (aE s)) λy=>xU (bh aq 4 (bw y) (ah af) h) h λB a=>xL (aS aq 27 a (pA d)) λi k m=>xR (bS aq 27 1 [(0,(aE s))]) a λC j f b=>xE (cG aq 27 27 (ae i k m) (sA (a.aD) j f) b) b λn o g A c=>xU (bh aq 27 (pA d) (ae n o g) c) c λz l=>Q (av ⟨[]⟩) l) (Q (av ⟨[]⟩) h)):aX 173 [(aE s),(pA e),(pA d)] h Q:=hH ac5 Tryz.func173 (bD r)
noncomputable def ach:FD:=gU Tryz.f133 []
theorem Yv(s:Int)(k:Nat)(h:au)(Q:VH)(c:xL (aS aq 126 h (pA k)) λg a e=>qX xL 126 (ae g a e) (aE s) 27 h λf d b=>Q (ae f d b) h):aX 133 [(aE s),(pA k)] h Q:=hH ach Tryz.func133 (bD c)
noncomputable def aci:FD:=gU Tryz.f134 []
theorem Yx(s:Int)(k:Nat)(h:au)(Q:VH)(c:xL (aS aq 126 h (pA k)) λg a e=>qX xL 126 (ae g a e) (aE s) 27 h λf d b=>Q (ae f d b) h):aX 134 [(aE s),(pA k)] h Q:=hH aci Tryz.func134 (bD c)
noncomputable def jb:FD:=gU Tryz.f132 [((pq 303),[0,1,2,7,8,9,18,19,20]),((pq 287),[0,1,2,7,8,9]),((pq 40223),[0,1,2,7,8,9,44,45,46])]
abbrev tz(N:Int)(a:OA)(n c f e d b:Nat)(i:Nat):LV:=[(aE N),(ae a n c),(aN (.func f) ⟨[]⟩ ⟨[(pA e)]⟩),(pA d),(pA b),(aN (.func 173) ⟨[]⟩ ⟨[(pA d),(pA b)]⟩),(ae a n c),(iA n),(iA i)]
abbrev nw(N:Int)(a:OA)(n c f e d b:Nat)(g:Nat):LV:=[(aE N),(ae a n c),(aN (.func f) ⟨[]⟩ ⟨[(pA e)]⟩),(pA d),(pA b),(aN (.func 173) ⟨[]⟩ ⟨[(pA d),(pA b)]⟩)]
abbrev tA(N:Int)(a:OA)(n c f h g e:Nat)(b:OA)(m d:Nat)(j:Nat):LV:=[(aE N),(ae a n c),(aN (.func f) ⟨[]⟩ ⟨[(pA h)]⟩),(pA g),(pA e),(aN (.func 173) ⟨[]⟩ ⟨[(pA g),(pA e)]⟩),(ae b m d),(iA m),(iA j)]
theorem VN(N:Int)(a:OA)(n c f g:Nat)(h:au)(Q:VH)(k:xR (dD aq 68 (aE N) (aE N)) h λm j l b=>xN (cP aq 68) b λq e=>xU (bh aq 68 (pA (b.aD)) (sA (h.aD) j l) e) e λp d=>xN (cP aq 27) d λo i=>cw jb (pq 303) [(aE N),(ae a n c),(aN (.func f) ⟨[]⟩ ⟨[(pA g)]⟩),(pA (b.aD)),(pA (d.aD)),(aN (.func 173) ⟨[]⟩ ⟨[(pA (b.aD)),(pA (d.aD))]⟩),(ae a n c),(iA n),(aE 0)] i (eu jb (pq 175) Q)):aX 132 [(aE N),(ae a n c),(aN (.func f) ⟨[]⟩ ⟨[(pA g)]⟩)] h Q:=hH jb Tryz.func132 (bD k)
theorem CK(N:Int)(a:OA)(n c f g:Nat)(d b:Nat)(e:Nat->Nat->au->Prop)(Q:VH)(step:∀(mz:Nat) (i:Nat) (k:Nat->ag) (h:au),e mz i h->cq (decide ((i:Int)<(n:Int))) (Ws 27 (ae a n c) (iA i) h λl=>aX 173 [(aE l),(pA d),(pA b)] h λm o=>m=(av ⟨[]⟩)/\ct (jg (tz N a n c f g d b) e) mz [(aE N),(ae a n c),(aN (.func f) ⟨[]⟩ ⟨[(pA g)]⟩),(pA d),(pA b),(aN (.func 173) ⟨[]⟩ ⟨[(pA d),(pA b)]⟩),(ae a n c),(iA n),(aE (ai ak ((i:Int)+1)))] o) (cw jb (pq 287) [(aE N),(ae a n c),(aN (.func f) ⟨[]⟩ ⟨[(pA g)]⟩),(pA d),(pA b),(aN (.func 173) ⟨[]⟩ ⟨[(pA d),(pA b)]⟩)] h (eu jb (pq 159) Q)))(mz:Nat){i:Nat}{h:au}(j:e mz i h):cw jb (pq 303) (tz N a n c f g d b i) h (eu jb (pq 175) Q):=
 gm (tz N a n c f g d b) e (λmz i k h j=>bD (step mz i k h j)) mz j
theorem CL(N:Int)(a:OA)(n c f j:Nat)(i b:Nat)(e:Nat->Nat->au->Prop)(Q:VH)(step:∀(d:Nat) (g:Nat) (F:Nat->ag) (h:au),e d g h->xL (aS aq 27 h (pA b)) λL q J=>cq (decide ((q:Int)>0)) (xL (aS aq 27 h (pA b)) λw A y=>xL (aS aq 27 h (pA b)) λO I K=>Ws 27 (ae w A y) (aE (ai ak ((I:Int)-1))) h λp=>xL (aS aq 27 h (pA b)) λm B z=>xL (aS aq 27 h (pA b)) λM t P=>xL (dN aq 27 (ae m B z) none (aa (aE (ai ak ((t:Int)-1)))) none h) λv s x=>xU (bh aq 27 (pA b) (ae v s x) h) h λR u=>cq (cQ f YB) (aX f ([]++[(aE p)]++[(pA j)]) u λC G=>yL C λo k r=>cw jb (pq 40223) [(aE N),(ae a n c),(aN (.func f) ⟨[]⟩ ⟨[(pA j)]⟩),(pA i),(pA b),(aN (.func 173) ⟨[]⟩ ⟨[(pA i),(pA b)]⟩),(ae o k r),(iA k),(aE 0)] G (fQ jb (pq 93) (pq 287) (RR jb (pq 287) (jg (nw N a n c f j i b) e) d (eu jb (pq 159) Q)))) False) (xL (aS aq 68 h (pA i)) λE H D=>Q (ae E H D) h))(d:Nat){g:Nat}{h:au}(l:e d g h):cw jb (pq 287) (nw N a n c f j i b g) h (eu jb (pq 159) Q):=
 gm (nw N a n c f j i b) e (λd g F h l=>bD (step d g F h l)) d l
theorem CM(N:Int)(a:OA)(n c f l:Nat)(i g:Nat)(b:OA)(m d:Nat)(o:Nat->Nat->au->Prop)(p:Nat)(k:Nat->Nat->au->Prop)(Q:VH)(step:∀(e:Nat) (j:Nat) (t:Nat->ag) (h:au),k e j h->cq (decide ((j:Int)<(m:Int))) (Ws 27 (ae b m d) (iA j) h λs=>aX 173 [(aE s),(pA i),(pA g)] h λr u=>r=(av ⟨[]⟩)/\ct (jg (tA N a n c f l i g b m d) k) e [(aE N),(ae a n c),(aN (.func f) ⟨[]⟩ ⟨[(pA l)]⟩),(pA i),(pA g),(aN (.func 173) ⟨[]⟩ ⟨[(pA i),(pA g)]⟩),(ae b m d),(iA m),(aE (ai ak ((j:Int)+1)))] u) (ct (jg (nw N a n c f l i g) o) p [(aE N),(ae a n c),(aN (.func f) ⟨[]⟩ ⟨[(pA l)]⟩),(pA i),(pA g),(aN (.func 173) ⟨[]⟩ ⟨[(pA i),(pA g)]⟩)] h))(e:Nat){j:Nat}{h:au}(q:k e j h):cw jb (pq 40223) (tA N a n c f l i g b m d j) h (fQ jb (pq 93) (pq 287) (RR jb (pq 287) (jg (nw N a n c f l i g) o) p (eu jb (pq 159) Q))):=
 gm (tA N a n c f l i g b m d) k (λe j t h q=>bD (step e j t h q)) e q
variable{a:Option aJ}
section
theorem ZM{a g:au}(h:Wf a)(i:Ok a g){v:ag}{d:List ag}(o:od a g 3 v d){z:Int}{f:Nat}(e:g.get f=aa (.cells [aE z] 3 1 af))(k:d.length<=100000):
  ∃(b:Option aJ)(n c:Nat)(u:ek),cG aq 27 27 v (sA f 1 1) g=aa (ae b n c,u)/\n=d.length+1/\od a (u.app g) 3 (ae b n c) (d++[aE z])/\Ok a (u.app g)/\
   (∀j B,g.get j=aa B->fJ v≠aa j->(u.app g).get j=aa B)/\
   (∀j,fJ (ae b n c)=aa j->g.aD<=j\/fJ v=aa j)/\g.aD<=(u.app g).aD:=
 od.snoc me Hp xy h i o rfl e (by rw[uL];omega) (by omega)
theorem CQ:bZ aq 27=aa 1:=by kernel_rfl
theorem agS:bZ aq 68=aa 1:=by kernel_rfl
theorem wv:Go.Ab.isAgg aq 27=aj:=by kernel_rfl
theorem Ik:Go.Ab.isAgg aq 68=aj:=by kernel_rfl
theorem yf:aq.underlying 126=aa (.slice 27):=by kernel_rfl
theorem ZY:bZ aq 126=aa 1:=by kernel_rfl
theorem D5:Go.Ab.isAgg aq 126=aj:=by kernel_rfl
theorem fR(a:Option aJ)(n c:Nat):eZ (ae a n c)=af:=by cases a<;>rfl
def C0(g:au)(k:Nat)(t:aF)(v:ag):Prop:=g.get k=aa (.cells [v] t 0 af)
theorem C0.ok{g a:au}{t:aF}(b:C0 g k t v)(o:Ok g a):C0 a k t v:=o.ext _ _ b
theorem C0.ld{g:au}{t:aF}{d:TypeDesc}(c:aq.underlying t=aa d)(a:Go.Ab.isAgg aq t=aj)(b:C0 g k t v):aS aq t g (pA k)=aa v:=ej c a b (by simp)
theorem C0.st{g:au}{t:aF}(c:bZ aq t=aa 1)(b:C0 g k t v){v':ag}(a:eZ v'=af)(d:v'.cells = #[v']):bh aq t (pA k) v' g=aa (undef,.set k (.cells [v'] t 0 af)):=kG c b (by simp) a d
structure Sst(h:au)(k7 k8 kt N:Nat)(L:List Bool)(T:List Nat)(g:au):Prop where
 b7:C0 g k7 68 (sA kt N N)
 b8:∃tv,C0 g k8 27 tv/\od h g 3 tv (T.map iv)/\fJ tv≠aa kt/\fJ tv≠aa k7/\fJ tv≠aa k8
 row:BR h kt N L g
 n7:h.aD<=k7
 n8:h.aD<=k8
 d1:k7≠kt
 d2:k8≠kt
 d3:k7≠k8
section
variable {h:au} {k7 k8 kt N:Nat} {L:List Bool} {T:List Nat} {g:au}
theorem aat(w:Wf h)(a:Sst h k7 k8 kt N L T g){s:Nat}(hs:s<N)(hT:T.length<=100000):
  aX 173 [aE (s:Int),pA k7,pA k8] g (λv K=>v=av ⟨[]⟩/\((L.getD s aj=af/\Sst h k7 k8 kt N L T K)\/(L.getD s aj=aj/\Sst h k7 k8 kt N (L.set s af) (T++[s]) K))):=by
 obtain⟨X,t1,Z,I,Q,H⟩:=a.b8;obtain⟨E,U,M⟩:=a.row.get (c:=N) (x:=(s:Int)) (by omega) (by omega);rw[bc]at E U M;refine aas s k7 k8 g _ ⟨_,_,_,a.b7.ld zq Ik,_,E,_,U,az (λq=>?_) (λq=>?_)⟩
 ·rw[cK]at q;obtain⟨u,s1,o,F⟩:=M af w;refine⟨_,_,_,a.b7.ld zq Ik,_,E,u,s1,?_⟩;have A:C0 (u.app g) k7 68 (sA kt N N):=F _ _ a.b7 a.d1;have r:C0 (u.app g) k8 27 X:=F _ _ t1 a.d2;have S:od h (u.app g) 3 X (T.map iv):=Z.sY λj B t G=>F j B G (λe=>I (by rw[t,e]));generalize u.app g=m at*;obtain⟨ta,tc,rfl⟩:=S.tB;rw[aH]at*;refine⟨_,_,_,r.ld me wv,?_⟩;have f:=o.row.ok;have p:=(Ok.refl f.wf).push (.cells [aE (s:Int)] 3 1 af);have hk:=cT m (.cells [aE (s:Int)] 3 1 af);obtain⟨b,l,i,C,a1,a2,a3,V,J,a6,a7⟩:=ZM w (f.trans p) (S.ok p) hk (by rw[aH];exact hT);refine⟨_,_,_,Bw _,b,l,i,C,a1,?_⟩;have D:=J _ _ (A.ok p) Q;have n:C0 (C.app (m.push (.cells [aE (s:Int)] 3 1 af))) k8 27 _:=J _ _ (r.ok p) H;have W:=J _ _ (p.ext _ _ o.row.row) I;have x0:m.aD<=(m.push (.cells [aE (s:Int)] 3 1 af)).aD:=fA _;have Y:=f.wf _ _ A;have O:=f.wf _ _ r;have lt:=o.row.lt;generalize m.push (.cells [aE (s:Int)] 3 1 af)=gp at*;generalize C.app gp=k at*;refine⟨_,n.st CQ (fR _ _ _) rfl,rfl,.inr ⟨q,?_⟩⟩;have P:Ok h ((ek.set k8 (.cells [ae b l i] 27 0 af)).app k):=V.set _ a.n8 (V.wf _ _ n) w;have d:∀j,j≠k8->((ek.set k8 (.cells [ae b l i] 27 0 af)).app k).get j=k.get j:=λj t=>by
   show(k.set k8 _).get j=_;rw[au.cE,iN t]
  have y:((ek.set k8 (.cells [ae b l i] 27 0 af)).app k).get k8=aa (.cells [ae b l i] 27 0 af):=by
   show(k.set k8 _).get k8=_;rw[au.cE,iP rfl]
  have z:∀j,fJ (ae ta T.length tc)≠aa j->j<m.aD->fJ (ae b l i)≠aa j:=λj h1 h2 e=>by
   rcases a6 j e with R|R
   ·omega
   ·exact h1 R
  refine⟨?_,⟨_,y,?_,z _ I lt,z _ Q Y,z _ H O⟩,⟨o.len,?_,o.row.new,P⟩,a.n7,a.n8,a.d1,a.d2,a.d3⟩
  ·show _=_;rw[d _ a.d3];exact D
  ·rw[bK];exact a3.sY λj B t G=>by rw[d j (λe=>z _ H O (by rw[t,e]))];exact G
  ·rw[d _ (λe=>a.d2 e.symm)];exact W
 ·rw[dc]at q;exact⟨rfl,.inl ⟨q,a⟩⟩
def MI(g:au)(a:Option aJ)(N c:Nat)(A:List (List Nat)):Prop:=A.length=N/\∃e:List ag,Rd g 27 (ae a N c) e/\e.length=N/\∀(i:Nat)(l:List Nat),A[i]?=aa l->∃(b:Option aJ)(m d:Nat),e[i]?=aa (ae b m d)/\Rd g 3 (ae b m d) (l.map iv)
theorem MI.ok{g e:au}{N c:Nat}{A:List (List Nat)}(r:MI g a N c A)(o:Ok g e):MI e a N c A:=by
 obtain⟨n,f,p,j,q⟩:=r;exact⟨n,f,p.ok o,j,λi l k=>let⟨b,m,d,h,s⟩:=q i l k;⟨b,m,d,h,s.ok o⟩⟩
theorem MI.KM{h g:au}{N c:Nat}{A:List (List Nat)}(r:MI h a N c A)(o:Ok h g){i:Nat}{l:List Nat}(e:A[i]?=aa l):
  ∃(p:aJ)(b:Option aJ)(m d:Nat),aW aq 126 (ae a N c) (aE (i:Int))=aa (bw p)/\aS aq 27 g (bw p)=aa (ae b m d)/\Rd h 3 (ae b m d) (l.map iv):=by
 obtain⟨w,u,n,v,q⟩:=r;obtain⟨b,m,d,j,t⟩:=q i l e;have x:=(List.getElem?_eq_some_iff.1 e).1;obtain⟨p,s,f⟩:=(n.ok o).at_ yf CQ me wv (k:= ak) (i:=(i:Int)) (by omega) (by omega);rw[bc,gD,j]at f;exact⟨p,b,m,d,s,f,t⟩
def KE(h:au)(f c:Nat)(A:List (List Nat)):Prop:=cQ f YB=af/\∀(g:au),Ok h g->∀(s:Nat)(l:List Nat),A[s]?=aa l->aX f [aE (s:Int),pA c] g (λv a=>∃(b:Option aJ)(m d:Nat),v=ae b m d/\Rd h 3 (ae b m d) (l.map iv)/\a=g)
theorem Yw{c:Nat}{A:List (List Nat)}(w:Wf h)(e:C0 h n 126 (ae a N c))(r:MI h a N c A):KE h 133 n A:=by
 refine⟨by decide +kernel,λg o s l i=>?_⟩;obtain⟨p,b,m,d,f,k,j⟩:=r.KM o i;exact Yv s n g _ ⟨_,_,_,(e.ok o).ld yf D5,_,f,_,_,_,k,b,m,d,rfl,j,rfl⟩
theorem Yy{c:Nat}{A:List (List Nat)}(w:Wf h)(e:C0 h n 126 (ae a N c))(r:MI h a N c A):KE h 134 n A:=by
 refine⟨by decide +kernel,λg o s l i=>?_⟩;obtain⟨p,b,m,d,f,k,j⟩:=r.KM o i;exact Yx s n g _ ⟨_,_,_,(e.ok o).ld yf D5,_,f,_,_,_,k,b,m,d,rfl,j,rfl⟩
def Ij(A:List (List Nat))(y x:Nat):Prop:=x∈A.getD y []
end
end
section
theorem atG{h:au}{a:Option aJ}{n c:Nat}{l:List Nat}(r:Rd h 3 (ae a n c) (l.map iv)){i:Nat}{x:Nat}(d:l[i]?=aa x):∃p:aJ,aW aq 27 (ae a n c) (aE (i:Int))=aa (bw p)/\aS aq 3 h (bw p)=aa (aE (x:Int)):=by
 have f:=(List.getElem?_eq_some_iff.1 d).1;obtain⟨p,e,b⟩:=r.at_ me IS zs zb (k:= ak) (i:=(i:Int)) (by omega) (by rw[aH];omega);rw[bc,gD,getElem?_map,d]at b;exact⟨p,e,b⟩
theorem Y7{h:au}{a:Option aJ}{n c:Nat}{l:List Nat}(r:Rd h 3 (ae a n c) (l.map iv)):n=l.length:=by have:=r.len;rwa[aH]at this
theorem V0{T:List Nat}(h:0<T.length):∃s,T[T.length-1]?=aa s/\(∀x∈T.take (T.length-1),x∈T)/\(∀x∈T,x∈T.take (T.length-1)\/x=s)/\s∈T:=by
 obtain⟨s,c⟩:∃s,T[T.length-1]?=aa s:=⟨_,gE (by omega)⟩
 have e:T=T.take (T.length-1)++[s]:=by
  have a:(T.take (T.length-1+1))=T:=bC (by omega);rw[fM,c]at a;exact a.symm
 refine⟨s,c,λx b=>dy b,λx b=>?_,aM c⟩;rw[e]at b;rcases bG.1 b with a|a
 ·exact .inl a
 ·rw[ba]at a;exact .inr a
structure Sq(h:au)(E:Nat->Nat->Prop)(F:List Nat)(k7 k8 kt N:Nat)(ex:Nat->Prop)(L:List Bool)(T:List Nat)(g:au):Prop where
 st:Sst h k7 k8 kt N L T g
 inv:qg E (· ∈F) N L T ex
 bd:2*gh L+T.length<=2*N
section
variable {h:au} {E:Nat->Nat->Prop} {F:List Nat} {k7 k8 kt N:Nat} {ex:Nat->Prop} {L:List Bool} {T:List Nat} {g:au}
theorem Pa(w:Wf h)(o:N<=1000)(q:Sq h E F k7 k8 kt N ex L T g){s:Nat}(b:s<N)(l:oq E (· ∈F) s):
  aX 173 [aE (s:Int),pA k7,pA k8] g (λv e=>v=av ⟨[]⟩/\∃a i,Sq h E F k7 k8 kt N ex a i e/\(∀x,L.getD x aj=af->a.getD x aj=af)/\a.getD s aj=af/\2*gh a+i.length<=2*gh L+T.length):=by
 have m:=q.bd;refine(aat w q.st b (by omega)).mono ?_;rintro _ e ⟨rfl,⟨c,d⟩|⟨c,d⟩⟩
 ·exact⟨rfl,L,T,⟨d,q.inv,q.bd⟩,λ_ h=>h,c,aT _⟩
 ·obtain⟨j,n⟩:=q.inv.see b l c;have f:s<L.length:=by rw[q.inv.len];exact b
  refine⟨rfl,_,_,⟨d,j,?_⟩,λx k=>?_,?_,?_⟩
  ·rw[bF,de];omega
  ·rw[qU f];split
   ·rfl
   ·exact k
  ·rw[qU f,iP rfl]
  ·rw[bF,de];omega
theorem Sst.put(w:Wf h)(a:Sst h k7 k8 kt N L T g){o:List Nat}{b:Option aJ}{m d:Nat}(v:od h g 3 (ae b m d) (o.map iv))(r:∀i,C0 g k8 27 i->fJ (ae b m d)=fJ i):
  ∃u:ek,bh aq 27 (pA k8) (ae b m d) g=aa (undef,u)/\Sst h k7 k8 kt N L o (u.app g)/\Ok h (u.app g):=by
 obtain⟨i,n,y,x,s,p⟩:=a.b8;have e:=r i n;refine⟨_,n.st CQ (fR _ _ _) rfl,?_⟩;have q:=a.row.row.ok;have k:Ok h ((ek.set k8 (.cells [ae b m d] 27 0 af)).app g):=q.set _ a.n8 (q.wf _ _ n) w;have f:∀j,j≠k8->((ek.set k8 (.cells [ae b m d] 27 0 af)).app g).get j=g.get j:=λj l=>by
  show(g.set k8 _).get j=_;rw[au.cE,iN l]
 refine⟨⟨?_,⟨ae b m d,?_,v.sY λj B l t=>by rw[f j (λc=>p (by rw[<-e,l,c]))];exact t,by rw[e];exact x,by rw[e];exact s,by rw[e];exact p⟩,⟨a.row.len,?_,a.row.row.new,k⟩,a.n7,a.n8,a.d1,a.d2,a.d3⟩,k⟩
 ·show _=_;rw[f _ a.d3];exact a.b7
 ·show(g.set k8 _).get k8=_;rw[au.cE,iP rfl]
 ·rw[f _ (λc=>a.d2 c.symm)];exact a.row.row.row
end
section
variable {h:au} {N:Nat} {A:List (List Nat)} {f kn:Nat} {a:Option aJ} {n c:Nat} {F:List Nat} {k7 k8 kt:Nat}
def sI1(h:au)(A:List (List Nat))(F:List Nat)(k7 k8 kt N n:Nat)(mz i:Nat)(g:au):Prop:=i<=n/\mz=n-i/\∃L T,Sq h (Ij A) F k7 k8 kt N (λ_=>False) L T g/\∀x∈F.take i,L.getD x aj=af
def sI2(h:au)(A:List (List Nat))(F:List Nat)(k7 k8 kt N:Nat)(a b:Nat)(g:au):Prop:=∃L T,Sq h (Ij A) F k7 k8 kt N (λ_=>False) L T g/\(∀x∈F,L.getD x aj=af)/\2*gh L+T.length<=a
def sI3(h:au)(A:List (List Nat))(F:List Nat)(k7 k8 kt N:Nat)(l:List Nat)(s m a:Nat)(b j:Nat)(g:au):Prop:=j<=m/\b=m-j/\∃L T,Sq h (Ij A) F k7 k8 kt N (λy=>y=s) L T g/\(∀x∈F,L.getD x aj=af)/\2*gh L+T.length+1<=a/\(∀z∈l.take j,L.getD z aj=af)/\oq (Ij A) (· ∈F) s
def sQ(h:au)(A:List (List Nat))(F:List Nat)(N:Nat):VH:=λv a=>∃kt L,v=sA kt N N/\BR h kt N L a/\∀x,L.getD x aj=af↔oq (Ij A) (· ∈F) x
set_option linter.defProp false in
def acH(w:Wf h)(R:N<=1000)(D:∀l∈A,∀x∈l,x<N){s:Nat}{l:List Nat}(t:A[s]?=aa l)(X:l.length<=100000){b:Option aJ}{m d:Nat}(I:Rd h 3 (ae b m d) (l.map iv))(e:Nat)(Y:0<e):=
 CM (N:Int) a n c f kn k7 k8 b m d (sI2 h A F k7 k8 kt N) e (sI3 h A F k7 k8 kt N l s m e) (sQ h A F N) (by
  intro G j;intros;rename_i g E;obtain⟨f1,f2,L,T,q,J,W,C,K⟩:=E;have Z:=Y7 I;refine az (λk=>?_) (λk=>?_)
  ·have k:=dT k;obtain⟨x,v⟩:∃x,l[j]?=aa x:=⟨_,gE (by omega)⟩
   obtain⟨p,O,U⟩:=atG (I.ok q.st.row.row.ok) v;have r:=aM v;have u:Ij A s x:=by
    show x∈A.getD s [];rw[gD,t];exact r
   refine⟨_,O,_,U,(Pa w R q (D l (aM t) x r) (.step K u)).mono ?_⟩;rintro _ g2 ⟨rfl,M,P,Q,H,S,h3⟩;refine⟨rfl,?_⟩;rw[cH (i:=j) (n:=m) (by omega) (by omega)];refine fC (G-1) (by omega) ⟨by omega,by omega,M,P,Q,λy V=>H y (J y V),by omega,λz o=>?_,K⟩;rw[fM,v]at o;rcases bG.1 o with B|B
   ·exact H z (C z B)
   ·have:z=x:=by simpa using B
    rw[this];exact S
  ·have k:=dF k;rw[bC (by omega)]at C;refine fC (e-1) (a:=0) (by omega) ⟨L,T,⟨q.st,q.inv.done λz u=>C z ?_,q.bd⟩,J,by omega⟩;have:z∈A.getD s []:=u;rw[gD,t]at this;exact this)
set_option linter.defProp false in
def acI(w:Wf h)(W:N<=1000)(hA:A.length=N)(t:∀l∈A,∀x∈l,x<N)(M:∀l∈A,l.length<=100000)(I:KE h f kn A):=
 CL (N:Int) a n c f kn k7 k8 (sI2 h A F k7 k8 kt N) (sQ h A F N) (by
  intro B dm;intros;rename_i g y;obtain⟨L,T,q,K,x0⟩:=y;obtain⟨tv,e,o,t3,t4,t5⟩:=q.st.b8;obtain⟨V,tc,k⟩:=o.tB;rw[aH]at k;subst k;refine⟨_,_,_,e.ld me wv,az (λi=>?_) (λi=>?_)⟩
  ·have i:=dT i;obtain⟨s,R,p1,Q,J⟩:=V0 (T:=T) (by omega);have hb:=q.bd;have E:ai ak ((T.length:Int)-1)=((T.length-1:Nat):Int):=by rw[cd (by omega) (by omega)];omega
   obtain⟨p,P,e2⟩:=atG o.rd R;refine⟨_,_,_,e.ld me wv,_,_,_,e.ld me wv,p,by rw[E];exact P,_,e2,_,_,_,e.ld me wv,_,_,_,e.ld me wv,?_⟩;dsimp only;rw[E];obtain⟨b,m,d,x1,C,x3⟩:=o.upto me IS (z:=T.length-1) (by rw[aH];omega) (by rw[aH];omega);rw[<-List.map_take]at C;obtain⟨u,Y,O,S⟩:=q.st.put w C (λD v=>by
    have:ae V T.length tc=D:=by
     have:=e.symm.trans v;injection this with this;injection this with this;injection this with this
    rw[<-this];exact x3)
   refine⟨b,m,d,x1,u,Y,agR I.1 ?_⟩;have x4:=(q.inv.tin s J).1;obtain⟨l,r⟩:∃l,A[s]?=aa l:=⟨_,gE (by omega)⟩
   refine(I.2 _ S s l r).mono ?_;rintro _ g2 ⟨Z,G,U,rfl,X,rfl⟩;refine⟨Z,G,U,rfl,?_⟩;have x5:(T.take (T.length-1)).length=T.length-1:=by rw[bq];omega
   exact acH w W t r (M l (aM r)) X B (by omega) G (j:=0) ⟨by omega,by omega,L,T.take (T.length-1),⟨O,q.inv.take p1 Q,by omega⟩,K,by omega,λz H=>(by rw[dQ]at H;cases H),q.inv.snd s (q.inv.tin s J).2⟩
  ·have i:=dF i;obtain rfl:T=[]:=bE (by omega);exact⟨_,_,_,q.st.b7.ld zq Ik,kt,L,rfl,q.st.row,q.inv.final K⟩)
theorem Ke(w:Wf h)(D:N<=1000)(X:A.length=N)(y:∀l∈A,∀x∈l,x<N)(H:∀l∈A,l.length<=100000)(U:KE h f kn A)(G:Rd h 3 (ae a n c) (F.map iv))(W:∀x∈F,x<N)(x0:F.length<=100000):
  aX 132 [aE (N:Int),ae a n c,aN (.func f) ⟨[]⟩ ⟨[pA kn]⟩] h (sQ h A F N):=by
 have m:=BR.new w N;have j:cP aq 68=aa (.cells [nA] 68 0 af,m4):=by kernel_rfl
 have k:cP aq 27=aa (.cells [nA] 27 0 af,m4):=by kernel_rfl
 refine VN (N:Int) a n c f kn h _ ⟨_,_,_,Uy N (by omega),_,j,?_⟩;have t:=m.row.ok;have x1:=m.row.lt;have n0:=m.row.new;generalize h.push (.cells ((aQ N aj).map ah) 4 1 af)=d at*;have J:=(Ok.refl t.wf).push (.cells [nA] 68 0 af);have C:C0 (d.push (.cells [nA] 68 0 af)) d.aD 68 nA:=cT d _;refine⟨_,C.st agS (fR _ _ _) rfl,_,k,?_⟩;obtain⟨o,B⟩:=qq (cs:=[sA h.aD N N]) t.wf J C (aT _);generalize (ek.set d.aD (.cells [sA h.aD N N] 68 0 af)).app (d.push (.cells [nA] 68 0 af))=b at*;have E:=(Ok.refl o.wf).push (.cells [nA] 27 0 af);have Y:C0 (b.push (.cells [nA] 27 0 af)) b.aD 27 nA:=cT b _;have l1:=o.nx;have l2:=o.wf _ _ B;have l0:=t.nx;have S:Sst h d.aD b.aD h.aD N (aQ N aj) [] (b.push (.cells [nA] 27 0 af)):=
  ⟨C0.ok (show C0 b d.aD 68 _ from B) E,⟨_,Y,od.nil _ _ _,by simp[fJ],by simp[fJ],by simp[fJ]⟩,(m.trans o).trans E,by omega,by omega,by omega,by omega,by omega⟩
 generalize b.push (.cells [nA] 27 0 af)=g2 at*;have Z:gh (aQ N aj)=N:=by simp[gh]
 refine CK (N:Int) a n c f kn d.aD b.aD (sI1 h A F d.aD b.aD h.aD N n) (sQ h A F N) (λmz i=>?_) n (i:=0) ⟨by omega,rfl,_,_,⟨S,PH N _,by rw[Z];simp⟩,λx e=>(by rw[dQ]at e;cases e)⟩;intros;rename_i gg R;obtain⟨f1,f2,L,T,q,v⟩:=R;have hn:=Y7 G;refine az (λg=>?_) (λg=>?_)
 ·have g:=dT g;obtain⟨x,e⟩:∃x,F[i]?=aa x:=⟨_,gE (by omega)⟩
  obtain⟨p,K,V⟩:=atG (G.ok q.st.row.row.ok) e;have s:=aM e;refine⟨_,K,_,V,(Pa w D q (W x s) (.base s)).mono ?_⟩;rintro _ g3 ⟨rfl,I,M,P,O,Q,h3⟩;refine⟨rfl,?_⟩;rw[cH (i:=i) (n:=n) (by omega) (by omega)];refine fC (mz-1) (by omega) ⟨by omega,by omega,I,M,P,λz r=>?_⟩;rw[fM,e]at r;rcases bG.1 r with u|u
  ·exact O z (v z u)
  ·have:z=x:=by simpa using u
   rw[this];exact Q
 ·have g:=dF g;rw[bC (by omega)]at v;exact acI w D X y H U (2*gh L+T.length) (show sI2 _ _ _ _ _ _ _ _ 0 _ from⟨L,T,q,v,aT _⟩)
end
end
variable{j:Nat}
section
theorem dV{l:List A}{x y:A}(h:(l.set i x)[j]?=aa y):(j=i/\y=x)\/(j≠i/\l[j]?=aa y):=by
 rw[getElem?_set]at h;split at h
 ·next e=>
  split at h
  ·exact .inl ⟨e.symm,(aG h).symm⟩
  ·cases h
 ·next e=>exact .inr ⟨λc=>e c.symm,h⟩
structure Pu(hb g:au)(X:Nat->Prop)(vs:List ag)(F:List (List Nat)):Prop where
 len:vs.length=F.length
 own:∀(i:Nat)(v:ag)(l:List Nat),vs[i]?=aa v->F[i]?=aa l->od hb g 3 v (l.map iv)
 Wo:∀(i j:Nat)(v v':ag),i≠j->vs[i]?=aa v->vs[j]?=aa v'->∀k,fJ v=aa k->fJ v'≠aa k
 out:∀(i:Nat)(v:ag),vs[i]?=aa v->∀k,fJ v=aa k->¬X k
section
variable {hb g:au} {X:Nat->Prop} {vs:List ag} {F:List (List Nat)}
theorem Pu.sY(f:Pu hb g X vs F){a:au}(h:∀(k:Nat) (B:eA),¬X k->g.get k=aa B->a.get k=aa B):Pu hb a X vs F:=
 ⟨f.len,λi v l b d=>(f.own i v l b d).sY λk B e c=>h k B (f.out i v b k e) c,f.Wo,f.out⟩
theorem Pu.ok(f:Pu hb g X vs F){a:au}(o:Ok g a):Pu hb a X vs F:=f.sY λk B _ b=>o.ext k B b
theorem Pu.at_(f:Pu hb g X vs F){i:Nat}{l:List Nat}(d:F[i]?=aa l):∃(a:Option aJ)(c:Nat),vs[i]?=aa (ae a l.length c)/\od hb g 3 (ae a l.length c) (l.map iv):=by
 have e:=(List.getElem?_eq_some_iff.1 d).1;obtain⟨v,b⟩:∃v,vs[i]?=aa v:=⟨_,gE (by rw[f.len];exact e)⟩
 have o:=f.own i v l b d;obtain⟨a,c,rfl⟩:=o.tB;rw[aH]at*;exact⟨a,c,b,o⟩
theorem Pu.snoc(w:Wf hb)(N:Ok hb g)(f:Pu hb g X vs F)(S:∀k,X k->k<g.aD){a:Nat}{v:ag}{l:List Nat}(t:vs[a]?=aa v)(R:F[a]?=aa l){x:Nat}{O:Nat}(H:g.get O=aa (.cells [aE (x:Int)] 3 1 af))(L:l.length<=100000):
  ∃(b:Option aJ)(n c:Nat)(u:ek),cG aq 27 27 v (sA O 1 1) g=aa (ae b n c,u)/\n=l.length+1/\Pu hb (u.app g) X (vs.set a (ae b n c)) (F.set a (l++[x]))/\Ok hb (u.app g)/\
   (∀j B,g.get j=aa B->fJ v≠aa j->(u.app g).get j=aa B)/\g.aD<=(u.app g).aD:=by
 have Q:=f.own a v l t R;obtain⟨b,n,c,u,W,J,T,U,M,D,V⟩:=ZM w N Q H (by rw[aH];exact L);rw[aH]at J;refine⟨b,n,c,u,W,J,⟨by rw[dt,dt];exact f.len,λi v' l' y A=>?_,λi j E p C h d k r m=>?_,λi v' y k z s=>?_⟩,U,M,V⟩
 ·rcases dV y with⟨e,rfl⟩|⟨e,h⟩
  ·rcases dV A with⟨_,rfl⟩|⟨o,_⟩
   ·rw[bK];exact T
   ·exact absurd e o
  ·rcases dV A with⟨o,_⟩|⟨_,d⟩
   ·exact absurd o e
   ·exact(f.own i v' l' h d).sY λk B z P=>M k B P λc=>f.Wo i a v' v e h t k z c
 ·have I:∀(j:Nat)(p:ag),vs[j]?=aa p->fJ p=aa k->k<g.aD:=λj p d m=>by
   obtain⟨G,K⟩:∃G,F[j]?=aa G:=⟨_,gE (by rw[<-f.len];exact(List.getElem?_eq_some_iff.1 d).1)⟩
   exact((f.own j p G d K).lt N.wf m).1
  rcases dV h with⟨e,rfl⟩|⟨e,h⟩
  ·rcases dV d with⟨o,_⟩|⟨o,d⟩
   ·exact C (by rw[e,o])
   ·rcases D k r with q|q
    ·have:=I j p d m;omega
    ·exact f.Wo a j v p (λc=>o c.symm) t d k q m
  ·rcases dV d with⟨o,rfl⟩|⟨o,d⟩
   ·rcases D k m with q|q
    ·have:=I i E h r;omega
    ·exact f.Wo a i v E (λc=>e c.symm) t h k q r
   ·exact f.Wo i j E p C h d k r m
 ·rcases dV y with⟨e,rfl⟩|⟨e,h⟩
  ·rcases D k z with q|q
   ·have:=S k s;omega
   ·exact f.out a v t k q s
  ·exact f.out i v' h k z s
end
structure Us(hb:au)(R:Nat)(kt:Nat->Nat)(N:Nat)(X:Nat->Prop)(vs:List ag)(F:List (List Nat))(g:au):Prop where
 cc:∀r,r<R->g.get (kt r)=aa (.cells ((vs.drop (r*N)).take N) 27 1 af)
 Pw:Pu hb g X vs F
 ok:Ok hb g
 len:F.length=R*N+1
 xt:∀r,r<R->X (kt r)/\hb.aD<=kt r
 inj:∀r r',r<R->r'<R->r≠r'->kt r≠kt r'
 xlt:∀k,X k->k<g.aD
section
variable {hb g:au} {R:Nat} {kt:Nat->Nat} {N:Nat} {X:Nat->Prop} {vs:List ag} {F:List (List Nat)}
theorem Us.ext(s:Us hb R kt N X vs F g){a:au}(o:Ok g a):Us hb R kt N X vs F a:=
 ⟨λr c=>o.ext _ _ (s.cc r c),s.Pw.ok o,s.ok.trans o,s.len,s.xt,s.inj,λk b=>cD (s.xlt k b) o.nx⟩
theorem Zy(a:n<R)(b:i<N):n*N+i<R*N+1:=by
 have:(n+1)*N<=R*N:=bM _ a;rw[dh,ew]at this;omega
theorem Us.ld(s:Us hb R kt N X vs F g){r i:Nat}(o:r<R)(m:i<N):∃(l:List Nat)(a:Option aJ)(c:Nat),F[r*N+i]?=aa l/\vs[r*N+i]?=aa (ae a l.length c)/\aW aq 126 (sA (kt r) N N) (aE (i:Int))=aa (df (kt r) i)/\∀b,Us hb R kt N X vs F b->aS aq 27 b (df (kt r) i)=aa (ae a l.length c)/\Rd b 3 (ae a l.length c) (l.map iv):=by
 have f:=Zy o m;obtain⟨l,e⟩:∃l,F[r*N+i]?=aa l:=⟨_,gE (by rw[s.len];exact f)⟩
 obtain⟨a,c,d,_⟩:=s.Pw.at_ e;refine⟨l,a,c,e,d,?_,λb h=>⟨?_,?_⟩⟩
 ·have:=GI (P:=aq) yf CQ (k:=kt r) (off:=0) (n:=N) (c:=N) (ik:= ak) (i:=(i:Int)) (by omega) (by omega);rw[this,bc,bJ,dB]
 ·have j:((vs.drop (r*N)).take N)[i]?=aa (ae a l.length c):=by rw[getElem?_take,iP m,getElem?_drop];exact d
  rw[ej me wv (h.cc r o) (List.getElem?_eq_some_iff.1 j).1,gD,j];rfl
 ·exact(h.Pw.own _ _ _ d e).rd
theorem Ir(vs:List A)(o N i:Nat)(x:A)(a:i<N):((vs.set (o+i) x).drop o).take N=((vs.drop o).take N).set i x:=by
 rw[List.drop_set,iN (by omega),show o+i-o=i by omega,List.take_set]
theorem BF(vs:List A)(o N j:Nat)(x:A)(h:j<o\/o+N<=j):((vs.set j x).drop o).take N=(vs.drop o).take N:=by
 apply dH;intro i;rw[getElem?_take,getElem?_take,getElem?_drop,getElem?_drop];split
 ·rw[getElem?_set,iN (by omega)]
 ·rfl
theorem Us.put(w:Wf hb)(s:Us hb R kt N X vs F g){r i:Nat}(f:r<R)(z:i<N){h:List ag}{q:List (List Nat)}{b:Option aJ}{n c:Nat}{l':List Nat}(x:h=vs.set (r*N+i) (ae b n c))(E:q=F.set (r*N+i) l'){a:au}(I:Pu hb a X h q)(o:Ok hb a)(A:∀j B,g.get j=aa B->X j->a.get j=aa B)(D:g.aD<=a.aD):
  ∃u:ek,bh aq 27 (df (kt r) i) (ae b n c) a=aa (undef,u)/\Us hb R kt N X h q (u.app a)/\(∀j B,a.get j=aa B->j≠kt r->(u.app a).get j=aa B):=by
 have C:=A _ _ (s.cc r f) (s.xt r f).1;have K:=Zy f z;have H:i<((vs.drop (r*N)).take N).length:=by
  have p:(R*N+1)=vs.length:=by rw[s.Pw.len,s.len]
  have J:(r+1)*N<=R*N:=bM _ f;rw[dh,ew]at J;rw[bq,da];omega
 refine⟨_,kG CQ C H (fR _ _ _) rfl,?_,λj B v y=>?_⟩
 ·have m:∀j,j≠kt r->((ek.set (kt r) (.cells (((vs.drop (r*N)).take N).set i (ae b n c)) 27 1 af)).app a).get j=a.get j:=λj v=>by
   show(a.set (kt r) _).get j=_;rw[au.cE,iN v]
  refine⟨λd l=>?_,I.sY λk B t G=>?_,o.set _ (s.xt r f).2 (o.wf _ _ C) w,by rw[E,dt];exact s.len,s.xt,s.inj,λk t=>cD (s.xlt k t) D⟩
  ·by_cases e:d=r
   ·subst e;show(a.set (kt d) _).get (kt d)=_;rw[au.cE,iP rfl,x,Ir _ _ _ _ _ z]
   ·rw[m _ (s.inj d r l f e),A _ _ (s.cc d l) (s.xt d l).1,x,BF];rcases db r d with p|p
    ·have:=bM N (show r+1<=d from p);rw[dh,ew]at this;exact .inl (by omega)
    ·have:=bM N (show d+1<=r by omega);rw[dh,ew]at this;exact .inr (by omega)
  ·rw[m k (λc=>t (c▸(s.xt r f).1))];exact G
 ·show(a.set (kt r) _).get j=_;rw[au.cE,iN y];exact v
theorem Us.adj(s:Us hb R kt N X vs F g){r:Nat}(e:r<R):MI g (aa ⟨kt r,0,none⟩) N N ((F.drop (r*N)).take N):=by
 have h:(r+1)*N<=R*N:=bM _ e;rw[dh,ew]at h;have n:=s.len;have m:=s.Pw.len;have d:((vs.drop (r*N)).take N).length=N:=by rw[bq,da];omega
 refine⟨by rw[bq,da];omega,(vs.drop (r*N)).take N,.inr ⟨kt r,0,_,N,af,by rw[d],s.cc r e,by rw[bO,fi]⟩,d,λi l b=>?_⟩;rw[getElem?_take]at b;split at b
 ·next k=>
  rw[getElem?_drop]at b;obtain⟨a,c,f,j⟩:=s.Pw.at_ b;exact⟨a,_,c,by rw[getElem?_take,iP k,getElem?_drop];exact f,j.rd⟩
 ·cases b
end
theorem Fl{g:au}(w:Wf g){n j:Nat}(a:j<n)(B:eA):Ok g (cr (Go.Ab.room g n) g.aD [(j,B)])/\(cr (Go.Ab.room g n) g.aD [(j,B)]).get (g.aD+j)=aa B:=by
 refine⟨((Ok.refl w).room n).set B (du _ _) (Nat.add_lt_add_left a _) w,?_⟩;show((Go.Ab.room g n).set (g.aD+j) B).get (g.aD+j)=_;rw[au.cE,iP rfl]
end
noncomputable def gz:FD:=gU Tryz.f96 [((pq 303),[1,2,3,4,5,6,22,23,24]),((pq 160559),[1,2,3,4,5,6,7,8,22,23,24,37,38,39]),((pq 1215),[11,77,78,79])]
abbrev lF(k f g:Nat)(a:OA)(n c:Nat)(i:Nat)(e:OA)(b d:Nat):LV:=[(pA k),nA,(iA n),(pA f),(pA g),(ae e b d),(ae a n c),(iA n),(iA i)]
abbrev nC(k l o:Nat)(a:OA)(n c f:Nat)(e:OA)(g h:Nat)(b:OA)(m d i:Nat)(j:Nat):LV:=[(pA k),nA,(iA n),(pA l),(pA o),(ae e g h),(iA i),(pA f),(ae a n c),(iA n),(iA i),(ae b m d),(iA m),(iA j)]
abbrev qb(n a b:Nat)(i:Nat):LV:=[(sA a n n),(sA b n n),(iA n),(iA i)]
theorem Wc(j:LV)(h:au)(Q:VH)(q:xN (jY aq 24 (al ⟨j⟩)) h λu a=>qM 24 (pA (h.aD)) 3 22 a λv b w=>zR (dD aq 126 (iA b) (iA b)) λl r p=>zR (dD aq 126 (iA b) (iA b)) λd m o=>zN (cP aq 126) λc=>zN (cP aq 126) λi=>xU (bh aq 126 (pA (a.aD+4)) (sA (a.aD+1) r p) (cr (room a 8) a.aD [(5,i),(4,c),(1,l)])) (cr (room a 8) a.aD [(5,i),(4,c),(1,l)]) λt f=>xU (bh aq 126 (pA (a.aD+5)) (sA (a.aD+3) m o) (cr f a.aD [(3,d)])) (cr f a.aD [(3,d)]) λs e=>qM 24 (pA (h.aD)) 3 22 e λn g k=>cw gz (pq 303) [(pA (h.aD)),nA,(iA b),(pA (a.aD+4)),(pA (a.aD+5)),nA,(ae n g k),(iA g),(aE 0)] e (eu gz (pq 175) Q)):aX 96 [(al ⟨j⟩)] h Q:=hH gz Tryz.func96 (bD q)
theorem CS(X:LV)(k f g:Nat)(a:OA)(n c:Nat)(b:Nat->Nat->OA->Nat->Nat->au->Prop)(Q:VH)(step:∀(mz:Nat) (i:Nat) (e:OA) (en ec:Nat) (F:Nat->ag) (h:au),b mz i e en ec h->cq (decide ((i:Int)<(n:Int))) (qX xA 22 (ae a n c) (iA i) 44 h λM=>xN (cP aq 44) h λU m=>xU (bh aq 44 (pA (h.aD)) (al ⟨M⟩) m) m λS d=>qF xS 44 (pA (h.aD)) 0 9 d λE=>cq (!((E:LB)==[])) (xR (bS aq 27 1 [(0,(iA i))]) d λV R K j=>xE (cG aq 27 27 (ae e en ec) (sA (d.aD) R K) j) j λs r D W l=>qM 44 (pA (h.aD)) 1 42 l λt u P=>cw gz (pq 160559) (nC k f g a n c (h.aD) s r D t u P i 0) l (fQ gz (pq 371) (pq 303) (RR gz (pq 303) (Ky (lF k f g a n c) b) mz (eu gz (pq 175) Q)))) (qM 44 (pA (h.aD)) 1 42 d λH A J=>cw gz (pq 160559) (nC k f g a n c (h.aD) e en ec H A J i 0) d (fQ gz (pq 371) (pq 303) (RR gz (pq 303) (Ky (lF k f g a n c) b) mz (eu gz (pq 175) Q))))) (kM 24 (pA k) 1 h λL=>xR (bS aq 27 1 [(0,(aE L))]) h λT G I N=>aX 132 [(iA n),(sA (h.aD) G I),(aN (.func 133) ⟨[]⟩ ⟨[(pA f)]⟩)] N λq w=>yL q λx C z=>aX 132 [(iA n),(ae e en ec),(aN (.func 134) ⟨[]⟩ ⟨[(pA g)]⟩)] w λy B=>yL y λO o v=>cw gz (pq 1215) [(ae x C z),(ae O o v),(iA o),(aE 0)] B (eu gz (pq 703) Q)))(mz:Nat){i:Nat}{e:OA}{en ec:Nat}{h:au}(p:b mz i e en ec h):cw gz (pq 303) (lF k f g a n c i e en ec) h (eu gz (pq 175) Q):=
 JX (lF k f g a n c) b (λmz i e en ec F h p=>bD (step mz i e en ec F h p)) mz p
theorem CT(mv:LV)(k o p:Nat)(a:OA)(n c:Nat)(D:Nat)(e:OA)(A B:Nat)(b:OA)(m d:Nat)(F:Nat->Nat->OA->Nat->Nat->au->Prop)(mz i:Nat)(r:Nat->Nat->au->Prop)(Q:VH)(step:∀(l:Nat) (j:Nat) (zz:Nat->ag) (h:au),r l j h->cq (decide ((j:Int)<(m:Int))) (qX xA 42 (ae b m d) (iA j) 46 h λy0=>xN (cP aq 46) h λy6 E=>xU (bh aq 46 (pA (h.aD)) (al ⟨y0⟩) E) E λy5 g=>xL (aS aq 126 (room g 12) (pA o)) λv s w=>xL (aS aq 126 (room g 12) (pA o)) λx8 x6 x7=>qX xL 126 (ae x8 x6 x7) (iA i) 27 (room g 12) λx1 x5 Y=>kM 46 (pA (h.aD)) 3 (room g 12) λx2=>zR (bS aq 27 1 [(0,(aE x2))]) λH x4 x3=>xE (cG aq 27 27 (ae x1 x5 Y) (sA (g.aD+8) x4 x3) (cr (room g 12) g.aD [(8,H)])) (cr (room g 12) g.aD [(8,H)]) λx0 X y1 y7 z=>xP (aW aq 126 (ae v s w) (iA i)) λZ=>xU (bh aq 27 (bw Z) (ae x0 X y1) z) z λy4 f=>(aS aq 126 z (pA o)=aa (ae v s w)/\oQ 4 (ae v s w) (ae v s w)=af)/\xL (aS aq 126 (room f 13) (pA p)) λu y t=>xP (aY aq 46 (pA (h.aD)) 3) λG=>xI ak (aS aq 3 (room f 13) (bw G)) λx=>xL (aS aq 126 (room f 13) (pA p)) λx9 W V=>kM 46 (pA (h.aD)) 3 (room f 13) λO=>qX xL 126 (ae x9 W V) (aE O) 27 (room f 13) λS N K=>zR (bS aq 27 1 [(0,(iA i))]) λC T J=>xE (cG aq 27 27 (ae S N K) (sA (f.aD+9) T J) (cr (room f 13) f.aD [(9,C)])) (cr (room f 13) f.aD [(9,C)]) λR M L y3 q=>xP (aW aq 126 (ae u y t) (aE x)) λI=>xU (bh aq 27 (bw I) (ae R M L) q) q λy2 U=>(aS aq 126 q (pA p)=aa (ae u y t)/\oQ 4 (ae u y t) (ae u y t)=af)/\(aS aq 3 q (bw G)=aa (aE x)/\oQ 4 (aE x) (aE x)=af)/\ct (jg (nC k o p a n c D e A B b m d i) r) l [(pA k),nA,(iA n),(pA o),(pA p),(ae e A B),(iA i),(pA D),(ae a n c),(iA n),(iA i),(ae b m d),(iA m),(aE (ai ak ((j:Int)+1)))] U) (ct (Ky (lF k o p a n c) F) mz [(pA k),nA,(iA n),(pA o),(pA p),(ae e A B),(ae a n c),(iA n),(aE (ai ak ((i:Int)+1)))] h))(l:Nat){j:Nat}{h:au}(P:r l j h):cw gz (pq 160559) (nC k o p a n c D e A B b m d i j) h (fQ gz (pq 371) (pq 303) (RR gz (pq 303) (Ky (lF k o p a n c) F) mz (eu gz (pq 175) Q))):=
 gm (nC k o p a n c D e A B b m d i) r (λl j zz h P=>bD (step l j zz h P)) l P
theorem CU(r:LV)(n c d:Nat)(b:Nat->Nat->au->Prop)(Q:VH)(step:∀(a:Nat) (i:Nat) (o:Nat->ag) (h:au),b a i h->cq (decide ((i:Int)<(n:Int))) (qX xB 68 (sA d n n) (iA i) 4 h λf=>qX xB 68 (sA c n n) (iA i) 4 h λe=>cq e (xP (aW aq 68 (sA c n n) (iA i)) λg=>xU (bh aq 4 (bw g) (ah f) h) h λp k=>ct (jg (qb n c d) b) a [(sA c n n),(sA d n n),(iA n),(aE (ai ak ((i:Int)+1)))] k) (xP (aW aq 68 (sA c n n) (iA i)) λm=>xU (bh aq 4 (bw m) (ah aj) h) h λq l=>ct (jg (qb n c d) b) a [(sA c n n),(sA d n n),(iA n),(aE (ai ak ((i:Int)+1)))] l)) (Q (sA c n n) h))(a:Nat){i:Nat}{h:au}(j:b a i h):cw gz (pq 1215) (qb n c d i) h (eu gz (pq 703) Q):=
 gm (qb n c d) b (λa i o h j=>bD (step a i o h j)) a j
variable{M:cm}
theorem Fg{t:aF}{b:au}(o:Ok g b){a v:ag}(h:aS P t g a=aa v):aS P t b a=aa v:=by
 unfold aS at h⊢;split at h
 ·next d k i l=>
  split at h
  ·next cs e f j c=>
   rw[o.ext _ _ c];exact h
  ·cases h
 ·cases h
theorem eY.KM{c:Nat}{l:List il}(r:eY h (ae a n c) l)(d:Ok h g){i:Nat}{s:il}(j:l[i]?=aa s):
  ∃(b o:Nat)(x:Option aJ)(y z:Nat),aW aq 22 (ae a n c) (aE (i:Int))=aa (df b o)/\aS aq 44 g (df b o)=aa (al ⟨[strOf s.f,ae x y z]⟩)/\
   aS aq 9 g (df b (o+0))=aa (strOf s.f)/\aS aq 42 g (df b (o+1))=aa (ae x y z)/\kS h (ae x y z) s.bB:=by
 obtain⟨b,o,x,y,z,f,p,k,m,e⟩:=r.at_ j;exact⟨b,o,x,y,z,f,Fg d p,Fg d k,Fg d m,e⟩
noncomputable def ae6:TypeInfo:=(aq.info? 27).getD default
theorem acY:aq.info? 27=aa ae6:=by kernel_rfl
theorem V1:ae6.size=1:=by kernel_rfl
theorem RA:ae6.bytes=24:=by kernel_rfl
def ID:ag:= nA
theorem afl:zeroOf aq 27=aa ID:=by kernel_rfl
theorem adB(n:Nat)(a:n<=100000):dD aq 126 (aE (n:Int)) (aE (n:Int))=aa (.cells (aQ n ID) 27 1 af,qe n n):=by
 unfold dD dK;dsimp only;rw[yf]
 try dsimp only
 change (match aq.info? 27,zeroOf aq 27 with
  |some i,aa z=>(if z.cells.size=i.size/\0<i.size/\(0:Int)<=(n:Int)/\(n:Int)<=(n:Int)/\(n:Int)*i.bytes<=140737488355328/\(n:Int)<=1099511627776 then aa (eA.cells (fb z.cells.toList (n:Int).toNat) 27 i.size af,λk=>ae (aa ⟨k,0,none⟩) (n:Int).toNat (n:Int).toNat)else none)
  |_,_=>none)=_
 rw[acY,afl];dsimp only;rw[V1,RA,iP ⟨rfl,by omega,by omega,gr _,by omega,by omega⟩];have e:((n:Int)).toNat=n:=by omega
 rw[e,show(ID).cells.toList=[ID]from rfl,tU];rfl
def Ex(s:il):List Nat:=s.bB.map λq=>q.t.toNat
def oF(M:cm)(y x:Nat):Prop:=∃s,M.aI[y]?=aa s/\x∈Ex s
def T9(M:cm)(x:Nat):Prop:=∃s,M.aI[x]?=aa s/\s.f≠[]
def lX(M:cm)(x:Nat):Prop:=oq (oF M) (λy=>y=M.start.toNat) x/\oq (λy x=>oF M x y) (T9 M) x
def PrM(M:cm)(i j y x:Nat):Prop:=(y<i/\oF M y x)\/(y=i/\∃s,M.aI[i]?=aa s/\x∈(Ex s).take j)
theorem uK{x:Nat}:PrM M i 0 n x↔n<i/\oF M n x:=by
 unfold PrM;constructor
 ·rintro(h|⟨_,s,_,h⟩)
  ·exact h
  ·rw[dQ]at h;cases h
 ·exact .inl
theorem Ou{x:Nat}{s:il}(f:M.aI[i]?=aa s)(g:s.bB.length<=j):PrM M i j n x↔n<i+1/\oF M n x:=by
 unfold PrM;constructor
 ·rintro(⟨c,a⟩|⟨rfl,b,c,a⟩)
  ·exact⟨by omega,a⟩
  ·exact⟨by omega,b,c,dy a⟩
 ·rintro⟨c,a⟩;rcases db n i with e|e
  ·exact .inl ⟨e,a⟩
  ·obtain rfl:n=i:=by omega
   obtain⟨b,d,h⟩:=a;refine .inr ⟨rfl,b,d,?_⟩;rw[f]at d;obtain rfl:=aG d;rw[bC (by unfold Ex;rw[aH];exact g)];exact h
theorem Ov{x:Nat}{s:il}{q:eC}(d:M.aI[i]?=aa s)(k:s.bB[j]?=aa q):PrM M i (j+1) n x↔PrM M i j n x\/(n=i/\x=q.t.toNat):=by
 have f:(Ex s)[j]?=aa q.t.toNat:=by unfold Ex;rw[getElem?_map,k];rfl
 have e:(Ex s).take (j+1)=(Ex s).take j++[q.t.toNat]:=by rw[fM,f];rfl
 unfold PrM;constructor
 ·rintro(h|⟨c,g,b,a⟩)
  ·exact .inl (.inl h)
  ·rw[d]at b;obtain rfl:=aG b;rw[e,bG,ba]at a;rcases a with a|a
   ·exact .inl (.inr ⟨c,s,d,a⟩)
   ·exact .inr ⟨c,a⟩
 ·rintro((h|⟨c,g,b,a⟩)|⟨c,b⟩)
  ·exact .inl h
  ·rw[d]at b;obtain rfl:=aG b;exact .inr ⟨c,s,d,by rw[e];exact bG.2 (.inl a)⟩
  ·exact .inr ⟨c,s,d,by rw[e,b];exact bG.2 (.inr (ba.2 rfl))⟩
structure Dn(M:cm)(n i j i' cN:Nat)(F:List (List Nat)):Prop where
 fw:∀y l,y<n->F[0*n+y]?=aa l->∀x,x∈l↔PrM M i j y x
 bk:∀t l,t<n->F[1*n+t]?=aa l->∀x,x∈l↔PrM M i j x t
 en:∀l,F[2*n]?=aa l->∀x,x∈l↔x<i'/\T9 M x
 ln:∀l∈F,l.length<=cN
theorem QF{F:List (List Nat)}{l':List Nat}{c:Nat}(h:∀l∈F,l.length<=c)(d:l'.length<=c+1):∀l∈F.set n l',l.length<=c+1:=λl b=>by
 rcases jW b with a|a
 ·exact Nat.le_succ_of_le (h l a)
 ·rw[a];exact d
theorem Dn.arc{F:List (List Nat)}(d:Dn M n i j m k F)(A:i<n){s:il}{q:eC}(p:M.aI[i]?=aa s)(u:s.bB[j]?=aa q)(C:q.t.toNat<n){b f:List Nat}(r:F[0*n+i]?=aa b)(v:F[1*n+q.t.toNat]?=aa f):
  Dn M n i (j+1) m (k+1) ((F.set (0*n+i) (b++[q.t.toNat])).set (1*n+q.t.toNat) (f++[i])):=by
 have B:=d.ln b (aM r);have D:=d.ln f (aM v);refine⟨λy l w a x=>?_,λt l g a x=>?_,λl a x=>?_,λl a=>?_⟩
 ·rw[Ov p u];rcases dV a with⟨e,_⟩|⟨_,a⟩
  ·omega
  ·rcases dV a with⟨e,rfl⟩|⟨e,a⟩
   ·obtain rfl:y=i:=by omega
    rw[bG,ba,d.fw y b w r x];exact⟨λc=>c.imp id λc=>⟨rfl,c⟩,λc=>c.imp id λc=>c.2⟩
   ·rw[d.fw y l w a x];exact⟨.inl,λc=>c.elim id λc=>absurd (by rw[c.1]) e⟩
 ·rw[Ov p u];rcases dV a with⟨e,rfl⟩|⟨e,a⟩
  ·obtain rfl:t=q.t.toNat:=by omega
   rw[bG,ba,d.bk _ f g v x];exact⟨λc=>c.imp id λc=>⟨c,rfl⟩,λc=>c.imp id λc=>c.1⟩
  ·rcases dV a with⟨z,_⟩|⟨_,a⟩
   ·omega
   ·rw[d.bk t l g a x];exact⟨.inl,λc=>c.elim id λc=>absurd (by rw[c.2]) e⟩
 ·rcases dV a with⟨e,_⟩|⟨_,a⟩
  ·omega
  ·rcases dV a with⟨e,_⟩|⟨_,a⟩
   ·omega
   ·exact d.en l a x
 ·rcases jW a with h|h
  ·rcases jW h with o|o
   ·have:=d.ln l o;omega
   ·rw[o,bF,de];omega
  ·rw[h,bF,de];omega
theorem Dn.fin{F:List (List Nat)}(d:Dn M n i 0 i m F)(q:i<n){s:il}(j:M.aI[i]?=aa s)(g:s.f≠[]){l:List Nat}(f:F[2*n]?=aa l):Dn M n i 0 (i+1) (m+1) (F.set (2*n) (l++[i])):=by
 have r:=d.ln l (aM f);refine⟨λy l' p a x=>?_,λt l' o a x=>?_,λl' a x=>?_,QF d.ln (by rw[bF,de];omega)⟩
 ·rcases dV a with⟨e,_⟩|⟨_,h⟩
  ·omega
  ·exact d.fw y l' p h x
 ·rcases dV a with⟨e,_⟩|⟨_,h⟩
  ·omega
  ·exact d.bk t l' o h x
 ·rcases dV a with⟨_,rfl⟩|⟨e,_⟩
  ·rw[bG,ba,d.en l f x];constructor
   ·rintro(⟨k,b⟩|rfl)
    ·exact⟨by omega,b⟩
    ·exact⟨by omega,s,j,g⟩
   ·rintro⟨k,b⟩;rcases db x i with c|c
    ·exact .inl ⟨c,b⟩
    ·exact .inr (by omega)
  ·exact absurd rfl e
theorem Dn.agy{F:List (List Nat)}(d:Dn M n i 0 i m F){s:il}(g:M.aI[i]?=aa s)(f:s.f=[]):Dn M n i 0 (i+1) (m+1) F:=by
 refine⟨d.fw,d.bk,λl b x=>?_,λl b=>Nat.le_succ_of_le (d.ln l b)⟩;rw[d.en l b x];constructor
 ·rintro⟨h,a⟩;exact⟨by omega,a⟩
 ·rintro⟨h,a⟩;refine⟨?_,a⟩;rcases db x i with c|c
  ·exact c
  ·obtain rfl:x=i:=by omega
   obtain⟨k,e,j⟩:=a;rw[g]at e;obtain rfl:=aG e;exact absurd f j
theorem Dn.aD{F:List (List Nat)}(d:Dn M n i j (i+1) m F){s:il}(b:M.aI[i]?=aa s)(c:s.bB.length<=j):Dn M n (i+1) 0 (i+1) m F:=by
 refine⟨λy l f a x=>?_,λt l e a x=>?_,d.en,d.ln⟩
 ·rw[d.fw y l f a x,Ou b c,uK]
 ·rw[d.bk t l e a x,Ou b c,uK]
theorem Dn.new(M:cm)(n:Nat):Dn M n 0 0 0 0 (aQ (2*n+1) []):=by
 have h:∀{i:Nat}{l:List Nat},(aQ (2*n+1) ([]:List Nat))[i]?=aa l->l=[]:=λ{i l} a=>by
  rw[getElem?_replicate]at a;split at a
  ·exact(aG a).symm
  ·cases a
 refine⟨λy l d a x=>?_,λt l b a x=>?_,λl a x=>?_,λl a=>?_⟩
 ·rw[h a,uK];exact⟨λc=>(by cases c),λc=>absurd c.1 (dR _)⟩
 ·rw[h a,uK];exact⟨λc=>(by cases c),λc=>absurd c.1 (dR _)⟩
 ·rw[h a];exact⟨λc=>(by cases c),λc=>absurd c.1 (dR _)⟩
 ·rw[List.eq_of_mem_replicate a];exact aT _
theorem Us.tail{R:Nat}{f:Nat->Nat}{X:Nat->Prop}{vs:List ag}{F:List (List Nat)}(s:Us h R f n X vs F g){b:List ag}{c:List (List Nat)}{v:ag}{l':List Nat}(o:b=vs.set (R*n) v)(m:c=F.set (R*n) l'){a:au}(p:Pu h a X b c)(i:Ok h a)(t:∀j B,g.get j=aa B->X j->a.get j=aa B)(l:g.aD<=a.aD):Us h R f n X b c a:=by
 refine⟨λr d=>?_,p,i,by rw[m,dt];exact s.len,s.xt,s.inj,λk q=>cD (s.xlt k q) l⟩;have e:(r+1)*n<=R*n:=bM _ d;rw[dh,ew]at e;rw[t _ _ (s.cc r d) (s.xt r d).1,o,BF _ _ _ _ _ (.inr e)]
theorem RJ(k o n c:Nat):oQ 4 (gJ k o n c) (gJ k o n c)=af:=by simp[oQ]
variable{d:List ag}
section
theorem Pu.lt{hb:au}{X:Nat->Prop}{F:List (List Nat)}(f:Pu hb h X d F)(w:Wf h){i:Nat}{v:ag}(b:d[i]?=aa v){k:Nat}(e:fJ v=aa k):k<h.aD:=by
 obtain⟨a,c⟩:∃a,F[i]?=aa a:=⟨_,gE (by rw[<-f.len];exact(List.getElem?_eq_some_iff.1 b).1)⟩
 exact((f.own i v a b c).lt w e).1
def usX(hb:au):Nat->Prop:=λk=>k=hb.aD+1\/k=hb.aD+3\/k=hb.aD+4\/k=hb.aD+5
def Wb(hb:au):Nat->Nat:=λr=>hb.aD+1+2*r
structure Ub(hb:au)(M:cm)(n i j i' cN:Nat)(vs:List ag)(F:List (List Nat))(g:au):Prop where
 us:Us hb 2 (Wb hb) n (usX hb) vs F g
 b4:C0 g (hb.aD+4) 126 (sA (Wb hb 0) n n)
 b5:C0 g (hb.aD+5) 126 (sA (Wb hb 1) n n)
 dn:Dn M n i j i' cN F
section
variable {hb:au} {M:cm} {a:Option aJ} {n c k:Nat}
def ag0(hb:au)(M:cm)(n:Nat)(mz i:Nat)(e:Option aJ)(c d:Nat)(g:au):Prop:=i<=n/\mz=n-i/\∃a F b,Ub hb M n i 0 i b a F g/\a[2*n]?=aa (ae e c d)/\b+mo (M.aI.drop i)+(n-i)<=8300
def uIn(hb:au)(M:cm)(n:Nat)(e:Option aJ)(d f m i:Nat)(b j:Nat)(g:au):Prop:=j<=m/\b=m-j/\∃a F c,Ub hb M n i j (i+1) c a F g/\a[2*n]?=aa (ae e d f)/\c+(m-j)+mo (M.aI.drop (i+1))+(n-(i+1))<=8300
set_option linter.defProp false in
def Pk(w:Wf hb)(gd:Good M)(w1:n=M.aI.length)(hn:n<=300){s:il}{b:Option aJ}{m d i k8:Nat}(hs:M.aI[i]?=aa s)(W:i<n)(ar:kS hb (ae b m d) s.bB)(v7:s.bB.length<=2000)(mv:List ag)(e:Option aJ)(en ec mz:Nat)(v9:mz=n-i)(Q:VH):=
 CT mv k (hb.aD+4) (hb.aD+5) a n c k8 e en ec b m d (ag0 hb M n) mz i (uIn hb M n e en ec m i) Q (by
  intro z3 j;intros;rename_i g t;obtain⟨f1,f2,vs,F,cN,f,x4,v6⟩:=t;have hm:=ar.len;have ok:=f.us.ok;refine az (λJ=>?_) (λJ=>?_)
  ·have J:=dT J;obtain⟨q,hq⟩:∃q,s.bB[j]?=aa q:=⟨_,gE (by omega)⟩
   obtain⟨bb,o,e1,e2,_⟩:=(ar.ok ok).at_ hq;have t:=gd.bB s (aM hs) q (aM hq);obtain⟨T,hT⟩:∃T:Nat,q.t=(T:Int):=⟨q.t.toNat,by have:=t.t0;omega⟩
   have E:T<n:=by have:=t.t1;omega
   have N:q.t.toNat=T:=by omega
   obtain⟨u1,p1,p2,p3⟩:=wo ok.wf q;have V:∀g',AB g' g.aD q->aS aq 3 g' (df g.aD (0+3))=aa (aE (T:Int)):=λg' h=>by rw[<-hT];exact AB.l3 h
   have x0:∀(x8:Nat)(v:ag),vs[x8]?=aa v->fJ v≠aa g.aD:=λx8 v hv e=>by have:=f.us.Pw.lt ok.wf hv e;omega
   have z8:=f.us.xlt;have Z:=f.us.ext p2;have B4:=f.b4.ok p2;have B5:=f.b5.ok p2;refine⟨_,e1,_,e2,_,EP,u1,p1,?_⟩;generalize u1.app (g.push Ks)=g2 at*;have w2:=Z.ok.wf;have Y:=(Ok.refl w2).room 12;obtain⟨r1,a1,c1,H,K,y1,v1⟩:=Z.ld (r:=0) (i:=i) (by omega) W;have v5:=f.dn.ln r1 (aM H);obtain⟨P,y8⟩:=Fl w2 (n:=12) (j:=8) (by omega) (.cells [aE (T:Int)] 3 1 af);have u0:=(v1 _ (Z.ext Y)).1;have B:=Z.ext P;have u2:=B4.ok P;have u7:=B5.ok P;have A3:=AB.ok p3 P;obtain⟨b',n',c',x2,y5,v4,u6,v0,x,y6⟩:=B.Pw.snoc w B.ok B.xlt K H y8 (by omega);have z5:fJ (ae a1 r1.length c1)≠aa g.aD:=x0 _ _ K;have G:∀k,usX hb k->fJ (ae a1 r1.length c1)≠aa k:=λk p e=>B.Pw.out _ _ K k e p;refine⟨_,_,_,(B4.ok Y).ld yf D5,_,_,_,(B4.ok Y).ld yf D5,_,y1,_,_,_,u0,_,jh _ _,_,V _ (p3.ok Y),_,_,_,Bw _,b',n',c',x2,y5,_,y1,?_⟩;generalize cr (Go.Ab.room g2 12) g2.aD [(8,.cells [aE (T:Int)] 3 1 af)]=S at*;have x5:=x _ _ u2 (G _ (.inr (.inr (.inl rfl))));have z2:=x _ _ u7 (G _ (.inr (.inr (.inr rfl))));have A4:=x _ _ A3 z5;obtain⟨x6,z1,X,C⟩:=B.put w (r:=0) (i:=i) (by omega) W rfl rfl u6 v0 (λy B' hj p=>x y B' hj (G y p)) y6;refine⟨x6,z1,⟨C0.ld yf D5 x5,RJ _ _ _ _⟩,?_⟩;have z0:C0 _ _ _ _:=C _ _ x5 (by unfold Wb;omega);have L:C0 _ _ _ _:=C _ _ z2 (by unfold Wb;omega);have A5:AB _ _ q:=C _ _ A4 (by have:=z8 _ (f.us.xt 0 (by omega)).1;omega);generalize x2.app S=g4 at*;generalize x6.app g4=g5 at*;have w5:=X.ok.wf;have l:=(Ok.refl w5).room 13;obtain⟨U,a2,c2,x9,x1,y0,u3⟩:=X.ld (r:=1) (i:=T) (by omega) E;obtain⟨O,k9⟩:=Fl w5 (n:=13) (j:=9) (by omega) (.cells [aE (i:Int)] 3 1 af);have y2:=(u3 _ (X.ext l)).1;have R:=X.ext O;have A:vs[1*n+T]?=aa (ae a2 U.length c2):=by
    rcases dV x1 with⟨e,_⟩|⟨_,h⟩
    ·omega
    ·exact h
   have I:F[1*n+T]?=aa U:=by
    rcases dV x9 with⟨e,_⟩|⟨_,h⟩
    ·omega
    ·exact h
   have v8:=f.dn.ln U (aM I);have z9:=x0 _ _ A;have z:∀k,usX hb k->fJ (ae a2 U.length c2)≠aa k:=λk p e=>f.us.Pw.out _ _ A k e p;obtain⟨y9,u8,z4,y4,u9,w0,v3,u4,u,z7⟩:=R.Pw.snoc w R.ok R.xlt x1 x9 k9 (by omega);refine⟨_,_,_,(L.ok l).ld yf D5,_,jh _ _,_,V _ (A5.ok l),_,_,_,(L.ok l).ld yf D5,_,jh _ _,_,V _ (A5.ok l),_,y0,_,_,_,y2,_,_,_,Bw _,y9,u8,z4,y4,u9,_,y0,?_⟩;have v2:=u _ _ (z0.ok O) (z _ (.inr (.inr (.inl rfl))));have x7:=u _ _ (L.ok O) (z _ (.inr (.inr (.inr rfl))));have A6:AB _ _ q:=u _ _ (A5.ok O) z9;obtain⟨y3,y7,U8,x3⟩:=R.put w (r:=1) (i:=T) (by omega) E rfl rfl v3 u4 (λy B' hj p=>u y B' hj (z y p)) z7;refine⟨y3,y7,⟨C0.ld yf D5 x7,RJ _ _ _ _⟩,⟨V _ A6,Mu _⟩,?_⟩;rw[cH (i:=j) (n:=m) (by omega) (by omega)];have u5:=x3 _ _ v2 (by unfold Wb;omega);have z6:=x3 _ _ x7 (by unfold Wb;omega);have D:=f.dn.arc W hs hq (by rw[N];exact E) H (by rw[N];exact I);rw[N]at D;refine fC (z3-1) (by omega) ⟨by omega,by omega,_,_,cN+1,⟨U8,u5,z6,D⟩,?_,by omega⟩;rw[getElem?_set,iN (by omega),getElem?_set,iN (by omega)];exact x4
  ·have J:=dF J;obtain rfl:m=j:=by omega
   rw[cH W (by omega)];exact Ec (n-(i+1)) (by omega) ⟨by omega,rfl,vs,F,cN,⟨f.us,f.b4,f.b5,f.dn.aD hs (by omega)⟩,x4,by omega⟩)
end
end
def tD(n:Nat):eA:= .cells (aQ n ID) 27 1 af
def rH:eA:= .cells [nA] 126 0 af
theorem adh:cP aq 126=aa (rH,m4):=by kernel_rfl
theorem JQ{E a:Nat->Nat->Prop}{F b:Nat->Prop}(d:∀y x,E y x↔a y x)(f:∀x,F x↔b x)(x:Nat):oq E F x↔oq a b x:=by
 have c:E=a:=funext λy=>funext λx=>propext (d y x);have e:F=b:=funext λx=>propext (f x);rw[c,e]
theorem Mt(w:Wf h)(M:cm)(n:Nat):
  ∃m:ek,bh aq 126 (pA (h.aD+4)) (sA (h.aD+1) n n) (cr (Go.Ab.room h 8) h.aD [(5,rH),(4,rH),(1,tD n)])=aa (undef,m)/\
  ∃s:ek,bh aq 126 (pA (h.aD+5)) (sA (h.aD+3) n n) (cr (m.app (cr (Go.Ab.room h 8) h.aD [(5,rH),(4,rH),(1,tD n)])) h.aD [(3,tD n)])=aa (undef,s)/\
   Ub h M n 0 0 0 0 (aQ (2*n+1) ID) (aQ (2*n+1) []) (s.app (cr (m.app (cr (Go.Ab.room h 8) h.aD [(5,rH),(4,rH),(1,tD n)])) h.aD [(3,tD n)])):=by
 obtain⟨N,b⟩:∃N,h.aD=N:=⟨_,rfl⟩
 have A:(Go.Ab.room h 8).aD=N+8:=by rw[<-b];rfl
 rw[b];have B:C0 (cr (Go.Ab.room h 8) N [(5,rH),(4,rH),(1,tD n)]) (N+4) 126 nA:=by
  show(((Go.Ab.room h 8).set (N+1) _).set (N+4) rH |>.set (N+5) rH).get (N+4)=_;rw[au.cE,iN (by omega),au.cE,iP rfl];rfl
 refine⟨_,B.st ZY (fR _ _ _) rfl,?_⟩;have D:C0 (cr ((ek.set (N+4) (.cells [sA (N+1) n n] 126 0 af)).app (cr (Go.Ab.room h 8) N [(5,rH),(4,rH),(1,tD n)])) N [(3,tD n)]) (N+5) 126 nA:=by
  show(((((Go.Ab.room h 8).set (N+1) (tD n)).set (N+4) rH |>.set (N+5) rH).set (N+4) _).set (N+3) (tD n)).get (N+5)=_;rw[au.cE,iN (by omega),au.cE,iN (by omega),au.cE,iP rfl];rfl
 refine⟨_,D.st ZY (fR _ _ _) rfl,?_⟩;show Ub h M n 0 0 0 0 _ _ ((((((Go.Ab.room h 8).set (N+1) (tD n)).set (N+4) rH |>.set (N+5) rH).set (N+4) (.cells [sA (N+1) n n] 126 0 af)).set (N+3) (tD n)).set (N+5) (.cells [sA (N+3) n n] 126 0 af));have c:∀j,((((((Go.Ab.room h 8).set (N+1) (tD n)).set (N+4) rH |>.set (N+5) rH).set (N+4) (.cells [sA (N+1) n n] 126 0 af)).set (N+3) (tD n)).set (N+5) (.cells [sA (N+3) n n] 126 0 af)).get j =
   if j=N+5 then aa (.cells [sA (N+3) n n] 126 0 af)else if j=N+3 then aa (tD n)else if j=N+4 then aa (.cells [sA (N+1) n n] 126 0 af)else if j=N+5 then aa rH else if j=N+4 then aa rH else if j=N+1 then aa (tD n)else h.get j:=λj=>by
  rw[au.cE,au.cE,au.cE,au.cE,au.cE,au.cE];rfl
 have d:Ok h ((((((Go.Ab.room h 8).set (N+1) (tD n)).set (N+4) rH |>.set (N+5) rH).set (N+4) (.cells [sA (N+1) n n] 126 0 af)).set (N+3) (tD n)).set (N+5) (.cells [sA (N+3) n n] 126 0 af)):=by
  refine((((((Ok.refl w).room 8).set _ ?_ ?_ w).set _ ?_ ?_ w).set _ ?_ ?_ w).set _ ?_ ?_ w).set _ ?_ ?_ w |>.set _ ?_ ?_ w
  all_goals first
   |(rw[b];omega)
   |(show _<(Go.Ab.room h 8).aD;rw[A];omega)
 generalize ((((((Go.Ab.room h 8).set (N+1) (tD n)).set (N+4) rH |>.set (N+5) rH).set (N+4) (.cells [sA (N+1) n n] 126 0 af)).set (N+3) (tD n)).set (N+5) (.cells [sA (N+3) n n] 126 0 af))=g at*;have x:g.get (N+1)=aa (tD n):=by rw[c,iN (by omega),iN (by omega),iN (by omega),iN (by omega),iN (by omega),iP rfl]
 have z:g.get (N+3)=aa (tD n):=by rw[c,iN (by omega),iP rfl]
 have u:g.get (N+4)=aa (.cells [sA (N+1) n n] 126 0 af):=by rw[c,iN (by omega),iN (by omega),iP rfl]
 have y:g.get (N+5)=aa (.cells [sA (N+3) n n] 126 0 af):=by rw[c,iP rfl]
 have f:∀{i:Nat}{v:ag},(aQ (2*n+1) ID)[i]?=aa v->v=ID:=λ{i v} a=>by
  rw[getElem?_replicate]at a;split at a
  ·exact(aG a).symm
  ·cases a
 have q:∀{i:Nat}{l:List Nat},(aQ (2*n+1) ([]:List Nat))[i]?=aa l->l=[]:=λ{i l} a=>by
  rw[getElem?_replicate]at a;split at a
  ·exact(aG a).symm
  ·cases a
 refine⟨⟨λr C=>?_,⟨by rw[bX,bX],λi v l o a=>?_,λi j v v' _ o _ k p=>?_,λi v o k p=>?_⟩,d,bX,λr C=>⟨?_,?_⟩,λr F _ _ E=>?_,λk t=>?_⟩,?_,?_,Dn.new M n⟩
 ·have e:((aQ (2*n+1) ID).drop (r*n)).take n=aQ n ID:=by
   rw[List.drop_replicate,List.take_replicate];congr 1;have:r=0\/r=1:=by omega
   rcases this with rfl|rfl<;>omega
  rw[e];have:r=0\/r=1:=by omega
  unfold Wb;rw[b];rcases this with rfl|rfl
  ·exact x
  ·exact z
 ·rw[f o,q a];exact od.nil _ _ _
 ·rw[f o]at p;cases p
 ·rw[f o]at p;cases p
 ·unfold usX Wb;rw[b];have:r=0\/r=1:=by omega
  rcases this with rfl|rfl<;>omega
 ·unfold Wb;omega
 ·unfold Wb;omega
 ·unfold usX at t;rw[b]at t;rcases t with rfl|rfl|rfl|rfl
  ·exact d.wf _ _ x
  ·exact d.wf _ _ z
  ·exact d.wf _ _ u
  ·exact d.wf _ _ y
 ·rw[b];show g.get (N+4)=_;rw[u];unfold Wb;rw[b]
 ·rw[b];show g.get (N+5)=_;rw[y];unfold Wb;rw[b]
theorem Bv{c:Nat}{L:List Bool}(a:h.get m=aa (.cells (L.map ah) 4 1 af))(b:L.length=j){x:Nat}(d:x<j):aW aq 68 (sA m j c) (aE (x:Int))=aa (df m x)/\aS aq 4 h (df m x)=aa (ah (L.getD x aj)):=by
 refine⟨?_,?_⟩
 ·have:=GI (P:=aq) zq VZ (k:=m) (off:=0) (n:=j) (c:=c) (ik:= ak) (i:=(x:Int)) (by omega) (by omega);rw[this,bc,bJ,dB]
 ·rw[ej un4 ag4 a (by rw[aH];omega),gD,getElem?_map,gD,gE (by omega)];rfl
def adZ(e:au)(c d n:Nat)(b a:List Bool)(mz i:Nat)(g:au):Prop:=i<=n/\mz=n-i/\∃L,BR e c n L g/\g.get d=aa (.cells (a.map ah) 4 1 af)/\∀x,L.getD x aj=if x<i then(b.getD x aj&&a.getD x aj)else b.getD x aj
theorem I7(w:Wf g){a f n:Nat}{j d:List Bool}{mz i:Nat}{q:au}(h:adZ g a f n j d mz i q)(A:d.length=n)(m:f≠a)(v:i<n){b:Bool}(p:b=(j.getD i aj&&d.getD i aj)):
  ∃u:ek,bh aq 4 (df a i) (ah b) q=aa (undef,u)/\adZ g a f n j d (mz-1) (i+1) (u.app q):=by
 obtain⟨E,D,L,l,z,s⟩:=h;obtain⟨B,C,k⟩:=l.get (c:=n) (x:=(i:Int)) (by omega) (by omega);rw[bc]at k;obtain⟨u,y,t,r⟩:=k b w;refine⟨u,y,by omega,by omega,_,t,r _ _ z m,λx=>?_⟩;rw[GF (by rw[l.len];exact v),s x];by_cases e:x=i
 ·subst e;rw[iP rfl,iP (by omega),p]
 ·rw[iN e];by_cases o:x<i
  ·rw[iP o,iP (by omega)]
  ·rw[iN o,iN (by omega)]
def uQ(h:au)(M:cm)(n:Nat):VH:=λv b=>∃a L,v=sA a n n/\BR h a n L b/\∀x,x<n->(L.getD x aj=af↔lX M x)
theorem BR.base{a:au}{L:List Bool}(b:BR g n m L a)(o:Ok h g):BR h n m L a:=⟨b.len,b.row.row,bN o.nx b.row.new,o.trans b.row.ok⟩
section
section
variable {h:au} {M:cm} {a:Option aJ} {n c:Nat}
theorem JD(a:i<M.aI.length):∃s,M.aI[i]?=aa s:=⟨_,gE a⟩
theorem Tf(d:Good M){y x:Nat}(h:oF M y x):x<M.aI.length:=by
 obtain⟨s,c,a⟩:=h;unfold Ex at a;obtain⟨q,b,rfl⟩:=cI.1 a;have:=d.bB s (aM c) q b;have:=this.t1;have:= ‹IT _ q›.t0;omega
theorem HF{x:Nat}(h:oF M m x):m<M.aI.length:=by
 obtain⟨s,a,b⟩:=h;exact(List.getElem?_eq_some_iff.1 a).1
set_option linter.defProp false in
def Pm(B:Wf h){k p:Nat}{E l:List Bool}(F:∀x,E.getD x aj=af↔oq (oF M) (λy=>y=M.start.toNat) x)(D:∀x,l.getD x aj=af↔oq (λy x=>oF M x y) (T9 M) x)(f:l.length=n)(o:p≠k)(O:n<=300)(Q:VH)(J:∀v A,uQ h M n v A->Q v A)(G:List ag):=
 CU G n k p (adZ h k p n E l) Q (by
  intro m i;intros;rename_i g d;have H:=d;obtain⟨S,R,L,q,K,C⟩:=H;refine az (λj=>?_) (λj=>?_)
  ·have j:=dT j;have a:i<n:=by omega
   obtain⟨N,I⟩:=Bv (c:=n) K f a;obtain⟨s,z⟩:=Bv (c:=n) q.row.row q.len a;have e:=C i;rw[iN (Nat.lt_irrefl i)]at e;rw[e]at z;refine⟨_,N,_,I,_,s,_,z,az (λt=>?_) (λt=>?_)⟩
   ·obtain⟨u,w,r⟩:=I7 B d f o a (b:=l.getD i aj) (by rw[t];rfl);refine⟨_,s,u,w,?_⟩;rw[cH a (by omega)];exact fC (m-1) (by omega) r
   ·obtain⟨u,w,r⟩:=I7 B d f o a (b:=aj) (by rw[t];rfl);refine⟨_,s,u,w,?_⟩;rw[cH a (by omega)];exact fC (m-1) (by omega) r
  ·have j:=dF j;refine J _ _ ⟨k,L,rfl,q,λx P=>?_⟩;rw[C x,iP (by omega),bg,F,D];exact Iff.rfl)
theorem Wd(w:Wf h)(sm:Small M)(O:Good M)(r:eY h (ae a n c) M.aI):aX 96 [al ⟨cU M a n c⟩] h (uQ h M n):=by
 obtain⟨T,ok⟩:=jZ w r;have hl:=T.len;have hn:n<=300:=by rw[hl];exact sm.AW
 refine Wc (cU M a n c) h _ ⟨_,kW M a n c,_,dC _,_,_,_,T.l3,_,_,_,adB n (by omega),_,_,_,adB n (by omega),_,adh,_,adh,?_⟩;generalize h.push (Bm M a n c)=g0 at*;have Z:=ok.wf;obtain⟨x3,y3,y6,z1,x0⟩:=Mt Z M n;refine⟨x3,y3,y6,z1,?_⟩;have x9:=T.ok x0.us.ok;refine⟨_,dC _,_,_,_,x9.l3,?_⟩;refine CS (cU M a n c) h.aD (g0.aD+4) (g0.aD+5) a n c (ag0 g0 M n) (uQ h M n) (λmz i e en ec=>?_) n (i:=0) (e:=none) (en:=0) (ec:=0) ⟨by omega,rfl,_,_,0,x0,?_,?_⟩
 rotate_left
 ·rw[getElem?_replicate,iP (by omega)];rfl
 ·rw[bO];have:=sm.MG;omega
 intros;rename_i P hi;obtain⟨f1,f2,vs,F,cN,d,D,z8⟩:=hi;have t:=d.us.ok;refine az (λJ=>?_) (λJ=>?_)
 ·have J:=dT J;obtain⟨s,E⟩:=JD (M:=M) (i:=i) (by omega);obtain⟨b,o,x',y,z,e1,e2,e3,e4,ar⟩:=T.row.KM t E;obtain⟨V,l2,l3⟩:=oO sm E;have f:=ar.len;have hd:mo (M.aI.drop i)=s.bB.length+mo (M.aI.drop (i+1)):=by rw[ig E,qB]
  obtain⟨u,p1,p2,p3⟩:=Ox t.wf s.f x' y z;refine⟨_,e1,_,e2,_,PO,u,p1,_,pb _ _,_,p3.l0,?_⟩;have U2:=d.us.ext p2;have B4:=d.b4.ok p2;have B5:=d.b5.ok p2;have z9:=d.us.xlt;have y7:=d.us.Pw;have z3:=t.wf;generalize u.app (P.push H6)=g2 at*;refine az (λB=>?_) (λB=>?_)
  ·have B:s.f≠[]:=by simpa using B
   have C:=(Ok.refl U2.ok.wf).push (.cells [aE (i:Int)] 3 1 af);have kp:=cT g2 (.cells [aE (i:Int)] 3 1 af);have A:=U2.ext C;obtain⟨p,m⟩:∃p,F[2*n]?=aa p:=⟨_,gE (by rw[d.us.len];omega)⟩
   have x2:=d.dn.ln p (aM m);obtain⟨b',n',c',y5,x4,z7,y9,z2,N,x5⟩:=A.Pw.snoc Z A.ok A.xlt D m kp (by omega);have nX:∀k,usX g0 k->fJ (ae e en ec)≠aa k:=λk hX e'=>A.Pw.out _ _ D k e' hX;have U4:=A.tail rfl rfl y9 z2 (λj' B' hj hX=>N j' B' hj (nX j' hX)) x5;have H6:=N _ _ (B4.ok C) (nX _ (.inr (.inr (.inl rfl))));have y2:=N _ _ (B5.ok C) (nX _ (.inr (.inr (.inr rfl))));have S4:=N _ _ (p3.ok C) (λe'=>by have:=y7.lt z3 D e';omega);refine⟨_,_,_,Bw _,b',n',c',y5,x4,_,fG _ _,_,_,_,SB.l1 S4,?_⟩;have z4:(vs.length)=2*n+1:=by rw[d.us.Pw.len];exact d.us.len
   exact Pk Z O hl hn E (by omega) ar V [] b' n' c' mz f2 _ y (j:=0) ⟨by omega,by omega,_,_,cN+1,⟨U4,H6,y2,d.dn.fin (by omega) E B m⟩,by rw[getElem?_set,iP rfl,iP (by omega)],by omega⟩
  ·have B:s.f=[]:=by simpa using B
   refine⟨_,fG _ _,_,_,_,p3.l1,?_⟩;exact Pk Z O hl hn E (by omega) ar V [] e en ec mz f2 _ y (j:=0) ⟨by omega,by omega,vs,F,cN+1,⟨U2,B4,B5,d.dn.agy E B⟩,D,by omega⟩
 ·have J:=dF J;obtain rfl:n=i:=by omega
  have y0:=T.ok t;have z6:=O.uj;have z5:=O.uk;obtain⟨S,hS⟩:∃S:Nat,M.start=(S:Int):=⟨M.start.toNat,by omega⟩
  have u0:S<n:=by omega
  have x6:M.start.toNat=S:=by omega
  have V:=y0.l1;rw[hS]at V;have C:=(Ok.refl t.wf).push (.cells [aE (S:Int)] 3 1 af);have kp:=cT P (.cells [aE (S:Int)] 3 1 af);refine⟨_,qk _,_,V,_,_,_,Bw _,?_⟩;have A:=d.us.ext C;have B4:=d.b4.ok C;have B5:=d.b5.ok C;have rf:Rd (P.push (.cells [aE (S:Int)] 3 1 af)) 3 (sA P.aD 1 1) ([S].map iv):= .inr ⟨P.aD,0,_,1,af,rfl,kp,rfl⟩;have x1:=ok.trans (t.trans C);generalize P.push (.cells [aE (S:Int)] 3 1 af)=h1 at*;have w1:=x1.wf;have I:=A.adj (r:=0) (by omega);have H:=A.adj (r:=1) (by omega);have X:∀{y:Nat}{l:List Nat},((F.drop (0*n)).take n)[y]?=aa l->y<n/\l.length<=8300/\∀x,x∈l↔oF M y x:=λ{y l} f=>by
   rw[getElem?_take]at f;split at f
   ·next q=>
    rw[getElem?_drop]at f;refine⟨q,by have:=d.dn.ln l (aM f);omega,λx=>?_⟩;rw[d.dn.fw y l q f x,uK];exact⟨λc=>c.2,λc=>⟨q,c⟩⟩
   ·cases f
  have Y:∀{y:Nat}{l:List Nat},((F.drop (1*n)).take n)[y]?=aa l->y<n/\l.length<=8300/\∀x,x∈l↔oF M x y:=λ{y l} f=>by
   rw[getElem?_take]at f;split at f
   ·next q=>
    rw[getElem?_drop]at f;refine⟨q,by have:=d.dn.ln l (aM f);omega,λx=>?_⟩;rw[d.dn.bk y l q f x,uK];exact⟨λc=>c.2,λc=>⟨by rw[hl];exact HF c,c⟩⟩
   ·cases f
  have x8:∀y x,Ij ((F.drop (0*n)).take n) y x↔oF M y x:=λy x=>by
   unfold Ij;rw[gD]
   cases U:((F.drop (0*n)).take n)[y]? with
   |some l=>exact(X U).2.2 x
   |none=>
    refine⟨λc=>(by cases c),λc=>?_⟩;have:=HF c;rw[List.getElem?_eq_none_iff,I.1]at U;omega
  have x7:∀y x,Ij ((F.drop (1*n)).take n) y x↔oF M x y:=λy x=>by
   unfold Ij;rw[gD]
   cases U:((F.drop (1*n)).take n)[y]? with
   |some l=>exact(Y U).2.2 x
   |none=>
    refine⟨λc=>(by cases c),λc=>?_⟩;have:=Tf O c;rw[List.getElem?_eq_none_iff,H.1]at U;omega
  obtain⟨p,m⟩:∃p,F[2*n]?=aa p:=⟨_,gE (by rw[d.us.len];omega)⟩
  have x2:=d.dn.ln p (aM m);have y8:Rd h1 3 (ae e en ec) (p.map iv):=(A.Pw.own _ _ _ D m).rd;have R:∀x,x∈p↔T9 M x:=λx=>by
   rw[d.dn.en p m x];refine⟨λc=>c.2,λc=>⟨?_,c⟩⟩;obtain⟨s,h2,_⟩:=c;have:=(List.getElem?_eq_some_iff.1 h2).1;omega
  refine(Ke w1 (by omega) I.1 (λl g x G=>?_) (λl g=>?_) (Yw w1 B4 I) rf (λx G=>?_) (by simp)).mono ?_
  ·obtain⟨y,f⟩:=List.mem_iff_getElem?.1 g;have:=Tf O ((X f).2.2 x |>.1 G);omega
  ·obtain⟨y,f⟩:=List.mem_iff_getElem?.1 g;have:=(X f).2.1;omega
  ·rw[ba]at G;omega
  rintro _ g3 ⟨kl,L1,rfl,Q,z0⟩;refine⟨_,_,_,rfl,?_⟩;have W:=Q.row.ok;refine(Ke W.wf (by omega) H.1 (λl g x G=>?_) (λl g=>?_) (Yy W.wf (B5.ok W) (H.ok W)) (y8.ok W) (λx G=>?_) (by omega)).mono ?_
  ·obtain⟨y,f⟩:=List.mem_iff_getElem?.1 g;have:=HF ((Y f).2.2 x |>.1 G);omega
  ·obtain⟨y,f⟩:=List.mem_iff_getElem?.1 g;have:=(Y f).2.1;omega
  ·obtain⟨s,h2,_⟩:=(R x).1 G;have:=(List.getElem?_eq_some_iff.1 h2).1;omega
  rintro _ g4 ⟨kr,L2,rfl,K,y1⟩;refine⟨_,_,_,rfl,?_⟩;have y4:kr≠kl:=by have:=Q.row.lt;have:=K.row.new;omega
  have J:∀x,L1.getD x aj=af↔oq (oF M) (λy=>y=M.start.toNat) x:=λx=>by
   rw[z0 x];exact JQ x8 (λx=>by rw[ba,x6]) x
  have B:∀x,L2.getD x aj=af↔oq (λy x=>oF M x y) (T9 M) x:=λx=>by
   rw[y1 x];exact JQ x7 R x
  exact Pm (n:=n) w1 J B K.len y4 hn (uQ h M n) (λv g' ⟨k1,L,e1,e2,e3⟩=>⟨k1,L,e1,e2.base x1,e3⟩) (cU M a n c) n (i:=0) ⟨by omega,rfl,L1,Q.trans K.row.ok,K.row.row,λx=>by rw[iN (dR _)]⟩
theorem Xe{p:Prop}(h:b=af↔p):b=@decide p (dU _):=by
 cases b with
 |true=>exact(@decide_eq_true p (dU _) (h.1 rfl)).symm
 |false=>exact(@decide_eq_false p (dU _) (λc=>by cases h.2 c)).symm
end
end
section
section
variable {h:au} {M:cm} {a:Option aJ} {n c:Nat}
theorem CV(r:eY g (ae a n c) M.aI):oQ 4 (al ⟨cU M a n c⟩) (al ⟨cU M a n c⟩)=af:=by
 obtain⟨h,j,⟨_,⟨b|b,_⟩|⟨k,e,cs,i,z,f,l,b,_⟩⟩,_,d⟩:=r
 ·rw[show cU M a n c=[aE M.kind,aE M.start,strOf M.lead,nA] by unfold cU;rw[b]];simp[oQ,Sk,strOf]
 ·exact absurd b d
 ·rw[show cU M a n c=[aE M.kind,aE M.start,strOf M.lead,gJ k e (h.map rG).length f] by unfold cU;rw[b]];simp[oQ,Sk,strOf]
end
end
variable{T:aF}
section
noncomputable def aeP:TypeInfo:=(fI aq 44).getD default
theorem acz:fI aq 44=aa aeP:=by kernel_rfl
theorem Ve:aeP.size=2:=by kernel_rfl
theorem Q6:aeP.bytes=40:=by kernel_rfl
noncomputable def aeQ:TypeInfo:=(fI aq 46).getD default
theorem S1:fI aq 46=aa aeQ:=by kernel_rfl
theorem JR:aeQ.size=4:=by kernel_rfl
theorem Hq:aeQ.bytes=40:=by kernel_rfl
theorem ah7:eI aq 22=af:=by kernel_rfl
theorem agZ:eI aq 42=af:=by kernel_rfl
theorem afM(f:List UInt8)(a:Option aJ)(n c:Nat):bS aq 22 1 [(0,al ⟨[strOf f,ae a n c]⟩)]=aa (.cells [strOf f,ae a n c] 44 2 af,qe 1 1):=by cases a<;>kernel_rfl
theorem aea(q:eC):bS aq 42 1 [(0,al ⟨iU q⟩)]=aa (.cells (iU q) 46 4 af,qe 1 1):=by kernel_rfl
theorem acO{l:List (il×ag)}:∀r∈l.map rG,r.length=2:=λr a=>by
 obtain⟨q,_,rfl⟩:=cI.1 a;rfl
structure nI(h0 h:au)(v:ag)(ps:List (il×ag)):Prop where
 row:kK h0 h 44 2 v (ps.map rG)
 bB:∀(i:Nat)(p:il×ag),ps[i]?=aa p->kK h0 h 46 4 p.2 (p.1.bB.map iU)
 ne:∀(i:Nat)(p:il×ag),ps[i]?=aa p->∀k,fJ p.2=aa k->fJ v≠aa k
 Wo:∀(i j:Nat)(p q:il×ag),i≠j->ps[i]?=aa p->ps[j]?=aa q->∀k,fJ p.2=aa k->fJ q.2≠aa k
section
variable {hb g g':au} {v:ag} {ps:List (il×ag)}
theorem nI.ok(m:nI hb g v ps)(o:Ok g g'):nI hb g' v ps:=⟨m.row.ok o,λi p a=>(m.bB i p a).ok o,m.ne,m.Wo⟩
theorem nI.nd(m:nI hb g v ps):v≠uz:=by
 obtain⟨_,⟨a,_⟩|⟨k,b,cs,c,a,_⟩⟩:=m.row
 ·rw[a];intro e;unfold uz at e;injection e with e _ _;cases e
 ·rw[a];intro e;unfold uz at e;injection e with e _ _;injection e with e;injection e with _ _ e;cases e
theorem nI.st(m:nI hb g v ps):eY g v (ps.map (·.1)):=
 ⟨ps,rfl,m.row.rd,λp b=>by
  obtain⟨i,a,e⟩:=List.mem_iff_getElem.1 b;exact(m.bB i p (by rw[gE a,e])).rd,m.nd⟩
theorem nI.nil(hb g:au):nI hb g nA []:=⟨kK.nil _ _ _ _,λi p a=>by simp at a,λi p a=>by simp at a,λi j p q _ a=>by simp at a⟩
theorem Fw{cs:List ag}{z:Nat}(a:g.get n=aa (.cells cs T z b))(c:cs.length=m):gZ g m (sA n 1 1)=aa (([cs]:List (List ag)).flatten,1):=by
 show(match g.get n with|some (.cells cs ..)=>if((cs.drop 0).take (1*m)).length=1*m then aa ((cs.drop 0).take (1*m),1)else none|_=>none)=_;rw[a];dsimp only;rw[bO,ew,bC (by omega),iP c];simp
theorem WU(w:Wf hb)(m:Ok hb g){x:ag}{a:List eC}(k:kK hb g 46 4 x (a.map iU)){q:eC}{f:Nat}(e:g.get f=aa (.cells (iU q) 46 4 af))(p:a.length<=100000):
  ∃(b:Option aJ)(n c:Nat)(u:ek),cG aq 42 42 x (sA f 1 1) g=aa (ae b n c,u)/\kK hb (u.app g) 46 4 (ae b n c) ((a++[q]).map iU)/\Ok hb (u.app g)/\
   (∀j B,g.get j=aa B->fJ x≠aa j->(u.app g).get j=aa B)/\(∀j,fJ (ae b n c)=aa j->g.aD<=j\/fJ x=aa j)/\g.aD<=(u.app g).aD:=by
 have d:(a.map iU).length=a.length:=aH ..;obtain⟨b,n,c,u,i,s,h,l⟩:=kK.add O5 S1 JR agZ w m k (ns:=[iU q]) (Fw e rfl) (λr o=>by rw[ba.1 o];rfl) rfl (by rw[Hq,d,de];omega) (by rw[d,de];omega) (.inl (aT _));exact⟨b,n,c,u,i,by rw[bK];exact h,l⟩
end
end
section
section
variable {hb g g':au} {k off n c:Nat} {ps:List (il×ag)}
theorem GW{ps:List (il×ag)}(p:il×ag):(ps.set i p).map rG=(ps.map rG).set i (rG p):=by rw[map_set]
theorem nI.VP(w:Wf hb)(K:Ok hb g)(m:nI hb g (gJ k off n c) ps){i:Nat}{p:il×ag}(C:ps[i]?=aa p)(f:List UInt8):
  ∃u:ek,bh aq 9 (df k (off+i*2+0)) (strOf f) g=aa (undef,u)/\nI hb (u.app g) (gJ k off n c) (ps.set i (⟨f,p.1.bB⟩,p.2))/\Ok hb (u.app g)/\(∀j B,g.get j=aa B->k≠j->(u.app g).get j=aa B)/\(u.app g).aD=g.aD:=by
 obtain⟨u,H,I,F,A,M⟩:=m.row.put (e:=44) (t':=9) (by kernel_rfl) w K (i:=i) (j:=0) (r:=rG p) (by rw[getElem?_map,C];rfl) (by omega) (v':=strOf f) rfl rfl;have h:∀{j:Nat}{q:il×ag},(ps.set i (⟨f,p.1.bB⟩,p.2))[j]?=aa q->∃d,ps[j]?=aa d/\q.2=d.2/\q.1.bB=d.1.bB:=λ{j q} b=>by
  rw[getElem?_set]at b;split at b
  ·next e=>
   subst e;split at b
   ·obtain rfl:=aG b;exact⟨p,C,rfl,rfl⟩
   ·cases b
  ·exact⟨q,b,rfl,rfl⟩
 refine⟨u,H,⟨by rw[GW];exact I,λj q b=>?_,λj q b l a=>?_,λG N Q O z v D l a=>?_⟩,F,A,M⟩
 ·obtain⟨d,o,s,t⟩:=h b;rw[s,t];exact(m.bB j d o).sY λl B a E=>A l B E (λe=>m.ne j d o l a (by rw[<-e];rfl))
 ·obtain⟨d,o,s,t⟩:=h b;rw[s]at a;exact m.ne j d o l a
 ·obtain⟨x,o,s,t⟩:=h v;obtain⟨y,J,L,P⟩:=h D;rw[s]at a;rw[L];exact m.Wo G N x y z o J l a
theorem nI.ah1(w:Wf hb)(I:Ok hb g')(m:nI hb g (gJ k off n c) ps){i:Nat}{p:il×ag}(v:ps[i]?=aa p)(H:∀j B,g.get j=aa B->fJ p.2≠aa j->g'.get j=aa B){b:Option aJ}{o l:Nat}{s:List eC}(Y:kK hb g' 46 4 (ae b o l) (s.map iU))(L:∀j,fJ (ae b o l)=aa j->g.aD<=j\/fJ p.2=aa j)(J:Wf g):
  ∃u:ek,bh aq 42 (df k (off+i*2+1)) (ae b o l) g'=aa (undef,u)/\nI hb (u.app g') (gJ k off n c) (ps.set i (⟨p.1.f,s⟩,ae b o l))/\Ok hb (u.app g')/\(∀j B,g'.get j=aa B->k≠j->(u.app g').get j=aa B)/\(u.app g').aD=g'.aD:=by
 have P:fJ p.2≠aa k:=λe=>m.ne i p v k e rfl;have D:kK hb g' 44 2 (gJ k off n c) (ps.map rG):=m.row.sY λd B a y=>H d B y (λe=>m.ne i p v d e a);obtain⟨u,U,W,R,E,h5⟩:=D.put (e:=44) (t':=42) (by kernel_rfl) w I (i:=i) (j:=1) (r:=rG p) (by rw[getElem?_map,v];rfl) (by omega) (v':= ae b o l) (fR ..) (by cases b<;>rfl);have x0:i<ps.length:=(List.getElem?_eq_some_iff.1 v).1;have C:fJ (ae b o l)≠aa k:=λe=>by
  rcases L k e with h|h
  ·have:=(m.row.lt J (k:=k) rfl).1;omega
  ·exact P h
 have t:∀{j:Nat}{q:il×ag},(ps.set i (⟨p.1.f,s⟩,ae b o l))[j]?=aa q->(j=i/\q=(⟨p.1.f,s⟩,ae b o l))\/(j≠i/\ps[j]?=aa q):=λ{j q} f=>by
  rcases dV f with⟨e,F⟩|⟨e,f⟩
  ·exact .inl ⟨e,F⟩
  ·exact .inr ⟨e,f⟩
 have z:∀{j:Nat}{q:il×ag},j≠i->ps[j]?=aa q->∀d,fJ q.2=aa d->fJ (ae b o l)≠aa d:=λ{j q} x f d a e=>by
  rcases L d e with h|h
  ·have:=((m.bB j q f).lt J a).1;omega
  ·exact m.Wo j i q p x f v d a h
 refine⟨u,U,⟨by rw[GW];exact W,λj q f=>?_,λj q f d a=>?_,λS j2 Z T A G N d a=>?_⟩,R,E,h5⟩
 ·rcases t f with⟨rfl,rfl⟩|⟨x,f⟩
  ·exact Y.sY λd B a y=>E d B y (λe=>C (by rw[e];exact a))
  ·exact(m.bB j q f).sY λd B a y=>E d B (H d B y (λe=>m.Wo j i q p x f v d a e)) (λe=>m.ne j q f d a (by rw[<-e];rfl))
 ·rcases t f with⟨rfl,rfl⟩|⟨x,f⟩
  ·exact λe=>C (by rw[a,<-e];rfl)
  ·exact m.ne j q f d a
 ·rcases t G with⟨Q,F⟩|⟨x,O⟩<;>rcases t N with⟨V,X⟩|⟨M,K⟩
  ·exact absurd (Q.trans V.symm) A
  ·rw[F]at a;exact λe=>z M K d e a
  ·rw[X];exact z x O d a
  ·exact m.Wo S j2 Z T A O K d a
theorem nI.at_(m:nI hb g (gJ k off n c) ps){i:Nat}{p:il×ag}(e:ps[i]?=aa p):
  aW aq 22 (gJ k off n c) (aE (i:Int))=aa (df k (off+i*2))/\aS aq 42 g (df k (off+i*2+1))=aa p.2/\aS aq 44 g (df k (off+i*2))=aa (al ⟨rG p⟩):=by
 obtain⟨b,d,a⟩:=m.row.at_ zp Ko (i:=i) (r:=rG p) (by rw[getElem?_map,e];rfl) ak;exact⟨b,by rw[d 42 _ 1 O5 WI (by omega)];rfl,a _ ac3 aaP⟩
end
noncomputable def ae8:TypeInfo:=(aq.info? 44).getD default
theorem acZ:aq.info? 44=aa ae8:=by kernel_rfl
theorem V3:ae8.size=2:=by kernel_rfl
theorem RC:ae8.bytes=40:=by kernel_rfl
def ME:il×ag:=(⟨[],[]⟩,nA)
theorem afm:zeroOf aq 44=aa (al ⟨rG ME⟩):=by kernel_rfl
theorem ags(n:Nat)(a:n<=100000):dD aq 22 (aE (n:Int)) (aE (n:Int))=aa (.cells ((aQ n ME).map rG).flatten 44 2 af,qe n n):=by
 unfold dD dK;dsimp only;rw[zp]
 try dsimp only
 change (match aq.info? 44,zeroOf aq 44 with
  |some i,aa z=>(if z.cells.size=i.size/\0<i.size/\(0:Int)<=(n:Int)/\(n:Int)<=(n:Int)/\(n:Int)*i.bytes<=140737488355328/\(n:Int)<=1099511627776 then aa (eA.cells (fb z.cells.toList (n:Int).toNat) 44 i.size af,λk=>ae (aa ⟨k,0,none⟩) (n:Int).toNat (n:Int).toNat)else none)
  |_,_=>none)=_
 rw[acZ,afm];dsimp only;rw[V3,RC,iP ⟨rfl,by omega,by omega,gr _,by omega,by omega⟩];have e:((n:Int)).toNat=n:=by omega
 rw[e,show(al ⟨rG ME⟩).cells.toList=rG ME from rfl,MD,jO];rfl
theorem nI.made{hb g:au}{k n:Nat}(h:g.get k=aa (.cells ((aQ n ME).map rG).flatten 44 2 af))(e:hb.aD<=k)(l:n<=100000):nI hb g (sA k n n) (aQ n ME):=by
 have c:∀{i:Nat}{p:il×ag},(aQ n ME)[i]?=aa p->p=ME:=λ{i p} a=>by
  rw[getElem?_replicate]at a;split at a
  ·exact(aG a).symm
  ·cases a
 have d:((aQ n ME).map rG).length=n:=by simp
 have:=kK.made (h0:=hb) h acO e (by rw[d];unfold fg;omega);rw[d]at this;exact⟨this,λi p a=>(by rw[c a];exact kK.nil _ _ _ _),λi p a f b=>(by rw[c a]at b;cases b),λi j p q _ a m f b=>(by rw[c a]at b;cases b)⟩
def kA:List Nat->Nat->Nat->Int
 |[],_,_=> -1
 |o::r,i,x=>if o=x then(i:Int)else kA r (i+1) x
theorem JH:∀(l:List Nat)(i o x:Nat),o∉l->kA (l++[o]) i x=if x=o then((i+l.length:Nat):Int)else kA l i x
 |[],i,o,x,_=>by
  show(if o=x then(i:Int)else -1)=if x=o then((i+0:Nat):Int)else -1;by_cases h:x=o
  ·rw[iP h,iP h.symm];rfl
  ·rw[iN h,iN (λe=>h e.symm)]
 |y::l,i,o,x,a=>by
  have b:¬o=y:=λe=>a (e▸cj ..);have c:=JH l (i+1) o x (λh=>a (cF _ h));show(if y=x then(i:Int)else kA (l++[o]) (i+1) x)=if x=o then _ else(if y=x then(i:Int)else kA l (i+1) x);rw[c,bU];by_cases h:x=o
  ·rw[iP h,iP h,iN (by rw[h];exact λe=>b e.symm)];congr 1;omega
  ·rw[iN h,iN h]
theorem uI:∀(l:List Nat)(i x:Nat),kA l i x = -1\/((i:Int)<=kA l i x/\kA l i x<((i+l.length:Nat):Int))
 |[],i,x=> .inl rfl
 | o::l,i,x=>by
  unfold kA;split
  ·right;rw[bU];omega
  ·rcases uI l (i+1) x with h|h
   ·exact .inl h
   ·right;rw[bU];omega
theorem Oj:∀(l:List Nat)(i x:Nat),kA l i x≠ -1↔x∈l
 |[],i,x=>by simp[kA]
 | o::l,i,x=>by
  unfold kA;split
  ·next h=>exact⟨λ_=>h▸cj ..,λ_=>by omega⟩
  ·next h=>
   rw[Oj l (i+1) x];exact⟨λa=>cF _ a,λa=>(cW.1 a).resolve_left λe=>h e.symm⟩
def nh(a:List Nat)(q:eC):Option eC:=if kA a 0 q.t.toNat = -1 then none else aa ⟨q.i,q.o,q.w,kA a 0 q.t.toNat⟩
def wq(M:cm)(a:List Nat)(s:Nat):il:=⟨(M.aI.getD s ⟨[],[]⟩).f,(M.aI.getD s ⟨[],[]⟩).bB.filterMap (nh a)⟩
def nZ(M:cm)(a:List Nat):cm:=⟨M.kind,kA a 0 M.start.toNat,M.lead,a.map (wq M a)⟩
def agD(h:au)(M:cm):VH:=λv b=>∃(a:Option aJ)(n c:Nat)(ps:List (il×ag)),v=al ⟨cU M a n c⟩/\ps.map (·.1)=M.aI/\nI h b (ae a n c) ps/\Ok h b
structure D4(N:Nat)(ord:List Nat):Prop where
 lt:∀x∈ord,x<N
 nd:ord.Nodup
end
noncomputable def QC:FD:=gU Tryz.f97 []
theorem N3(a:Int)(h:au)(Q:VH)(l:xN (cP aq 24) h λr b=>cq (decide ((a:Int)<1)) (xA (cJ aq 24 []) λm=>xU (bh aq 24 (pA (h.aD)) (al ⟨m⟩) b) b λs p=>jq SS [((pA (h.aD)),aa 24),((aE 1),none)] p Q) (cq (decide ((a:Int)>3)) (xA (cJ aq 24 []) λn=>xU (bh aq 24 (pA (h.aD)) (al ⟨n⟩) b) b λt k=>jq SS [((pA (h.aD)),aa 24),((aE 1),none)] k Q) (aX 24 [(aE a)] (room b 7) λo d=>yS o λj=>zR (dD aq 22 (aE 1) (aE 1)) λc e f=>xA (cJ aq 24 [(0,(aE a)),(2,(strOf j)),(3,(sA (b.aD+3) e f))]) λi=>xU (bh aq 24 (pA (h.aD)) (al ⟨i⟩) (cr d b.aD [(3,c)])) (cr d b.aD [(3,c)]) λq g=>jq SS [((pA (h.aD)),aa 24),((aE 0),none)] g Q))):aX 97 [(aE a)] h Q:=hH QC Tryz.func97 (bD l)
noncomputable def aeX:FD:=gU Tryz.f24 []
theorem acG(a:Int)(h:au)(Q:VH)(g:aX 67 [(aE a)] h λj c=>∃b:LV,∃i:Bool,j=(av ⟨[(al ⟨b⟩),(ah i)]⟩)/\xN (cP aq 100) c λl f=>xU (bh aq 100 (pA (c.aD)) (al ⟨b⟩) f) f λk d=>qF xS 100 (pA (c.aD)) 1 9 d λe=>Q (strOf e) d):aX 24 [(aE a)] h Q:=hH aeX Tryz.func24 (bD g)
noncomputable def aeN:FD:=gU Tryz.f60 []
theorem acw(a:Int)(h:au)(Q:VH)(d:aX 118 [(aE a)] h λe b=>yB e λc=>cq (!c) (Q (strOf []) b) (cq (((a:Int)==1)) (Q (strOf [48]) b) (Q (strOf [49]) b))):aX 60 [(aE a)] h Q:=hH aeN Tryz.func60 (bD d)
noncomputable def ad2:FD:=gU Tryz.f164 []
theorem aaY(x y:Int)(h:au)(Q:VH)(c:aX 197 [(bA x),(bA y)] h λe d=>∃a:Int,∃b:Int,e=(av ⟨[(bA a),(bA b)]⟩)/\Q (av ⟨[(bA a),(bA b)]⟩) d):aX 164 [(bA x),(bA y)] h Q:=hH ad2 Tryz.func164 (bD c)
noncomputable def rC:FD:=gU Tryz.f135 [((pq 575),[7,8])]
abbrev tp(e:OA)(a b:Nat)(j:Int):LV:=[(ae e a b),(aE j)]
theorem VD(a:OA)(n c:Nat)(x:Int)(h:au)(Q:VH)(l:cq (decide ((x:Int)<0)) (False) (aX 164 [(bA (ai aw (n:Int))),(bA (ai aw x))] h λm d=>∃e:Int,∃b:Int,m=(av ⟨[(bA e),(bA b)]⟩)/\cq (decide (e>0)) (False) (cq (decide (b>9223372036854775807)) (False) (xR (dD aq 27 (aE (ai ak b)) (aE (ai ak b))) d λp i f g=>xC (copyV aq 27 (sA (d.aD) i f) (ae a n c) g) g λk o j=>cw rC (pq 575) [(sA (d.aD) i f),(aE k)] j (eu rC (pq 319) Q))))):aX 135 [(ae a n c),(aE x)] h Q:=hH rC Tryz.func135 (bD l)
theorem CA(a:OA)(n c:Nat)(x:Int)(e:OA)(b d:Nat)(f:Nat->Int->au->Prop)(Q:VH)(step:∀(mz:Nat) (j:Int) (q:Nat->ag) (h:au),f mz j h->cq (decide ((j:Int)<(b:Int))) (xL (dN aq 27 (ae e b d) (aa (aE j)) none none (room h 10)) λk o r=>xL (dN aq 27 (ae e b d) none (aa (aE j)) none (room h 10)) λl m i=>xC (copyV aq 27 (ae k o r) (ae l m i) (room h 10)) (room h 10) λp t s=>ct (jg (tp e b d) f) mz [(ae e b d),(aE (ai ak (j+p)))] s) (Q (ae e b d) h))(mz:Nat){j:Int}{h:au}(g:f mz j h):cw rC (pq 575) (tp e b d j) h (eu rC (pq 319) Q):=
 gm (tp e b d) f (λmz j q h g=>bD (step mz j q h g)) mz g
noncomputable def mW:FD:=gU Tryz.f98 [((pq 75),[1,2,4,5,19,20,21]),((pq 303),[2,4,5,8,44,45,46]),((pq 324399),[2,4,5,8,11,44,45,46,69,70,71])]
abbrev sd(a:OA)(n c k f:Nat)(e:OA)(b d:Nat)(i:Nat):LV:=[(ae a n c),(pA k),(pA f),(ae e b d),(ae a n c),(iA n),(iA i)]
abbrev nR(a:OA)(n c k g b:Nat)(e:OA)(d f:Nat)(i:Nat):LV:=[(pA k),(pA g),(ae e d f),(pA b),(ae a n c),(iA n),(iA i)]
abbrev se(a:OA)(n c k o f p l:Nat)(e:OA)(g h:Nat)(b:OA)(m d i:Nat)(j:Nat):LV:=[(pA k),(pA o),(ae e g h),(pA f),(df p l),(ae a n c),(iA n),(iA i),(ae b m d),(iA m),(iA j)]
theorem ab7(d:LV)(a:OA)(n c:Nat)(h:au)(Q:VH)(p:xN (jY aq 24 (al ⟨d⟩)) h λt f=>xN (cP aq 24) f λu i=>xR (bS aq 27 1 [(0,(aE (-1)))]) i λv q o j=>qM 24 (pA (h.aD)) 3 22 j λr k s=>aX 135 [(sA (i.aD) q o),(iA k)] j λl m=>yL l λe g b=>cw mW (pq 75) (sd a n c (h.aD) (f.aD) e g b 0) m (eu mW (pq 43) Q)):aX 98 [(al ⟨d⟩),(ae a n c)] h Q:=hH mW Tryz.func98 (bD p)
theorem EW(C:LV)(a:OA)(n c:Nat)(k g:Nat)(e:OA)(b d:Nat)(f:Nat->Nat->au->Prop)(Q:VH)(step:∀(mz:Nat) (i:Nat) (t:Nat->ag) (h:au),f mz i h->cq (decide ((i:Int)<(n:Int))) (Ws 27 (ae a n c) (iA i) h λr=>xP (aW aq 27 (ae e b d) (aE r)) λu=>xU (bh aq 3 (bw u) (iA i) h) h λA o=>ct (jg (sd a n c k g e b d) f) mz [(ae a n c),(pA k),(pA g),(ae e b d),(ae a n c),(iA n),(aE (ai ak ((i:Int)+1)))] o) (kM 24 (pA k) 0 (room h 15) λp=>kM 24 (pA k) 1 (room h 15) λx=>Ws 27 (ae e b d) (aE x) (room h 15) λv=>qF xS 24 (pA k) 2 9 (room h 15) λs=>zR (dD aq 22 (iA n) (iA n)) λl z w=>xA (cJ aq 24 [(0,(aE p)),(1,(aE v)),(2,(strOf s)),(3,(sA (h.aD+11) z w))]) λq=>zN (cP aq 24) λj=>xU (bh aq 24 (pA (h.aD+13)) (al ⟨q⟩) (cr (room h 15) h.aD [(13,j),(11,l)])) (cr (room h 15) h.aD [(13,j),(11,l)]) λB y=>cw mW (pq 303) (nR a n c k g (h.aD+13) e b d 0) y (eu mW (pq 175) Q)))(mz:Nat){i:Nat}{h:au}(m:f mz i h):cw mW (pq 75) (sd a n c k g e b d i) h (eu mW (pq 43) Q):=
 gm (sd a n c k g e b d) f (λmz i t h m=>bD (step mz i t h m)) mz m
theorem EX(M:LV)(a:OA)(n c:Nat)(k g f:Nat)(e:OA)(l m:Nat)(d:Nat->Nat->au->Prop)(Q:VH)(step:∀(b:Nat) (i:Nat) (D:Nat->ag) (h:au),d b i h->cq (decide ((i:Int)<(n:Int))) (Ws 27 (ae a n c) (iA i) h λp=>qM 24 (pA f) 3 22 h λt u J=>xP (aW aq 22 (ae t u J) (iA i)) λq=>qM 24 (pA k) 3 22 h λF C A=>H3 22 (ae F C A) (aE p) 44 0 λs=>xS (aS aq 9 h (bw s)) λI=>xP (aY aq 44 (bw q) 0) λz=>xU (bh aq 9 (bw z) (strOf I) h) h λL j=>qM 24 (pA k) 3 22 j λx B y=>H3 22 (ae x B y) (aE p) 44 1 λv=>xL (aS aq 42 j (bw v)) λG o w=>cw mW (pq 324399) [(pA k),(pA g),(ae e l m),(pA f),(bw q),(ae a n c),(iA n),(iA i),(ae G o w),(iA o),(aE 0)] j (fQ mW (pq 755) (pq 303) (RR mW (pq 303) (jg (nR a n c k g f e l m) d) b (eu mW (pq 175) Q)))) (xA (aS aq 24 h (pA f)) λE=>xU (bh aq 24 (pA g) (al ⟨E⟩) h) h λK H=>jq SS [((pA g),aa 24)] H Q))(b:Nat){i:Nat}{h:au}(r:d b i h):cw mW (pq 303) (nR a n c k g f e l m i) h (eu mW (pq 175) Q):=
 gm (nR a n c k g f e l m) d (λb i D h r=>bD (step b i D h r)) b r
theorem EY(Y:LV)(a:OA)(n c:Nat)(k r q t s:Nat)(e:OA)(o p:Nat)(b:OA)(m d:Nat)(v:Nat->Nat->au->Prop)(x i:Nat)(l:Nat->Nat->au->Prop)(Q:VH)(step:∀(g:Nat) (j:Nat) (M:Nat->ag) (h:au),l g j h->cq (decide ((j:Int)<(m:Int))) (qX xA 42 (ae b m d) (iA j) 46 h λP=>xN (cP aq 46) h λW z=>xU (bh aq 46 (pA (h.aD)) (al ⟨P⟩) z) z λX u=>kM 46 (pA (h.aD)) 3 u λN=>Ws 27 (ae e o p) (aE N) u λH=>xP (aY aq 46 (pA (h.aD)) 3) λD=>xU (bh aq 3 (bw D) (aE H) u) u λU f=>kM 46 (pA (h.aD)) 3 f λG=>cq ((G !=(-1))) (qM 44 (df t s) 1 42 (room f 11) λS O K=>xA (aS aq 46 (room f 11) (pA (h.aD))) λL=>zR (bS aq 42 1 [(0,(al ⟨L⟩))]) λw I J=>xE (cG aq 42 42 (ae S O K) (sA (f.aD+6) I J) (cr (room f 11) f.aD [(6,w)])) (cr (room f 11) f.aD [(6,w)]) λB C E T y=>xP (aY aq 44 (df t s) 1) λR=>xU (bh aq 42 (bw R) (ae B C E) y) y λV F=>ct (jg (se a n c k r q t s e o p b m d i) l) g [(pA k),(pA r),(ae e o p),(pA q),(df t s),(ae a n c),(iA n),(iA i),(ae b m d),(iA m),(aE (ai ak ((j:Int)+1)))] F) (ct (jg (se a n c k r q t s e o p b m d i) l) g [(pA k),(pA r),(ae e o p),(pA q),(df t s),(ae a n c),(iA n),(iA i),(ae b m d),(iA m),(aE (ai ak ((j:Int)+1)))] f)) (ct (jg (nR a n c k r q e o p) v) x [(pA k),(pA r),(ae e o p),(pA q),(ae a n c),(iA n),(aE (ai ak ((i:Int)+1)))] h))(g:Nat){j:Nat}{h:au}(A:l g j h):cw mW (pq 324399) (se a n c k r q t s e o p b m d i j) h (fQ mW (pq 755) (pq 303) (RR mW (pq 303) (jg (nR a n c k r q e o p) v) x (eu mW (pq 175) Q))):=
 gm (se a n c k r q t s e o p b m d i) l (λg j M h A=>bD (step g j M h A)) g A
noncomputable def B0:FD:=gU Tryz.f39 [((pq 607),[1,2,5,25,26,27])]
abbrev qL(k b:Nat)(a:OA)(n c:Nat)(i:Nat)(t:OA)(tn tc:Nat):LV:=[(pA k),(pA b),(ae t tn tc),(ae a n c),(iA n),(iA i)]
theorem Yf(l:LV)(h:au)(Q:VH)(x:xN (jY aq 24 (al ⟨l⟩)) h λB b=>xN (cP aq 24) b λC m=>xA (aS aq 24 m (pA (h.aD))) λy=>aX 30 [(al ⟨y⟩)] m λu d=>yB u λw=>cq (!w) (xA (cJ aq 24 []) λv=>xU (bh aq 24 (pA (b.aD)) (al ⟨v⟩) d) d λA r=>jq SS [((pA (b.aD)),aa 24),((aE 1),none)] r Q) (xA (aS aq 24 d (pA (h.aD))) λt=>aX 96 [(al ⟨t⟩)] d λs a=>yL s λf g e=>kM 24 (pA (h.aD)) 1 a λp=>qX xB 68 (ae f g e) (aE p) 4 a λn=>cq (!n) (kM 24 (pA (h.aD)) 0 a λq=>aX 97 [(aE q)] a λk i=>∃c:LV,∃j:Int,k=(av ⟨[(al ⟨c⟩),(aE j)]⟩)/\xU (bh aq 24 (pA (b.aD)) (al ⟨c⟩) i) i λz o=>jq SS [((pA (b.aD)),aa 24),((aE j),none)] o Q) (cw B0 (pq 607) (qL (h.aD) (b.aD) f g e 0 none 0 0) a (eu B0 (pq 351) Q)))):aX 39 [(al ⟨l⟩)] h Q:=hH B0 Tryz.func39 (bD x)
theorem Dq(E:LV)(k d:Nat)(a:OA)(n c:Nat)(b:Nat->Nat->OA->Nat->Nat->au->Prop)(Q:VH)(step:∀(mz:Nat) (i:Nat) (t:OA) (tn tc:Nat) (z:Nat->ag) (h:au),b mz i t tn tc h->(λ(w:ag->au->Prop)=>cq (decide ((i:Int)<(n:Int))) (qX xB 68 (ae a n c) (iA i) 4 h λs=>cq s (xR (bS aq 27 1 [(0,(iA i))]) h λD v x e=>xE (cG aq 27 27 (ae t tn tc) (sA (h.aD) v x) e) e λo u j C m=>w (ae o u j) m) (w (ae t tn tc) h)) (xA (aS aq 24 h (pA k)) λq=>aX 98 [(al ⟨q⟩),(ae t tn tc)] h λr f=>yA r λy=>xU (bh aq 24 (pA d) (al ⟨y⟩) f) f λB p=>jq SS [((pA d),aa 24),((aE 0),none)] p Q)) (λl A=>ct (Ky (qL k d a n c) b) mz [(pA k),(pA d),l,(ae a n c),(iA n),(aE (ai ak ((i:Int)+1)))] A))(mz:Nat){i:Nat}{t:OA}{tn tc:Nat}{h:au}(g:b mz i t tn tc h):cw B0 (pq 607) (qL k d a n c i t tn tc) h (eu B0 (pq 351) Q):=
 JX (qL k d a n c) b (λmz i t tn tc z h g=>bD (step mz i t tn tc z h g)) mz g
theorem WM{v:Nat}(a:v<4294967296):(((cZ (dr aw) (v:Int)&&&cZ (dr aw) 4294967295).toNat:Nat):Int)=(v:Int):=by
 have e:dr aw=64:=rfl;rw[e,BitVec.toNat_and];have b:(cZ 64 (v:Int)).toNat=v:=by
  rw[BitVec.toNat_ofInt];omega
 have c:(cZ 64 4294967295).toNat=2^32-1:=rfl;rw[b,c,Nat.and_two_pow_sub_one_eq_mod,ef a]
theorem ZF{v:Nat}(a:v<4294967296):ca aq .shr 240 (bA (v:Int)) (bA 32)=aa (bA ((0:Nat):Int)):=by
 have e:((v:Int)).fdiv (2^(min ((32:Int)).toNat (dr aw)))=((0:Nat):Int):=by
  rw[show min ((32:Int)).toNat (dr aw)=32 from rfl,Int.fdiv_eq_ediv_of_nonneg _ (by decide),show(2:Int)^32=4294967296 from rfl];omega
 show(if(0:Int)<=32 then aa (aC aw (((v:Int)).fdiv (2^(min ((32:Int)).toNat (dr aw)))))else none)=_;rw[iP (by decide),e]
theorem UA(b:n<4294967296)(h:au):aX 197 [bA 1,bA (n:Int)] h (λv m=>v=av ⟨[bA 0,bA (n:Int)]⟩/\m=h):=by
 refine Ym 1 (n:Int) h _ ?_;have a:∀z:Nat,z<4294967296->ai aw (z:Int)=(z:Int):=λz r=>jB (by omega) (by omega);have f:(((cZ (dr aw) 1&&&cZ (dr aw) 4294967295).toNat:Nat):Int)=((1:Nat):Int):=WM (v:=1) (by decide);have d:=WM b;have q:=ZF (v:=1) (by decide);have e:=ZF b;have i:=ZF (v:=0) (by decide);have k:=WM (v:=0) (by decide);have o:ai aw (((1:Nat):Int)*(n:Int))=(n:Int):=by rw[show((1:Nat):Int)*(n:Int)=((n:Nat):Int) by omega];exact a n b
 have g:ai aw (((0:Nat):Int)*(n:Int))=((0:Nat):Int):=by rw[show((0:Nat):Int)*(n:Int)=((0:Nat):Int) by omega];exact a 0 (by decide)
 have c:ai aw (((0:Nat):Int)+((0:Nat):Int))=((0:Nat):Int):=a 0 (by decide);have p:ai aw (((1:Nat):Int)*((0:Nat):Int))=((0:Nat):Int):=a 0 (by decide);have l:ai aw (((0:Nat):Int)*((0:Nat):Int))=((0:Nat):Int):=a 0 (by decide);have j:ai aw ((1:Int)*(n:Int))=(n:Int):=by rw[Int.one_mul];exact a n b
 refine⟨((0:Nat):Int),q,((0:Nat):Int),e,((0:Nat):Int),?_,((0:Nat):Int),?_,((0:Nat):Int),?_,?_⟩
 ·rw[f,d,a 1 (by decide),a n b,o];exact e
 ·rw[d,a n b,g,c];exact i
 ·rw[f,d,a 1 (by decide),a n b,g,c,k,a 0 (by decide),p,c];exact i
 ·rw[l,c];dsimp only;rw[c,j];exact⟨rfl,rfl⟩
theorem WX(b:n<4294967296)(h:au):aX 164 [bA 1,bA (n:Int)] h (λv a=>v=av ⟨[bA 0,bA (n:Int)]⟩/\a=h):=by
 refine aaY 1 (n:Int) h _ ((UA b h).mono ?_);rintro _ _ ⟨rfl,rfl⟩;exact⟨_,_,rfl,rfl,rfl⟩
theorem ZH{cs:List ag}(c:h.get n=aa (.cells cs 3 1 af))(g:cs.length=m)(f:m<fg)(i:j<=m):
  dN aq 27 (sA n m m) (aa (aE (j:Int))) none none h=aa (gJ n j (m-j) (m-j))/\
  dN aq 27 (sA n m m) none (aa (aE (j:Int))) none h=aa (sA n j m):=by
 have a:dw m=m:=by unfold dw;rw[iN (by omega)]
 constructor
 ·unfold dN;dsimp only;rw[me];dsimp only[iY];rw[IS,c];dsimp only;rw[iP (by omega),a,iP (by omega)];have d:((j:Int)).toNat=j:=by omega
  have b:((m:Int)-(j:Int)).toNat=m-j:=by omega
  rw[d,b,dB,bJ]
 ·unfold dN;dsimp only;rw[me];dsimp only[iY];rw[IS,c];dsimp only;rw[iP (by omega),a,iP (by omega)];have b:((j:Int)-((0:Nat):Int)).toNat=j:=by omega
  have e:((0:Nat):Int).toNat=0:=rfl;rw[b,e];rfl
theorem Si{c:Nat}{cs:List ag}(p:h.get m=aa (.cells cs 3 1 af))(s:i+n<=cs.length){b:ag}{a:List ag}(j:gZ h 1 b=aa (a,k))(t:a.length=k)(r:n≠0)(q:k≠0)(f:a.all eZ=af):
  copyV aq 27 (gJ m i n c) b h=aa (aE ((min k n:Nat):Int),.set m (.cells (cs.take i++a.take (min k n)++cs.drop (i+min k n)) 3 1 af)):=by
 have o:=Nat.min_le_right k n;have g:=Nat.min_le_left k n;have d:(a.take (min k n)).length=min k n:=by rw[bq];omega
 have e:(a.take (min k n)).all eZ=af:=bY.2 λx l=>bY.1 f x (dy l);unfold copyV;rw[me];dsimp only;rw[IS];dsimp only;rw[j];dsimp only;rw[iN (by omega),dB];unfold storeAt;rw[p];dsimp only;rw[iP ⟨by omega,e⟩,d];rfl
def po(x z:ag)(j n:Nat):List ag:=aQ j x++aQ (n-j) z
theorem T8{x z:ag}(c:j<=n):(po x z j n).take j++(aQ j x).take (min j (n-j))++(po x z j n).drop (j+min j (n-j))=po x z (j+min j (n-j)) n:=by
 have b:=Nat.min_le_right j (n-j);have a:=Nat.min_le_left j (n-j);generalize min j (n-j)=m at*;unfold po;rw[List.take_append_of_le_length (by simp),bC (by simp),List.take_replicate,dI a,List.drop_append,bV (by simp),dL,bX,List.drop_replicate,List.replicate_append_replicate];congr 1;congr 1;omega
theorem Mj(w:Wf h){d n:Nat}(C:h.get d=aa (.cells [aE (-1)] 3 1 af))(K:n<=100000):aX 135 [sA d 1 1,aE (n:Int)] h (λv y=>∃o,v=sA o n n/\ur h o 3 (aQ n (aE (-1))) y):=by
 have M:ai aw (n:Int)=(n:Int):=jB (by omega) (by omega);have D:ai aw ((1:Nat):Int)=((1:Nat):Int):=jB (by omega) (by omega);have E:ai ak (n:Int)=(n:Int):=cd (by omega) (by omega);refine VD (aa ⟨d,0,none⟩) 1 1 (n:Int) h _ (az (λg=>?_) (λ_=>?_))
 ·have g:=dT g;omega
 rw[M,D];refine(WX (by omega) h).mono ?_;rintro _ S ⟨rfl,Q⟩;rw[Q];refine⟨_,_,rfl,az (λg=>?_) (λ_=>az (λg=>?_) (λ_=>?_))⟩
 ·exact absurd (dT g) (by omega)
 ·have g:=dT g;omega
 rw[E];have G:=agt n K;rw[show(aQ n 0).map iv=po (aE (-1)) (aE 0) 0 n by unfold po;rw[jO];rfl]at G;refine⟨_,_,_,G,?_⟩;have r:=(Ok.refl w).push (.cells (po (aE (-1)) (aE 0) 0 n) 3 1 af);have A:=cT h (.cells (po (aE (-1)) (aE 0) 0 n) 3 1 af);have u:=r.ext _ _ C;generalize h.push (.cells (po (aE (-1)) (aE 0) 0 n) 3 1 af)=g at*;have f:∀j,j<=n->(po (aE (-1)) (aE 0) j n).length=n:=λj H=>by unfold po;simp;omega
 have p:∀(j:Nat)(g:au),j<=n->(j=0->n=0)->ur h h.aD 3 (po (aE (-1)) (aE 0) j n) g->cw rC (pq 575) [(sA (h.aD) n n),(aE (j:Int))] g (fQ rC (pq 319) [] (mK rC λv y=>∃o,v=sA o n n/\ur h o 3 (aQ n (aE (-1))) y)):=by
  intro j g H t a;refine CA (aa ⟨d,0,none⟩) 1 1 (n:Int) (aa ⟨h.aD,0,none⟩) n n (λmz j g=>∃i:Nat,j=(i:Int)/\i<=n/\(i=0->n=0)/\mz=n-i/\ur h h.aD 3 (po (aE (-1)) (aE 0) i n) g) _ (λmz j=>?_) (n-j) (j:=(j:Int)) ⟨j,rfl,H,t,rfl,a⟩;intros;rename_i z O;obtain⟨i,rfl,k,R,rfl,a⟩:=O;refine az (λq=>?_) (λq=>?_)
  ·have q:=dT q;have B:=(Ok.refl a.ok.wf).room 10;have s:=B.ext _ _ a.row;obtain⟨P,N⟩:=ZH s (f i k) (by unfold fg;omega) k;have F:gZ (Go.Ab.room z 10) 1 (sA h.aD i n)=aa (aQ i (aE (-1)),i):=by
    show(match (Go.Ab.room z 10).get h.aD with|some (.cells cs ..)=>if((cs.drop 0).take (i*1)).length=i*1 then aa ((cs.drop 0).take (i*1),i)else none|_=>none)=_;rw[s];dsimp only;rw[dB,bO,iP (by rw[bq,f i k];omega)];unfold po;rw[List.take_append_of_le_length (by simp),bC (by simp)]
   have b:=Si (c:=n-i) s (by rw[f i k];omega) (i:=i) (n:=n-i) F (by simp) (by omega) (by omega) (bY.2 λx u=>by rw[List.eq_of_mem_replicate u];rfl);rw[T8 k]at b;refine⟨_,_,_,P,_,_,_,N,_,_,b,?_⟩;have L:min i (n-i)<=n-i:=Nat.min_le_right _ _;have I:0<min i (n-i):=by omega
   have J:min i (n-i)<=i:=Nat.min_le_left _ _;generalize min i (n-i)=m at*;dsimp only;rw[show ai ak ((i:Int)+(m:Int))=((i+m:Nat):Int) by rw[cd (by omega) (by omega)];omega];refine fC (n-(i+m)) (by omega) ⟨i+m,rfl,by omega,by omega,rfl,?_,a.new,?_⟩
   ·show((Go.Ab.room z 10).set h.aD _).get h.aD=_;rw[au.cE,iP rfl]
   ·exact(a.ok.trans B).set _ (aT _) (B.wf _ _ s) w
  ·have q:=dF q;obtain rfl:i=n:=by omega
   refine⟨h.aD,rfl,?_⟩;have e:po (aE (-1)) (aE 0) i i=aQ i (aE (-1)):=by unfold po;rw[Nat.sub_self];simp
   rw[e]at a;exact a
 have l:gZ g 1 (sA d 1 1)=aa ([aE (-1)],1):=by
  show(match g.get d with|some (.cells cs ..)=>if((cs.drop 0).take (1*1)).length=1*1 then aa ((cs.drop 0).take (1*1),1)else none|_=>none)=_;rw[u];rfl
 by_cases t:n=0
 ·subst t;have b:copyV aq 27 (sA h.aD 0 0) (sA d 1 1) g=aa (aE 0,.no):=by
   unfold copyV;rw[me];dsimp only;rw[IS];dsimp only;rw[l];dsimp only;rw[iP (.inl rfl)]
  exact⟨_,_,b,p 0 _ (aT _) (λ_=>rfl) ⟨A,aT _,r⟩⟩
 ·have b:=Si (c:=n) A (by rw[f 0 (by omega)];omega) (i:=0) (n:=n) l rfl t (by decide) rfl;have e:(po (aE (-1)) (aE 0) 0 n).take 0++([aE (-1)]:List ag).take (min 1 n)++(po (aE (-1)) (aE 0) 0 n).drop (0+min 1 n)=po (aE (-1)) (aE 0) 1 n:=by
   rw[show min 1 n=1 by omega];unfold po;rw[List.drop_append];simp
  rw[e,show min 1 n=1 by omega]at b;refine⟨_,_,b,p 1 _ (by omega) (by omega) ⟨?_,aT _,r.set _ (aT _) (r.wf _ _ A) w⟩⟩;show(g.set h.aD _).get h.aD=_;rw[au.cE,iP rfl]
section
def qc:eA:= .cells [aE 0,aE 0,strOf [],nA] 24 0 af
theorem FQ:cP aq 24=aa (qc,m4):=by rfl
theorem afJ(k s:Int)(l:List UInt8)(a:Option aJ)(n c:Nat):cJ aq 24 [(0,(aE k)),(1,(aE s)),(2,(strOf l)),(3,(ae a n c))]=aa (al ⟨[aE k,aE s,strOf l,ae a n c]⟩):=by cases a<;>kernel_rfl
theorem JC(M:cm)(a:Option aJ)(n c:Nat):(cU M a n c).all eZ=af:=by rfl
section
variable {hb g g':au} {k8 k22 N:Nat} {M':cm} {ps:List (il×ag)}
structure yZ(hb:au)(k8 k22 N:Nat)(M':cm)(ps:List (il×ag))(g:au):Prop where
 own:nI hb g (sA k22 N N) ps
 ok:Ok hb g
 box:g.get k8=aa (Bm M' (aa ⟨k22,0,none⟩) N N)
 hi:∀(i:Nat)(p:il×ag),ps[i]?=aa p->∀j,fJ p.2=aa j->k8<j
 nk:k22≠k8
theorem yZ.ext(r:yZ hb k8 k22 N M' ps g)(o:Ok g g'):yZ hb k8 k22 N M' ps g':=⟨r.own.ok o,r.ok.trans o,o.ext _ _ r.box,r.hi,r.nk⟩
theorem yZ.l3(r:yZ hb k8 k22 N M' ps g):aS aq 22 g (df k8 3)=aa (sA k22 N N):=ej zp EO r.box (by simp[cU])
theorem yZ.all(r:yZ hb k8 k22 N M' ps g):aS aq 24 g (pA k8)=aa (al ⟨cU M' (aa ⟨k22,0,none⟩) N N⟩):=jr tG tE js r.box (by simp[cU])
theorem yZ.VP(w:Wf hb)(r:yZ hb k8 k22 N M' ps g){i:Nat}{p:il×ag}(d:ps[i]?=aa p)(f:List UInt8):
  ∃u:ek,bh aq 9 (df k22 (i*2+0)) (strOf f) g=aa (undef,u)/\yZ hb k8 k22 N M' (ps.set i (⟨f,p.1.bB⟩,p.2)) (u.app g)/\g.aD<=(u.app g).aD:=by
 obtain⟨u,c,l,h,m,n⟩:=r.own.VP w r.ok d f;rw[bJ]at c;refine⟨u,c,⟨l,h,m _ _ r.box r.nk,λj q a k b=>?_,r.nk⟩,Nat.le_of_eq n.symm⟩;rcases dV a with⟨_,e⟩|⟨_,a⟩
 ·rw[e]at b;exact r.hi i p d k b
 ·exact r.hi j q a k b
theorem yZ.arc(w:Wf hb)(r:yZ hb k8 k22 N M' ps g){i:Nat}{p:il×ag}(d:ps[i]?=aa p){q:eC}{C:Nat}(o:g.get C=aa (.cells (iU q) 46 4 af))(G:p.1.bB.length<=100000):
  ∃(x:Option aJ)(y z:Nat),aS aq 42 g (df k22 (i*2+1))=aa (ae x y z)/\p.2=ae x y z/\∃(b:Option aJ)(n c:Nat)(u:ek),cG aq 42 42 (ae x y z) (sA C 1 1) g=aa (ae b n c,u)/\
   ∃f:ek,bh aq 42 (df k22 (i*2+1)) (ae b n c) (u.app g)=aa (undef,f)/\yZ hb k8 k22 N M' (ps.set i (⟨p.1.f,p.1.bB++[q]⟩,ae b n c)) (f.app (u.app g)):=by
 obtain⟨L,l,_⟩:=r.own.at_ d;rw[bJ]at L l;have t:=r.own.bB i p d;obtain⟨x,z,e⟩:=t.tB;obtain⟨b,n,c,u,s,J,F,v,B,P⟩:=WU w r.ok t o G;obtain⟨f,A,K,E,H,M⟩:=r.own.ah1 w F d v J B r.ok.wf;rw[bJ]at A;rw[e]at s l;refine⟨x,_,z,l,e,b,n,c,u,s,f,A,⟨K,E,H _ _ (v _ _ r.box (λD=>by have:=r.hi i p d _ D;omega)) r.nk,λj I a k m=>?_,r.nk⟩⟩;have O:k8<g.aD:=r.ok.wf _ _ r.box;rcases dV a with⟨_,e⟩|⟨_,a⟩
 ·rw[e]at m;rcases B k m with h|h
  ·omega
  ·exact r.hi i p d k h
 ·exact r.hi j I a k m
end
theorem AB.ah5{hb g:au}(w:Wf hb)(a:Ok hb g){k:Nat}{q:eC}(b:AB g k q)(c:hb.aD<=k)(z:Int):∃u:ek,bh aq 3 (df k (0+3)) (aE z) g=aa (undef,u)/\Ok hb (u.app g)/\AB (u.app g) k ⟨q.i,q.o,q.w,z⟩:=by
 refine⟨_,kG IS b (by simp[iU]) rfl rfl,a.set _ c (a.wf _ _ b) w,?_⟩;show(g.set k _).get k=_;rw[au.cE,iP rfl];rfl
theorem AB.all{g:au}{q:eC}(b:AB g k q):aS aq 46 g (pA k)=aa (al ⟨iU q⟩):=jr afj adW Th b (by simp[iU])
def Yt(N:Nat)(ord:List Nat):List ag:=(dA N).map λx=> aE (kA ord 0 x)
theorem SQ(N:Nat)(ord:List Nat):(Yt N ord).length=N:=by simp[Yt]
theorem acg(N:Nat):Yt N []=aQ N (aE (-1)):=by
 refine dH λi=>?_;unfold Yt;rw[getElem?_map,getElem?_replicate];by_cases h:i<N
 ·rw[List.getElem?_range h,iP h];rfl
 grind
theorem Yu{N:Nat}{ord:List Nat}{s:Nat}(b:s∉ord):Yt N (ord++[s])=(Yt N ord).set s (aE ((ord.length:Nat):Int)):=by
 refine dH λi=>?_;unfold Yt;rw[getElem?_set,getElem?_map,getElem?_map,aH,List.length_range];by_cases h:i<N
 ·rw[List.getElem?_range h];simp only[gf];rw[JH _ _ _ _ b,bJ];by_cases a:i=s
  ·rw[iP a,iP a.symm,iP (by omega)]
  ·rw[iN a,iN (λe=>a e.symm)]
 grind
theorem QM{g:au}{N c:Nat}{ord:List Nat}(d:g.get j=aa (.cells (Yt N ord) 3 1 af)){x:Nat}(b:x<N):aW aq 27 (sA j N c) (aE (x:Int))=aa (df j x)/\aS aq 3 g (df j x)=aa (aE (kA ord 0 x)):=by
 have a:=GI (P:=aq) me IS (k:=j) (off:=0) (n:=N) (c:=c) (ik:= ak) (i:=(x:Int)) (by omega) (by omega);rw[bc,bJ,dB]at a;refine⟨a,?_⟩;rw[ej zs zb d (by rw[SQ];exact b)]
 grind[Yt]
theorem JG:∀{l:List Nat},l.Nodup->∀{i j x:Nat},l[i]?=aa x->l[j]?=aa x->i=j
 |[],_,i,j,x,h,_=>by grind
 |y::l,a,0,0,x,_,_=>rfl
 |y::l,a,0,j+1,x,h,b=>by grind
 |y::l,a,i+1,0,x,h,b=>by grind
 |y::l,a,i+1,j+1,x,h,b=>by
  exact congrArg (· + 1) (JG (List.nodup_cons.1 a).2 (x:=x) (by grind) (by grind))
theorem sF:∀(N:Nat){l:List Nat},l.Nodup->(∀x∈l,x<N)->l.length<=N
 |0,l,_,h=>by
  cases l with
  |nil=>grind
  |cons x l=>exact absurd (h x (cj ..)) (dR _)
 | N+1,l,a,h=>by
  by_cases c:N∈l
  ·have e:=List.length_erase_of_mem c;have f:=sF N (a.erase N) (λx b=>by
    have d:=(a.mem_erase_iff).1 b;have:=h x d.2;omega)
   omega
  ·exact Nat.le_succ_of_le (sF N a λx b=>by grind)
theorem Tk{g:au}(w:Wf g){n i j:Nat}(b:i<n)(c:j<n)(d:i≠j)(A B:eA):Ok g (cr (Go.Ab.room g n) g.aD [(j,B),(i,A)])/\(cr (Go.Ab.room g n) g.aD [(j,B),(i,A)]).get (g.aD+i)=aa A/\(cr (Go.Ab.room g n) g.aD [(j,B),(i,A)]).get (g.aD+j)=aa B:=by
 have a:Ok g ((Go.Ab.room g n).set (g.aD+i) A):=((Ok.refl w).room n).set A (du _ _) (Nat.add_lt_add_left b _) w;refine⟨a.set B (du _ _) (Nat.add_lt_add_left c _) w,?_,?_⟩
 ·show(((Go.Ab.room g n).set (g.aD+i) A).set (g.aD+j) B).get (g.aD+i)=_
  simp_all[au.cE]
 ·show(((Go.Ab.room g n).set (g.aD+i) A).set (g.aD+j) B).get (g.aD+j)=_;rw[au.cE,iP rfl]
def IL(M:cm)(ord:List Nat)(i:Nat):List il:=(ord.take i).map (wq M ord)++aQ (ord.length-i) ME.1
theorem Vz(M:cm)(ord:List Nat):IL M ord 0=aQ ord.length ME.1:=by rfl
theorem Vx(M:cm)(ord:List Nat):IL M ord ord.length=ord.map (wq M ord):=by simp[IL]
theorem S5{M:cm}{ord:List Nat}(a:i<ord.length):(IL M ord i)[i]?=aa ME.1:=by
 unfold IL
 grind
theorem Vy{M:cm}{ord:List Nat}{s:Nat}(a:ord[i]?=aa s):(IL M ord i).set i (wq M ord s)=IL M ord (i+1):=by
 have c:i<ord.length:=(List.getElem?_eq_some_iff.1 a).1;unfold IL;have b:((ord.take i).map (wq M ord)).length=i:=by simp;omega
 rw[List.set_append,iN (by omega),b,Nat.sub_self,fM,a,bK,bP];congr 1;rw[show ord.length-i=(ord.length-(i+1))+1 by omega,List.replicate_succ,List.set_cons_zero];rfl
theorem nI.low{h hb g g':au}{ps:List (il×ag)}(m:nI hb g v ps)(o:Ok h hb)(s:∀j B,g.get j=aa B->hb.aD<=j->g'.get j=aa B):nI h g' v ps:=by
 have a:∀{e:aF}{b:Nat}{v:ag}{d:List (List ag)},kK hb g e b v d->kK h g' e b v d:=λ{e b v d} r=>by
  obtain⟨f,r|⟨k,l,cs,c,t,n,q,u⟩⟩:=r
  ·exact⟨f,.inl r⟩
  ·exact⟨f,.inr ⟨k,l,cs,c,t,bN o.nx n,s _ _ q n,u⟩⟩
 exact⟨a m.row,λi p w=>a (m.bB i p w),m.ne,m.Wo⟩
section
variable {h:au} {M:cm} {a:Option aJ} {n c:Nat} {b:Option aJ} {m d:Nat} {ord:List Nat}
def Md(M:cm)(ord:List Nat)(i j:Nat)(s:il):List il:=(IL M ord i).set i ⟨s.f,(s.bB.take j).filterMap (nh ord)⟩
def rP2(hb:au)(M:cm)(ord:List Nat)(k8 k22:Nat)(a i:Nat)(g:au):Prop:=i<=ord.length/\a=ord.length-i/\∃ps,ps.map (·.1)=IL M ord i/\yZ hb k8 k22 ord.length (nZ M ord) ps g
def rP3(hb:au)(M:cm)(ord:List Nat)(k8 k22 i:Nat)(s:il)(a j:Nat)(g:au):Prop:=j<=s.bB.length/\a=s.bB.length-j/\∃ps,ps.map (·.1)=Md M ord i j s/\yZ hb k8 k22 ord.length (nZ M ord) ps g
theorem M1{M:cm}{ord:List Nat}{s:il}{q:eC}(b:s.bB[j]?=aa q)(c:i<ord.length):Md M ord i (j+1) s=(match nh ord q with|none=>Md M ord i j s|some a=>(Md M ord i j s).set i ⟨s.f,(s.bB.take j).filterMap (nh ord)++[a]⟩):=by grind[fM,set_set,Md]
theorem acE{M:cm}{ord:List Nat}{s:il}(a:i<ord.length):(Md M ord i j s)[i]?=aa ⟨s.f,(s.bB.take j).filterMap (nh ord)⟩:=by
 unfold Md;rw[getElem?_set,iP rfl,iP]
 grind[S5]
theorem Yg{ps:List (il×ag)}{L:List il}(h:ps.map (·.1)=L){i:Nat}{s:il}(a:L[i]?=aa s):∃p,ps[i]?=aa p/\p.1=s:=by grind
set_option linter.defProp false in
def QD{hb h0:au}(w:Wf hb)(gd:Good M){k k4 k8 k22 T:Nat}(R:MB h0 k M a n c)(o0:Ok h0 hb)(hn:n<=300)(nb:hb.get T=aa (.cells (Yt n ord) 3 1 af)){i x:Nat}{s:il}(F:ord[i]?=aa x)(hs:M.aI[x]?=aa s)(x9:s.bB.length<=2000)(x5:ord.length<=300){O:Option aJ}{L E:Nat}(B:kS hb (ae O L E) s.bB)(e:Option aJ)(en ec:Nat)(t:Nat)(y0:t=ord.length-i)(mv:List ag)(Q:VH):=
 EY mv b m d k k4 k8 k22 (i*2) (aa ⟨T,0,none⟩) n n O L E (rP2 hb M ord k8 k22) t i (rP3 hb M ord k8 k22 i s) Q (by
  intro x8 j;intros;rename_i g l;obtain⟨f1,rfl,ps,v,r⟩:=l;have S:i<ord.length:=(List.getElem?_eq_some_iff.1 F).1;have x4:n=M.aI.length:=R.len;have x6:=B.len;refine az (λo=>?_) (λo=>?_)
  ·have o:=dT o;obtain⟨q,G⟩:∃q,s.bB[j]?=aa q:=⟨_,gE (by omega)⟩
   obtain⟨bb,oo,d1,d2,d3,d4,d5,d6⟩:=(B.ok r.ok).at_ G;have l:=gd.bB s (aM hs) q (aM G);obtain⟨Y,hY⟩:∃Y:Nat,q.t=(Y:Int):=⟨q.t.toNat,by have:=l.t0;omega⟩
   have x0:Y<n:=by have:=l.t1;omega
   have P:=r.ok.wf;obtain⟨u,p1,C,p3⟩:=wo P q;refine⟨_,d1,_,d2,_,EP,u,p1,_,jh _ _,_,p3.l3,?_⟩;have D:=C.ext _ _ (r.ok.ext _ _ nb);generalize u.app (g.push Ks)=x2 at*;obtain⟨n1,n2⟩:=QM (c:=n) D x0;rw[hY];obtain⟨A,t1,t2,K⟩:=p3.ah5 P C (aT _) (kA ord 0 Y);refine⟨_,n1,_,n2,_,jh _ _,A,t1,_,jh _ _,_,K.l3,?_⟩;have f:=r.ext t2;generalize A.app x2=x7 at*;have J:ai ak ((j:Int)+1)=((j+1:Nat):Int):=cH (n:=s.bB.length) (by omega) (by omega);have z:s.bB.length-(j+1)<s.bB.length-j:=by omega
   have y:q.t.toNat=Y:=by omega
   refine az (λh=>?_) (λh=>?_)
   ·have h:¬kA ord 0 Y = -1:=by simpa using h
    have I:nh ord q=aa ⟨q.i,q.o,q.w,kA ord 0 Y⟩:=by unfold nh;rw[y,iN h]
    obtain⟨p,W,U⟩:=Yg v (acE (M:=M) (j:=j) (s:=s) S);obtain⟨o6,k6⟩:=Fl f.ok.wf (n:=11) (j:=6) (by omega) (.cells (iU ⟨q.i,q.o,q.w,kA ord 0 Y⟩) 46 4 af);have V:=(Ok.refl f.ok.wf).room 11;have H:=f.ext o6;have x3:p.1.bB.length<=2000:=by rw[U];exact bN (List.length_filterMap_le ..) (by rw[bq];omega)
    obtain⟨x1,y1,z1,a1,e1,b2,Z,c2,u3,a2,u4,a3,N⟩:=H.arc w W k6 (by omega);have X:=((f.ext V).own.at_ W).2.1;rw[bJ,e1]at X;refine⟨_,fG _ _,x1,y1,z1,X,_,(K.ok V).all,_,_,_,aea _,b2,Z,c2,u3,a2,_,fG _ _,u4,a3,?_⟩;dsimp only;rw[J];refine fC (s.bB.length-(j+1)) z ⟨by omega,rfl,_,?_,N⟩
    grind[map_set,M1]
   ·have h:kA ord 0 Y = -1:=by simpa using h
    have I:nh ord q=none:=by unfold nh;rw[y,iP h]
    rw[J];exact fC (s.bB.length-(j+1)) z ⟨by omega,rfl,ps,by grind[M1],f⟩
  ·have o:=dF o;rw[cH S (by omega)];refine fC (ord.length-(i+1)) (by omega) ⟨by omega,rfl,ps,?_,r⟩;rw[v,<-Vy F]
   grind[Md,wq])
theorem ab8(w:Wf h)(gd:Good M)(hN:M.aI.length<=300)(hA:∀s∈M.aI,s.bB.length<=2000)(r:eY h (ae a n c) M.aI)(Z:Rd h 3 (ae b m d) (ord.map iv))(L:D4 M.aI.length ord):aX 98 [al ⟨cU M a n c⟩,ae b m d] h (agD h (nZ M ord)):=by
 obtain⟨V,E⟩:=jZ w r;have y7:n=M.aI.length:=V.len;have hm:m=ord.length:=by have:=Z.len;rwa[aH]at this
 have x4:ord.length<=300:=by
  have:=sF M.aI.length L.nd L.lt;omega
 refine ab7 (cU M a n c) b m d h _ ⟨_,kW M a n c,_,FQ,_,_,_,Bw _,?_⟩;have X:=E.push qc;have k4:=cT (h.push (Bm M a n c)) qc;have y0:=V.ok ((Ok.refl E.wf).push qc);have n4:h.aD<=(h.push (Bm M a n c)).aD:=E.nx;generalize h.push (Bm M a n c)=g0 at*;generalize z3:g0.aD=O at*;generalize g0.push qc=g4 at*;have o8:=(Ok.refl X.wf).push (.cells [aE (-1)] 3 1 af);have D:=X.trans o8;have kx:=cT g4 (.cells [aE (-1)] 3 1 af);have W:=y0.ok o8;have P:=o8.ext _ _ k4;generalize g4.push (.cells [aE (-1)] 3 1 af)=g8 at*;refine⟨_,dC _,_,_,_,W.l3,(Mj D.wf kx (n:=n) (by omega)).mono ?_⟩;rintro _ g9 ⟨kn,rfl,k⟩;refine⟨_,_,_,rfl,?_⟩;rw[<-acg n]at k;have mx:∀{i x:Nat},ord[i]?=aa x->x<n:=λq=>by have:=L.lt _ (aM q);omega
 refine EW (cU M a n c) b m d h.aD O (aa ⟨kn,0,none⟩) n n (λmz i g=>i<=m/\mz=m-i/\ur g8 kn 3 (Yt n (ord.take i)) g) _ (λmz i=>?_) m (i:=0) ⟨ck _,rfl,k⟩;intros;rename_i g F;obtain⟨f1,rfl,k⟩:=F;have f:=D.trans k.ok;refine az (λI=>?_) (λI=>?_)
 ·have I:=dT I;obtain⟨x,q⟩:∃x,ord[i]?=aa x:=⟨_,gE (by omega)⟩
  obtain⟨p,e1,e2⟩:=atG (Z.ok f) q;have R:=mx q;obtain⟨n1,_⟩:=QM (c:=n) k.row R;have st:=kG (t:=3) IS k.row (i:=x) (by grind[SQ]) (v:= aE (i:Int)) rfl rfl;have y1:x∉ord.take i:=λx0=>by
   obtain⟨j,N,e⟩:=List.mem_iff_getElem.1 x0;rw[bq]at N;rw[List.getElem_take]at e;have e':ord[j]?=aa x:=by rw[gE (by omega),e]
   have:=JG L.nd e' q;omega
  have hl:(ord.take i).length=i:=by rw[bq];omega
  refine⟨_,e1,_,e2,_,n1,_,st,?_⟩;rw[cH (n:=m) (by omega) (by omega)];refine fC (m-(i+1)) (by omega) ⟨by omega,rfl,?_⟩;have e3:ord.take (i+1)=ord.take i++[x]:=by rw[fM,q];rfl
  rw[e3,Yu y1,hl];exact k.set D.wf x _
 ·have I:=dF I;obtain rfl:m=i:=by omega
  rw[bC (by omega)]at k;have A:=W.ok k.ok;have oR:=(Ok.refl f.wf).room 15;have H:=A.ok oR;have y6:=gd.uj;have y5:=gd.uk;obtain⟨S,hS⟩:∃S:Nat,M.start=(S:Int):=⟨M.start.toNat,by omega⟩
  have x8:S<n:=by omega
  have lS:=H.l1;rw[hS]at lS;obtain⟨n1,n2⟩:=QM (c:=n) (oR.ext _ _ k.row) x8;have mk:=ags m (by omega);refine⟨_,kZ _,_,H.l0,_,qk _,_,lS,_,n1,_,n2,_,Dj _,_,H.l2,_,_,_,mk,_,afJ _ _ _ _ _ _,_,FQ,?_⟩;obtain⟨o2,x3,U⟩:=Tk f.wf (n:=15) (i:=11) (j:=13) (by omega) (by omega) (by omega) (.cells ((aQ m ME).map rG).flatten 44 2 af) qc;have z5:=f.ext;generalize y8:cr (Go.Ab.room g 15) g.aD [(13,qc),(11,.cells ((aQ m ME).map rG).flatten 44 2 af)]=S2 at*;have pa:=ib (t:=24) js (cs0:=[aE 0,aE 0,strOf [],nA]) rfl U (cs:=[aE M.kind,aE (kA ord 0 S),strOf M.lead,sA (g.aD+11) m m]) rfl rfl;refine⟨_,pa,?_⟩;obtain⟨o3,y4⟩:=qq (cs:=[aE M.kind,aE (kA ord 0 S),strOf M.lead,sA (g.aD+11) m m]) f.wf o2 U (by omega);have x2:((ek.set (g.aD+13) (.cells [aE M.kind,aE (kA ord 0 S),strOf M.lead,sA (g.aD+11) m m] 24 0 af)).app S2).get (g.aD+11)=aa (.cells ((aQ m ME).map rG).flatten 44 2 af):=by
   show(S2.set (g.aD+13) _).get (g.aD+11)=_;rw[au.cE,iN (by omega)];exact x3
  generalize (ek.set (g.aD+13) (.cells [aE M.kind,aE (kA ord 0 S),strOf M.lead,sA (g.aD+11) m m] 24 0 af)).app S2=x7 at*;have y3:M.start.toNat=S:=by omega
  have l:yZ g (g.aD+13) (g.aD+11) m (nZ M ord) (aQ m ME) x7:=⟨nI.made x2 (by omega) (by omega),o3,by grind[Bm,cU,nZ],λi p hp j N=>(by
   rw[getElem?_replicate]at hp;split at hp
   ·obtain rfl:=aG hp;cases N
   grind),by omega⟩
  subst hm;refine EX (cU M a n c) b ord.length d h.aD O (g.aD+13) (aa ⟨kn,0,none⟩) n n (rP2 g M ord (g.aD+13) (g.aD+11)) _ (λy9 i=>?_) ord.length (i:=0) ⟨ck _,rfl,_,by rw[Vz,jO],l⟩;intros;rename_i gg F;obtain⟨f2,rfl,ps,C,l⟩:=F;have x5:=A.ok l.ok;refine az (λG=>?_) (λG=>?_)
  ·have G:=dT G;have hi:i<ord.length:=by omega
   obtain⟨x,q⟩:∃x,ord[i]?=aa x:=⟨_,gE hi⟩
   have R:=mx q;obtain⟨s,K⟩:=JD (M:=M) (i:=x) (by omega);obtain⟨p,e1,e2⟩:=atG (Z.ok (f.trans l.ok)) q;obtain⟨p0,T,x6⟩:=Yg C (S5 (M:=M) hi);obtain⟨i1,i2,i3⟩:=l.own.at_ T;rw[bJ]at i1;obtain⟨u,s1,J,_⟩:=l.VP f.wf T s.f;obtain⟨bb,o,x',y,z,j1,j2,j3,j4,ar⟩:=A.row.KM l.ok K;obtain⟨z4,o',z0,y2,z2,l1,l2,l3,l4,Q⟩:=A.row.KM J.ok K;have x1:=A.ok J.ok;refine⟨_,e1,_,e2,_,dC _,_,_,_,l.l3,_,i1,_,dC _,_,_,_,x5.l3,_,j1,_,pb _ _,_,j3,_,pb _ _,u,s1,_,dC _,_,_,_,x1.l3,_,l1,_,fG _ _,_,_,_,l4,?_⟩;refine QD (h0:=g) f.wf gd A (Ok.refl f.wf) (by omega) k.row q K (hA s (aM K)) x4 Q none 0 0 _ rfl (cU M a n c) _ y2 (j:=0) ⟨ck _,Q.len.trans rfl,_,?_,J⟩;rw[map_set,C];unfold Md;rw[dQ,x6];rfl
  ·have G:=dF G;obtain rfl:i=ord.length:=by omega
   rw[Vx]at C;have oG:=f.trans l.ok;have Y:=l.ok.ext _ _ (k.ok.ext _ _ P);have hK:O<g.aD:=f.wf _ _ (k.ok.ext _ _ P);have x9:=ib (t:=24) js (cs0:=[aE 0,aE 0,strOf [],nA]) rfl Y (cs:=cU (nZ M ord) (aa ⟨g.aD+11,0,none⟩) ord.length ord.length) rfl (JC _ _ _ _);obtain⟨o5,k5⟩:=qq (cs:=cU (nZ M ord) (aa ⟨g.aD+11,0,none⟩) ord.length ord.length) w oG Y (by omega);refine⟨_,l.all,_,x9,Np (v:= al ⟨cU (nZ M ord) (aa ⟨g.aD+11,0,none⟩) ord.length ord.length⟩) (jr tG tE js k5 (by simp[cU])) ?_⟩;refine⟨_,_,_,ps,rfl,by rw[C];rfl,?_,o5⟩;exact l.own.low f (λj B N z1=>by
    show(gg.set O _).get j=_;rw[au.cE,iN (by omega)];omega)
end
end
def jz(a:Int):List UInt8:=if a=1 then[48]else if a=2\/a=3 then[49]else[]
theorem abz(k:Nat):aY aq 100 (pA k) 1=aa (df k 1):=by kernel_rfl
theorem Mk(a:Int){h:au}(w:Wf h):aX 24 [aE a] h (λv s=>v=strOf (jz a)/\Ok h s):=by
 refine acG a h _ ((O0 a w).mono ?_);rintro _ g ⟨rfl,o⟩;have d:∀(c:List ag)(b:Bool),c.length=8->c.all eZ=af->c.getD 1 undef=strOf (jz a)->∃cs:List ag,∃t:Bool,(av ⟨[al ⟨c⟩,ah b]⟩)=(av ⟨[al ⟨cs⟩,ah t]⟩)/\∃B:eA,cP aq 100=aa (B,m4)/\∃u:ek,bh aq 100 (pA g.aD) (al ⟨cs⟩) (g.push B)=aa (undef,u)/\∃p:aJ,aY aq 100 (pA g.aD) 1=aa (bw p)/\∃l:List UInt8,aS aq 9 (u.app (g.push B)) (bw p)=aa (strOf l)/\(strOf l=strOf (jz a)/\Ok h (u.app (g.push B))):=by
  intro c b n q r;have j:=cT g ED;have k:=(Ok.refl o.wf).push ED;obtain⟨x,m⟩:=qq (cs:=c) o.wf k j (aT _);refine⟨c,b,rfl,ED,R6,_,ib HG rfl j n q,_,abz _,jz a,?_,rfl,o.trans x⟩;rw[ej RG WJ m (by omega),r]
 unfold ofV;split
 ·next e=>exact d Es af rfl rfl (by unfold jz;rw[iP e];rfl)
 ·next e=>
  split
  ·next f=>exact d Et af rfl rfl (by unfold jz;rw[iN e,iP (.inl f)];rfl)
  ·next f=>
   split
   ·next i=>exact d Eu af rfl rfl (by unfold jz;rw[iN e,iP (.inr i)];rfl)
   ·next i=>exact d rD aj rfl rfl (by unfold jz;rw[iN e,iN (by rintro(h|h)<;>contradiction)];rfl)
theorem acx(a:Int)(h:au):aX 60 [aE a] h (λv c=>v=strOf (jz a)/\c=h):=by
 refine acw a h _ ((Ep a h).mono ?_);rintro _ g ⟨rfl,rfl⟩;refine⟨_,rfl,az (λq=>?_) (λq=>?_)⟩
 ·refine⟨?_,rfl⟩;simp at q;unfold jz;rw[iN (by omega),iN (by omega)]
 ·simp at q;refine az (λb=>?_) (λb=>?_)
  ·have b:a=1:=by simpa using b
   refine⟨?_,rfl⟩;unfold jz;rw[iP b]
  ·have b:¬a=1:=by simpa using b
   refine⟨?_,rfl⟩;unfold jz;rw[iN b,iP (by omega)]
def OO(h:au)(R:cm×Int):VH:=λv b=>∃(a:Option aJ)(n c:Nat)(d:List (il×ag)),v=av ⟨[al ⟨cU R.1 a n c⟩,aE R.2]⟩/\d.map (·.1)=R.1.aI/\nI h b (ae a n c) d/\Ok h b
def jV:cm:=⟨0,0,[],[]⟩
def xl(a:Int):cm×Int:=if 1<=a/\a<=3 then(⟨a,0,jz a,[⟨[],[]⟩]⟩,0)else(jV,1)
theorem Ak:cJ aq 24 []=aa (al ⟨cU jV none 0 0⟩):=by kernel_rfl
theorem ad6(k:Int)(l:List UInt8)(a:Option aJ)(n c:Nat):cJ aq 24 [(0,(aE k)),(2,(strOf l)),(3,(ae a n c))]=aa (al ⟨[aE k,aE 0,strOf l,ae a n c]⟩):=by cases a<;>kernel_rfl
theorem CB(w:Wf h)(o:Ok h g){k:Nat}(f:g.get k=aa qc)(i:h.aD<=k){R:cm×Int}{a:Option aJ}{n c:Nat}{ps:List (il×ag)}(e:ps.map (·.1)=R.1.aI){d:au}(q:nI d g (ae a n c) ps)(r:Ok h d)(b:k<d.aD\/ps=[]/\a=none/\n=0/\c=0):
  ∃u:ek,bh aq 24 (pA k) (al ⟨cU R.1 a n c⟩) g=aa (undef,u)/\jq SS [(pA k,aa 24),(aE R.2,none)] (u.app g) (OO h R):=by
 refine⟨_,ib (t:=24) js (cs0:=[aE 0,aE 0,strOf [],nA]) rfl f (cs:=cU R.1 a n c) rfl (JC ..),?_⟩;obtain⟨l,m⟩:=qq (cs:=cU R.1 a n c) w o f i;refine uB (v:= al ⟨cU R.1 a n c⟩) (jr tG tE js m (by simp[cU])) ⟨a,n,c,ps,rfl,e,?_,l⟩;rcases b with b|⟨rfl,rfl,rfl,rfl⟩
 ·exact q.low r (λj B p s=>by
   show(g.set k _).get j=_;rw[au.cE,iN (by omega)];exact p)
 ·exact nI.nil _ _
theorem Ei(w:Wf h)(o:Ok h g){k:Nat}(d:g.get k=aa qc)(c:h.aD<=k){a:Int}(b:¬(1<=a/\a<=3)):∃cs:List ag,cJ aq 24 []=aa (al ⟨cs⟩)/\∃u:ek,bh aq 24 (pA k) (al ⟨cs⟩) g=aa (undef,u)/\jq SS [(pA k,aa 24),(aE 1,none)] (u.app g) (OO h (xl a)):=by
 have e:xl a=(jV,1):=by unfold xl;rw[iN b]
 rw[e];exact⟨_,Ak,CB w o d c (R:=(jV,1)) (ps:=[]) rfl (nI.nil h g) (Ok.refl w) (.inr ⟨rfl,rfl,rfl,rfl⟩)⟩
theorem QQ(w:Wf h)(o:Ok h g){k:Nat}(p:g.get k=aa qc)(j:h.aD<=k){b:au}(q:Wf b)(l:Ok h b)(r:Ok b g)(f:k<b.aD){c:Nat}(m:b.aD<=c)(d:g.get c=aa (.cells ((aQ 1 ME).map rG).flatten 44 2 af)){a:Int}(i:1<=a/\a<=3):
  ∃cs:List ag,cJ aq 24 [(0,(aE a)),(2,(strOf (jz a))),(3,(sA c 1 1))]=aa (al ⟨cs⟩)/\∃u:ek,bh aq 24 (pA k) (al ⟨cs⟩) g=aa (undef,u)/\jq SS [(pA k,aa 24),(aE 0,none)] (u.app g) (OO h (xl a)):=by
 have e:xl a=(⟨a,0,jz a,[⟨[],[]⟩]⟩,0):=by unfold xl;rw[iP i]
 rw[e];exact⟨_,ad6 _ _ _ _ _,CB w o p j (R:=(⟨a,0,jz a,[⟨[],[]⟩]⟩,0)) (ps:=[ME]) rfl (nI.made (hb:=b) (n:=1) d m (by omega)) l (.inl f)⟩
theorem Mo(w:Wf h){n j:Nat}(b:j<n)(o:Ok (Go.Ab.room h n) g)(B:eA):Ok h (cr g h.aD [(j,B)])/\(cr g h.aD [(j,B)]).get (h.aD+j)=aa B:=by
 have a:h.aD+n<=g.aD:=o.nx;refine⟨(((Ok.refl w).room n).trans o).set B (du _ _) (by omega) w,?_⟩;show(g.set (h.aD+j) B).get (h.aD+j)=_;rw[au.cE,iP rfl]
theorem N4(a:Int){h:au}(w:Wf h):aX 97 [aE a] h (OO h (xl a)):=by
 have b:=(Ok.refl w).push qc;have d:=cT h qc;refine N3 a h _ ⟨_,FQ,az (λq=>?_) (λq=>az (λc=>?_) (λc=>?_))⟩
 ·have q:=dT q;exact Ei w b d (aT _) (by omega)
 ·have c:=dT c;exact Ei w b d (aT _) (by omega)
 ·have q:=dF q;have c:=dF c;have m:(h.push qc).aD=h.aD+1:=rfl;generalize h.push qc=g at*;have l:=(Ok.refl b.wf).room 7;refine(Mk a l.wf).mono ?_;rintro _ o ⟨rfl,k⟩;obtain⟨e,i⟩:=Mo b.wf (n:=7) (j:=3) (by omega) k (.cells ((aQ 1 ME).map rG).flatten 44 2 af);have f:=e.ext _ _ d;refine⟨_,rfl,_,_,_,ags 1 (by omega),?_⟩;exact QQ w (b.trans e) f (aT _) b.wf b e (by omega) (by omega) i (by omega)
section
noncomputable def oz(M:cm):List Nat:=(dA M.aI.length).filter λx=>@decide (lX M x) (dU _)
noncomputable def jt(M:cm):cm×Int:=@ite _ (dO M=af) _ (@ite _ (lX M M.start.toNat) (dU _) (nZ M (oz M),0) (xl M.kind)) (jV,1)
theorem DQ{M:cm}(h:dO M=aj):jt M=(jV,1):=by unfold jt;rw[h];rfl
theorem AZ{M:cm}(h:dO M=af)(a:¬lX M M.start.toNat):jt M=xl M.kind:=by unfold jt;rw[iP h,iN a]
theorem HH{M:cm}(h:dO M=af)(a:lX M M.start.toNat):jt M=(nZ M (oz M),0):=by unfold jt;rw[iP h,iP a]
theorem sh(M:cm):D4 M.aI.length (oz M):=⟨λx a=>List.mem_range.1 (fe.1 a).1,List.nodup_range.filter _⟩
theorem acn{M:cm}{L:List Bool}(c:m=M.aI.length)(a:∀x,x<m->(L.getD x aj=af↔lX M x)):(dA m).filter (λx=>L.getD x aj)=oz M:=by
 unfold oz;subst c;refine List.filter_congr λx b=>?_;exact Xe (a x (List.mem_range.1 b))
section
variable {h:au} {M:cm} {a:Option aJ} {n c:Nat}
def UR(L:List Bool)(i:Nat):List Nat:=(dA i).filter λx=>L.getD x aj
theorem UT(L:List Bool)(i:Nat):UR L (i+1)=UR L i++(if L.getD i aj=af then[i]else[]):=by
 unfold UR;rw[List.range_succ,List.filter_append];congr 1;split<;>simp_all
theorem YH(L:List Bool)(i:Nat):(UR L i).length<=i:=by
 have:=List.length_filter_le (λx=>L.getD x aj) (dA i);rwa[List.length_range]at this
theorem aaf{h d:au}(w:Wf h)(o:Ok h g){b:Nat}(i:g.get b=aa qc)(e:h.aD<=b){R:cm}{v:ag}(k:agD g R v d):∃cs:List ag,v=al ⟨cs⟩/\∃u:ek,bh aq 24 (pA b) (al ⟨cs⟩) d=aa (undef,u)/\jq SS [(pA b,aa 24),(aE 0,none)] (u.app d) (OO h (R,0)):=by
 obtain⟨a,n,c,m,rfl,f,l,j⟩:=k;exact⟨_,rfl,CB w (o.trans j) (j.ext _ _ i) e (R:=(R,0)) f l o (.inl (o.wf _ _ i))⟩
theorem aag{h d:au}(w:Wf h)(o:Ok h g){b:Nat}(j:g.get b=aa qc)(f:h.aD<=b){R:cm×Int}{v:ag}(l:OO g R v d):∃cs:List ag,∃e:Int,v=av ⟨[al ⟨cs⟩,aE e]⟩/\∃u:ek,bh aq 24 (pA b) (al ⟨cs⟩) d=aa (undef,u)/\jq SS [(pA b,aa 24),(aE e,none)] (u.app d) (OO h R):=by
 obtain⟨a,n,c,p,rfl,i,m,k⟩:=l;exact⟨_,_,rfl,CB w (o.trans k) (k.ext _ _ j) f i m o (.inl (o.wf _ _ j))⟩
def tI(a:au)(L:List Bool)(n:Nat)(mz i:Nat)(t:Option aJ)(tn tc:Nat)(g:au):Prop:=i<=n/\mz=n-i/\od a g 3 (ae t tn tc) ((UR L i).map iv)/\Ok a g
theorem N5(tb:za h)(w:Wf h)(p:Small M)(r:eY h (ae a n c) M.aI):aX 39 [al ⟨cU M a n c⟩] h (OO h (jt M)):=by
 obtain⟨O,m⟩:=jZ w r;have G:n=M.aI.length:=O.len;have hn:n<=300:=by rw[G];exact p.AW
 refine Yf (cU M a n c) h _ ⟨_,kW M a n c,_,FQ,?_⟩;have n0:h.aD<=(h.push (Bm M a n c)).aD:=m.nx;generalize h.push (Bm M a n c)=Z at*;have k4:=cT Z qc;have o1:=(Ok.refl m.wf).push qc;have o:=m.trans o1;have y:=O.ok o1;generalize Z.push qc=g1 at*;generalize Z.aD=K at*;refine⟨_,y.all,(Dr (tb.ok o) o.wf p y.row).mono ?_⟩;rintro _ g2 ⟨rfl,Y⟩;have C:=o.trans Y;have x:=y.ok Y;have J:=Y.ext _ _ k4;refine⟨_,rfl,az (λq=>?_) (λq=>?_)⟩
 ·have q:dO M=aj:=by simpa using q
  rw[DQ q];exact⟨_,Ak,CB w C J n0 (R:=(jV,1)) (ps:=[]) rfl (nI.nil h g2) (Ok.refl w) (.inr ⟨rfl,rfl,rfl,rfl⟩)⟩
 have q:dO M=af:=by simpa using q
 have E:=jG q;have h0:=E.uj;have h1:=E.uk;refine⟨_,x.all,(Wd C.wf p E x.row).mono ?_⟩;rintro _ g3 ⟨kl,L,rfl,A,T⟩;have W:=A.row.ok;have d:=C.trans W;have B:=x.ok W;have I:=W.ext _ _ J;obtain⟨S,hS⟩:∃S:Nat,M.start=(S:Int):=⟨M.start.toNat,by omega⟩
 have H:M.start.toNat=S:=by omega
 have D:S<n:=by omega
 have lS:=B.l1;rw[hS]at lS;obtain⟨x1,x2⟩:=Bv (c:=n) A.row.row A.len D;refine⟨_,_,_,rfl,_,qk _,_,lS,_,x1,_,x2,az (λf=>?_) (λf=>?_)⟩
 ·have f:L.getD S aj=aj:=by simpa using f
  have V:¬lX M M.start.toNat:=by rw[H,<-T S D,f];exact Bool.false_ne_true
  rw[AZ q V];refine⟨_,kZ _,_,B.l0,(N4 M.kind d.wf).mono ?_⟩;intro v g4 U;exact aag w d I n0 U
 ·have f:L.getD S aj=af:=by simpa using f
  have V:lX M M.start.toNat:=by rw[H,<-T S D];exact f
  rw[HH q V];refine Dq (cU M a n c) h.aD K (aa ⟨kl,0,none⟩) n n (tI g3 L n) _ (λmz i t tn tc=>?_) n (i:=0) ⟨ck _,rfl,od.nil _ _ _,Ok.refl d.wf⟩;intros;rename_i g x0;obtain⟨f1,rfl,F,k⟩:=x0;refine az (λz=>?_) (λz=>?_)
  ·have z:=dT z;have X:i<n:=by omega
   obtain⟨y1,y2⟩:=Bv (c:=n) (k.ext _ _ A.row.row) A.len X;have l:=UT L i;refine⟨_,y1,_,y2,az (λQ=>?_) (λQ=>?_)⟩
   ·rw[iP Q]at l;have oP:=(Ok.refl k.wf).push (.cells [aE (i:Int)] 3 1 af);have kP:=cT g (.cells [aE (i:Int)] 3 1 af);have hl:=YH L i;obtain⟨b,n',c',u,a1,a2,a3,a4,_⟩:=ZM d.wf (k.trans oP) (F.ok oP) kP (by rw[aH];omega);refine⟨_,_,_,Bw _,b,n',c',u,a1,?_⟩;dsimp only;rw[cH X (by omega)];refine Ec (n-(i+1)) (by omega) ⟨by omega,rfl,?_,a4⟩;rw[l,bK];exact a3
   ·rw[iN (by rw[Q];exact Bool.false_ne_true),cp]at l;rw[cH X (by omega)];exact Ec (n-(i+1)) (by omega) ⟨by omega,rfl,by rw[l];exact F,k⟩
  ·have z:=dF z;obtain rfl:n=i:=by omega
   have N:=d.trans k;have P:=B.ok k;have eo:UR L n=oz M:=acn G T;rw[eo]at F;refine⟨_,P.all,(ab8 N.wf E p.AW (λs hs=>?_) P.row F.rd (sh M)).mono ?_⟩
   ·obtain⟨j,hj,e⟩:=List.mem_iff_getElem.1 hs;exact(oO p (i:=j) (by rw[gE hj,e])).1
   ·intro v g5 U;exact aaf w N (k.ext _ _ I) n0 U
end
end
noncomputable def uP:FD:=gU Tryz.f122 [([1,0,0],[0,2,3])]
abbrev oN(a:OA)(n c:Nat)(i:Nat)(j:Int):LV:=[(ae a n c),(iA i),(aE j)]
theorem Rj(a:OA)(n c:Nat)(h:au)(Q:VH)(b:cw uP [1,0,0] (oN a n c 0 (ai ak ((n:Int)-1))) h (eu uP [1,0] Q)):aX 122 [(ae a n c)] h Q:=hH uP Tryz.func122 (bD b)
theorem AU(a:OA)(n c:Nat)  (b:Nat->Nat->Int->au->Prop) (Q:VH) (step:∀(mz:Nat)(i:Nat)(j:Int)(f:Nat->ag)(h:au),b mz i j h->cq (decide ((i:Int)<j)) (Ws 27 (ae a n c) (aE j) (room h 16) λk=>Ws 27 (ae a n c) (iA i) (room h 16) λo=>xP (aW aq 27 (ae a n c) (iA i)) λm=>xU (bh aq 3 (bw m) (aE k) (room h 16)) (room h 16) λp e=>xP (aW aq 27 (ae a n c) (aE j)) λl=>xU (bh aq 3 (bw l) (aE o) e) e λq g=>ct (pB (oN a n c) b) mz [(ae a n c),(aE (ai ak ((i:Int)+1))),(aE (ai ak (j-1)))] g) (Q (av ⟨[]⟩) h)) (mz:Nat) {i:Nat} {j:Int} {h:au} (d:b mz i j h):cw uP [1,0,0] (oN a n c i j) h (eu uP [1,0] Q):=
 mc (oN a n c) b (λmz i j f h d=>bD (step mz i j f h d)) mz d
abbrev NN:=Nat×Nat
def mvV(m:Mv):List ag:=[aE m.i,aE m.l,aE m.r]
theorem ahk:zeroOf aq 3=aa (aE 0):=by kernel_rfl
theorem K1(k o:Nat):aY aq 105 (df k o) 0=aa (df k (o+0)):=by kernel_rfl
theorem Fe(k o:Nat):aY aq 105 (df k o) 1=aa (df k (o+1)):=by kernel_rfl
theorem Ai(p q:Int):cJ aq 105 [(0,(aE p)),(1,(aE q))]=aa (al ⟨[aE p,aE q]⟩):=by kernel_rfl
def abE(M:cm)(s:Nat):Bool:= !((M.aI.getD s ⟨[],[]⟩).f==[])
theorem rh{s:Nat}:abE M s=af↔jD M s:=by
 unfold abE jD
 cases (M.aI.getD s ⟨[],[]⟩).f<;>simp
theorem oi{s:Nat}(h:s<M.aI.length):∃x:il,M.aI[s]?=aa x/\dp M s=x.bB/\abE M s = !(x.f==[])/\x∈M.aI:=by
 refine⟨M.aI[s],gE h,?_,?_,List.getElem_mem h⟩
 ·unfold dp;rw[gD,gE h];rfl
 ·unfold abE;rw[gD,gE h];rfl
theorem nz{l:List A}{a:A}(h:l[i]?=aa a):l=l.take i++a::l.drop (i+1)/\l.take (i+1)=l.take i++[a]:=by
 obtain⟨b,rfl⟩:=List.getElem?_eq_some_iff.1 h;exact⟨by simp,by rw[fM,h];rfl⟩
theorem Of{N M:Nat}{c:List NN}(m:c.Nodup)(d:∀k∈c,k.1<N/\k.2<M):c.length<=N*M:=by
 have h:=Oe (N*M) (l:=c.map λk=>k.1*M+k.2) ?_ ?_
 ·grind
 ·refine(List.pairwise_map).2 ((List.Pairwise.imp_of_mem (λo j s e=>?_)) m);obtain⟨g,f⟩:=d _ o;obtain⟨u,r⟩:=d _ j;rename_i a b;have n:a.2=b.2:=by
   have:=congrArg (· % M) e;simpa[Nat.mul_add_mod',ef f,ef r]using this
  have t:a.1=b.1:=by
   rw[n]at e;exact Nat.eq_of_mul_eq_mul_right (by omega) (Nat.add_right_cancel e)
  grind
 ·intro i p;obtain⟨k,q,rfl⟩:=cI.1 p;obtain⟨g,f⟩:=d _ q
  calc k.1*M+k.2<k.1*M+M:=by omega
   _=(k.1+1)*M:=by grind
   _<=N*M:=bM _ g
theorem Pr(h:i<n)(a:n<=4611686018427387904):ai ak ((i:Int)+1)=((i+1:Nat):Int):=by grind[cd]
theorem afb:eI aq 27=af:=by rfl
theorem al3:cP aq 3=aa (.cells [aE 0] 3 0 af,m4):=by kernel_rfl
theorem adX:cP aq 27=aa (.cells [nA] 27 0 af,m4):=by kernel_rfl
noncomputable def jL:FD:=gU Tryz.f68 [((pq 17),[0,2,3,4]),((pq 1169),[0,2,3,4,31,32])]
abbrev j9(a c b:Nat)(t:OA):LV:=[(.pointer t),(pA a),(pA c),(pA b)]
abbrev mf(t:OA)(a d b:Nat)(c:LV)(i:Nat):LV:=[(.pointer t),(pA a),(pA d),(pA b),(al ⟨c⟩),(iA i)]
theorem RF(a:OA)(h:au)(Q:VH)(d:xN (cP aq 27) h λf b=>xN (cP aq 27) b λg c=>xN (cP aq 27) c λi e=>cw jL (pq 17) (j9 (h.aD) (b.aD) (c.aD) a) e (eu jL [1,0,0] Q)):aX 68 [(.pointer a)] h Q:=hH jL Tryz.func68 (bD d)
theorem AX(t0:OA)(a c b:Nat)(e:Nat->OA->au->Prop)(Q:VH)(step:∀(mz:Nat) (t:OA) (D:Nat->ag) (h:au),e mz t h->xB (ca aq .neq 112 (.pointer t) (bj none)) λX=>cq X (RX aq t (room h 20) λW h9=>xP (aY aq 118 W 0) λr=>kM 116 (bw r) 0 (room h 20) λF=>xA (cJ aq 187 [(0,(aE F)),(1,(pA a))]) λx=>RX aq t (room h 20) λm Y=>xP (aY aq 118 m 0) λz=>kM 116 (bw z) 1 (room h 20) λp=>xA (cJ aq 187 [(0,(aE p)),(1,(pA c))]) λH=>RX aq t (room h 20) λK Z=>xP (aY aq 118 K 0) λn=>kM 116 (bw n) 2 (room h 20) λv=>xA (cJ aq 187 [(0,(aE v)),(1,(pA b))]) λo=>xA (cJ aq 188 [(0,(al ⟨x⟩)),(1,(al ⟨H⟩)),(2,(al ⟨o⟩))]) λG=>cw jL (pq 1169) (mf t a c b G 0) (room h 20) (fQ jL (pq 41) (pq 17) (RR jL (pq 17) (jg (j9 a c b) e) mz (eu jL [1,0,0] Q)))) (xL (aS aq 27 h (pA a)) λP J L=>aX 122 [(ae P J L)] h λB j=>B=(av ⟨[]⟩)/\xL (aS aq 27 j (pA c)) λs q y=>aX 122 [(ae s q y)] j λw f=>w=(av ⟨[]⟩)/\xL (aS aq 27 f (pA b)) λl T N=>aX 122 [(ae l T N)] f λO d=>O=(av ⟨[]⟩)/\xL (aS aq 27 d (pA a)) λC S A=>xL (aS aq 27 d (pA c)) λE u I=>xL (aS aq 27 d (pA b)) λU M R=>xU (bh aq 27 (pA a) (ae C S A) d) d λx0 g=>xU (bh aq 27 (pA c) (ae E u I) g) g λx2 i=>xU (bh aq 27 (pA b) (ae U M R) i) i λx1 V=>jq SS [((pA a),aa 27),((pA c),aa 27),((pA b),aa 27)] V Q))(mz:Nat){t:OA}{h:au}(k:e mz t h):cw jL (pq 17) (j9 a c b t) h (eu jL [1,0,0] Q):=
 gm (j9 a c b) e (λmz t D h k=>bD (step mz t D h k)) mz k
theorem AY(R:OA)(t:OA)(d f e:Nat)(g:LV)(l:Nat->OA->au->Prop)(mz:Nat)(c:Nat->Nat->au->Prop)(Q:VH)(step:∀(b:Nat) (i:Nat) (E:Nat->ag) (h:au),c b i h->cq (decide ((i:Int)<3)) (xA (dE aq 188 (al ⟨g⟩) (iA i)) λw=>xN (cP aq 187) h λO n=>xU (bh aq 187 (pA (h.aD)) (al ⟨w⟩) n) n λM a=>kM 187 (pA (h.aD)) 0 a λz=>cq (decide (z>0)) (xP (aY aq 187 (pA (h.aD)) 1) λo=>xO (aS aq 186 (room a 12) (bw o)) λj=>qF xO 187 (pA (h.aD)) 1 186 (room a 12) λH=>RX aq H (room a 12) λx L=>xL (aS aq 27 (room a 12) x) λy u C=>kM 187 (pA (h.aD)) 0 (room a 12) λG=>zR (bS aq 27 1 [(0,(aE G))]) λp A F=>xE (cG aq 27 27 (ae y u C) (sA (a.aD+8) A F) (cr (room a 12) a.aD [(8,p)])) (cr (room a 12) a.aD [(8,p)]) λs D I K k=>RX aq j k λv P=>xU (bh aq 27 v (ae s D I) k) k λN B=>(aS aq 186 k (bw o)=aa (.pointer j)/\oQ 4 (.pointer j) (.pointer j)=af)/\ct (jg (mf t d f e g) c) b [(.pointer t),(pA d),(pA f),(pA e),(al ⟨g⟩),(aE (ai ak ((i:Int)+1)))] B) (ct (jg (mf t d f e g) c) b [(.pointer t),(pA d),(pA f),(pA e),(al ⟨g⟩),(aE (ai ak ((i:Int)+1)))] a)) (RX aq t h λJ m=>qF xO 118 J 1 112 m λr=>ct (jg (j9 d f e) l) mz [(.pointer r),(pA d),(pA f),(pA e)] m))(b:Nat){i:Nat}{h:au}(q:c b i h):cw jL (pq 1169) (mf t d f e g i) h (fQ jL (pq 41) (pq 17) (RR jL (pq 17) (jg (j9 d f e) l) mz (eu jL [1,0,0] Q))):=
 gm (mf t d f e g) c (λb i E h q=>bD (step b i E h q)) b q
variable{p:List Int}
theorem zat{l:List Int}(r:Rd h 3 v (l.map zV)){i:Nat}{z:Int}(a:l[i]?=aa z):∃p:aJ,aW aq 27 v (aE (i:Int))=aa (bw p)/\aS aq 3 h (bw p)=aa (aE z):=by
 have d:=(List.getElem?_eq_some_iff.1 a).1;obtain⟨p,b,c⟩:=r.at_ me IS zs zb (k:= ak) (i:=(i:Int)) (by omega) (by rw[aH];omega);refine⟨p,b,?_⟩;rw[c,bc,gD,getElem?_map,a];rfl
structure TC(l cur:List Int)(i j:Int):Prop where
 len:cur.length=l.length
 out:∀p:Nat,p<l.length->((p:Int)<i\/j<(p:Int))->cur[p]?=l[l.length-1-p]?
 mid:∀p:Nat,i<=(p:Int)->(p:Int)<=j->cur[p]?=l[p]?
 sum:i+j=(l.length:Int)-1
theorem TC.done{l:List Int}{i j:Int}(t:TC l p i j)(h:j<=i):p=l.reverse:=by
 refine dH λa=>?_;by_cases c:a<l.length
 ·rw[List.getElem?_reverse c];by_cases b:(a:Int)<i\/j<(a:Int)
  ·exact t.out a c b
  ·rw[not_or]at b;have:=t.sum;rw[t.mid a (by omega) (by omega)];congr 1;omega
 ·rw[List.getElem?_eq_none (by rw[t.len];omega),List.getElem?_eq_none (by rw[List.length_reverse];omega)]
theorem TC.step{l:List Int}(t:TC l p i j)(h:i<j){x y:Int}(k:p[i]?=aa x)(e:p[j]?=aa y):TC l ((p.set i y).set j x) ((i:Int)+1) ((j:Int)-1):=by
 have o:=t.sum;have b:j<p.length:=(List.getElem?_eq_some_iff.1 e).1;have g:=t.len;have n:=t.mid i (gr _) (by omega);have f:=t.mid j (by omega) (gr _);refine⟨by rw[dt,dt];exact g,λc m s=>?_,λc q r=>?_,by omega⟩
 ·rw[getElem?_set];by_cases a:j=c
  ·subst a;rw[iP rfl,iP (by rw[dt];exact b),<-k,n];congr 1;omega
  ·rw[iN a,getElem?_set];by_cases d:i=c
   ·subst d;rw[iP rfl,iP (by omega),<-e,f];congr 1;omega
   ·rw[iN d];exact t.out c m (by omega)
 ·rw[getElem?_set,iN (by omega),getElem?_set,iN (by omega)];exact t.mid c (by omega) (by omega)
theorem OQ{c:Nat}{G:jm}(r:kT T (ae a n c) d G):n=d.length:=by
 obtain⟨e,b,h⟩:=r.tB;injection h
theorem JW{L:List jm}(t:Wf h){a:Option aJ}{n c:Nat}{b:List Int}{G:jm}(r:kT 3 (ae a n c) (b.map zV) G)(o:OL h g L){j:Nat}(B:L[j]?=aa G){i:Nat}(s:i<b.length)(y:Int):∃p:aJ,aW aq 27 (ae a n c) (aE (i:Int))=aa (bw p)/\∃u:ek,bh aq 3 (bw p) (aE y) g=aa (undef,u)/\∃d,kT 3 (ae a n c) ((b.set i y).map zV) d/\OL h (u.app g) (L.set j d)/\pz g L (u.app g) (L.set j d):=by
 have v:=OQ r;rw[aH]at v;have w:=r;obtain⟨D,⟨_,f,_⟩|⟨k,C,cs,E,l,_⟩⟩:=w
 ·have:b=[]:=by simpa[rr]using f
  subst this;exact absurd s (dR _)
 ·injection l with l hv2 m
  subst l;subst m;obtain⟨u,A,d,f,z⟩:=gQ.put (P:=aq) (t':=3) IS t (e:=3) (sz:=1) (i:=i) (q:=0) (x:=[zV b[i]]) (v':= aE y) r o B (by unfold rr;rw[getElem?_map,getElem?_map,gE s];rfl) (by omega) rfl rfl;refine⟨_,GI me IS (by omega) (by omega),u,by rw[bc];exact A,d,?_,z⟩;have e:(rr (b.map zV)).set i (([zV b[i]]:List ag).set 0 (aE y))=rr ((b.set i y).map zV):=by
   unfold rr;rw[map_set,map_set];rfl
  rw[e]at f;exact f
theorem AT{L:List jm}(E:Wf h){a:Option aJ}{n c:Nat}{l:List Int}{G:jm}(r:kT 3 (ae a n c) (l.map zV) G)(o:OL h g L){k:Nat}(P:L[k]?=aa G)(hl:l.length<=1000000000):aX 122 [ae a n c] g (λv u=>v=av ⟨[]⟩/\∃f,kT 3 (ae a n c) (l.reverse.map zV) f/\OL h u (L.set k f)/\pz g L u (L.set k f)):=by
 have hn:n=l.length:=by have:=OQ r;rwa[aH]at this
 refine Rj a n c g _ ?_;rw[cd (by omega) (by omega)];have x:=(List.getElem?_eq_some_iff.1 P).1;have w:L.set k G=L:=dH λp=>by
  rw[getElem?_set];by_cases e:k=p
  ·subst e;rw[iP rfl,iP x,P]
  ·rw[iN e]
 refine AU a n c (λmz i j u=>∃b f,TC l b i j/\kT 3 (ae a n c) (b.map zV) f/\OL h u (L.set k f)/\pz g L u (L.set k f)/\i<=l.length/\mz=l.length-i) _ (λmz i j=>?_) l.length (i:=0) ⟨l,G,⟨rfl,λp hp ho=>by omega,λp _ _=>rfl,by omega⟩,r,by rw[w];exact o,by rw[w];exact pz.refl _ _,ck _,rfl⟩;intro zz g1 F;obtain⟨b,B,t,y,z,M,hi,rfl⟩:=F;have hs:=t.sum;have x0:=t.len;refine az (λq=>?_) (λq=>?_)
 ·have q:=dT q;obtain⟨d,rfl⟩:∃d:Nat,j=(d:Int):=⟨j.toNat,by omega⟩
  have R:d<b.length:=by omega
  have s:i<b.length:=by omega
  have J:=gE s;have S:=gE R;have D:(L.set k B)[k]?=aa B:=by rw[getElem?_set,iP rfl,iP x]
  obtain⟨C,c2⟩:=z.grow ((Ok.refl z.ok.wf).room 16);generalize Go.Ab.room g1 16=g2 at*;obtain⟨p1,V,X⟩:=zat (y.rd C D) S;obtain⟨Y,A,j2⟩:=zat (y.rd C D) J;obtain⟨q1,m,u1,s2,Q,U,N,O⟩:=JW E y C D s b[d];rw[A]at m;obtain rfl:Y=q1:=by injection m with m;injection m with m;injection m
  refine⟨_,V,_,X,_,A,_,j2,_,A,u1,s2,?_⟩;rw[set_set]at N O;have K:(L.set k Q)[k]?=aa Q:=by rw[getElem?_set,iP rfl,iP x]
  obtain⟨q2,Z,T,s4,G4,r4,I,H⟩:=JW E U N K (i:=d) (by rw[dt];exact R) b[i];rw[set_set]at I H;refine⟨_,Z,T,s4,?_⟩;have ts:=t.step (by omega) J S;have W:ai ak ((i:Int)+1)=((i+1:Nat):Int):=cH s (by omega);have e2:ai ak ((d:Int)-1)=(d:Int)-1:=cd (by omega) (by omega);rw[W,e2];refine iu (l.length-(i+1)) (by omega) ⟨_,G4,?_,r4,I,M.trans (c2.trans (O.trans H)),by omega,rfl⟩;have:((i+1:Nat):Int)=(i:Int)+1:=by omega
  rw[this];exact ts
 ·have q:=dF q;have e:=t.done (by omega);subst e;exact⟨rfl,B,y,z,M⟩
section
theorem abB(k:Nat):aY aq 116 (pA k) 1=aa (df k 1):=by rfl
theorem abC(k:Nat):aY aq 116 (pA k) 2=aa (df k 2):=by rfl
section
variable {h:au} {k4 k6:Nat}
theorem sG(a:Option aJ)(n c:Nat):(ae a n c).cells = #[ae a n c]:=by rfl
end
end
variable{X:Sx}{w:ag}{Q:VH}
section
def Ph(m:Mv)(p:Option aJ):eA:= .cells (mvV m++[.pointer p]) 118 0 af
inductive EH(I:Nat->eA->Prop):Option aJ->List Mv->Prop
 |nil:EH I none []
 |cons {k:Nat} {p:Option aJ} {m:Mv} {ms:List Mv} (h:I k (Ph m p)) (r:EH I p ms):EH I (aa ⟨k,0,none⟩) (m::ms)
theorem EH.mono{I I':Nat->eA->Prop}(b:∀k B,I k B->I' k B){p:Option aJ}{a:List Mv}(r:EH I p a):EH I' p a:=by
 induction r with
 |nil=>exact .nil
 |cons h _ c=>exact .cons (b _ _ h) c
def aey(m:Mv):Prop:=0<=m.i/\0<=m.l/\0<=m.r
theorem aau:∀a:List Mv,wI a.reverse=(wI a).reverse
 |[]=>rfl
 |m::a=>by
  rw[List.reverse_cons,RK,aau a]
  grind[opt,wI]
theorem aaw:∀a:List Mv,wL a.reverse=(wL a).reverse
 |[]=>rfl
 |m::a=>by
  rw[List.reverse_cons,aav,aaw a]
  grind[opt,wL]
theorem aay:∀a:List Mv,wR a.reverse=(wR a).reverse
 |[]=>rfl
 |m::a=>by
  rw[List.reverse_cons,aax,aay a]
  grind[opt,wR]
theorem qm(f:Mv->Int):∀a:List Mv,(a.foldr (λm x=>opt (f m) x) []).length<=a.length
 |[]=>aT _
 |m::a=>by
  have:=qm f a
  grind[opt]
theorem aaj:aq.underlying 112=aa (.pointer 118):=by rfl
theorem WH:Go.Ab.isAgg aq 112=aj:=by rfl
theorem ag7:aq.underlying 186=aa (.pointer 27):=by rfl
theorem afw:Go.Ab.isAgg aq 186=aj:=by rfl
theorem aeB(a:Option aJ):ca aq .neq 112 (.pointer a) (bj none)=aa (.bool !a.isNone):=by cases a<;>kernel_rfl
theorem K2(k:Nat):aY aq 118 (pA k) 0=aa (pA k):=by rfl
theorem abD(k:Nat):aY aq 118 (pA k) 1=aa (df k 3):=by rfl
theorem abA(k:Nat):aY aq 116 (pA k) 0=aa (pA k):=by rfl
section
variable {g:au} {k:Nat} {m:Mv} {p:Option aJ}
theorem Ph.l0(h:g.get k=aa (Ph m p)):aS aq 3 g (pA k)=aa (aE m.i):=ej zs zb h (by grind)
theorem Ph.l1(h:g.get k=aa (Ph m p)):aS aq 3 g (df k 1)=aa (aE m.l):=ej zs zb h (by simp[mvV])
theorem Ph.l2(h:g.get k=aa (Ph m p)):aS aq 3 g (df k 2)=aa (aE m.r):=ej zs zb h (by simp[mvV])
theorem Ph.l3(h:g.get k=aa (Ph m p)):aS aq 112 g (df k 3)=aa (.pointer p):=ej aaj WH h (by simp[mvV])
end
theorem PV(n:Int)(k:Nat):cJ aq 187 [(0,(aE n)),(1,(pA k))]=aa (al ⟨[aE n,pA k]⟩):=by rfl
theorem ad5(a b c:Int)(x y z:Nat):cJ aq 188 [(0,(al ⟨[aE a,pA x]⟩)),(1,(al ⟨[aE b,pA y]⟩)),(2,(al ⟨[aE c,pA z]⟩))]=aa (al ⟨[aE a,pA x,aE b,pA y,aE c,pA z]⟩):=by kernel_rfl
theorem abN(a b c:Int)(x y z:Nat):dE aq 188 (al ⟨[aE a,pA x,aE b,pA y,aE c,pA z]⟩) (iA 0)=aa (al ⟨[aE a,pA x]⟩):=by rfl
theorem abO(a b c:Int)(x y z:Nat):dE aq 188 (al ⟨[aE a,pA x,aE b,pA y,aE c,pA z]⟩) (iA 1)=aa (al ⟨[aE b,pA y]⟩):=by rfl
theorem abP(a b c:Int)(x y z:Nat):dE aq 188 (al ⟨[aE a,pA x,aE b,pA y,aE c,pA z]⟩) (iA 2)=aa (al ⟨[aE c,pA z]⟩):=by rfl
def Bk(n:Int)(k:Nat):eA:= .cells [aE n,pA k] 187 0 af
def To:eA:= .cells [aE 0,bj none] 187 0 af
theorem afC:cP aq 187=aa (To,m4):=by rfl
theorem ae2:bZ aq 187=aa 2:=by rfl
theorem Sp(k:Nat):aY aq 187 (pA k) 0=aa (pA k):=by rfl
theorem Ss(k:Nat):aY aq 187 (pA k) 1=aa (df k 1):=by rfl
theorem Bk.l0{g:au}{k:Nat}(h:g.get k=aa (Bk z n)):aS aq 3 g (pA k)=aa (aE z):=ej zs zb h (by simp)
theorem Bk.l1{g:au}{k:Nat}(h:g.get k=aa (Bk z n)):aS aq 186 g (df k 1)=aa (pA n):=ej ag7 afw h (by simp)
theorem XB{a b c:ag}{t d:aF}{j:ag}{h:au}(f:aS X.P t h a=aa v)(i:aS X.P T h b=aa w)(e:aS X.P d h c=aa j)(g:Q (av ⟨[v,w,j]⟩) h):jq X [(a,aa t),(b,aa T),(c,aa d)] h Q:=by
 unfold jq;simp only[VF,f,i,e];exact g
section
variable {h:au}
def c27(k:Nat)(v:ag):jm:=[(k,.cells [v] 27 0 af)]
theorem aaz(w:Wf h){g:au}{L:List jm}(o:OL h g L){s l:Nat}{v:ag}{G:jm}{x:List Int}(F:L[s]?=aa (c27 l v))(T:L[s+3]?=aa G)(r:kT 3 v (x.map zV) G)(V:x.length<=1000000000)(c:Int):
  ∃(a:Option aJ)(n cc:Nat),aS aq 27 (Go.Ab.room g 12) (pA l)=aa (ae a n cc)/\∃(b:Option aJ)(f d:Nat)(u:ek),cG aq 27 27 (ae a n cc) (sA (g.aD+8) 1 1) (cr (Go.Ab.room g 12) g.aD [(8,.cells [aE c] 3 1 af)])=aa (ae b f d,u)/\pz g L (u.app (cr (Go.Ab.room g 12) g.aD [(8,.cells [aE c] 3 1 af)])) (L.set (s+3) [])/\
   ∃A:ek,bh aq 27 (pA l) (ae b f d) (u.app (cr (Go.Ab.room g 12) g.aD [(8,.cells [aE c] 3 1 af)]))=aa (undef,A)/\∃q,kT 3 (ae b f d) ((x++[c]).map zV) q/\OL h (A.app (u.app (cr (Go.Ab.room g 12) g.aD [(8,.cells [aE c] 3 1 af)]))) ((L.set (s+3) q).set s (c27 l (ae b f d))):=by
 obtain⟨a,cc,rfl⟩:=r.tB;have Q:=(o.grow ((Ok.refl o.ok.wf).room 12)).1;refine⟨a,_,cc,ej me wv (Q.get s F) (by simp),?_⟩;obtain⟨H,N,J⟩:=o.aep (n:=12) (j:=8) (by omega) (.cells [aE c] 3 1 af);generalize cr (Go.Ab.room g 12) g.aD [(8,.cells [aE c] 3 1 af)]=D at*;obtain⟨b,f,d,u,S,U,q,y,C,P⟩:=r.snoc me Hp xy afb w H T (x:= aE c) rfl J.1 (by grind[uL]) (by grind);have O:pz D L (u.app D) (L.set (s+3) []):=λk B m=>by
  have:=P k B m;refine⟨this.1,λI=>this.2 ?_⟩;obtain⟨p,R,rfl⟩:=cI.1 I;obtain⟨X,M,z⟩:=List.mem_flatten.1 R;refine mem_keys (List.mem_flatten.2 ⟨X,?_,z⟩);obtain⟨j,E⟩:=List.getElem?_of_mem M;rw[getElem?_set]at E;by_cases e:s+3=j
  ·grind
  ·rw[iN e]at E;exact aM (i:=j) (by grind)
 refine⟨b,f,d,u,S,N.trans O,?_⟩;have t:(L.set (s+3) q)[s]?=aa (c27 l (ae a (x.map zV).length cc)):=by rw[getElem?_set,iN (by omega)];exact F
 obtain⟨K,_⟩:=C.E8 w s t (.cells [ae b f d] 27 0 af);exact⟨_,kG CQ (C.get s t) (by simp) (fR ..) (sG ..),q,by rw[bK];exact y,K⟩
def aic(e i f:Nat)(c a d:ag)(b h g:jm):List jm:=[c27 e c,c27 i a,c27 f d,b,h,g]
def WS(h:au)(i k j:Nat)(x y z:List Int)(g:au):Prop:=∃c a d b f e,OL h g (aic i k j c a d b f e)/\kT 3 c (x.map zV) b/\kT 3 a (y.map zV) f/\kT 3 d (z.map zV) e
theorem WS.grow{x y z:List Int}{g a:au}(s:WS h n i j x y z g)(o:Ok g a):WS h n i j x y z a:=by
 obtain⟨e,b,f,c,l,k,d,r⟩:=s;exact⟨e,b,f,c,l,k,(d.grow o).1,r⟩
def afk(h:au)(x y z:List Int):VH:=λv g=>Ok h g/\∃(a:Option aJ)(n c:Nat)(j:Option aJ)(i f:Nat)(d:Option aJ)(b e:Nat),v=av ⟨[ae a n c,ae j i f,ae d b e]⟩/\uZ h g 3 (ae a n c) (x.map zV)/\uZ h g 3 (ae j i f) (y.map zV)/\uZ h g 3 (ae d b e) (z.map zV)
def CR(i j:Nat)(c:Int):List Int:=if j<i then opt c []else[]
theorem aaA(w:Wf h){t:Option aJ}{E:List Mv}(J:EH (λk B=>h.get k=aa B) t E)(nn:∀m∈E,aey m)(hl:E.length<=1000000):aX 68 [.pointer t] h (afk h (wI E.reverse) (wL E.reverse) (wR E.reverse)):=by
 refine RF t h _ ⟨_,adX,_,adX,_,adX,?_⟩;obtain⟨N,_⟩:=(OL.nil (Ok.refl w)).push (.cells [nA] 27 0 af);have n1:(h.push (.cells [nA] 27 0 af)).aD=h.aD+1:=rfl;generalize h.push (.cells [nA] 27 0 af)=g1 at*;obtain⟨o2,_⟩:=N.push (.cells [nA] 27 0 af);generalize g1.push (.cells [nA] 27 0 af)=d at*;obtain⟨o3,_⟩:=o2.push (.cells [nA] 27 0 af);generalize d.push (.cells [nA] 27 0 af)=g3 at*;obtain⟨F,_⟩:=o3.agz 3;generalize h.aD=f at*;generalize g1.aD=l at*;generalize d.aD=j at*;have s0:WS h f l j [] [] [] g3:=⟨nA,nA,nA,[],[],[],F,kT.nil 3,kT.nil 3,kT.nil 3⟩
 clear N o2 o3 F n1;refine AX t f l j (λmz t' g=>∃c H,E=c++H/\EH (λk B=>h.get k=aa B) t' H/\WS h f l j (wI c) (wL c) (wR c) g/\mz=H.length) _ (λmz t'=>?_) E.length ⟨[],E,rfl,J,s0,rfl⟩;clear s0 J;intro zz g x4;obtain⟨c,H,rfl,J,s,rfl⟩:=x4;refine⟨_,aeB t',az (λq=>?_) (λq=>?_)⟩
 ·cases J with
  |nil=>cases q
  |@cons k p m H hk J=>
  obtain⟨i0,l0,r0⟩:=nn m (by simp);have y5:c.length+H.length<1000000:=by rw[bF,bU]at hl;omega
  have sR:=s.grow ((Ok.refl (by obtain⟨_,_,_,_,_,_,o,_⟩:=s;exact o.ok.wf)).room 20);generalize Go.Ab.room g 20=g1 at*;have M:∀{g:au}{x y z:List Int},WS h f l j x y z g->g.get k=aa (Ph m p):=λ{g} {x y z} s=>by
   obtain⟨_,_,_,_,_,_,o,_⟩:=s;exact o.ok.ext _ _ hk
  refine sL ⟨_,K2 _,_,abA _,_,Ph.l0 (M sR),_,PV _ _,sL ⟨_,K2 _,_,abB _,_,Ph.l1 (M sR),_,PV _ _,sL ⟨_,K2 _,_,abC _,_,Ph.l2 (M sR),_,PV _ _,_,ad5 _ _ _ _ _ _,?_⟩⟩⟩;refine AY t (aa ⟨k,0,none⟩) f l j _ _ _ (λx1 i g=>i<=3/\x1=3-i/\WS h f l j (wI c++CR i 0 m.i) (wL c++CR i 1 m.l) (wR c++CR i 2 m.r) g) _ (λx1 i=>?_) 3 (i:=0) ⟨by omega,rfl,by grind[CR]⟩;clear sR s;intro y6 d x3;obtain⟨hi,rfl,s⟩:=x3;refine az (λX=>?_) (λX=>?_)
  ·have X:=dT X;have x0:i=0\/i=1\/i=2:=by omega
   have bI:=qm Mv.i c;have bL:=qm Mv.l c;have bR:=qm Mv.r c;have bI:(wI c).length<=c.length:=bI;have bL:(wL c).length<=c.length:=bL;have bR:(wR c).length<=c.length:=bR;have x2:∃(L:List jm)(n:Int)(r D:Nat)(v:ag)(G:jm)(x:List Int),OL h d L/\L[D]?=aa (c27 r v)/\L[D+3]?=aa G/\kT 3 v (x.map zV) G/\x.length<=1000000000/\dE aq 188 (al ⟨[aE m.i,pA f,aE m.l,pA l,aE m.r,pA j]⟩) (iA i)=aa (al ⟨[aE n,pA r]⟩)/\0<=n/\
     ∀(v':ag)(C:jm)(V:au),kT 3 v' ((x++opt n []).map zV) C->OL h V ((L.set (D+3) C).set D (c27 r v'))->WS h f l j (wI c++CR (i+1) 0 m.i) (wL c++CR (i+1) 1 m.l) (wR c++CR (i+1) 2 m.r) V:=by
    obtain⟨v2,v3,v4,G2,G3,G4,o,r2,r3,r4⟩:=s;rcases x0 with rfl|rfl|rfl
    ·refine⟨_,m.i,f,0,v2,G2,wI c,o,rfl,rfl,(by simpa[CR]using r2),(by omega),abN _ _ _ _ _ _,i0,λv' C V K Z=>⟨v',v3,v4,C,G3,G4,Z,?_,?_,?_⟩⟩
     all_goals grind[CR]
    ·refine⟨_,m.l,l,1,v3,G3,wL c,o,rfl,rfl,(by simpa[CR]using r3),(by omega),abO _ _ _ _ _ _,l0,λv' C V K Z=>⟨v2,v',v4,G2,C,G4,Z,?_,?_,?_⟩⟩
     all_goals grind[CR]
    ·refine⟨_,m.r,j,2,v4,G4,wR c,o,rfl,rfl,(by simpa[CR]using r4),(by omega),abP _ _ _ _ _ _,r0,λv' C V K Z=>⟨v2,v3,v',G2,G3,C,Z,?_,?_,?_⟩⟩
     all_goals grind[CR]
   obtain⟨L,n,r,D,v,G,x,o,h1,h2,y3,y2,x6,y7,fin⟩:=x2;refine⟨_,x6,_,afC,?_⟩;have kb:=cT d To;have eb:Ok d ((ek.set d.aD (Bk n r)).app (d.push To)):=((Ok.refl o.ok.wf).push _).set _ (aT _) (ff _) o.ok.wf;have Y:Im ((ek.set d.aD (Bk n r)).app (d.push To)) L d.aD (Bk n r):=o.new (aT _) (by show((d.push _).set _ _).get _=_;rw[au.cE,iP rfl]);have N:=(o.grow eb).1;have st:bh aq 187 (pA d.aD) (al ⟨[aE n,pA r]⟩) (d.push To)=aa (undef,.set d.aD (Bk n r)):=ib ae2 rfl kb rfl rfl;refine⟨_,st,?_⟩;generalize (ek.set d.aD (Bk n r)).app (d.push To)=g3 at*;refine⟨_,Sp _,_,Bk.l0 Y.1,az (λU=>?_) (λU=>?_)⟩
   ·have U:=dT U;obtain⟨oR,cR⟩:=N.grow ((Ok.refl N.ok.wf).room 12);have mR:=cR _ _ Y;obtain⟨a,n1,cc,l1,b,n',c',u,ap,cg,u',y0,C,K,o5⟩:=aaz w N h1 h2 y3 y2 n;have mA:=cg _ _ Y;refine⟨_,Ss _,_,Bk.l1 mR.1,_,Ss _,_,Bk.l1 mR.1,sL ⟨a,n1,cc,l1,_,Sp _,_,Bk.l0 mR.1,_,_,_,Bw _,b,n',c',u,ap,sL ⟨u',y0,⟨Bk.l1 mA.1,by simp[oQ]⟩,?_⟩⟩⟩;rw[Pr (n:=3) (by omega) (by omega)];refine fC (3-(i+1)) (by omega) ⟨by omega,rfl,fin _ C _ ?_ o5⟩
    grind[ji]
   ·have U:=dF U;rw[Pr (n:=3) (by omega) (by omega)];refine fC (3-(i+1)) (by omega) ⟨by omega,rfl,fin v G _ ?_ ?_⟩
    ·grind[gx]
    ·have e1:L.set (D+3) G=L:=dH λp=>by
      rw[getElem?_set];by_cases e:D+3=p
      ·subst e;rw[iP rfl,iP (List.getElem?_eq_some_iff.1 h2).1,h2]
      ·rw[iN e]
     have e2:L.set D (c27 r v)=L:=dH λp=>by
      rw[getElem?_set];by_cases e:D=p
      ·subst e;rw[iP rfl,iP (List.getElem?_eq_some_iff.1 h1).1,h1]
      ·rw[iN e]
     grind
  ·have X:=dF X;have x0:i=3:=by omega
   subst x0;refine sL ⟨_,abD _,_,Ph.l3 (M s),?_⟩;refine fC H.length (by simp) ⟨c++[m],H,by simp,J,?_,rfl⟩
   grind[RK,aav,aax,wI,CR,wL,wR]
 ·cases J with
  |cons hk J=>cases q
  |nil=>
  rw[cp]at hl nn;rw[cp];obtain⟨v2,v3,v4,G2,G3,G4,o,r2,r3,r4⟩:=s;obtain⟨O,T,rfl⟩:=r2.tB;obtain⟨Q,S,rfl⟩:=r3.tB;obtain⟨R,P,rfl⟩:=r4.tB;have bI:(wI c).length<=c.length:=qm Mv.i c;have bL:(wL c).length<=c.length:=qm Mv.l c;have bR:(wR c).length<=c.length:=qm Mv.r c;refine⟨_,_,_,ej me wv (o.get 0 rfl) (by simp),(AT w r2 o (k:=3) rfl (by omega)).mono ?_⟩;rintro _ d ⟨rfl,x7,x5,o2,_⟩;refine⟨rfl,_,_,_,ej me wv (o2.get 1 rfl) (by simp),(AT w r3 o2 (k:=4) rfl (by omega)).mono ?_⟩;rintro _ g3 ⟨rfl,y4,x9,o3,_⟩;refine⟨rfl,_,_,_,ej me wv (o3.get 2 rfl) (by simp),(AT w r4 o3 (k:=5) rfl (by omega)).mono ?_⟩;rintro _ W ⟨rfl,y1,x8,F,_⟩;have l2:aS aq 27 W (pA f)=aa (ae O ((wI c).map zV).length T):=ej me wv (F.get 0 rfl) (by simp);have l3:aS aq 27 W (pA l)=aa (ae Q ((wL c).map zV).length S):=ej me wv (F.get 1 rfl) (by simp);have l4:aS aq 27 W (pA j)=aa (ae R ((wR c).map zV).length P):=ej me wv (F.get 2 rfl) (by simp);obtain⟨o5,_⟩:=F.E8 w 0 rfl (.cells [ae O ((wI c).map zV).length T] 27 0 af);have s5:bh aq 27 (pA f) (ae O ((wI c).map zV).length T) W=aa (undef,.set f (.cells [ae O ((wI c).map zV).length T] 27 0 af)):=kG CQ (F.get 0 rfl) (by simp) (fR ..) (sG ..);refine⟨rfl,_,_,_,l2,_,_,_,l3,_,_,_,l4,_,s5,?_⟩;generalize (ek.set f (.cells [ae O ((wI c).map zV).length T] 27 0 af)).app W=g5 at*;obtain⟨o6,_⟩:=o5.E8 w 1 rfl (.cells [ae Q ((wL c).map zV).length S] 27 0 af);have s6:bh aq 27 (pA l) (ae Q ((wL c).map zV).length S) g5=aa (undef,.set l (.cells [ae Q ((wL c).map zV).length S] 27 0 af)):=kG CQ (o5.get 1 rfl) (by simp) (fR ..) (sG ..);refine⟨_,s6,?_⟩;generalize (ek.set l (.cells [ae Q ((wL c).map zV).length S] 27 0 af)).app g5=g6 at*;obtain⟨A,_⟩:=o6.E8 w 2 rfl (.cells [ae R ((wR c).map zV).length P] 27 0 af);have s7:bh aq 27 (pA j) (ae R ((wR c).map zV).length P) g6=aa (undef,.set j (.cells [ae R ((wR c).map zV).length P] 27 0 af)):=kG CQ (o6.get 2 rfl) (by simp) (fR ..) (sG ..);refine⟨_,s7,?_⟩;generalize (ek.set j (.cells [ae R ((wR c).map zV).length P] 27 0 af)).app g6=g7 at*;rw[aau,aaw,aay];refine XB (ej me wv (A.get 0 rfl) (by simp)) (ej me wv (A.get 1 rfl) (by simp)) (ej me wv (A.get 2 rfl) (by simp)) ⟨A.ok,O,_,T,Q,_,S,R,_,P,rfl,⟨x7,x5,λp I=>⟨A.GS (i:=3) rfl p I,A.grp (i:=3) rfl p I⟩⟩,⟨y4,x9,λp I=>⟨A.GS (i:=4) rfl p I,A.grp (i:=4) rfl p I⟩⟩,⟨y1,x8,λp I=>⟨A.GS (i:=5) rfl p I,A.grp (i:=5) rfl p I⟩⟩⟩
end
end
theorem ad4(m:Mv)(p:Option aJ):cJ aq 118 [(0,(al ⟨mvV m⟩)),(1,(.pointer p))]=aa (al ⟨mvV m++[.pointer p]⟩):=by cases p<;>kernel_rfl
theorem ad8(m:Mv)(p:Option aJ):jY aq 118 (al ⟨mvV m++[.pointer p]⟩)=aa (Ph m p,m4):=by cases p<;>kernel_rfl
theorem YV:aq.underlying 109=aa (.slice 112):=by rfl
theorem adI:Go.Ab.isAgg aq 109=aj:=by rfl
theorem adJ:bZ aq 112=aa 1:=by rfl
theorem q4:aq.underlying 4=aa .bool:=by rfl
theorem lP(g:Good M){s:Nat}{a:eC}(h:a∈dp M s):IT M.aI.length a:=by
 by_cases c:s<M.aI.length
 ·obtain⟨x,_,e,_,b⟩:=oi c;rw[e]at h;exact g.bB x b a h
 grind[dp]
section
def tx(M:cm)(a:Option aJ)(n c:Nat)(sg:Int):List ag:=[aE M.kind,aE M.start,strOf M.lead,ae a n c,aE sg]
def Bs(M:cm)(a:Option aJ)(n c:Nat)(sg:Int):eA:= .cells (tx M a n c sg) 82 0 af
theorem R8(M:cm)(a:Option aJ)(n c:Nat)(sg:Int):jY aq 82 (al ⟨tx M a n c sg⟩)=aa (Bs M a n c sg,m4):=by kernel_rfl
theorem Gx(k:Nat):aY aq 82 (pA k) 0=aa (pA k):=by kernel_rfl
theorem aem(k:Nat):aY aq 82 (pA k) 1=aa (df k 4):=by kernel_rfl
noncomputable def ahe:TypeDesc:=(aq.underlying 82).getD .bool
theorem aia:aq.underlying 82=aa ahe:=by kernel_rfl
theorem ahr:Go.Ab.isAgg aq 82=af:=by kernel_rfl
theorem adO:bZ aq 82=aa 5:=by kernel_rfl
section
variable {g:au} {k:Nat} {M:cm} {a:Option aJ} {n c:Nat} {sg:Int}
theorem Bs.l1(h:g.get k=aa (Bs M a n c sg)):aS aq 3 g (df k 1)=aa (aE M.start):=ej zs zb h (by simp[tx])
theorem Bs.l3(h:g.get k=aa (Bs M a n c sg)):aS aq 22 g (df k 3)=aa (ae a n c):=ej zp EO h (by simp[tx])
theorem Bs.l4(h:g.get k=aa (Bs M a n c sg)):aS aq 3 g (df k 4)=aa (aE sg):=ej zs zb h (by simp[tx])
theorem Bs.all(h:g.get k=aa (Bs M a n c sg)):aS aq 82 g (pA k)=aa (al ⟨tx M a n c sg⟩):=jr aia ahr adO h (by simp[tx])
end
def enc(y z:UInt8)(l:List Bool):List UInt8:=l.map λb=>if b then y else z
theorem BH(y z:UInt8)(l:List Bool):(enc y z l).length=l.length:=aH ..
theorem KZ{y z:UInt8}(h:y≠z):∀{l l':List Bool},enc y z l=enc y z l'->l=l'
 |[],[],_=>rfl
 |[],_::_,e=>by cases e
 |_::_,[],e=>by cases e
 |a::l,b::l',e=>by
  injection e with e1 c
  rw[KZ h c]
  cases a<;>cases b<;>simp_all
def FZ(y z w:UInt8)(l:List Bool)(i:Nat):List UInt8:=(dA l.length).map λq=>if q<i then(if l.getD q aj then y else z)else w
theorem KP(y z w:UInt8)(l:List Bool)(i:Nat):(FZ y z w l i).length=l.length:=by simp[FZ]
theorem M9(y z w:UInt8)(l:List Bool):FZ y z w l 0=aQ l.length w:=by
 refine ext_getElem (by simp[FZ]) λi a b=>?_;simp[FZ]
theorem Sa(y z w:UInt8)(l:List Bool){i:Nat}(d:l.length<=i):FZ y z w l i=enc y z l:=by
 refine ext_getElem (by simp[FZ,enc]) λj a c=>?_;have:j<i:=by simp[FZ]at a;omega
 have b:j<l.length:=by simp[FZ]at a;omega
 simp[FZ,enc,this,b]
theorem M8(y z w:UInt8)(l:List Bool){i:Nat}(d:i<l.length):FZ y z w l (i+1)=(FZ y z w l i).set i (if l.getD i aj then y else z):=by
 refine ext_getElem (by simp[FZ]) λj b c=>?_;rw[List.getElem_set];simp only[FZ,List.getElem_map,List.getElem_range];by_cases e:i=j
 ·subst e;simp
 ·rw[iN e];by_cases a:j<i
  ·rw[iP a,iP (by omega)]
  ·rw[iN a,iN (by omega)]
theorem Xg(y z w:UInt8)(l:List Bool)(i:Nat):(FZ y z w l i).set i w=FZ y z w l i:=by
 refine ext_getElem (by simp[FZ]) λj a b=>?_;rw[List.getElem_set];by_cases e:i=j
 ·subst e;simp[FZ]
 ·rw[iN e]
noncomputable def ti5:TypeInfo:=(aq.info? 5).getD default
theorem afa:aq.info? 5=aa ti5:=by kernel_rfl
theorem Z8:ti5.size=1:=by kernel_rfl
theorem V5:ti5.bytes=1:=by kernel_rfl
theorem ahj:zeroOf aq 5=aa (aC aK 0):=by kernel_rfl
theorem adC(n:Nat)(a:n<=100000):dD aq 183 (aE (n:Int)) (aE (n:Int))=aa (.cells ((aQ n (0:UInt8)).map uy) 5 1 af,qe n n):=by
 unfold dD dK;dsimp only;rw[zQ]
 try dsimp only
 change (match aq.info? 5,zeroOf aq 5 with
  |some i,aa z=>(if z.cells.size=i.size/\0<i.size/\(0:Int)<=(n:Int)/\(n:Int)<=(n:Int)/\(n:Int)*i.bytes<=140737488355328/\(n:Int)<=1099511627776 then aa (eA.cells (fb z.cells.toList (n:Int).toNat) 5 i.size af,λk=>ae (aa ⟨k,0,none⟩) (n:Int).toNat (n:Int).toNat)else none)
  |_,_=>none)=_
 rw[afa,ahj];dsimp only;rw[Z8,V5,iP ⟨rfl,by omega,by omega,gr _,by omega,by omega⟩];have e:((n:Int)).toNat=n:=by omega
 rw[e,show(aC aK 0).cells.toList=[aC aK 0]from rfl,tU,jO];rfl
abbrev YR(a:au)(b:Nat)(l:List UInt8)(g:au):Prop:=ur a b 5 (l.map uy) g
theorem YR.put{g:au}{l:List UInt8}(w:Wf h)(r:YR h m l g){i n:Nat}(a:l.length=n)(b:i<n)(c:Nat)(y:UInt8):aW aq 183 (sA m n c) (aE (i:Int))=aa (df m i)/\∃u:ek,bh aq 5 (df m i) (aC aK (y.toNat:Int)) g=aa (undef,u)/\YR h m (l.set i y) (u.app g):=by
 refine⟨?_,_,kG zz5 r.row (by rw[aH];omega) rfl rfl,?_⟩
 ·have:=GI (P:=aq) zQ zz5 (k:=m) (off:=0) (n:=n) (c:=c) (ik:= ak) (i:=(i:Int)) (by omega) (by omega);rw[this,bc,bJ,dB]
 ·have:=r.set w i (aC aK (y.toNat:Int));unfold YR;rw[map_set];exact this
theorem YR.str{g:au}{n c:Nat}{l:List UInt8}(a:l.length=n)(r:YR h m l g):AV aq 183 9 (sA m n c) g=aa (strOf l):=HD r.row (by rw[bO,bC (by simp[a])]) a
theorem ox{M:cm}(b:Good M):Ts M:=λp a c=>by
 have h:=lP b c;have:=h.t0;have:=h.t1;omega
end
end Go.Proofs.YtnlccnpbjeiccaaGreatDoor
end
