/- Laws and walks that the proof leans on (part 4): P26; P22; P27; P28; W13; P29 and others. No condition. -/
import Derived.Test.YtnlccnpbjeiccaaGreatDoorPart3
import Derived.Test.YtnlccnpbjeiccaaGreatDoorPart2
set_option linter.unusedVariables false
set_option linter.unusedSimpArgs false
set_option maxRecDepth 100000
open BitVec renaming ofInt → di
open Bool renaming and_eq_true → bj, false → ak, not_eq_false' → eC, not_eq_true' → dt, true → af, true_and → fm
open Classical renaming propDecidable → fo
open Go renaming Addr → aF, Program → aO, TypeId → aD, Value → ah
open Go.IntKind renaming bits → dA, i64 → an, u64 → az, u8 → aK, wrap → aj
open Go.Value renaming agg → aq, bool → ai, func → aN, int → aB, slice → ae, tuple → av
open Int renaming le_refl → fU, natCast_mul → gW, toNat_natCast → bn
open List renaming all_cons → fR, all_eq_true → cw, append_assoc → cE, append_nil → cF, drop_eq_getElem_cons → db, drop_eq_nil_of_le → cU, drop_zero → bV, eq_nil_of_length_eq_zero → aY, ext_getElem? → cV, filterMap_append → fX, length_append → bg, length_cons → bP, length_drop → cQ, length_filterMap_le → jC, length_map → aG, length_replicate → bE, length_set → bT, length_singleton → bw, length_take → bo, map_append → bU, mem_append → bH, mem_cons → cO, mem_cons_of_mem → cJ, mem_cons_self → cH, mem_map → dZ, mem_of_getElem? → aI, mem_of_mem_take → dN, mem_singleton → aX, nil_append → dq, range → dL, replicate → aH, take_add_one → eI, take_length → dX, take_of_length_le → bm, take_zero → dU
open Nat renaming add_mul → cM, add_zero → fh, blt → dj, le_add_right → dg, le_refl → aS, le_succ → fJ, le_trans → bK, lt_of_lt_of_le → cz, lt_or_ge → de, lt_succ_self → eD, min_eq_left → dO, mod_eq_of_lt → eG, mod_lt → dP, mul_le_mul → dC, mul_le_mul_right → bJ, mul_one → df, mul_zero → iD, not_lt_zero → dH, one_mul → dw, pow_le_pow_right → dG, zero_add → bO, zero_le → cr, zero_mul → iE
open Option renaming map_eq_some_iff → bq, map_some → fP, some → aa
open Option.some renaming inj → aC
open UInt8 renaming toNat_inj → fQ
open List (getElem?_drop getElem?_map getElem?_replicate getElem?_set getElem?_take map_replicate map_set)
section
namespace Go.Proofs.YtnlccnpbjeiccaaGreatDoor
open Go Go.Ab Go.Num
variable{h:aw}{g:aw}{v:ah}{w:ah}{s:List UInt8}{t:List UInt8}{n:Nat}{m:Nat}
theorem DO(l:List UInt8)(h:aw):aW 248 [strOf l] h (λv a=>v=ai (decide (l.length<=400)&&Num.valid l)/\a=h):=by
 refine NX l h _ (ay (λg=>?_) (λg=>?_))
 ·have g:=dT g;refine(ie l h).mono ?_;rintro _ c ⟨rfl,b⟩;refine⟨_,rfl,?_,b⟩;rw[eT (show l.length<=400 by omega),fm]
 ·have g:=dF g;refine⟨?_,rfl⟩;rw[eF (show ¬l.length<=400 by omega),Bool.false_and]
def afa(n d:List UInt8)(neg a:Bool):Prop:=(Num.valid n=af/\n.length<=400)/\(Num.valid d=af/\d.length<=400)/\d≠[48]/\¬(n=[48]/\(neg=af\/a=af))/\¬(d=[49]/\a=af)/\(Nat.gcd (Num.val n) (Num.val d)=1\/d=[49])
def xd:ah:= av ⟨[ai ak,strOf [],strOf [],ai ak]⟩
def rO(neg:Bool)(n d:List UInt8):ah:= av ⟨[ai neg,strOf n,strOf d,ai af]⟩
def uz(h:aw)(C:Prop)(G B:ah):VH:=λv a=>Ok h a/\(C->v=G)/\(¬C->v=B)
theorem oZ{C:Prop}(o:Ok h g)(a:¬C):uz h C v w w g:=⟨o,λc=>absurd c a,λ_=>rfl⟩
theorem B6{C:Prop}(o:Ok h g)(a:C):uz h C v w v g:=⟨o,λ_=>rfl,λc=>absurd a c⟩
theorem LZ{n:List UInt8}(g:(decide (n.length<=400)&&Num.valid n)=af):Num.valid n=af/\n.length<=400:=by
 rw[bj,decide_eq_true_eq]at g;exact⟨g.2,g.1⟩
theorem PK(a:Num.valid s=af)(b:Num.valid t=af):Gu s t=JR (bp (Nat.gcd (Num.val s) (Num.val t))) 0:=by unfold Gu;rw[iP ⟨a,b⟩]
theorem vZ(n d:List UInt8)(neg:Bool)(l:Int)(a:Bool)(v2:a=decide (l>=0)){h:aw}(w:Wf h){x0 x1 x2 x3 x4 x5 z3 z5 H y9 X u1 u8 y8 u0 z7 I D A W Z v1 z2 x9 Q z1 y3 M u6 r z q L u9 u5 K C y G x6 v t z6 v0 u3 y0 u2 y2 F s z4 m z8 y4 y6 J z0 E T x7 P B N R y1 O S x8 u7 y5 y7 Y o p V z9 u4:ah}:
  TT SS bW (pq 127) [x0,x1,x2,x3,x4,x5,strOf n,strOf d,ai neg,aA l,z3,z5,H,y9,X,u1,u8,y8,u0,z7,I,D,A,W,Z,v1,z2,x9,Q,z1,y3,M,u6,r,z,q,L,u9,u5,K,C,y,G,x6,v,t,z6,v0,u3,y0,u2,y2,F,s,z4,m,z8,y4,y6,J,z0,E,T,x7,P,B,N,R,y1,O,S,x8,u7,y5,y7,Y,o,p,V,z9,u4] h (kU bW (uz h (afa n d neg a) (rO neg n d) xd)):=by
 refine GN ((DO n h).mono ?_);rintro _ g0 ⟨rfl,e0⟩;obtain rfl:h=g0:=e0.symm;refine⟨_,rfl,ay (λg=>oZ (Ok.refl w) λc=>?_) (λg=>?_)⟩
 ·obtain⟨⟨c1,c2⟩,_⟩:=c;rw[c1,eT c2]at g;cases g
 have hn:=LZ (n:=n) (by simpa using g);refine(DO d h).mono ?_;rintro _ g0 ⟨rfl,e0⟩;obtain rfl:h=g0:=e0.symm;refine⟨_,rfl,ay (λg=>oZ (Ok.refl w) λc=>?_) (λg=>?_)⟩
 ·obtain⟨_,⟨c1,c2⟩,_⟩:=c;rw[c1,eT c2]at g;cases g
 have hd:=LZ (n:=d) (by simpa using g);have fin:d≠[48]->¬(n=[48]/\(neg=af\/a=af))->¬(d=[49]/\a=af)->∀{x0 x1 x2 x3 x4 x5 z3 z5 H y9 X u1 u8 y8 u0 z7 I D A W Z v1 z2 x9 Q z1 y3 M u6 r z q L u9 u5 K C y G x6 v t z6 v0 u3 y0 u2 y2 F s z4 m z8 y4 y6 J z0 E T x7 P B N R y1 O S x8 u7 y5 y7 Y o p V z9 u4:ah},
   TT SS bW (pq 255) [x0,x1,x2,x3,x4,x5,strOf n,strOf d,ai neg,aA l,z3,z5,H,y9,X,u1,u8,y8,u0,z7,I,D,A,W,Z,v1,z2,x9,Q,z1,y3,M,u6,r,z,q,L,u9,u5,K,C,y,G,x6,v,t,z6,v0,u3,y0,u2,y2,F,s,z4,m,z8,y4,y6,J,z0,E,T,x7,P,B,N,R,y1,O,S,x8,u7,y5,y7,Y,o,p,V,z9,u4] h (kU bW (uz h (afa n d neg a) (rO neg n d) xd)):=by
  intro c3 c4 c5;intros;refine GO ((Yn n d h w).mono ?_);rintro _ h1 ⟨rfl,o1⟩;rw[PK hn.1 hd.1];refine⟨_,_,rfl,?_⟩;have e1:bp (Nat.gcd (Num.val n) (Num.val d))=[49]↔Nat.gcd (Num.val n) (Num.val d)=1:=qp;refine ay (λb=>ay (λi=>oZ o1 λc=>?_) (λi=>B6 o1 ?_)) (λb=>B6 o1 ?_)
  ·have b:¬bp (Nat.gcd (Num.val n) (Num.val d))=[49]:=by simpa using b
   have i:¬d=[49]:=by simpa using i
   rcases c.2.2.2.2.2 with c|c
   ·exact b (e1.2 c)
   ·exact i c
  ·have i:d=[49]:=by simpa using i
   exact⟨hn,hd,c3,c4,c5,.inr i⟩
  ·have b:bp (Nat.gcd (Num.val n) (Num.val d))=[49]:=by simpa using b
   exact⟨hn,hd,c3,c4,c5,.inl (e1.1 b)⟩
 refine ay (λb=>oZ (Ok.refl w) λc=>?_) (λb=>?_)
 ·exact c.2.2.1 (by simpa using b)
 have b:d≠[48]:=by simpa using b
 have v3:∀{x:Bool},(x=af->l>=0)->True:=λ_=>trivial;have U:decide (l>=0)=ak->¬a=af:=λe f=>by rw[v2]at f;rw[f]at e;cases e
 have u:decide (l>=0)=af->a=af:=λe=>by rw[v2,e]
 refine ay (λi=>?_) (λi=>?_)
 ·have i:n=[48]:=by simpa using i
  refine ay (λg3=>oZ (Ok.refl w) λc=>c.2.2.2.1 ⟨i,.inl g3⟩) (λg3=>?_);have g3:¬neg=af:=by rw[g3];simp
  refine ay (λg4=>oZ (Ok.refl w) λc=>c.2.2.2.1 ⟨i,.inr (u g4)⟩) (λg4=>?_);have f4:¬(n=[48]/\(neg=af\/a=af)):=λc=>c.2.elim g3 (U g4);refine ay (λk=>?_) (λk=>?_)
  ·refine ay (λj=>oZ (Ok.refl w) λc=>c.2.2.2.2.1 ⟨by simpa using k,u j⟩) (λj=>?_);exact fin b f4 (λc=>U j c.2)
  ·exact fin b f4 (λc=>(by
    have:¬d=[49]:=by simpa using k
    exact this c.1))
 ·have f4:¬(n=[48]/\(neg=af\/a=af)):=λc=>by
   have:¬n=[48]:=by simpa using i
   exact this c.1
  refine ay (λk=>?_) (λk=>?_)
  ·refine ay (λj=>oZ (Ok.refl w) λc=>c.2.2.2.2.1 ⟨by simpa using k,u j⟩) (λj=>?_);exact fin b f4 (λc=>U j c.2)
  ·exact fin b f4 (λc=>(by
    have:¬d=[49]:=by simpa using k
    exact this c.1))
def qM(l:List UInt8):ah:=if fE l=af then rO (Num.isNeg l) (Num.numOf l) (dW l)else xd
theorem NM{l:List UInt8}(q:uz h (afa (Num.numOf l) (dW l) (Num.isNeg l) (eP l)) (rO (Num.isNeg l) (Num.numOf l) (dW l)) xd v g):v=qM l/\Ok h g:=by
 obtain⟨o,d,b⟩:=q;refine⟨?_,o⟩;unfold qM;by_cases a:fE l=af
 ·rw[iP a];exact d (Fg.1 (kS.1 a))
 ·rw[iN a];exact b λc=>a (kS.2 (Fg.2 c))
theorem tL(l:List UInt8)(y:l.length<=281474976710656){h:aw}(w:Wf h):aW 225 [strOf l] h (λv H=>v=qM l/\Ok h H):=by
 refine FW.mono (Q:=uz h (afa (Num.numOf l) (dW l) (Num.isNeg l) (eP l)) (rO (Num.isNeg l) (Num.numOf l) (dW l)) xd) ?_ (λ_ _ q=>NM q);have z:∀m:List UInt8,m.length<=281474976710656->∀(K:VH),(∀(b:Int),b=Kg m->(if b>=0 then ∃i:Nat,b=(i:Int)/\aj an (b+1)=((i+1:Nat):Int)/\i=iV 47 m/\i<m.length else ¬iV 47 m<m.length)  ->K (aA b) h)->aW 247 [strOf m,aB aK 47] h K:=by
  intro m C K G;refine(NV m C h).mono ?_;rintro _ J ⟨rfl,I⟩;obtain rfl:h=J:=I.symm;refine G _ rfl ?_;unfold Kg;by_cases g:iV 47 m<m.length
  ·rw[iP g,iP (by omega)];exact⟨_,rfl,by rw[cj (by omega) (by omega)];omega,rfl,g⟩
  ·rw[iN g,iN (by omega)];exact g
 have s:∀(m:List UInt8),m=ee l->m.length<=281474976710656->∀(b:Int),(if b>=0 then ∃i:Nat,b=(i:Int)/\aj an (b+1)=((i+1:Nat):Int)/\i=iV 47 m/\i<m.length else ¬iV 47 m<m.length)->
   (decide (b>=0)=af->eP l=af/\cY au 9 (strOf m) (aa (aA (aj an (b+1)))) none none h=aa (strOf (dW l))/\cY au 9 (strOf m) none (aa (aA b)) none h=aa (strOf (Num.numOf l)))/\
   (decide (b>=0)=ak->eP l=ak/\m=Num.numOf l/\dW l=[49]):=by
  intro m d C b p;refine⟨λg=>?_,λg=>?_⟩
  ·rw[iP (dT g)]at p;obtain⟨i,rfl,F,rfl,A⟩:=p;have r:eP l=af:=by unfold eP;rw[<-d];exact eT A
   refine⟨r,?_,?_⟩
   ·rw[F,AG m h A];unfold dW;rw[iP r,d]
   ·rw[Od m h (Nat.le_of_lt A)];unfold Num.numOf;rw[d]
  ·rw[iN (dF g)]at p;have r:eP l=ak:=by unfold eP;rw[<-d];exact eF p
   refine⟨r,?_,?_⟩
   ·unfold Num.numOf;rw[<-d,bm (by omega)]
   ·unfold dW;rw[r];rfl
 have t:∀(m:List UInt8),m=ee l->m.length<=281474976710656:=λm d=>by
  rw[d];unfold ee;split
  ·rw[cQ];omega
  ·exact y
 refine NW l h _ (ay (λg=>?_) (λg=>?_))
 ·have g:=dT g
  cases l with
  |nil=>simp at g
  | cons c l'=>
   have e:dR au 9 (strOf (c::l')) (aA 0)=aa (aB aK ((c.toNat:Nat):Int)):=by
    have:=tT Y7 (c::l') an (i:=0) (by omega) g;simpa using this
   refine⟨_,e,ay (λo=>?_) (λo=>?_)⟩
   ·have o:c=45:=by
     have:((c.toNat:Nat):Int)=45:=by simpa using o
     rw[<-fQ];show c.toNat=45;omega
    have n:Num.isNeg (c::l')=af:=by unfold Num.isNeg;rw[o];rfl
    have d:l'=ee (c::l'):=by unfold ee;rw[iP n];rfl
    have D:cY au 9 (strOf (c::l')) (aa (aA 1)) none none h=aa (strOf l'):=AG (c::l') h (a:=1) (by simp);refine⟨_,D,z l' (t _ d) _ (λb E p=>⟨b,rfl,?_⟩)⟩;obtain⟨u,x⟩:=s l' d (t _ d) b p;have B:(((c.toNat:Nat):Int)==45)=af:=o▸rfl;rw[n,B];refine ay (λg=>?_) (λg=>?_)
    ·obtain⟨k,j,f⟩:=u g;exact⟨_,j,_,f,vZ _ _ af b _ (by rw[k,g]) w⟩
    ·obtain⟨k,j,f⟩:=x g;rw[f,<-j];exact vZ _ _ af b _ (by rw[k,g]) w
   ·have o:¬c=45:=λe=>by rw[e]at o;cases o
    have n:Num.isNeg (c::l')=ak:=by
     unfold Num.isNeg;simp[o]
    have d:c::l'=ee (c::l'):=by unfold ee;rw[n];rfl
    have B:(((c.toNat:Nat):Int)==45)=ak:=by
     have:((c.toNat:Nat):Int)≠45:=λe=>o (by rw[<-fQ];show c.toNat=45;omega);simpa using this
    refine z (c::l') y _ (λb E p=>⟨b,rfl,?_⟩);obtain⟨u,x⟩:=s _ d y b p;rw[n,B];refine ay (λg=>?_) (λg=>?_)
    ·obtain⟨k,j,f⟩:=u g;exact⟨_,j,_,f,vZ _ _ ak b _ (by rw[k,g]) w⟩
    ·obtain⟨k,j,f⟩:=x g;rw[f,<-j];exact vZ _ _ ak b _ (by rw[k,g]) w
 ·have g:=dF g;obtain rfl:l=[]:=aY (by omega);have d:[]=ee []:=rfl;refine z [] (by simp) _ (λb E p=>⟨b,rfl,?_⟩);obtain⟨u,x⟩:=s _ d (by simp) b p;refine ay (λg=>?_) (λg=>?_)
  ·obtain⟨k,j,f⟩:=u g;exact⟨_,j,_,f,vZ _ _ ak b _ (by rw[k,g]) w⟩
  ·obtain⟨k,j,f⟩:=x g;rw[f,<-j];exact vZ _ _ ak b _ (by rw[k,g]) w
theorem LC{l:List UInt8}{K:ah->Prop}(a:K (qM l)):∃(c:Bool)(d e:List UInt8)(b:Bool),qM l=(av ⟨[ai c,strOf d,strOf e,ai b]⟩)/\K (av ⟨[ai c,strOf d,strOf e,ai b]⟩)/\b=fE l:=by
 unfold qM at*
 cases g:fE l with
 |true=>rw[g]at a;exact⟨_,_,_,_,rfl,a,rfl⟩
 |false=>rw[g]at a;exact⟨_,_,_,_,rfl,a,rfl⟩
theorem N0(l:List UInt8)(d:l.length<=281474976710656){h:aw}(w:Wf h):aW 188 [strOf l] h (λv f=>v=ai (fE l)/\Ok h f):=by
 refine NZ l h _ ((tL l d w).mono ?_);rintro _ k ⟨rfl,a⟩;obtain⟨b,i,j,c,e,_,g⟩:=LC (l:=l) (K:=λ_=>True) trivial;exact⟨b,i,j,c,e,by rw[g],a⟩
theorem tX(h:n<10^800):Num.valid (bp n)=af:=rV.2 (cz h (Cy (k:=800) (m:=1000) (by decide)))
theorem Vb(h:m<10^1000):ur m=JR (bp m) 0:=by
 unfold ur;rw[iN];have:=(js (n:=m) (k:=1000) (by decide)).2 h;omega
theorem OU(b:n<10^800)(a:m<10^800):Gr (bp n) (bp m)=JR (bp (n+m)) 0:=by
 unfold Gr;rw[iP ⟨tX b,tX a⟩,ff,ff];exact Vb (cz (Nat.add_lt_add b a) VT)
theorem D8(b:n<10^800)(a:m<10^800)(h:m<=n):GQ (bp n) (bp m)=JR (bp (n-m)) 0:=by
 unfold GQ;rw[iP ⟨tX b,tX a⟩,ff,ff,iN (Nat.not_lt.2 h)]
theorem Pd(b:n<10^800)(a:m<10^800):Gt (bp n) (bp m)=aA (iU n m):=by
 unfold Gt;rw[iP ⟨tX b,tX a⟩,ff,ff]
theorem uu{a b:List UInt8}(d:Num.valid a=af)(c:Num.valid b=af)(e:a.length<=400)(f:b.length<=400):GD a b=JR (bp (Num.val a*Num.val b)) 0/\Num.val a*Num.val b<10^800:=by
 have h:=JX (HB (k:=400) d (by decide) e) (HB (k:=400) c (by decide) f);refine⟨?_,h⟩;unfold GD;rw[iP ⟨d,c⟩];exact Vb (cz h (Cy (k:=800) (m:=1000) (by decide)))
def FJ(s:Bool)(A:Nat)(t:Bool)(B:Nat):ah:= av ⟨[ai (oC s A t B).1,strOf (bp (oC s A t B).2)]⟩
theorem CL:iU n m<0↔n<m:=By
theorem Ty(s:Bool)(A:Nat)(t:Bool)(B:Nat)(f:A<10^800)(e:B<10^800){h:aw}(w:Wf h):aW 226 [ai s,strOf (bp A),ai t,strOf (bp B)] h (λv l=>v=FJ s A t B/\Ok h l):=by
 refine Tx s _ t _ h _ (ay (λg=>?_) (λg=>?_))
 ·have g:s=t:=by simpa using g
  refine(Yh _ _ w).mono ?_;rintro _ j ⟨rfl,a⟩;rw[OU f e];refine⟨_,_,rfl,?_,a⟩;unfold FJ oC;rw[iP g]
 ·have g:¬s=t:=by simpa using g
  refine(Yj _ _ w).mono ?_;rintro _ j ⟨rfl,a⟩;rw[Pd f e];refine⟨_,rfl,ay (λd=>?_) (λd=>?_)⟩
  ·have d:=dT d;have b:¬A<B:=λc=>by have:=CL.2 c;omega
   refine(LN _ _ a.wf).mono ?_;rintro _ k ⟨rfl,i⟩;rw[D8 f e (Nat.not_lt.1 b)];refine⟨_,_,rfl,?_,a.trans i⟩;unfold FJ oC;rw[iN g,iN b]
  ·have d:=dF d;have b:A<B:=CL.1 (by omega);refine(LN _ _ a.wf).mono ?_;rintro _ k ⟨rfl,i⟩;rw[D8 e f (Nat.le_of_lt b)];refine⟨_,_,rfl,?_,a.trans i⟩;unfold FJ oC;rw[iN g,iP b]
theorem DP{a b:List UInt8}(f:Num.valid a=af)(c:Num.valid b=af)(g:a.length<=400)(i:b.length<=400){h:aw}(w:Wf h):aW 227 [strOf a,strOf b] h (λv e=>v=strOf (bp (Num.val a*Num.val b))/\Ok h e):=by
 refine NY a b h _ ((Yp a b w).mono ?_);rintro _ j ⟨rfl,d⟩;rw[(uu f c g i).1];exact⟨_,_,rfl,rfl,d⟩
theorem Tw(l m:List UInt8)(u:l.length<=281474976710656)(p:m.length<=281474976710656){h:aw}(w:Wf h):aW 189 [strOf l,strOf m] h (λv A=>v=aA (jY l m)/\Ok h A):=by
 refine Tv l m h _ ((tL l u w).mono ?_);rintro _ E ⟨rfl,i⟩
 cases g:fE l with
 |false=>
  have e:qM l=xd:=by unfold qM;rw[g];rfl
  refine⟨_,_,_,_,e,(tL m p i.wf).mono ?_⟩;rintro _ y ⟨rfl,j⟩;obtain⟨s,B,C,t,k,_,G⟩:=LC (l:=m) (K:=λ_=>True) trivial;refine⟨s,B,C,t,k,?_,i.trans j⟩;unfold jY;rw[iN (λc=>by rw[c.1]at g;cases g)]
 | true=>
  have e:qM l=rO (Num.isNeg l) (Num.numOf l) (dW l):=by unfold qM;rw[g];rfl
  refine⟨_,_,_,_,e,(tL m p i.wf).mono ?_⟩;rintro _ y ⟨rfl,j⟩
  cases f:fE m with
  |false=>
   have k:qM m=xd:=by unfold qM;rw[f];rfl
   refine⟨_,_,_,_,k,?_,i.trans j⟩;unfold jY;rw[iN (λc=>by rw[c.2]at f;cases f)]
  | true=>
   have k:qM m=rO (Num.isNeg m) (Num.numOf m) (dW m):=by unfold qM;rw[f];rfl
   have a:=kS.1 g;have b:=kS.1 f;refine⟨_,_,_,_,k,(DP a.num b.den a.ln b.ld j.wf).mono ?_⟩;rintro _ D ⟨rfl,r⟩;refine⟨_,rfl,(DP b.num a.den b.ln a.ld r.wf).mono ?_⟩;rintro _ F ⟨rfl,q⟩;refine⟨_,rfl,(Ty _ _ _ _ (uu a.num b.den a.ln b.ld).2 (uu b.num a.den b.ln a.ld).2 q.wf).mono ?_⟩;rintro _ H ⟨rfl,x⟩;have o:=(((i.trans j).trans r).trans q).trans x;refine⟨_,_,rfl,?_⟩;unfold jY;rw[iP ⟨g,f⟩];generalize oC _ _ _ _=z;refine ay (λd=>⟨?_,o⟩) (λd=>?_)
   ·have d:bp z.2=[48]:=by simpa using d
    rw[iP (gU.1 d)]
   ·have d:¬bp z.2=[48]:=by simpa using d
    rw[iN (λc=>d (gU.2 c))];refine ay (λn=>⟨?_,o⟩) (λn=>⟨?_,o⟩)
    ·rw[iP n]
    ·rw[iN (by rw[n];simp)]
end Go.Proofs.YtnlccnpbjeiccaaGreatDoor
end
section
set_option linter.defProp false
namespace Go.Proofs.YtnlccnpbjeiccaaGreatDoor
open Go Go.Ab Go.Num
variable{h:aw}{n:Nat}{m:Nat}{x:List Nat}{g:aw}
structure MR(hb:aw)(kt N:Nat)(L:List Nat)(g:aw):Prop where
 len:L.length=N
 lt:∀d∈L,d<BB
 row:g.get kt=aa (.cells (fC ((aH N 0).map uv) 0 L) 240 1 af)
 ok:Ok hb g
theorem MR.room(a:MR h n m x g)(r:Nat):MR h n m x (Go.Ab.room g r):=⟨a.len,a.lt,a.row,a.ok.room r⟩
theorem MR.get{c:Nat}{b:aw}(a:MR g n m x b){j:Int}{jn:Nat}(r:j=(jn:Int))(f:jn<m):∃p:aF,aZ au 260 (sA n m c) (aA j)=aa (bN p)/\aM au 240 b (bN p)=aa (bD (x.getD jn 0:Nat))/\
  ∀d:Nat,d<BB->n<b.ax->g.ax<=n->Wf g->∃u:dJ,aQ au 240 (bN p) (bD (d:Int)) b=aa (undef,u)/\MR g n m (x.set jn d) (u.app b):=by
 subst r;have i:(0:Nat)+x.length<=((aH m 0).map uv).length:=by rw[aG,bE,a.len];omega
 refine⟨⟨n,0+(jn:Int).toNat,none⟩,C9 (by omega) (by omega),?_,?_⟩
 ·rw[bn];exact II a.row i (by rw[a.len];exact f)
 ·intro d q o k w;rw[bn];refine⟨_,Jp a.row i (by rw[a.len];exact f) d,by rw[bT];exact a.len,λe l=>?_,?_,a.ok.set _ k o w⟩
  ·rcases List.mem_or_eq_of_mem_set l with h|h
   ·exact a.lt e h
   ·rw[h];exact q
  ·show(b.set n _).get n=_;rw[aw.bZ,iP rfl]
def aa5(a:aw)(c N n:Nat)(x y:List Nat)(b i:Nat)(g:aw):Prop:=i<=n/\b=n-i/\∃L,MR a c N L g/\Num.bv BB L=Num.bv BB (x.take i)*Num.bv BB y
def agk(b:aw)(d N k:Nat)(x y:List Nat)(i c j:Nat)(cy:Int)(g:aw):Prop:=j<=k+1/\c=k+1-j/\∃(L:List Nat)(a:Nat),cy=(a:Int)/\a<BB/\MR b d N L g/\Num.bv BB L+a*BB^(i+j)=Num.bv BB (x.take i)*Num.bv BB y+x.getD i 0*Num.bv BB (y.take j)*BB^i
theorem SN(w:Wf h){c N k:Nat}{x y:List Nat}(A:h.ax<=c)(u:∀d∈x,d<BB)(z:∀d∈y,d<BB){i l j:Nat}{f:Nat}{L:List Nat}{g:aw}(C:j<k+1)(o:i+j<N)(B:l=k+1-j)(n:f<BB)(m:MR h c N L g)(s:Num.bv BB L+f*BB^(i+j)=Num.bv BB (x.take i)*Num.bv BB y+x.getD i 0*Num.bv BB (y.take j)*BB^i){q:Nat}(r:q=x.getD i 0*y.getD j 0):
  q<=999999998000000001/\L.getD (i+j) 0<BB/\(∀p,MR h c N (L.set (i+j) ((L.getD (i+j) 0+f+q)%BB)) p->l-1<l/\agk h c N k x y i (l-1) (j+1) (((L.getD (i+j) 0+f+q)/BB:Nat):Int) p)/\(L.getD (i+j) 0+f+q)%BB<BB/\c<g.ax:=by
 have e:=cW (b:=BB) (by decide) u i;have a:=cW (b:=BB) (by decide) z j;have t:=cW (b:=BB) (by decide) m.lt (i+j);refine⟨?_,t,λp v=>⟨by omega,by omega,by omega,_,_,rfl,?_,v,?_⟩,dP _ (by decide),m.ok.wf _ _ m.row⟩
 ·rw[r];exact bK (dC (Nat.le_of_lt_succ e) (Nat.le_of_lt_succ a)) (by decide)
 ·exact(BA lE m.lt (by rw[m.len];exact o) n e a (by rw[r]) s).2.1
 ·exact(BA lE m.lt (by rw[m.len];exact o) n e a (by rw[r]) s).2.2
def Xm{f:aw}(w:Wf f){a:Option aF}{n c:Nat}{b:Option aF}{k d:Nat}{t N tc:Nat}{x y:List Nat}(ra:Rd f 240 (ae a n c) (x.map uv))(rb:Rd f 240 (ae b k d) (y.map uv))(P:∀d∈x,d<BB)(V:∀d∈y,d<BB)(o:f.ax<=t){i:Nat}(hi:i<n)(hn:n=x.length)(hk:k=y.length)(hN:N=n+k+1)(x0:N<=1000)(l m:List UInt8)(Q:VH)(K:Nat)(x2:K=n-i):=
 Ds l m a n c b k d (aa ⟨t,0,none⟩) N tc (n:Int) (aa5 f t N n x y) K i ((k:Int)+1) (agk f t N k x y i) Q (by
  intro z j cy;intros;rename_i g J;obtain⟨h1,h2,L,v,rfl,Z,e,S⟩:=J;have x1:BB=1000000000:=rfl;have W:aj an ((i:Int)+(j:Int))=((i+j:Nat):Int):=by rw[cj (by omega) (by omega)];omega
  have e2:aj an ((j:Int)+1)=((j+1:Nat):Int):=by rw[cj (by omega) (by omega)];omega
  have e3:aj an ((i:Int)+1)=((i+1:Nat):Int):=by rw[cj (by omega) (by omega)];omega
  rw[W,e2,e3];refine ay (λs=>?_) (λs=>?_)
  ·have s:=dT s;obtain⟨q,D⟩:∃q,q=x.getD i 0*y.getD j 0:=⟨_,rfl⟩
   obtain⟨s1,s2,A,C,M⟩:=SN w o P V (by omega) (by omega) h2 Z e S D;obtain⟨p,g1,X,_⟩:=e.get (c:=tc) (j:=((i+j:Nat):Int)) rfl (by omega);have R:aj az (((L.getD (i+j) 0:Nat):Int)+(v:Int))=((L.getD (i+j) 0+v:Nat):Int):=by rw[jO (by omega) (by omega)];omega
   refine⟨p,g1,_,X,ay (λr=>?_) (λr=>?_)⟩
   ·have r:=dT r;obtain⟨p1,f1,T⟩:=K2 (ra.ok (e.room 12).ok) (i:=(i:Int)) (by omega) (by omega);obtain⟨Y,f3,U⟩:=K2 (rb.ok (e.room 12).ok) (i:=(j:Int)) (by omega) (by omega);rw[bn]at T U;have e5:aj az (((x.getD i 0:Nat):Int)*((y.getD j 0:Nat):Int))=(q:Int):=by rw[<-gW,<-D];exact jO (by omega) (by omega)
    have e6:aj az (((L.getD (i+j) 0+v:Nat):Int)+(q:Int))=((L.getD (i+j) 0+v+q:Nat):Int):=by rw[jO (by omega) (by omega)];omega
    rw[R];refine⟨p1,f1,_,T,Y,f3,_,U,?_⟩;dsimp only;rw[e5,e6];obtain⟨H,I,_,F⟩:=(e.room 12).get (c:=tc) (j:=((i+j:Nat):Int)) rfl (by omega);obtain⟨u,E,B⟩:=F _ C (cz M (dg _ _)) o w;obtain⟨G,h⟩:=A _ B;refine⟨_,mL (b:=BB) (by omega) (by decide),_,vf (b:=BB) (by omega) (by omega) (by decide),H,I,u,E,pe (z-1) G ?_⟩;rw[Int.natCast_ediv]at h;exact h
   ·have r:=dF r;have y0:y.getD j 0=0:=by rw[gD,List.getElem?_eq_none (by omega)];rfl
    have O:q=0:=by rw[D,y0,iD]
    rw[R];obtain⟨H,I,_,F⟩:=e.get (c:=tc) (j:=((i+j:Nat):Int)) rfl (by omega);rw[O,fh]at A C;obtain⟨u,E,B⟩:=F _ C M o w;obtain⟨G,h⟩:=A _ B;refine⟨_,mL (b:=BB) (by omega) (by decide),_,vf (b:=BB) (by omega) (by omega) (by decide),H,I,u,E,pe (z-1) G ?_⟩;rw[Int.natCast_ediv]at h;exact h
  ·have s:=dF s;obtain rfl:j=k+1:=by omega
   refine fG (n-(i+1)) (by omega) ⟨by omega,rfl,L,e,?_⟩;exact KP lE P V (by omega) e.lt (by rw[<-hk];exact S))
theorem acQ(d:(cT BB n).length<=112)(f:(cT BB m).length<=112):(cT BB (n*m)).length<=10000:=by
 have a:=jH (gh lE n);have b:=jH (gh lE m);rw[fb lE]at a b;have c:=cz a (dG (show 0<BB by decide) d);have e:=cz b (dG (show 0<BB by decide) f);refine bK (qn lE (k:=224) ?_) (by omega);rw[show 224=112+112 from rfl,Nat.pow_add];exact Nat.mul_lt_mul'' c e
theorem Lt(a b:List UInt8){h:aw}(t:BG h)(w:Wf h):aW 172 [strOf a,strOf b] h (λv A=>v=GD a b/\Ok h A):=by
 refine Xu a b h _ ((iT a h).mono ?_);rintro _ D ⟨rfl,B⟩;obtain rfl:h=D:=B.symm;refine⟨_,rfl,ay (λg=>?_) (λg=>?_)⟩
 ·have g:Num.valid a=ak:=by simpa using g
  refine⟨?_,Ok.refl w⟩;unfold GD;rw[iN (λe=>by rw[e.1]at g;cases g)];rfl
 have g:Num.valid a=af:=by simpa using g
 refine(iT b h).mono ?_;rintro _ D ⟨rfl,B⟩;obtain rfl:h=D:=B.symm;refine⟨_,rfl,ay (λl=>?_) (λl=>?_)⟩
 ·have l:Num.valid b=ak:=by simpa using l
  refine⟨?_,Ok.refl w⟩;unfold GD;rw[iN (λe=>by rw[e.2]at l;cases l)];rfl
 have l:Num.valid b=af:=by simpa using l
 have P:=afI g l;have lx:=P.lx;have ly:=P.ly;refine(sq g w).mono ?_;rintro _ h1 ⟨S,f,O,rfl,T,u⟩;refine⟨_,_,_,rfl,(sq l u.wf).mono ?_⟩;rintro _ m ⟨G,k,Q,rfl,o2,z⟩;refine⟨_,_,_,rfl,?_⟩;have hS:GD a b=ur (Num.val a*Num.val b):=by unfold GD;rw[iP ⟨g,l⟩]
 rw[hS];have q:=T.rd.ok z;have r:=o2.rd;have s:=u.trans z;have N:f=(cT BB (Num.val a)).length:=by have:=q.len;rwa[aG]at this
 have F:k=(cT BB (Num.val b)).length:=by have:=r.len;rwa[aG]at this
 have hX:=gh lE (Num.val a);have Z:=gh lE (Num.val b);have bX:=fb lE (Num.val a);have W:=fb lE (Num.val b);have q:Rd m 240 (ae S f O) ((cT BB (Num.val a)).map uv):=q;have r:Rd m 240 (ae G k Q) ((cT BB (Num.val b)).map uv):=r;have J:(cT BB (Num.val a*Num.val b)).length<=10000:=acQ lx ly;generalize Num.val a=X at*;generalize Num.val b=Y at*;generalize cT BB X=x at*;generalize cT BB Y=y at*;have V:aj an (aj an ((f:Int)+(k:Int))+1)=((f+k+1:Nat):Int):=by
  rw[cj (n:=(f:Int)+(k:Int)) (by omega) (by omega),cj (by omega) (by omega)];omega
 dsimp only;rw[V];refine⟨_,_,_,agj _ (by omega),?_⟩;have I:=(Ok.refl s.wf).push (.cells ((aH (f+k+1) 0).map uv) 240 1 af);have m0:MR m m.ax (f+k+1) (aH (f+k+1) 0) (m.push (.cells ((aH (f+k+1) 0).map uv) 240 1 af)):=by
  refine⟨bE,λd hd=>by rw[(List.mem_replicate.1 hd).2];decide,?_,I⟩;rw[aw.cZ,iP rfl,su (by rw[bV,bE,bm (by rw[aG,bE];omega)])]
 refine Dr a b S f O G k Q (aa ⟨m.ax,0,none⟩) (f+k+1) (f+k+1) (f:Int) (aa5 m m.ax (f+k+1) f x y) (λv A=>v=ur (X*Y)/\Ok h A) (λU i=>?_) f (i:=0) ⟨by omega,by omega,_,m0,by rw[yG,dU];simp[Num.bv]⟩;intros;rename_i g hi;obtain⟨f1,f2,L,o,E⟩:=hi;refine ay (λp=>?_) (λp=>?_)
 ·have p:=dT p;have e2:aj an ((k:Int)+1)=(k:Int)+1:=cj (by omega) (by omega);rw[e2];exact Xm s.wf q r hX Z (aS _) (i:=i) (by omega) N F rfl (by omega) a b _ U f2 (k+1) (j:=0) (cy:=0) ⟨by omega,by omega,L,0,rfl,by decide,o,by rw[E,dU];simp[Num.bv]⟩
 ·have p:=dF p;obtain rfl:f=i:=by omega
  rw[bm (by omega),bX,W]at E;have C:f+k+1<=dk (f+k+1):=by unfold dk;rw[iN (by unfold ft;omega)];omega
  have M:=Hj o.row (n:=f+k+1) (c:=f+k+1) o.len.symm C;refine(uZ M (by rw[o.len];omega)).mono ?_;rintro _ h6 ⟨rfl,e6⟩;subst e6;have H:=EZ M o.lt;rw[E]at H;refine⟨_,_,_,rfl,(Bk H J (t.ok (s.trans o.ok)) o.ok.wf).mono ?_⟩;rintro _ h7 ⟨rfl,R⟩;exact Hn (K:=λv=>v=ur (X*Y)/\Ok h h7) (Dg _) ⟨rfl,(s.trans o.ok).trans R⟩
end Go.Proofs.YtnlccnpbjeiccaaGreatDoor
end
section
namespace Go.Proofs.YtnlccnpbjeiccaaGreatDoor
open Go Go.Ab Go.Num
variable{h:aw}{k:Nat}{b:Bool}{s:List UInt8}{t:List UInt8}{g:aw}{v:ah}
def JS:eE:= .cells [ai ak,strOf [],strOf []] 222 0 af
theorem Zn:cD au 222=aa (JS,jL):=by kernel_rfl
theorem ai4(neg:Bool)(n d:List UInt8):cI au 222 [(0,(ai neg)),(1,(strOf n)),(2,(strOf d))]=aa (aq ⟨[ai neg,strOf n,strOf d]⟩):=by kernel_rfl
theorem vv:cI au 222 []=aa (aq ⟨[ai ak,strOf [],strOf []]⟩):=by kernel_rfl
theorem acA:cd au 222=aa 3:=by kernel_rfl
theorem aiH:Go.Ab.isAgg au 222=af:=by kernel_rfl
noncomputable def ait:TypeDesc:=(au.underlying 222).getD .bool
theorem akk:au.underlying 222=aa ait:=by kernel_rfl
theorem agv{cs0:List ah}(a:cs0.length=3)(e:h.get k=aa (.cells cs0 222 0 af))(b:Bool)(n d:List UInt8):aQ au 222 (pA k) (aq ⟨[ai b,strOf n,strOf d]⟩) h=aa (undef,.set k (.cells [ai b,strOf n,strOf d] 222 0 af)):=by
 unfold aQ;dsimp only;rw[iP (show cd au 222=aa ((aq ⟨[ai b,strOf n,strOf d]⟩).cells).size from acA)];unfold storeAt;rw[e];dsimp only;have c:([ai b,strOf n,strOf d]:List ah).all eY=af:=rfl;rw[show(aq ⟨[ai b,strOf n,strOf d]⟩).cells.toList=[ai b,strOf n,strOf d]from rfl,iP ⟨by simp[a],c⟩,cU (by simp[a])];rfl
theorem ajE(a:h.get k=aa (.cells [ai b,strOf s,strOf t] 222 0 af)):aM au 222 h (pA k)=aa (aq ⟨[ai b,strOf s,strOf t]⟩):=mr akk aiH acA a (by simp)
theorem uA(l:List UInt8)(h:aw):aW 171 [strOf l,aA 0] h (λv a=>v=strOf l/\a=h):=
 Tl l 0 h _ (ay (λg=>by cases g) (λ_=>⟨rfl,rfl⟩))
theorem Tn(s:Bool)(A:Nat)(t:Bool)(B:Nat)(i:A<10^800)(e:B<10^800){h:aw}(f:BG h)(w:Wf h):aW 170 [ai s,strOf (bp A),ai t,strOf (bp B)] h (λv m=>v=FJ s A t B/\Ok h m):=by
 refine Tm s _ t _ h _ (ay (λg=>?_) (λg=>?_))
 ·have g:s=t:=by simpa using g
  refine(Xp _ _ f w).mono ?_;rintro _ k ⟨rfl,a⟩;rw[OU i e];refine⟨_,_,rfl,(uA _ _).mono ?_⟩;rintro _ _ ⟨rfl,rfl⟩;refine⟨_,rfl,?_,a⟩;unfold FJ oC;rw[iP g]
 ·have g:¬s=t:=by simpa using g
  refine(Xr _ _ f w).mono ?_;rintro _ k ⟨rfl,a⟩;rw[Pd i e];refine⟨_,rfl,ay (λd=>?_) (λd=>?_)⟩
  ·have d:=dT d;have b:A<B:=CL.1 (by omega);refine(Lu _ _ (f.ok a) a.wf).mono ?_;rintro _ l ⟨rfl,j⟩;rw[D8 e i (Nat.le_of_lt b)];refine⟨_,_,rfl,(uA _ _).mono ?_⟩;rintro _ _ ⟨rfl,rfl⟩;refine⟨_,rfl,?_,a.trans j⟩;unfold FJ oC;rw[iN g,iP b]
  ·have d:=dF d;have b:¬A<B:=λc=>by have:=CL.2 c;omega
   refine(Lu _ _ (f.ok a) a.wf).mono ?_;rintro _ l ⟨rfl,j⟩;rw[D8 i e (Nat.not_lt.1 b)];refine⟨_,_,rfl,(uA _ _).mono ?_⟩;rintro _ _ ⟨rfl,rfl⟩;refine⟨_,rfl,?_,a.trans j⟩;unfold FJ oC;rw[iN g,iN b]
def Xy(b:Bool)(n d:List UInt8):ah:= aq ⟨[ai b,strOf n,strOf d]⟩
def B2(l:List UInt8):ah:=if fE l=af then av ⟨[Xy (Num.isNeg l) (Num.numOf l) (dW l),ai af]⟩else av ⟨[Xy ak [] [],ai ak]⟩
def Ay(b:Bool)(n d:List UInt8):ah:= av ⟨[Xy b n d,ai af]⟩
def zy:ah:= av ⟨[Xy ak [] [],ai ak]⟩
structure RI(h0:aw)(k:Nat)(g:aw):Prop where
 row:∃cs0:List ah,cs0.length=3/\g.get k=aa (.cells cs0 222 0 af)
 new:h0.ax<=k
 ok:Ok h0 g
theorem RI.trans{a:aw}(m:RI h k g)(o:Ok g a):RI h k a:=by
 obtain⟨⟨cs,c,d⟩,b,e⟩:=m;exact⟨⟨cs,c,o.ext _ _ d⟩,b,e.trans o⟩
theorem Qm(w:Wf h){k:Nat}{g:aw}(m:RI h k g)(b:Bool)(n d:List UInt8)(a:Bool){Q:VH}(j:∀c,Ok h c->Q (av ⟨[Xy b n d,ai a]⟩) c):
  ∃u:dJ,aQ au 222 (pA k) (aq ⟨[ai b,strOf n,strOf d]⟩) g=aa (undef,u)/\gI SS [(pA k,aa 222),(ai a,none)] (u.app g) Q:=by
 obtain⟨⟨cs,i,e⟩,l,f⟩:=m;refine⟨_,agv i e b n d,?_⟩;have o:Ok h ((dJ.set k (.cells [ai b,strOf n,strOf d] 222 0 af)).app g):=f.set _ l (f.wf _ _ e) w;have p:((dJ.set k (.cells [ai b,strOf n,strOf d] 222 0 af)).app g).get k=aa (.cells [ai b,strOf n,strOf d] 222 0 af):=by
  show(g.set k _).get k=_;rw[aw.bZ,iP rfl]
 refine CU (v:=Xy b n d) (ajE p) ?_;exact j _ o
def ae4(n d:List UInt8)(neg a:Bool):Prop:=Num.valid n=af/\Num.valid d=af/\n.length<=400/\d.length<=400/\¬(neg=af/\n=[48])/\¬(a=af/\(d=[48]\/d=[49]))/\Nat.gcd (Num.val n) (Num.val d)=1
theorem sd(w:Wf h){k:Nat}{g:aw}(m:RI h k g){C:Prop}(a:¬C){G:ah}:
  ∃u:dJ,aQ au 222 (pA k) (aq ⟨[ai ak,strOf [],strOf []]⟩) g=aa (undef,u)/\gI SS [(pA k,aa 222),(ai ak,none)] (u.app g) (uz h C G zy):=
 Qm w m ak [] [] ak (λ_ o=>oZ o a)
theorem Vu(n d:List UInt8)(neg h:Bool)(k:Nat){h0 g:aw}(w:Wf h0)(m:RI h0 k g)(tb:BG g){x0 x1 x3 x4 x9 z1 z3 I y7 W z8 u4 y6 z7 z5 J E B V Y u7 z0 x6 R y9 y1 N u2 u A t M u5 u1 L D z H Z y x z4 u6 u0 x7 z9 y0 G v z2 r z6 y2 y4 K y8 F U x2 Q C O S x8 P T x5 u3 y3 y5 X s:ah}:
  TT SS bM (pq 31) [x0,x1,pA k,x3,x4,ai neg,strOf n,strOf d,ai h,x9,z1,z3,I,y7,W,z8,u4,y6,z7,z5,J,E,B,V,Y,u7,z0,x6,R,y9,y1,N,u2,u,A,t,M,u5,u1,L,D,z,H,Z,y,x,z4,u6,u0,x7,z9,y0,G,v,z2,r,z6,y2,y4,K,y8,F,U,x2,Q,C,O,S,x8,P,T,x5,u3,y3,y5,X,s] g (kU bM (uz h0 (ae4 n d neg h) (Ay neg n d) zy)):=by
 refine I7 ((iT n g).mono ?_);rintro _ g0 ⟨rfl,e0⟩;obtain rfl:g=g0:=e0.symm;refine⟨_,rfl,ay (λl=>⟨_,vv,sd w m (λc=>?_)⟩) (λl=>?_)⟩
 ·rw[c.1]at l;cases l
 have l:Num.valid n=af:=by simpa using l
 refine(iT d g).mono ?_;rintro _ g0 ⟨rfl,e0⟩;obtain rfl:g=g0:=e0.symm;refine⟨_,rfl,ay (λi=>⟨_,vv,sd w m (λc=>?_)⟩) (λi=>?_)⟩
 ·rw[c.2.1]at i;cases i
 have i:Num.valid d=af:=by simpa using i
 refine ay (λq=>⟨_,vv,sd w m (λc=>?_)⟩) (λq=>?_)
 ·have:=c.2.2.1;have q:=dT q;omega
 have q:n.length<=400:=by have q:=dF q;omega
 refine ay (λj=>⟨_,vv,sd w m (λc=>?_)⟩) (λj=>?_)
 ·have:=c.2.2.2.1;have j:=dT j;omega
 have j:d.length<=400:=by have j:=dF j;omega
 have fin:¬(neg=af/\n=[48])->¬(h=af/\(d=[48]\/d=[49]))->∀{x0 x1 x3 x4 x9 z1 z3 I y7 W z8 u4 y6 z7 z5 J E B V Y u7 z0 x6 R y9 y1 N u2 u A t M u5 u1 L D z H Z y x z4 u6 u0 x7 z9 y0 G v z2 r z6 y2 y4 K y8 F U x2 Q C O S x8 P T x5 u3 y3 y5 X s:ah},TT SS bM (pq 127) [x0,x1,pA k,x3,x4,ai neg,strOf n,strOf d,ai h,x9,z1,z3,I,y7,W,z8,u4,y6,z7,z5,J,E,B,V,Y,u7,z0,x6,R,y9,y1,N,u2,u,A,t,M,u5,u1,L,D,z,H,Z,y,x,z4,u6,u0,x7,z9,y0,G,v,z2,r,z6,y2,y4,K,y8,F,U,x2,Q,C,O,S,x8,P,T,x5,u3,y3,y5,X,s] g (kU bM (uz h0 (ae4 n d neg h) (Ay neg n d) zy)):=by
  intro p c6;intros;refine I9 ((Xt n d tb m.ok.wf).mono ?_);rintro _ h1 ⟨rfl,o1⟩;have m1:=m.trans o1;rw[PK l i];refine⟨_,_,rfl,ay (λe=>by cases e) (λ_=>?_)⟩;refine ay (λe=>⟨_,vv,sd w m1 (λc=>?_)⟩) (λe=>?_)
  ·have e:¬bp (Nat.gcd (Num.val n) (Num.val d))=[49]:=by simpa using e
   exact e (qp.2 c.2.2.2.2.2.2)
  ·have e:bp (Nat.gcd (Num.val n) (Num.val d))=[49]:=by simpa using e
   refine Ja ⟨_,ai4 neg n d,Qm w m1 neg n d af (λ_ o=>B6 o ?_)⟩;exact⟨l,i,q,j,p,c6,qp.1 e⟩
 refine I8 (ay (λg5=>ay (λg6=>⟨_,vv,sd w m (λc=>?_)⟩) (λg6=>?_)) (λg5=>?_))
 ·exact c.2.2.2.2.1 ⟨g5,by simpa using g6⟩
 ·have p:¬(neg=af/\n=[48]):=λc=>by
   have:¬n=[48]:=by simpa using g6
   exact this c.2
  refine ay (λb=>ay (λa=>⟨_,vv,sd w m (λc=>?_)⟩) (λa=>ay (λf=>⟨_,vv,sd w m (λc=>?_)⟩) (λf=>?_))) (λb=>?_)
  ·exact c.2.2.2.2.2.1 ⟨b,.inl (by simpa using a)⟩
  ·exact c.2.2.2.2.2.1 ⟨b,.inr (by simpa using f)⟩
  ·refine fin p (λc=>?_);have a:¬d=[48]:=by simpa using a
   have f:¬d=[49]:=by simpa using f
   exact c.2.elim a f
  ·exact fin p (λc=>by rw[c.1]at b;cases b)
 ·have p:¬(neg=af/\n=[48]):=λc=>by rw[c.1]at g5;cases g5
  refine ay (λb=>ay (λa=>⟨_,vv,sd w m (λc=>?_)⟩) (λa=>ay (λf=>⟨_,vv,sd w m (λc=>?_)⟩) (λf=>?_))) (λb=>?_)
  ·exact c.2.2.2.2.2.1 ⟨b,.inl (by simpa using a)⟩
  ·exact c.2.2.2.2.2.1 ⟨b,.inr (by simpa using f)⟩
  ·refine fin p (λc=>?_);have a:¬d=[48]:=by simpa using a
   have f:¬d=[49]:=by simpa using f
   exact c.2.elim a f
  ·exact fin p (λc=>by rw[c.1]at b;cases b)
theorem NL{l:List UInt8}(q:uz h (ae4 (Num.numOf l) (dW l) (Num.isNeg l) (eP l)) (Ay (Num.isNeg l) (Num.numOf l) (dW l)) zy v g):v=B2 l/\Ok h g:=by
 obtain⟨o,d,b⟩:=q;refine⟨?_,o⟩;unfold B2;by_cases a:fE l=af
 ·rw[iP a];have r:=kS.1 a;exact d ⟨r.num,r.den,r.ln,r.ld,r.neg,r.fr,r.one⟩
 ·rw[iN a];exact b λc=>a (kS.2 ⟨c.1,c.2.1,c.2.2.1,c.2.2.2.1,c.2.2.2.2.1,c.2.2.2.2.2.1,c.2.2.2.2.2.2⟩)
theorem zD(l:List UInt8)(m:l.length<=281474976710656){h:aw}(o:BG h)(w:Wf h):aW 169 [strOf l] h (λv n=>v=B2 l/\Ok h n):=by
 refine FW.mono (Q:=uz h (ae4 (Num.numOf l) (dW l) (Num.isNeg l) (eP l)) (Ay (Num.isNeg l) (Num.numOf l) (dW l)) zy) ?_ (λ_ _ q=>NL q);have f:RI h h.ax (h.push JS):=⟨⟨_,rfl,by rw[aw.cZ,iP rfl];rfl⟩,aS _,(Ok.refl w).push _⟩
 refine QJ l h _ ⟨_,Zn,(Wv l _).mono ?_⟩;rintro _ r ⟨rfl,rfl⟩;have j:(ee l).length<=281474976710656:=by
  unfold ee;split
  ·rw[cQ];omega
  ·exact m
 refine⟨_,_,rfl,(ahf _ j f.ok.wf).mono ?_⟩;rintro _ p ⟨rfl,i⟩;have c:=f.trans i;have g:=o.ok c.ok;unfold Ww;by_cases b:iV 47 (ee l)<(ee l).length
 ·rw[iP b];have a:eP l=af:=eT b;have d:dW l=(ee l).drop (iV 47 (ee l)+1):=by unfold dW;rw[iP a]
  rw[a];refine⟨_,_,_,rfl,ay (λe=>by cases e) (λ_=>?_)⟩;rw[<-d];exact Vu _ _ _ af _ w c g
 ·rw[iN b];have a:eP l=ak:=eF b;have d:dW l=[49]:=by unfold dW;rw[a];rfl
  have k:Num.numOf l=ee l:=by unfold Num.numOf;rw[bm (by omega)]
  rw[a,k,d];refine⟨_,_,_,rfl,ay (λ_=>?_) (λe=>by cases e)⟩;exact Vu _ _ _ ak _ w c g
theorem S9(l:List UInt8):∃(cs:List ah)(b:Bool),B2 l=av ⟨[aq ⟨cs⟩,ai b]⟩/\b=fE l:=by
 unfold B2
 cases g:fE l with
 |true=>exact⟨_,_,rfl,rfl⟩
 |false=>exact⟨_,_,rfl,rfl⟩
theorem FL(l:List UInt8)(c:l.length<=281474976710656){h:aw}(f:BG h)(w:Wf h):aW 155 [strOf l] h (λv d=>v=ai (fE l)/\Ok h d):=by
 refine QK l h _ ((zD l c f w).mono ?_);rintro _ i ⟨rfl,a⟩;obtain⟨cs,b,e,g⟩:=S9 l;exact⟨cs,b,e,by rw[g],a⟩
theorem UY(k:Nat):bB au 222 (pA k) 0=aa (pA k):=by kernel_rfl
theorem UZ(k:Nat):bB au 222 (pA k) 1=aa (cn k 1):=by kernel_rfl
theorem U0(k:Nat):bB au 222 (pA k) 2=aa (cn k 2):=by kernel_rfl
theorem un4:au.underlying 4=aa .bool:=Tryz.underlying4
theorem ag4:Go.Ab.isAgg au 4=ak:=by kernel_rfl
theorem ag9:Go.Ab.isAgg au 9=ak:=by kernel_rfl
def vu(g:aw)(k:Nat)(b:Bool)(n d:List UInt8):Prop:=g.get k=aa (.cells [ai b,strOf n,strOf d] 222 0 af)
theorem vu.ok(x:vu h k b s t)(o:Ok h g):vu g k b s t:=o.ext _ _ x
theorem vu.l0(x:vu h k b s t):aM au 4 h (pA k)=aa (ai b):=da un4 ag4 x (by simp)
theorem vu.l1(x:vu h k b s t):aM au 9 h (cn k 1)=aa (strOf s):=da Y7 ag9 x (by simp)
theorem vu.l2(x:vu h k b s t):aM au 9 h (cn k 2)=aa (strOf t):=da Y7 ag9 x (by simp)
theorem abB(w:Wf h)(b:Bool)(n d:List UInt8):∃u:dJ,aQ au 222 (pA h.ax) (aq ⟨[ai b,strOf n,strOf d]⟩) (h.push JS)=aa (undef,u)/\Ok h (u.app (h.push JS))/\vu (u.app (h.push JS)) h.ax b n d:=by
 have a:(h.push JS).get h.ax=aa JS:=by rw[aw.cZ,iP rfl]
 refine⟨_,agv (cs0:=[ai ak,strOf [],strOf []]) rfl a b n d,?_,?_⟩
 ·exact((Ok.refl w).push _).set _ (aS _) (eD _) w
 ·show((h.push JS).set h.ax _).get h.ax=_;rw[aw.bZ,iP rfl]
theorem Lz(l:List UInt8):∃(b:Bool)(n d:List UInt8),B2 l=av ⟨[aq ⟨[ai b,strOf n,strOf d]⟩,ai (fE l)]⟩/\(fE l=af->b=Num.isNeg l/\n=Num.numOf l/\d=dW l):=by
 unfold B2
 cases g:fE l with
 |true=>exact⟨_,_,_,rfl,λ_=>⟨rfl,rfl,rfl⟩⟩
 |false=>exact⟨_,_,_,rfl,λe=>by cases e⟩
theorem Gd(b:Bool):iz 4 (ai b) (ai b)=af:=by simp[iz]
theorem VQ(l:List UInt8):iz 4 (strOf l) (strOf l)=af:=by simp[iz,strOf]
theorem XW(l m:List UInt8)(S:l.length<=281474976710656)(N:m.length<=281474976710656){h:aw}(s:BG h)(w:Wf h):aW 131 [strOf l,strOf m] h (λv X=>v=aA (jY l m)/\Ok h X):=by
 refine XV l m h _ ((zD l S s w).mono ?_);rintro _ K ⟨rfl,F⟩;obtain⟨b,n,d,O,f1⟩:=Lz l;obtain⟨I,s1,Y,Q⟩:=abB F.wf b n d;refine⟨_,_,O,_,Zn,I,s1,?_⟩;have r:=F.trans Y;generalize I.app (K.push JS)=g1 at*;refine(zD m N (s.ok r) r.wf).mono ?_;rintro _ L ⟨rfl,C⟩;obtain⟨Z,W,U,e2,f2⟩:=Lz m;obtain⟨E,P,J,g⟩:=abB C.wf Z W U;refine⟨_,_,e2,_,Zn,E,P,?_⟩;have f:=(r.trans C).trans J;have i:=(Q.ok C).ok J;generalize E.app (L.push JS)=H at*;generalize K.ax=k1 at*;generalize L.ax=k2 at*;refine ay (λq=>⟨?_,f⟩) (λq=>ay (λa=>⟨?_,f⟩) (λa=>?_))
 ·have q:fE l=ak:=by simpa using q
  unfold jY;rw[iN (λc=>by rw[c.1]at q;cases q)]
 ·have a:fE m=ak:=by simpa using a
  unfold jY;rw[iN (λc=>by rw[c.2]at a;cases a)]
 have q:fE l=af:=by simpa using q
 have a:fE m=af:=by simpa using a
 obtain⟨rfl,rfl,rfl⟩:=f1 q;obtain⟨rfl,rfl,rfl⟩:=f2 a;have j:=kS.1 q;have k:=kS.1 a;have o:Ok H (Go.Ab.room H 27):=(Ok.refl f.wf).room 27;refine⟨_,UY _,_,(i.ok o).l0,_,UZ _,_,(i.ok o).l1,_,U0 _,_,(g.ok o).l2,?_⟩;have y:=f.trans o;refine(Lt _ _ (s.ok y) y.wf).mono ?_;rintro _ R ⟨rfl,o3⟩;rw[(uu j.num k.den j.ln k.ld).1];refine⟨_,_,rfl,(uA _ _).mono ?_⟩;rintro _ G ⟨rfl,D⟩;obtain rfl:R=G:=D.symm;have e:=o.trans o3;refine⟨_,rfl,_,UY _,_,(g.ok e).l0,_,UZ _,_,(g.ok e).l1,_,U0 _,_,(i.ok e).l2,?_⟩;have A:=f.trans e;refine(Lt _ _ (s.ok A) A.wf).mono ?_;rintro _ h4 ⟨rfl,T⟩;rw[(uu k.num j.den k.ln j.ld).1];refine⟨_,_,rfl,(uA _ _).mono ?_⟩;rintro _ M ⟨rfl,D⟩;obtain rfl:h4=M:=D.symm;have t:=e.trans T;have x:=f.trans t;refine⟨_,rfl,(Tn _ _ _ _ (uu j.num k.den j.ln k.ld).2 (uu k.num j.den k.ln j.ld).2 (s.ok x) x.wf).mono ?_⟩;rintro _ h5 ⟨rfl,V⟩;have u:=x.trans V;refine⟨_,_,rfl,⟨(i.ok e).l0,Gd _⟩,⟨(i.ok e).l0,Gd _⟩,⟨(i.ok t).l0,Gd _⟩,⟨(i.ok t).l0,Gd _⟩,⟨(g.ok o).l0,Gd _⟩,⟨(g.ok e).l0,Gd _⟩,⟨(g.ok t).l0,Gd _⟩,⟨(g.ok t).l0,Gd _⟩,⟨(g.ok o).l1,VQ _⟩,⟨(g.ok e).l1,VQ _⟩,⟨(i.ok o).l2,VQ _⟩,⟨(i.ok e).l2,VQ _⟩,?_⟩;unfold jY;rw[iP ⟨q,a⟩];generalize oC _ _ _ _=z;refine ay (λp=>⟨?_,u⟩) (λp=>?_)
 ·have p:bp z.2=[48]:=by simpa using p
  rw[iP (gU.1 p)]
 ·have p:¬bp z.2=[48]:=by simpa using p
  rw[iN (λc=>p (gU.2 c))];refine ay (λB=>⟨?_,u⟩) (λB=>⟨?_,u⟩)
  ·rw[iP B]
  ·rw[iN (by rw[B];simp)]
noncomputable def TM:FD:=gT Tryz.f121 []
theorem Q6  (h:aw) (Q:VH) (d:xN (cD au 184) h λi a=>xA (cI au 100 [(0,(strOf [105,110,102])),(1,(strOf [48])),(2,(ai af)),(3,(aN (.func 152) ⟨[]⟩ ⟨[]⟩)),(4,(aN (.func 153) ⟨[]⟩ ⟨[]⟩)),(5,(aN (.func 154) ⟨[]⟩ ⟨[]⟩)),(6,(aN (.func 155) ⟨[]⟩ ⟨[]⟩)),(7,(aN (.func 155) ⟨[]⟩ ⟨[]⟩))]) λe=>xA (cI au 100 [(0,(strOf [48])),(1,(strOf [49])),(2,(ai ak)),(3,(aN (.func 156) ⟨[]⟩ ⟨[]⟩)),(4,(aN (.func 157) ⟨[]⟩ ⟨[]⟩)),(5,(aN (.func 158) ⟨[]⟩ ⟨[]⟩)),(6,(aN (.func 159) ⟨[]⟩ ⟨[]⟩)),(7,(aN (.func 160) ⟨[]⟩ ⟨[]⟩))]) λc=>xA (cI au 100 [(0,(strOf [48])),(1,(strOf [49])),(2,(ai ak)),(3,(aN (.func 152) ⟨[]⟩ ⟨[]⟩)),(4,(aN (.func 157) ⟨[]⟩ ⟨[]⟩)),(5,(aN (.func 161) ⟨[]⟩ ⟨[]⟩)),(6,(aN (.func 159) ⟨[]⟩ ⟨[]⟩)),(7,(aN (.func 160) ⟨[]⟩ ⟨[]⟩))]) λg=>xA (cI au 184 [(1,(aq ⟨e⟩)),(2,(aq ⟨c⟩)),(3,(aq ⟨g⟩))]) λf=>xU (aQ au 184 (pA (h.ax)) (aq ⟨f⟩) a) a λj b=>gI SS [((pA (h.ax)),aa 184)] b Q):aW 121 [] h Q:=gZ TM Tryz.func121 (bF d)
noncomputable def afm:FD:=gT Tryz.f67 []
theorem acb(a:Int)(h:aw)(Q:VH)(i:xN (cD au 100) h λo b=>cp (decide ((a:Int)<1)) (xA (cI au 100 []) λj=>xU (aQ au 100 (pA (h.ax)) (aq ⟨j⟩) b) b λp m=>gI SS [((pA (h.ax)),aa 100),((ai ak),none)] m Q) (cp (decide ((a:Int)>3)) (xA (cI au 100 []) λk=>xU (aQ au 100 (pA (h.ax)) (aq ⟨k⟩) b) b λq g=>gI SS [((pA (h.ax)),aa 100),((ai ak),none)] g Q) (aW 121 [] b λl c=>yA l λe=>xA (dR au 184 (aq ⟨e⟩) (aA a)) λf=>xU (aQ au 100 (pA (h.ax)) (aq ⟨f⟩) c) c λn d=>gI SS [((pA (h.ax)),aa 100),((ai af),none)] d Q))):aW 67 [(aA a)] h Q:=gZ afm Tryz.func67 (bF i)
noncomputable def KA:FD:=gT Tryz.f160 []
theorem Jm(l:LB)(h:aw)(Q:VH)(d:aW 155 [(strOf l)] h λf a=>yB f λc=>cp c (aW 131 [(strOf l),(strOf [48])] a λb g=>yI an b λe=>Q (ai (decide (e>0))) g) (Q (ai ak) a)):aW 160 [(strOf l)] h Q:=gZ KA Tryz.func160 (bF d)
noncomputable def Q8:FD:=gT Tryz.f73 []
theorem Ob(a:Int)(l:LB)(h:aw)(Q:VH)(o:aW 67 [(aA a)] h λp e=>∃b:LV,∃i:Bool,p=(av ⟨[(aq ⟨b⟩),(ai i)]⟩)/\xN (cD au 100) e λr j=>xU (aQ au 100 (pA (e.ax)) (aq ⟨b⟩) j) j λq d=>cp i (qF xF 100 (pA (e.ax)) 7 86 d λc f m=>cp (dj c YB) (aW c (f++[(strOf l)]++m) d λk n=>yB k λg=>Q (ai g) n) False) (Q (ai ak) d)):aW 73 [(aA a),(strOf l)] h Q:=gZ Q8 Tryz.func73 (bF o)
noncomputable def Tz:FD:=gT Tryz.f118 []
theorem FO(a:Int)(h:aw)(Q:VH)(b:cp (decide ((a:Int)>=1)) (Q (ai (decide ((a:Int)<=3))) h) (Q (ai ak) h)):aW 118 [(aA a)] h Q:=gZ Tz Tryz.func118 (bF b)
noncomputable def QQ:FD:=gT Tryz.f151 []
theorem N1(a:Int)(l:LB)(h:aw)(Q:VH)(k:aW 118 [(aA a)] h λm b=>yB m λg=>cp (!g) (Q (ai ak) b) (cp ((l:LB)==[105,110,102]) (cp ((l:LB)==[105,110,102]) (Q (ai af) b) (Q (ai (((a:Int)==1))) b)) (cp ((l:LB)==[45,105,110,102]) (cp ((l:LB)==[105,110,102]) (Q (ai af) b) (Q (ai (((a:Int)==1))) b)) (aW 188 [(strOf l)] b λf c=>yB f λi=>cp i (cp (((a:Int)==1)) (Q (ai af) c) (aW 189 [(strOf l),(strOf [48])] c λd j=>yI an d λe=>Q (ai (decide (e>=0))) j)) (Q (ai ak) c))))):aW 151 [(aA a),(strOf l)] h Q:=gZ QQ Tryz.func151 (bF k)
noncomputable def N3:FD:=gT Tryz.f119 []
theorem Kt(a:Int)(l:LB)(h:aw)(Q:VH)(d:aW 151 [(aA a),(strOf l)] h λe b=>yB e λc=>cp c (cp (!((l:LB)==[105,110,102])) (cp (!((l:LB)==[45,105,110,102])) (cp (((a:Int)==1)) (Q (ai af) b) (Q (ai (!((l:LB)==[48]))) b)) (Q (ai ak) b)) (Q (ai ak) b)) (Q (ai ak) b)):aW 119 [(aA a),(strOf l)] h Q:=gZ N3 Tryz.func119 (bF d)
variable{P:aO}{n:Nat}{c:List ah}
theorem gL{t:aD}(c:cd P t=aa n){h:aw}{k:Nat}{cs0:List ah}(g:cs0.length=n)(d:h.get k=aa (.cells cs0 t 0 af)){cs:List ah}(f:cs.length=n)(a:cs.all eY=af):aQ P t (pA k) (aq ⟨cs⟩) h=aa (undef,.set k (.cells cs t 0 af)):=by
 unfold aQ;dsimp only;have b:(aq ⟨cs⟩).cells.size=n:=by show cs.toArray.size=n;simpa using f
 have e:(aq ⟨cs⟩).cells.toList=cs:=rfl;rw[iP (by rw[b,c])];unfold storeAt;rw[d,e];dsimp only;rw[iP ⟨by omega,a⟩,cU (by omega)];simp
theorem qO(w:Wf g)(o:Ok g h){k:Nat}{t:aD}{a cs:List ah}(c:h.get k=aa (.cells a t 0 af))(b:g.ax<=k):Ok g ((dJ.set k (.cells cs t 0 af)).app h)/\((dJ.set k (.cells cs t 0 af)).app h).get k=aa (.cells cs t 0 af):=by
 refine⟨o.set _ b (o.wf _ _ c) w,?_⟩;show(h.set k _).get k=_;rw[aw.bZ,iP rfl]
theorem cC(h:aw)(B:eE):(h.push B).get h.ax=aa B:=by rw[aw.cZ,iP rfl]
def RE(i:Nat):ah:= aN (.func i) ⟨[]⟩ ⟨[]⟩
def sJ:List ah:=[strOf [],strOf [],ai ak,.nilFunc,.nilFunc,.nilFunc,.nilFunc,.nilFunc]
def FQ:List ah:=[strOf [105,110,102],strOf [48],ai af,RE 152,RE 153,RE 154,RE 155,RE 155]
def FT:List ah:=[strOf [48],strOf [49],ai ak,RE 156,RE 157,RE 158,RE 159,RE 160]
def FU:List ah:=[strOf [48],strOf [49],ai ak,RE 152,RE 157,RE 161,RE 159,RE 160]
def EY:List ah:=sJ++FQ++FT++FU
def adi:eE:= .cells (sJ++sJ++sJ++sJ) 184 0 af
def Gi:eE:= .cells sJ 100 0 af
theorem aiO:cD au 184=aa (adi,jL):=by kernel_rfl
theorem UC:cD au 100=aa (Gi,jL):=by kernel_rfl
theorem acz:cd au 184=aa 32:=by kernel_rfl
theorem Jq:cd au 100=aa 8:=by kernel_rfl
theorem aiF:Go.Ab.isAgg au 184=af:=by kernel_rfl
theorem aiE:Go.Ab.isAgg au 100=af:=by kernel_rfl
noncomputable def ais:TypeDesc:=(au.underlying 184).getD .bool
theorem aki:au.underlying 184=aa ais:=by kernel_rfl
noncomputable def aio:TypeDesc:=(au.underlying 100).getD .bool
theorem akh:au.underlying 100=aa aio:=by kernel_rfl
noncomputable def akr:TypeDesc:=(au.underlying 86).getD .bool
theorem alw:au.underlying 86=aa akr:=by kernel_rfl
theorem akG:Go.Ab.isAgg au 86=ak:=by kernel_rfl
theorem adv:cI au 100 [(0,(strOf [105,110,102])),(1,(strOf [48])),(2,(ai af)),(3,(aN (.func 152) ⟨[]⟩ ⟨[]⟩)),(4,(aN (.func 153) ⟨[]⟩ ⟨[]⟩)),(5,(aN (.func 154) ⟨[]⟩ ⟨[]⟩)),(6,(aN (.func 155) ⟨[]⟩ ⟨[]⟩)),(7,(aN (.func 155) ⟨[]⟩ ⟨[]⟩))]=aa (aq ⟨FQ⟩):=by kernel_rfl
theorem adw:cI au 100 [(0,(strOf [48])),(1,(strOf [49])),(2,(ai ak)),(3,(aN (.func 156) ⟨[]⟩ ⟨[]⟩)),(4,(aN (.func 157) ⟨[]⟩ ⟨[]⟩)),(5,(aN (.func 158) ⟨[]⟩ ⟨[]⟩)),(6,(aN (.func 159) ⟨[]⟩ ⟨[]⟩)),(7,(aN (.func 160) ⟨[]⟩ ⟨[]⟩))]=aa (aq ⟨FT⟩):=by kernel_rfl
theorem adx:cI au 100 [(0,(strOf [48])),(1,(strOf [49])),(2,(ai ak)),(3,(aN (.func 152) ⟨[]⟩ ⟨[]⟩)),(4,(aN (.func 157) ⟨[]⟩ ⟨[]⟩)),(5,(aN (.func 161) ⟨[]⟩ ⟨[]⟩)),(6,(aN (.func 159) ⟨[]⟩ ⟨[]⟩)),(7,(aN (.func 160) ⟨[]⟩ ⟨[]⟩))]=aa (aq ⟨FU⟩):=by kernel_rfl
theorem UG:cI au 100 []=aa (aq ⟨sJ⟩):=by kernel_rfl
theorem ai3:cI au 184 [(1,(aq ⟨FQ⟩)),(2,(aq ⟨FT⟩)),(3,(aq ⟨FU⟩))]=aa (aq ⟨EY⟩):=by kernel_rfl
theorem Q7(w:Wf h):aW 121 [] h (λv b=>v=aq ⟨EY⟩/\Ok h b):=by
 have a:(h.push adi).get h.ax=aa (.cells (sJ++sJ++sJ++sJ) 184 0 af):=cC h adi;refine Q6 h _ ⟨_,aiO,_,adv,_,adw,_,adx,_,ai3,_,gL acz (by rfl) a (cs:=EY) (by rfl) (by rfl),?_⟩;obtain⟨o,g⟩:=qO (cs:=EY) w ((Ok.refl w).push adi) a (aS _);refine CT (v:= aq ⟨EY⟩) (mr aki aiF acz g (by simp[EY,sJ,FQ,FT,FU])) ?_;exact⟨rfl,o⟩
def ofV(a:Int):ah:=if a=1 then av ⟨[aq ⟨FQ⟩,ai af]⟩else if a=2 then av ⟨[aq ⟨FT⟩,ai af]⟩else if a=3 then av ⟨[aq ⟨FU⟩,ai af]⟩else av ⟨[aq ⟨sJ⟩,ai ak]⟩
theorem IU(w:Wf h){g:aw}(o:Ok h g){k:Nat}{a:List ah}(i:a.length=8)(d:g.get k=aa (.cells a 100 0 af))(e:h.ax<=k){cs:List ah}(l:cs.length=8)(f:cs.all eY=af)(b:Bool){Q:VH}(j:∀c,Ok h c->Q (av ⟨[aq ⟨cs⟩,ai b]⟩) c):
  ∃u:dJ,aQ au 100 (pA k) (aq ⟨cs⟩) g=aa (undef,u)/\gI SS [(pA k,aa 100),(ai b,none)] (u.app g) Q:=by
 refine⟨_,gL Jq i d l f,?_⟩;obtain⟨o,g⟩:=qO (cs:=cs) w o d e;refine CU (v:= aq ⟨cs⟩) (by rw[mr akh aiE Jq g (by omega),bV,bm (by omega)]) ?_;exact j _ o
theorem Q5(a:Int){h:aw}(w:Wf h):aW 67 [aA a] h (λv j=>v=ofV a/\Ok h j):=by
 have c:=(Ok.refl w).push Gi;have f:=cC h Gi;refine acb a h _ ⟨_,UC,ay (λg=>?_) (λg=>ay (λb=>?_) (λb=>?_))⟩
 ·have g:=dT g;refine⟨_,UG,IU w c rfl f (aS _) rfl rfl ak (λ_ o=>⟨?_,o⟩)⟩;unfold ofV;rw[iN (by omega),iN (by omega),iN (by omega)]
 ·have b:=dT b;refine⟨_,UG,IU w c rfl f (aS _) rfl rfl ak (λ_ o=>⟨?_,o⟩)⟩;unfold ofV;rw[iN (by omega),iN (by omega),iN (by omega)]
 ·have g:=dF g;have b:=dF b;refine(Q7 c.wf).mono ?_;rintro _ k ⟨rfl,i⟩;have d:=i.ext _ _ f;have e:=c.trans i;obtain rfl|rfl|rfl:a=1\/a=2\/a=3:=by omega
  ·exact⟨_,rfl,FQ,by kernel_rfl,IU w e rfl d (aS _) rfl rfl af (λ_ o=>⟨rfl,o⟩)⟩
  ·exact⟨_,rfl,FT,by kernel_rfl,IU w e rfl d (aS _) rfl rfl af (λ_ o=>⟨rfl,o⟩)⟩
  ·exact⟨_,rfl,FU,by kernel_rfl,IU w e rfl d (aS _) rfl rfl af (λ_ o=>⟨rfl,o⟩)⟩
theorem zS(l:List UInt8)(b:l.length<=281474976710656){h:aw}(c:BG h)(w:Wf h):aW 160 [strOf l] h (λv d=>v=ai (fE l&&decide (0<jY l [48]))/\Ok h d):=by
 refine Jm l h _ ((FL l b c w).mono ?_);rintro _ f ⟨rfl,a⟩;refine⟨_,rfl,ay (λg=>?_) (λg=>?_)⟩
 ·refine(XW l [48] b (by simp) (c.ok a) a.wf).mono ?_;rintro _ i ⟨rfl,e⟩;refine⟨_,rfl,?_,a.trans e⟩;rw[g,fm]
 ·refine⟨?_,a⟩;rw[g,Bool.false_and]
theorem aj8{A B:Prop}(c:b=af)(a:A):cp b A B:=ay (λ_=>a) (λe=>by rw[c]at e;cases e)
theorem Wg{K:VH}(d:dj n YB=af)(e:aW n c h λv a=>∃b:Bool,v=ai b/\K (ai b) a):cp (dj n YB) (aW n ([]++c++[]) h λv a=>∃b:Bool,v=ai b/\K (ai b) a) False:=
 aj8 d (by rw[dq,cF];exact e)
theorem xu(a:Int)(l:List UInt8)(u:l.length<=281474976710656){h:aw}(z:BG h)(w:Wf h):aW 73 [aA a,strOf l] h (λv y=>v=ai (gJ a l)/\Ok h y):=by
 refine Ob a l h _ ((Q5 a w).mono ?_);rintro _ b ⟨rfl,c⟩;have j:∀(cs:List ah)(f:Nat),cs.length=8->cs.all eY=af->cs.getD 7 undef=RE f->dj f YB=af->(∀g,Ok h g->aW f [strOf l] g (λv y=>v=ai (gJ a l)/\Ok g y))->ofV a=av ⟨[aq ⟨cs⟩,ai af]⟩->∃p:List ah,∃D:Bool,ofV a=(av ⟨[(aq ⟨p⟩),(ai D)]⟩)/\∃m:eE,cD au 100=aa (m,jL)/\∃n:dJ,aQ au 100 (pA b.ax) (aq ⟨p⟩) (b.push m)=aa (undef,n)/\cp D (∃E:aF,bB au 100 (pA b.ax) 7=aa (bN E)/\∃(t:Nat)(B r:List ah),aM au 86 (n.app (b.push m)) (bN E)=aa (aN (.func t) ⟨B⟩ ⟨r⟩)/\cp (dj t YB) (aW t (B++[(strOf l)]++r) (n.app (b.push m)) λA k=>∃s:Bool,A=(ai s)/\(ai s=ai (gJ a l)/\Ok h k)) False) (ai ak=ai (gJ a l)/\Ok h (n.app (b.push m))):=by
  intro cs f M I H J L e;refine⟨_,_,e,_,UC,_,gL Jq rfl (cC b Gi) M I,ay (λ_=>?_) (λg=>by cases g)⟩;obtain⟨o,g⟩:=qO (cs:=cs) c.wf ((Ok.refl c.wf).push Gi) (cC b Gi) (aS _);have q:=da alw akG g (i:=7) (by omega);rw[H]at q;refine⟨⟨b.ax,7,none⟩,by kernel_rfl,f,[],[],q,?_⟩;refine Wg (K:=λv k=>v=ai (gJ a l)/\Ok h k) J ((L _ (c.trans o)).mono ?_);rintro _ x ⟨rfl,d⟩;exact⟨_,rfl,rfl,(c.trans o).trans d⟩
 by_cases F:a=1
 ·subst F;refine j FQ 155 rfl rfl rfl (by decide +kernel) (λg o=>?_) rfl;refine(FL l u (z.ok o) o.wf).mono ?_;rintro _ x ⟨rfl,d⟩;refine⟨?_,d⟩;unfold gJ;simp
 by_cases C:a=2
 ·subst C;refine j FT 160 rfl rfl rfl (by decide +kernel) (λg o=>?_) rfl;refine(zS l u (z.ok o) o.wf).mono ?_;rintro _ x ⟨rfl,d⟩;refine⟨?_,d⟩;unfold gJ;simp
 by_cases G:a=3
 ·subst G;refine j FU 160 rfl rfl rfl (by decide +kernel) (λg o=>?_) rfl;refine(zS l u (z.ok o) o.wf).mono ?_;rintro _ x ⟨rfl,d⟩;refine⟨?_,d⟩;unfold gJ;simp
 ·have e:ofV a=av ⟨[aq ⟨sJ⟩,ai ak]⟩:=by unfold ofV;rw[iN F,iN C,iN G]
  refine⟨_,_,e,_,UC,_,gL Jq rfl (cC b Gi) (cs:=sJ) rfl rfl,ay (λg=>by cases g) (λ_=>?_)⟩;obtain⟨o,g⟩:=qO (cs:=sJ) c.wf ((Ok.refl c.wf).push Gi) (cC b Gi) (aS _);refine⟨?_,c.trans o⟩;unfold gJ;rw[eF (by omega)];rfl
theorem N2(a:Int)(l:List UInt8)(k:l.length<=281474976710656){h:aw}(w:Wf h):aW 151 [aA a,strOf l] h (λv j=>v=ai (decide (1<=a/\a<=3)&&(l==[105,110,102]||l==[45,105,110,102]&&a==1||fE l&&(a==1||decide (0<=jY l [48]))))/\Ok h j):=by
 have m:aW 118 [aA a] h (λv j=>v=ai (decide (1<=a/\a<=3))/\j=h):=by
  refine FO a h _ (ay (λg=>⟨?_,rfl⟩) (λg=>⟨?_,rfl⟩))
  ·have g:=dT g;congr 1;exact decide_eq_decide.2 ⟨λc=>⟨g,c⟩,λc=>c.2⟩
  ·have g:=dF g;rw[eF (by omega)]
 refine N1 a l h _ (m.mono ?_);rintro _ p ⟨rfl,o⟩;obtain rfl:h=p:=o.symm;refine⟨_,rfl,ay (λg=>⟨?_,Ok.refl w⟩) (λg=>?_)⟩
 ·rw[dt]at g;rw[g];rfl
 rw[eC]at g;rw[g,fm];refine ay (λe=>ay (λ_=>⟨?_,Ok.refl w⟩) (λb=>by rw[e]at b;cases b)) (λe=>ay (λb=>ay (λd=>by rw[e]at d;cases d) (λ_=>⟨?_,Ok.refl w⟩)) (λb=>?_))
 ·rw[e];rfl
 ·rw[e,b];rw[show l=[45,105,110,102] by simpa using b,A8];simp
 ·rw[e,b];refine(N0 l k w).mono ?_;rintro _ q ⟨rfl,f⟩;refine⟨_,rfl,ay (λd=>ay (λi=>⟨?_,f⟩) (λi=>?_)) (λd=>⟨?_,f⟩)⟩
  ·rw[d,i];rfl
  ·refine(Tw l [48] k (by simp) f.wf).mono ?_;rintro _ r ⟨rfl,n⟩;refine⟨_,rfl,?_,f.trans n⟩;rw[d,i];simp
  ·rw[d];rfl
theorem vF(a:Int)(l:List UInt8)(r:l.length<=281474976710656){h:aw}(w:Wf h):aW 119 [aA a,strOf l] h (λv s=>v=ai (gJ a l)/\Ok h s):=by
 refine Kt a l h _ ((N2 a l r w).mono ?_);rintro _ m ⟨rfl,d⟩;have q:(l==[105,110,102])=af->fE l=ak:=λe=>by rw[show l=[105,110,102] by simpa using e];exact OI
 have t:(l==[45,105,110,102])=af->fE l=ak:=λe=>by rw[show l=[45,105,110,102] by simpa using e];exact A8
 unfold gJ;generalize decide (1<=a/\a<=3)=K;refine⟨_,rfl,ay (λg=>?_) (λg=>⟨?_,d⟩)⟩
 ·refine ay (λi=>ay (λf=>?_) (λf=>⟨?_,d⟩)) (λi=>⟨?_,d⟩)
  ·have i:(l==[105,110,102])=ak:=by simpa using i
   have f:(l==[45,105,110,102])=ak:=by simpa using f
   rw[i,f]at g;simp only[Bool.false_or,Bool.false_and,bj]at g;obtain⟨p,k,b⟩:=g;rw[p,k];refine ay (λn=>⟨?_,d⟩) (λn=>⟨?_,d⟩)
   ·rw[n];rfl
   ·rw[n]at b⊢;simp only[Bool.false_or,decide_eq_true_eq]at b;have:=JW k;congr 1;by_cases j:l=[48]
    ·have m:=this.2 j;rw[m,j];rfl
    ·have m:¬jY l [48]=0:=λc=>j (this.1 c);rw[eT (by omega:0<jY l [48])];simpa using j
  ·rw[t (by simpa using f)];simp
  ·rw[q (by simpa using i)];simp
 ·congr 1
  cases K with
  |false=>rfl
  |true=>
   rw[fm]at g⊢;simp only[Bool.or_eq_false_iff,Bool.and_eq_false_iff]at g;obtain⟨⟨p,k⟩,b⟩:=g;rcases b with b|⟨b,o⟩
   ·rw[b];rfl
   ·have o:=dF o;rw[b,eF (by omega)];simp
variable{m:Nat}
section
def nM(h:aw)(v:ah)(l:List iu):Prop:=Ba h 46 4 v (l.map jU)
def yC(p:kH×ah):List ah:=[strOf p.1.f,p.2]
def iY(h:aw)(v:ah)(l:List kH):Prop:=∃a:List (kH×ah),a.map (·.1)=l/\Ba h 44 2 v (a.map yC)/\(∀p∈a,nM h p.2 p.1.bG)/\v≠Bg
theorem iY.ok{a:aw}{l:List kH}(r:iY h v l)(o:Ok h a):iY a v l:=by
 obtain⟨f,c,d,b,e⟩:=r;exact⟨f,c,d.ok o,λp g=>Ba.ok (b p g) o,e⟩
theorem iY.len{a:Option aF}{n c:Nat}{l:List kH}(r:iY h (ae a n c) l):n=l.length:=by
 obtain⟨f,b,d,e,_⟩:=r;rw[d.len,aG,<-b,aG]
theorem KB:au.underlying 22=aa (.slice 44):=by kernel_rfl
theorem ace:au.underlying 42=aa (.slice 46):=by kernel_rfl
theorem Rf:cd au 44=aa 2:=by kernel_rfl
theorem VN:cd au 46=aa 4:=by kernel_rfl
theorem sN:cd au 24=aa 4:=by kernel_rfl
theorem agG:Go.Ab.isAgg au 44=af:=by kernel_rfl
theorem aiI:Go.Ab.isAgg au 46=af:=by kernel_rfl
theorem J6:Go.Ab.isAgg au 24=af:=by kernel_rfl
theorem V5:Go.Ab.isAgg au 22=ak:=by kernel_rfl
theorem agF:Go.Ab.isAgg au 42=ak:=by kernel_rfl
noncomputable def akn:TypeDesc:=(au.underlying 44).getD .bool
theorem aiu:au.underlying 44=aa akn:=by kernel_rfl
noncomputable def akp:TypeDesc:=(au.underlying 46).getD .bool
theorem ako:au.underlying 46=aa akp:=by kernel_rfl
noncomputable def akl:TypeDesc:=(au.underlying 24).getD .bool
theorem KD:au.underlying 24=aa akl:=by kernel_rfl
theorem rD(k:Nat):bB au 24 (pA k) 0=aa (pA k):=by kernel_rfl
theorem nV(k:Nat):bB au 24 (pA k) 1=aa (cn k 1):=by kernel_rfl
theorem MZ(k:Nat):bB au 24 (pA k) 2=aa (cn k 2):=by kernel_rfl
theorem eR(k:Nat):bB au 24 (pA k) 3=aa (cn k 3):=by kernel_rfl
theorem pk(k o:Nat):bB au 44 (cn k o) 0=aa (cn k (o+0)):=by kernel_rfl
theorem jc(k o:Nat):bB au 44 (cn k o) 1=aa (cn k (o+1)):=by kernel_rfl
theorem po(k o:Nat):bB au 46 (cn k o) 0=aa (cn k (o+0)):=by kernel_rfl
theorem pT(k o:Nat):bB au 46 (cn k o) 1=aa (cn k (o+1)):=by kernel_rfl
theorem aac(k o:Nat):bB au 46 (cn k o) 2=aa (cn k (o+2)):=by kernel_rfl
theorem jE(k o:Nat):bB au 46 (cn k o) 3=aa (cn k (o+3)):=by kernel_rfl
structure MB(g:aw)(k:Nat)(M:cG)(a:Option aF)(n c:Nat):Prop where
 box:g.get k=aa (.cells [aA M.kind,aA M.start,strOf M.lead,ae a n c] 24 0 af)
 row:iY g (ae a n c) M.aE
section
variable {g g':aw} {k:Nat} {M:cG} {a:Option aF} {n c:Nat}
theorem MB.ok(m:MB g k M a n c)(o:Ok g g'):MB g' k M a n c:=⟨o.ext _ _ m.box,m.row.ok o⟩
theorem MB.l0(m:MB g k M a n c):aM au 3 g (pA k)=aa (aA M.kind):=da rk ri m.box (by simp)
theorem MB.l1(m:MB g k M a n c):aM au 3 g (cn k 1)=aa (aA M.start):=da rk ri m.box (by simp)
theorem MB.l2(m:MB g k M a n c):aM au 9 g (cn k 2)=aa (strOf M.lead):=da Y7 ag9 m.box (by simp)
theorem MB.l3(m:MB g k M a n c):aM au 22 g (cn k 3)=aa (ae a n c):=da KB V5 m.box (by simp)
theorem MB.all(m:MB g k M a n c):aM au 24 g (pA k)=aa (aq ⟨[aA M.kind,aA M.start,strOf M.lead,ae a n c]⟩):=mr KD J6 sN m.box (by simp)
theorem MB.len(m:MB g k M a n c):n=M.aE.length:=m.row.len
end
theorem iY.at_{g:aw}{a:Option aF}{n c:Nat}{l:List kH}(r:iY g (ae a n c) l){i:Nat}{s:kH}(k:l[i]?=aa s):
  ∃(b o:Nat)(x:Option aF)(y z:Nat),aZ au 22 (ae a n c) (aA (i:Int))=aa (cn b o)/\aM au 44 g (cn b o)=aa (aq ⟨[strOf s.f,ae x y z]⟩)/\
   aM au 9 g (cn b (o+0))=aa (strOf s.f)/\aM au 42 g (cn b (o+1))=aa (ae x y z)/\nM g (ae x y z) s.bG:=by
 obtain⟨B,v,w,t,_⟩:=r;rw[<-v,getElem?_map]at k;obtain⟨p,j,rfl⟩:=bq.1 k;have C:=(List.getElem?_eq_some_iff.1 j).1;obtain⟨b,o,q,d,e⟩:=w.at_ KB Rf aiu agG (ik:= an) (i:=(i:Int)) (by omega) (by rw[aG];omega);have A:(B.map yC).getD (i:Int).toNat []=yC p:=by
  rw[bn,gD,getElem?_map,j];rfl
 rw[A]at d e;have f:=t p (aI j);obtain⟨x,z,u⟩:=Ba.rM f;have m:=e 9 _ 0 Y7 ag9 (by omega);have h:=e 42 _ 1 ace agF (by omega);unfold yC at d m h;rw[u]at d h f;exact⟨b,o,x,_,z,q,d,m,h,f⟩
theorem nM.len{g:aw}{x:Option aF}{z:Nat}{l:List iu}(r:nM g (ae x m z) l):m=l.length:=by
 have:=Ba.len r;rwa[aG]at this
theorem nM.ok{a:aw}{l:List iu}(r:nM h v l)(o:Ok h a):nM a v l:=Ba.ok r o
theorem nM.at_{g:aw}{x:Option aF}{z:Nat}{l:List iu}(r:nM g (ae x m z) l){j:Nat}{q:iu}(c:l[j]?=aa q):
  ∃(b o:Nat),aZ au 42 (ae x m z) (aA (j:Int))=aa (cn b o)/\aM au 46 g (cn b o)=aa (aq ⟨jU q⟩)/\
   aM au 3 g (cn b (o+0))=aa (aA q.i)/\aM au 3 g (cn b (o+1))=aa (aA q.o)/\aM au 9 g (cn b (o+2))=aa (strOf q.w)/\aM au 3 g (cn b (o+3))=aa (aA q.t):=by
 have h:=(List.getElem?_eq_some_iff.1 c).1;obtain⟨b,o,e,d,a⟩:=Ba.at_ ace VN ako aiI r (ik:= an) (i:=(j:Int)) (by omega) (by rw[aG];omega);have f:(l.map jU).getD (j:Int).toNat []=jU q:=by
  rw[bn,gD,getElem?_map,c];rfl
 rw[f]at d a;exact⟨b,o,e,d,a 3 _ 0 rk ri (by omega),a 3 _ 1 rk ri (by omega),a 9 _ 2 Y7 ag9 (by omega),a 3 _ 3 rk ri (by omega)⟩
def SB(g:aw)(k:Nat)(f:List UInt8)(x:Option aF)(y z:Nat):Prop:=g.get k=aa (.cells [strOf f,ae x y z] 44 0 af)
theorem SB.ok{g g':aw}{k:Nat}{x:Option aF}{z:Nat}(a:SB g k s x m z)(o:Ok g g'):SB g' k s x m z:=o.ext _ _ a
theorem SB.l0{g:aw}{k:Nat}{x:Option aF}{z:Nat}(a:SB g k s x m z):aM au 9 g (cn k (0+0))=aa (strOf s):=da Y7 ag9 a (by simp)
theorem SB.l1{g:aw}{k:Nat}{x:Option aF}{z:Nat}(a:SB g k s x m z):aM au 42 g (cn k (0+1))=aa (ae x m z):=da ace agF a (by simp)
def AB(g:aw)(k:Nat)(q:iu):Prop:=g.get k=aa (.cells (jU q) 46 0 af)
theorem AB.ok{g g':aw}{k:Nat}{q:iu}(s:AB g k q)(o:Ok g g'):AB g' k q:=o.ext _ _ s
theorem AB.l0{g:aw}{k:Nat}{q:iu}(s:AB g k q):aM au 3 g (cn k (0+0))=aa (aA q.i):=da rk ri s (by simp[jU])
theorem AB.l1{g:aw}{k:Nat}{q:iu}(s:AB g k q):aM au 3 g (cn k (0+1))=aa (aA q.o):=da rk ri s (by simp[jU])
theorem AB.l2{g:aw}{k:Nat}{q:iu}(s:AB g k q):aM au 9 g (cn k (0+2))=aa (strOf q.w):=da Y7 ag9 s (by simp[jU])
theorem AB.l3{g:aw}{k:Nat}{q:iu}(s:AB g k q):aM au 3 g (cn k (0+3))=aa (aA q.t):=da rk ri s (by simp[jU])
def Ut:eE:= .cells [strOf [],nA] 44 0 af
theorem Zo:cD au 44=aa (Ut,jL):=by kernel_rfl
def JQ:eE:= .cells [aA 0,aA 0,strOf [],aA 0] 46 0 af
theorem MA:cD au 46=aa (JQ,jL):=by kernel_rfl
theorem Vq(w:Wf h)(f:List UInt8)(x:Option aF)(y z:Nat):∃u:dJ,aQ au 44 (pA h.ax) (aq ⟨[strOf f,ae x y z]⟩) (h.push Ut)=aa (undef,u)/\Ok h (u.app (h.push Ut))/\SB (u.app (h.push Ut)) h.ax f x y z:=by
 obtain⟨o,e⟩:=qO (cs:=[strOf f,ae x y z]) w ((Ok.refl w).push Ut) (cC h Ut) (aS _);exact⟨_,gL Rf rfl (cC h Ut) rfl rfl,o,e⟩
theorem FK(w:Wf h)(q:iu):∃u:dJ,aQ au 46 (pA h.ax) (aq ⟨jU q⟩) (h.push JQ)=aa (undef,u)/\Ok h (u.app (h.push JQ))/\AB (u.app (h.push JQ)) h.ax q:=by
 obtain⟨o,e⟩:=qO (cs:=jU q) w ((Ok.refl w).push JQ) (cC h JQ) (aS _);exact⟨_,gL VN rfl (cC h JQ) rfl rfl,o,e⟩
def dK(M:cG)(a:Option aF)(n c:Nat):List ah:=[aA M.kind,aA M.start,strOf M.lead,ae a n c]
def Bm(M:cG)(a:Option aF)(n c:Nat):eE:= .cells (dK M a n c) 24 0 af
theorem qx(M:cG)(a:Option aF)(n c:Nat):iF au 24 (aq ⟨dK M a n c⟩)=aa (Bm M a n c,jL):=by kernel_rfl
theorem ni(w:Wf h){M:cG}{a:Option aF}{n c:Nat}(r:iY h (ae a n c) M.aE):MB (h.push (Bm M a n c)) h.ax M a n c/\Ok h (h.push (Bm M a n c)):=
 ⟨⟨cC h _,r.ok ((Ok.refl w).push _)⟩,(Ok.refl w).push _⟩
def zZ(s:Int):Bool:=decide (0<=s)&&decide (s<=500)
def pz(b:Int)(N:Nat)(a:iu):Bool:=zZ a.i&&zZ a.o&&decide (0<=a.t)&&decide (a.t<N)&&gJ b a.w
def wh(a:Int)(N:Nat):Int->List kH->Bool
 |_,[]=>af
 |b,s::r=>decide (b+s.bG.length<=30000)&&(s.f==[]||gJ a s.f)&&s.bG.all (pz a N)&&wh a N (b+s.bG.length) r
def fH(M:cG):Bool:=decide (1<=M.kind)&&decide (M.kind<=3)&&decide (1<=M.aE.length)&&decide (M.aE.length<=3000)&&decide (0<=M.start)&&decide (M.start<M.aE.length)&&gJ M.kind M.lead&&wh M.kind M.aE.length 0 M.aE
def rP(l:List kH):Nat:=(l.map λs=>s.bG.length).sum
structure Small(M:cG):Prop where
 lead:M.lead.length<=281474976710656
 OB:M.aE.length<=300
 fin:∀s∈M.aE,s.f.length<=281474976710656
 bG:∀s∈M.aE,s.bG.length<=2000
 w:∀s∈M.aE,∀q∈s.bG,q.w.length<=281474976710656
 tot:rP M.aE<=2000
end
noncomputable def acw:FD:=gT Tryz.f74 []
theorem YO(s:Int)(h:aw)(Q:VH)(a:cp (decide ((s:Int)>=0)) (Q (ai (decide ((s:Int)<=500))) h) (Q (ai ak) h)):aW 74 [(aA s)] h Q:=gZ acw Tryz.func74 (bF a)
noncomputable def jw:FD:=gT Tryz.f30 [((pq 303),[1,2,3,4,48,49,50]),((pq 324399),[1,2,3,4,6,48,49,50,75,76,77])]
abbrev lQ(k:Nat)(a:OA)(n c:Nat)(i:Nat)(b:Int):LV:=[(pA k),(ai ak),(iA n),(aA b),(ae a n c),(iA n),(iA i)]
abbrev oa(k:Nat)(a:OA)(n c f:Nat)(b:OA)(m d i:Nat)(e:Int)(j:Nat):LV:=[(pA k),(ai ak),(iA n),(aA e),(pA f),(ae a n c),(iA n),(iA i),(ae b m d),(iA m),(iA j)]
theorem Xg(e:LV)(h:aw)(Q:VH)(p:xN (iF au 24 (aq ⟨e⟩)) h λr a=>mh 24 (pA (h.ax)) 3 22 a λs c t=>ky 24 (pA (h.ax)) 0 a λq=>cp (decide (q<1)) (Q (ai ak) a) (ky 24 (pA (h.ax)) 0 a λk=>cp (decide (k>3)) (Q (ai ak) a) (cp (decide ((c:Int)<1)) (Q (ai ak) a) (cp (decide ((c:Int)>3000)) (Q (ai ak) a) (ky 24 (pA (h.ax)) 1 a λl=>cp (decide (l<0)) (Q (ai ak) a) (ky 24 (pA (h.ax)) 1 a λf=>cp (decide (f>=(c:Int))) (Q (ai ak) a) (ky 24 (pA (h.ax)) 0 a λi=>qF xS 24 (pA (h.ax)) 2 9 a λo=>aW 73 [(aA i),(strOf o)] a λm b=>yB m λj=>cp (!j) (Q (ai ak) b) (mh 24 (pA (h.ax)) 3 22 b λn d g=>cq jw (pq 303) [(pA (h.ax)),(ai ak),(iA c),(aA 0),(ae n d g),(iA d),(aA 0)] b (ez jw (pq 175) Q))))))))):aW 30 [(aq ⟨e⟩)] h Q:=gZ jw Tryz.func30 (bF p)
theorem Dj(E:LV)(k:Nat)(a:OA)(n c:Nat)(d:Nat->Nat->Int->aw->Prop)(Q:VH)(step:∀(e:Nat) (i:Nat) (acc:Int) (s:Nat->ah) (h:aw),d e i acc h->cp (decide ((i:Int)<(n:Int))) (qX xA 22 (ae a n c) (iA i) 44 h λp=>xN (cD au 44) h λD j=>xU (aQ au 44 (pA (h.ax)) (aq ⟨p⟩) j) j λC b=>mh 44 (pA (h.ax)) 1 42 b λB f A=>cp (decide ((aj an (acc+(f:Int)):Int)>30000)) (Q (ai ak) b) (qF xS 44 (pA (h.ax)) 0 9 b λm=>cp (!((m:LB)==[])) (ky 24 (pA k) 0 b λy=>qF xS 44 (pA (h.ax)) 0 9 b λt=>aW 73 [(aA y),(strOf t)] b λo g=>yB o λz=>cp (!z) (Q (ai ak) g) (mh 44 (pA (h.ax)) 1 42 g λx r q=>cq jw (pq 324399) (oa k a n c (h.ax) x r q i (aj an (acc+(f:Int))) 0) g (fZ jw (pq 755) (pq 303) (RR jw (pq 303) (wz (lQ k a n c) d) e (ez jw (pq 175) Q))))) (mh 44 (pA (h.ax)) 1 42 b λw u v=>cq jw (pq 324399) (oa k a n c (h.ax) w u v i (aj an (acc+(f:Int))) 0) b (fZ jw (pq 755) (pq 303) (RR jw (pq 303) (wz (lQ k a n c) d) e (ez jw (pq 175) Q)))))) (Q (ai af) h))(e:Nat){i:Nat}{acc:Int}{h:aw}(l:d e i acc h):cq jw (pq 303) (lQ k a n c i acc) h (ez jw (pq 175) Q):=
 sK (lQ k a n c) d (λe i acc s h l=>bF (step e i acc s h l)) e l
theorem Dl(M:LV)(k:Nat)(a:OA)(n c:Nat)(p:Nat)(b:OA)(m d:Nat)(q:Nat->Nat->Int->aw->Prop)(w i:Nat)(l:Int)(g:Nat->Nat->aw->Prop)(Q:VH)(step:∀(f:Nat) (j:Nat) (B:Nat->ah) (h:aw),g f j h->cp (decide ((j:Int)<(m:Int))) (qX xA 42 (ae b m d) (iA j) 46 h λE=>xN (cD au 46) h λL t=>xU (aQ au 46 (pA (h.ax)) (aq ⟨E⟩) t) t λK s=>ky 46 (pA (h.ax)) 0 s λy=>aW 74 [(aA y)] s λD o=>yB D λv=>cp (!v) (Q (ai ak) o) (ky 46 (pA (h.ax)) 1 o λz=>aW 74 [(aA z)] o λx e=>yB x λG=>cp (!G) (Q (ai ak) e) (ky 46 (pA (h.ax)) 3 e λH=>cp (decide (H<0)) (Q (ai ak) e) (ky 46 (pA (h.ax)) 3 e λF=>cp (decide (F>=(n:Int))) (Q (ai ak) e) (ky 24 (pA k) 0 e λC=>qF xS 46 (pA (h.ax)) 2 9 e λA=>aW 73 [(aA C),(strOf A)] e λI r=>yB I λJ=>cp (!J) (Q (ai ak) r) (cB (mw (oa k a n c p b m d i l) g) f [(pA k),(ai ak),(iA n),(aA l),(pA p),(ae a n c),(iA n),(iA i),(ae b m d),(iA m),(aA (aj an ((j:Int)+1)))] r)))))) (cB (wz (lQ k a n c) q) w [(pA k),(ai ak),(iA n),(aA l),(ae a n c),(iA n),(aA (aj an ((i:Int)+1)))] h))(f:Nat){j:Nat}{h:aw}(u:g f j h):cq jw (pq 324399) (oa k a n c p b m d i l j) h (fZ jw (pq 755) (pq 303) (RR jw (pq 303) (wz (lQ k a n c) q) w (ez jw (pq 175) Q))):=
 gP (oa k a n c p b m d i l) g (λf j B h u=>bF (step f j B h u)) f u
noncomputable def jx:FD:=gT Tryz.f58 [((pq 151),[1,2,3,4]),((pq 81047),[1,2,3,4,5,6])]
abbrev kA(k:Nat)(i:Nat)(a:Int):LV:=[(pA k),(ai ak),(aA a),(iA i)]
abbrev oj(k b i:Nat)(a:Int)(j:Nat):LV:=[(pA k),(ai ak),(aA a),(iA i),(pA b),(iA j)]
theorem XT(c:LV)(h:aw)(Q:VH)(o:xN (iF au 24 (aq ⟨c⟩)) h λy i=>ky 24 (pA (h.ax)) 0 i λr=>aW 118 [(aA r)] i λq a=>yB q λp=>cp (!p) (Q (ai ak) a) (mh 24 (pA (h.ax)) 3 22 a λx k w=>cp (decide ((k:Int)<1)) (Q (ai ak) a) (mh 24 (pA (h.ax)) 3 22 a λu f v=>cp (decide ((f:Int)>3000)) (Q (ai ak) a) (ky 24 (pA (h.ax)) 1 a λm=>cp (decide (m<0)) (Q (ai ak) a) (ky 24 (pA (h.ax)) 1 a λl=>mh 24 (pA (h.ax)) 3 22 a λt n s=>cp (decide (l>=(n:Int))) (Q (ai ak) a) (ky 24 (pA (h.ax)) 0 a λd=>qF xS 24 (pA (h.ax)) 2 9 a λj=>aW 119 [(aA d),(strOf j)] a λg b=>yB g λe=>cp (!e) (Q (ai ak) b) (cq jx (pq 151) (kA (h.ax) 0 0) b (ez jx (pq 87) Q)))))))):aW 58 [(aq ⟨c⟩)] h Q:=gZ jx Tryz.func58 (bF o)
theorem DM(B:LV)(k:Nat)(b:Nat->Nat->Int->aw->Prop)(Q:VH)(step:∀(c:Nat) (i:Nat) (acc:Int) (s:Nat->ah) (h:aw),b c i acc h->mh 24 (pA k) 3 22 h λw q x=>cp (decide ((i:Int)<(q:Int))) (mh 24 (pA k) 3 22 h λl o j=>qX xA 22 (ae l o j) (iA i) 44 h λm=>xN (cD au 44) h λv e=>xU (aQ au 44 (pA (h.ax)) (aq ⟨m⟩) e) e λA a=>mh 44 (pA (h.ax)) 1 42 a λz d y=>cp (decide ((aj an (acc+(d:Int)):Int)>30000)) (Q (ai ak) a) (qF xS 44 (pA (h.ax)) 0 9 a λp=>cp (!((p:LB)==[])) (ky 24 (pA k) 0 a λt=>qF xS 44 (pA (h.ax)) 0 9 a λr=>aW 119 [(aA t),(strOf r)] a λu f=>yB u λn=>cp (!n) (Q (ai ak) f) (cq jx (pq 81047) (oj k (h.ax) i (aj an (acc+(d:Int))) 0) f (fZ jx (pq 377) (pq 151) (RR jx (pq 151) (wz (kA k) b) c (ez jx (pq 87) Q))))) (cq jx (pq 81047) (oj k (h.ax) i (aj an (acc+(d:Int))) 0) a (fZ jx (pq 377) (pq 151) (RR jx (pq 151) (wz (kA k) b) c (ez jx (pq 87) Q)))))) (Q (ai af) h))(c:Nat){i:Nat}{acc:Int}{h:aw}(g:b c i acc h):cq jx (pq 151) (kA k i acc) h (ez jx (pq 87) Q):=
 sK (kA k) b (λc i acc s h g=>bF (step c i acc s h g)) c g
theorem DN(L:LV)(k e:Nat)(f:Nat->Nat->Int->aw->Prop)(p i:Nat)(d:Int)(c:Nat->Nat->aw->Prop)(Q:VH)(step:∀(b:Nat) (j:Nat) (z:Nat->ah) (h:aw),c b j h->mh 44 (pA e) 1 42 h λH s G=>cp (decide ((j:Int)<(s:Int))) (mh 44 (pA e) 1 42 h λE x D=>qX xA 42 (ae E x D) (iA j) 46 h λw=>xN (cD au 46) h λK l=>xU (aQ au 46 (pA (h.ax)) (aq ⟨w⟩) l) l λI a=>ky 46 (pA (h.ax)) 0 a λC=>cp (decide (C<0)) (Q (ai ak) a) (ky 46 (pA (h.ax)) 0 a λB=>cp (decide (B>500)) (Q (ai ak) a) (ky 46 (pA (h.ax)) 1 a λA=>cp (decide (A<0)) (Q (ai ak) a) (ky 46 (pA (h.ax)) 1 a λy=>cp (decide (y>500)) (Q (ai ak) a) (ky 46 (pA (h.ax)) 3 a λt=>cp (decide (t<0)) (Q (ai ak) a) (ky 46 (pA (h.ax)) 3 a λv=>mh 24 (pA k) 3 22 a λF n J=>cp (decide (v>=(n:Int))) (Q (ai ak) a) (ky 24 (pA k) 0 a λu=>qF xS 46 (pA (h.ax)) 2 9 a λo=>aW 119 [(aA u),(strOf o)] a λr g=>yB r λq=>cp (!q) (Q (ai ak) g) (cB (mw (oj k e i d) c) b [(pA k),(ai ak),(aA d),(iA i),(pA e),(aA (aj an ((j:Int)+1)))] g)))))))) (cB (wz (kA k) f) p [(pA k),(ai ak),(aA d),(aA (aj an ((i:Int)+1)))] h))(b:Nat){j:Nat}{h:aw}(m:c b j h):cq jx (pq 81047) (oj k e i d j) h (fZ jx (pq 377) (pq 151) (RR jx (pq 151) (wz (kA k) f) p (ez jx (pq 87) Q))):=
 gP (oj k e i d) c (λb j z h m=>bF (step b j z h m)) b m
noncomputable def DE:FD:=gT Tryz.f23 [((pq 75),[1,3,4])]
abbrev r9(k:Nat)(i:Nat)(a:Int):LV:=[(pA k),(aA a),(iA i)]
theorem abI(a:LV)(h:aw)(Q:VH)(c:xN (iF au 24 (aq ⟨a⟩)) h λd b=>cq DE (pq 75) (r9 (h.ax) 0 0) b (ez DE (pq 43) Q)):aW 23 [(aq ⟨a⟩)] h Q:=gZ DE Tryz.func23 (bF c)
theorem EO(p:LV)(k:Nat)(b:Nat->Nat->Int->aw->Prop)(Q:VH)(step:∀(a:Nat) (i:Nat) (acc:Int) (f:Nat->ah) (h:aw),b a i acc h->mh 24 (pA k) 3 22 h λq j r=>cp (decide ((i:Int)<(j:Int))) (mh 24 (pA k) 3 22 h λm l g=>ve 22 (ae m l g) (iA i) 44 1 λe=>xL (aM au 42 h (bN e)) λn d o=>cB (wz (r9 k) b) a [(pA k),(aA (aj an (acc+(d:Int)))),(aA (aj an ((i:Int)+1)))] h) (Q (aA acc) h))(a:Nat){i:Nat}{acc:Int}{h:aw}(c:b a i acc h):cq DE (pq 75) (r9 k i acc) h (ez DE (pq 43) Q):=
 sK (r9 k) b (λa i acc f h c=>bF (step a i acc f h c)) a c
variable{A:Type}{i:Nat}
section
theorem rB{l:List A}{s:A}(h:l[i]?=aa s):l.drop i=s::l.drop (i+1):=by
 obtain⟨a,rfl⟩:=List.getElem?_eq_some_iff.1 h;exact db a
theorem Mc(s:Int)(h:aw):aW 74 [aA s] h (λv a=>v=ai (zZ s)/\a=h):=by
 refine YO s h _ (ay (λg=>⟨?_,rfl⟩) (λg=>⟨?_,rfl⟩))
 ·have g:=dT g;unfold zZ;rw[eT (show 0<=s from g),fm]
 ·have g:=dF g;unfold zZ;rw[eF (show ¬0<=s from g),Bool.false_and]
section
variable {h:aw} {k:Nat} {M:cG} {a:Option aF} {n c:Nat}
def bQ(h:aw)(V:Bool):VH:=λv a=>v=ai V/\Ok h a
def aet(h:aw)(k:Nat)(M:cG)(a:Option aF)(n c:Nat)(V:Bool)(d i:Nat)(b:Int)(g:aw):Prop:=i<=n/\d=n-i/\0<=b/\b<=30000/\MB g k M a n c/\Ok h g/\wh M.kind n b (M.aE.drop i)=V
def mIn(h:aw)(k:Nat)(M:cG)(a:Option aF)(n c:Nat)(s:kH)(b:Option aF)(m d i:Nat)(f:Int)(V:Bool)(e j:Nat)(g:aw):Prop:=j<=m/\e=m-j/\MB g k M a n c/\Ok h g/\nM g (ae b m d) s.bG/\((s.bG.drop j).all (pz M.kind n)&&wh M.kind n f (M.aE.drop (i+1)))=V
theorem cL{n:Nat}(h:i<n)(a:n<=1000000000):aj an ((i:Int)+1)=((i+1:Nat):Int):=by rw[cj (by omega) (by omega)];omega
theorem tN(a:Small M){s:kH}{i:Nat}(b:M.aE[i]?=aa s):s.bG.length<=2000/\s.f.length<=281474976710656/\∀q∈s.bG,q.w.length<=281474976710656:=by
 have h:=aI b;exact⟨a.bG s h,bK (a.fin s h) (by decide),λq c=>bK (a.w s h q c) (by decide)⟩
set_option linter.defProp false in
def Qf(w:Wf h)(Z:BG h)(O:Small M)(V:Bool){s:kH}{b:Option aF}{m d i T:Nat}{l:Int}(U:M.aE[i]?=aa s)(Y:i<n)(h0:0<=l)(W:l<=30000)(Q:List ah)(K:Nat)(x0:K=n-i):=
 Dl Q k a n c T b m d (aet h k M a n c V) K i l (mIn h k M a n c s b m d i l V) (bQ h V) (by
  intro P j;intros;rename_i g J;obtain⟨f1,f2,E,H,C,f⟩:=J;have hn:n<=300:=by rw[E.len];exact O.OB
  obtain⟨l1,l2,X⟩:=tN O U;have hm:=C.len;refine ay (λy=>?_) (λy=>?_)
  ·have y:=dT y;obtain⟨q,F⟩:∃q,s.bG[j]?=aa q:=⟨_,gE (by omega)⟩
   obtain⟨bb,o,S,e2,e3⟩:=C.at_ F;have R:=X q (aI F);rw[rB F,fR]at f;obtain⟨u,p1,D,z⟩:=FK H.wf q;refine⟨_,S,_,e2,_,MA,u,p1,?_⟩;have e:=H.trans D;have B:=E.ok D;generalize u.app (g.push JQ)=L at*;refine⟨_,po _ _,_,z.l0,(Mc _ _).mono ?_⟩;rintro _ I ⟨rfl,G⟩;obtain rfl:L=I:=G.symm;refine⟨_,rfl,ay (λt=>⟨?_,e⟩) (λt=>?_)⟩
   ·rw[dt]at t;rw[<-f];unfold pz;rw[t];simp
   rw[eC]at t;refine⟨_,pT _ _,_,z.l1,(Mc _ _).mono ?_⟩;rintro _ I ⟨rfl,G⟩;obtain rfl:L=I:=G.symm;refine⟨_,rfl,ay (λp=>⟨?_,e⟩) (λp=>?_)⟩
   ·rw[dt]at p;rw[<-f];unfold pz;rw[p];simp
   rw[eC]at p;refine⟨_,jE _ _,_,z.l3,ay (λx=>⟨?_,e⟩) (λx=>?_)⟩
   ·have x:=dT x;rw[<-f];unfold pz;rw[eF (show ¬0<=q.t by omega)];simp
   have x:=dF x;refine⟨_,jE _ _,_,z.l3,ay (λr=>⟨?_,e⟩) (λr=>?_)⟩
   ·have r:=dT r;rw[<-f];unfold pz;rw[eF (show ¬q.t<n by omega)];simp
   have r:=dF r;refine⟨_,rD _,_,B.l0,_,aac _ _,_,z.l2,(xu M.kind q.w R (Z.ok e) e.wf).mono ?_⟩;rintro _ g4 ⟨rfl,A⟩;refine⟨_,rfl,ay (λv=>⟨?_,e.trans A⟩) (λv=>?_)⟩
   ·rw[dt]at v;rw[<-f];unfold pz;rw[v];simp
   rw[eC]at v;have N:pz M.kind n q=af:=by
    unfold pz;rw[t,p,v,eT (show 0<=q.t by omega),eT (show q.t<n by omega)];rfl
   rw[N,fm]at f;rw[cL (i:=j) (n:=m) (by omega) (by omega)];exact fG (P-1) (by omega) ⟨by omega,by omega,B.ok A,e.trans A,(C.ok D).ok A,f⟩
  ·have y:=dF y;obtain rfl:m=j:=by omega
   rw[cU (by omega)]at f;rw[cL Y (by omega)];exact pe (n-(i+1)) (by omega) ⟨by omega,rfl,h0,W,E,H,by simpa using f⟩)
theorem Ls{h:aw}(N:BG h)(w:Wf h){M:cG}(q:Small M){a:Option aF}{n c:Nat}(r:iY h (ae a n c) M.aE):aW 30 [aq ⟨dK M a n c⟩] h (λv h'=>v=ai (fH M)/\Ok h h'):=by
 obtain⟨f,k⟩:=ni w r;refine Xg (dK M a n c) h _ ⟨_,qx M a n c,?_⟩;have Y:=f.len;have hn:n<=300:=by rw[Y];exact q.OB
 generalize h.push (Bm M a n c)=g at*;refine⟨_,eR _,_,_,_,f.l3,_,rD _,_,f.l0,ay (λJ=>⟨?_,k⟩) (λJ=>?_)⟩
 ·have J:=dT J;unfold fH;rw[eF (show ¬1<=M.kind by omega)];simp
 have J:=dF J;refine⟨_,rD _,_,f.l0,ay (λp=>⟨?_,k⟩) (λp=>ay (λF=>⟨?_,k⟩) (λF=>ay (λT=>⟨?_,k⟩) (λT=>?_)))⟩
 ·have p:=dT p;unfold fH;rw[eF (show ¬M.kind<=3 by omega)];simp
 ·have F:=dT F;unfold fH;rw[eF (show ¬1<=M.aE.length by omega)];simp
 ·have T:=dT T;omega
 have p:=dF p;have F:=dF F;refine⟨_,nV _,_,f.l1,ay (λC=>⟨?_,k⟩) (λC=>?_)⟩
 ·have C:=dT C;unfold fH;rw[eF (show ¬0<=M.start by omega)];simp
 have C:=dF C;refine⟨_,nV _,_,f.l1,ay (λD=>⟨?_,k⟩) (λD=>?_)⟩
 ·have D:=dT D;unfold fH;rw[eF (show ¬M.start<M.aE.length by omega)];simp
 have D:=dF D;refine⟨_,rD _,_,f.l0,_,MZ _,_,f.l2,(xu M.kind M.lead (bK q.lead (by decide)) (N.ok k) k.wf).mono ?_⟩;rintro _ g2 ⟨rfl,o2⟩;have R:=k.trans o2;have O:=f.ok o2;refine⟨_,rfl,ay (λI=>⟨?_,R⟩) (λI=>?_)⟩
 ·rw[dt]at I;unfold fH;rw[I];simp
 rw[eC]at I;have hV:fH M=wh M.kind n 0 M.aE:=by
  unfold fH;rw[I,eT (show 1<=M.kind by omega),eT (show M.kind<=3 by omega),eT (show 1<=M.aE.length by omega),eT (show M.aE.length<=3000 by omega),eT (show 0<=M.start by omega),eT (show M.start<M.aE.length by omega),Y];rfl
 obtain⟨V,S⟩:∃V,V=wh M.kind n 0 M.aE:=⟨_,rfl⟩
 rw[hV,<-S];refine⟨_,eR _,_,_,_,O.l3,?_⟩;refine Dj (dK M a n c) h.ax a n c (aet h h.ax M a n c V) (bQ h V) (λW i l=>?_) n (i:=0) (acc:=0) ⟨by omega,rfl,by omega,by omega,O,R,S.symm⟩;intros;rename_i gg hi;obtain⟨f1,Z,f3,f4,Q,G,d⟩:=hi;refine ay (λH=>?_) (λH=>?_)
 ·have H:=dT H;obtain⟨s,t⟩:∃s,M.aE[i]?=aa s:=⟨_,gE (by omega)⟩
  obtain⟨b,o,x,y,z,e1,e2,e3,e4,X⟩:=Q.row.at_ t;obtain⟨l1,l2,l3⟩:=tN q t;have hy:=X.len;rw[rB t]at d;unfold wh at d;obtain⟨u,p1,U,K⟩:=Vq G.wf s.f x y z;refine⟨_,e1,_,e2,_,Zo,u,p1,?_⟩;have e:=G.trans U;have L:=Q.ok U;have P:=X.ok U;generalize u.app (gg.push Ut)=g3 at*;have hw:aj an (l+(y:Int))=l+(s.bG.length:Int):=by rw[hy,cj (by omega) (by omega)]
  refine⟨_,jc _ _,_,_,_,K.l1,?_⟩;dsimp only;rw[hw];refine ay (λA=>⟨?_,e⟩) (λA=>?_)
  ·have A:=dT A;rw[<-d,eF (show ¬l+(s.bG.length:Int)<=30000 by omega)];simp
  have A:=dF A;rw[eT (show l+(s.bG.length:Int)<=30000 by omega),fm]at d;refine⟨_,pk _ _,_,K.l0,ay (λm=>?_) (λm=>?_)⟩
  ·refine⟨_,rD _,_,L.l0,_,pk _ _,_,K.l0,(xu M.kind s.f l2 (N.ok e) e.wf).mono ?_⟩;rintro _ g4 ⟨rfl,B⟩;have m:(s.f==[])=ak:=by simpa using m
   rw[m,Bool.false_or]at d;refine⟨_,rfl,ay (λE=>⟨?_,e.trans B⟩) (λE=>?_)⟩
   ·rw[dt]at E;rw[<-d,E];simp
   rw[eC]at E;rw[E,fm]at d;refine⟨_,jc _ _,_,_,_,(K.ok B).l1,?_⟩;exact Qf w N q _ t (by omega) (by omega) (by omega) [] W Z y (j:=0) ⟨by omega,rfl,L.ok B,e.trans B,P.ok B,by rw[bV];exact d⟩
  ·have m:(s.f==[])=af:=by simpa using m
   rw[m,Bool.true_or,fm]at d;refine⟨_,jc _ _,_,_,_,K.l1,?_⟩;exact Qf w N q _ t (by omega) (by omega) (by omega) [] W Z y (j:=0) ⟨by omega,rfl,L,e,P,by rw[bV];exact d⟩
 ·have H:=dF H;refine⟨?_,G⟩;rw[cU (by omega)]at d;rw[<-d];rfl
end
end
section
theorem zH(a:Int)(h:aw):aW 118 [aA a] h (λv b=>v=ai (decide (1<=a)&&decide (a<=3))/\b=h):=by
 refine FO a h _ (ay (λg=>⟨?_,rfl⟩) (λg=>⟨?_,rfl⟩))
 ·have g:=dT g;rw[eT (show 1<=a from g),fm]
 ·have g:=dF g;rw[eF (show ¬1<=a from g),Bool.false_and]
section
variable {h:aw} {k:Nat} {M:cG} {a:Option aF} {n c:Nat}
set_option linter.defProp false in
def QZ(w:Wf h)(P:Small M)(V:Bool){s:kH}{b:Option aF}{m d i Q:Nat}{p:Int}(U:M.aE[i]?=aa s)(Y:i<n)(Z:0<=p)(W:p<=30000)(R:List ah)(N:Nat)(x0:N=n-i):=
 DN R k Q (aet h k M a n c V) N i p (λx j g=>mIn h k M a n c s b m d i p V x j g/\SB g Q s.f b m d) (bQ h V) (by
  intro x j;intros;rename_i g L;obtain⟨⟨f1,f2,H,K,G,f⟩,J⟩:=L;have hn:n<=300:=by rw[H.len];exact P.OB
  obtain⟨l1,l2,X⟩:=tN P U;have hm:=G.len;refine⟨_,jc _ _,_,_,_,J.l1,ay (λD=>?_) (λD=>?_)⟩
  ·have D:=dT D;obtain⟨q,I⟩:∃q,s.bG[j]?=aa q:=⟨_,gE (by omega)⟩
   obtain⟨bb,o,T,e2,e3⟩:=G.at_ I;have S:=X q (aI I);rw[rB I,fR]at f;obtain⟨u,p1,F,l⟩:=FK K.wf q;refine⟨_,jc _ _,_,_,_,J.l1,_,T,_,e2,_,MA,u,p1,?_⟩;have e:=K.trans F;have E:=H.ok F;generalize u.app (g.push JQ)=g2 at*;refine⟨_,po _ _,_,l.l0,ay (λt=>⟨?_,e⟩) (λt=>⟨_,po _ _,_,l.l0,ay (λr=>⟨?_,e⟩) (λr=>⟨_,pT _ _,_,l.l1,ay (λB=>⟨?_,e⟩) (λB=>⟨_,pT _ _,_,l.l1,ay (λv=>⟨?_,e⟩) (λv=>⟨_,jE _ _,_,l.l3,ay (λz=>⟨?_,e⟩) (λz=>⟨_,jE _ _,_,l.l3,_,eR _,_,_,_,E.l3,ay (λA=>⟨?_,e⟩) (λA=>?_)⟩)⟩)⟩)⟩)⟩)⟩
   ·have t:=dT t;rw[<-f];unfold pz zZ;rw[eF (show ¬0<=q.i by omega)];simp
   ·have r:=dT r;rw[<-f];unfold pz zZ;rw[eF (show ¬q.i<=500 by omega)];simp
   ·have B:=dT B;rw[<-f];unfold pz zZ;rw[eF (show ¬0<=q.o by omega)];simp
   ·have v:=dT v;rw[<-f];unfold pz zZ;rw[eF (show ¬q.o<=500 by omega)];simp
   ·have z:=dT z;rw[<-f];unfold pz;rw[eF (show ¬0<=q.t by omega)];simp
   ·have A:=dT A;rw[<-f];unfold pz;rw[eF (show ¬q.t<n by omega)];simp
   have t:=dF t;have r:=dF r;have B:=dF B;have v:=dF v;have z:=dF z;have A:=dF A;refine⟨_,rD _,_,E.l0,_,aac _ _,_,l.l2,(vF M.kind q.w S e.wf).mono ?_⟩;rintro _ g4 ⟨rfl,y⟩;refine⟨_,rfl,ay (λC=>⟨?_,e.trans y⟩) (λC=>?_)⟩
   ·rw[dt]at C;rw[<-f];unfold pz;rw[C];simp
   rw[eC]at C;have O:pz M.kind n q=af:=by
    unfold pz zZ;rw[C,eT (show 0<=q.i by omega),eT (show q.i<=500 by omega),eT (show 0<=q.o by omega),eT (show q.o<=500 by omega),eT (show 0<=q.t by omega),eT (show q.t<n by omega)];rfl
   rw[O,fm]at f;rw[cL (i:=j) (n:=m) (by omega) (by omega)];exact fG (x-1) (by omega) ⟨⟨by omega,by omega,E.ok y,e.trans y,(G.ok F).ok y,f⟩,(J.ok F).ok y⟩
  ·have D:=dF D;obtain rfl:m=j:=by omega
   rw[cU (by omega)]at f;rw[cL Y (by omega)];exact pe (n-(i+1)) (by omega) ⟨by omega,rfl,Z,W,H,K,by simpa using f⟩)
end
theorem XU{h:aw}(w:Wf h){M:cG}(t:Small M){a:Option aF}{n c:Nat}(r:iY h (ae a n c) M.aE):aW 58 [aq ⟨dK M a n c⟩] h (λv h'=>v=ai (fH M)/\Ok h h'):=by
 obtain⟨e,p⟩:=ni w r;refine XT (dK M a n c) h _ ⟨_,qx M a n c,?_⟩;have W:=e.len;have hn:n<=300:=by rw[W];exact t.OB
 generalize h.push (Bm M a n c)=g at*;refine⟨_,rD _,_,e.l0,(zH _ _).mono ?_⟩;rintro _ g1 ⟨rfl,eg⟩;obtain rfl:g=g1:=eg.symm;refine⟨_,rfl,ay (λm=>⟨?_,p⟩) (λm=>?_)⟩
 ·rw[dt]at m;unfold fH;rw[m];simp
 rw[eC,bj]at m;have m:1<=M.kind/\M.kind<=3:=⟨dT m.1,dT m.2⟩
 refine⟨_,eR _,_,_,_,e.l3,ay (λG=>⟨?_,p⟩) (λG=>⟨_,eR _,_,_,_,e.l3,ay (λQ=>⟨?_,p⟩) (λQ=>?_)⟩)⟩
 ·have G:=dT G;unfold fH;rw[eF (show ¬1<=M.aE.length by omega)];simp
 ·have Q:=dT Q;omega
 have G:=dF G;refine⟨_,nV _,_,e.l1,ay (λD=>⟨?_,p⟩) (λD=>?_)⟩
 ·have D:=dT D;unfold fH;rw[eF (show ¬0<=M.start by omega)];simp
 have D:=dF D;refine⟨_,nV _,_,e.l1,_,eR _,_,_,_,e.l3,ay (λE=>⟨?_,p⟩) (λE=>?_)⟩
 ·have E:=dT E;unfold fH;rw[eF (show ¬M.start<M.aE.length by omega)];simp
 have E:=dF E;refine⟨_,rD _,_,e.l0,_,MZ _,_,e.l2,(vF M.kind M.lead (bK t.lead (by decide)) p.wf).mono ?_⟩;rintro _ g2 ⟨rfl,Y⟩;have O:=p.trans Y;have U:=e.ok Y;refine⟨_,rfl,ay (λJ=>⟨?_,O⟩) (λJ=>?_)⟩
 ·rw[dt]at J;unfold fH;rw[J];simp
 rw[eC]at J;have Z:fH M=wh M.kind n 0 M.aE:=by
  unfold fH;rw[J,eT (show 1<=M.kind by omega),eT (show M.kind<=3 by omega),eT (show 1<=M.aE.length by omega),eT (show M.aE.length<=3000 by omega),eT (show 0<=M.start by omega),eT (show M.start<M.aE.length by omega),W];rfl
 obtain⟨V,P⟩:∃V,V=wh M.kind n 0 M.aE:=⟨_,rfl⟩
 rw[Z,<-P];refine DM (dK M a n c) h.ax (aet h h.ax M a n c V) (bQ h V) (λS i k=>?_) n (i:=0) (acc:=0) ⟨by omega,rfl,by omega,by omega,U,O,P.symm⟩;intros;rename_i gg hi;obtain⟨f1,X,f3,f4,q,H,d⟩:=hi;refine⟨_,eR _,_,_,_,q.l3,ay (λI=>?_) (λI=>?_)⟩
 ·have I:=dT I;obtain⟨s,A⟩:∃s,M.aE[i]?=aa s:=⟨_,gE (by omega)⟩
  obtain⟨b,o,x,y,z,e1,e2,e3,e4,T⟩:=q.row.at_ A;obtain⟨l1,l2,l3⟩:=tN t A;have hy:=T.len;rw[rB A]at d;unfold wh at d;obtain⟨u,p1,R,K⟩:=Vq H.wf s.f x y z;refine⟨_,eR _,_,_,_,q.l3,_,e1,_,e2,_,Zo,u,p1,?_⟩;have f:=H.trans R;have L:=q.ok R;have N:=T.ok R;generalize u.app (gg.push Ut)=g3 at*;have hw:aj an (k+(y:Int))=k+(s.bG.length:Int):=by rw[hy,cj (by omega) (by omega)]
  refine⟨_,jc _ _,_,_,_,K.l1,?_⟩;dsimp only;rw[hw];refine ay (λB=>⟨?_,f⟩) (λB=>?_)
  ·have B:=dT B;rw[<-d,eF (show ¬k+(s.bG.length:Int)<=30000 by omega)];simp
  have B:=dF B;rw[eT (show k+(s.bG.length:Int)<=30000 by omega),fm]at d;refine⟨_,pk _ _,_,K.l0,ay (λl=>?_) (λl=>?_)⟩
  ·refine⟨_,rD _,_,L.l0,_,pk _ _,_,K.l0,(vF M.kind s.f l2 f.wf).mono ?_⟩;rintro _ g4 ⟨rfl,C⟩;have l:(s.f==[])=ak:=by simpa using l
   rw[l,Bool.false_or]at d;refine⟨_,rfl,ay (λF=>⟨?_,f.trans C⟩) (λF=>?_)⟩
   ·rw[dt]at F;rw[<-d,F];simp
   rw[eC]at F;rw[F,fm]at d;exact QZ w t _ A (by omega) (by omega) (by omega) [] S X y (j:=0) ⟨⟨by omega,rfl,L.ok C,f.trans C,N.ok C,by rw[bV];exact d⟩,K.ok C⟩
  ·have l:(s.f==[])=af:=by simpa using l
   rw[l,Bool.true_or,fm]at d;exact QZ w t _ A (by omega) (by omega) (by omega) [] S X y (j:=0) ⟨⟨by omega,rfl,L,f,N,by rw[bV];exact d⟩,K⟩
 ·have I:=dF I;refine⟨?_,H⟩;rw[cU (by omega)]at d;rw[<-d];rfl
end
section
section
variable {h:aw} {k:Nat} {M:cG} {a:Option aF} {n c:Nat}
def iQ(h:aw)(V:Int):VH:=λv a=>v=aA V/\Ok h a
end
end
section
theorem wj(s:kH)(l:List kH):rP (s::l)=s.bG.length+rP l:=by simp[rP]
theorem VM{B:Nat}:∀{l:List kH},(∀s∈l,s.bG.length<=B)->rP l<=l.length*B
 |[],_=>by simp[rP]
 |x::l,h=>by
  rw[wj,bP,cM,dw];have b:=h x (cH ..);have c:=VM (l:=l) λs a=>h s (cJ _ a);omega
def Bnd(M:cG):Prop:=∀s∈M.aE,s.bG.length<=281474976710656
section
variable {h:aw} {k:Nat} {M:cG} {a:Option aF} {n c:Nat}
theorem abJ(w:Wf h)(D:Bnd M)(t:M.aE.length<=300)(r:iY h (ae a n c) M.aE):aW 23 [aq ⟨dK M a n c⟩] h (λv E=>v=aA (rP M.aE:Nat)/\Ok h E):=by
 obtain⟨x,I⟩:=ni w r;refine abI (dK M a n c) h _ ⟨_,qx M a n c,?_⟩;generalize h.push (Bm M a n c)=g at*;have J:=x.len;have C:=VM D;have u:M.aE.length*281474976710656<=300*281474976710656:=bJ _ t;have P:rP M.aE<=300*281474976710656:=bK C u;refine EO (dK M a n c) h.ax (λm i f p=>i<=n/\m=n-i/\MB p h.ax M a n c/\Ok h p/\∃j:Nat,f=(j:Int)/\j+rP (M.aE.drop i)=rP M.aE) (iQ h (rP M.aE:Nat)) (λm i f=>?_) n (i:=0) (acc:=0) ⟨by omega,rfl,x,I,0,rfl,by rw[bV];omega⟩;intros;rename_i N H;obtain⟨R,O,d,l,j,rfl,k⟩:=H;refine⟨_,eR _,_,_,_,d.l3,ay (λe=>?_) (λe=>?_)⟩
 ·have e:=dT e;obtain⟨s,q⟩:∃s,M.aE[i]?=aa s:=⟨_,gE (by omega)⟩
  obtain⟨b,o,K,y,z,B,Q,L,F,A⟩:=d.row.at_ q;have S:=A.len;rw[rB q,wj]at k;refine⟨_,eR _,_,_,_,d.l3,_,B,_,jc _ _,_,_,_,F,?_⟩;have G:aj an ((j:Int)+(y:Int))=((j+y:Nat):Int):=by rw[cj (by omega) (by omega)];omega
  dsimp only;rw[G,cL (i:=i) (n:=n) (by omega) (by omega)];exact pe (m-1) (by omega) ⟨by omega,by omega,d,l,_,rfl,by omega⟩
 ·have e:=dF e;rw[cU (by omega)]at k;refine⟨?_,l⟩;rw[show rP []=0 from rfl,fh]at k;rw[k]
end
end
variable{z:Int}{M:cG}
theorem Mb{a:Int}{N:Nat}:∀{l:List kH}{c:Int},wh a N c l=af->∀s∈l,(s.f==[]||gJ a s.f)=af/\∀q∈s.bG,pz a N q=af
 |[],_,_,s,b=>by cases b
 |x::l,c,h,s,b=>by
  unfold wh at h;simp only[bj]at h;obtain⟨⟨⟨i,f⟩,d⟩,g⟩:=h;rcases cO.1 b with rfl|b
  ·exact⟨f,λq e=>cw.1 d q e⟩
  ·exact Mb g s b
structure Hp(N:Nat)(q:iu):Prop where
 i0:0<=q.i
 i1:q.i<=500
 o0:0<=q.o
 o1:q.o<=500
 t0:0<=q.t
 t1:q.t<N
theorem Zt{q:iu}(h:pz z n q=af):Hp n q:=by
 unfold pz zZ at h;simp only[bj,decide_eq_true_eq]at h;obtain⟨⟨⟨⟨⟨b,c⟩,a,d⟩,f⟩,e⟩,g⟩:=h;exact⟨b,c,a,d,f,e⟩
structure Good(M:cG):Prop where
 oz:0<=M.start
 pY:M.start<M.aE.length
 bG:∀s∈M.aE,∀q∈s.bG,Hp M.aE.length q
theorem sS(h:fH M=af):Good M:=by
 unfold fH at h;simp only[bj,decide_eq_true_eq]at h;obtain⟨⟨⟨⟨⟨⟨⟨g,i⟩,f⟩,k⟩,e⟩,d⟩,j⟩,a⟩:=h;exact⟨e,d,λs b q c=>Zt ((Mb a s b).2 q c)⟩
theorem TQ:au.underlying 68=aa (.slice 4):=by kernel_rfl
theorem afw:cd au 4=aa 1:=by kernel_rfl
noncomputable def ti4:TypeInfo:=(au.info? 4).getD default
theorem acM:au.info? 4=aa ti4:=by kernel_rfl
theorem Rn:ti4.size=1:=by kernel_rfl
theorem Me:ti4.bytes=1:=by kernel_rfl
theorem agz:zeroOf au 4=aa (ai ak):=by kernel_rfl
theorem Xj(n:Nat)(a:n<=100000):cK au 68 (aA (n:Int)) (aA (n:Int))=aa (.cells ((aH n ak).map ai) 4 1 af,pw n n):=by
 unfold cK dz;dsimp only;rw[TQ]
 try dsimp only
 change (match au.info? 4,zeroOf au 4 with
  |some i,aa z=>(if z.cells.size=i.size/\0<i.size/\(0:Int)<=(n:Int)/\(n:Int)<=(n:Int)/\(n:Int)*i.bytes<=140737488355328/\(n:Int)<=1099511627776 then aa (eE.cells (eO z.cells.toList (n:Int).toNat) 4 i.size af,λk=>ae (aa ⟨k,0,none⟩) (n:Int).toNat (n:Int).toNat)else none)
  |_,_=>none)=_
 rw[acM,agz];dsimp only;rw[Rn,Me,iP ⟨rfl,by omega,by omega,fU _,by omega,by omega⟩];have e:((n:Int)).toNat=n:=by omega
 rw[e,show(ai ak).cells.toList=[ai ak]from rfl,qh,map_replicate];rfl
structure BR(hb:aw)(kt N:Nat)(L:List Bool)(g:aw):Prop where
 len:L.length=N
 row:yr hb kt 4 (L.map ai) g
theorem BR.trans{L:List Bool}{a:aw}(b:BR h n m L g)(o:Ok g a):BR h n m L a:=⟨b.len,b.row.trans o⟩
theorem BR.get{c:Nat}{L:List Bool}(i:BR h n m L g){x:Int}(l:0<=x)(j:x<m):aZ au 68 (sA n m c) (aA x)=aa (cn n x.toNat)/\aM au 4 g (cn n x.toNat)=aa (ai (L.getD x.toNat ak))/\
  ∀b:Bool,Wf h->∃u:dJ,aQ au 4 (cn n x.toNat) (ai b) g=aa (undef,u)/\BR h n m (L.set x.toNat b) (u.app g)/\(∀a B,g.get a=aa B->a≠n->(u.app g).get a=aa B):=by
 have e:0+x.toNat*1=x.toNat:=by omega
 have d:x.toNat<L.length:=by rw[i.len];omega
 refine⟨by rw[<-e];exact Gw TQ afw l j,?_,?_⟩
 ·rw[da un4 ag4 i.row.row (by rw[aG];exact d),gD,getElem?_map,gD,gE d];rfl
 ·intro b w;refine⟨_,eu afw i.row.row (by rw[aG];exact d) rfl rfl,⟨by rw[bT];exact i.len,?_⟩,λa B k f=>?_⟩
  ·have:=i.row.set w x.toNat (ai b);rw[Oc ai L x.toNat b]at this⊢;exact this
  ·show(g.set n _).get a=_;rw[aw.bZ,iN f];exact k
theorem BR.new(w:Wf h)(n:Nat):BR h h.ax n (aH n ak) (h.push (.cells ((aH n ak).map ai) 4 1 af)):=
 ⟨bE,cC h _,aS _,(Ok.refl w).push _⟩
theorem Sy{L:List Bool}{x:Nat}(a:x<L.length):(L.set x b).getD n ak=if n=x then b else L.getD n ak:=by
 rw[gD,getElem?_set,gD];split
 ·next e=>subst e;simp
 ·next e=>rw[iN (λc=>e c.symm)]
noncomputable def afM:FD:=gT Tryz.f173 []
theorem acZ(s:Int)(e d:Nat)(h:aw)(Q:VH)(r:xL (aM au 68 h (pA e)) λx p v=>qX xB 68 (ae x p v) (aA s) 4 h λu=>cp (!u) (xL (aM au 68 h (pA e)) λq w t=>xP (aZ au 68 (ae q w t) (aA s)) λy=>xU (aQ au 4 (bN y) (ai af) h) h λB a=>xL (aM au 27 a (pA d)) λi k m=>xR (bC au 27 1 [(0,(aA s))]) a λC j f b=>xE (bY au 27 27 (ae i k m) (sA (a.ax) j f) b) b λn o g A c=>xU (aQ au 27 (pA d) (ae n o g) c) c λz l=>Q (av ⟨[]⟩) l) (Q (av ⟨[]⟩) h)):aW 173 [(aA s),(pA e),(pA d)] h Q:=gZ afM Tryz.func173 (bF r)
noncomputable def aeD:FD:=gT Tryz.f133 []
theorem abb(s:Int)(k:Nat)(h:aw)(Q:VH)(c:xL (aM au 126 h (pA k)) λg a e=>qX xL 126 (ae g a e) (aA s) 27 h λf d b=>Q (ae f d b) h):aW 133 [(aA s),(pA k)] h Q:=gZ aeD Tryz.func133 (bF c)
noncomputable def aeE:FD:=gT Tryz.f134 []
theorem abd(s:Int)(k:Nat)(h:aw)(Q:VH)(c:xL (aM au 126 h (pA k)) λg a e=>qX xL 126 (ae g a e) (aA s) 27 h λf d b=>Q (ae f d b) h):aW 134 [(aA s),(pA k)] h Q:=gZ aeE Tryz.func134 (bF c)
noncomputable def jy:FD:=gT Tryz.f132 [((pq 303),[0,1,2,7,8,9,18,19,20]),((pq 287),[0,1,2,7,8,9]),((pq 40223),[0,1,2,7,8,9,44,45,46])]
abbrev uH(N:Int)(a:OA)(n c f e d b:Nat)(i:Nat):LV:=[(aA N),(ae a n c),(aN (.func f) ⟨[]⟩ ⟨[(pA e)]⟩),(pA d),(pA b),(aN (.func 173) ⟨[]⟩ ⟨[(pA d),(pA b)]⟩),(ae a n c),(iA n),(iA i)]
abbrev oy(N:Int)(a:OA)(n c f e d b:Nat)(g:Nat):LV:=[(aA N),(ae a n c),(aN (.func f) ⟨[]⟩ ⟨[(pA e)]⟩),(pA d),(pA b),(aN (.func 173) ⟨[]⟩ ⟨[(pA d),(pA b)]⟩)]
abbrev uJ(N:Int)(a:OA)(n c f h g e:Nat)(b:OA)(m d:Nat)(j:Nat):LV:=[(aA N),(ae a n c),(aN (.func f) ⟨[]⟩ ⟨[(pA h)]⟩),(pA g),(pA e),(aN (.func 173) ⟨[]⟩ ⟨[(pA g),(pA e)]⟩),(ae b m d),(iA m),(iA j)]
theorem YE(N:Int)(a:OA)(n c f g:Nat)(h:aw)(Q:VH)(k:xR (cK au 68 (aA N) (aA N)) h λm j l b=>xN (cD au 68) b λq e=>xU (aQ au 68 (pA (b.ax)) (sA (h.ax) j l) e) e λp d=>xN (cD au 27) d λo i=>cq jy (pq 303) [(aA N),(ae a n c),(aN (.func f) ⟨[]⟩ ⟨[(pA g)]⟩),(pA (b.ax)),(pA (d.ax)),(aN (.func 173) ⟨[]⟩ ⟨[(pA (b.ax)),(pA (d.ax))]⟩),(ae a n c),(iA n),(aA 0)] i (ez jy (pq 175) Q)):aW 132 [(aA N),(ae a n c),(aN (.func f) ⟨[]⟩ ⟨[(pA g)]⟩)] h Q:=gZ jy Tryz.func132 (bF k)
theorem D0(N:Int)(a:OA)(n c f j:Nat)(d b:Nat)(g:Nat->Nat->aw->Prop)(Q:VH)(step:∀(e:Nat) (i:Nat) (l:Nat->ah) (h:aw),g e i h->cp (decide ((i:Int)<(n:Int))) (vX 27 (ae a n c) (iA i) h λm=>aW 173 [(aA m),(pA d),(pA b)] h λo p=>o=(av ⟨[]⟩)/\cB (mw (uH N a n c f j d b) g) e [(aA N),(ae a n c),(aN (.func f) ⟨[]⟩ ⟨[(pA j)]⟩),(pA d),(pA b),(aN (.func 173) ⟨[]⟩ ⟨[(pA d),(pA b)]⟩),(ae a n c),(iA n),(aA (aj an ((i:Int)+1)))] p) (cq jy (pq 287) [(aA N),(ae a n c),(aN (.func f) ⟨[]⟩ ⟨[(pA j)]⟩),(pA d),(pA b),(aN (.func 173) ⟨[]⟩ ⟨[(pA d),(pA b)]⟩)] h (ez jy (pq 159) Q)))(e:Nat){i:Nat}{h:aw}(k:g e i h):cq jy (pq 303) (uH N a n c f j d b i) h (ez jy (pq 175) Q):=
 gP (uH N a n c f j d b) g (λe i l h k=>bF (step e i l h k)) e k
theorem D1(N:Int)(a:OA)(n c f j:Nat)(i b:Nat)(e:Nat->Nat->aw->Prop)(Q:VH)(step:∀(d:Nat) (g:Nat) (F:Nat->ah) (h:aw),e d g h->xL (aM au 27 h (pA b)) λL q J=>cp (decide ((q:Int)>0)) (xL (aM au 27 h (pA b)) λw A y=>xL (aM au 27 h (pA b)) λO I K=>vX 27 (ae w A y) (aA (aj an ((I:Int)-1))) h λp=>xL (aM au 27 h (pA b)) λm B z=>xL (aM au 27 h (pA b)) λM t P=>xL (cY au 27 (ae m B z) none (aa (aA (aj an ((t:Int)-1)))) none h) λv s x=>xU (aQ au 27 (pA b) (ae v s x) h) h λR u=>cp (dj f YB) (aW f ([]++[(aA p)]++[(pA j)]) u λC G=>yL C λo k r=>cq jy (pq 40223) [(aA N),(ae a n c),(aN (.func f) ⟨[]⟩ ⟨[(pA j)]⟩),(pA i),(pA b),(aN (.func 173) ⟨[]⟩ ⟨[(pA i),(pA b)]⟩),(ae o k r),(iA k),(aA 0)] G (fZ jy (pq 93) (pq 287) (RR jy (pq 287) (mw (oy N a n c f j i b) e) d (ez jy (pq 159) Q)))) False) (xL (aM au 68 h (pA i)) λE H D=>Q (ae E H D) h))(d:Nat){g:Nat}{h:aw}(l:e d g h):cq jy (pq 287) (oy N a n c f j i b g) h (ez jy (pq 159) Q):=
 gP (oy N a n c f j i b) e (λd g F h l=>bF (step d g F h l)) d l
theorem D2(N:Int)(a:OA)(n c f l:Nat)(i g:Nat)(b:OA)(m d:Nat)(o:Nat->Nat->aw->Prop)(p:Nat)(k:Nat->Nat->aw->Prop)(Q:VH)(step:∀(e:Nat) (j:Nat) (t:Nat->ah) (h:aw),k e j h->cp (decide ((j:Int)<(m:Int))) (vX 27 (ae b m d) (iA j) h λs=>aW 173 [(aA s),(pA i),(pA g)] h λr u=>r=(av ⟨[]⟩)/\cB (mw (uJ N a n c f l i g b m d) k) e [(aA N),(ae a n c),(aN (.func f) ⟨[]⟩ ⟨[(pA l)]⟩),(pA i),(pA g),(aN (.func 173) ⟨[]⟩ ⟨[(pA i),(pA g)]⟩),(ae b m d),(iA m),(aA (aj an ((j:Int)+1)))] u) (cB (mw (oy N a n c f l i g) o) p [(aA N),(ae a n c),(aN (.func f) ⟨[]⟩ ⟨[(pA l)]⟩),(pA i),(pA g),(aN (.func 173) ⟨[]⟩ ⟨[(pA i),(pA g)]⟩)] h))(e:Nat){j:Nat}{h:aw}(q:k e j h):cq jy (pq 40223) (uJ N a n c f l i g b m d j) h (fZ jy (pq 93) (pq 287) (RR jy (pq 287) (mw (oy N a n c f l i g) o) p (ez jy (pq 159) Q))):=
 gP (uJ N a n c f l i g b m d) k (λe j t h q=>bF (step e j t h q)) e q
variable{a:Option aF}
section
theorem VJ{a g:aw}(h:Wf a)(i:Ok a g){v:ah}{d:List ah}(o:kJ a g 3 v d){z:Int}{f:Nat}(e:g.get f=aa (.cells [aA z] 3 1 af))(k:d.length<=100000):
  ∃(b:Option aF)(n c:Nat)(u:dJ),bY au 27 27 v (sA f 1 1) g=aa (ae b n c,u)/\n=d.length+1/\kJ a (u.app g) 3 (ae b n c) (d++[aA z])/\Ok a (u.app g)/\
   (∀j B,g.get j=aa B->dV v≠aa j->(u.app g).get j=aa B)/\
   (∀j,dV (ae b n c)=aa j->g.ax<=j\/dV v=aa j)/\g.ax<=(u.app g).ax:=
 kJ.snoc fs rJ lZ h i o rfl e (by rw[jV];omega) (by omega)
theorem jR:cd au 27=aa 1:=by kernel_rfl
theorem aka:cd au 68=aa 1:=by kernel_rfl
theorem lF:Go.Ab.isAgg au 27=ak:=by kernel_rfl
theorem agH:Go.Ab.isAgg au 68=ak:=by kernel_rfl
theorem qg:au.underlying 126=aa (.slice 27):=by kernel_rfl
theorem T1:cd au 126=aa 1:=by kernel_rfl
theorem vN:Go.Ab.isAgg au 126=ak:=by kernel_rfl
theorem dD(a:Option aF)(n c:Nat):eY (ae a n c)=af:=by cases a<;>rfl
def Ei(g:aw)(k:Nat)(t:aD)(v:ah):Prop:=g.get k=aa (.cells [v] t 0 af)
theorem Ei.ok{g a:aw}{t:aD}(b:Ei g k t v)(o:Ok g a):Ei a k t v:=o.ext _ _ b
theorem Ei.ld{g:aw}{t:aD}{d:TypeDesc}(c:au.underlying t=aa d)(a:Go.Ab.isAgg au t=ak)(b:Ei g k t v):aM au t g (pA k)=aa v:=da c a b (by simp)
theorem Ei.st{g:aw}{t:aD}(d:cd au t=aa 1)(b:Ei g k t v){a:ah}(c:eY a=af)(e:a.cells = #[a]):aQ au t (pA k) a g=aa (undef,.set k (.cells [a] t 0 af)):=eu d b (by simp) c e
structure Sst(h:aw)(k7 k8 kt N:Nat)(L:List Bool)(T:List Nat)(g:aw):Prop where
 b7:Ei g k7 68 (sA kt N N)
 b8:∃tv,Ei g k8 27 tv/\kJ h g 3 tv (T.map iv)/\dV tv≠aa kt/\dV tv≠aa k7/\dV tv≠aa k8
 row:BR h kt N L g
 n7:h.ax<=k7
 n8:h.ax<=k8
 d1:k7≠kt
 d2:k8≠kt
 d3:k7≠k8
section
variable {h:aw} {k7 k8 kt N:Nat} {L:List Bool} {T:List Nat} {g:aw}
theorem ac0(w:Wf h)(a:Sst h k7 k8 kt N L T g){s:Nat}(hs:s<N)(hT:T.length<=100000):
  aW 173 [aA (s:Int),pA k7,pA k8] g (λv K=>v=av ⟨[]⟩/\((L.getD s ak=af/\Sst h k7 k8 kt N L T K)\/(L.getD s ak=ak/\Sst h k7 k8 kt N (L.set s af) (T++[s]) K))):=by
 obtain⟨X,t1,Z,I,Q,H⟩:=a.b8;obtain⟨E,U,M⟩:=a.row.get (c:=N) (x:=(s:Int)) (by omega) (by omega);rw[bn]at E U M;refine acZ s k7 k8 g _ ⟨_,_,_,a.b7.ld TQ agH,_,E,_,U,ay (λq=>?_) (λq=>?_)⟩
 ·rw[dt]at q;obtain⟨u,s1,o,F⟩:=M af w;refine⟨_,_,_,a.b7.ld TQ agH,_,E,u,s1,?_⟩;have A:Ei (u.app g) k7 68 (sA kt N N):=F _ _ a.b7 a.d1;have r:Ei (u.app g) k8 27 X:=F _ _ t1 a.d2;have S:kJ h (u.app g) 3 X (T.map iv):=Z.nY λj B t G=>F j B G (λe=>I (by rw[t,e]));generalize u.app g=m at*;obtain⟨ta,tc,rfl⟩:=S.rM;rw[aG]at*;refine⟨_,_,_,r.ld fs lF,?_⟩;have f:=o.row.ok;have p:=(Ok.refl f.wf).push (.cells [aA (s:Int)] 3 1 af);have hk:=cC m (.cells [aA (s:Int)] 3 1 af);obtain⟨b,l,i,C,a1,a2,a3,V,J,a6,a7⟩:=VJ w (f.trans p) (S.ok p) hk (by rw[aG];exact hT);refine⟨_,_,_,qi _,b,l,i,C,a1,?_⟩;have D:=J _ _ (A.ok p) Q;have n:Ei (C.app (m.push (.cells [aA (s:Int)] 3 1 af))) k8 27 _:=J _ _ (r.ok p) H;have W:=J _ _ (p.ext _ _ o.row.row) I;have x0:m.ax<=(m.push (.cells [aA (s:Int)] 3 1 af)).ax:=fJ _;have Y:=f.wf _ _ A;have O:=f.wf _ _ r;have lt:=o.row.lt;generalize m.push (.cells [aA (s:Int)] 3 1 af)=gp at*;generalize C.app gp=k at*;refine⟨_,n.st jR (dD _ _ _) rfl,rfl,.inr ⟨q,?_⟩⟩;have P:Ok h ((dJ.set k8 (.cells [ae b l i] 27 0 af)).app k):=V.set _ a.n8 (V.wf _ _ n) w;have d:∀j,j≠k8->((dJ.set k8 (.cells [ae b l i] 27 0 af)).app k).get j=k.get j:=λj t=>by
   show(k.set k8 _).get j=_;rw[aw.bZ,iN t]
  have y:((dJ.set k8 (.cells [ae b l i] 27 0 af)).app k).get k8=aa (.cells [ae b l i] 27 0 af):=by
   show(k.set k8 _).get k8=_;rw[aw.bZ,iP rfl]
  have z:∀j,dV (ae ta T.length tc)≠aa j->j<m.ax->dV (ae b l i)≠aa j:=λj h1 h2 e=>by
   rcases a6 j e with R|R
   ·omega
   ·exact h1 R
  refine⟨?_,⟨_,y,?_,z _ I lt,z _ Q Y,z _ H O⟩,⟨o.len,?_,o.row.new,P⟩,a.n7,a.n8,a.d1,a.d2,a.d3⟩
  ·show _=_;rw[d _ a.d3];exact D
  ·rw[bU];exact a3.nY λj B t G=>by rw[d j (λe=>z _ H O (by rw[t,e]))];exact G
  ·rw[d _ (λe=>a.d2 e.symm)];exact W
 ·rw[eC]at q;exact⟨rfl,.inl ⟨q,a⟩⟩
def OD(g:aw)(a:Option aF)(N c:Nat)(A:List (List Nat)):Prop:=A.length=N/\∃e:List ah,Rd g 27 (ae a N c) e/\e.length=N/\∀(i:Nat)(l:List Nat),A[i]?=aa l->∃(b:Option aF)(m d:Nat),e[i]?=aa (ae b m d)/\Rd g 3 (ae b m d) (l.map iv)
theorem OD.ok{g e:aw}{N c:Nat}{A:List (List Nat)}(r:OD g a N c A)(o:Ok g e):OD e a N c A:=by
 obtain⟨n,f,p,j,q⟩:=r;exact⟨n,f,p.ok o,j,λi l k=>let⟨b,m,d,h,s⟩:=q i l k;⟨b,m,d,h,s.ok o⟩⟩
theorem OD.K1{h g:aw}{N c:Nat}{A:List (List Nat)}(r:OD h a N c A)(o:Ok h g){i:Nat}{l:List Nat}(e:A[i]?=aa l):
  ∃(p:aF)(b:Option aF)(m d:Nat),aZ au 126 (ae a N c) (aA (i:Int))=aa (bN p)/\aM au 27 g (bN p)=aa (ae b m d)/\Rd h 3 (ae b m d) (l.map iv):=by
 obtain⟨w,u,n,v,q⟩:=r;obtain⟨b,m,d,j,t⟩:=q i l e;have x:=(List.getElem?_eq_some_iff.1 e).1;obtain⟨p,s,f⟩:=(n.ok o).at_ qg jR fs lF (k:= an) (i:=(i:Int)) (by omega) (by omega);rw[bn,gD,j]at f;exact⟨p,b,m,d,s,f,t⟩
def Mt(h:aw)(f c:Nat)(A:List (List Nat)):Prop:=dj f YB=af/\∀(g:aw),Ok h g->∀(s:Nat)(l:List Nat),A[s]?=aa l->aW f [aA (s:Int),pA c] g (λv a=>∃(b:Option aF)(m d:Nat),v=ae b m d/\Rd h 3 (ae b m d) (l.map iv)/\a=g)
theorem abc{c:Nat}{A:List (List Nat)}(w:Wf h)(e:Ei h n 126 (ae a N c))(r:OD h a N c A):Mt h 133 n A:=by
 refine⟨by decide +kernel,λg o s l i=>?_⟩;obtain⟨p,b,m,d,f,k,j⟩:=r.K1 o i;exact abb s n g _ ⟨_,_,_,(e.ok o).ld qg vN,_,f,_,_,_,k,b,m,d,rfl,j,rfl⟩
theorem abe{c:Nat}{A:List (List Nat)}(w:Wf h)(e:Ei h n 126 (ae a N c))(r:OD h a N c A):Mt h 134 n A:=by
 refine⟨by decide +kernel,λg o s l i=>?_⟩;obtain⟨p,b,m,d,f,k,j⟩:=r.K1 o i;exact abd s n g _ ⟨_,_,_,(e.ok o).ld qg vN,_,f,_,_,_,k,b,m,d,rfl,j,rfl⟩
def J5(A:List (List Nat))(y x:Nat):Prop:=x∈A.getD y []
end
end
section
theorem atG{h:aw}{a:Option aF}{n c:Nat}{l:List Nat}(r:Rd h 3 (ae a n c) (l.map iv)){i:Nat}{x:Nat}(d:l[i]?=aa x):∃p:aF,aZ au 27 (ae a n c) (aA (i:Int))=aa (bN p)/\aM au 3 h (bN p)=aa (aA (x:Int)):=by
 have f:=(List.getElem?_eq_some_iff.1 d).1;obtain⟨p,e,b⟩:=r.at_ fs wu rk ri (k:= an) (i:=(i:Int)) (by omega) (by rw[aG];omega);rw[bn,gD,getElem?_map,d]at b;exact⟨p,e,b⟩
theorem abQ{h:aw}{a:Option aF}{n c:Nat}{l:List Nat}(r:Rd h 3 (ae a n c) (l.map iv)):n=l.length:=by have:=r.len;rwa[aG]at this
theorem YP{T:List Nat}(h:0<T.length):∃s,T[T.length-1]?=aa s/\(∀x∈T.take (T.length-1),x∈T)/\(∀x∈T,x∈T.take (T.length-1)\/x=s)/\s∈T:=by
 obtain⟨s,c⟩:∃s,T[T.length-1]?=aa s:=⟨_,gE (by omega)⟩
 have e:T=T.take (T.length-1)++[s]:=by
  have a:(T.take (T.length-1+1))=T:=bm (by omega);rw[eI,c]at a;exact a.symm
 refine⟨s,c,λx b=>dN b,λx b=>?_,aI c⟩;rw[e]at b;rcases bH.1 b with a|a
 ·exact .inl a
 ·rw[aX]at a;exact .inr a
structure Sq(h:aw)(E:Nat->Nat->Prop)(F:List Nat)(k7 k8 kt N:Nat)(ex:Nat->Prop)(L:List Bool)(T:List Nat)(g:aw):Prop where
 st:Sst h k7 k8 kt N L T g
 inv:pL E (· ∈F) N L T ex
 bd:2*fO L+T.length<=2*N
section
variable {h:aw} {E:Nat->Nat->Prop} {F:List Nat} {k7 k8 kt N:Nat} {ex:Nat->Prop} {L:List Bool} {T:List Nat} {g:aw}
theorem Re(w:Wf h)(o:N<=1000)(q:Sq h E F k7 k8 kt N ex L T g){s:Nat}(b:s<N)(l:lD E (· ∈F) s):
  aW 173 [aA (s:Int),pA k7,pA k8] g (λv e=>v=av ⟨[]⟩/\∃a i,Sq h E F k7 k8 kt N ex a i e/\(∀x,L.getD x ak=af->a.getD x ak=af)/\a.getD s ak=af/\2*fO a+i.length<=2*fO L+T.length):=by
 have m:=q.bd;refine(ac0 w q.st b (by omega)).mono ?_;rintro _ e ⟨rfl,⟨c,d⟩|⟨c,d⟩⟩
 ·exact⟨rfl,L,T,⟨d,q.inv,q.bd⟩,λ_ h=>h,c,aS _⟩
 ·obtain⟨j,n⟩:=q.inv.see b l c;have f:s<L.length:=by rw[q.inv.len];exact b
  refine⟨rfl,_,_,⟨d,j,?_⟩,λx k=>?_,?_,?_⟩
  ·rw[bg,bw];omega
  ·rw[jr f];split
   ·rfl
   ·exact k
  ·rw[jr f,iP rfl]
  ·rw[bg,bw];omega
theorem Sst.put(w:Wf h)(a:Sst h k7 k8 kt N L T g){o:List Nat}{b:Option aF}{m d:Nat}(v:kJ h g 3 (ae b m d) (o.map iv))(r:∀i,Ei g k8 27 i->dV (ae b m d)=dV i):
  ∃u:dJ,aQ au 27 (pA k8) (ae b m d) g=aa (undef,u)/\Sst h k7 k8 kt N L o (u.app g)/\Ok h (u.app g):=by
 obtain⟨i,n,y,x,s,p⟩:=a.b8;have e:=r i n;refine⟨_,n.st jR (dD _ _ _) rfl,?_⟩;have q:=a.row.row.ok;have k:Ok h ((dJ.set k8 (.cells [ae b m d] 27 0 af)).app g):=q.set _ a.n8 (q.wf _ _ n) w;have f:∀j,j≠k8->((dJ.set k8 (.cells [ae b m d] 27 0 af)).app g).get j=g.get j:=λj l=>by
  show(g.set k8 _).get j=_;rw[aw.bZ,iN l]
 refine⟨⟨?_,⟨ae b m d,?_,v.nY λj B l t=>by rw[f j (λc=>p (by rw[<-e,l,c]))];exact t,by rw[e];exact x,by rw[e];exact s,by rw[e];exact p⟩,⟨a.row.len,?_,a.row.row.new,k⟩,a.n7,a.n8,a.d1,a.d2,a.d3⟩,k⟩
 ·show _=_;rw[f _ a.d3];exact a.b7
 ·show(g.set k8 _).get k8=_;rw[aw.bZ,iP rfl]
 ·rw[f _ (λc=>a.d2 c.symm)];exact a.row.row.row
end
section
variable {h:aw} {N:Nat} {A:List (List Nat)} {f kn:Nat} {a:Option aF} {n c:Nat} {F:List Nat} {k7 k8 kt:Nat}
def sI1(h:aw)(A:List (List Nat))(F:List Nat)(k7 k8 kt N n:Nat)(a i:Nat)(g:aw):Prop:=i<=n/\a=n-i/\∃L T,Sq h (J5 A) F k7 k8 kt N (λ_=>False) L T g/\∀x∈F.take i,L.getD x ak=af
def sI2(h:aw)(A:List (List Nat))(F:List Nat)(k7 k8 kt N:Nat)(a b:Nat)(g:aw):Prop:=∃L T,Sq h (J5 A) F k7 k8 kt N (λ_=>False) L T g/\(∀x∈F,L.getD x ak=af)/\2*fO L+T.length<=a
def sI3(h:aw)(A:List (List Nat))(F:List Nat)(k7 k8 kt N:Nat)(l:List Nat)(s m a:Nat)(b j:Nat)(g:aw):Prop:=j<=m/\b=m-j/\∃L T,Sq h (J5 A) F k7 k8 kt N (λy=>y=s) L T g/\(∀x∈F,L.getD x ak=af)/\2*fO L+T.length+1<=a/\(∀z∈l.take j,L.getD z ak=af)/\lD (J5 A) (· ∈F) s
def sQ(h:aw)(A:List (List Nat))(F:List Nat)(N:Nat):VH:=λv a=>∃kt L,v=sA kt N N/\BR h kt N L a/\∀x,L.getD x ak=af↔lD (J5 A) (· ∈F) x
set_option linter.defProp false in
def afk(w:Wf h)(R:N<=1000)(D:∀l∈A,∀x∈l,x<N){s:Nat}{l:List Nat}(t:A[s]?=aa l)(X:l.length<=100000){b:Option aF}{m d:Nat}(I:Rd h 3 (ae b m d) (l.map iv))(e:Nat)(Y:0<e):=
 D2 (N:Int) a n c f kn k7 k8 b m d (sI2 h A F k7 k8 kt N) e (sI3 h A F k7 k8 kt N l s m e) (sQ h A F N) (by
  intro G j;intros;rename_i g E;obtain⟨f1,f2,L,T,q,J,W,C,K⟩:=E;have Z:=abQ I;refine ay (λk=>?_) (λk=>?_)
  ·have k:=dT k;obtain⟨x,v⟩:∃x,l[j]?=aa x:=⟨_,gE (by omega)⟩
   obtain⟨p,O,U⟩:=atG (I.ok q.st.row.row.ok) v;have r:=aI v;have u:J5 A s x:=by
    show x∈A.getD s [];rw[gD,t];exact r
   refine⟨_,O,_,U,(Re w R q (D l (aI t) x r) (.step K u)).mono ?_⟩;rintro _ g2 ⟨rfl,M,P,Q,H,S,h3⟩;refine⟨rfl,?_⟩;rw[cL (i:=j) (n:=m) (by omega) (by omega)];refine fG (G-1) (by omega) ⟨by omega,by omega,M,P,Q,λy V=>H y (J y V),by omega,λz o=>?_,K⟩;rw[eI,v]at o;rcases bH.1 o with B|B
   ·exact H z (C z B)
   ·have:z=x:=by simpa using B
    rw[this];exact S
  ·have k:=dF k;rw[bm (by omega)]at C;refine fG (e-1) (a:=0) (by omega) ⟨L,T,⟨q.st,q.inv.done λz u=>C z ?_,q.bd⟩,J,by omega⟩;have:z∈A.getD s []:=u;rw[gD,t]at this;exact this)
set_option linter.defProp false in
def afl(w:Wf h)(W:N<=1000)(hA:A.length=N)(t:∀l∈A,∀x∈l,x<N)(M:∀l∈A,l.length<=100000)(I:Mt h f kn A):=
 D1 (N:Int) a n c f kn k7 k8 (sI2 h A F k7 k8 kt N) (sQ h A F N) (by
  intro B dm;intros;rename_i g y;obtain⟨L,T,q,K,x0⟩:=y;obtain⟨tv,e,o,t3,t4,t5⟩:=q.st.b8;obtain⟨V,tc,k⟩:=o.rM;rw[aG]at k;subst k;refine⟨_,_,_,e.ld fs lF,ay (λi=>?_) (λi=>?_)⟩
  ·have i:=dT i;obtain⟨s,R,p1,Q,J⟩:=YP (T:=T) (by omega);have hb:=q.bd;have E:aj an ((T.length:Int)-1)=((T.length-1:Nat):Int):=by rw[cj (by omega) (by omega)];omega
   obtain⟨p,P,e2⟩:=atG o.rd R;refine⟨_,_,_,e.ld fs lF,_,_,_,e.ld fs lF,p,by rw[E];exact P,_,e2,_,_,_,e.ld fs lF,_,_,_,e.ld fs lF,?_⟩;dsimp only;rw[E];obtain⟨b,m,d,x1,C,x3⟩:=o.upto fs wu (z:=T.length-1) (by rw[aG];omega) (by rw[aG];omega);rw[<-List.map_take]at C;obtain⟨u,Y,O,S⟩:=q.st.put w C (λD v=>by
    have:ae V T.length tc=D:=by
     have:=e.symm.trans v;injection this with this;injection this with this;injection this with this
    rw[<-this];exact x3)
   refine⟨b,m,d,x1,u,Y,aj8 I.1 ?_⟩;have x4:=(q.inv.tin s J).1;obtain⟨l,r⟩:∃l,A[s]?=aa l:=⟨_,gE (by omega)⟩
   refine(I.2 _ S s l r).mono ?_;rintro _ g2 ⟨Z,G,U,rfl,X,rfl⟩;refine⟨Z,G,U,rfl,?_⟩;have x5:(T.take (T.length-1)).length=T.length-1:=by rw[bo];omega
   exact afk w W t r (M l (aI r)) X B (by omega) G (j:=0) ⟨by omega,by omega,L,T.take (T.length-1),⟨O,q.inv.take p1 Q,by omega⟩,K,by omega,λz H=>(by rw[dU]at H;cases H),q.inv.snd s (q.inv.tin s J).2⟩
  ·have i:=dF i;obtain rfl:T=[]:=aY (by omega);exact⟨_,_,_,q.st.b7.ld TQ agH,kt,L,rfl,q.st.row,q.inv.final K⟩)
theorem LW(w:Wf h)(D:N<=1000)(Y:A.length=N)(y:∀l∈A,∀x∈l,x<N)(H:∀l∈A,l.length<=100000)(V:Mt h f kn A)(G:Rd h 3 (ae a n c) (F.map iv))(X:∀x∈F,x<N)(x0:F.length<=100000):
  aW 132 [aA (N:Int),ae a n c,aN (.func f) ⟨[]⟩ ⟨[pA kn]⟩] h (sQ h A F N):=by
 have m:=BR.new w N;have j:cD au 68=aa (.cells [nA] 68 0 af,jL):=by kernel_rfl
 have k:cD au 27=aa (.cells [nA] 27 0 af,jL):=by kernel_rfl
 refine YE (N:Int) a n c f kn h _ ⟨_,_,_,Xj N (by omega),_,j,?_⟩;have t:=m.row.ok;have x1:=m.row.lt;have n0:=m.row.new;generalize h.push (.cells ((aH N ak).map ai) 4 1 af)=d at*;have J:=(Ok.refl t.wf).push (.cells [nA] 68 0 af);have C:Ei (d.push (.cells [nA] 68 0 af)) d.ax 68 nA:=cC d _;refine⟨_,C.st aka (dD _ _ _) rfl,_,k,?_⟩;obtain⟨o,B⟩:=qO (cs:=[sA h.ax N N]) t.wf J C (aS _);generalize (dJ.set d.ax (.cells [sA h.ax N N] 68 0 af)).app (d.push (.cells [nA] 68 0 af))=b at*;have E:=(Ok.refl o.wf).push (.cells [nA] 27 0 af);have Z:Ei (b.push (.cells [nA] 27 0 af)) b.ax 27 nA:=cC b _;have l1:=o.nx;have l2:=o.wf _ _ B;have l0:=t.nx;have U:Sst h d.ax b.ax h.ax N (aH N ak) [] (b.push (.cells [nA] 27 0 af)):=
  ⟨Ei.ok (show Ei b d.ax 68 _ from B) E,⟨_,Z,kJ.nil _ _ _,by simp[dV],by simp[dV],by simp[dV]⟩,(m.trans o).trans E,by omega,by omega,by omega,by omega,by omega⟩
 generalize b.push (.cells [nA] 27 0 af)=g2 at*;have hc:fO (aH N ak)=N:=by simp[fO]
 refine D0 (N:Int) a n c f kn d.ax b.ax (sI1 h A F d.ax b.ax h.ax N n) (sQ h A F N) (λK i=>?_) n (i:=0) ⟨by omega,rfl,_,_,⟨U,BC N _,by rw[hc];simp⟩,λx e=>(by rw[dU]at e;cases e)⟩;intros;rename_i gg S;obtain⟨f1,f2,L,T,q,v⟩:=S;have hn:=abQ G;refine ay (λg=>?_) (λg=>?_)
 ·have g:=dT g;obtain⟨x,e⟩:∃x,F[i]?=aa x:=⟨_,gE (by omega)⟩
  obtain⟨p,M,W⟩:=atG (G.ok q.st.row.row.ok) e;have s:=aI e;refine⟨_,M,_,W,(Re w D q (X x s) (.base s)).mono ?_⟩;rintro _ g3 ⟨rfl,I,O,Q,P,R,h3⟩;refine⟨rfl,?_⟩;rw[cL (i:=i) (n:=n) (by omega) (by omega)];refine fG (K-1) (by omega) ⟨by omega,by omega,I,O,Q,λz r=>?_⟩;rw[eI,e]at r;rcases bH.1 r with u|u
  ·exact P z (v z u)
  ·have:z=x:=by simpa using u
   rw[this];exact R
 ·have g:=dF g;rw[bm (by omega)]at v;exact afl w D Y y H V (2*fO L+T.length) (show sI2 _ _ _ _ _ _ _ _ 0 _ from⟨L,T,q,v,aS _⟩)
end
end
variable{j:Nat}
section
theorem cX{l:List A}{x y:A}(h:(l.set i x)[j]?=aa y):(j=i/\y=x)\/(j≠i/\l[j]?=aa y):=by
 rw[getElem?_set]at h;split at h
 ·next e=>
  split at h
  ·exact .inl ⟨e.symm,(aC h).symm⟩
  ·cases h
 ·next e=>exact .inr ⟨λc=>e c.symm,h⟩
structure RC(hb g:aw)(X:Nat->Prop)(vs:List ah)(F:List (List Nat)):Prop where
 len:vs.length=F.length
 own:∀(i:Nat)(v:ah)(l:List Nat),vs[i]?=aa v->F[i]?=aa l->kJ hb g 3 v (l.map iv)
 Oy:∀(i j:Nat)(v v':ah),i≠j->vs[i]?=aa v->vs[j]?=aa v'->∀k,dV v=aa k->dV v'≠aa k
 out:∀(i:Nat)(v:ah),vs[i]?=aa v->∀k,dV v=aa k->¬X k
section
variable {hb g:aw} {X:Nat->Prop} {vs:List ah} {F:List (List Nat)}
theorem RC.nY(f:RC hb g X vs F){a:aw}(h:∀(k:Nat) (B:eE),¬X k->g.get k=aa B->a.get k=aa B):RC hb a X vs F:=
 ⟨f.len,λi v l b d=>(f.own i v l b d).nY λk B e c=>h k B (f.out i v b k e) c,f.Oy,f.out⟩
theorem RC.ok(f:RC hb g X vs F){a:aw}(o:Ok g a):RC hb a X vs F:=f.nY λk B _ b=>o.ext k B b
theorem RC.at_(f:RC hb g X vs F){i:Nat}{l:List Nat}(d:F[i]?=aa l):∃(a:Option aF)(c:Nat),vs[i]?=aa (ae a l.length c)/\kJ hb g 3 (ae a l.length c) (l.map iv):=by
 have e:=(List.getElem?_eq_some_iff.1 d).1;obtain⟨v,b⟩:∃v,vs[i]?=aa v:=⟨_,gE (by rw[f.len];exact e)⟩
 have o:=f.own i v l b d;obtain⟨a,c,rfl⟩:=o.rM;rw[aG]at*;exact⟨a,c,b,o⟩
theorem RC.snoc(w:Wf hb)(O:Ok hb g)(f:RC hb g X vs F)(T:∀k,X k->k<g.ax){a:Nat}{v:ah}{l:List Nat}(t:vs[a]?=aa v)(S:F[a]?=aa l){x:Nat}{P:Nat}(I:g.get P=aa (.cells [aA (x:Int)] 3 1 af))(M:l.length<=100000):
  ∃(b:Option aF)(n c:Nat)(u:dJ),bY au 27 27 v (sA P 1 1) g=aa (ae b n c,u)/\n=l.length+1/\RC hb (u.app g) X (vs.set a (ae b n c)) (F.set a (l++[x]))/\Ok hb (u.app g)/\
   (∀j B,g.get j=aa B->dV v≠aa j->(u.app g).get j=aa B)/\g.ax<=(u.app g).ax:=by
 have R:=f.own a v l t S;obtain⟨b,n,c,u,Y,K,U,V,N,E,W⟩:=VJ w O R I (by rw[aG];exact M);rw[aG]at K;refine⟨b,n,c,u,Y,K,⟨by rw[bT,bT];exact f.len,λi A l' y C=>?_,λi j G p D h d k r m=>?_,λi A y k z s=>?_⟩,V,N,W⟩
 ·rcases cX y with⟨e,rfl⟩|⟨e,h⟩
  ·rcases cX C with⟨_,rfl⟩|⟨o,_⟩
   ·rw[bU];exact U
   ·exact absurd e o
  ·rcases cX C with⟨o,_⟩|⟨_,d⟩
   ·exact absurd o e
   ·exact(f.own i A l' h d).nY λk B z Q=>N k B Q λc=>f.Oy i a A v e h t k z c
 ·have J:∀(j:Nat)(p:ah),vs[j]?=aa p->dV p=aa k->k<g.ax:=λj p d m=>by
   obtain⟨H,L⟩:∃H,F[j]?=aa H:=⟨_,gE (by rw[<-f.len];exact(List.getElem?_eq_some_iff.1 d).1)⟩
   exact((f.own j p H d L).lt O.wf m).1
  rcases cX h with⟨e,rfl⟩|⟨e,h⟩
  ·rcases cX d with⟨o,_⟩|⟨o,d⟩
   ·exact D (by rw[e,o])
   ·rcases E k r with q|q
    ·have:=J j p d m;omega
    ·exact f.Oy a j v p (λc=>o c.symm) t d k q m
  ·rcases cX d with⟨o,rfl⟩|⟨o,d⟩
   ·rcases E k m with q|q
    ·have:=J i G h r;omega
    ·exact f.Oy a i v G (λc=>e c.symm) t h k q r
   ·exact f.Oy i j G p D h d k r m
 ·rcases cX y with⟨e,rfl⟩|⟨e,h⟩
  ·rcases E k z with q|q
   ·have:=T k s;omega
   ·exact f.out a v t k q s
  ·exact f.out i A h k z s
end
structure Us(hb:aw)(R:Nat)(kt:Nat->Nat)(N:Nat)(X:Nat->Prop)(vs:List ah)(F:List (List Nat))(g:aw):Prop where
 cc:∀r,r<R->g.get (kt r)=aa (.cells ((vs.drop (r*N)).take N) 27 1 af)
 BN:RC hb g X vs F
 ok:Ok hb g
 len:F.length=R*N+1
 xt:∀r,r<R->X (kt r)/\hb.ax<=kt r
 inj:∀r r',r<R->r'<R->r≠r'->kt r≠kt r'
 Y8:∀k,X k->k<g.ax
section
variable {hb g:aw} {R:Nat} {kt:Nat->Nat} {N:Nat} {X:Nat->Prop} {vs:List ah} {F:List (List Nat)}
theorem Us.ext(s:Us hb R kt N X vs F g){a:aw}(o:Ok g a):Us hb R kt N X vs F a:=
 ⟨λr c=>o.ext _ _ (s.cc r c),s.BN.ok o,s.ok.trans o,s.len,s.xt,s.inj,λk b=>cz (s.Y8 k b) o.nx⟩
theorem TL(a:n<R)(b:i<N):n*N+i<R*N+1:=by
 have:(n+1)*N<=R*N:=bJ _ a;rw[cM,dw]at this;omega
theorem Us.ld(s:Us hb R kt N X vs F g){r i:Nat}(o:r<R)(m:i<N):∃(l:List Nat)(a:Option aF)(c:Nat),F[r*N+i]?=aa l/\vs[r*N+i]?=aa (ae a l.length c)/\aZ au 126 (sA (kt r) N N) (aA (i:Int))=aa (cn (kt r) i)/\∀b,Us hb R kt N X vs F b->aM au 27 b (cn (kt r) i)=aa (ae a l.length c)/\Rd b 3 (ae a l.length c) (l.map iv):=by
 have f:=TL o m;obtain⟨l,e⟩:∃l,F[r*N+i]?=aa l:=⟨_,gE (by rw[s.len];exact f)⟩
 obtain⟨a,c,d,_⟩:=s.BN.at_ e;refine⟨l,a,c,e,d,?_,λb h=>⟨?_,?_⟩⟩
 ·have:=Gw (P:=au) qg jR (k:=kt r) (off:=0) (n:=N) (c:=N) (ik:= an) (i:=(i:Int)) (by omega) (by omega);rw[this,bn,bO,df]
 ·have j:((vs.drop (r*N)).take N)[i]?=aa (ae a l.length c):=by rw[getElem?_take,iP m,getElem?_drop];exact d
  rw[da fs lF (h.cc r o) (List.getElem?_eq_some_iff.1 j).1,gD,j];rfl
 ·exact(h.BN.own _ _ _ d e).rd
theorem Ka(vs:List A)(o N i:Nat)(x:A)(a:i<N):((vs.set (o+i) x).drop o).take N=((vs.drop o).take N).set i x:=by
 rw[List.drop_set,iN (by omega),show o+i-o=i by omega,List.take_set]
theorem wP(vs:List A)(o N j:Nat)(x:A)(h:j<o\/o+N<=j):((vs.set j x).drop o).take N=(vs.drop o).take N:=by
 apply cV;intro i;rw[getElem?_take,getElem?_take,getElem?_drop,getElem?_drop];split
 ·rw[getElem?_set,iN (by omega)]
 ·rfl
theorem Us.put(w:Wf hb)(s:Us hb R kt N X vs F g){r i:Nat}(f:r<R)(z:i<N){h:List ah}{q:List (List Nat)}{b:Option aF}{n c:Nat}{l':List Nat}(x:h=vs.set (r*N+i) (ae b n c))(E:q=F.set (r*N+i) l'){a:aw}(I:RC hb a X h q)(o:Ok hb a)(A:∀j B,g.get j=aa B->X j->a.get j=aa B)(D:g.ax<=a.ax):
  ∃u:dJ,aQ au 27 (cn (kt r) i) (ae b n c) a=aa (undef,u)/\Us hb R kt N X h q (u.app a)/\(∀j B,a.get j=aa B->j≠kt r->(u.app a).get j=aa B):=by
 have C:=A _ _ (s.cc r f) (s.xt r f).1;have K:=TL f z;have H:i<((vs.drop (r*N)).take N).length:=by
  have p:(R*N+1)=vs.length:=by rw[s.BN.len,s.len]
  have J:(r+1)*N<=R*N:=bJ _ f;rw[cM,dw]at J;rw[bo,cQ];omega
 refine⟨_,eu jR C H (dD _ _ _) rfl,?_,λj B v y=>?_⟩
 ·have m:∀j,j≠kt r->((dJ.set (kt r) (.cells (((vs.drop (r*N)).take N).set i (ae b n c)) 27 1 af)).app a).get j=a.get j:=λj v=>by
   show(a.set (kt r) _).get j=_;rw[aw.bZ,iN v]
  refine⟨λd l=>?_,I.nY λk B t G=>?_,o.set _ (s.xt r f).2 (o.wf _ _ C) w,by rw[E,bT];exact s.len,s.xt,s.inj,λk t=>cz (s.Y8 k t) D⟩
  ·by_cases e:d=r
   ·subst e;show(a.set (kt d) _).get (kt d)=_;rw[aw.bZ,iP rfl,x,Ka _ _ _ _ _ z]
   ·rw[m _ (s.inj d r l f e),A _ _ (s.cc d l) (s.xt d l).1,x,wP];rcases de r d with p|p
    ·have:=bJ N (show r+1<=d from p);rw[cM,dw]at this;exact .inl (by omega)
    ·have:=bJ N (show d+1<=r by omega);rw[cM,dw]at this;exact .inr (by omega)
  ·rw[m k (λc=>t (c▸(s.xt r f).1))];exact G
 ·show(a.set (kt r) _).get j=_;rw[aw.bZ,iN y];exact v
theorem Us.adj(s:Us hb R kt N X vs F g){r:Nat}(e:r<R):OD g (aa ⟨kt r,0,none⟩) N N ((F.drop (r*N)).take N):=by
 have h:(r+1)*N<=R*N:=bJ _ e;rw[cM,dw]at h;have n:=s.len;have m:=s.BN.len;have d:((vs.drop (r*N)).take N).length=N:=by rw[bo,cQ];omega
 refine⟨by rw[bo,cQ];omega,(vs.drop (r*N)).take N,.inr ⟨kt r,0,_,N,af,by rw[d],s.cc r e,by rw[bV,dX]⟩,d,λi l b=>?_⟩;rw[getElem?_take]at b;split at b
 ·next k=>
  rw[getElem?_drop]at b;obtain⟨a,c,f,j⟩:=s.BN.at_ b;exact⟨a,_,c,by rw[getElem?_take,iP k,getElem?_drop];exact f,j.rd⟩
 ·cases b
end
theorem xe{g:aw}(w:Wf g){n j:Nat}(a:j<n)(B:eE):Ok g (bS (Go.Ab.room g n) g.ax [(j,B)])/\(bS (Go.Ab.room g n) g.ax [(j,B)]).get (g.ax+j)=aa B:=by
 refine⟨((Ok.refl w).room n).set B (dg _ _) (Nat.add_lt_add_left a _) w,?_⟩;show((Go.Ab.room g n).set (g.ax+j) B).get (g.ax+j)=_;rw[aw.bZ,iP rfl]
end
noncomputable def gQ:FD:=gT Tryz.f96 [((pq 303),[1,2,3,4,5,6,22,23,24]),((pq 160559),[1,2,3,4,5,6,7,8,22,23,24,37,38,39]),((pq 1215),[11,77,78,79])]
abbrev mg(k f g:Nat)(a:OA)(n c:Nat)(i:Nat)(e:OA)(b d:Nat):LV:=[(pA k),nA,(iA n),(pA f),(pA g),(ae e b d),(ae a n c),(iA n),(iA i)]
abbrev oA(k l o:Nat)(a:OA)(n c f:Nat)(e:OA)(g h:Nat)(b:OA)(m d i:Nat)(j:Nat):LV:=[(pA k),nA,(iA n),(pA l),(pA o),(ae e g h),(iA i),(pA f),(ae a n c),(iA n),(iA i),(ae b m d),(iA m),(iA j)]
abbrev rh(n a b:Nat)(i:Nat):LV:=[(sA a n n),(sA b n n),(iA n),(iA i)]
theorem YW(j:LV)(h:aw)(Q:VH)(q:xN (iF au 24 (aq ⟨j⟩)) h λu a=>mh 24 (pA (h.ax)) 3 22 a λv b w=>zR (cK au 126 (iA b) (iA b)) λl r p=>zR (cK au 126 (iA b) (iA b)) λd m o=>zN (cD au 126) λc=>zN (cD au 126) λi=>xU (aQ au 126 (pA (a.ax+4)) (sA (a.ax+1) r p) (bS (room a 8) a.ax [(5,i),(4,c),(1,l)])) (bS (room a 8) a.ax [(5,i),(4,c),(1,l)]) λt f=>xU (aQ au 126 (pA (a.ax+5)) (sA (a.ax+3) m o) (bS f a.ax [(3,d)])) (bS f a.ax [(3,d)]) λs e=>mh 24 (pA (h.ax)) 3 22 e λn g k=>cq gQ (pq 303) [(pA (h.ax)),nA,(iA b),(pA (a.ax+4)),(pA (a.ax+5)),nA,(ae n g k),(iA g),(aA 0)] e (ez gQ (pq 175) Q)):aW 96 [(aq ⟨j⟩)] h Q:=gZ gQ Tryz.func96 (bF q)
theorem Eb(Y:LV)(k g j:Nat)(a:OA)(n c:Nat)(b:Nat->Nat->OA->Nat->Nat->aw->Prop)(Q:VH)(step:∀(d:Nat) (i:Nat) (e:OA) (en ec:Nat) (G:Nat->ah) (h:aw),b d i e en ec h->cp (decide ((i:Int)<(n:Int))) (qX xA 22 (ae a n c) (iA i) 44 h λN=>xN (cD au 44) h λV o=>xU (aQ au 44 (pA (h.ax)) (aq ⟨N⟩) o) o λT f=>qF xS 44 (pA (h.ax)) 0 9 f λF=>cp (!((F:LB)==[])) (xR (bC au 27 1 [(0,(iA i))]) f λW S L l=>xE (bY au 27 27 (ae e en ec) (sA (f.ax) S L) l) l λt s E X m=>mh 44 (pA (h.ax)) 1 42 m λu v R=>cq gQ (pq 160559) (oA k g j a n c (h.ax) t s E u v R i 0) m (fZ gQ (pq 371) (pq 303) (RR gQ (pq 303) (sk (mg k g j a n c) b) d (ez gQ (pq 175) Q)))) (mh 44 (pA (h.ax)) 1 42 f λI B K=>cq gQ (pq 160559) (oA k g j a n c (h.ax) e en ec I B K i 0) f (fZ gQ (pq 371) (pq 303) (RR gQ (pq 303) (sk (mg k g j a n c) b) d (ez gQ (pq 175) Q))))) (ky 24 (pA k) 1 h λM=>xR (bC au 27 1 [(0,(aA M))]) h λU H J O=>aW 132 [(iA n),(sA (h.ax) H J),(aN (.func 133) ⟨[]⟩ ⟨[(pA g)]⟩)] O λr x=>yL r λy D A=>aW 132 [(iA n),(ae e en ec),(aN (.func 134) ⟨[]⟩ ⟨[(pA j)]⟩)] x λz C=>yL z λP p w=>cq gQ (pq 1215) [(ae y D A),(ae P p w),(iA p),(aA 0)] C (ez gQ (pq 703) Q)))(d:Nat){i:Nat}{e:OA}{en ec:Nat}{h:aw}(q:b d i e en ec h):cq gQ (pq 303) (mg k g j a n c i e en ec) h (ez gQ (pq 175) Q):=
 uD (mg k g j a n c) b (λd i e en ec G h q=>bF (step d i e en ec G h q)) d q
theorem Ec(mv:LV)(k o p:Nat)(a:OA)(n c:Nat)(D:Nat)(e:OA)(A B:Nat)(b:OA)(m d:Nat)(F:Nat->Nat->OA->Nat->Nat->aw->Prop)(Y i:Nat)(r:Nat->Nat->aw->Prop)(Q:VH)(step:∀(l:Nat) (j:Nat) (zz:Nat->ah) (h:aw),r l j h->cp (decide ((j:Int)<(m:Int))) (qX xA 42 (ae b m d) (iA j) 46 h λy1=>xN (cD au 46) h λy7 E=>xU (aQ au 46 (pA (h.ax)) (aq ⟨y1⟩) E) E λy6 g=>xL (aM au 126 (room g 12) (pA o)) λv s w=>xL (aM au 126 (room g 12) (pA o)) λx9 x7 x8=>qX xL 126 (ae x9 x7 x8) (iA i) 27 (room g 12) λx2 x6 Z=>ky 46 (pA (h.ax)) 3 (room g 12) λx3=>zR (bC au 27 1 [(0,(aA x3))]) λH x5 x4=>xE (bY au 27 27 (ae x2 x6 Z) (sA (g.ax+8) x5 x4) (bS (room g 12) g.ax [(8,H)])) (bS (room g 12) g.ax [(8,H)]) λx1 X y2 y8 z=>xP (aZ au 126 (ae v s w) (iA i)) λx0=>xU (aQ au 27 (bN x0) (ae x1 X y2) z) z λy5 f=>(aM au 126 z (pA o)=aa (ae v s w)/\iz 4 (ae v s w) (ae v s w)=af)/\xL (aM au 126 (room f 13) (pA p)) λu y t=>xP (bB au 46 (pA (h.ax)) 3) λG=>xI an (aM au 3 (room f 13) (bN G)) λx=>xL (aM au 126 (room f 13) (pA p)) λy0 W V=>ky 46 (pA (h.ax)) 3 (room f 13) λO=>qX xL 126 (ae y0 W V) (aA O) 27 (room f 13) λS N K=>zR (bC au 27 1 [(0,(iA i))]) λC T J=>xE (bY au 27 27 (ae S N K) (sA (f.ax+9) T J) (bS (room f 13) f.ax [(9,C)])) (bS (room f 13) f.ax [(9,C)]) λR M L y4 q=>xP (aZ au 126 (ae u y t) (aA x)) λI=>xU (aQ au 27 (bN I) (ae R M L) q) q λy3 U=>(aM au 126 q (pA p)=aa (ae u y t)/\iz 4 (ae u y t) (ae u y t)=af)/\(aM au 3 q (bN G)=aa (aA x)/\iz 4 (aA x) (aA x)=af)/\cB (mw (oA k o p a n c D e A B b m d i) r) l [(pA k),nA,(iA n),(pA o),(pA p),(ae e A B),(iA i),(pA D),(ae a n c),(iA n),(iA i),(ae b m d),(iA m),(aA (aj an ((j:Int)+1)))] U) (cB (sk (mg k o p a n c) F) Y [(pA k),nA,(iA n),(pA o),(pA p),(ae e A B),(ae a n c),(iA n),(aA (aj an ((i:Int)+1)))] h))(l:Nat){j:Nat}{h:aw}(P:r l j h):cq gQ (pq 160559) (oA k o p a n c D e A B b m d i j) h (fZ gQ (pq 371) (pq 303) (RR gQ (pq 303) (sk (mg k o p a n c) F) Y (ez gQ (pq 175) Q))):=
 gP (oA k o p a n c D e A B b m d i) r (λl j zz h P=>bF (step l j zz h P)) l P
theorem Ed(r:LV)(n c d:Nat)(b:Nat->Nat->aw->Prop)(Q:VH)(step:∀(a:Nat) (i:Nat) (o:Nat->ah) (h:aw),b a i h->cp (decide ((i:Int)<(n:Int))) (qX xB 68 (sA d n n) (iA i) 4 h λf=>qX xB 68 (sA c n n) (iA i) 4 h λe=>cp e (xP (aZ au 68 (sA c n n) (iA i)) λg=>xU (aQ au 4 (bN g) (ai f) h) h λp k=>cB (mw (rh n c d) b) a [(sA c n n),(sA d n n),(iA n),(aA (aj an ((i:Int)+1)))] k) (xP (aZ au 68 (sA c n n) (iA i)) λm=>xU (aQ au 4 (bN m) (ai ak) h) h λq l=>cB (mw (rh n c d) b) a [(sA c n n),(sA d n n),(iA n),(aA (aj an ((i:Int)+1)))] l)) (Q (sA c n n) h))(a:Nat){i:Nat}{h:aw}(j:b a i h):cq gQ (pq 1215) (rh n c d i) h (ez gQ (pq 703) Q):=
 gP (rh n c d) b (λa i o h j=>bF (step a i o h j)) a j
noncomputable def aaV:FD:=gT Tryz.f104 []
theorem Xf(e:LV)(h:aw)(Q:VH)(p:xN (iF au 24 (aq ⟨e⟩)) h λr f=>xA (aM au 24 (room f 12) (pA (h.ax))) λq=>aW 30 [(aq ⟨q⟩)] (room f 12) λl b=>yB l λm=>cp m (xA (aM au 24 b (pA (h.ax))) λn=>aW 96 [(aq ⟨n⟩)] b λo d=>yL o λg i k=>xP (bB au 24 (pA (h.ax)) 1) λc=>xI an (aM au 3 d (bN c)) λa=>qX xB 68 (ae g i k) (aA a) 4 d λj=>(aM au 3 b (bN c)=aa (aA a)/\iz 4 (aA a) (aA a)=af)/\Q (ai (!j)) d) (Q (ai ak) b)):aW 104 [(aq ⟨e⟩)] h Q:=gZ aaV Tryz.func104 (bF p)
noncomputable def vY:FD:=gT Tryz.f114 [((pq 75),[3,4,5])]
abbrev tf(n a b:Nat)(i:Nat):LV:=[(sA a n n),(sA b n n),(iA i)]
theorem Tj(c:LV)(h:aw)(Q:VH)(m:xN (iF au 24 (aq ⟨c⟩)) h λq b=>xA (aM au 24 (room b 6) (pA (h.ax))) λo=>aW 149 [(aq ⟨o⟩)] (room b 6) λk j=>yL k λl p n=>xA (aM au 24 j (pA (h.ax))) λa=>aW 150 [(aq ⟨a⟩)] j λf g=>yL f λd e i=>(aM au 24 (room b 6) (pA (h.ax))=aa (aq ⟨a⟩)/\iz 4 (aq ⟨a⟩) (aq ⟨a⟩)=af)/\cq vY (pq 75) [(ae l p n),(ae d e i),(aA 0)] g (ez vY (pq 43) Q)):aW 114 [(aq ⟨c⟩)] h Q:=gZ vY Tryz.func114 (bF m)
theorem B8(t:LV)(n a d:Nat)(c:Nat->Nat->aw->Prop)(Q:VH)(step:∀(b:Nat) (i:Nat) (l:Nat->ah) (h:aw),c b i h->(λ(j:aw->Prop)=>cp (decide ((i:Int)<(n:Int))) (qX xB 68 (sA a n n) (iA i) 4 h λm=>cp m (qX xB 68 (sA d n n) (iA i) 4 h λp=>xP (aZ au 68 (sA a n n) (iA i)) λg=>xU (aQ au 4 (bN g) (ai p) h) h λs o=>j o) (xP (aZ au 68 (sA a n n) (iA i)) λf=>xU (aQ au 4 (bN f) (ai ak) h) h λr k=>j k)) (Q (sA a n n) h)) (λq=>cB (mw (tf n a d) c) b [(sA a n n),(sA d n n),(aA (aj an ((i:Int)+1)))] q))(b:Nat){i:Nat}{h:aw}(e:c b i h):cq vY (pq 75) (tf n a d i) h (ez vY (pq 43) Q):=
 gP (tf n a d) c (λb i l h e=>bF (step b i l h e)) b e
noncomputable def jW:FD:=gT Tryz.f149 [((pq 143),[1,3,4]),((pq 20111),[1,3,4,5,6])]
abbrev mQ(k n a:Nat)(t:OA)(tn tc:Nat):LV:=[(pA k),(sA a n n),(ae t tn tc)]
abbrev pH(k n a s:Nat)(j:Nat)(t:OA)(tn tc:Nat):LV:=[(pA k),(sA a n n),(ae t tn tc),(iA s),(iA j)]
theorem Tt(e:LV)(h:aw)(Q:VH)(o:xN (iF au 24 (aq ⟨e⟩)) h λr c=>mh 24 (pA (h.ax)) 3 22 c λt d u=>xR (cK au 68 (iA d) (iA d)) c λs m f b=>ky 24 (pA (h.ax)) 1 b λj=>xP (aZ au 68 (sA (c.ax) m f) (aA j)) λk=>xU (aQ au 4 (bN k) (ai af) b) b λp a=>ky 24 (pA (h.ax)) 1 a λn=>xR (bC au 27 1 [(0,(aA n))]) a λq i g l=>cq jW (pq 143) [(pA (h.ax)),(sA (c.ax) m f),(sA (a.ax) i g)] l (ez jW (pq 79) Q)):aW 149 [(aq ⟨e⟩)] h Q:=gZ jW Tryz.func149 (bF o)
theorem Ca(l:LV)(k n c:Nat)(b:Nat->OA->Nat->Nat->aw->Prop)(Q:VH)(step:∀(a:Nat) (t:OA) (tn tc:Nat) (i:Nat->ah) (h:aw),b a t tn tc h->cp (decide ((tn:Int)>0)) (vX 27 (ae t tn tc) (aA 0) h λg=>xL (cY au 27 (ae t tn tc) (aa (aA 1)) none none h) λf e j=>cq jW (pq 20111) [(pA k),(sA c n n),(ae f e j),(aA g),(aA 0)] h (fZ jW (pq 93) (pq 143) (RR jW (pq 143) (GR (mQ k n c) b) a (ez jW (pq 79) Q)))) (Q (sA c n n) h))(a:Nat){t:OA}{tn tc:Nat}{h:aw}(d:b a t tn tc h):cq jW (pq 143) (mQ k n c t tn tc) h (ez jW (pq 79) Q):=
 Jj (mQ k n c) b (λa t tn tc i h d=>bF (step a t tn tc i h d)) a d
theorem Cb(R:LV)(k n b s:Nat)(e:Nat->OA->Nat->Nat->aw->Prop)(p:Nat)(c:Nat->Nat->OA->Nat->Nat->aw->Prop)(Q:VH)(step:∀(a:Nat) (j:Nat) (t:OA) (tn tc:Nat) (C:Nat->ah) (h:aw),c a j t tn tc h->mh 24 (pA k) 3 22 h λr w z=>ve 22 (ae r w z) (iA s) 44 1 λF=>xL (aM au 42 h (bN F)) λO u M=>cp (decide ((j:Int)<(u:Int))) (mh 24 (pA k) 3 22 h λm K I=>ve 22 (ae m K I) (iA s) 44 1 λD=>xL (aM au 42 h (bN D)) λB J A=>ve 42 (ae B J A) (iA j) 46 3 λx=>xI an (aM au 3 h (bN x)) λd=>qX xB 68 (sA b n n) (aA d) 4 h λy=>cp (!y) (xP (aZ au 68 (sA b n n) (aA d)) λl=>xU (aQ au 4 (bN l) (ai af) h) h λN f=>xR (bC au 27 1 [(0,(aA d))]) f λP o E g=>xE (bY au 27 27 (ae t tn tc) (sA (f.ax) o E) g) g λG v H L q=>cB (sk (pH k n b s) c) a [(pA k),(sA b n n),(ae G v H),(iA s),(aA (aj an ((j:Int)+1)))] q) (cB (sk (pH k n b s) c) a [(pA k),(sA b n n),(ae t tn tc),(iA s),(aA (aj an ((j:Int)+1)))] h)) (cB (GR (mQ k n b) e) p [(pA k),(sA b n n),(ae t tn tc)] h))(a:Nat){j:Nat}{t:OA}{tn tc:Nat}{h:aw}(i:c a j t tn tc h):cq jW (pq 20111) (pH k n b s j t tn tc) h (fZ jW (pq 93) (pq 143) (RR jW (pq 143) (GR (mQ k n b) e) p (ez jW (pq 79) Q))):=
 uD (pH k n b s) c (λa j t tn tc C h i=>bF (step a j t tn tc C h i)) a i
noncomputable def fj:FD:=gT Tryz.f150 [((pq 303),[1,3,4,5,6]),((pq 39215),[1,3,4,5,6,7]),((pq 287),[3,4,5]),((pq 40223),[3,4,5,9,10])]
abbrev lN(k n a b:Nat)(i:Nat)(t:OA)(tn tc:Nat):LV:=[(pA k),(sA a n n),(sA b n n),(ae t tn tc),(iA i)]
abbrev nU(k n a b:Nat)(t:OA)(tn tc i:Nat)(j:Nat):LV:=[(pA k),(sA a n n),(sA b n n),(ae t tn tc),(iA i),(iA j)]
abbrev lO(n a b:Nat)(t:OA)(tn tc:Nat):LV:=[(sA a n n),(sA b n n),(ae t tn tc)]
abbrev qB(n a b s:Nat)(j:Nat)(t:OA)(tn tc:Nat):LV:=[(sA a n n),(sA b n n),(ae t tn tc),(iA s),(iA j)]
theorem WD(f:LV)(h:aw)(Q:VH)(k:xN (iF au 24 (aq ⟨f⟩)) h λp c=>mh 24 (pA (h.ax)) 3 22 c λr e s=>xR (cK au 68 (iA e) (iA e)) c λq l j a=>mh 24 (pA (h.ax)) 3 22 a λm b n=>xR (cK au 126 (iA b) (iA b)) a λo g d i=>cq fj (pq 303) [(pA (h.ax)),(sA (c.ax) l j),(sA (a.ax) g d),nA,(aA 0)] i (ez fj (pq 175) Q)):aW 150 [(aq ⟨f⟩)] h Q:=gZ fj Tryz.func150 (bF k)
theorem CV(F:LV)(k n c d:Nat)(a:Nat->Nat->OA->Nat->Nat->aw->Prop)(Q:VH)(step:∀(b:Nat) (i:Nat) (t:OA) (tn tc:Nat) (r:Nat->ah) (h:aw),a b i t tn tc h->mh 24 (pA k) 3 22 h λE v A=>cp (decide ((i:Int)<(v:Int))) (mh 24 (pA k) 3 22 h λq l s=>ve 22 (ae q l s) (iA i) 44 0 λw=>xS (aM au 9 h (bN w)) λu=>cp (!((u:LB)==[])) (xP (aZ au 68 (sA c n n) (iA i)) λo=>xU (aQ au 4 (bN o) (ai af) h) h λC f=>xR (bC au 27 1 [(0,(iA i))]) f λD m p e=>xE (bY au 27 27 (ae t tn tc) (sA (f.ax) m p) e) e λj z x B y=>cq fj (pq 39215) (nU k n c d j z x i 0) y (fZ fj (pq 89) (pq 303) (RR fj (pq 303) (sk (lN k n c d) a) b (ez fj (pq 175) Q)))) (cq fj (pq 39215) (nU k n c d t tn tc i 0) h (fZ fj (pq 89) (pq 303) (RR fj (pq 303) (sk (lN k n c d) a) b (ez fj (pq 175) Q))))) (cq fj (pq 287) (lO n c d t tn tc) h (ez fj (pq 159) Q)))(b:Nat){i:Nat}{t:OA}{tn tc:Nat}{h:aw}(g:a b i t tn tc h):cq fj (pq 303) (lN k n c d i t tn tc) h (ez fj (pq 175) Q):=
 uD (lN k n c d) a (λb i t tn tc r h g=>bF (step b i t tn tc r h g)) b g
theorem CW(U:LV)(k n d b:Nat)(t:OA)(tn tc:Nat)(f:Nat->Nat->OA->Nat->Nat->aw->Prop)(q i:Nat)(c:Nat->Nat->aw->Prop)(Q:VH)(step:∀(a:Nat) (j:Nat) (A:Nat->ah) (h:aw),c a j h->mh 24 (pA k) 3 22 h λx y D=>ve 22 (ae x y D) (iA i) 44 1 λG=>xL (aM au 42 h (bN G)) λT J S=>cp (decide ((j:Int)<(J:Int))) (mh 24 (pA k) 3 22 h λB o K=>ve 22 (ae B o K) (iA i) 44 1 λp=>xL (aM au 42 h (bN p)) λE s F=>ve 42 (ae E s F) (iA j) 46 3 λr=>xI an (aM au 3 h (bN r)) λl=>qX xL 126 (sA b n n) (aA l) 27 h λC w M=>xR (bC au 27 1 [(0,(iA i))]) h λR H v g=>xE (bY au 27 27 (ae C w M) (sA (h.ax) H v) g) g λu L z P e=>xP (aZ au 126 (sA b n n) (aA l)) λI=>xU (aQ au 27 (bN I) (ae u L z) e) e λO N=>cB (mw (nU k n d b t tn tc i) c) a [(pA k),(sA d n n),(sA b n n),(ae t tn tc),(iA i),(aA (aj an ((j:Int)+1)))] N) (cB (sk (lN k n d b) f) q [(pA k),(sA d n n),(sA b n n),(ae t tn tc),(aA (aj an ((i:Int)+1)))] h))(a:Nat){j:Nat}{h:aw}(m:c a j h):cq fj (pq 39215) (nU k n d b t tn tc i j) h (fZ fj (pq 89) (pq 303) (RR fj (pq 303) (sk (lN k n d b) f) q (ez fj (pq 175) Q))):=
 gP (nU k n d b t tn tc i) c (λa j A h m=>bF (step a j A h m)) a m
theorem CX(l:LV)(n c d:Nat)(b:Nat->OA->Nat->Nat->aw->Prop)(Q:VH)(step:∀(a:Nat) (t:OA) (tn tc:Nat) (j:Nat->ah) (h:aw),b a t tn tc h->cp (decide ((tn:Int)>0)) (vX 27 (ae t tn tc) (aA 0) h λi=>xL (cY au 27 (ae t tn tc) (aa (aA 1)) none none h) λk f g=>cq fj (pq 40223) [(sA c n n),(sA d n n),(ae k f g),(aA i),(aA 0)] h (fZ fj (pq 93) (pq 287) (RR fj (pq 287) (GR (lO n c d) b) a (ez fj (pq 159) Q)))) (Q (sA c n n) h))(a:Nat){t:OA}{tn tc:Nat}{h:aw}(e:b a t tn tc h):cq fj (pq 287) (lO n c d t tn tc) h (ez fj (pq 159) Q):=
 Jj (lO n c d) b (λa t tn tc j h e=>bF (step a t tn tc j h e)) a e
theorem CY(H:LV)(n b c s:Nat)(g:Nat->OA->Nat->Nat->aw->Prop)(i:Nat)(d:Nat->Nat->OA->Nat->Nat->aw->Prop)(Q:VH)(step:∀(a:Nat) (j:Nat) (t:OA) (tn tc:Nat) (y:Nat->ah) (h:aw),d a j t tn tc h->qX xL 126 (sA c n n) (iA s) 27 h λD v G=>cp (decide ((j:Int)<(v:Int))) (qX xL 126 (sA c n n) (iA s) 27 h λz w A=>vX 27 (ae z w A) (iA j) h λe=>qX xB 68 (sA b n n) (aA e) 4 h λB=>cp (!B) (xP (aZ au 68 (sA b n n) (aA e)) λx=>xU (aQ au 4 (bN x) (ai af) h) h λE k=>xR (bC au 27 1 [(0,(aA e))]) k λF l p f=>xE (bY au 27 27 (ae t tn tc) (sA (k.ax) l p) f) f λu m o C r=>cB (sk (qB n b c s) d) a [(sA b n n),(sA c n n),(ae u m o),(iA s),(aA (aj an ((j:Int)+1)))] r) (cB (sk (qB n b c s) d) a [(sA b n n),(sA c n n),(ae t tn tc),(iA s),(aA (aj an ((j:Int)+1)))] h)) (cB (GR (lO n b c) g) i [(sA b n n),(sA c n n),(ae t tn tc)] h))(a:Nat){j:Nat}{t:OA}{tn tc:Nat}{h:aw}(q:d a j t tn tc h):cq fj (pq 40223) (qB n b c s j t tn tc) h (fZ fj (pq 93) (pq 287) (RR fj (pq 287) (GR (lO n b c) g) i (ez fj (pq 159) Q))):=
 uD (qB n b c s) d (λa j t tn tc y h q=>bF (step a j t tn tc y h q)) a q
variable{N:kH}
theorem oU{t:aD}{b:aw}(o:Ok g b){a v:ah}(h:aM P t g a=aa v):aM P t b a=aa v:=by
 unfold aM at h⊢;split at h
 ·next d k i l=>
  split at h
  ·next cs e f j c=>
   rw[o.ext _ _ c];exact h
  ·cases h
 ·cases h
theorem iY.K1{c:Nat}{l:List kH}(r:iY h (ae a n c) l)(d:Ok h g){i:Nat}{s:kH}(j:l[i]?=aa s):
  ∃(b o:Nat)(x:Option aF)(y z:Nat),aZ au 22 (ae a n c) (aA (i:Int))=aa (cn b o)/\aM au 44 g (cn b o)=aa (aq ⟨[strOf s.f,ae x y z]⟩)/\
   aM au 9 g (cn b (o+0))=aa (strOf s.f)/\aM au 42 g (cn b (o+1))=aa (ae x y z)/\nM h (ae x y z) s.bG:=by
 obtain⟨b,o,x,y,z,f,p,k,m,e⟩:=r.at_ j;exact⟨b,o,x,y,z,f,oU d p,oU d k,oU d m,e⟩
noncomputable def aij:TypeInfo:=(au.info? 27).getD default
theorem afB:au.info? 27=aa aij:=by kernel_rfl
theorem YQ:aij.size=1:=by kernel_rfl
theorem T9:aij.bytes=24:=by kernel_rfl
def AV:ah:= nA
theorem aix:zeroOf au 27=aa AV:=by kernel_rfl
theorem Ve(n:Nat)(a:n<=100000):cK au 126 (aA (n:Int)) (aA (n:Int))=aa (.cells (aH n AV) 27 1 af,pw n n):=by
 unfold cK dz;dsimp only;rw[qg]
 try dsimp only
 change (match au.info? 27,zeroOf au 27 with
  |some i,aa z=>(if z.cells.size=i.size/\0<i.size/\(0:Int)<=(n:Int)/\(n:Int)<=(n:Int)/\(n:Int)*i.bytes<=140737488355328/\(n:Int)<=1099511627776 then aa (eE.cells (eO z.cells.toList (n:Int).toNat) 27 i.size af,λk=>ae (aa ⟨k,0,none⟩) (n:Int).toNat (n:Int).toNat)else none)
  |_,_=>none)=_
 rw[afB,aix];dsimp only;rw[YQ,T9,iP ⟨rfl,by omega,by omega,fU _,by omega,by omega⟩];have e:((n:Int)).toNat=n:=by omega
 rw[e,show(AV).cells.toList=[AV]from rfl,qh];rfl
def vn(s:kH):List Nat:=s.bG.map λq=>q.t.toNat
def kD(M:cG)(y x:Nat):Prop:=∃s,M.aE[y]?=aa s/\x∈vn s
def AP(M:cG)(x:Nat):Prop:=∃s,M.aE[x]?=aa s/\s.f≠[]
def kG(M:cG)(x:Nat):Prop:=lD (kD M) (λy=>y=M.start.toNat) x/\lD (λy x=>kD M x y) (AP M) x
def PrM(M:cG)(i j y x:Nat):Prop:=(y<i/\kD M y x)\/(y=i/\∃s,M.aE[i]?=aa s/\x∈(vn s).take j)
theorem qN{x:Nat}:PrM M i 0 n x↔n<i/\kD M n x:=by
 unfold PrM;constructor
 ·rintro(h|⟨_,s,_,h⟩)
  ·exact h
  ·rw[dU]at h;cases h
 ·exact .inl
theorem I3{x:Nat}(f:M.aE[i]?=aa N)(g:N.bG.length<=j):PrM M i j n x↔n<i+1/\kD M n x:=by
 unfold PrM;constructor
 ·rintro(⟨c,a⟩|⟨rfl,b,c,a⟩)
  ·exact⟨by omega,a⟩
  ·exact⟨by omega,b,c,dN a⟩
 ·rintro⟨c,a⟩;rcases de n i with e|e
  ·exact .inl ⟨e,a⟩
  ·obtain rfl:n=i:=by omega
   obtain⟨b,d,h⟩:=a;refine .inr ⟨rfl,b,d,?_⟩;rw[f]at d;obtain rfl:=aC d;rw[bm (by unfold vn;rw[aG];exact g)];exact h
theorem I4{x:Nat}{q:iu}(d:M.aE[i]?=aa N)(k:N.bG[j]?=aa q):PrM M i (j+1) n x↔PrM M i j n x\/(n=i/\x=q.t.toNat):=by
 have f:(vn N)[j]?=aa q.t.toNat:=by unfold vn;rw[getElem?_map,k];rfl
 have e:(vn N).take (j+1)=(vn N).take j++[q.t.toNat]:=by rw[eI,f];rfl
 unfold PrM;constructor
 ·rintro(h|⟨c,g,b,a⟩)
  ·exact .inl (.inl h)
  ·rw[d]at b;obtain rfl:=aC b;rw[e,bH,aX]at a;rcases a with a|a
   ·exact .inl (.inr ⟨c,N,d,a⟩)
   ·exact .inr ⟨c,a⟩
 ·rintro((h|⟨c,g,b,a⟩)|⟨c,b⟩)
  ·exact .inl h
  ·rw[d]at b;obtain rfl:=aC b;exact .inr ⟨c,N,d,by rw[e];exact bH.2 (.inl a)⟩
  ·exact .inr ⟨c,N,d,by rw[e,b];exact bH.2 (.inr (aX.2 rfl))⟩
structure Dn(M:cG)(n i j i' cN:Nat)(F:List (List Nat)):Prop where
 fw:∀y l,y<n->F[0*n+y]?=aa l->∀x,x∈l↔PrM M i j y x
 bk:∀t l,t<n->F[1*n+t]?=aa l->∀x,x∈l↔PrM M i j x t
 en:∀l,F[2*n]?=aa l->∀x,x∈l↔x<i'/\AP M x
 ln:∀l∈F,l.length<=cN
theorem BT{F:List (List Nat)}{l':List Nat}{c:Nat}(h:∀l∈F,l.length<=c)(d:l'.length<=c+1):∀l∈F.set n l',l.length<=c+1:=λl b=>by
 rcases List.mem_or_eq_of_mem_set b with a|a
 ·exact Nat.le_succ_of_le (h l a)
 ·rw[a];exact d
theorem Dn.arc{F:List (List Nat)}(d:Dn M n i j m k F)(A:i<n){s:kH}{q:iu}(p:M.aE[i]?=aa s)(u:s.bG[j]?=aa q)(C:q.t.toNat<n){b f:List Nat}(r:F[0*n+i]?=aa b)(v:F[1*n+q.t.toNat]?=aa f):
  Dn M n i (j+1) m (k+1) ((F.set (0*n+i) (b++[q.t.toNat])).set (1*n+q.t.toNat) (f++[i])):=by
 have B:=d.ln b (aI r);have D:=d.ln f (aI v);refine⟨λy l w a x=>?_,λt l g a x=>?_,λl a x=>?_,λl a=>?_⟩
 ·rw[I4 p u];rcases cX a with⟨e,_⟩|⟨_,a⟩
  ·omega
  ·rcases cX a with⟨e,rfl⟩|⟨e,a⟩
   ·obtain rfl:y=i:=by omega
    rw[bH,aX,d.fw y b w r x];exact⟨λc=>c.imp id λc=>⟨rfl,c⟩,λc=>c.imp id λc=>c.2⟩
   ·rw[d.fw y l w a x];exact⟨.inl,λc=>c.elim id λc=>absurd (by rw[c.1]) e⟩
 ·rw[I4 p u];rcases cX a with⟨e,rfl⟩|⟨e,a⟩
  ·obtain rfl:t=q.t.toNat:=by omega
   rw[bH,aX,d.bk _ f g v x];exact⟨λc=>c.imp id λc=>⟨c,rfl⟩,λc=>c.imp id λc=>c.1⟩
  ·rcases cX a with⟨z,_⟩|⟨_,a⟩
   ·omega
   ·rw[d.bk t l g a x];exact⟨.inl,λc=>c.elim id λc=>absurd (by rw[c.2]) e⟩
 ·rcases cX a with⟨e,_⟩|⟨_,a⟩
  ·omega
  ·rcases cX a with⟨e,_⟩|⟨_,a⟩
   ·omega
   ·exact d.en l a x
 ·rcases List.mem_or_eq_of_mem_set a with h|h
  ·rcases List.mem_or_eq_of_mem_set h with o|o
   ·have:=d.ln l o;omega
   ·rw[o,bg,bw];omega
  ·rw[h,bg,bw];omega
theorem Dn.fin{F:List (List Nat)}(d:Dn M n i 0 i m F)(q:i<n){s:kH}(j:M.aE[i]?=aa s)(g:s.f≠[]){l:List Nat}(f:F[2*n]?=aa l):Dn M n i 0 (i+1) (m+1) (F.set (2*n) (l++[i])):=by
 have r:=d.ln l (aI f);refine⟨λy l' p a x=>?_,λt l' o a x=>?_,λl' a x=>?_,BT d.ln (by rw[bg,bw];omega)⟩
 ·rcases cX a with⟨e,_⟩|⟨_,h⟩
  ·omega
  ·exact d.fw y l' p h x
 ·rcases cX a with⟨e,_⟩|⟨_,h⟩
  ·omega
  ·exact d.bk t l' o h x
 ·rcases cX a with⟨_,rfl⟩|⟨e,_⟩
  ·rw[bH,aX,d.en l f x];constructor
   ·rintro(⟨k,b⟩|rfl)
    ·exact⟨by omega,b⟩
    ·exact⟨by omega,s,j,g⟩
   ·rintro⟨k,b⟩;rcases de x i with c|c
    ·exact .inl ⟨c,b⟩
    ·exact .inr (by omega)
  ·exact absurd rfl e
theorem Dn.ajP{F:List (List Nat)}(d:Dn M n i 0 i m F){s:kH}(g:M.aE[i]?=aa s)(f:s.f=[]):Dn M n i 0 (i+1) (m+1) F:=by
 refine⟨d.fw,d.bk,λl b x=>?_,λl b=>Nat.le_succ_of_le (d.ln l b)⟩;rw[d.en l b x];constructor
 ·rintro⟨h,a⟩;exact⟨by omega,a⟩
 ·rintro⟨h,a⟩;refine⟨?_,a⟩;rcases de x i with c|c
  ·exact c
  ·obtain rfl:x=i:=by omega
   obtain⟨k,e,j⟩:=a;rw[g]at e;obtain rfl:=aC e;exact absurd f j
theorem Dn.ax{F:List (List Nat)}(d:Dn M n i j (i+1) m F){s:kH}(b:M.aE[i]?=aa s)(c:s.bG.length<=j):Dn M n (i+1) 0 (i+1) m F:=by
 refine⟨λy l f a x=>?_,λt l e a x=>?_,d.en,d.ln⟩
 ·rw[d.fw y l f a x,I3 b c,qN]
 ·rw[d.bk t l e a x,I3 b c,qN]
theorem Dn.new(M:cG)(n:Nat):Dn M n 0 0 0 0 (aH (2*n+1) []):=by
 have h:∀{i:Nat}{l:List Nat},(aH (2*n+1) ([]:List Nat))[i]?=aa l->l=[]:=λ{i l} a=>by
  rw[getElem?_replicate]at a;split at a
  ·exact(aC a).symm
  ·cases a
 refine⟨λy l d a x=>?_,λt l b a x=>?_,λl a x=>?_,λl a=>?_⟩
 ·rw[h a,qN];exact⟨λc=>(by cases c),λc=>absurd c.1 (dH _)⟩
 ·rw[h a,qN];exact⟨λc=>(by cases c),λc=>absurd c.1 (dH _)⟩
 ·rw[h a];exact⟨λc=>(by cases c),λc=>absurd c.1 (dH _)⟩
 ·rw[List.eq_of_mem_replicate a];exact aS _
theorem Us.tail{f:Nat->Nat}{X:Nat->Prop}{vs:List ah}{F:List (List Nat)}(s:Us h n f m X vs F g){b:List ah}{c:List (List Nat)}{v:ah}{l':List Nat}(p:b=vs.set (n*m) v)(o:c=F.set (n*m) l'){a:aw}(q:RC h a X b c)(i:Ok h a)(u:∀j B,g.get j=aa B->X j->a.get j=aa B)(l:g.ax<=a.ax):Us h n f m X b c a:=by
 refine⟨λr d=>?_,q,i,by rw[o,bT];exact s.len,s.xt,s.inj,λk t=>cz (s.Y8 k t) l⟩;have e:(r+1)*m<=n*m:=bJ _ d;rw[cM,dw]at e;rw[u _ _ (s.cc r d) (s.xt r d).1,p,wP _ _ _ _ _ (.inr e)]
theorem Jx(k o n c:Nat):iz 4 (gG k o n c) (gG k o n c)=af:=by simp[iz]
variable{d:List ah}
section
theorem RC.lt{hb:aw}{X:Nat->Prop}{F:List (List Nat)}(f:RC hb h X d F)(w:Wf h){i:Nat}{v:ah}(b:d[i]?=aa v){k:Nat}(e:dV v=aa k):k<h.ax:=by
 obtain⟨a,c⟩:∃a,F[i]?=aa a:=⟨_,gE (by rw[<-f.len];exact(List.getElem?_eq_some_iff.1 b).1)⟩
 exact((f.own i v a b c).lt w e).1
def usX(hb:aw):Nat->Prop:=λk=>k=hb.ax+1\/k=hb.ax+3\/k=hb.ax+4\/k=hb.ax+5
def YV(hb:aw):Nat->Nat:=λr=>hb.ax+1+2*r
structure Ub(hb:aw)(M:cG)(n i j i' cN:Nat)(vs:List ah)(F:List (List Nat))(g:aw):Prop where
 us:Us hb 2 (YV hb) n (usX hb) vs F g
 b4:Ei g (hb.ax+4) 126 (sA (YV hb 0) n n)
 b5:Ei g (hb.ax+5) 126 (sA (YV hb 1) n n)
 dn:Dn M n i j i' cN F
section
variable {hb:aw} {M:cG} {a:Option aF} {n c k:Nat}
def akg(hb:aw)(M:cG)(n:Nat)(c i:Nat)(e:Option aF)(d f:Nat)(g:aw):Prop:=i<=n/\c=n-i/\∃a F b,Ub hb M n i 0 i b a F g/\a[2*n]?=aa (ae e d f)/\b+rP (M.aE.drop i)+(n-i)<=2300
def uIn(hb:aw)(M:cG)(n:Nat)(e:Option aF)(d f m i:Nat)(b j:Nat)(g:aw):Prop:=j<=m/\b=m-j/\∃a F c,Ub hb M n i j (i+1) c a F g/\a[2*n]?=aa (ae e d f)/\c+(m-j)+rP (M.aE.drop (i+1))+(n-(i+1))<=2300
set_option linter.defProp false in
def Rt(w:Wf hb)(gd:Good M)(w1:n=M.aE.length)(hn:n<=300){s:kH}{b:Option aF}{m d i k8:Nat}(hs:M.aE[i]?=aa s)(W:i<n)(ar:nM hb (ae b m d) s.bG)(v7:s.bG.length<=2000)(mv:List ah)(e:Option aF)(en ec mz:Nat)(v9:mz=n-i)(Q:VH):=
 Ec mv k (hb.ax+4) (hb.ax+5) a n c k8 e en ec b m d (akg hb M n) mz i (uIn hb M n e en ec m i) Q (by
  intro z3 j;intros;rename_i g t;obtain⟨f1,f2,vs,F,cN,f,x4,v6⟩:=t;have hm:=ar.len;have ok:=f.us.ok;refine ay (λJ=>?_) (λJ=>?_)
  ·have J:=dT J;obtain⟨q,hq⟩:∃q,s.bG[j]?=aa q:=⟨_,gE (by omega)⟩
   obtain⟨bb,o,e1,e2,_⟩:=(ar.ok ok).at_ hq;have t:=gd.bG s (aI hs) q (aI hq);obtain⟨T,hT⟩:∃T:Nat,q.t=(T:Int):=⟨q.t.toNat,by have:=t.t0;omega⟩
   have E:T<n:=by have:=t.t1;omega
   have N:q.t.toNat=T:=by omega
   obtain⟨u1,p1,p2,p3⟩:=FK ok.wf q;have V:∀g',AB g' g.ax q->aM au 3 g' (cn g.ax (0+3))=aa (aA (T:Int)):=λg' h=>by rw[<-hT];exact AB.l3 h
   have x0:∀(x8:Nat)(v:ah),vs[x8]?=aa v->dV v≠aa g.ax:=λx8 v hv e=>by have:=f.us.BN.lt ok.wf hv e;omega
   have z8:=f.us.Y8;have Z:=f.us.ext p2;have B4:=f.b4.ok p2;have B5:=f.b5.ok p2;refine⟨_,e1,_,e2,_,MA,u1,p1,?_⟩;generalize u1.app (g.push JQ)=g2 at*;have w2:=Z.ok.wf;have Y:=(Ok.refl w2).room 12;obtain⟨r1,a1,c1,H,K,y1,v1⟩:=Z.ld (r:=0) (i:=i) (by omega) W;have v5:=f.dn.ln r1 (aI H);obtain⟨P,y8⟩:=xe w2 (n:=12) (j:=8) (by omega) (.cells [aA (T:Int)] 3 1 af);have u0:=(v1 _ (Z.ext Y)).1;have B:=Z.ext P;have u2:=B4.ok P;have u7:=B5.ok P;have A3:=AB.ok p3 P;obtain⟨b',n',c',x2,y5,v4,u6,v0,x,y6⟩:=B.BN.snoc w B.ok B.Y8 K H y8 (by omega);have z5:dV (ae a1 r1.length c1)≠aa g.ax:=x0 _ _ K;have G:∀k,usX hb k->dV (ae a1 r1.length c1)≠aa k:=λk p e=>B.BN.out _ _ K k e p;refine⟨_,_,_,(B4.ok Y).ld qg vN,_,_,_,(B4.ok Y).ld qg vN,_,y1,_,_,_,u0,_,jE _ _,_,V _ (p3.ok Y),_,_,_,qi _,b',n',c',x2,y5,_,y1,?_⟩;generalize bS (Go.Ab.room g2 12) g2.ax [(8,.cells [aA (T:Int)] 3 1 af)]=S at*;have x5:=x _ _ u2 (G _ (.inr (.inr (.inl rfl))));have z2:=x _ _ u7 (G _ (.inr (.inr (.inr rfl))));have A4:=x _ _ A3 z5;obtain⟨x6,z1,X,C⟩:=B.put w (r:=0) (i:=i) (by omega) W rfl rfl u6 v0 (λy B' hj p=>x y B' hj (G y p)) y6;refine⟨x6,z1,⟨Ei.ld qg vN x5,Jx _ _ _ _⟩,?_⟩;have z0:Ei _ _ _ _:=C _ _ x5 (by unfold YV;omega);have L:Ei _ _ _ _:=C _ _ z2 (by unfold YV;omega);have A5:AB _ _ q:=C _ _ A4 (by have:=z8 _ (f.us.xt 0 (by omega)).1;omega);generalize x2.app S=g4 at*;generalize x6.app g4=g5 at*;have w5:=X.ok.wf;have l:=(Ok.refl w5).room 13;obtain⟨U,a2,c2,x9,x1,y0,u3⟩:=X.ld (r:=1) (i:=T) (by omega) E;obtain⟨O,k9⟩:=xe w5 (n:=13) (j:=9) (by omega) (.cells [aA (i:Int)] 3 1 af);have y2:=(u3 _ (X.ext l)).1;have R:=X.ext O;have A:vs[1*n+T]?=aa (ae a2 U.length c2):=by
    rcases cX x1 with⟨e,_⟩|⟨_,h⟩
    ·omega
    ·exact h
   have I:F[1*n+T]?=aa U:=by
    rcases cX x9 with⟨e,_⟩|⟨_,h⟩
    ·omega
    ·exact h
   have v8:=f.dn.ln U (aI I);have z9:=x0 _ _ A;have z:∀k,usX hb k->dV (ae a2 U.length c2)≠aa k:=λk p e=>f.us.BN.out _ _ A k e p;obtain⟨y9,u8,z4,y4,u9,w0,v3,u4,u,z7⟩:=R.BN.snoc w R.ok R.Y8 x1 x9 k9 (by omega);refine⟨_,_,_,(L.ok l).ld qg vN,_,jE _ _,_,V _ (A5.ok l),_,_,_,(L.ok l).ld qg vN,_,jE _ _,_,V _ (A5.ok l),_,y0,_,_,_,y2,_,_,_,qi _,y9,u8,z4,y4,u9,_,y0,?_⟩;have v2:=u _ _ (z0.ok O) (z _ (.inr (.inr (.inl rfl))));have x7:=u _ _ (L.ok O) (z _ (.inr (.inr (.inr rfl))));have A6:AB _ _ q:=u _ _ (A5.ok O) z9;obtain⟨y3,y7,U8,x3⟩:=R.put w (r:=1) (i:=T) (by omega) E rfl rfl v3 u4 (λy B' hj p=>u y B' hj (z y p)) z7;refine⟨y3,y7,⟨Ei.ld qg vN x7,Jx _ _ _ _⟩,⟨V _ A6,Ho _⟩,?_⟩;rw[cL (i:=j) (n:=m) (by omega) (by omega)];have u5:=x3 _ _ v2 (by unfold YV;omega);have z6:=x3 _ _ x7 (by unfold YV;omega);have D:=f.dn.arc W hs hq (by rw[N];exact E) H (by rw[N];exact I);rw[N]at D;refine fG (z3-1) (by omega) ⟨by omega,by omega,_,_,cN+1,⟨U8,u5,z6,D⟩,?_,by omega⟩;rw[getElem?_set,iN (by omega),getElem?_set,iN (by omega)];exact x4
  ·have J:=dF J;obtain rfl:m=j:=by omega
   rw[cL W (by omega)];exact nE (n-(i+1)) (by omega) ⟨by omega,rfl,vs,F,cN,⟨f.us,f.b4,f.b5,f.dn.ax hs (by omega)⟩,x4,by omega⟩)
end
end
def sV(n:Nat):eE:= .cells (aH n AV) 27 1 af
def sU:eE:= .cells [nA] 126 0 af
theorem afY:cD au 126=aa (sU,jL):=by kernel_rfl
theorem LI{E a:Nat->Nat->Prop}{F b:Nat->Prop}(d:∀y x,E y x↔a y x)(f:∀x,F x↔b x)(x:Nat):lD E F x↔lD a b x:=by
 have c:E=a:=funext λy=>funext λx=>propext (d y x);have e:F=b:=funext λx=>propext (f x);rw[c,e]
theorem Oh(w:Wf h)(M:cG)(n:Nat):
  ∃m:dJ,aQ au 126 (pA (h.ax+4)) (sA (h.ax+1) n n) (bS (Go.Ab.room h 8) h.ax [(5,sU),(4,sU),(1,sV n)])=aa (undef,m)/\
  ∃s:dJ,aQ au 126 (pA (h.ax+5)) (sA (h.ax+3) n n) (bS (m.app (bS (Go.Ab.room h 8) h.ax [(5,sU),(4,sU),(1,sV n)])) h.ax [(3,sV n)])=aa (undef,s)/\
   Ub h M n 0 0 0 0 (aH (2*n+1) AV) (aH (2*n+1) []) (s.app (bS (m.app (bS (Go.Ab.room h 8) h.ax [(5,sU),(4,sU),(1,sV n)])) h.ax [(3,sV n)])):=by
 obtain⟨N,b⟩:∃N,h.ax=N:=⟨_,rfl⟩
 have A:(Go.Ab.room h 8).ax=N+8:=by rw[<-b];rfl
 rw[b];have B:Ei (bS (Go.Ab.room h 8) N [(5,sU),(4,sU),(1,sV n)]) (N+4) 126 nA:=by
  show(((Go.Ab.room h 8).set (N+1) _).set (N+4) sU |>.set (N+5) sU).get (N+4)=_;rw[aw.bZ,iN (by omega),aw.bZ,iP rfl];rfl
 refine⟨_,B.st T1 (dD _ _ _) rfl,?_⟩;have D:Ei (bS ((dJ.set (N+4) (.cells [sA (N+1) n n] 126 0 af)).app (bS (Go.Ab.room h 8) N [(5,sU),(4,sU),(1,sV n)])) N [(3,sV n)]) (N+5) 126 nA:=by
  show(((((Go.Ab.room h 8).set (N+1) (sV n)).set (N+4) sU |>.set (N+5) sU).set (N+4) _).set (N+3) (sV n)).get (N+5)=_;rw[aw.bZ,iN (by omega),aw.bZ,iN (by omega),aw.bZ,iP rfl];rfl
 refine⟨_,D.st T1 (dD _ _ _) rfl,?_⟩;show Ub h M n 0 0 0 0 _ _ ((((((Go.Ab.room h 8).set (N+1) (sV n)).set (N+4) sU |>.set (N+5) sU).set (N+4) (.cells [sA (N+1) n n] 126 0 af)).set (N+3) (sV n)).set (N+5) (.cells [sA (N+3) n n] 126 0 af));have c:∀j,((((((Go.Ab.room h 8).set (N+1) (sV n)).set (N+4) sU |>.set (N+5) sU).set (N+4) (.cells [sA (N+1) n n] 126 0 af)).set (N+3) (sV n)).set (N+5) (.cells [sA (N+3) n n] 126 0 af)).get j =
   if j=N+5 then aa (.cells [sA (N+3) n n] 126 0 af)else if j=N+3 then aa (sV n)else if j=N+4 then aa (.cells [sA (N+1) n n] 126 0 af)else if j=N+5 then aa sU else if j=N+4 then aa sU else if j=N+1 then aa (sV n)else h.get j:=λj=>by
  rw[aw.bZ,aw.bZ,aw.bZ,aw.bZ,aw.bZ,aw.bZ];rfl
 have d:Ok h ((((((Go.Ab.room h 8).set (N+1) (sV n)).set (N+4) sU |>.set (N+5) sU).set (N+4) (.cells [sA (N+1) n n] 126 0 af)).set (N+3) (sV n)).set (N+5) (.cells [sA (N+3) n n] 126 0 af)):=by
  refine((((((Ok.refl w).room 8).set _ ?_ ?_ w).set _ ?_ ?_ w).set _ ?_ ?_ w).set _ ?_ ?_ w).set _ ?_ ?_ w |>.set _ ?_ ?_ w
  all_goals first
   |(rw[b];omega)
   |(show _<(Go.Ab.room h 8).ax;rw[A];omega)
 generalize ((((((Go.Ab.room h 8).set (N+1) (sV n)).set (N+4) sU |>.set (N+5) sU).set (N+4) (.cells [sA (N+1) n n] 126 0 af)).set (N+3) (sV n)).set (N+5) (.cells [sA (N+3) n n] 126 0 af))=g at*;have x:g.get (N+1)=aa (sV n):=by rw[c,iN (by omega),iN (by omega),iN (by omega),iN (by omega),iN (by omega),iP rfl]
 have z:g.get (N+3)=aa (sV n):=by rw[c,iN (by omega),iP rfl]
 have u:g.get (N+4)=aa (.cells [sA (N+1) n n] 126 0 af):=by rw[c,iN (by omega),iN (by omega),iP rfl]
 have y:g.get (N+5)=aa (.cells [sA (N+3) n n] 126 0 af):=by rw[c,iP rfl]
 have f:∀{i:Nat}{v:ah},(aH (2*n+1) AV)[i]?=aa v->v=AV:=λ{i v} a=>by
  rw[getElem?_replicate]at a;split at a
  ·exact(aC a).symm
  ·cases a
 have q:∀{i:Nat}{l:List Nat},(aH (2*n+1) ([]:List Nat))[i]?=aa l->l=[]:=λ{i l} a=>by
  rw[getElem?_replicate]at a;split at a
  ·exact(aC a).symm
  ·cases a
 refine⟨⟨λr C=>?_,⟨by rw[bE,bE],λi v l o a=>?_,λi j v F _ o _ k p=>?_,λi v o k p=>?_⟩,d,bE,λr C=>⟨?_,?_⟩,λr G _ _ E=>?_,λk t=>?_⟩,?_,?_,Dn.new M n⟩
 ·have e:((aH (2*n+1) AV).drop (r*n)).take n=aH n AV:=by
   rw[List.drop_replicate,List.take_replicate];congr 1;have:r=0\/r=1:=by omega
   rcases this with rfl|rfl<;>omega
  rw[e];have:r=0\/r=1:=by omega
  unfold YV;rw[b];rcases this with rfl|rfl
  ·exact x
  ·exact z
 ·rw[f o,q a];exact kJ.nil _ _ _
 ·rw[f o]at p;cases p
 ·rw[f o]at p;cases p
 ·unfold usX YV;rw[b];have:r=0\/r=1:=by omega
  rcases this with rfl|rfl<;>omega
 ·unfold YV;omega
 ·unfold YV;omega
 ·unfold usX at t;rw[b]at t;rcases t with rfl|rfl|rfl|rfl
  ·exact d.wf _ _ x
  ·exact d.wf _ _ z
  ·exact d.wf _ _ u
  ·exact d.wf _ _ y
 ·rw[b];show g.get (N+4)=_;rw[u];unfold YV;rw[b]
 ·rw[b];show g.get (N+5)=_;rw[y];unfold YV;rw[b]
theorem kY{c:Nat}{L:List Bool}(a:h.get m=aa (.cells (L.map ai) 4 1 af))(b:L.length=j){x:Nat}(d:x<j):aZ au 68 (sA m j c) (aA (x:Int))=aa (cn m x)/\aM au 4 h (cn m x)=aa (ai (L.getD x ak)):=by
 refine⟨?_,?_⟩
 ·have:=Gw (P:=au) TQ afw (k:=m) (off:=0) (n:=j) (c:=c) (ik:= an) (i:=(x:Int)) (by omega) (by omega);rw[this,bn,bO,df]
 ·rw[da un4 ag4 a (by rw[aG];omega),gD,getElem?_map,gD,gE (by omega)];rfl
def adn(f:aw)(d e n:Nat)(b a:List Bool)(c i:Nat)(g:aw):Prop:=i<=n/\c=n-i/\∃L,BR f d n L g/\g.get e=aa (.cells (a.map ai) 4 1 af)/\∀x,L.getD x ak=if x<i then(b.getD x ak&&a.getD x ak)else b.getD x ak
theorem Ai(w:Wf g){a f n:Nat}{j d:List Bool}{l i:Nat}{r:aw}(h:adn g a f n j d l i r)(B:d.length=n)(o:f≠a)(y:i<n){b:Bool}(q:b=(j.getD i ak&&d.getD i ak)):
  ∃u:dJ,aQ au 4 (cn a i) (ai b) r=aa (undef,u)/\adn g a f n j d (l-1) (i+1) (u.app r):=by
 obtain⟨F,E,L,m,A,t⟩:=h;obtain⟨C,D,k⟩:=m.get (c:=n) (x:=(i:Int)) (by omega) (by omega);rw[bn]at k;obtain⟨u,z,v,s⟩:=k b w;refine⟨u,z,by omega,by omega,_,v,s _ _ A o,λx=>?_⟩;rw[Sy (by rw[m.len];exact y),t x];by_cases e:x=i
 ·subst e;rw[iP rfl,iP (by omega),q]
 ·rw[iN e];by_cases p:x<i
  ·rw[iP p,iP (by omega)]
  ·rw[iN p,iN (by omega)]
def uQ(h:aw)(M:cG)(n:Nat):VH:=λv b=>∃a L,v=sA a n n/\BR h a n L b/\∀x,x<n->(L.getD x ak=af↔kG M x)
theorem BR.base{a:aw}{L:List Bool}(b:BR g n m L a)(o:Ok h g):BR h n m L a:=⟨b.len,b.row.row,bK o.nx b.row.new,o.trans b.row.ok⟩
section
section
variable {h:aw} {M:cG} {a:Option aF} {n c:Nat}
theorem vR(a:i<M.aE.length):∃s,M.aE[i]?=aa s:=⟨_,gE a⟩
theorem VL(d:Good M){y x:Nat}(h:kD M y x):x<M.aE.length:=by
 obtain⟨s,c,a⟩:=h;unfold vn at a;obtain⟨q,b,rfl⟩:=dZ.1 a;have:=d.bG s (aI c) q b;have:=this.t1;have:= ‹Hp _ q›.t0;omega
theorem zY{x:Nat}(h:kD M m x):m<M.aE.length:=by
 obtain⟨s,a,b⟩:=h;exact(List.getElem?_eq_some_iff.1 a).1
set_option linter.defProp false in
def Ru(B:Wf h){k p:Nat}{E l:List Bool}(F:∀x,E.getD x ak=af↔lD (kD M) (λy=>y=M.start.toNat) x)(D:∀x,l.getD x ak=af↔lD (λy x=>kD M x y) (AP M) x)(f:l.length=n)(o:p≠k)(O:n<=300)(Q:VH)(J:∀v A,uQ h M n v A->Q v A)(G:List ah):=
 Ed G n k p (adn h k p n E l) Q (by
  intro m i;intros;rename_i g d;have H:=d;obtain⟨S,R,L,q,K,C⟩:=H;refine ay (λj=>?_) (λj=>?_)
  ·have j:=dT j;have a:i<n:=by omega
   obtain⟨N,I⟩:=kY (c:=n) K f a;obtain⟨s,z⟩:=kY (c:=n) q.row.row q.len a;have e:=C i;rw[iN (Nat.lt_irrefl i)]at e;rw[e]at z;refine⟨_,N,_,I,_,s,_,z,ay (λt=>?_) (λt=>?_)⟩
   ·obtain⟨u,w,r⟩:=Ai B d f o a (b:=l.getD i ak) (by rw[t];rfl);refine⟨_,s,u,w,?_⟩;rw[cL a (by omega)];exact fG (m-1) (by omega) r
   ·obtain⟨u,w,r⟩:=Ai B d f o a (b:=ak) (by rw[t];rfl);refine⟨_,s,u,w,?_⟩;rw[cL a (by omega)];exact fG (m-1) (by omega) r
  ·have j:=dF j;refine J _ _ ⟨k,L,rfl,q,λx P=>?_⟩;rw[C x,iP (by omega),bj,F,D];exact Iff.rfl)
theorem Mi(w:Wf h)(sm:Small M)(O:Good M)(r:iY h (ae a n c) M.aE):aW 96 [aq ⟨dK M a n c⟩] h (uQ h M n):=by
 obtain⟨T,ok⟩:=ni w r;have hl:=T.len;have hn:n<=300:=by rw[hl];exact sm.OB
 refine YW (dK M a n c) h _ ⟨_,qx M a n c,_,eR _,_,_,_,T.l3,_,_,_,Ve n (by omega),_,_,_,Ve n (by omega),_,afY,_,afY,?_⟩;generalize h.push (Bm M a n c)=g0 at*;have Z:=ok.wf;obtain⟨x3,y3,y6,z1,x0⟩:=Oh Z M n;refine⟨x3,y3,y6,z1,?_⟩;have x9:=T.ok x0.us.ok;refine⟨_,eR _,_,_,_,x9.l3,?_⟩;refine Eb (dK M a n c) h.ax (g0.ax+4) (g0.ax+5) a n c (akg g0 M n) (uQ h M n) (λmz i e en ec=>?_) n (i:=0) (e:=none) (en:=0) (ec:=0) ⟨by omega,rfl,_,_,0,x0,?_,?_⟩
 rotate_left
 ·rw[getElem?_replicate,iP (by omega)];rfl
 ·rw[bV];have:=sm.tot;omega
 intros;rename_i P hi;obtain⟨f1,f2,vs,F,cN,d,D,z8⟩:=hi;have t:=d.us.ok;refine ay (λJ=>?_) (λJ=>?_)
 ·have J:=dT J;obtain⟨s,E⟩:=vR (M:=M) (i:=i) (by omega);obtain⟨b,o,x',y,z,e1,e2,e3,e4,ar⟩:=T.row.K1 t E;obtain⟨V,l2,l3⟩:=tN sm E;have f:=ar.len;have hd:rP (M.aE.drop i)=s.bG.length+rP (M.aE.drop (i+1)):=by rw[rB E,wj]
  obtain⟨u,p1,p2,p3⟩:=Vq t.wf s.f x' y z;refine⟨_,e1,_,e2,_,Zo,u,p1,_,pk _ _,_,p3.l0,?_⟩;have U2:=d.us.ext p2;have B4:=d.b4.ok p2;have B5:=d.b5.ok p2;have z9:=d.us.Y8;have y7:=d.us.BN;have z3:=t.wf;generalize u.app (P.push Ut)=g2 at*;refine ay (λB=>?_) (λB=>?_)
  ·have B:s.f≠[]:=by simpa using B
   have C:=(Ok.refl U2.ok.wf).push (.cells [aA (i:Int)] 3 1 af);have kp:=cC g2 (.cells [aA (i:Int)] 3 1 af);have A:=U2.ext C;obtain⟨p,m⟩:∃p,F[2*n]?=aa p:=⟨_,gE (by rw[d.us.len];omega)⟩
   have x2:=d.dn.ln p (aI m);obtain⟨b',n',c',y5,x4,z7,y9,z2,N,x5⟩:=A.BN.snoc Z A.ok A.Y8 D m kp (by omega);have nX:∀k,usX g0 k->dV (ae e en ec)≠aa k:=λk hX e'=>A.BN.out _ _ D k e' hX;have U4:=A.tail rfl rfl y9 z2 (λj' B' hj hX=>N j' B' hj (nX j' hX)) x5;have Ut:=N _ _ (B4.ok C) (nX _ (.inr (.inr (.inl rfl))));have y2:=N _ _ (B5.ok C) (nX _ (.inr (.inr (.inr rfl))));have S4:=N _ _ (p3.ok C) (λe'=>by have:=y7.lt z3 D e';omega);refine⟨_,_,_,qi _,b',n',c',y5,x4,_,jc _ _,_,_,_,SB.l1 S4,?_⟩;have z4:(vs.length)=2*n+1:=by rw[d.us.BN.len];exact d.us.len
   exact Rt Z O hl hn E (by omega) ar V [] b' n' c' mz f2 _ y (j:=0) ⟨by omega,by omega,_,_,cN+1,⟨U4,Ut,y2,d.dn.fin (by omega) E B m⟩,by rw[getElem?_set,iP rfl,iP (by omega)],by omega⟩
  ·have B:s.f=[]:=by simpa using B
   refine⟨_,jc _ _,_,_,_,p3.l1,?_⟩;exact Rt Z O hl hn E (by omega) ar V [] e en ec mz f2 _ y (j:=0) ⟨by omega,by omega,vs,F,cN+1,⟨U2,B4,B5,d.dn.ajP E B⟩,D,by omega⟩
 ·have J:=dF J;obtain rfl:n=i:=by omega
  have y0:=T.ok t;have z6:=O.oz;have z5:=O.pY;obtain⟨S,hS⟩:∃S:Nat,M.start=(S:Int):=⟨M.start.toNat,by omega⟩
  have u0:S<n:=by omega
  have x6:M.start.toNat=S:=by omega
  have V:=y0.l1;rw[hS]at V;have C:=(Ok.refl t.wf).push (.cells [aA (S:Int)] 3 1 af);have kp:=cC P (.cells [aA (S:Int)] 3 1 af);refine⟨_,nV _,_,V,_,_,_,qi _,?_⟩;have A:=d.us.ext C;have B4:=d.b4.ok C;have B5:=d.b5.ok C;have rf:Rd (P.push (.cells [aA (S:Int)] 3 1 af)) 3 (sA P.ax 1 1) ([S].map iv):= .inr ⟨P.ax,0,_,1,af,rfl,kp,rfl⟩;have x1:=ok.trans (t.trans C);generalize P.push (.cells [aA (S:Int)] 3 1 af)=h1 at*;have w1:=x1.wf;have I:=A.adj (r:=0) (by omega);have H:=A.adj (r:=1) (by omega);have X:∀{y:Nat}{l:List Nat},((F.drop (0*n)).take n)[y]?=aa l->y<n/\l.length<=2300/\∀x,x∈l↔kD M y x:=λ{y l} f=>by
   rw[getElem?_take]at f;split at f
   ·next q=>
    rw[getElem?_drop]at f;refine⟨q,by have:=d.dn.ln l (aI f);omega,λx=>?_⟩;rw[d.dn.fw y l q f x,qN];exact⟨λc=>c.2,λc=>⟨q,c⟩⟩
   ·cases f
  have Y:∀{y:Nat}{l:List Nat},((F.drop (1*n)).take n)[y]?=aa l->y<n/\l.length<=2300/\∀x,x∈l↔kD M x y:=λ{y l} f=>by
   rw[getElem?_take]at f;split at f
   ·next q=>
    rw[getElem?_drop]at f;refine⟨q,by have:=d.dn.ln l (aI f);omega,λx=>?_⟩;rw[d.dn.bk y l q f x,qN];exact⟨λc=>c.2,λc=>⟨by rw[hl];exact zY c,c⟩⟩
   ·cases f
  have x8:∀y x,J5 ((F.drop (0*n)).take n) y x↔kD M y x:=λy x=>by
   unfold J5;rw[gD]
   cases U:((F.drop (0*n)).take n)[y]? with
   |some l=>exact(X U).2.2 x
   |none=>
    refine⟨λc=>(by cases c),λc=>?_⟩;have:=zY c;rw[List.getElem?_eq_none_iff,I.1]at U;omega
  have x7:∀y x,J5 ((F.drop (1*n)).take n) y x↔kD M x y:=λy x=>by
   unfold J5;rw[gD]
   cases U:((F.drop (1*n)).take n)[y]? with
   |some l=>exact(Y U).2.2 x
   |none=>
    refine⟨λc=>(by cases c),λc=>?_⟩;have:=VL O c;rw[List.getElem?_eq_none_iff,H.1]at U;omega
  obtain⟨p,m⟩:∃p,F[2*n]?=aa p:=⟨_,gE (by rw[d.us.len];omega)⟩
  have x2:=d.dn.ln p (aI m);have y8:Rd h1 3 (ae e en ec) (p.map iv):=(A.BN.own _ _ _ D m).rd;have R:∀x,x∈p↔AP M x:=λx=>by
   rw[d.dn.en p m x];refine⟨λc=>c.2,λc=>⟨?_,c⟩⟩;obtain⟨s,h2,_⟩:=c;have:=(List.getElem?_eq_some_iff.1 h2).1;omega
  refine(LW w1 (by omega) I.1 (λl g x G=>?_) (λl g=>?_) (abc w1 B4 I) rf (λx G=>?_) (by simp)).mono ?_
  ·obtain⟨y,f⟩:=List.mem_iff_getElem?.1 g;have:=VL O ((X f).2.2 x |>.1 G);omega
  ·obtain⟨y,f⟩:=List.mem_iff_getElem?.1 g;have:=(X f).2.1;omega
  ·rw[aX]at G;omega
  rintro _ g3 ⟨kl,L1,rfl,Q,z0⟩;refine⟨_,_,_,rfl,?_⟩;have W:=Q.row.ok;refine(LW W.wf (by omega) H.1 (λl g x G=>?_) (λl g=>?_) (abe W.wf (B5.ok W) (H.ok W)) (y8.ok W) (λx G=>?_) (by omega)).mono ?_
  ·obtain⟨y,f⟩:=List.mem_iff_getElem?.1 g;have:=zY ((Y f).2.2 x |>.1 G);omega
  ·obtain⟨y,f⟩:=List.mem_iff_getElem?.1 g;have:=(Y f).2.1;omega
  ·obtain⟨s,h2,_⟩:=(R x).1 G;have:=(List.getElem?_eq_some_iff.1 h2).1;omega
  rintro _ g4 ⟨kr,L2,rfl,K,y1⟩;refine⟨_,_,_,rfl,?_⟩;have y4:kr≠kl:=by have:=Q.row.lt;have:=K.row.new;omega
  have J:∀x,L1.getD x ak=af↔lD (kD M) (λy=>y=M.start.toNat) x:=λx=>by
   rw[z0 x];exact LI x8 (λx=>by rw[aX,x6]) x
  have B:∀x,L2.getD x ak=af↔lD (λy x=>kD M x y) (AP M) x:=λx=>by
   rw[y1 x];exact LI x7 R x
  exact Ru (n:=n) w1 J B K.len y4 hn (uQ h M n) (λv g' ⟨k1,L,e1,e2,e3⟩=>⟨k1,L,e1,e2.base x1,e3⟩) (dK M a n c) n (i:=0) ⟨by omega,rfl,L1,Q.trans K.row.ok,K.row.row,λx=>by rw[iN (dH _)]⟩
noncomputable def HW(M:cG):Bool:=fH M && !(@decide (kG M M.start.toNat) (fo _))
theorem O7{p:Prop}(h:b=af↔p):b=@decide p (fo _):=by
 cases b with
 |true=>exact(@decide_eq_true p (fo _) (h.1 rfl)).symm
 |false=>exact(@decide_eq_false p (fo _) (λc=>by cases h.2 c)).symm
theorem Lr(A:BG h)(w:Wf h)(k:Small M)(r:iY h (ae a n c) M.aE):aW 104 [aq ⟨dK M a n c⟩] h (λv z=>v=ai (HW M)/\Ok h z):=by
 obtain⟨u,p⟩:=ni w r;refine Xf (dK M a n c) h _ ⟨_,qx M a n c,?_⟩;generalize h.push (Bm M a n c)=g at*;have o:=(Ok.refl p.wf).room 12;have d:=u.ok o;have e:=p.trans o;refine⟨_,d.all,(Ls (A.ok e) e.wf k d.row).mono ?_⟩;rintro _ C ⟨rfl,m⟩;have f:=e.trans m;have b:=d.ok m;refine⟨_,rfl,ay (λq=>?_) (λq=>⟨?_,f⟩)⟩
 rotate_left
 ·unfold HW;rw[q];rfl
 have j:=sS q;have D:=b.len;have F:=j.oz;have E:=j.pY;refine⟨_,b.all,(Mi f.wf k j b.row).mono ?_⟩;rintro _ G ⟨B,L,rfl,i,t⟩;have l:=b.ok i.row.ok;obtain⟨s,y⟩:=kY (c:=n) i.row.row i.len (x:=M.start.toNat) (by omega);rw[show((M.start.toNat:Nat):Int)=M.start by omega]at s;refine⟨_,_,_,rfl,_,nV _,_,l.l1,_,s,_,y,⟨b.l1,Ho _⟩,?_,f.trans i.row.ok⟩;unfold HW;rw[q,fm,O7 (t M.start.toNat (by omega))]
end
end
section
structure Se(hb:aw)(R:Nat)(kt:Nat->Nat)(N:Nat)(X:Nat->Prop)(kl:Nat)(vs:List ah)(F:List (List Nat))(L:List Bool)(T:List Nat)(tv:ah)(g:aw):Prop where
 us:Us hb R kt N X vs F g
 br:BR hb kl N L g
 xk:X kl
 nk:∀r,r<R->kt r≠kl
 hT:F[R*N]?=aa T
 hv:vs[R*N]?=aa tv
section
variable {hb g:aw} {R:Nat} {kt:Nat->Nat} {N:Nat} {X:Nat->Prop} {kl:Nat} {vs:List ah} {F:List (List Nat)} {L:List Bool} {T:List Nat} {tv:ah}
theorem Se.own(s:Se hb R kt N X kl vs F L T tv g):kJ hb g 3 tv (T.map iv):=s.us.BN.own _ _ _ s.hv s.hT
theorem Se.rM(s:Se hb R kt N X kl vs F L T tv g):∃(a:Option aF)(c:Nat),tv=ae a T.length c:=by
 obtain⟨a,c,h⟩:=s.own.rM;rw[aG]at h;exact⟨a,c,h⟩
theorem Se.get(s:Se hb R kt N X kl vs F L T tv g){x:Nat}(a:x<N):aZ au 68 (sA kl N N) (aA (x:Int))=aa (cn kl x)/\aM au 4 g (cn kl x)=aa (ai (L.getD x ak)):=kY s.br.row.row s.br.len a
theorem Se.see(w:Wf hb)(s:Se hb R kt N X kl vs F L T tv g){x:Nat}(G:x<N)(K:T.length<=100000):
  ∃u:dJ,aQ au 4 (cn kl x) (ai af) g=aa (undef,u)/\Ok hb (u.app g)/\∃(b:Option aF)(n c:Nat)(i:dJ),bY au 27 27 tv (sA ((u.app g).ax) 1 1) ((u.app g).push (.cells [aA (x:Int)] 3 1 af))=aa (ae b n c,i)/\
   Se hb R kt N X kl (vs.set (R*N) (ae b n c)) (F.set (R*N) (T++[x])) (L.set x af) (T++[x]) (ae b n c) (i.app ((u.app g).push (.cells [aA (x:Int)] 3 1 af))):=by
 obtain⟨U,W,t⟩:=s.br.get (c:=N) (x:=(x:Int)) (by omega) (by omega);rw[bn]at t;obtain⟨u,z,l,C⟩:=t af w;refine⟨u,z,l.row.ok,?_⟩;have d:∀(k:Nat)(B:eE),k≠kl->g.get k=aa B->(u.app g).get k=aa B:=λk B J p=>C k B p J;have H:Us hb R kt N X vs F (u.app g):=⟨λr A=>d _ _ (s.nk r A) (s.us.cc r A),s.us.BN.nY λk B a p=>d k B (λc=>a (c▸s.xk)) p,l.row.ok,s.us.len,s.us.xt,s.us.inj,λk a=>by
  obtain⟨S,O⟩:True/\g.ax<=(u.app g).ax:=⟨trivial,by
   have e:=z;rw[eu afw s.br.row.row (by rw[aG,s.br.len];exact G) rfl rfl]at e;obtain rfl:dJ.set kl _=u:=by injection e with e;injection e with _ e
   exact aS _⟩
  exact cz (s.us.Y8 k a) O⟩
 generalize u.app g=M at*;have v:=(Ok.refl l.row.ok.wf).push (.cells [aA (x:Int)] 3 1 af);have D:=cC M (.cells [aA (x:Int)] 3 1 af);have h:=H.ext v;have f:=l.trans v;obtain⟨b,n,c,i,Q,V,E,o,m,q⟩:=h.BN.snoc w h.ok h.Y8 s.hv s.hT D K;have y:∀k,X k->dV tv≠aa k:=λk a e=>h.BN.out _ _ s.hv k e a;have I:=h.tail rfl rfl E o (λj B P a=>m j B P (y j a)) q;refine⟨b,n,c,i,Q,I,⟨f.len,⟨m _ _ f.row.row (y _ s.xk),f.row.new,o⟩⟩,s.xk,s.nk,?_,?_⟩
 ·rw[getElem?_set,iP rfl,iP (by rw[s.us.len];omega)]
 ·rw[getElem?_set,iP rfl,iP (by rw[s.us.BN.len,s.us.len];omega)]
theorem Se.pop(s:Se hb R kt N X kl vs F L T tv g)(D:0<T.length):∃(b:Option aF)(m d:Nat),cY au 27 tv (aa (aA 1)) none none g=aa (ae b m d)/\
  Se hb R kt N X kl (vs.set (R*N) (ae b m d)) (F.set (R*N) (T.drop 1)) L (T.drop 1) (ae b m d) g:=by
 obtain⟨b,m,d,C,y,t⟩:=s.own.from_ fs wu (z:=1) (by rw[aG];omega) (by rw[aG];omega);rw[<-List.map_drop]at y;refine⟨b,m,d,C,⟨λr B=>?_,⟨by rw[bT,bT];exact s.us.BN.len,λi v l q x=>?_,λi j A w p h a k o n=>?_,λi v q k u=>?_⟩,s.us.ok,by rw[bT];exact s.us.len,s.us.xt,s.us.inj,s.us.Y8⟩,s.br,s.xk,s.nk,?_,?_⟩
 ·have a:(r+1)*N<=R*N:=bJ _ B;rw[cM,dw]at a;rw[s.us.cc r B,wP _ _ _ _ _ (.inr a)]
 ·rcases cX q with⟨e,rfl⟩|⟨e,h⟩
  ·rcases cX x with⟨_,rfl⟩|⟨f,_⟩
   ·exact y
   ·exact absurd e f
  ·rcases cX x with⟨f,_⟩|⟨_,a⟩
   ·exact absurd f e
   ·exact s.us.BN.own i v l h a
 ·rcases cX h with⟨e,rfl⟩|⟨e,h⟩
  ·rcases cX a with⟨f,_⟩|⟨f,a⟩
   ·exact p (by rw[e,f])
   ·rw[t]at o;exact s.us.BN.Oy _ j _ w (λc=>f c.symm) s.hv a k o n
  ·rcases cX a with⟨f,rfl⟩|⟨f,a⟩
   ·rw[t]at n;exact s.us.BN.Oy _ i _ A (λc=>e c.symm) s.hv h k n o
   ·exact s.us.BN.Oy i j A w p h a k o n
 ·rcases cX q with⟨e,rfl⟩|⟨e,h⟩
  ·rw[t]at u;exact s.us.BN.out _ _ s.hv k u
  ·exact s.us.BN.out i v h k u
 ·rw[getElem?_set,iP rfl,iP (by rw[s.us.len];omega)]
 ·rw[getElem?_set,iP rfl,iP (by rw[s.us.BN.len,s.us.len];omega)]
end
theorem Js{T:List Nat}(h:0<T.length):∃s,T[0]?=aa s/\(∀x∈T.drop 1,x∈T)/\(∀x∈T,x∈T.drop 1\/x=s)/\s∈T/\(T.drop 1).length+1=T.length:=by
 cases T with
 |nil=>simp at h
 |cons s T=>exact⟨s,rfl,λx a=>cJ _ a,λx a=>(cO.1 a).symm,cH ..,by simp⟩
section
variable {h:aw} {M:cG} {a:Option aF} {n c k:Nat}
structure Sl(E:Nat->Nat->Prop)(F0:Nat->Prop)(N:Nat)(ex:Nat->Prop)(L:List Bool)(T:List Nat)(mz:Nat):Prop where
 inv:pL E F0 N L T ex
 bd:2*fO L+T.length<=2*N
 ms:2*fO L+T.length<=mz
def rI1(hb:aw)(M:cG)(n kl S:Nat)(a:Nat)(t:Option aF)(tn tc:Nat)(g:aw):Prop:=∃vs F L T,Se hb 0 (λ_=>0) n (λk=>k=kl) kl vs F L T (ae t tn tc) g/\Sl (kD M) (λy=>y=S) n (λ_=>False) L T a/\L.getD S ak=af
def rI2(hb:aw)(M:cG)(n kl S:Nat)(a:kH)(s c:Nat)(b j:Nat)(t:Option aF)(tn tc:Nat)(g:aw):Prop:=j<=a.bG.length/\b=a.bG.length-j/\∃vs F L T,Se hb 0 (λ_=>0) n (λk=>k=kl) kl vs F L T (ae t tn tc) g/\Sl (kD M) (λy=>y=S) n (λy=>y=s) L T (c-1)/\L.getD S ak=af/\(∀z∈(vn a).take j,L.getD z ak=af)/\lD (kD M) (λy=>y=S) s
def ahT(h:aw)(n:Nat)(P:Nat->Prop):VH:=λv a=>∃kl L,v=sA kl n n/\BR h kl n L a/\∀x,L.getD x ak=af↔P x
set_option linter.defProp false in
def ae3{hb:aw}(w:Wf hb)(gd:Good M)(x4:n=M.aE.length)(hn:n<=300)(Y:MB hb k M a n c){kl S s:Nat}{e:kH}(A:M.aE[s]?=aa e)(x0:e.bG.length<=2000)(mv:List ah)(x:Nat)(x3:0<x)(Q:VH):=
 Cb mv k n kl s (rI1 hb M n kl S) x (rI2 hb M n kl S e s x) Q (by
  intro C j t tn tc;intros;rename_i g l;obtain⟨f1,f2,vs,F,L,T,r,f,I,B,J⟩:=l;have ok:=r.us.ok;have G:=Y.ok ok;obtain⟨b,o,x',y,z,O,e2,e3,V,N⟩:=G.row.at_ A;have hm:=N.len;refine⟨_,eR _,_,_,_,G.l3,_,O,_,jc _ _,_,_,_,V,ay (λv=>?_) (λv=>?_)⟩
  ·have v:=dT v;obtain⟨q,H⟩:∃q,e.bG[j]?=aa q:=⟨_,gE (by omega)⟩
   obtain⟨bb,oo,d1,d2,d3,d4,d5,U⟩:=N.at_ H;have l:=gd.bG e (aI A) q (aI H);obtain⟨X,hX⟩:∃X:Nat,q.t=(X:Int):=⟨q.t.toNat,by have:=l.t0;omega⟩
   have m:X<n:=by have:=l.t1;omega
   have K:q.t.toNat=X:=by omega
   rw[hX]at U;have D:(vn e)[j]?=aa X:=by unfold vn;rw[getElem?_map,H];exact congrArg aa K
   have Z:(vn e).take (j+1)=(vn e).take j++[X]:=by rw[eI,D];rfl
   have E:kD M s X:=⟨e,A,aI D⟩
   obtain⟨x1,x2⟩:=r.get m;have W:=cL (i:=j) (n:=e.bG.length) (by omega) (by omega);have bd:=f.bd;have ms:=f.ms;refine⟨_,eR _,_,_,_,G.l3,_,O,_,jc _ _,_,_,_,V,_,d1,_,jE _ _,_,U,_,x1,_,x2,ay (λp=>?_) (λp=>?_)⟩
   ·rw[dt]at p;obtain⟨u,s1,s2,b',n',c',u2,s3,s4⟩:=r.see w m (by omega);obtain⟨i1,i2⟩:=f.inv.see m (.step J E) p;have P:X<L.length:=by rw[f.inv.len];exact m
    refine⟨_,x1,u,s1,_,_,_,qi _,b',n',c',u2,s3,?_⟩;rw[W];refine nE (C-1) (by omega) ⟨by omega,by omega,_,_,_,_,s4,⟨i1,by rw[bg,bw];omega,by rw[bg,bw];omega⟩,?_,λz h=>?_,J⟩
    ·rw[jr P];split
     ·rfl
     ·exact I
    ·rw[jr P];split
     ·rfl
     ·next R=>
      rw[Z,bH,aX]at h;rcases h with d|d
      ·exact B z d
      ·exact absurd d R
   ·rw[eC]at p;rw[W];refine nE (C-1) (by omega) ⟨by omega,by omega,vs,F,L,T,r,f,I,λz h=>?_,J⟩;rw[Z,bH,aX]at h;rcases h with d|d
    ·exact B z d
    ·rw[d];exact p
  ·have v:=dF v;rw[bm (by unfold vn;rw[aG];omega)]at B;refine C8 (x-1) (by omega) ⟨vs,F,L,T,r,⟨f.inv.done λz E=>?_,f.bd,f.ms⟩,I⟩;obtain⟨s',d,h2⟩:=E;rw[A]at d;obtain rfl:=aC d;exact B z h2)
theorem Tu(w:Wf h)(R:Small M)(O:Good M)(r:iY h (ae a n c) M.aE):aW 149 [aq ⟨dK M a n c⟩] h (ahT h n (lD (kD M) (λy=>y=M.start.toNat))):=by
 obtain⟨D,ok⟩:=ni w r;have W:=D.len;have hn:n<=300:=by rw[W];exact R.OB
 have x6:=O.oz;have x5:=O.pY;obtain⟨S,hS⟩:∃S:Nat,M.start=(S:Int):=⟨M.start.toNat,by omega⟩
 have J:S<n:=by omega
 have P:M.start.toNat=S:=by omega
 rw[P];refine Tt (dK M a n c) h _ ⟨_,qx M a n c,_,eR _,_,_,_,D.l3,_,_,_,Xj n (by omega),?_⟩;generalize h.push (Bm M a n c)=f at*;have K:=ok.wf;have X:=BR.new K n;have V:=D.ok X.row.ok;have Z:=V.l1;rw[hS]at Z;obtain⟨x1,x2,x3⟩:=X.get (c:=n) (x:=(S:Int)) (by omega) (by omega);obtain⟨u,s1,B,s3⟩:=x3 af K;rw[bn]at B;refine⟨_,nV _,_,Z,_,x1,u,s1,?_⟩;generalize u.app (f.push (.cells ((aH n ak).map ai) 4 1 af))=q at*;have U:=D.ok B.row.ok;have l2:=U.l1;rw[hS]at l2;refine⟨_,nV _,_,l2,_,_,_,qi _,?_⟩;have op:=(Ok.refl B.row.ok.wf).push (.cells [aA (S:Int)] 3 1 af);have kp:=cC q (.cells [aA (S:Int)] 3 1 af);have N:=B.trans op;have x7:=B.row.lt;have x4:f.ax<=q.ax:=B.row.ok.nx;have A:Se f 0 (λ_=>0) n (λk=>k=f.ax) f.ax [sA q.ax 1 1] [[S]] ((aH n ak).set S af) [S] (sA q.ax 1 1) (q.push (.cells [aA (S:Int)] 3 1 af)):=by
  refine⟨⟨λr o=>absurd o (dH _),⟨rfl,λi v l C Y=>?_,λi j v v' x0 h1 h2=>?_,λi v C k hk=>?_⟩,N.row.ok,by simp,λr o=>absurd o (dH _),λr _ o=>absurd o (dH _),λk hX=>by rw[hX];exact N.row.lt⟩,N,rfl,λr o=>absurd o (dH _),by rw[iE];rfl,by rw[iE];rfl⟩
  ·cases i with
   |zero=>
    obtain rfl:=aC C;obtain rfl:=aC Y;exact kJ.built (vs:=[aA (S:Int)]) kp x4 (by simp[ft])
   |succ i=>cases C
  ·cases i with
   |zero=>cases j with
    |zero=>exact absurd rfl x0
    |succ j=>cases h2
   |succ i=>cases h1
  ·cases i with
   |zero=>
    obtain rfl:=aC C;have:q.ax=k:=aC hk;show ¬k=f.ax;omega
   |succ i=>cases C
 have hc:fO (aH n ak)=n:=by simp[fO]
 obtain⟨i1,i2⟩:=(BC (E:=kD M) (F:=λy=>y=S) n (λ_=>False)).see J (.base rfl) (by rw[gD,getElem?_replicate];split<;>rfl);refine Ca (dK M a n c) h.ax n f.ax (rI1 f M n f.ax S) _ (λmz t tn tc=>?_) (2*n) ⟨_,_,_,_,A,⟨i1,by simp;omega,by simp;omega⟩,by rw[jr (by rw[bE];exact J),iP rfl]⟩;intros;rename_i gg hi;obtain⟨vs,F,L,T,A,g,I⟩:=hi;have x9:tn=T.length:=by
  obtain⟨a',c',e⟩:=A.rM;injection e
 refine ay (λG=>?_) (λG=>?_)
 ·have G:=dT G;obtain⟨s,hs,p1,p2,p3,p4⟩:=Js (T:=T) (by omega);obtain⟨p,e1,e2⟩:=atG A.own.rd hs;obtain⟨b,m,d,e3,Q⟩:=A.pop (by omega);have x8:=(g.inv.tin s p3).1;obtain⟨st,H⟩:=vR (M:=M) (i:=s) (by omega);have bd:=g.bd;have ms:=g.ms;refine⟨_,e1,_,e2,b,m,d,e3,?_⟩;exact ae3 K O W hn D H (tN R H).1 [] mz (by omega) _ st.bG.length (j:=0) ⟨by omega,by omega,_,_,L,_,Q,⟨g.inv.take p1 p2,by omega,by omega⟩,I,λz hz=>(by rw[dU]at hz;cases hz),g.inv.snd s (g.inv.tin s p3).2⟩
 ·have G:=dF G;obtain rfl:T=[]:=aY (by omega);exact⟨_,L,rfl,A.br.base ok,g.inv.final λx hx=>by rw[hx];exact I⟩
end
end
section
section
variable {hb g:aw} {R:Nat} {kt:Nat->Nat} {N:Nat} {X:Nat->Prop} {kl:Nat} {vs:List ah} {F:List (List Nat)} {L:List Bool} {T:List Nat} {tv:ah}
theorem Se.add(w:Wf hb)(s:Se hb R kt N X kl vs F L T tv g){r t:Nat}(i:r<R)(v:t<N)(x:Nat)(S:∀l∈F,l.length<=100000):
  ∃(l:List Nat)(a:Option aF)(c:Nat),F[r*N+t]?=aa l/\aZ au 126 (sA (kt r) N N) (aA (t:Int))=aa (cn (kt r) t)/\aM au 27 g (cn (kt r) t)=aa (ae a l.length c)/\
  ∃(b:Option aF)(f d:Nat)(u:dJ),bY au 27 27 (ae a l.length c) (sA g.ax 1 1) (g.push (.cells [aA (x:Int)] 3 1 af))=aa (ae b f d,u)/\
  ∃n:dJ,aQ au 27 (cn (kt r) t) (ae b f d) (u.app (g.push (.cells [aA (x:Int)] 3 1 af)))=aa (undef,n)/\
   Se hb R kt N X kl (vs.set (r*N+t) (ae b f d)) (F.set (r*N+t) (l++[x])) L T tv (n.app (u.app (g.push (.cells [aA (x:Int)] 3 1 af)))):=by
 obtain⟨l,a,c,p,C,I,M⟩:=s.us.ld i v;have D:=(Ok.refl s.us.ok.wf).push (.cells [aA (x:Int)] 3 1 af);have J:=cC g (.cells [aA (x:Int)] 3 1 af);have m:=s.us.ext D;have h:=s.br.trans D;obtain⟨b,f,d,u,Q,V,K,H,o,y⟩:=m.BN.snoc w m.ok m.Y8 C p J (S l (aI p));have E:∀k,X k->dV (ae a l.length c)≠aa k:=λk q e=>m.BN.out _ _ C k e q;obtain⟨n,O,G,A⟩:=m.put w i v rfl rfl K H (λj B P q=>o j B P (E j q)) y;have U:=TL i v;have z:(r+1)*N<=R*N:=bJ _ i;rw[cM,dw]at z;refine⟨l,a,c,p,I,(M g s.us).1,b,f,d,u,Q,n,O,G,⟨h.len,A _ _ (o _ _ h.row.row (E _ s.xk)) (λe=>s.nk r i e.symm),h.row.new,G.ok⟩,s.xk,s.nk,?_,?_⟩
 ·rw[getElem?_set,iN (by omega)];exact s.hT
 ·rw[getElem?_set,iN (by omega)];exact s.hv
end
structure DB(M:cG)(n i j cN:Nat)(F:List (List Nat)):Prop where
 bk:∀t l,t<n->F[0*n+t]?=aa l->∀x,x∈l↔PrM M i j x t
 ln:∀l∈F,l.length<=cN
theorem DB.arc{M:cG}{n:Nat}{F:List (List Nat)}(d:DB M n i j m F){s:kH}{q:iu}(g:M.aE[i]?=aa s)(h:s.bG[j]?=aa q){T:Nat}(k:q.t.toNat=T){l:List Nat}(b:F[0*n+T]?=aa l):DB M n i (j+1) (m+1) (F.set (0*n+T) (l++[i])):=by
 have o:=d.ln l (aI b);refine⟨λt l' f a x=>?_,BT d.ln (by rw[bg,bw];omega)⟩;rw[I4 g h,k];rcases cX a with⟨e,rfl⟩|⟨e,a⟩
 ·obtain rfl:t=T:=by omega
  rw[bH,aX,d.bk _ l f b x];exact⟨λc=>c.imp id λc=>⟨c,rfl⟩,λc=>c.imp id λc=>c.1⟩
 ·rw[d.bk t l' f a x];exact⟨.inl,λc=>c.elim id λc=>absurd (by rw[c.2]) e⟩
theorem DB.tail{M:cG}{n:Nat}{F:List (List Nat)}(d:DB M n i 0 m F){l':List Nat}(b:l'.length<=m+1):DB M n i 0 (m+1) (F.set (1*n) l'):=by
 refine⟨λt l c a x=>?_,BT d.ln b⟩;rcases cX a with⟨e,_⟩|⟨_,h⟩
 ·omega
 ·exact d.bk t l c h x
theorem DB.ax{M:cG}{n:Nat}{F:List (List Nat)}(d:DB M n i j m F){s:kH}(b:M.aE[i]?=aa s)(c:s.bG.length<=j):DB M n (i+1) 0 m F:=
 ⟨λt l e a x=>by rw[d.bk t l e a x,I3 b c,qN],d.ln⟩
def bkE(M:cG):Nat->Nat->Prop:=λy x=>kD M x y
section
variable {h:aw} {M:cG} {a:Option aF} {n c k kl kb:Nat}
def eX(kl kb:Nat):Nat->Prop:=λk=>k=kl\/k=kb
def aga(hb:aw)(M:cG)(n kl kb i j b a:Nat)(t:Option aF)(tn tc:Nat)(g:aw):Prop:=∃vs F L T,Se hb 1 (λ_=>kb) n (eX kl kb) kl vs F L T (ae t tn tc) g/\DB M n i j a F/\pL (bkE M) (AP M) n L T (λ_=>False)/\2*fO L+T.length<=2*n/\(∀x,L.getD x ak=af↔x<b/\AP M x)
def eI1(hb:aw)(M:cG)(n kl kb:Nat)(b i:Nat)(t:Option aF)(tn tc:Nat)(g:aw):Prop:=i<=n/\b=n-i/\∃a,aga hb M n kl kb i 0 i a t tn tc g/\a+rP (M.aE.drop i)+(n-i)<=2300
def eI2(hb:aw)(M:cG)(n kl kb:Nat)(a:kH)(t:Option aF)(tn tc i:Nat)(b j:Nat)(g:aw):Prop:=j<=a.bG.length/\b=a.bG.length-j/\∃c,aga hb M n kl kb i j (i+1) c t tn tc g/\c+(a.bG.length-j)+rP (M.aE.drop (i+1))+(n-(i+1))<=2300
set_option linter.defProp false in
def UR{hb:aw}(w:Wf hb)(gd:Good M)(x3:n=M.aE.length)(hn:n<=300)(N:MB hb k M a n c){i:Nat}{e:kH}(h:M.aE[i]?=aa e)(hi:i<n)(x1:e.bG.length<=2000)(U:List ah)(t:Option aF)(tn tc A:Nat)(x2:A=n-i)(Q:VH):=
 CW U k n kl kb t tn tc (eI1 hb M n kl kb) A i (eI2 hb M n kl kb e t tn tc i) Q (by
  intro G j;intros;rename_i g d;obtain⟨f1,f2,P,⟨vs,F,L,T,s,x,m,H,E⟩,x0⟩:=d;have ok:=s.us.ok;have p:=N.ok ok;obtain⟨b,o,x',y,z,C,e2,e3,K,B⟩:=p.row.at_ h;have hm:=B.len;refine⟨_,eR _,_,_,_,p.l3,_,C,_,jc _ _,_,_,_,K,ay (λf=>?_) (λf=>?_)⟩
  ·have f:=dT f;obtain⟨q,v⟩:∃q,e.bG[j]?=aa q:=⟨_,gE (by omega)⟩
   obtain⟨bb,oo,d1,d2,d3,d4,d5,I⟩:=B.at_ v;have d:=gd.bG e (aI h) q (aI v);obtain⟨Y,hY⟩:∃Y:Nat,q.t=(Y:Int):=⟨q.t.toNat,by have:=d.t0;omega⟩
   have R:Y<n:=by have:=d.t1;omega
   have O:q.t.toNat=Y:=by omega
   rw[hY]at I;obtain⟨l,ra,rc,h1,J,X,b',n',V,u,a1,S,W,D⟩:=s.add w (r:=0) (t:=Y) (by omega) R i (λl Z=>by have:=x.ln l Z;omega);refine⟨_,eR _,_,_,_,p.l3,_,C,_,jc _ _,_,_,_,K,_,d1,_,jE _ _,_,I,_,J,_,_,_,X,_,_,_,qi _,b',n',V,u,a1,_,J,S,W,?_⟩;rw[cL (i:=j) (n:=e.bG.length) (by omega) (by omega)];exact fG (G-1) (by omega) ⟨by omega,by omega,P+1,⟨_,_,L,T,D,x.arc h v O h1,m,H,E⟩,by omega⟩
  ·have f:=dF f;rw[cL hi (by omega)];exact nE (n-(i+1)) (by omega) ⟨by omega,rfl,P,⟨vs,F,L,T,s,x.ax h (by omega),m,H,E⟩,by omega⟩)
def Bks(M:cG)(n:Nat)(F:List (List Nat)):Prop:=∀t l,t<n->F[0*n+t]?=aa l->l.length<=2300/\∀x,x∈l↔kD M x t
def eI3(hb:aw)(M:cG)(n kl kb:Nat)(a:Nat)(t:Option aF)(tn tc:Nat)(g:aw):Prop:=∃vs F L T,Se hb 1 (λ_=>kb) n (eX kl kb) kl vs F L T (ae t tn tc) g/\Sl (bkE M) (AP M) n (λ_=>False) L T a/\(∀x,AP M x->L.getD x ak=af)/\Bks M n F
def eI4(hb:aw)(M:cG)(n kl kb s:Nat)(a:List Nat)(b:Nat)(c j:Nat)(t:Option aF)(tn tc:Nat)(g:aw):Prop:=j<=a.length/\c=a.length-j/\∃vs F L T,Se hb 1 (λ_=>kb) n (eX kl kb) kl vs F L T (ae t tn tc) g/\Sl (bkE M) (AP M) n (λy=>y=s) L T (b-1)/\(∀x,AP M x->L.getD x ak=af)/\Bks M n F/\F[0*n+s]?=aa a/\(∀z∈a.take j,L.getD z ak=af)/\lD (bkE M) (AP M) s
theorem Bks.tail{F:List (List Nat)}(b:Bks M n F)(l':List Nat):Bks M n (F.set (1*n) l'):=λt l c a=>by
 rcases cX a with⟨e,_⟩|⟨_,h⟩
 ·omega
 ·exact b t l c h
set_option linter.defProp false in
def Z3{hb:aw}(w:Wf hb)(hn:n<=300)(x4:n=M.aE.length){s:Nat}(K:s<n){e:List Nat}(U:List ah)(h:Nat)(x3:0<h)(x0:e.length<=2300)(C:∀x,x∈e↔kD M x s)(Q:VH):=
 CY U n kl kb s (eI3 hb M n kl kb) h (eI4 hb M n kl kb s e h) Q (by
  intro B j t tn tc;intros;rename_i g G;obtain⟨f1,f2,vs,F,L,T,k,c,d,q,o,A,E⟩:=G;obtain⟨l,ra,rc,b,h2,H,h4⟩:=k.us.ld (r:=0) (i:=s) (by omega) K;rw[o]at b;obtain rfl:=aC b;obtain⟨O,l2⟩:=h4 g k.us;refine⟨_,H,_,_,_,O,ay (λv=>?_) (λv=>?_)⟩
  ·have v:=dT v;obtain⟨x,D⟩:∃x,e[j]?=aa x:=⟨_,gE (by omega)⟩
   obtain⟨p,X,e2⟩:=atG l2 D;have y:bkE M s x:=(C x).1 (aI D);have f:x<n:=by have:=zY y;omega
   have P:e.take (j+1)=e.take j++[x]:=by rw[eI,D];rfl
   obtain⟨R,x2⟩:=k.get f;have N:=cL (i:=j) (n:=e.length) (by omega) (by omega);have bd:=c.bd;have ms:=c.ms;refine⟨_,H,_,_,_,O,_,X,_,e2,_,R,_,x2,ay (λm=>?_) (λm=>?_)⟩
   ·rw[dt]at m;obtain⟨u,s1,s2,b',n',V,S,Y,Z⟩:=k.see w f (by omega);obtain⟨W,i2⟩:=c.inv.see f (.step E y) m;have I:x<L.length:=by rw[c.inv.len];exact f
    refine⟨_,R,u,s1,_,_,_,qi _,b',n',V,S,Y,?_⟩;rw[N];refine nE (B-1) (by omega) ⟨by omega,by omega,_,_,_,_,Z,⟨W,by rw[bg,bw];omega,by rw[bg,bw];omega⟩,λz a=>?_,q.tail _,?_,λz a=>?_,E⟩
    ·rw[jr I];split
     ·rfl
     ·exact d z a
    ·rw[getElem?_set,iN (by omega)];exact o
    ·rw[jr I];split
     ·rfl
     ·next J=>
      rw[P,bH,aX]at a;rcases a with b|b
      ·exact A z b
      ·exact absurd b J
   ·rw[eC]at m;rw[N];refine nE (B-1) (by omega) ⟨by omega,by omega,vs,F,L,T,k,c,d,q,o,λz a=>?_,E⟩;rw[P,bH,aX]at a;rcases a with b|b
    ·exact A z b
    ·rw[b];exact m
  ·have v:=dF v;rw[bm (by omega)]at A;exact C8 (h-1) (by omega) ⟨vs,F,L,T,k,⟨c.inv.done λz y=>A z ((C z).2 y),c.bd,c.ms⟩,d,q⟩)
set_option linter.defProp false in
def ad0{hb:aw}(w:Wf hb)(x:Ok h hb)(D:n<=300)(B:n=M.aE.length)(C:List ah):=
 CX C n kl kb (eI3 hb M n kl kb) (ahT h n (lD (bkE M) (AP M))) (by
  intro v t tn tc;intros;rename_i g r;obtain⟨vs,F,L,T,c,a,f,l⟩:=r;have P:tn=T.length:=by
   obtain⟨U,Q,e⟩:=c.rM;injection e
  refine ay (λi=>?_) (λi=>?_)
  ·have i:=dT i;obtain⟨s,H,N,G,A,V⟩:=Js (T:=T) (by omega);obtain⟨p,E,J⟩:=atG c.own.rd H;obtain⟨b,m,d,I,u⟩:=c.pop (by omega);have o:=(a.inv.tin s A).1;have S:=a.bd;have R:=a.ms;obtain⟨k,q⟩:∃k,F[0*n+s]?=aa k:=⟨_,gE (by rw[c.us.len];omega)⟩
   obtain⟨K,O⟩:=l s k o q;refine⟨_,E,_,J,b,m,d,I,?_⟩;exact Z3 w D B o [] v (by omega) K O _ k.length (j:=0) ⟨by omega,by omega,_,_,L,_,u,⟨a.inv.take N G,by omega,by omega⟩,f,l.tail _,by rw[getElem?_set,iN (by omega)];exact q,λz y=>(by rw[dU]at y;cases y),a.inv.snd s (a.inv.tin s A).2⟩
  ·have i:=dF i;obtain rfl:T=[]:=aY (by omega);exact⟨_,L,rfl,c.br.base x,a.inv.final f⟩)
theorem WE(w:Wf h)(S:Small M)(gd:Good M)(r:iY h (ae a n c) M.aE):aW 150 [aq ⟨dK M a n c⟩] h (ahT h n (lD (bkE M) (AP M))):=by
 obtain⟨E,ok⟩:=ni w r;have d:=E.len;have Q:n<=300:=by rw[d];exact S.OB
 refine WD (dK M a n c) h _ ⟨_,qx M a n c,_,eR _,_,_,_,E.l3,_,_,_,Xj n (by omega),?_⟩;generalize h.push (Bm M a n c)=f at*;have I:=ok.wf;have V:=BR.new I n;have x6:(f.push (.cells ((aH n ak).map ai) 4 1 af)).ax=f.ax+1:=rfl;generalize f.push (.cells ((aH n ak).map ai) 4 1 af)=G at*;have x0:=E.ok V.row.ok;refine⟨_,eR _,_,_,_,x0.l3,_,_,_,Ve n (by omega),?_⟩;have op:=(Ok.refl V.row.ok.wf).push (sV n);have kp:=cC G (sV n);have R:=V.trans op;have Z:=R.row.lt;have W:=op.wf _ _ kp;have A:∀{i:Nat}{v:ah},(aH (n+1) AV)[i]?=aa v->v=AV:=λ{i v} d=>by
  rw[getElem?_replicate]at d;split at d
  ·exact(aC d).symm
  ·cases d
 have D:∀{i:Nat}{l:List Nat},(aH (n+1) ([]:List Nat))[i]?=aa l->l=[]:=λ{i l} d=>by
  rw[getElem?_replicate]at d;split at d
  ·exact(aC d).symm
  ·cases d
 have p:Se f 1 (λ_=>G.ax) n (eX f.ax G.ax) f.ax (aH (n+1) AV) (aH (n+1) []) (aH n ak) [] nA (G.push (sV n)):=by
  refine⟨⟨λr X=>?_,⟨by rw[bE,bE],λi v l J d=>?_,λi j v v' _ J _ k K=>?_,λi v J k K=>?_⟩,R.row.ok,by rw[bE];omega,λr X=>⟨.inr rfl,by omega⟩,λr r' X x7 x3=>absurd (by omega) x3,λk hX=>?_⟩,R,.inl rfl,λr X=>by omega,?_,?_⟩
  ·have:r=0:=by omega
   subst this;rw[iE,bV,List.take_replicate,show min n (n+1)=n by omega];exact kp
  ·rw[A J,D d];exact kJ.nil _ _ _
  ·rw[A J]at K;cases K
  ·rw[A J]at K;cases K
  ·rcases hX with rfl|rfl
   ·exact Z
   ·exact W
  ·rw[getElem?_replicate,iP (by omega)]
  ·rw[getElem?_replicate,iP (by omega)];rfl
 have hc:fO (aH n ak)=n:=by simp[fO]
 have Y:∀x,(aH n ak).getD x ak=ak:=λx=>by rw[gD,getElem?_replicate];split<;>rfl
 refine CV (dK M a n c) h.ax n f.ax G.ax (eI1 f M n f.ax G.ax) _ (λmz i t tn tc=>?_) n (i:=0) (t:=none) (tn:=0) (tc:=0) ⟨by omega,rfl,0,⟨_,_,_,_,p,⟨λt l ht d x=>?_,λl d=>?_⟩,BC n _,by rw[hc];simp,λx=>?_⟩,by rw[bV];have:=S.tot;omega⟩
 rotate_left
 ·rw[D d,qN];exact⟨λc=>(by cases c),λc=>absurd c.1 (dH _)⟩
 ·rw[List.eq_of_mem_replicate d];exact aS _
 ·rw[Y];exact⟨λc=>(by cases c),λc=>absurd c.1 (dH _)⟩
 intros;rename_i gg q;obtain⟨f1,f2,cN,⟨vs,F,L,T,p,H,B,U,P⟩,x5⟩:=q;have O:=E.ok p.us.ok;refine⟨_,eR _,_,_,_,O.l3,ay (λN=>?_) (λN=>?_)⟩
 ·have N:=dT N;have q:i<n:=by omega
  obtain⟨s,g⟩:=vR (M:=M) (i:=i) (by omega);obtain⟨b,o,x',y,z,e1,e2,e3,e4,ar⟩:=O.row.at_ g;obtain⟨l1,l2,l3⟩:=tN S g;have hd:rP (M.aE.drop i)=s.bG.length+rP (M.aE.drop (i+1)):=by rw[rB g,wj]
  refine⟨_,eR _,_,_,_,O.l3,_,e1,_,pk _ _,_,e3,ay (λm=>?_) (λm=>?_)⟩
  ·have m:s.f≠[]:=by simpa using m
   have x4:=H.ln T (aI p.hT);obtain⟨x1,x2⟩:=p.get q;have h0:L.getD i ak=ak:=by
    cases hb:L.getD i ak with
    |false=>rfl
    |true=>have:=(P i).1 hb;omega
   obtain⟨u,s1,s2,b',n',c',u2,s3,s4⟩:=p.see I q (by omega);obtain⟨i1,i2⟩:=B.see q (.base ⟨s,g,m⟩) h0;have C:i<L.length:=by rw[B.len];exact q
   refine⟨_,x1,u,s1,_,_,_,qi _,b',n',c',u2,s3,?_⟩;refine UR I gd d Q E g q l1 [] b' n' c' mz f2 _ s.bG.length (j:=0) ⟨by omega,by omega,cN+1,⟨_,_,_,_,s4,H.tail (by rw[bg,bw];omega),i1,by rw[bg,bw];omega,λx=>?_⟩,by omega⟩;rw[jr C];split
   ·next e=>subst e;exact⟨λ_=>⟨by omega,s,g,m⟩,λ_=>rfl⟩
   ·next e=>rw[P x];exact⟨λc=>⟨by omega,c.2⟩,λc=>⟨by omega,c.2⟩⟩
  ·have m:s.f=[]:=by simpa using m
   refine UR I gd d Q E g q l1 [] t tn tc mz f2 _ s.bG.length (j:=0) ⟨by omega,by omega,cN+1,⟨vs,F,L,T,p,⟨H.bk,λl d=>Nat.le_succ_of_le (H.ln l d)⟩,B,U,λx=>?_⟩,by omega⟩;rw[P x];refine⟨λc=>⟨by omega,c.2⟩,λc=>⟨?_,c.2⟩⟩;rcases de x i with h3|h3
   ·exact h3
   ·obtain rfl:x=i:=by omega
    obtain⟨s',h4,h5⟩:=c.2;rw[g]at h4;obtain rfl:=aC h4;exact absurd m h5
 ·have N:=dF N;obtain rfl:n=i:=by omega
  refine ad0 I ok Q d (dK M a n c) (2*n) ⟨vs,F,L,T,p,⟨B,U,U⟩,λx hx=>(P x).2 ⟨?_,hx⟩,λt l ht C=>⟨by have:=H.ln l (aI C);omega,λx=>?_⟩⟩
  ·obtain⟨s,h2,_⟩:=hx;have:=(List.getElem?_eq_some_iff.1 h2).1;omega
  ·rw[H.bk t l ht C x,qN];exact⟨λc=>c.2,λc=>⟨by rw[d];exact zY c,c⟩⟩
end
end
section
section
variable {h:aw} {M:cG} {a:Option aF} {n c:Nat}
theorem Jw(r:iY g (ae a n c) M.aE):iz 4 (aq ⟨dK M a n c⟩) (aq ⟨dK M a n c⟩)=af:=by
 obtain⟨h,j,⟨_,⟨b|b,_⟩|⟨k,e,cs,i,z,f,l,b,_⟩⟩,_,d⟩:=r
 ·rw[show dK M a n c=[aA M.kind,aA M.start,strOf M.lead,nA] by unfold dK;rw[b]];simp[iz,Fu,strOf]
 ·exact absurd b d
 ·rw[show dK M a n c=[aA M.kind,aA M.start,strOf M.lead,gG k e (h.map yC).length f] by unfold dK;rw[b]];simp[iz,Fu,strOf]
set_option linter.defProp false in
def NS(B:Wf h){k p:Nat}{E l:List Bool}(F:∀x,E.getD x ak=af↔lD (kD M) (λy=>y=M.start.toNat) x)(D:∀x,l.getD x ak=af↔lD (bkE M) (AP M) x)(f:l.length=n)(o:p≠k)(O:n<=300)(Q:VH)(J:∀v A,uQ h M n v A->Q v A)(G:List ah):=
 B8 G n k p (adn h k p n E l) Q (by
  intro m i;intros;rename_i g d;have H:=d;obtain⟨S,R,L,q,K,C⟩:=H;refine ay (λj=>?_) (λj=>?_)
  ·have j:=dT j;have a:i<n:=by omega
   obtain⟨N,I⟩:=kY (c:=n) K f a;obtain⟨s,z⟩:=kY (c:=n) q.row.row q.len a;have e:=C i;rw[iN (Nat.lt_irrefl i)]at e;rw[e]at z;refine⟨_,s,_,z,ay (λt=>?_) (λt=>?_)⟩
   ·obtain⟨u,w,r⟩:=Ai B d f o a (b:=l.getD i ak) (by rw[t];rfl);refine⟨_,N,_,I,_,s,u,w,?_⟩;rw[cL a (by omega)];exact fG (m-1) (by omega) r
   ·obtain⟨u,w,r⟩:=Ai B d f o a (b:=ak) (by rw[t];rfl);refine⟨_,s,u,w,?_⟩;rw[cL a (by omega)];exact fG (m-1) (by omega) r
  ·have j:=dF j;refine J _ _ ⟨k,L,rfl,q,λx P=>?_⟩;rw[C x,iP (by omega),bj,F,D];exact Iff.rfl)
theorem Tk(w:Wf h)(k:Small M)(p:Good M)(r:iY h (ae a n c) M.aE):aW 114 [aq ⟨dK M a n c⟩] h (uQ h M n):=by
 obtain⟨o,t⟩:=ni w r;have C:=o.len;have u:n<=300:=by rw[C];exact k.OB
 refine Tj (dK M a n c) h _ ⟨_,qx M a n c,?_⟩;generalize h.push (Bm M a n c)=g at*;have s:=(Ok.refl t.wf).room 6;have b:=o.ok s;have f:=t.trans s;have y:=Jw b.row;refine⟨_,b.all,?_⟩;have B:=b.all;generalize Go.Ab.room g 6=K at*;refine(Tu f.wf k p b.row).mono ?_;rintro _ J ⟨A,G,rfl,d,q⟩;have j:=b.ok d.row.ok;refine⟨_,_,_,rfl,_,j.all,(WE d.row.ok.wf k p j.row).mono ?_⟩;rintro _ O ⟨D,N,rfl,e,l⟩;refine⟨_,_,_,rfl,⟨B,y⟩,?_⟩;have m:D≠A:=by have:=d.row.lt;have:=e.row.new;omega
 exact NS (n:=n) f.wf q l e.len m u (uQ h M n) (λv I ⟨E,L,z,H,F⟩=>⟨E,L,z,H.base f,F⟩) (dK M a n c) n (i:=0) ⟨by omega,rfl,G,d.trans e.row.ok,e.row.row,λx=>by rw[iN (dH _)]⟩
end
end
variable{T:aD}
section
noncomputable def ahV:TypeInfo:=(gF au 44).getD default
theorem ae5:gF au 44=aa ahV:=by kernel_rfl
theorem XZ:ahV.size=2:=by kernel_rfl
theorem Tp:ahV.bytes=40:=by kernel_rfl
noncomputable def ahW:TypeInfo:=(gF au 46).getD default
theorem ae6:gF au 46=aa ahW:=by kernel_rfl
theorem X8:ahW.size=4:=by kernel_rfl
theorem Tq:ahW.bytes=40:=by kernel_rfl
theorem alo:fD au 22=af:=by kernel_rfl
theorem alp:fD au 42=af:=by kernel_rfl
theorem akL(f:List UInt8)(a:Option aF)(n c:Nat):bC au 22 1 [(0,aq ⟨[strOf f,ae a n c]⟩)]=aa (.cells [strOf f,ae a n c] 44 2 af,pw 1 1):=by cases a<;>kernel_rfl
theorem ai1(q:iu):bC au 42 1 [(0,aq ⟨jU q⟩)]=aa (.cells (jU q) 46 4 af,pw 1 1):=by kernel_rfl
theorem afs{l:List (kH×ah)}:∀r∈l.map yC,r.length=2:=λr a=>by
 obtain⟨q,_,rfl⟩:=dZ.1 a;rfl
structure mE(h0 h:aw)(v:ah)(ps:List (kH×ah)):Prop where
 row:hJ h0 h 44 2 v (ps.map yC)
 bG:∀(i:Nat)(p:kH×ah),ps[i]?=aa p->hJ h0 h 46 4 p.2 (p.1.bG.map jU)
 ne:∀(i:Nat)(p:kH×ah),ps[i]?=aa p->∀k,dV p.2=aa k->dV v≠aa k
 Oy:∀(i j:Nat)(p q:kH×ah),i≠j->ps[i]?=aa p->ps[j]?=aa q->∀k,dV p.2=aa k->dV q.2≠aa k
section
variable {hb g g':aw} {v:ah} {ps:List (kH×ah)}
theorem mE.ok(m:mE hb g v ps)(o:Ok g g'):mE hb g' v ps:=⟨m.row.ok o,λi p a=>(m.bG i p a).ok o,m.ne,m.Oy⟩
theorem mE.nd(m:mE hb g v ps):v≠Bg:=by
 obtain⟨_,⟨a,_⟩|⟨k,b,cs,c,a,_⟩⟩:=m.row
 ·rw[a];intro e;unfold Bg at e;injection e with e _ _;cases e
 ·rw[a];intro e;unfold Bg at e;injection e with e _ _;injection e with e;injection e with _ _ e;cases e
theorem mE.st(m:mE hb g v ps):iY g v (ps.map (·.1)):=
 ⟨ps,rfl,m.row.rd,λp b=>by
  obtain⟨i,a,e⟩:=List.mem_iff_getElem.1 b;exact(m.bG i p (by rw[gE a,e])).rd,m.nd⟩
theorem mE.nil(hb g:aw):mE hb g nA []:=⟨hJ.nil _ _ _ _,λi p a=>by simp at a,λi p a=>by simp at a,λi j p q _ a=>by simp at a⟩
theorem D5{cs:List ah}{z:Nat}(a:g.get n=aa (.cells cs T z b))(c:cs.length=m):ig g m (sA n 1 1)=aa (([cs]:List (List ah)).flatten,1):=by
 show(match g.get n with|some (.cells cs ..)=>if((cs.drop 0).take (1*m)).length=1*m then aa ((cs.drop 0).take (1*m),1)else none|_=>none)=_;rw[a];dsimp only;rw[bV,dw,bm (by omega),iP c];simp
theorem mE.snoc(w:Wf hb)(D:Ok hb g)(m:mE hb g v ps){f:List UInt8}{a:Option aF}{y z:Nat}{t:List iu}(G:hJ hb g 46 4 (ae a y z) (t.map jU))(x:∀k,dV (ae a y z)=aa k->dV v≠aa k/\∀(i:Nat) (p:kH×ah),ps[i]?=aa p->dV p.2≠aa k){I:Nat}(F:g.get I=aa (.cells [strOf f,ae a y z] 44 2 af))(R:ps.length<=100000):
  ∃(b:Option aF)(n c:Nat)(u:dJ),bY au 22 22 v (sA I 1 1) g=aa (ae b n c,u)/\mE hb (u.app g) (ae b n c) (ps++[(⟨f,t⟩,ae a y z)])/\Ok hb (u.app g)/\
   (∀j B,g.get j=aa B->dV v≠aa j->(u.app g).get j=aa B)/\(∀j,dV (ae b n c)=aa j->g.ax<=j\/dV v=aa j)/\g.ax<=(u.app g).ax:=by
 have s:(ps.map yC).length=ps.length:=aG ..;obtain⟨b,n,c,u,L,S,K,N,E,C,M⟩:=hJ.add KB ae5 XZ alo w D m.row (ns:=[[strOf f,ae a y z]]) (D5 F rfl) (λr P=>by rw[aX.1 P];rfl) (by cases a<;>rfl) (by rw[Tp,s,bw];omega) (by rw[s,bw];omega) (.inl (aS _));refine⟨b,n,c,u,L,⟨by rw[bU];exact K,λi p d=>?_,λi p d k l=>?_,λi j p q H d o k l=>?_⟩,N,E,C,M⟩
 ·rw[List.getElem?_append]at d;split at d
  ·exact(m.bG i p d).nY λk B l A=>E k B A (m.ne i p d k l)
  ·obtain rfl:=(aX.1 (aI d))
   exact G.nY λk B l A=>E k B A (x k l).1
 ·intro e;rw[List.getElem?_append]at d;split at d
  ·rcases C k e with h|h
   ·have:=((m.bG i p d).lt D.wf l).1;omega
   ·exact m.ne i p d k l h
  ·obtain rfl:=(aX.1 (aI d))
   rcases C k e with h|h
   ·have:=(G.lt D.wf l).1;omega
   ·exact(x k l).1 h
 ·rw[List.getElem?_append]at d o;split at d<;>split at o
  ·exact m.Oy i j p q H d o k l
  ·obtain rfl:=(aX.1 (aI o))
   exact λe=>(x k e).2 i p d l
  ·obtain rfl:=(aX.1 (aI d))
   exact(x k l).2 j q o
  ·rename_i T Q;have J:=(List.getElem?_eq_some_iff.1 d).1;have O:=(List.getElem?_eq_some_iff.1 o).1;simp at J O;omega
theorem O0(w:Wf hb)(m:Ok hb g){x:ah}{a:List iu}(k:hJ hb g 46 4 x (a.map jU)){q:iu}{f:Nat}(e:g.get f=aa (.cells (jU q) 46 4 af))(p:a.length<=100000):
  ∃(b:Option aF)(n c:Nat)(u:dJ),bY au 42 42 x (sA f 1 1) g=aa (ae b n c,u)/\hJ hb (u.app g) 46 4 (ae b n c) ((a++[q]).map jU)/\Ok hb (u.app g)/\
   (∀j B,g.get j=aa B->dV x≠aa j->(u.app g).get j=aa B)/\(∀j,dV (ae b n c)=aa j->g.ax<=j\/dV x=aa j)/\g.ax<=(u.app g).ax:=by
 have d:(a.map jU).length=a.length:=aG ..;obtain⟨b,n,c,u,i,s,h,l⟩:=hJ.add ace ae6 X8 alp w m k (ns:=[jU q]) (D5 e rfl) (λr o=>by rw[aX.1 o];rfl) rfl (by rw[Tq,d,bw];omega) (by rw[d,bw];omega) (.inl (aS _));exact⟨b,n,c,u,i,by rw[bU];exact h,l⟩
end
end
section
section
variable {hb g g':aw} {k off n c:Nat} {ps:List (kH×ah)}
theorem IJ{ps:List (kH×ah)}(p:kH×ah):(ps.set i p).map yC=(ps.map yC).set i (yC p):=by rw[map_set]
theorem mE.ah5(w:Wf hb)(K:Ok hb g)(m:mE hb g (gG k off n c) ps){i:Nat}{p:kH×ah}(C:ps[i]?=aa p)(f:List UInt8):
  ∃u:dJ,aQ au 9 (cn k (off+i*2+0)) (strOf f) g=aa (undef,u)/\mE hb (u.app g) (gG k off n c) (ps.set i (⟨f,p.1.bG⟩,p.2))/\Ok hb (u.app g)/\(∀j B,g.get j=aa B->k≠j->(u.app g).get j=aa B)/\(u.app g).ax=g.ax:=by
 obtain⟨u,H,I,F,A,M⟩:=m.row.put (e:=44) (t':=9) (by kernel_rfl) w K (i:=i) (j:=0) (r:=yC p) (by rw[getElem?_map,C];rfl) (by omega) (v':=strOf f) rfl rfl;have h:∀{j:Nat}{q:kH×ah},(ps.set i (⟨f,p.1.bG⟩,p.2))[j]?=aa q->∃d,ps[j]?=aa d/\q.2=d.2/\q.1.bG=d.1.bG:=λ{j q} b=>by
  rw[getElem?_set]at b;split at b
  ·next e=>
   subst e;split at b
   ·obtain rfl:=aC b;exact⟨p,C,rfl,rfl⟩
   ·cases b
  ·exact⟨q,b,rfl,rfl⟩
 refine⟨u,H,⟨by rw[IJ];exact I,λj q b=>?_,λj q b l a=>?_,λG N Q O z v D l a=>?_⟩,F,A,M⟩
 ·obtain⟨d,o,s,t⟩:=h b;rw[s,t];exact(m.bG j d o).nY λl B a E=>A l B E (λe=>m.ne j d o l a (by rw[<-e];rfl))
 ·obtain⟨d,o,s,t⟩:=h b;rw[s]at a;exact m.ne j d o l a
 ·obtain⟨x,o,s,t⟩:=h v;obtain⟨y,J,L,P⟩:=h D;rw[s]at a;rw[L];exact m.Oy G N x y z o J l a
theorem mE.ah4(w:Wf hb)(I:Ok hb g')(m:mE hb g (gG k off n c) ps){i:Nat}{p:kH×ah}(v:ps[i]?=aa p)(H:∀j B,g.get j=aa B->dV p.2≠aa j->g'.get j=aa B){b:Option aF}{o l:Nat}{s:List iu}(Y:hJ hb g' 46 4 (ae b o l) (s.map jU))(L:∀j,dV (ae b o l)=aa j->g.ax<=j\/dV p.2=aa j)(J:Wf g):
  ∃u:dJ,aQ au 42 (cn k (off+i*2+1)) (ae b o l) g'=aa (undef,u)/\mE hb (u.app g') (gG k off n c) (ps.set i (⟨p.1.f,s⟩,ae b o l))/\Ok hb (u.app g')/\(∀j B,g'.get j=aa B->k≠j->(u.app g').get j=aa B)/\(u.app g').ax=g'.ax:=by
 have P:dV p.2≠aa k:=λe=>m.ne i p v k e rfl;have D:hJ hb g' 44 2 (gG k off n c) (ps.map yC):=m.row.nY λd B a y=>H d B y (λe=>m.ne i p v d e a);obtain⟨u,U,W,R,E,h5⟩:=D.put (e:=44) (t':=42) (by kernel_rfl) w I (i:=i) (j:=1) (r:=yC p) (by rw[getElem?_map,v];rfl) (by omega) (v':= ae b o l) (dD ..) (by cases b<;>rfl);have x0:i<ps.length:=(List.getElem?_eq_some_iff.1 v).1;have C:dV (ae b o l)≠aa k:=λe=>by
  rcases L k e with h|h
  ·have:=(m.row.lt J (k:=k) rfl).1;omega
  ·exact P h
 have t:∀{j:Nat}{q:kH×ah},(ps.set i (⟨p.1.f,s⟩,ae b o l))[j]?=aa q->(j=i/\q=(⟨p.1.f,s⟩,ae b o l))\/(j≠i/\ps[j]?=aa q):=λ{j q} f=>by
  rcases cX f with⟨e,F⟩|⟨e,f⟩
  ·exact .inl ⟨e,F⟩
  ·exact .inr ⟨e,f⟩
 have z:∀{j:Nat}{q:kH×ah},j≠i->ps[j]?=aa q->∀d,dV q.2=aa d->dV (ae b o l)≠aa d:=λ{j q} x f d a e=>by
  rcases L d e with h|h
  ·have:=((m.bG j q f).lt J a).1;omega
  ·exact m.Oy j i q p x f v d a h
 refine⟨u,U,⟨by rw[IJ];exact W,λj q f=>?_,λj q f d a=>?_,λS j2 Z T A G N d a=>?_⟩,R,E,h5⟩
 ·rcases t f with⟨rfl,rfl⟩|⟨x,f⟩
  ·exact Y.nY λd B a y=>E d B y (λe=>C (by rw[e];exact a))
  ·exact(m.bG j q f).nY λd B a y=>E d B (H d B y (λe=>m.Oy j i q p x f v d a e)) (λe=>m.ne j q f d a (by rw[<-e];rfl))
 ·rcases t f with⟨rfl,rfl⟩|⟨x,f⟩
  ·exact λe=>C (by rw[a,<-e];rfl)
  ·exact m.ne j q f d a
 ·rcases t G with⟨Q,F⟩|⟨x,O⟩<;>rcases t N with⟨V,X⟩|⟨M,K⟩
  ·exact absurd (Q.trans V.symm) A
  ·rw[F]at a;exact λe=>z M K d e a
  ·rw[X];exact z x O d a
  ·exact m.Oy S j2 Z T A O K d a
theorem mE.at_(m:mE hb g (gG k off n c) ps){i:Nat}{p:kH×ah}(e:ps[i]?=aa p):
  aZ au 22 (gG k off n c) (aA (i:Int))=aa (cn k (off+i*2))/\aM au 42 g (cn k (off+i*2+1))=aa p.2/\aM au 44 g (cn k (off+i*2))=aa (aq ⟨yC p⟩):=by
 obtain⟨b,d,a⟩:=m.row.at_ KB Rf (i:=i) (r:=yC p) (by rw[getElem?_map,e];rfl) an;exact⟨b,by rw[d 42 _ 1 ace agF (by omega)];rfl,a _ aiu agG⟩
end
noncomputable def ail:TypeInfo:=(au.info? 44).getD default
theorem afC:au.info? 44=aa ail:=by kernel_rfl
theorem YS:ail.size=2:=by kernel_rfl
theorem Ua:ail.bytes=40:=by kernel_rfl
def Mj:kH×ah:=(⟨[],[]⟩,nA)
theorem aiy:zeroOf au 44=aa (aq ⟨yC Mj⟩):=by kernel_rfl
theorem ahz(n:Nat)(a:n<=100000):cK au 22 (aA (n:Int)) (aA (n:Int))=aa (.cells ((aH n Mj).map yC).flatten 44 2 af,pw n n):=by
 unfold cK dz;dsimp only;rw[KB]
 try dsimp only
 change (match au.info? 44,zeroOf au 44 with
  |some i,aa z=>(if z.cells.size=i.size/\0<i.size/\(0:Int)<=(n:Int)/\(n:Int)<=(n:Int)/\(n:Int)*i.bytes<=140737488355328/\(n:Int)<=1099511627776 then aa (eE.cells (eO z.cells.toList (n:Int).toNat) 44 i.size af,λk=>ae (aa ⟨k,0,none⟩) (n:Int).toNat (n:Int).toNat)else none)
  |_,_=>none)=_
 rw[afC,aiy];dsimp only;rw[YS,Ua,iP ⟨rfl,by omega,by omega,fU _,by omega,by omega⟩];have e:((n:Int)).toNat=n:=by omega
 rw[e,show(aq ⟨yC Mj⟩).cells.toList=yC Mj from rfl,xW,map_replicate];rfl
theorem mE.made{hb g:aw}{k n:Nat}(h:g.get k=aa (.cells ((aH n Mj).map yC).flatten 44 2 af))(e:hb.ax<=k)(l:n<=100000):mE hb g (sA k n n) (aH n Mj):=by
 have c:∀{i:Nat}{p:kH×ah},(aH n Mj)[i]?=aa p->p=Mj:=λ{i p} a=>by
  rw[getElem?_replicate]at a;split at a
  ·exact(aC a).symm
  ·cases a
 have d:((aH n Mj).map yC).length=n:=by simp
 have:=hJ.made (h0:=hb) h afs e (by rw[d];unfold ft;omega);rw[d]at this;exact⟨this,λi p a=>(by rw[c a];exact hJ.nil _ _ _ _),λi p a f b=>(by rw[c a]at b;cases b),λi j p q _ a m f b=>(by rw[c a]at b;cases b)⟩
def ic:List Nat->Nat->Nat->Int
 |[],_,_=> -1
 |o::r,i,x=>if o=x then(i:Int)else ic r (i+1) x
theorem Av:∀(l:List Nat)(i o x:Nat),o∉l->ic (l++[o]) i x=if x=o then((i+l.length:Nat):Int)else ic l i x
 |[],i,o,x,_=>by
  show(if o=x then(i:Int)else -1)=if x=o then((i+0:Nat):Int)else -1;by_cases h:x=o
  ·rw[iP h,iP h.symm];rfl
  ·rw[iN h,iN (λe=>h e.symm)]
 |y::l,i,o,x,a=>by
  have b:¬o=y:=λe=>a (e▸cH ..);have c:=Av l (i+1) o x (λh=>a (cJ _ h));show(if y=x then(i:Int)else ic (l++[o]) (i+1) x)=if x=o then _ else(if y=x then(i:Int)else ic l (i+1) x);rw[c,bP];by_cases h:x=o
  ·rw[iP h,iP h,iN (by rw[h];exact λe=>b e.symm)];congr 1;omega
  ·rw[iN h,iN h]
theorem ux:∀(l:List Nat)(i x:Nat),ic l i x = -1\/((i:Int)<=ic l i x/\ic l i x<((i+l.length:Nat):Int))
 |[],i,x=> .inl rfl
 | o::l,i,x=>by
  unfold ic;split
  ·right;rw[bP];omega
  ·rcases ux l (i+1) x with h|h
   ·exact .inl h
   ·right;rw[bP];omega
theorem IT:∀(l:List Nat)(i x:Nat),ic l i x≠ -1↔x∈l
 |[],i,x=>by simp[ic]
 | o::l,i,x=>by
  unfold ic;split
  ·next h=>exact⟨λ_=>h▸cH ..,λ_=>by omega⟩
  ·next h=>
   rw[IT l (i+1) x];exact⟨λa=>cJ _ a,λa=>(cO.1 a).resolve_left λe=>h e.symm⟩
def jM(a:List Nat)(q:iu):Option iu:=if ic a 0 q.t.toNat = -1 then none else aa ⟨q.i,q.o,q.w,ic a 0 q.t.toNat⟩
def uB(M:cG)(a:List Nat)(s:Nat):kH:=⟨(M.aE.getD s ⟨[],[]⟩).f,(M.aE.getD s ⟨[],[]⟩).bG.filterMap (jM a)⟩
def lq(M:cG)(a:List Nat):cG:=⟨M.kind,ic a 0 M.start.toNat,M.lead,a.map (uB M a)⟩
def ahH(h:aw)(M:cG):VH:=λv b=>∃(a:Option aF)(n c:Nat)(ps:List (kH×ah)),v=aq ⟨dK M a n c⟩/\ps.map (·.1)=M.aE/\mE h b (ae a n c) ps/\Ok h b
structure Fk(N:Nat)(ord:List Nat):Prop where
 lt:∀x∈ord,x<N
 nd:ord.Nodup
end
noncomputable def SJ:FD:=gT Tryz.f97 []
theorem Qa(a:Int)(h:aw)(Q:VH)(l:xN (cD au 24) h λr b=>cp (decide ((a:Int)<1)) (xA (cI au 24 []) λm=>xU (aQ au 24 (pA (h.ax)) (aq ⟨m⟩) b) b λs p=>gI SS [((pA (h.ax)),aa 24),((aA 1),none)] p Q) (cp (decide ((a:Int)>3)) (xA (cI au 24 []) λn=>xU (aQ au 24 (pA (h.ax)) (aq ⟨n⟩) b) b λt k=>gI SS [((pA (h.ax)),aa 24),((aA 1),none)] k Q) (aW 24 [(aA a)] (room b 7) λo d=>yS o λj=>zR (cK au 22 (aA 1) (aA 1)) λc e f=>xA (cI au 24 [(0,(aA a)),(2,(strOf j)),(3,(sA (b.ax+3) e f))]) λi=>xU (aQ au 24 (pA (h.ax)) (aq ⟨i⟩) (bS d b.ax [(3,c)])) (bS d b.ax [(3,c)]) λq g=>gI SS [((pA (h.ax)),aa 24),((aA 0),none)] g Q))):aW 97 [(aA a)] h Q:=gZ SJ Tryz.func97 (bF l)
noncomputable def Th:FD:=gT Tryz.f115 []
theorem QG(a:Int)(h:aw)(Q:VH)(n:xN (cD au 24) h λs l=>aW 118 [(aA a)] l λk b=>yB k λo=>cp (!o) (xA (cI au 24 []) λp=>xU (aQ au 24 (pA (h.ax)) (aq ⟨p⟩) b) b λt m=>gI SS [((pA (h.ax)),aa 24),((aA 1),none)] m Q) (aW 60 [(aA a)] (room b 7) λq d=>yS q λj=>zR (cK au 22 (aA 1) (aA 1)) λc e f=>xA (cI au 24 [(0,(aA a)),(2,(strOf j)),(3,(sA (b.ax+3) e f))]) λi=>xU (aQ au 24 (pA (h.ax)) (aq ⟨i⟩) (bS d b.ax [(3,c)])) (bS d b.ax [(3,c)]) λr g=>gI SS [((pA (h.ax)),aa 24),((aA 0),none)] g Q)):aW 115 [(aA a)] h Q:=gZ Th Tryz.func115 (bF n)
noncomputable def ah2:FD:=gT Tryz.f24 []
theorem afi(a:Int)(h:aw)(Q:VH)(g:aW 67 [(aA a)] h λj c=>∃b:LV,∃i:Bool,j=(av ⟨[(aq ⟨b⟩),(ai i)]⟩)/\xN (cD au 100) c λl f=>xU (aQ au 100 (pA (c.ax)) (aq ⟨b⟩) f) f λk d=>qF xS 100 (pA (c.ax)) 1 9 d λe=>Q (strOf e) d):aW 24 [(aA a)] h Q:=gZ ah2 Tryz.func24 (bF g)
noncomputable def ahS:FD:=gT Tryz.f60 []
theorem aeZ(a:Int)(h:aw)(Q:VH)(d:aW 118 [(aA a)] h λe b=>yB e λc=>cp (!c) (Q (strOf []) b) (cp (((a:Int)==1)) (Q (strOf [48]) b) (Q (strOf [49]) b))):aW 60 [(aA a)] h Q:=gZ ahS Tryz.func60 (bF d)
noncomputable def agO:FD:=gT Tryz.f164 []
theorem adq(x y:Int)(h:aw)(Q:VH)(c:aW 197 [(bD x),(bD y)] h λe d=>∃a:Int,∃b:Int,e=(av ⟨[(bD a),(bD b)]⟩)/\Q (av ⟨[(bD a),(bD b)]⟩) d):aW 164 [(bD x),(bD y)] h Q:=gZ agO Tryz.func164 (bF c)
noncomputable def sI:FD:=gT Tryz.f135 [((pq 575),[7,8])]
abbrev uC(e:OA)(a b:Nat)(j:Int):LV:=[(ae e a b),(aA j)]
theorem Yy(a:OA)(n c:Nat)(x:Int)(h:aw)(Q:VH)(l:cp (decide ((x:Int)<0)) (False) (aW 164 [(bD (aj az (n:Int))),(bD (aj az x))] h λm d=>∃e:Int,∃b:Int,m=(av ⟨[(bD e),(bD b)]⟩)/\cp (decide (e>0)) (False) (cp (decide (b>9223372036854775807)) (False) (xR (cK au 27 (aA (aj an b)) (aA (aj an b))) d λp i f g=>xC (copyV au 27 (sA (d.ax) i f) (ae a n c) g) g λk o j=>cq sI (pq 575) [(sA (d.ax) i f),(aA k)] j (ez sI (pq 319) Q))))):aW 135 [(ae a n c),(aA x)] h Q:=gZ sI Tryz.func135 (bF l)
theorem DX(a:OA)(n c:Nat)(x:Int)(e:OA)(b f:Nat)(g:Nat->Int->aw->Prop)(Q:VH)(step:∀(d:Nat) (j:Int) (r:Nat->ah) (h:aw),g d j h->cp (decide ((j:Int)<(b:Int))) (xL (cY au 27 (ae e b f) (aa (aA j)) none none (room h 10)) λl p s=>xL (cY au 27 (ae e b f) none (aa (aA j)) none (room h 10)) λm o k=>xC (copyV au 27 (ae l p s) (ae m o k) (room h 10)) (room h 10) λq u t=>cB (mw (uC e b f) g) d [(ae e b f),(aA (aj an (j+q)))] t) (Q (ae e b f) h))(d:Nat){j:Int}{h:aw}(i:g d j h):cq sI (pq 575) (uC e b f j) h (ez sI (pq 319) Q):=
 gP (uC e b f) g (λd j r h i=>bF (step d j r h i)) d i
noncomputable def nZ:FD:=gT Tryz.f98 [((pq 75),[1,2,4,5,19,20,21]),((pq 303),[2,4,5,8,44,45,46]),((pq 324399),[2,4,5,8,11,44,45,46,69,70,71])]
abbrev tF(a:OA)(n c k f:Nat)(e:OA)(b d:Nat)(i:Nat):LV:=[(ae a n c),(pA k),(pA f),(ae e b d),(ae a n c),(iA n),(iA i)]
abbrev oV(a:OA)(n c k g b:Nat)(e:OA)(d f:Nat)(i:Nat):LV:=[(pA k),(pA g),(ae e d f),(pA b),(ae a n c),(iA n),(iA i)]
abbrev tG(a:OA)(n c k o f p l:Nat)(e:OA)(g h:Nat)(b:OA)(m d i:Nat)(j:Nat):LV:=[(pA k),(pA o),(ae e g h),(pA f),(cn p l),(ae a n c),(iA n),(iA i),(ae b m d),(iA m),(iA j)]
theorem aeu(d:LV)(a:OA)(n c:Nat)(h:aw)(Q:VH)(p:xN (iF au 24 (aq ⟨d⟩)) h λt f=>xN (cD au 24) f λu i=>xR (bC au 27 1 [(0,(aA (-1)))]) i λv q o j=>mh 24 (pA (h.ax)) 3 22 j λr k s=>aW 135 [(sA (i.ax) q o),(iA k)] j λl m=>yL l λe g b=>cq nZ (pq 75) (tF a n c (h.ax) (f.ax) e g b 0) m (ez nZ (pq 43) Q)):aW 98 [(aq ⟨d⟩),(ae a n c)] h Q:=gZ nZ Tryz.func98 (bF p)
theorem Gz(D:LV)(a:OA)(n c:Nat)(k j:Nat)(e:OA)(d f:Nat)(g:Nat->Nat->aw->Prop)(Q:VH)(step:∀(b:Nat) (i:Nat) (u:Nat->ah) (h:aw),g b i h->cp (decide ((i:Int)<(n:Int))) (vX 27 (ae a n c) (iA i) h λs=>xP (aZ au 27 (ae e d f) (aA s)) λv=>xU (aQ au 3 (bN v) (iA i) h) h λB p=>cB (mw (tF a n c k j e d f) g) b [(ae a n c),(pA k),(pA j),(ae e d f),(ae a n c),(iA n),(aA (aj an ((i:Int)+1)))] p) (ky 24 (pA k) 0 (room h 15) λq=>ky 24 (pA k) 1 (room h 15) λy=>vX 27 (ae e d f) (aA y) (room h 15) λw=>qF xS 24 (pA k) 2 9 (room h 15) λt=>zR (cK au 22 (iA n) (iA n)) λm A x=>xA (cI au 24 [(0,(aA q)),(1,(aA w)),(2,(strOf t)),(3,(sA (h.ax+11) A x))]) λr=>zN (cD au 24) λl=>xU (aQ au 24 (pA (h.ax+13)) (aq ⟨r⟩) (bS (room h 15) h.ax [(13,l),(11,m)])) (bS (room h 15) h.ax [(13,l),(11,m)]) λC z=>cq nZ (pq 303) (oV a n c k j (h.ax+13) e d f 0) z (ez nZ (pq 175) Q)))(b:Nat){i:Nat}{h:aw}(o:g b i h):cq nZ (pq 75) (tF a n c k j e d f i) h (ez nZ (pq 43) Q):=
 gP (tF a n c k j e d f) g (λb i u h o=>bF (step b i u h o)) b o
theorem GA(M:LV)(a:OA)(n c:Nat)(k g f:Nat)(e:OA)(l m:Nat)(d:Nat->Nat->aw->Prop)(Q:VH)(step:∀(b:Nat) (i:Nat) (D:Nat->ah) (h:aw),d b i h->cp (decide ((i:Int)<(n:Int))) (vX 27 (ae a n c) (iA i) h λp=>mh 24 (pA f) 3 22 h λt u J=>xP (aZ au 22 (ae t u J) (iA i)) λq=>mh 24 (pA k) 3 22 h λF C A=>ve 22 (ae F C A) (aA p) 44 0 λs=>xS (aM au 9 h (bN s)) λI=>xP (bB au 44 (bN q) 0) λz=>xU (aQ au 9 (bN z) (strOf I) h) h λL j=>mh 24 (pA k) 3 22 j λx B y=>ve 22 (ae x B y) (aA p) 44 1 λv=>xL (aM au 42 j (bN v)) λG o w=>cq nZ (pq 324399) [(pA k),(pA g),(ae e l m),(pA f),(bN q),(ae a n c),(iA n),(iA i),(ae G o w),(iA o),(aA 0)] j (fZ nZ (pq 755) (pq 303) (RR nZ (pq 303) (mw (oV a n c k g f e l m) d) b (ez nZ (pq 175) Q)))) (xA (aM au 24 h (pA f)) λE=>xU (aQ au 24 (pA g) (aq ⟨E⟩) h) h λK H=>gI SS [((pA g),aa 24)] H Q))(b:Nat){i:Nat}{h:aw}(r:d b i h):cq nZ (pq 303) (oV a n c k g f e l m i) h (ez nZ (pq 175) Q):=
 gP (oV a n c k g f e l m) d (λb i D h r=>bF (step b i D h r)) b r
theorem GB(Y:LV)(a:OA)(n c:Nat)(k r q t s:Nat)(e:OA)(o p:Nat)(b:OA)(m d:Nat)(v:Nat->Nat->aw->Prop)(x i:Nat)(l:Nat->Nat->aw->Prop)(Q:VH)(step:∀(g:Nat) (j:Nat) (M:Nat->ah) (h:aw),l g j h->cp (decide ((j:Int)<(m:Int))) (qX xA 42 (ae b m d) (iA j) 46 h λP=>xN (cD au 46) h λW z=>xU (aQ au 46 (pA (h.ax)) (aq ⟨P⟩) z) z λX u=>ky 46 (pA (h.ax)) 3 u λN=>vX 27 (ae e o p) (aA N) u λH=>xP (bB au 46 (pA (h.ax)) 3) λD=>xU (aQ au 3 (bN D) (aA H) u) u λU f=>ky 46 (pA (h.ax)) 3 f λG=>cp ((G !=(-1))) (mh 44 (cn t s) 1 42 (room f 11) λS O K=>xA (aM au 46 (room f 11) (pA (h.ax))) λL=>zR (bC au 42 1 [(0,(aq ⟨L⟩))]) λw I J=>xE (bY au 42 42 (ae S O K) (sA (f.ax+6) I J) (bS (room f 11) f.ax [(6,w)])) (bS (room f 11) f.ax [(6,w)]) λB C E T y=>xP (bB au 44 (cn t s) 1) λR=>xU (aQ au 42 (bN R) (ae B C E) y) y λV F=>cB (mw (tG a n c k r q t s e o p b m d i) l) g [(pA k),(pA r),(ae e o p),(pA q),(cn t s),(ae a n c),(iA n),(iA i),(ae b m d),(iA m),(aA (aj an ((j:Int)+1)))] F) (cB (mw (tG a n c k r q t s e o p b m d i) l) g [(pA k),(pA r),(ae e o p),(pA q),(cn t s),(ae a n c),(iA n),(iA i),(ae b m d),(iA m),(aA (aj an ((j:Int)+1)))] f)) (cB (mw (oV a n c k r q e o p) v) x [(pA k),(pA r),(ae e o p),(pA q),(ae a n c),(iA n),(aA (aj an ((i:Int)+1)))] h))(g:Nat){j:Nat}{h:aw}(A:l g j h):cq nZ (pq 324399) (tG a n c k r q t s e o p b m d i j) h (fZ nZ (pq 755) (pq 303) (RR nZ (pq 303) (mw (oV a n c k r q e o p) v) x (ez nZ (pq 175) Q))):=
 gP (tG a n c k r q t s e o p b m d i) l (λg j M h A=>bF (step g j M h A)) g A
noncomputable def rI:FD:=gT Tryz.f116 [((pq 75),[1,2,3,6,7,8]),((pq 38475),[1,2,3,6,7,8,9,10,11])]
abbrev pc(a:OA)(n c:Nat)(e:OA)(b d k f g:Nat)(i:Nat):LV:=[(ae a n c),(ae e b d),(pA k),(pA f),(pA g),(iA i)]
abbrev qQ(a:OA)(n c:Nat)(e:OA)(d f k g l h b i:Nat)(j:Nat):LV:=[(ae a n c),(ae e d f),(pA k),(pA g),(pA l),(iA i),(pA h),(pA b),(iA j)]
theorem ae1(i:LV)(a:OA)(n c:Nat)(e:OA)(f g:Nat)(h:aw)(Q:VH)(p:xN (iF au 24 (aq ⟨i⟩)) h λt j=>xN (cD au 24) j λu b=>ky 24 (pA (h.ax)) 0 (room b 12) λq=>ky 24 (pA (h.ax)) 1 (room b 12) λr=>vX 27 (ae e f g) (aA r) (room b 12) λk=>qF xS 24 (pA (h.ax)) 2 9 (room b 12) λo=>xA (cI au 24 [(0,(aA q)),(1,(aA k)),(2,(strOf o))]) λm=>zN (cD au 24) λd=>xU (aQ au 24 (pA (b.ax+10)) (aq ⟨m⟩) (bS (room b 12) b.ax [(10,d)])) (bS (room b 12) b.ax [(10,d)]) λs l=>cq rI (pq 75) (pc a n c e f g (h.ax) (j.ax) (b.ax+10) 0) l (ez rI (pq 43) Q)):aW 116 [(aq ⟨i⟩),(ae a n c),(ae e f g)] h Q:=gZ rI Tryz.func116 (bF p)
theorem GL(G:LV)(a:OA)(n c:Nat)(e:OA)(l m:Nat)(k g j:Nat)(d:Nat->Nat->aw->Prop)(Q:VH)(step:∀(b:Nat) (i:Nat) (x:Nat->ah) (h:aw),d b i h->cp (decide ((i:Int)<(n:Int))) (mh 24 (pA k) 3 22 (room h 10) λt v u=>vX 27 (ae a n c) (iA i) (room h 10) λB=>qX xA 22 (ae t v u) (aA B) 44 (room h 10) λz=>zN (cD au 44) λp=>xU (aQ au 44 (pA (h.ax+8)) (aq ⟨z⟩) (bS (room h 10) h.ax [(8,p)])) (bS (room h 10) h.ax [(8,p)]) λD f=>qF xS 44 (pA (h.ax+8)) 0 9 f λy=>xA (cI au 44 [(0,(strOf y))]) λw=>xN (cD au 44) f λF o=>xU (aQ au 44 (pA (f.ax)) (aq ⟨w⟩) o) o λC r=>cq rI (pq 38475) (qQ a n c e l m k g j (h.ax+8) (f.ax) i 0) r (fZ rI (pq 345) (pq 75) (RR rI (pq 75) (mw (pc a n c e l m k g j) d) b (ez rI (pq 43) Q)))) (xA (aM au 24 h (pA j)) λs=>xU (aQ au 24 (pA g) (aq ⟨s⟩) h) h λE A=>gI SS [((pA g),aa 24)] A Q))(b:Nat){i:Nat}{h:aw}(q:d b i h):cq rI (pq 75) (pc a n c e l m k g j i) h (ez rI (pq 43) Q):=
 gP (pc a n c e l m k g j) d (λb i x h q=>bF (step b i x h q)) b q
theorem GM(mv:LV)(a:OA)(n c:Nat)(e:OA)(f g:Nat)(k p m q b:Nat)(s:Nat->Nat->aw->Prop)(D i:Nat)(o:Nat->Nat->aw->Prop)(Q:VH)(step:∀(d:Nat) (j:Nat) (U:Nat->ah) (h:aw),o d j h->mh 44 (pA q) 1 42 h λx9 W y3=>cp (decide ((j:Int)<(W:Int))) (mh 44 (pA q) 1 42 h λO P Z=>qX xA 42 (ae O P Z) (iA j) 46 h λX=>xN (cD au 46) h λy1 u=>xU (aQ au 46 (pA (h.ax)) (aq ⟨X⟩) u) u λy5 l=>ky 46 (pA (h.ax)) 3 l λA=>vX 27 (ae e f g) (aA A) l λG=>cp (decide (G>=0)) (ky 46 (pA (h.ax)) 3 l λS=>vX 27 (ae e f g) (aA S) l λz=>xP (bB au 46 (pA (h.ax)) 3) λE=>xU (aQ au 3 (bN E) (aA z) l) l λy6 r=>mh 44 (pA b) 1 42 r λY L x7=>xA (aM au 46 r (pA (h.ax))) λT=>xR (bC au 42 1 [(0,(aq ⟨T⟩))]) r λy7 R N x=>xE (bY au 42 42 (ae Y L x7) (sA (r.ax) R N) x) x λC V x4 y2 t=>xP (bB au 44 (pA b) 1) λF=>xU (aQ au 42 (bN F) (ae C V x4) t) t λy0 I=>cB (mw (qQ a n c e f g k p m q b i) o) d [(ae a n c),(ae e f g),(pA k),(pA p),(pA m),(iA i),(pA q),(pA b),(aA (aj an ((j:Int)+1)))] I) (cB (mw (qQ a n c e f g k p m q b i) o) d [(ae a n c),(ae e f g),(pA k),(pA p),(pA m),(iA i),(pA q),(pA b),(aA (aj an ((j:Int)+1)))] l)) (mh 24 (pA m) 3 22 h λx2 H J=>xA (aM au 44 h (pA b)) λM=>xR (bC au 22 1 [(0,(aq ⟨M⟩))]) h λy4 B x6 v=>xE (bY au 22 22 (ae x2 H J) (sA (h.ax) B x6) v) v λx3 K x5 y8 w=>xP (bB au 24 (pA m) 3) λx0=>xU (aQ au 22 (bN x0) (ae x3 K x5) w) w λx8 x1=>cB (mw (pc a n c e f g k p m) s) D [(ae a n c),(ae e f g),(pA k),(pA p),(pA m),(aA (aj an ((i:Int)+1)))] x1))(d:Nat){j:Nat}{h:aw}(y:o d j h):cq rI (pq 38475) (qQ a n c e f g k p m q b i j) h (fZ rI (pq 345) (pq 75) (RR rI (pq 75) (mw (pc a n c e f g k p m) s) D (ez rI (pq 43) Q))):=
 gP (qQ a n c e f g k p m q b i) o (λd j U h y=>bF (step d j U h y)) d y
noncomputable def Di:FD:=gT Tryz.f39 [((pq 607),[1,2,5,25,26,27])]
abbrev r8(k b:Nat)(a:OA)(n c:Nat)(i:Nat)(t:OA)(tn tc:Nat):LV:=[(pA k),(pA b),(ae t tn tc),(ae a n c),(iA n),(iA i)]
theorem aaW(l:LV)(h:aw)(Q:VH)(x:xN (iF au 24 (aq ⟨l⟩)) h λB b=>xN (cD au 24) b λC m=>xA (aM au 24 m (pA (h.ax))) λy=>aW 30 [(aq ⟨y⟩)] m λu d=>yB u λw=>cp (!w) (xA (cI au 24 []) λv=>xU (aQ au 24 (pA (b.ax)) (aq ⟨v⟩) d) d λA r=>gI SS [((pA (b.ax)),aa 24),((aA 1),none)] r Q) (xA (aM au 24 d (pA (h.ax))) λt=>aW 96 [(aq ⟨t⟩)] d λs a=>yL s λf g e=>ky 24 (pA (h.ax)) 1 a λp=>qX xB 68 (ae f g e) (aA p) 4 a λn=>cp (!n) (ky 24 (pA (h.ax)) 0 a λq=>aW 97 [(aA q)] a λk i=>∃c:LV,∃j:Int,k=(av ⟨[(aq ⟨c⟩),(aA j)]⟩)/\xU (aQ au 24 (pA (b.ax)) (aq ⟨c⟩) i) i λz o=>gI SS [((pA (b.ax)),aa 24),((aA j),none)] o Q) (cq Di (pq 607) (r8 (h.ax) (b.ax) f g e 0 none 0 0) a (ez Di (pq 351) Q)))):aW 39 [(aq ⟨l⟩)] h Q:=gZ Di Tryz.func39 (bF x)
theorem EL(F:LV)(k e:Nat)(a:OA)(n c:Nat)(d:Nat->Nat->OA->Nat->Nat->aw->Prop)(Q:VH)(step:∀(b:Nat) (i:Nat) (t:OA) (tn tc:Nat) (A:Nat->ah) (h:aw),d b i t tn tc h->(λ(x:ah->aw->Prop)=>cp (decide ((i:Int)<(n:Int))) (qX xB 68 (ae a n c) (iA i) 4 h λu=>cp u (xR (bC au 27 1 [(0,(iA i))]) h λE w y f=>xE (bY au 27 27 (ae t tn tc) (sA (h.ax) w y) f) f λp v l D o=>x (ae p v l) o) (x (ae t tn tc) h)) (xA (aM au 24 h (pA k)) λr=>aW 98 [(aq ⟨r⟩),(ae t tn tc)] h λs g=>yA s λz=>xU (aQ au 24 (pA e) (aq ⟨z⟩) g) g λC q=>gI SS [((pA e),aa 24),((aA 0),none)] q Q)) (λm B=>cB (sk (r8 k e a n c) d) b [(pA k),(pA e),m,(ae a n c),(iA n),(aA (aj an ((i:Int)+1)))] B))(b:Nat){i:Nat}{t:OA}{tn tc:Nat}{h:aw}(j:d b i t tn tc h):cq Di (pq 607) (r8 k e a n c i t tn tc) h (ez Di (pq 351) Q):=
 uD (r8 k e a n c) d (λb i t tn tc A h j=>bF (step b i t tn tc A h j)) b j
noncomputable def DL:FD:=gT Tryz.f48 [((pq 1215),[1,2,4,5,6,7])]
abbrev sc(k b:Nat)(a:OA)(n c:Nat)(e:OA)(d f:Nat)(i:Nat)(t:OA)(tn tc:Nat):LV:=[(pA k),(pA b),(ae a n c),(ae t tn tc),(ae e d f),(iA i)]
theorem abN(m:LV)(h:aw)(Q:VH)(B:xN (iF au 24 (aq ⟨m⟩)) h λI b=>xN (cD au 24) b λJ n=>xA (aM au 24 n (pA (h.ax))) λC=>aW 58 [(aq ⟨C⟩)] n λy d=>yB y λA=>cp (!A) (xA (cI au 24 []) λz=>xU (aQ au 24 (pA (b.ax)) (aq ⟨z⟩) d) d λG u=>gI SS [((pA (b.ax)),aa 24),((aA 1),none)] u Q) (xA (aM au 24 d (pA (h.ax))) λw=>aW 114 [(aq ⟨w⟩)] d λv a=>yL v λf g e=>ky 24 (pA (h.ax)) 1 a λs=>qX xB 68 (ae f g e) (aA s) 4 a λo=>cp (!o) (ky 24 (pA (h.ax)) 0 a λt=>aW 115 [(aA t)] a λl i=>∃c:LV,∃j:Int,l=(av ⟨[(aq ⟨c⟩),(aA j)]⟩)/\xU (aQ au 24 (pA (b.ax)) (aq ⟨c⟩) i) i λD r=>gI SS [((pA (b.ax)),aa 24),((aA j),none)] r Q) (mh 24 (pA (h.ax)) 3 22 a λE k H=>xR (cK au 27 (iA k) (iA k)) a λF q p x=>cq DL (pq 1215) (sc (h.ax) (b.ax) f g e (aa ⟨a.ax,0,none⟩) q p 0 none 0 0) x (ez DL (pq 703) Q)))):aW 48 [(aq ⟨m⟩)] h Q:=gZ DL Tryz.func48 (bF B)
theorem EW(S:LV)(k l:Nat)(a:OA)(n c:Nat)(e:OA)(d f:Nat)(g:Nat->Nat->OA->Nat->Nat->aw->Prop)(Q:VH)(step:∀(b:Nat) (i:Nat) (t:OA) (tn tc:Nat) (z:Nat->ah) (h:aw),g b i t tn tc h->(λ(x:ah->aw->Prop)=>mh 24 (pA k) 3 22 h λK D M=>cp (decide ((i:Int)<(D:Int))) (xP (aZ au 27 (ae e d f) (iA i)) λI=>xU (aQ au 3 (bN I) (aA (-1)) h) h λR j=>qX xB 68 (ae a n c) (iA i) 4 j λv=>cp v (xP (aZ au 27 (ae e d f) (iA i)) λF=>xU (aQ au 3 (bN F) (iA tn) j) j λO m=>xR (bC au 27 1 [(0,(iA i))]) m λN A B p=>xE (bY au 27 27 (ae t tn tc) (sA (m.ax) A B) p) p λC u w P H=>x (ae C u w) H) (x (ae t tn tc) j)) (xA (aM au 24 h (pA k)) λE=>aW 116 [(aq ⟨E⟩),(ae t tn tc),(ae e d f)] h λG o=>yA G λs=>xU (aQ au 24 (pA l) (aq ⟨s⟩) o) o λL y=>gI SS [((pA l),aa 24),((aA 0),none)] y Q)) (λr J=>cB (sk (sc k l a n c e d f) g) b [(pA k),(pA l),(ae a n c),r,(ae e d f),(aA (aj an ((i:Int)+1)))] J))(b:Nat){i:Nat}{t:OA}{tn tc:Nat}{h:aw}(q:g b i t tn tc h):cq DL (pq 1215) (sc k l a n c e d f i t tn tc) h (ez DL (pq 703) Q):=
 uD (sc k l a n c e d f) g (λb i t tn tc z h q=>bF (step b i t tn tc z h q)) b q
theorem Zp{v:Nat}(a:v<4294967296):(((di (dA az) (v:Int)&&&di (dA az) 4294967295).toNat:Nat):Int)=(v:Int):=by
 have e:dA az=64:=rfl;rw[e,BitVec.toNat_and];have b:(di 64 (v:Int)).toNat=v:=by
  rw[BitVec.toNat_ofInt];omega
 have c:(di 64 4294967295).toNat=2^32-1:=rfl;rw[b,c,Nat.and_two_pow_sub_one_eq_mod,eG a]
theorem acd{v:Nat}(a:v<4294967296):cm au .shr 240 (bD (v:Int)) (bD 32)=aa (bD ((0:Nat):Int)):=by
 have e:((v:Int)).fdiv (2^(min ((32:Int)).toNat (dA az)))=((0:Nat):Int):=by
  rw[show min ((32:Int)).toNat (dA az)=32 from rfl,Int.fdiv_eq_ediv_of_nonneg _ (by decide),show(2:Int)^32=4294967296 from rfl];omega
 show(if(0:Int)<=32 then aa (aB az (((v:Int)).fdiv (2^(min ((32:Int)).toNat (dA az)))))else none)=_;rw[iP (by decide),e]
theorem Xl(b:n<4294967296)(h:aw):aW 197 [bD 1,bD (n:Int)] h (λv m=>v=av ⟨[bD 0,bD (n:Int)]⟩/\m=h):=by
 refine aa4 1 (n:Int) h _ ?_;have a:∀z:Nat,z<4294967296->aj az (z:Int)=(z:Int):=λz r=>jO (by omega) (by omega);have f:(((di (dA az) 1&&&di (dA az) 4294967295).toNat:Nat):Int)=((1:Nat):Int):=Zp (v:=1) (by decide);have d:=Zp b;have q:=acd (v:=1) (by decide);have e:=acd b;have i:=acd (v:=0) (by decide);have k:=Zp (v:=0) (by decide);have o:aj az (((1:Nat):Int)*(n:Int))=(n:Int):=by rw[show((1:Nat):Int)*(n:Int)=((n:Nat):Int) by omega];exact a n b
 have g:aj az (((0:Nat):Int)*(n:Int))=((0:Nat):Int):=by rw[show((0:Nat):Int)*(n:Int)=((0:Nat):Int) by omega];exact a 0 (by decide)
 have c:aj az (((0:Nat):Int)+((0:Nat):Int))=((0:Nat):Int):=a 0 (by decide);have p:aj az (((1:Nat):Int)*((0:Nat):Int))=((0:Nat):Int):=a 0 (by decide);have l:aj az (((0:Nat):Int)*((0:Nat):Int))=((0:Nat):Int):=a 0 (by decide);have j:aj az ((1:Int)*(n:Int))=(n:Int):=by rw[Int.one_mul];exact a n b
 refine⟨((0:Nat):Int),q,((0:Nat):Int),e,((0:Nat):Int),?_,((0:Nat):Int),?_,((0:Nat):Int),?_,?_⟩
 ·rw[f,d,a 1 (by decide),a n b,o];exact e
 ·rw[d,a n b,g,c];exact i
 ·rw[f,d,a 1 (by decide),a n b,g,c,k,a 0 (by decide),p,c];exact i
 ·rw[l,c];dsimp only;rw[c,j];exact⟨rfl,rfl⟩
theorem Zx(b:n<4294967296)(h:aw):aW 164 [bD 1,bD (n:Int)] h (λv a=>v=av ⟨[bD 0,bD (n:Int)]⟩/\a=h):=by
 refine adq 1 (n:Int) h _ ((Xl b h).mono ?_);rintro _ _ ⟨rfl,rfl⟩;exact⟨_,_,rfl,rfl,rfl⟩
theorem acg{cs:List ah}(c:h.get n=aa (.cells cs 3 1 af))(g:cs.length=m)(f:m<ft)(i:j<=m):
  cY au 27 (sA n m m) (aa (aA (j:Int))) none none h=aa (gG n j (m-j) (m-j))/\
  cY au 27 (sA n m m) none (aa (aA (j:Int))) none h=aa (sA n j m):=by
 have a:dk m=m:=by unfold dk;rw[iN (by omega)]
 constructor
 ·unfold cY;dsimp only;rw[fs];dsimp only[iW];rw[wu,c];dsimp only;rw[iP (by omega),a,iP (by omega)];have d:((j:Int)).toNat=j:=by omega
  have b:((m:Int)-(j:Int)).toNat=m-j:=by omega
  rw[d,b,df,bO]
 ·unfold cY;dsimp only;rw[fs];dsimp only[iW];rw[wu,c];dsimp only;rw[iP (by omega),a,iP (by omega)];have b:((j:Int)-((0:Nat):Int)).toNat=j:=by omega
  have e:((0:Nat):Int).toNat=0:=rfl;rw[b,e];rfl
theorem UM{c:Nat}{cs:List ah}(p:h.get m=aa (.cells cs 3 1 af))(s:i+n<=cs.length){b:ah}{a:List ah}(j:ig h 1 b=aa (a,k))(t:a.length=k)(r:n≠0)(q:k≠0)(f:a.all eY=af):
  copyV au 27 (gG m i n c) b h=aa (aA ((min k n:Nat):Int),.set m (.cells (cs.take i++a.take (min k n)++cs.drop (i+min k n)) 3 1 af)):=by
 have o:=Nat.min_le_right k n;have g:=Nat.min_le_left k n;have d:(a.take (min k n)).length=min k n:=by rw[bo];omega
 have e:(a.take (min k n)).all eY=af:=cw.2 λx l=>cw.1 f x (dN l);unfold copyV;rw[fs];dsimp only;rw[wu];dsimp only;rw[j];dsimp only;rw[iN (by omega),df];unfold storeAt;rw[p];dsimp only;rw[iP ⟨by omega,e⟩,d];rfl
def qc(x z:ah)(j n:Nat):List ah:=aH j x++aH (n-j) z
theorem WJ{x z:ah}(c:j<=n):(qc x z j n).take j++(aH j x).take (min j (n-j))++(qc x z j n).drop (j+min j (n-j))=qc x z (j+min j (n-j)) n:=by
 have b:=Nat.min_le_right j (n-j);have a:=Nat.min_le_left j (n-j);generalize min j (n-j)=m at*;unfold qc;rw[List.take_append_of_le_length (by simp),bm (by simp),List.take_replicate,dO a,List.drop_append,cU (by simp),dq,bE,List.drop_replicate,List.replicate_append_replicate];congr 1;congr 1;omega
theorem Oa(w:Wf h){d n:Nat}(C:h.get d=aa (.cells [aA (-1)] 3 1 af))(L:n<=100000):aW 135 [sA d 1 1,aA (n:Int)] h (λv y=>∃o,v=sA o n n/\yr h o 3 (aH n (aA (-1))) y):=by
 have N:aj az (n:Int)=(n:Int):=jO (by omega) (by omega);have D:aj az ((1:Nat):Int)=((1:Nat):Int):=jO (by omega) (by omega);have F:aj an (n:Int)=(n:Int):=cj (by omega) (by omega);refine Yy (aa ⟨d,0,none⟩) 1 1 (n:Int) h _ (ay (λg=>?_) (λ_=>?_))
 ·have g:=dT g;omega
 rw[N,D];refine(Zx (by omega) h).mono ?_;rintro _ T ⟨rfl,R⟩;rw[R];refine⟨_,_,rfl,ay (λg=>?_) (λ_=>ay (λg=>?_) (λ_=>?_))⟩
 ·exact absurd (dT g) (by omega)
 ·have g:=dT g;omega
 rw[F];have H:=ahA n L;rw[show(aH n 0).map iv=qc (aA (-1)) (aA 0) 0 n by unfold qc;rw[map_replicate];rfl]at H;refine⟨_,_,_,H,?_⟩;have r:=(Ok.refl w).push (.cells (qc (aA (-1)) (aA 0) 0 n) 3 1 af);have A:=cC h (.cells (qc (aA (-1)) (aA 0) 0 n) 3 1 af);have u:=r.ext _ _ C;generalize h.push (.cells (qc (aA (-1)) (aA 0) 0 n) 3 1 af)=g at*;have f:∀j,j<=n->(qc (aA (-1)) (aA 0) j n).length=n:=λj I=>by unfold qc;simp;omega
 have p:∀(j:Nat)(g:aw),j<=n->(j=0->n=0)->yr h h.ax 3 (qc (aA (-1)) (aA 0) j n) g->cq sI (pq 575) [(sA (h.ax) n n),(aA (j:Int))] g (fZ sI (pq 319) [] (kU sI λv y=>∃o,v=sA o n n/\yr h o 3 (aH n (aA (-1))) y)):=by
  intro j g I t a;refine DX (aa ⟨d,0,none⟩) 1 1 (n:Int) (aa ⟨h.ax,0,none⟩) n n (λE j g=>∃i:Nat,j=(i:Int)/\i<=n/\(i=0->n=0)/\E=n-i/\yr h h.ax 3 (qc (aA (-1)) (aA 0) i n) g) _ (λE j=>?_) (n-j) (j:=(j:Int)) ⟨j,rfl,I,t,rfl,a⟩;intros;rename_i z P;obtain⟨i,rfl,k,S,rfl,a⟩:=P;refine ay (λq=>?_) (λq=>?_)
  ·have q:=dT q;have B:=(Ok.refl a.ok.wf).room 10;have s:=B.ext _ _ a.row;obtain⟨Q,O⟩:=acg s (f i k) (by unfold ft;omega) k;have G:ig (Go.Ab.room z 10) 1 (sA h.ax i n)=aa (aH i (aA (-1)),i):=by
    show(match (Go.Ab.room z 10).get h.ax with|some (.cells cs ..)=>if((cs.drop 0).take (i*1)).length=i*1 then aa ((cs.drop 0).take (i*1),i)else none|_=>none)=_;rw[s];dsimp only;rw[df,bV,iP (by rw[bo,f i k];omega)];unfold qc;rw[List.take_append_of_le_length (by simp),bm (by simp)]
   have b:=UM (c:=n-i) s (by rw[f i k];omega) (i:=i) (n:=n-i) G (by simp) (by omega) (by omega) (cw.2 λx u=>by rw[List.eq_of_mem_replicate u];rfl);rw[WJ k]at b;refine⟨_,_,_,Q,_,_,_,O,_,_,b,?_⟩;have M:min i (n-i)<=n-i:=Nat.min_le_right _ _;have J:0<min i (n-i):=by omega
   have K:min i (n-i)<=i:=Nat.min_le_left _ _;generalize min i (n-i)=m at*;dsimp only;rw[show aj an ((i:Int)+(m:Int))=((i+m:Nat):Int) by rw[cj (by omega) (by omega)];omega];refine fG (n-(i+m)) (by omega) ⟨i+m,rfl,by omega,by omega,rfl,?_,a.new,?_⟩
   ·show((Go.Ab.room z 10).set h.ax _).get h.ax=_;rw[aw.bZ,iP rfl]
   ·exact(a.ok.trans B).set _ (aS _) (B.wf _ _ s) w
  ·have q:=dF q;obtain rfl:i=n:=by omega
   refine⟨h.ax,rfl,?_⟩;have e:qc (aA (-1)) (aA 0) i i=aH i (aA (-1)):=by unfold qc;rw[Nat.sub_self];simp
   rw[e]at a;exact a
 have l:ig g 1 (sA d 1 1)=aa ([aA (-1)],1):=by
  show(match g.get d with|some (.cells cs ..)=>if((cs.drop 0).take (1*1)).length=1*1 then aa ((cs.drop 0).take (1*1),1)else none|_=>none)=_;rw[u];rfl
 by_cases t:n=0
 ·subst t;have b:copyV au 27 (sA h.ax 0 0) (sA d 1 1) g=aa (aA 0,.no):=by
   unfold copyV;rw[fs];dsimp only;rw[wu];dsimp only;rw[l];dsimp only;rw[iP (.inl rfl)]
  exact⟨_,_,b,p 0 _ (aS _) (λ_=>rfl) ⟨A,aS _,r⟩⟩
 ·have b:=UM (c:=n) A (by rw[f 0 (by omega)];omega) (i:=0) (n:=n) l rfl t (by decide) rfl;have e:(qc (aA (-1)) (aA 0) 0 n).take 0++([aA (-1)]:List ah).take (min 1 n)++(qc (aA (-1)) (aA 0) 0 n).drop (0+min 1 n)=qc (aA (-1)) (aA 0) 1 n:=by
   rw[show min 1 n=1 by omega];unfold qc;rw[List.drop_append];simp
  rw[e,show min 1 n=1 by omega]at b;refine⟨_,_,b,p 1 _ (by omega) (by omega) ⟨?_,aS _,r.set _ (aS _) (r.wf _ _ A) w⟩⟩;show(g.set h.ax _).get h.ax=_;rw[aw.bZ,iP rfl]
section
def wy:eE:= .cells [aA 0,aA 0,strOf [],nA] 24 0 af
theorem Mz:cD au 24=aa (wy,jL):=by rfl
theorem aiX(k s:Int)(l:List UInt8)(a:Option aF)(n c:Nat):cI au 24 [(0,(aA k)),(1,(aA s)),(2,(strOf l)),(3,(ae a n c))]=aa (aq ⟨[aA k,aA s,strOf l,ae a n c]⟩):=by cases a<;>kernel_rfl
theorem EM(M:cG)(a:Option aF)(n c:Nat):(dK M a n c).all eY=af:=by rfl
section
variable {hb g g':aw} {k8 k22 N:Nat} {M':cG} {ps:List (kH×ah)}
structure AM(hb:aw)(k8 k22 N:Nat)(M':cG)(ps:List (kH×ah))(g:aw):Prop where
 own:mE hb g (sA k22 N N) ps
 ok:Ok hb g
 box:g.get k8=aa (Bm M' (aa ⟨k22,0,none⟩) N N)
 hi:∀(i:Nat)(p:kH×ah),ps[i]?=aa p->∀j,dV p.2=aa j->k8<j
 nk:k22≠k8
theorem AM.ext(r:AM hb k8 k22 N M' ps g)(o:Ok g g'):AM hb k8 k22 N M' ps g':=⟨r.own.ok o,r.ok.trans o,o.ext _ _ r.box,r.hi,r.nk⟩
theorem AM.l3(r:AM hb k8 k22 N M' ps g):aM au 22 g (cn k8 3)=aa (sA k22 N N):=da KB V5 r.box (by simp[dK])
theorem AM.all(r:AM hb k8 k22 N M' ps g):aM au 24 g (pA k8)=aa (aq ⟨dK M' (aa ⟨k22,0,none⟩) N N⟩):=mr KD J6 sN r.box (by simp[dK])
theorem AM.ah5(w:Wf hb)(r:AM hb k8 k22 N M' ps g){i:Nat}{p:kH×ah}(d:ps[i]?=aa p)(f:List UInt8):
  ∃u:dJ,aQ au 9 (cn k22 (i*2+0)) (strOf f) g=aa (undef,u)/\AM hb k8 k22 N M' (ps.set i (⟨f,p.1.bG⟩,p.2)) (u.app g)/\g.ax<=(u.app g).ax:=by
 obtain⟨u,c,l,h,m,n⟩:=r.own.ah5 w r.ok d f;rw[bO]at c;refine⟨u,c,⟨l,h,m _ _ r.box r.nk,λj q a k b=>?_,r.nk⟩,Nat.le_of_eq n.symm⟩;rcases cX a with⟨_,e⟩|⟨_,a⟩
 ·rw[e]at b;exact r.hi i p d k b
 ·exact r.hi j q a k b
theorem AM.arc(w:Wf hb)(r:AM hb k8 k22 N M' ps g){i:Nat}{p:kH×ah}(d:ps[i]?=aa p){q:iu}{C:Nat}(o:g.get C=aa (.cells (jU q) 46 4 af))(G:p.1.bG.length<=100000):
  ∃(x:Option aF)(y z:Nat),aM au 42 g (cn k22 (i*2+1))=aa (ae x y z)/\p.2=ae x y z/\∃(b:Option aF)(n c:Nat)(u:dJ),bY au 42 42 (ae x y z) (sA C 1 1) g=aa (ae b n c,u)/\
   ∃f:dJ,aQ au 42 (cn k22 (i*2+1)) (ae b n c) (u.app g)=aa (undef,f)/\AM hb k8 k22 N M' (ps.set i (⟨p.1.f,p.1.bG++[q]⟩,ae b n c)) (f.app (u.app g)):=by
 obtain⟨L,l,_⟩:=r.own.at_ d;rw[bO]at L l;have t:=r.own.bG i p d;obtain⟨x,z,e⟩:=t.rM;obtain⟨b,n,c,u,s,J,F,v,B,P⟩:=O0 w r.ok t o G;obtain⟨f,A,K,E,H,M⟩:=r.own.ah4 w F d v J B r.ok.wf;rw[bO]at A;rw[e]at s l;refine⟨x,_,z,l,e,b,n,c,u,s,f,A,⟨K,E,H _ _ (v _ _ r.box (λD=>by have:=r.hi i p d _ D;omega)) r.nk,λj I a k m=>?_,r.nk⟩⟩;have O:k8<g.ax:=r.ok.wf _ _ r.box;rcases cX a with⟨_,e⟩|⟨_,a⟩
 ·rw[e]at m;rcases B k m with h|h
  ·omega
  ·exact r.hi i p d k h
 ·exact r.hi j I a k m
end
theorem AB.aj3{hb g:aw}(w:Wf hb)(a:Ok hb g){k:Nat}{q:iu}(b:AB g k q)(c:hb.ax<=k)(z:Int):∃u:dJ,aQ au 3 (cn k (0+3)) (aA z) g=aa (undef,u)/\Ok hb (u.app g)/\AB (u.app g) k ⟨q.i,q.o,q.w,z⟩:=by
 refine⟨_,eu wu b (by simp[jU]) rfl rfl,a.set _ c (a.wf _ _ b) w,?_⟩;show(g.set k _).get k=_;rw[aw.bZ,iP rfl];rfl
theorem AB.all{g:aw}{q:iu}(b:AB g k q):aM au 46 g (pA k)=aa (aq ⟨jU q⟩):=mr ako aiI VN b (by simp[jU])
def Oz(N:Nat)(ord:List Nat):List ah:=(dL N).map λx=> aA (ic ord 0 x)
theorem Nv(N:Nat)(ord:List Nat):(Oz N ord).length=N:=by simp[Oz]
theorem aeC(N:Nat):Oz N []=aH N (aA (-1)):=by
 refine cV λi=>?_;unfold Oz;rw[getElem?_map,getElem?_replicate];by_cases h:i<N
 ·rw[List.getElem?_range h,iP h];rfl
 grind
theorem aba{N:Nat}{ord:List Nat}(b:k∉ord):Oz N (ord++[k])=(Oz N ord).set k (aA ((ord.length:Nat):Int)):=by
 refine cV λi=>?_;unfold Oz;rw[getElem?_set,getElem?_map,getElem?_map,aG,List.length_range];by_cases h:i<N
 ·rw[List.getElem?_range h];simp only[fP];rw[Av _ _ _ _ b,bO];by_cases a:i=k
  ·rw[iP a,iP a.symm,iP (by omega)]
  ·rw[iN a,iN (λe=>a e.symm)]
 grind
theorem SU{g:aw}{N c:Nat}{ord:List Nat}(d:g.get j=aa (.cells (Oz N ord) 3 1 af)){x:Nat}(b:x<N):aZ au 27 (sA j N c) (aA (x:Int))=aa (cn j x)/\aM au 3 g (cn j x)=aa (aA (ic ord 0 x)):=by
 have a:=Gw (P:=au) fs wu (k:=j) (off:=0) (n:=N) (c:=c) (ik:= an) (i:=(x:Int)) (by omega) (by omega);rw[bn,bO,df]at a;refine⟨a,?_⟩;rw[da rk ri d (by rw[Nv];exact b)]
 grind[Oz]
theorem Lv:∀{l:List Nat},l.Nodup->∀{i j x:Nat},l[i]?=aa x->l[j]?=aa x->i=j
 |[],_,i,j,x,h,_=>by grind
 |y::l,a,0,0,x,_,_=>rfl
 |y::l,a,0,j+1,x,h,b=>by grind
 |y::l,a,i+1,0,x,h,b=>by grind
 |y::l,a,i+1,j+1,x,h,b=>by
  exact congrArg (· + 1) (Lv (List.nodup_cons.1 a).2 (x:=x) (by grind) (by grind))
theorem tU:∀(N:Nat){l:List Nat},l.Nodup->(∀x∈l,x<N)->l.length<=N
 |0,l,_,h=>by
  cases l with
  |nil=>grind
  |cons x l=>exact absurd (h x (cH ..)) (dH _)
 | N+1,l,a,h=>by
  by_cases c:N∈l
  ·have e:=List.length_erase_of_mem c;have f:=tU N (a.erase N) (λx b=>by
    have d:=(a.mem_erase_iff).1 b;have:=h x d.2;omega)
   omega
  ·exact Nat.le_succ_of_le (tU N a λx b=>by grind)
theorem afK{g:aw}(w:Wf g){n i j:Nat}(b:i<n)(c:j<n)(d:i≠j)(A B:eE):Ok g (bS (Go.Ab.room g n) g.ax [(j,B),(i,A)])/\(bS (Go.Ab.room g n) g.ax [(j,B),(i,A)]).get (g.ax+i)=aa A/\(bS (Go.Ab.room g n) g.ax [(j,B),(i,A)]).get (g.ax+j)=aa B:=by
 have a:Ok g ((Go.Ab.room g n).set (g.ax+i) A):=((Ok.refl w).room n).set A (dg _ _) (Nat.add_lt_add_left b _) w;refine⟨a.set B (dg _ _) (Nat.add_lt_add_left c _) w,?_,?_⟩
 ·show(((Go.Ab.room g n).set (g.ax+i) A).set (g.ax+j) B).get (g.ax+i)=_
  simp_all[aw.bZ]
 ·show(((Go.Ab.room g n).set (g.ax+i) A).set (g.ax+j) B).get (g.ax+j)=_;rw[aw.bZ,iP rfl]
def Kx(M:cG)(ord:List Nat)(i:Nat):List kH:=(ord.take i).map (uB M ord)++aH (ord.length-i) Mj.1
theorem Yu(M:cG)(ord:List Nat):Kx M ord 0=aH ord.length Mj.1:=by rfl
theorem Ys(M:cG)(ord:List Nat):Kx M ord ord.length=ord.map (uB M ord):=by simp[Kx]
theorem Vw{M:cG}{ord:List Nat}(a:i<ord.length):(Kx M ord i)[i]?=aa Mj.1:=by
 unfold Kx
 grind
theorem Yt{M:cG}{ord:List Nat}(a:ord[i]?=aa k):(Kx M ord i).set i (uB M ord k)=Kx M ord (i+1):=by
 have c:i<ord.length:=(List.getElem?_eq_some_iff.1 a).1;unfold Kx;have b:((ord.take i).map (uB M ord)).length=i:=by simp;omega
 rw[List.set_append,iN (by omega),b,Nat.sub_self,eI,a,bU,cE];congr 1;rw[show ord.length-i=(ord.length-(i+1))+1 by omega,List.replicate_succ,List.set_cons_zero];rfl
theorem mE.low{h hb g g':aw}{ps:List (kH×ah)}(m:mE hb g v ps)(o:Ok h hb)(s:∀j B,g.get j=aa B->hb.ax<=j->g'.get j=aa B):mE h g' v ps:=by
 have a:∀{e:aD}{b:Nat}{v:ah}{d:List (List ah)},hJ hb g e b v d->hJ h g' e b v d:=λ{e b v d} r=>by
  obtain⟨f,r|⟨k,l,cs,c,t,n,q,u⟩⟩:=r
  ·exact⟨f,.inl r⟩
  ·exact⟨f,.inr ⟨k,l,cs,c,t,bK o.nx n,s _ _ q n,u⟩⟩
 exact⟨a m.row,λi p w=>a (m.bG i p w),m.ne,m.Oy⟩
section
variable {h:aw} {M:cG} {a:Option aF} {n c:Nat} {b:Option aF} {m d:Nat} {ord:List Nat}
theorem aec{M:cG}{x:Nat}{s:kH}(a:M.aE[x]?=aa s):M.aE.getD x ⟨[],[]⟩=s:=by grind
def N6(M:cG)(ord:List Nat)(i j:Nat)(s:kH):List kH:=(Kx M ord i).set i ⟨s.f,(s.bG.take j).filterMap (jM ord)⟩
def rP2(hb:aw)(M:cG)(ord:List Nat)(k8 k22:Nat)(a i:Nat)(g:aw):Prop:=i<=ord.length/\a=ord.length-i/\∃ps,ps.map (·.1)=Kx M ord i/\AM hb k8 k22 ord.length (lq M ord) ps g
def rP3(hb:aw)(M:cG)(ord:List Nat)(k8 k22 i:Nat)(s:kH)(a j:Nat)(g:aw):Prop:=j<=s.bG.length/\a=s.bG.length-j/\∃ps,ps.map (·.1)=N6 M ord i j s/\AM hb k8 k22 ord.length (lq M ord) ps g
theorem O1{M:cG}{ord:List Nat}{s:kH}{q:iu}(b:s.bG[j]?=aa q)(c:i<ord.length):N6 M ord i (j+1) s=(match jM ord q with|none=>N6 M ord i j s|some a=>(N6 M ord i j s).set i ⟨s.f,(s.bG.take j).filterMap (jM ord)++[a]⟩):=by grind[eI,List.set_set,N6]
theorem afc{M:cG}{ord:List Nat}{s:kH}(a:i<ord.length):(N6 M ord i j s)[i]?=aa ⟨s.f,(s.bG.take j).filterMap (jM ord)⟩:=by
 unfold N6;rw[getElem?_set,iP rfl,iP]
 grind[Vw]
theorem aaY{ps:List (kH×ah)}{L:List kH}(h:ps.map (·.1)=L){i:Nat}{s:kH}(a:L[i]?=aa s):∃p,ps[i]?=aa p/\p.1=s:=by grind
set_option linter.defProp false in
def SK{hb h0:aw}(w:Wf hb)(gd:Good M){k k4 k8 k22 T:Nat}(R:MB h0 k M a n c)(o0:Ok h0 hb)(hn:n<=300)(nb:hb.get T=aa (.cells (Oz n ord) 3 1 af)){i x:Nat}{s:kH}(F:ord[i]?=aa x)(hs:M.aE[x]?=aa s)(x9:s.bG.length<=2000)(x5:ord.length<=300){O:Option aF}{L E:Nat}(B:nM hb (ae O L E) s.bG)(e:Option aF)(en ec:Nat)(t:Nat)(y0:t=ord.length-i)(mv:List ah)(Q:VH):=
 GB mv b m d k k4 k8 k22 (i*2) (aa ⟨T,0,none⟩) n n O L E (rP2 hb M ord k8 k22) t i (rP3 hb M ord k8 k22 i s) Q (by
  intro x8 j;intros;rename_i g l;obtain⟨f1,rfl,ps,v,r⟩:=l;have S:i<ord.length:=(List.getElem?_eq_some_iff.1 F).1;have x4:n=M.aE.length:=R.len;have x6:=B.len;refine ay (λo=>?_) (λo=>?_)
  ·have o:=dT o;obtain⟨q,G⟩:∃q,s.bG[j]?=aa q:=⟨_,gE (by omega)⟩
   obtain⟨bb,oo,d1,d2,d3,d4,d5,d6⟩:=(B.ok r.ok).at_ G;have l:=gd.bG s (aI hs) q (aI G);obtain⟨Y,hY⟩:∃Y:Nat,q.t=(Y:Int):=⟨q.t.toNat,by have:=l.t0;omega⟩
   have x0:Y<n:=by have:=l.t1;omega
   have P:=r.ok.wf;obtain⟨u,p1,C,p3⟩:=FK P q;refine⟨_,d1,_,d2,_,MA,u,p1,_,jE _ _,_,p3.l3,?_⟩;have D:=C.ext _ _ (r.ok.ext _ _ nb);generalize u.app (g.push JQ)=x2 at*;obtain⟨n1,n2⟩:=SU (c:=n) D x0;rw[hY];obtain⟨A,t1,t2,K⟩:=p3.aj3 P C (aS _) (ic ord 0 Y);refine⟨_,n1,_,n2,_,jE _ _,A,t1,_,jE _ _,_,K.l3,?_⟩;have f:=r.ext t2;generalize A.app x2=x7 at*;have J:aj an ((j:Int)+1)=((j+1:Nat):Int):=cL (n:=s.bG.length) (by omega) (by omega);have z:s.bG.length-(j+1)<s.bG.length-j:=by omega
   have y:q.t.toNat=Y:=by omega
   refine ay (λh=>?_) (λh=>?_)
   ·have h:¬ic ord 0 Y = -1:=by simpa using h
    have I:jM ord q=aa ⟨q.i,q.o,q.w,ic ord 0 Y⟩:=by unfold jM;rw[y,iN h]
    obtain⟨p,W,U⟩:=aaY v (afc (M:=M) (j:=j) (s:=s) S);obtain⟨o6,k6⟩:=xe f.ok.wf (n:=11) (j:=6) (by omega) (.cells (jU ⟨q.i,q.o,q.w,ic ord 0 Y⟩) 46 4 af);have V:=(Ok.refl f.ok.wf).room 11;have H:=f.ext o6;have x3:p.1.bG.length<=2000:=by rw[U];exact bK (jC ..) (by rw[bo];omega)
    obtain⟨x1,y1,z1,a1,e1,b2,Z,c2,u3,a2,u4,a3,N⟩:=H.arc w W k6 (by omega);have X:=((f.ext V).own.at_ W).2.1;rw[bO,e1]at X;refine⟨_,jc _ _,x1,y1,z1,X,_,(K.ok V).all,_,_,_,ai1 _,b2,Z,c2,u3,a2,_,jc _ _,u4,a3,?_⟩;dsimp only;rw[J];refine fG (s.bG.length-(j+1)) z ⟨by omega,rfl,_,?_,N⟩
    grind[map_set,O1]
   ·have h:ic ord 0 Y = -1:=by simpa using h
    have I:jM ord q=none:=by unfold jM;rw[y,iP h]
    rw[J];exact fG (s.bG.length-(j+1)) z ⟨by omega,rfl,ps,by grind[O1],f⟩
  ·have o:=dF o;rw[cL S (by omega)];refine fG (ord.length-(i+1)) (by omega) ⟨by omega,rfl,ps,?_,r⟩;rw[v,<-Yt F]
   grind[N6,uB])
theorem aev(w:Wf h)(gd:Good M)(hN:M.aE.length<=300)(hA:∀s∈M.aE,s.bG.length<=2000)(r:iY h (ae a n c) M.aE)(Z:Rd h 3 (ae b m d) (ord.map iv))(L:Fk M.aE.length ord):aW 98 [aq ⟨dK M a n c⟩,ae b m d] h (ahH h (lq M ord)):=by
 obtain⟨V,E⟩:=ni w r;have y7:n=M.aE.length:=V.len;have hm:m=ord.length:=by have:=Z.len;rwa[aG]at this
 have x4:ord.length<=300:=by
  have:=tU M.aE.length L.nd L.lt;omega
 refine aeu (dK M a n c) b m d h _ ⟨_,qx M a n c,_,Mz,_,_,_,qi _,?_⟩;have X:=E.push wy;have k4:=cC (h.push (Bm M a n c)) wy;have y0:=V.ok ((Ok.refl E.wf).push wy);have n4:h.ax<=(h.push (Bm M a n c)).ax:=E.nx;generalize h.push (Bm M a n c)=g0 at*;generalize z3:g0.ax=O at*;generalize g0.push wy=g4 at*;have o8:=(Ok.refl X.wf).push (.cells [aA (-1)] 3 1 af);have D:=X.trans o8;have kx:=cC g4 (.cells [aA (-1)] 3 1 af);have W:=y0.ok o8;have P:=o8.ext _ _ k4;generalize g4.push (.cells [aA (-1)] 3 1 af)=g8 at*;refine⟨_,eR _,_,_,_,W.l3,(Oa D.wf kx (n:=n) (by omega)).mono ?_⟩;rintro _ g9 ⟨kn,rfl,k⟩;refine⟨_,_,_,rfl,?_⟩;rw[<-aeC n]at k;have mx:∀{i x:Nat},ord[i]?=aa x->x<n:=λq=>by have:=L.lt _ (aI q);omega
 refine Gz (dK M a n c) b m d h.ax O (aa ⟨kn,0,none⟩) n n (λmz i g=>i<=m/\mz=m-i/\yr g8 kn 3 (Oz n (ord.take i)) g) _ (λmz i=>?_) m (i:=0) ⟨cr _,rfl,k⟩;intros;rename_i g F;obtain⟨f1,rfl,k⟩:=F;have f:=D.trans k.ok;refine ay (λI=>?_) (λI=>?_)
 ·have I:=dT I;obtain⟨x,q⟩:∃x,ord[i]?=aa x:=⟨_,gE (by omega)⟩
  obtain⟨p,e1,e2⟩:=atG (Z.ok f) q;have R:=mx q;obtain⟨n1,_⟩:=SU (c:=n) k.row R;have st:=eu (t:=3) wu k.row (i:=x) (by grind[Nv]) (v:= aA (i:Int)) rfl rfl;have y1:x∉ord.take i:=λx0=>by
   obtain⟨j,N,e⟩:=List.mem_iff_getElem.1 x0;rw[bo]at N;rw[List.getElem_take]at e;have e':ord[j]?=aa x:=by rw[gE (by omega),e]
   have:=Lv L.nd e' q;omega
  have hl:(ord.take i).length=i:=by rw[bo];omega
  refine⟨_,e1,_,e2,_,n1,_,st,?_⟩;rw[cL (n:=m) (by omega) (by omega)];refine fG (m-(i+1)) (by omega) ⟨by omega,rfl,?_⟩;have e3:ord.take (i+1)=ord.take i++[x]:=by rw[eI,q];rfl
  rw[e3,aba y1,hl];exact k.set D.wf x _
 ·have I:=dF I;obtain rfl:m=i:=by omega
  rw[bm (by omega)]at k;have A:=W.ok k.ok;have oR:=(Ok.refl f.wf).room 15;have H:=A.ok oR;have y6:=gd.oz;have y5:=gd.pY;obtain⟨S,hS⟩:∃S:Nat,M.start=(S:Int):=⟨M.start.toNat,by omega⟩
  have x8:S<n:=by omega
  have lS:=H.l1;rw[hS]at lS;obtain⟨n1,n2⟩:=SU (c:=n) (oR.ext _ _ k.row) x8;have mk:=ahz m (by omega);refine⟨_,rD _,_,H.l0,_,nV _,_,lS,_,n1,_,n2,_,MZ _,_,H.l2,_,_,_,mk,_,aiX _ _ _ _ _ _,_,Mz,?_⟩;obtain⟨o2,x3,U⟩:=afK f.wf (n:=15) (i:=11) (j:=13) (by omega) (by omega) (by omega) (.cells ((aH m Mj).map yC).flatten 44 2 af) wy;have z5:=f.ext;generalize y8:bS (Go.Ab.room g 15) g.ax [(13,wy),(11,.cells ((aH m Mj).map yC).flatten 44 2 af)]=S2 at*;have pa:=gL (t:=24) sN (cs0:=[aA 0,aA 0,strOf [],nA]) rfl U (cs:=[aA M.kind,aA (ic ord 0 S),strOf M.lead,sA (g.ax+11) m m]) rfl rfl;refine⟨_,pa,?_⟩;obtain⟨o3,y4⟩:=qO (cs:=[aA M.kind,aA (ic ord 0 S),strOf M.lead,sA (g.ax+11) m m]) f.wf o2 U (by omega);have x2:((dJ.set (g.ax+13) (.cells [aA M.kind,aA (ic ord 0 S),strOf M.lead,sA (g.ax+11) m m] 24 0 af)).app S2).get (g.ax+11)=aa (.cells ((aH m Mj).map yC).flatten 44 2 af):=by
   show(S2.set (g.ax+13) _).get (g.ax+11)=_;rw[aw.bZ,iN (by omega)];exact x3
  generalize (dJ.set (g.ax+13) (.cells [aA M.kind,aA (ic ord 0 S),strOf M.lead,sA (g.ax+11) m m] 24 0 af)).app S2=x7 at*;have y3:M.start.toNat=S:=by omega
  have l:AM g (g.ax+13) (g.ax+11) m (lq M ord) (aH m Mj) x7:=⟨mE.made x2 (by omega) (by omega),o3,by grind[Bm,dK,lq],λi p hp j N=>(by
   rw[getElem?_replicate]at hp;split at hp
   ·obtain rfl:=aC hp;cases N
   grind),by omega⟩
  subst hm;refine GA (dK M a n c) b ord.length d h.ax O (g.ax+13) (aa ⟨kn,0,none⟩) n n (rP2 g M ord (g.ax+13) (g.ax+11)) _ (λy9 i=>?_) ord.length (i:=0) ⟨cr _,rfl,_,by rw[Yu,map_replicate],l⟩;intros;rename_i gg F;obtain⟨f2,rfl,ps,C,l⟩:=F;have x5:=A.ok l.ok;refine ay (λG=>?_) (λG=>?_)
  ·have G:=dT G;have hi:i<ord.length:=by omega
   obtain⟨x,q⟩:∃x,ord[i]?=aa x:=⟨_,gE hi⟩
   have R:=mx q;obtain⟨s,K⟩:=vR (M:=M) (i:=x) (by omega);obtain⟨p,e1,e2⟩:=atG (Z.ok (f.trans l.ok)) q;obtain⟨p0,T,x6⟩:=aaY C (Vw (M:=M) hi);obtain⟨i1,i2,i3⟩:=l.own.at_ T;rw[bO]at i1;obtain⟨u,s1,J,_⟩:=l.ah5 f.wf T s.f;obtain⟨bb,o,x',y,z,j1,j2,j3,j4,ar⟩:=A.row.K1 l.ok K;obtain⟨z4,o',z0,y2,z2,l1,l2,l3,l4,Q⟩:=A.row.K1 J.ok K;have x1:=A.ok J.ok;refine⟨_,e1,_,e2,_,eR _,_,_,_,l.l3,_,i1,_,eR _,_,_,_,x5.l3,_,j1,_,pk _ _,_,j3,_,pk _ _,u,s1,_,eR _,_,_,_,x1.l3,_,l1,_,jc _ _,_,_,_,l4,?_⟩;refine SK (h0:=g) f.wf gd A (Ok.refl f.wf) (by omega) k.row q K (hA s (aI K)) x4 Q none 0 0 _ rfl (dK M a n c) _ y2 (j:=0) ⟨cr _,Q.len.trans rfl,_,?_,J⟩;rw[map_set,C];unfold N6;rw[dU,x6];rfl
  ·have G:=dF G;obtain rfl:i=ord.length:=by omega
   rw[Ys]at C;have oG:=f.trans l.ok;have Y:=l.ok.ext _ _ (k.ok.ext _ _ P);have hK:O<g.ax:=f.wf _ _ (k.ok.ext _ _ P);have x9:=gL (t:=24) sN (cs0:=[aA 0,aA 0,strOf [],nA]) rfl Y (cs:=dK (lq M ord) (aa ⟨g.ax+11,0,none⟩) ord.length ord.length) rfl (EM _ _ _ _);obtain⟨o5,k5⟩:=qO (cs:=dK (lq M ord) (aa ⟨g.ax+11,0,none⟩) ord.length ord.length) w oG Y (by omega);refine⟨_,l.all,_,x9,CT (v:= aq ⟨dK (lq M ord) (aa ⟨g.ax+11,0,none⟩) ord.length ord.length⟩) (mr KD J6 sN k5 (by simp[dK])) ?_⟩;refine⟨_,_,_,ps,rfl,by rw[C];rfl,?_,o5⟩;exact l.own.low f (λj B N z1=>by
    show(gg.set O _).get j=_;rw[aw.bZ,iN (by omega)];omega)
end
end
section
theorem agm{g:aw}{e:Option aF}{en ec:Nat}{ord:List Nat}(r:Rd g 3 (ae e en ec) (Oz j ord)){x:Nat}(a:x<j):∃p:aF,aZ au 27 (ae e en ec) (aA (x:Int))=aa (bN p)/\aM au 3 g (bN p)=aa (aA (ic ord 0 x)):=by
 obtain⟨p,b,c⟩:=Rd.at_ fs wu rk ri r (k:= an) (i:=(x:Int)) (by omega) (by rw[Nv];omega);refine⟨p,b,?_⟩;rw[c,bn];unfold Oz;rw[gD,getElem?_map,List.getElem?_range a];rfl
section
variable {hb g g':aw} {k7:Nat} {M':cG} {a:Option aF} {n c:Nat} {ps:List (kH×ah)}
structure V1(hb:aw)(k7:Nat)(M':cG)(a:Option aF)(n c:Nat)(ps:List (kH×ah))(g:aw):Prop where
 own:mE hb g (ae a n c) ps
 ok:Ok hb g
 box:g.get k7=aa (Bm M' a n c)
 nv:∀j,dV (ae a n c)=aa j->k7<j
 hi:∀(i:Nat)(p:kH×ah),ps[i]?=aa p->∀j,dV p.2=aa j->k7<j
 kn:hb.ax<=k7
theorem V1.ext(r:V1 hb k7 M' a n c ps g)(o:Ok g g'):V1 hb k7 M' a n c ps g':=⟨r.own.ok o,r.ok.trans o,o.ext _ _ r.box,r.nv,r.hi,r.kn⟩
theorem V1.l3(r:V1 hb k7 M' a n c ps g):aM au 22 g (cn k7 3)=aa (ae a n c):=da KB V5 r.box (by simp[dK])
theorem V1.all(r:V1 hb k7 M' a n c ps g):aM au 24 g (pA k7)=aa (aq ⟨dK M' a n c⟩):=mr KD J6 sN r.box (by simp[dK])
theorem V1.snoc(w:Wf hb)(r:V1 hb k7 M' a n c ps g){f:List UInt8}{b:Option aF}{y z:Nat}{q:List iu}(Q:hJ hb g 46 4 (ae b y z) (q.map jU))(J:∀k,dV (ae b y z)=aa k->k7<k/\dV (ae a n c)≠aa k/\∀(i:Nat) (p:kH×ah),ps[i]?=aa p->dV p.2≠aa k){L:Nat}(H:g.get L=aa (.cells [strOf f,ae b y z] 44 2 af))(N:ps.length<=100000):
  ∃(d:Option aF)(m l:Nat)(u:dJ),bY au 22 22 (ae a n c) (sA L 1 1) g=aa (ae d m l,u)/\∃G:dJ,aQ au 22 (cn k7 3) (ae d m l) (u.app g)=aa (undef,G)/\V1 hb k7 M' d m l (ps++[(⟨f,q⟩,ae b y z)]) (G.app (u.app g)):=by
 obtain⟨d,m,l,u,O,D,I,R,T,V⟩:=r.own.snoc w r.ok Q (λk o=>(J k o).2) H N;have U:=r.ok.wf _ _ r.box;have C:=R _ _ r.box (λe=>by have:=r.nv _ e;omega);have S:=eu (P:=au) (t:=22) (by kernel_rfl) C (i:=3) (by simp[dK]) (v:= ae d m l) (dD ..) (by cases d<;>rfl);have F:∀j,dV (ae d m l)=aa j->k7<j:=λj e=>by
  rcases T j e with h|h
  ·omega
  ·exact r.nv j h
 have E:∀(i:Nat)(p:kH×ah),(ps++[((⟨f,q⟩:kH),ae b y z)])[i]?=aa p->∀j,dV p.2=aa j->k7<j:=λi p s j K=>by
  rw[List.getElem?_append]at s;split at s
  ·exact r.hi i p s j K
  ·obtain rfl:=aX.1 (aI s);exact(J j K).1
 refine⟨d,m,l,u,O,_,S,⟨?_,I.set _ r.kn (I.wf _ _ C) w,?_,F,E,r.kn⟩⟩
 ·have A:∀{v:ah}(k:Nat)(B:eE),(∀j,dV v=aa j->k7<j)->dV v=aa k->(u.app g).get k=aa B->((dJ.set k7 (.cells ((dK M' a n c).set 3 (ae d m l)) 24 0 af)).app (u.app g)).get k=aa B:=λ{v} k B M o x=>by
   show((u.app g).set k7 _).get k=_;rw[aw.bZ,iN (λe=>by have:=M k o;omega)];exact x
  exact⟨D.row.nY λk B o x=>A k B F o x,λi p s=>(D.bG i p s).nY λk B o x=>A k B (E i p s) o x,D.ne,D.Oy⟩
 ·show((u.app g).set k7 _).get k7=_;rw[aw.bZ,iP rfl];rfl
end
theorem SB.ah4{hb g:aw}(w:Wf hb)(h:Ok hb g){k:Nat}{f:List UInt8}{x:Option aF}{y z:Nat}(b:SB g k f x y z)(i:hb.ax<=k)(a:Option aF)(c d:Nat):∃u:dJ,aQ au 42 (cn k (0+1)) (ae a c d) g=aa (undef,u)/\Ok hb (u.app g)/\SB (u.app g) k f a c d/\∀j B,g.get j=aa B->j≠k->(u.app g).get j=aa B:=by
 refine⟨_,eu (by kernel_rfl) b (by simp) (dD ..) (by cases a<;>rfl),h.set _ i (h.wf _ _ b) w,?_,λj B l e=>?_⟩
 ·show(g.set k _).get k=_;rw[aw.bZ,iP rfl];rfl
 ·show(g.set k _).get j=_;rw[aw.bZ,iN e];exact l
theorem SB.all{g:aw}{x:Option aF}{z:Nat}(b:SB g k s x i z):aM au 44 g (pA k)=aa (aq ⟨[strOf s,ae x i z]⟩):=mr aiu agG Rf b (by simp)
theorem Vj(ord:List Nat)(x:Nat):0<=ic ord 0 x↔ ¬ic ord 0 x = -1:=by
 rcases ux ord 0 x with h|h<;>omega
section
variable {h:aw} {M:cG} {a:Option aF} {n c:Nat} {b:Option aF} {m d:Nat} {e:Option aF} {en ec:Nat} {ord:List Nat}
theorem agU(k s:Int)(l:List UInt8):cI au 24 [(0,(aA k)),(1,(aA s)),(2,(strOf l))]=aa (aq ⟨[aA k,aA s,strOf l,nA]⟩):=by kernel_rfl
theorem agV(l:List UInt8):cI au 44 [(0,(strOf l))]=aa (aq ⟨[strOf l,nA]⟩):=by kernel_rfl
def rQ1(hb:aw)(M:cG)(ord:List Nat)(k7:Nat)(b i:Nat)(g:aw):Prop:=i<=ord.length/\b=ord.length-i/\∃a n c ps,ps.map (·.1)=(ord.take i).map (uB M ord)/\V1 hb k7 (lq M ord) a n c ps g
def rQ2(b:aw)(ord:List Nat)(s:kH)(a:Nat)(c j:Nat)(g:aw):Prop:=j<=s.bG.length/\c=s.bG.length-j/\Ok b g/\∃x y z,SB g a s.f x y z/\hJ b g 46 4 (ae x y z) (((s.bG.take j).filterMap (jM ord)).map jU)/\dV (ae x y z)≠aa a
set_option linter.defProp false in
def Ti{hb N:aw}(w:Wf hb)(gd:Good M){k k6 k7 k9 r:Nat}(y6:n=M.aE.length)(hn:n<=300)(rn:Rd hb 3 (ae e en ec) (Oz n ord)){i x:Nat}{s:kH}(hx:ord[i]?=aa x)(hs:M.aE[x]?=aa s)(z2:s.bG.length<=2000)(y7:ord.length<=300){a0:Option aF}{n0 c0:Nat}{ps:List (kH×ah)}(X:ps.map (·.1)=(ord.take i).map (uB M ord))(c:V1 hb k7 (lq M ord) a0 n0 c0 ps N){b':Option aF}{m' d':Nat}(sb:SB N k9 s.f b' m' d')(ar:nM hb (ae b' m' d') s.bG)(y5:N.ax=r)(mz:Nat)(z4:mz=ord.length-i)(mv:List ah)(Q:VH):=
 GM mv b m d e en ec k k6 k7 k9 r (rQ1 hb M ord k7) mz i (rQ2 N ord s r) Q (by
  intro y9 j;intros;rename_i g o;obtain⟨f1,rfl,a,U,P,R,t,D,G⟩:=o;have hi:i<ord.length:=(List.getElem?_eq_some_iff.1 hx).1;have V:=c.ok.wf;have S:=a.wf;have y1:=c.ok.trans a;have y8:=ar.len;have s9:=sb.ok a;refine⟨_,jc _ _,_,_,_,s9.l1,ay (λF=>?_) (λF=>?_)⟩
  ·have F:=dT F;obtain⟨q,hq⟩:∃q,s.bG[j]?=aa q:=⟨_,gE (by omega)⟩
   obtain⟨bb,oo,d1,d2,d3,d4,d5,d6⟩:=(ar.ok y1).at_ hq;have o:=gd.bG s (aI hs) q (aI hq);obtain⟨Y,hY⟩:∃Y:Nat,q.t=(Y:Int):=⟨q.t.toNat,by have:=o.t0;omega⟩
   have y3:Y<n:=by have:=o.t1;omega
   have Z:q.t.toNat=Y:=by omega
   obtain⟨u,p1,L,p3⟩:=FK S q;have hw:aj an ((j:Int)+1)=((j+1:Nat):Int):=cL (n:=s.bG.length) (by omega) (by omega);have ht:s.bG.take (j+1)=s.bG.take j++[q]:=by rw[eI,hq];rfl
   refine⟨_,jc _ _,_,_,_,s9.l1,_,d1,_,d2,_,MA,u,p1,_,jE _ _,_,p3.l3,?_⟩;have x9:=D.ok L;have x6:=t.ok L;have I:=a.trans L;generalize u.app (g.push JQ)=y2 at*;obtain⟨pn,n1,n2⟩:=agm (rn.ok (c.ok.trans I)) y3;rw[hY];refine⟨_,n1,_,n2,ay (λl=>?_) (λl=>?_)⟩
   ·have l:=(Vj ord Y).1 (dT l);have C:jM ord q=aa ⟨q.i,q.o,q.w,ic ord 0 Y⟩:=by unfold jM;rw[Z,iN l]
    obtain⟨J,t1,K,t3⟩:=p3.aj3 S L (aS _) (ic ord 0 Y);have x2:=p3.l3;rw[hY]at x2;refine⟨_,jE _ _,_,x2,_,n1,_,n2,_,jE _ _,J,t1,_,jc _ _,_,_,_,(t.ok K).l1,_,t3.all,_,_,_,ai1 _,?_⟩;have x5:=D.ok K;have O:=t.ok K;have z:=a.trans K;generalize J.app y2=x1 at*;have y:=(Ok.refl z.wf).push (.cells (jU ⟨q.i,q.o,q.w,ic ord 0 Y⟩) 46 4 af);have kP:=cC x1 (.cells (jU ⟨q.i,q.o,q.w,ic ord 0 Y⟩) 46 4 af);have H:=x5.ok y;have E:=O.ok y;have A:=z.trans y;generalize x1.push (.cells (jU ⟨q.i,q.o,q.w,ic ord 0 Y⟩) 46 4 af)=z5 at*;obtain⟨W,v,T,u3,a1,a2,a3,a4,a5,a6⟩:=O0 V A H kP (bK (jC ..) (by rw[bo];omega));have x4:=a4 _ _ E G;obtain⟨u4,v1,v2,v3,v4⟩:=SB.ah4 V a3 x4 (by omega) W v T;have y4:=A.wf _ _ E;have x3:dV (ae W v T)≠aa r:=λe=>by
     rcases a5 _ e with h|h
     ·omega
     ·exact G h
    refine⟨W,v,T,u3,a1,_,jc _ _,u4,v1,?_⟩;dsimp only;rw[hw];refine fG (s.bG.length-(j+1)) (by omega) ⟨by omega,rfl,v2,W,v,T,v3,?_,x3⟩;rw[ht,fX,show List.filterMap (jM ord) [q]=[⟨q.i,q.o,q.w,ic ord 0 Y⟩] by simp[C]];exact a2.nY λk' B x8 hB=>v4 _ _ hB (λe=>x3 (by rw[x8,e]))
   ·have l:ic ord 0 Y = -1:=by
     have:=dF l;have:=mt (Vj ord Y).2 this;exact Classical.not_not.1 this
    have C:jM ord q=none:=by unfold jM;rw[Z,iP l]
    rw[hw];refine fG (s.bG.length-(j+1)) (by omega) ⟨by omega,rfl,I,U,P,R,x6,?_,G⟩;rw[ht,fX,show List.filterMap (jM ord) [q]=[] by simp[C],cF];exact x9
  ·have F:=dF F;have sg:=c.ext a;rw[bm (show s.bG.length<=j by omega)]at D;refine⟨_,eR _,_,_,_,sg.l3,_,t.all,_,_,_,akL _ _ _ _,?_⟩;have y:=(Ok.refl S).push (.cells [strOf s.f,ae U P R] 44 2 af);have kP:=cC g (.cells [strOf s.f,ae U P R] 44 2 af);have sP:=sg.ext y;have H:=D.ok y;generalize g.push (.cells [strOf s.f,ae U P R] 44 2 af)=z3 at*;have z1:ps.length<=300:=by
    have:=congrArg List.length X;rw[aG,aG,bo]at this;omega
   obtain⟨a',n',c',u,v1,J,v2,v3⟩:=sP.snoc w (H.base c.ok) (f:=s.f) (λkk x7=>by
    have h1:=(D.lt S x7).2;have h2:=c.ok.wf _ _ c.box;refine⟨by omega,λe=>?_,λi' p hp e=>?_⟩
    ·have:=(c.own.row.lt V e).1;omega
    ·have:=((c.own.bG i' p hp).lt V e).1;omega) kP (by omega)
   refine⟨a',n',c',u,v1,_,eR _,J,v2,?_⟩;dsimp only;rw[cL hi (by omega)];refine fG (ord.length-(i+1)) (by omega) ⟨by omega,rfl,a',n',c',_,?_,v3⟩;rw[bU,X,eI,hx,bU];unfold uB;simp only[aec hs,List.map_cons,List.map_nil,Option.toList_some])
theorem ae2(w:Wf h)(T:Good M)(hN:M.aE.length<=300)(hA:∀s∈M.aE,s.bG.length<=2000)(r:iY h (ae a n c) M.aE)(ro:Rd h 3 (ae b m d) (ord.map iv))(Q:Rd h 3 (ae e en ec) (Oz M.aE.length ord))(V:Fk M.aE.length ord):aW 116 [aq ⟨dK M a n c⟩,ae b m d,ae e en ec] h (ahH h (lq M ord)):=by
 obtain⟨L,A⟩:=ni w r;have J:n=M.aE.length:=L.len;rw[<-J]at Q;have hm:m=ord.length:=by have:=ro.len;rwa[aG]at this
 have x1:ord.length<=300:=by
  have:=tU M.aE.length V.nd V.lt;omega
 refine ae1 (dK M a n c) b m d e en ec h _ ⟨_,qx M a n c,_,Mz,?_⟩;have f:=A.push wy;have k4:=cC (h.push (Bm M a n c)) wy;have I:=L.ok ((Ok.refl A.wf).push wy);have n4:h.ax<=(h.push (Bm M a n c)).ax:=A.nx;generalize h.push (Bm M a n c)=g0 at*;generalize y5:g0.ax=Z at*;generalize g0.push wy=l at*;have oR:=(Ok.refl f.wf).room 12;have F:=I.ok oR;have y1:=T.oz;have y0:=T.pY;obtain⟨S,hS⟩:∃S:Nat,M.start=(S:Int):=⟨M.start.toNat,by omega⟩
 have x7:S<n:=by omega
 have lS:=F.l1;rw[hS]at lS;obtain⟨pn,n1,n2⟩:=agm (Q.ok (f.trans oR)) x7;obtain⟨o2,K⟩:=xe f.wf (n:=12) (j:=10) (by omega) wy;refine⟨_,rD _,_,F.l0,_,nV _,_,lS,_,n1,_,n2,_,MZ _,_,F.l2,_,agU _ _ _,_,Mz,?_⟩;dsimp only;generalize bS (Go.Ab.room l 12) l.ax [(10,wy)]=S2 at*;have O:M.start.toNat=S:=by omega
 have pa:=gL (t:=24) sN (cs0:=[aA 0,aA 0,strOf [],nA]) rfl K (cs:=[aA M.kind,aA (ic ord 0 S),strOf M.lead,nA]) rfl rfl;obtain⟨o3,C⟩:=qO (cs:=[aA M.kind,aA (ic ord 0 S),strOf M.lead,nA]) f.wf o2 K (by omega);have eM:dK (lq M ord) none 0 0=[aA M.kind,aA (ic ord 0 S),strOf M.lead,nA]:=by unfold dK lq;rw[O]
 refine⟨_,pa,?_⟩;generalize (dJ.set (l.ax+10) (.cells [aA M.kind,aA (ic ord 0 S),strOf M.lead,nA] 24 0 af)).app S2=x3 at*;rw[<-eM]at C;have k:V1 l (l.ax+10) (lq M ord) none 0 0 [] x3:=⟨mE.nil _ _,o3,C,λj W=>(by cases W),λi p hp=>(by simp at hp),by omega⟩
 have mx:∀{i x:Nat},ord[i]?=aa x->x<n:=λE=>by have:=V.lt _ (aI E);omega
 refine GL (dK M a n c) b m d e en ec h.ax Z (l.ax+10) (rQ1 l M ord (l.ax+10)) _ (λmz i=>?_) ord.length (i:=0) ⟨cr _,rfl,none,0,0,[],rfl,k⟩;intros;rename_i g x0;obtain⟨f1,rfl,P,X,Y,ps,D,k⟩:=x0;have q:=f.trans k.ok;have x9:=I.ok k.ok;refine ay (λH=>?_) (λH=>?_)
 ·have H:=dT H;have hi:i<ord.length:=by omega
  obtain⟨x,E⟩:∃x,ord[i]?=aa x:=⟨_,gE hi⟩
  have y2:=mx E;obtain⟨s,R⟩:=vR (M:=M) (i:=x) (by omega);have U:=(Ok.refl q.wf).room 10;have x2:=x9.ok U;obtain⟨p,e1,e2⟩:=atG (ro.ok (q.trans U)) E;obtain⟨bb,o,G,y,z,j1,j2,j3,j4,ar⟩:=I.row.K1 (k.ok.trans U) R;obtain⟨o8,k8⟩:=xe q.wf (n:=10) (j:=8) (by omega) Ut;have x6:s.bG.length<=2000:=hA s (aI R);refine⟨_,eR _,_,_,_,x2.l3,_,e1,_,e2,_,j1,_,j2,_,Zo,?_⟩;have y4:=k.ext o8;dsimp only;generalize bS (Go.Ab.room g 10) g.ax [(8,Ut)]=S3 at*;have pb:=gL (t:=44) Rf (cs0:=[strOf [],nA]) rfl k8 (cs:=[strOf s.f,ae G y z]) rfl (by cases G<;>rfl);obtain⟨o9,k9⟩:=qO (cs:=[strOf s.f,ae G y z]) q.wf o8 k8 (by omega);refine⟨_,pb,?_⟩;have x5:=k.ext o9;generalize (dJ.set (g.ax+8) (.cells [strOf s.f,ae G y z] 44 0 af)).app S3=x4 at*;have sb:SB x4 (g.ax+8) s.f G y z:=k9;obtain⟨u,p1,p2,p3⟩:=Vq o9.wf s.f none 0 0;refine⟨_,pk _ _,_,sb.l0,_,agV _,_,Zo,u,p1,?_⟩;exact Ti f.wf T J (by omega) (Q.ok f) E R x6 x1 D x5 sb ar rfl _ rfl (dK M a n c) _ s.bG.length (j:=0) ⟨cr _,rfl,p2,none,0,0,p3,hJ.nil _ _ _ _,λe=>(by cases e)⟩
 ·have H:=dF H;obtain rfl:i=ord.length:=by omega
  rw[bm (aS _)]at D;have N:=k.ok.ext _ _ k4;have hK:Z<l.ax:=f.wf _ _ k4;have x8:=gL (t:=24) sN (cs0:=[aA 0,aA 0,strOf [],nA]) rfl N (cs:=dK (lq M ord) P X Y) rfl (EM _ _ _ _);obtain⟨o5,k5⟩:=qO (cs:=dK (lq M ord) P X Y) w q N (by omega);refine⟨_,k.all,_,x8,CT (v:= aq ⟨dK (lq M ord) P X Y⟩) (mr KD J6 sN k5 (by simp[dK])) ?_⟩;refine⟨_,_,_,ps,rfl,by rw[D];rfl,?_,o5⟩;exact k.own.low f (λj B W y3=>by
   show(g.set Z _).get j=_;rw[aw.bZ,iN (by omega)];exact W)
end
end
def AX(a:Int):List UInt8:=if a=1 then[48]else if a=2\/a=3 then[49]else[]
theorem ad4(k:Nat):bB au 100 (pA k) 1=aa (cn k 1):=by kernel_rfl
theorem afj(a:Int){h:aw}(w:Wf h):aW 24 [aA a] h (λv s=>v=strOf (AX a)/\Ok h s):=by
 refine afi a h _ ((Q5 a w).mono ?_);rintro _ g ⟨rfl,o⟩;have d:∀(c:List ah)(b:Bool),c.length=8->c.all eY=af->c.getD 1 undef=strOf (AX a)->∃cs:List ah,∃t:Bool,(av ⟨[aq ⟨c⟩,ai b]⟩)=(av ⟨[aq ⟨cs⟩,ai t]⟩)/\∃B:eE,cD au 100=aa (B,jL)/\∃u:dJ,aQ au 100 (pA g.ax) (aq ⟨cs⟩) (g.push B)=aa (undef,u)/\∃p:aF,bB au 100 (pA g.ax) 1=aa (bN p)/\∃l:List UInt8,aM au 9 (u.app (g.push B)) (bN p)=aa (strOf l)/\(strOf l=strOf (AX a)/\Ok h (u.app (g.push B))):=by
  intro c b n q r;have j:=cC g Gi;have k:=(Ok.refl o.wf).push Gi;obtain⟨x,m⟩:=qO (cs:=c) o.wf k j (aS _);refine⟨c,b,rfl,Gi,UC,_,gL Jq rfl j n q,_,ad4 _,AX a,?_,rfl,o.trans x⟩;rw[da Y7 ag9 m (by omega),r]
 unfold ofV;split
 ·next e=>exact d FQ af rfl rfl (by unfold AX;rw[iP e];rfl)
 ·next e=>
  split
  ·next f=>exact d FT af rfl rfl (by unfold AX;rw[iN e,iP (.inl f)];rfl)
  ·next f=>
   split
   ·next i=>exact d FU af rfl rfl (by unfold AX;rw[iN e,iP (.inr i)];rfl)
   ·next i=>exact d sJ ak rfl rfl (by unfold AX;rw[iN e,iN (by rintro(h|h)<;>contradiction)];rfl)
theorem ae0(a:Int)(h:aw):aW 60 [aA a] h (λv c=>v=strOf (AX a)/\c=h):=by
 refine aeZ a h _ ((zH a h).mono ?_);rintro _ g ⟨rfl,rfl⟩;refine⟨_,rfl,ay (λq=>?_) (λq=>?_)⟩
 ·refine⟨?_,rfl⟩;simp at q;unfold AX;rw[iN (by omega),iN (by omega)]
 ·simp at q;refine ay (λb=>?_) (λb=>?_)
  ·have b:a=1:=by simpa using b
   refine⟨?_,rfl⟩;unfold AX;rw[iP b]
  ·have b:¬a=1:=by simpa using b
   refine⟨?_,rfl⟩;unfold AX;rw[iN b,iP (by omega)]
def Ky(h:aw)(R:cG×Int):VH:=λv b=>∃(a:Option aF)(n c:Nat)(d:List (kH×ah)),v=av ⟨[aq ⟨dK R.1 a n c⟩,aA R.2]⟩/\d.map (·.1)=R.1.aE/\mE h b (ae a n c) d/\Ok h b
def Gg:cG:=⟨0,0,[],[]⟩
def ym(a:Int):cG×Int:=if 1<=a/\a<=3 then(⟨a,0,AX a,[⟨[],[]⟩]⟩,0)else(Gg,1)
theorem R4:cI au 24 []=aa (aq ⟨dK Gg none 0 0⟩):=by kernel_rfl
theorem agT(k:Int)(l:List UInt8)(a:Option aF)(n c:Nat):cI au 24 [(0,(aA k)),(2,(strOf l)),(3,(ae a n c))]=aa (aq ⟨[aA k,aA 0,strOf l,ae a n c]⟩):=by cases a<;>kernel_rfl
theorem AD(w:Wf h)(o:Ok h g){k:Nat}(f:g.get k=aa wy)(i:h.ax<=k){R:cG×Int}{a:Option aF}{n c:Nat}{ps:List (kH×ah)}(e:ps.map (·.1)=R.1.aE){d:aw}(q:mE d g (ae a n c) ps)(r:Ok h d)(b:k<d.ax\/ps=[]/\a=none/\n=0/\c=0):
  ∃u:dJ,aQ au 24 (pA k) (aq ⟨dK R.1 a n c⟩) g=aa (undef,u)/\gI SS [(pA k,aa 24),(aA R.2,none)] (u.app g) (Ky h R):=by
 refine⟨_,gL (t:=24) sN (cs0:=[aA 0,aA 0,strOf [],nA]) rfl f (cs:=dK R.1 a n c) rfl (EM ..),?_⟩;obtain⟨l,m⟩:=qO (cs:=dK R.1 a n c) w o f i;refine CU (v:= aq ⟨dK R.1 a n c⟩) (mr KD J6 sN m (by simp[dK])) ⟨a,n,c,ps,rfl,e,?_,l⟩;rcases b with b|⟨rfl,rfl,rfl,rfl⟩
 ·exact q.low r (λj B p s=>by
   show(g.set k _).get j=_;rw[aw.bZ,iN (by omega)];exact p)
 ·exact mE.nil _ _
theorem zs(w:Wf h)(o:Ok h g){k:Nat}(d:g.get k=aa wy)(c:h.ax<=k){a:Int}(b:¬(1<=a/\a<=3)):∃cs:List ah,cI au 24 []=aa (aq ⟨cs⟩)/\∃u:dJ,aQ au 24 (pA k) (aq ⟨cs⟩) g=aa (undef,u)/\gI SS [(pA k,aa 24),(aA 1,none)] (u.app g) (Ky h (ym a)):=by
 have e:ym a=(Gg,1):=by unfold ym;rw[iN b]
 rw[e];exact⟨_,R4,AD w o d c (R:=(Gg,1)) (ps:=[]) rfl (mE.nil h g) (Ok.refl w) (.inr ⟨rfl,rfl,rfl,rfl⟩)⟩
theorem IS(w:Wf h)(o:Ok h g){k:Nat}(p:g.get k=aa wy)(j:h.ax<=k){b:aw}(q:Wf b)(l:Ok h b)(r:Ok b g)(f:k<b.ax){c:Nat}(m:b.ax<=c)(d:g.get c=aa (.cells ((aH 1 Mj).map yC).flatten 44 2 af)){a:Int}(i:1<=a/\a<=3):
  ∃cs:List ah,cI au 24 [(0,(aA a)),(2,(strOf (AX a))),(3,(sA c 1 1))]=aa (aq ⟨cs⟩)/\∃u:dJ,aQ au 24 (pA k) (aq ⟨cs⟩) g=aa (undef,u)/\gI SS [(pA k,aa 24),(aA 0,none)] (u.app g) (Ky h (ym a)):=by
 have e:ym a=(⟨a,0,AX a,[⟨[],[]⟩]⟩,0):=by unfold ym;rw[iP i]
 rw[e];exact⟨_,agT _ _ _ _ _,AD w o p j (R:=(⟨a,0,AX a,[⟨[],[]⟩]⟩,0)) (ps:=[Mj]) rfl (mE.made (hb:=b) (n:=1) d m (by omega)) l (.inl f)⟩
theorem Hl(w:Wf h){n j:Nat}(b:j<n)(o:Ok (Go.Ab.room h n) g)(B:eE):Ok h (bS g h.ax [(j,B)])/\(bS g h.ax [(j,B)]).get (h.ax+j)=aa B:=by
 have a:h.ax+n<=g.ax:=o.nx;refine⟨(((Ok.refl w).room n).trans o).set B (dg _ _) (by omega) w,?_⟩;show(g.set (h.ax+j) B).get (h.ax+j)=_;rw[aw.bZ,iP rfl]
theorem Qb(a:Int){h:aw}(w:Wf h):aW 97 [aA a] h (Ky h (ym a)):=by
 have b:=(Ok.refl w).push wy;have d:=cC h wy;refine Qa a h _ ⟨_,Mz,ay (λq=>?_) (λq=>ay (λc=>?_) (λc=>?_))⟩
 ·have q:=dT q;exact zs w b d (aS _) (by omega)
 ·have c:=dT c;exact zs w b d (aS _) (by omega)
 ·have q:=dF q;have c:=dF c;have m:(h.push wy).ax=h.ax+1:=rfl;generalize h.push wy=g at*;have l:=(Ok.refl b.wf).room 7;refine(afj a l.wf).mono ?_;rintro _ o ⟨rfl,k⟩;obtain⟨e,i⟩:=Hl b.wf (n:=7) (j:=3) (by omega) k (.cells ((aH 1 Mj).map yC).flatten 44 2 af);have f:=e.ext _ _ d;refine⟨_,rfl,_,_,_,ahz 1 (by omega),?_⟩;exact IS w (b.trans e) f (aS _) b.wf b e (by omega) (by omega) i (by omega)
theorem QH(a:Int){h:aw}(w:Wf h):aW 115 [aA a] h (Ky h (ym a)):=by
 have b:=(Ok.refl w).push wy;have d:=cC h wy;refine QG a h _ ⟨_,Mz,(zH a _).mono ?_⟩;have k:(h.push wy).ax=h.ax+1:=rfl;generalize h.push wy=g at*;rintro _ l ⟨rfl,rfl⟩;refine⟨_,rfl,ay (λq=>?_) (λq=>?_)⟩
 ·simp at q;exact zs w b d (aS _) (by omega)
 ·simp at q;have i:=(Ok.refl b.wf).room 7;refine(ae0 a _).mono ?_;rintro _ m ⟨rfl,rfl⟩;obtain⟨c,f⟩:=Hl b.wf (n:=7) (j:=3) (by omega) (Ok.refl i.wf) (.cells ((aH 1 Mj).map yC).flatten 44 2 af);have e:=c.ext _ _ d;refine⟨_,rfl,_,_,_,ahz 1 (by omega),?_⟩;exact IS w (b.trans c) e (aS _) b.wf b c (by omega) (by omega) f (by omega)
end Go.Proofs.YtnlccnpbjeiccaaGreatDoor
end
