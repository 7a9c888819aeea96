/- Laws and walks that the proof leans on (part 5): P55; F1; G1; G2; G3; G4 and others. No condition. -/
import Derived.Test.YtnlccnpbjeiccaaGreatDoorPart4
import Derived.Test.YtnlccnpbjeiccaaGreatDoorPart2
set_option linter.unusedVariables false
set_option linter.unusedSimpArgs false
set_option maxRecDepth 100000
open Bool renaming and_eq_true → bj, false → ak, false_ne_true → nq, not_eq_true' → dt, true → af
open Classical renaming byContradiction → fA, propDecidable → fo
open Go renaming Addr → aF, Oper → aR, Operand → bh, Program → aO, TypeId → aD, Value → ah
open Go.IntKind renaming i64 → an, wrap → aj
open Go.Value renaming agg → aq, bool → ai, func → aN, int → aB, pointer → aT, slice → ae, tuple → av
open Int renaming le_refl → fU, toNat_natCast → bn
open List renaming all_eq_true → cw, append_assoc → cE, append_nil → cF, cons_append → dQ, drop_eq_nil_of_le → cU, drop_zero → bV, eq_nil_of_length_eq_zero → aY, ext_getElem? → cV, filterMap_append → fX, filterMap_cons → eU, flatten_append → fV, flatten_cons → fg, length_append → bg, length_cons → bP, length_filterMap_le → jC, length_map → aG, length_replicate → bE, length_set → bT, length_singleton → bw, length_take → bo, map_append → bU, map_congr_left → kc, mem_append → bH, mem_append_left → dY, mem_cons → cO, mem_cons_of_mem → cJ, mem_cons_self → cH, mem_filter → iR, mem_filterMap → mF, mem_map → dZ, mem_of_getElem? → aI, mem_range → eL, mem_singleton → aX, nil_append → dq, range → dL, replicate → aH, take_add_one → eI, take_of_length_le → bm
open Nat renaming add_mul → cM, blt → dj, le_add_right → dg, le_refl → aS, le_trans → bK, lt_succ_self → eD, mod_eq_of_lt → eG, mul_le_mul → dC, mul_le_mul_right → bJ, mul_one → df, not_lt_zero → dH, one_mul → dw, zero_add → bO, zero_le → cr
open Option renaming map_some → fP, some → aa
open Option.some renaming inj → aC
open List (flatten_nil getElem?_eq_none getElem?_map getElem?_replicate getElem?_set map_map map_set nodup_cons set_set sum_cons)
section
namespace Go.Proofs.YtnlccnpbjeiccaaGreatDoor
open Go Go.Ab Go.Num
variable{m:Nat}{i:Nat}{g:aw}
section
noncomputable def oY(M:cG):List Nat:=(dL M.aE.length).filter λx=>@decide (kG M x) (fo _)
noncomputable def jz(M:cG):cG×Int:=@ite _ (fH M=af) _ (@ite _ (kG M M.start.toNat) (fo _) (lq M (oY M),0) (ym M.kind)) (Gg,1)
theorem AJ{M:cG}(h:fH M=ak):jz M=(Gg,1):=by unfold jz;rw[h];rfl
theorem xH{M:cG}(h:fH M=af)(a:¬kG M M.start.toNat):jz M=ym M.kind:=by unfold jz;rw[iP h,iN a]
theorem D9{M:cG}(h:fH M=af)(a:kG M M.start.toNat):jz M=(lq M (oY M),0):=by unfold jz;rw[iP h,iP a]
theorem vc(M:cG):Fk M.aE.length (oY M):=⟨λx a=>eL.1 (iR.1 a).1,List.nodup_range.filter _⟩
theorem Vn{M:cG}{L:List Bool}(c:m=M.aE.length)(a:∀x,x<m->(L.getD x ak=af↔kG M x)):(dL m).filter (λx=>L.getD x ak)=oY M:=by
 unfold oY;subst c;refine List.filter_congr λx b=>?_;exact O7 (a x (eL.1 b))
section
variable {h:aw} {M:cG} {a:Option aF} {n c:Nat}
def vE(L:List Bool)(i:Nat):List Nat:=(dL i).filter λx=>L.getD x ak
theorem vW(L:List Bool)(i:Nat):vE L (i+1)=vE L i++(if L.getD i ak=af then[i]else[]):=by
 unfold vE;rw[List.range_succ,List.filter_append];congr 1;split<;>simp_all
theorem Qu(L:List Bool)(i:Nat):(vE L i).length<=i:=by
 have:=List.length_filter_le (λx=>L.getD x ak) (dL i);rwa[List.length_range]at this
theorem NI{L:List Bool}{x:Nat}(a:x∈vE L i):x<i:=eL.1 (iR.1 a).1
theorem Rp{h d:aw}(w:Wf h)(o:Ok h g){b:Nat}(i:g.get b=aa wy)(e:h.ax<=b){R:cG}{v:ah}(k:ahH g R v d):∃cs:List ah,v=aq ⟨cs⟩/\∃u:dJ,aQ au 24 (pA b) (aq ⟨cs⟩) d=aa (undef,u)/\gI SS [(pA b,aa 24),(aA 0,none)] (u.app d) (Ky h (R,0)):=by
 obtain⟨a,n,c,m,rfl,f,l,j⟩:=k;exact⟨_,rfl,AD w (o.trans j) (j.ext _ _ i) e (R:=(R,0)) f l o (.inl (o.wf _ _ i))⟩
theorem Rq{h d:aw}(w:Wf h)(o:Ok h g){b:Nat}(j:g.get b=aa wy)(f:h.ax<=b){R:cG×Int}{v:ah}(l:Ky g R v d):∃cs:List ah,∃e:Int,v=av ⟨[aq ⟨cs⟩,aA e]⟩/\∃u:dJ,aQ au 24 (pA b) (aq ⟨cs⟩) d=aa (undef,u)/\gI SS [(pA b,aa 24),(aA e,none)] (u.app d) (Ky h R):=by
 obtain⟨a,n,c,p,rfl,i,m,k⟩:=l;exact⟨_,_,rfl,AD w (o.trans k) (k.ext _ _ j) f i m o (.inl (o.wf _ _ j))⟩
def tI(a:aw)(L:List Bool)(n:Nat)(b i:Nat)(t:Option aF)(tn tc:Nat)(g:aw):Prop:=i<=n/\b=n-i/\kJ a g 3 (ae t tn tc) ((vE L i).map iv)/\Ok a g
theorem aaX(tb:BG h)(w:Wf h)(p:Small M)(r:iY h (ae a n c) M.aE):aW 39 [aq ⟨dK M a n c⟩] h (Ky h (jz M)):=by
 obtain⟨O,m⟩:=ni w r;have G:n=M.aE.length:=O.len;have hn:n<=300:=by rw[G];exact p.OB
 refine aaW (dK M a n c) h _ ⟨_,qx M a n c,_,Mz,?_⟩;have n0:h.ax<=(h.push (Bm M a n c)).ax:=m.nx;generalize h.push (Bm M a n c)=Z at*;have k4:=cC Z wy;have o1:=(Ok.refl m.wf).push wy;have o:=m.trans o1;have y:=O.ok o1;generalize Z.push wy=g1 at*;generalize Z.ax=K at*;refine⟨_,y.all,(Ls (tb.ok o) o.wf p y.row).mono ?_⟩;rintro _ g2 ⟨rfl,Y⟩;have C:=o.trans Y;have x:=y.ok Y;have J:=Y.ext _ _ k4;refine⟨_,rfl,ay (λq=>?_) (λq=>?_)⟩
 ·have q:fH M=ak:=by simpa using q
  rw[AJ q];exact⟨_,R4,AD w C J n0 (R:=(Gg,1)) (ps:=[]) rfl (mE.nil h g2) (Ok.refl w) (.inr ⟨rfl,rfl,rfl,rfl⟩)⟩
 have q:fH M=af:=by simpa using q
 have E:=sS q;have h0:=E.oz;have h1:=E.pY;refine⟨_,x.all,(Mi C.wf p E x.row).mono ?_⟩;rintro _ g3 ⟨kl,L,rfl,A,T⟩;have W:=A.row.ok;have d:=C.trans W;have B:=x.ok W;have I:=W.ext _ _ J;obtain⟨S,hS⟩:∃S:Nat,M.start=(S:Int):=⟨M.start.toNat,by omega⟩
 have H:M.start.toNat=S:=by omega
 have D:S<n:=by omega
 have lS:=B.l1;rw[hS]at lS;obtain⟨x1,x2⟩:=kY (c:=n) A.row.row A.len D;refine⟨_,_,_,rfl,_,nV _,_,lS,_,x1,_,x2,ay (λf=>?_) (λf=>?_)⟩
 ·have f:L.getD S ak=ak:=by simpa using f
  have V:¬kG M M.start.toNat:=by rw[H,<-T S D,f];exact nq
  rw[xH q V];refine⟨_,rD _,_,B.l0,(Qb M.kind d.wf).mono ?_⟩;intro v g4 U;exact Rq w d I n0 U
 ·have f:L.getD S ak=af:=by simpa using f
  have V:kG M M.start.toNat:=by rw[H,<-T S D];exact f
  rw[D9 q V];refine EL (dK M a n c) h.ax K (aa ⟨kl,0,none⟩) n n (tI g3 L n) _ (λmz i t tn tc=>?_) n (i:=0) ⟨cr _,rfl,kJ.nil _ _ _,Ok.refl d.wf⟩;intros;rename_i g x0;obtain⟨f1,rfl,F,k⟩:=x0;refine ay (λz=>?_) (λz=>?_)
  ·have z:=dT z;have X:i<n:=by omega
   obtain⟨y1,y2⟩:=kY (c:=n) (k.ext _ _ A.row.row) A.len X;have l:=vW L i;refine⟨_,y1,_,y2,ay (λQ=>?_) (λQ=>?_)⟩
   ·rw[iP Q]at l;have oP:=(Ok.refl k.wf).push (.cells [aA (i:Int)] 3 1 af);have kP:=cC g (.cells [aA (i:Int)] 3 1 af);have hl:=Qu L i;obtain⟨b,n',c',u,a1,a2,a3,a4,_⟩:=VJ d.wf (k.trans oP) (F.ok oP) kP (by rw[aG];omega);refine⟨_,_,_,qi _,b,n',c',u,a1,?_⟩;dsimp only;rw[cL X (by omega)];refine nE (n-(i+1)) (by omega) ⟨by omega,rfl,?_,a4⟩;rw[l,bU];exact a3
   ·rw[iN (by rw[Q];exact nq),cF]at l;rw[cL X (by omega)];exact nE (n-(i+1)) (by omega) ⟨by omega,rfl,by rw[l];exact F,k⟩
  ·have z:=dF z;obtain rfl:n=i:=by omega
   have N:=d.trans k;have P:=B.ok k;have eo:vE L n=oY M:=Vn G T;rw[eo]at F;refine⟨_,P.all,(aev N.wf E p.OB (λs hs=>?_) P.row F.rd (vc M)).mono ?_⟩
   ·obtain⟨j,hj,e⟩:=List.mem_iff_getElem.1 hs;exact(tN p (i:=j) (by rw[gE hj,e])).1
   ·intro v g5 U;exact Rp w N (k.ext _ _ I) n0 U
def rN(L:List Bool)(n i:Nat):List ah:=(dL n).map λx=> aA (if x<i then ic (vE L i) 0 x else 0)
theorem Tg(L:List Bool)(n i:Nat):(rN L n i).length=n:=by simp[rN]
theorem aeY(L:List Bool)(n:Nat):(aH n 0).map iv=rN L n 0:=by
 refine cV λx=>?_;unfold rN;rw[getElem?_map,getElem?_map,getElem?_replicate];by_cases h:x<n
 ·rw[List.getElem?_range h,iP h];rfl
 ·rw[iN h,getElem?_eq_none (by simpa using h)];rfl
theorem aeW(L:List Bool)(n:Nat):rN L n n=Oz n (vE L n):=by
 unfold rN Oz;refine kc λx a=>?_;rw[iP (eL.1 a)]
theorem aeX(L:List Bool){n i:Nat}(d:i<n):rN L n (i+1)=(rN L n i).set i (aA (ic (vE L (i+1)) 0 i)):=by
 refine cV λx=>?_;unfold rN;rw[getElem?_set,getElem?_map,getElem?_map,aG,List.length_range];have b:i∉vE L i:=λh=>Nat.lt_irrefl _ (NI h);by_cases h:x<n
 ·rw[List.getElem?_range h];simp only[fP];by_cases e:i=x
  ·subst e;rw[iP rfl,iP d,iP (eD i)]
  ·rw[iN e];by_cases a:x<i
   ·rw[iP (by omega),iP a,vW];split
    ·rw[Av _ _ _ _ b,iN (λc=>e c.symm)]
    ·rw[cF]
   ·rw[iN (by omega),iN a]
 ·rw[getElem?_eq_none (by simpa using h)];by_cases e:i=x
  ·omega
  ·rw[iN e];rfl
theorem abf{L:List Bool}(h:L.getD i ak=af):ic (vE L (i+1)) 0 i=((vE L i).length:Nat):=by
 have a:i∉vE L i:=λh=>Nat.lt_irrefl _ (NI h);rw[vW,iP h,Av _ _ _ _ a,iP rfl,bO]
theorem aeG{L:List Bool}(h:L.getD i ak=ak):ic (vE L (i+1)) 0 i = -1:=by
 have a:i∉vE L i:=λh=>Nat.lt_irrefl _ (NI h);rw[vW,iN (by rw[h];exact nq),cF];exact Classical.not_not.1 (mt (IT _ _ _).1 a)
def uI(a:aw)(b:Nat)(L:List Bool)(n:Nat)(c i:Nat)(t:Option aF)(tn tc:Nat)(g:aw):Prop:=i<=n/\c=n-i/\kJ a g 3 (ae t tn tc) ((vE L i).map iv)/\yr a b 3 (rN L n i) g/\(∀j,dV (ae t tn tc)=aa j->b<j)
theorem abO(w:Wf h)(G:Small M)(r:iY h (ae a n c) M.aE):aW 48 [aq ⟨dK M a n c⟩] h (Ky h (jz M)):=by
 obtain⟨x9,D⟩:=ni w r;have E:n=M.aE.length:=x9.len;have hn:n<=300:=by rw[E];exact G.OB
 refine abN (dK M a n c) h _ ⟨_,qx M a n c,_,Mz,?_⟩;have n0:h.ax<=(h.push (Bm M a n c)).ax:=D.nx;generalize h.push (Bm M a n c)=g0 at*;have k4:=cC g0 wy;have o1:=(Ok.refl D.wf).push wy;have x3:=D.trans o1;have J:=x9.ok o1;generalize g0.push wy=g1 at*;generalize g0.ax=K at*;refine⟨_,J.all,(XU x3.wf G J.row).mono ?_⟩;rintro _ g2 ⟨rfl,o2⟩;have T:=x3.trans o2;have H:=J.ok o2;have x7:=o2.ext _ _ k4;refine⟨_,rfl,ay (λq=>?_) (λq=>?_)⟩
 ·have q:fH M=ak:=by simpa using q
  rw[AJ q];exact⟨_,R4,AD w T x7 n0 (R:=(Gg,1)) (ps:=[]) rfl (mE.nil h g2) (Ok.refl w) (.inr ⟨rfl,rfl,rfl,rfl⟩)⟩
 have q:fH M=af:=by simpa using q
 have Z:=sS q;have h0:=Z.oz;have h1:=Z.pY;refine⟨_,H.all,(Tk T.wf G Z H.row).mono ?_⟩;rintro _ d ⟨kl,L,rfl,O,hL⟩;have o3:=O.row.ok;have f:=T.trans o3;have z:=H.ok o3;have x5:=o3.ext _ _ x7;obtain⟨S,hS⟩:∃S:Nat,M.start=(S:Int):=⟨M.start.toNat,by omega⟩
 have x4:M.start.toNat=S:=by omega
 have V:S<n:=by omega
 have lS:=z.l1;rw[hS]at lS;obtain⟨x1,x2⟩:=kY (c:=n) O.row.row O.len V;refine⟨_,_,_,rfl,_,nV _,_,lS,_,x1,_,x2,ay (λx=>?_) (λx=>?_)⟩
 ·have x:L.getD S ak=ak:=by simpa using x
  have hu:¬kG M M.start.toNat:=by rw[x4,<-hL S V,x];exact nq
  rw[xH q hu];refine⟨_,rD _,_,z.l0,(QH M.kind f.wf).mono ?_⟩;intro v g4 hq;exact Rq w f x5 n0 hq
 ·have x:L.getD S ak=af:=by simpa using x
  have hu:kG M M.start.toNat:=by rw[x4,<-hL S V];exact x
  rw[D9 q hu];have mk:=ahA n (by omega);rw[aeY L n]at mk;refine⟨_,eR _,_,_,_,z.l3,_,_,_,mk,?_⟩;have oE:=(Ok.refl f.wf).push (.cells (rN L n 0) 3 1 af);have kE:=cC d (.cells (rN L n 0) 3 1 af);refine EW (dK M a n c) h.ax K (aa ⟨kl,0,none⟩) n n (aa ⟨d.ax,0,none⟩) n n (uI d d.ax L n) _ (λmz i t tn tc=>?_) n (i:=0) ⟨cr _,rfl,kJ.nil _ _ _,⟨kE,aS _,oE⟩,λj U=>(by cases U)⟩;intros;rename_i g y0;obtain⟨f1,rfl,ot,X,o⟩:=y0;have ok:=X.ok;have x8:=f.trans ok;have W:=z.ok ok;refine⟨_,eR _,_,_,_,W.l3,ay (λN=>?_) (λN=>?_)⟩
  ·have N:=dT N;have A:i<n:=by omega
   have ix:=Gw (P:=au) fs wu (k:=d.ax) (off:=0) (n:=n) (c:=n) (ik:= an) (i:=(i:Int)) (by omega) (by omega);rw[bn,bO,df]at ix;have y3:=eu (t:=3) wu X.row (i:=i) (by rw[Tg];exact A) (v:= aA (-1)) rfl rfl;have p:=X.set f.wf i (aA (-1));have x6:kJ d ((dJ.set d.ax (.cells ((rN L n i).set i (aA (-1))) 3 1 af)).app g) 3 (ae t tn tc) ((vE L i).map iv):=ot.nY λF B I hB=>by
    show(g.set d.ax _).get F=_;rw[aw.bZ,iN (λe=>by have:=o F I;omega)];exact hB
   refine⟨_,ix,_,y3,?_⟩;generalize (dJ.set d.ax (.cells ((rN L n i).set i (aA (-1))) 3 1 af)).app g=gA at*;obtain⟨y1,y2⟩:=kY (c:=n) (p.ok.ext _ _ O.row.row) O.len A;have y:=vW L i;have m:=aeX L A;have hl:=Qu L i;have Q:tn=(vE L i).length:=by
    obtain⟨a',c',e⟩:=ot.rM;injection e with _ e _
    rw[e,aG]
   refine⟨_,y1,_,y2,ay (λC=>?_) (λC=>?_)⟩
   ·rw[iP C]at y;rw[abf C]at m;have x0:=eu (t:=3) wu p.row (i:=i) (by rw[bT,Tg];exact A) (v:= aA (tn:Int)) rfl rfl;have l:=p.set f.wf i (aA (tn:Int));rw[set_set,Q,<-m]at l;rw[set_set,Q,<-m]at x0;have y5:kJ d ((dJ.set d.ax (.cells (rN L n (i+1)) 3 1 af)).app gA) 3 (ae t tn tc) ((vE L i).map iv):=x6.nY λF B I hB=>by
     show(gA.set d.ax _).get F=_;rw[aw.bZ,iN (λe=>by have:=o F I;omega)];exact hB
    refine⟨_,ix,_,(by rw[Q];exact x0),?_⟩;generalize (dJ.set d.ax (.cells (rN L n (i+1)) 3 1 af)).app gA=gB at*;have Y:=(Ok.refl l.ok.wf).push (.cells [aA (i:Int)] 3 1 af);have kP:=cC gB (.cells [aA (i:Int)] 3 1 af);obtain⟨b,n',c',u,a1,a2,a3,a4,a5,a6,a7⟩:=VJ f.wf (l.ok.trans Y) (y5.ok Y) kP (by rw[aG];omega);refine⟨_,_,_,qi _,b,n',c',u,a1,?_⟩;dsimp only;rw[cL A (by omega)];have y6:d.ax<gB.ax:=l.ok.wf _ _ l.row;refine nE (n-(i+1)) (by omega) ⟨by omega,rfl,?_,⟨a5 _ _ (Y.ext _ _ l.row) (λe=>by have:=o _ e;omega),aS _,a4⟩,λj U=>?_⟩
    ·rw[y,bU];exact a3
    ·rcases a6 j U with h|h
     ·have:=Y.nx;omega
     ·exact o j h
   ·rw[iN (by rw[C];exact nq),cF]at y;rw[aeG C]at m;rw[cL A (by omega)];rw[<-m]at p;exact nE (n-(i+1)) (by omega) ⟨by omega,rfl,by rw[y];exact x6,p,o⟩
  ·have N:=dF N;obtain rfl:n=i:=by omega
   have eo:vE L n=oY M:=Vn E hL;have rn:=X.rd n;rw[Tg,aeW,eo]at rn;rw[eo]at ot;have y4:Rd g 3 (sA d.ax n n) (Oz M.aE.length (oY M)):=E▸rn;refine⟨_,W.all,(ae2 x8.wf Z G.OB (λs hs=>?_) W.row ot.rd y4 (vc M)).mono ?_⟩
   ·obtain⟨j,U,e⟩:=List.mem_iff_getElem.1 hs;exact(tN G (i:=j) (by rw[gE U,e])).1
   ·intro v g5 hq;exact Rp w x8 (ok.ext _ _ x5) n0 hq
end
end
variable{n:Nat}{k:Nat}{v:ah}{w:ah}{h:aw}{Q:VH}
noncomputable def ze:FD:=gT Tryz.f108 [((pq 75),[0,1,12,13])]
abbrev qD(a:OA)(n c:Nat)(b:OA)(m d:Nat)(i:Nat):LV:=[(ae a n c),(ae b m d),(iA n),(iA i)]
theorem WG(a:OA)(n c:Nat)(b:OA)(m d:Nat)(h:aw)(Q:VH)(e:cp (((n:Int) !=(m:Int))) (Q (ai ak) h) (cq ze (pq 75) (qD a n c b m d 0) h (ez ze (pq 43) Q))):aW 108 [(ae a n c),(ae b m d)] h Q:=gZ ze Tryz.func108 (bF e)
theorem C0(a:OA)(n c:Nat)(b:OA)(m d:Nat)  (f:Nat->Nat->aw->Prop) (Q:VH) (step:∀(e:Nat)(i:Nat)(j:Nat->ah)(h:aw),f e i h->cp (decide ((i:Int)<(n:Int))) (vX 27 (ae a n c) (iA i) (room h 9) λk=>vX 27 (ae b m d) (iA i) (room h 9) λl=>cp ((k !=l)) (Q (ai ak) (room h 9)) (cB (mw (qD a n c b m d) f) e [(ae a n c),(ae b m d),(iA n),(aA (aj an ((i:Int)+1)))] (room h 9))) (Q (ai af) h)) (e:Nat) {i:Nat} {h:aw} (g:f e i h):cq ze (pq 75) (qD a n c b m d i) h (ez ze (pq 43) Q):=
 gP (qD a n c b m d) f (λe i j h g=>bF (step e i j h g)) e g
noncomputable def wb:FD:=gT Tryz.f122 [([1,0,0],[0,2,3])]
abbrev pJ(a:OA)(n c:Nat)(i:Nat)(j:Int):LV:=[(ae a n c),(iA i),(aA j)]
theorem TG(a:OA)(n c:Nat)(h:aw)(Q:VH)(b:cq wb [1,0,0] (pJ a n c 0 (aj an ((n:Int)-1))) h (ez wb [1,0] Q)):aW 122 [(ae a n c)] h Q:=gZ wb Tryz.func122 (bF b)
theorem Ch(a:OA)(n c:Nat)  (d:Nat->Nat->Int->aw->Prop) (Q:VH) (step:∀(b:Nat)(i:Nat)(j:Int)(g:Nat->ah)(h:aw),d b i j h->cp (decide ((i:Int)<j)) (vX 27 (ae a n c) (aA j) (room h 16) λl=>vX 27 (ae a n c) (iA i) (room h 16) λp=>xP (aZ au 27 (ae a n c) (iA i)) λo=>xU (aQ au 3 (bN o) (aA l) (room h 16)) (room h 16) λq f=>xP (aZ au 27 (ae a n c) (aA j)) λm=>xU (aQ au 3 (bN m) (aA p) f) f λr k=>cB (wz (pJ a n c) d) b [(ae a n c),(aA (aj an ((i:Int)+1))),(aA (aj an (j-1)))] k) (Q (av ⟨[]⟩) h)) (b:Nat) {i:Nat} {j:Int} {h:aw} (e:d b i j h):cq wb [1,0,0] (pJ a n c i j) h (ez wb [1,0] Q):=
 sK (pJ a n c) d (λb i j g h e=>bF (step b i j g h e)) b e
noncomputable def Wo:FD:=gT Tryz.f148 []
theorem Sa(p:aF)(n c:Nat)(h:aw)(Q:VH)(e:xR (bC au 27 0 []) h λl b g a=>xE (bY au 27 27 (sA (h.ax) b g) (ae (aa p) n c) a) a λi f d k j=>Q (ae i f d) j):aW 148 [(ae (aa p) n c)] h Q:=gZ Wo Tryz.func148 (bF e)
noncomputable def ZO:FD:=gT Tryz.f148 []
theorem Wn  (h:aw) (Q:VH) (a:Q nA h):aW 148 [nA] h Q:=gZ ZO Tryz.func148 (bF a)
noncomputable def aeL:FD:=gT Tryz.f109 []
theorem abn(n i:LV)(h:aw)(Q:VH)(r:xN (iF au 66 (aq ⟨n⟩)) h λu b=>xN (iF au 105 (aq ⟨i⟩)) b λv a=>xP (bB au 66 (pA (h.ax)) 0) λq=>mh 24 (bN q) 3 22 a λs t p=>ky 105 (pA (b.ax)) 0 a λj=>ve 22 (ae s t p) (aA j) 44 0 λl=>xS (aM au 9 a (bN l)) λd=>cp (!((d:LB)==[])) (xP (bB au 66 (pA (h.ax)) 1) λf=>mh 24 (bN f) 3 22 a λo g k=>ky 105 (pA (b.ax)) 1 a λm=>ve 22 (ae o g k) (aA m) 44 0 λc=>xS (aM au 9 a (bN c)) λe=>Q (ai (!((e:LB)==[]))) a) (Q (ai ak) a)):aW 109 [(aq ⟨n⟩),(aq ⟨i⟩)] h Q:=gZ aeL Tryz.func109 (bF r)
noncomputable def lj:FD:=gT Tryz.f111 [((pq 37),[2,3,4,19,20,21]),((pq 20069),[2,3,4,7,19,20,21,45,46,47]),((pq 39),[2,3,4,79,80,81])]
abbrev mZ(b:Nat)(e f:LV)(g d:Nat)(a:OA)(n c:Nat)(i:Nat):LV:=[(aN (.func b) ⟨e⟩ ⟨f⟩),(pA g),(pA d),(ae a n c),(iA n),(iA i)]
abbrev sf(e:Nat)(g h:LV)(l f:Nat)(a:OA)(n c k:Nat)(b:OA)(m d i:Nat)(j:Nat):LV:=[(aN (.func e) ⟨g⟩ ⟨h⟩),(pA l),(pA f),(pA k),(ae a n c),(iA n),(iA i),(ae b m d),(iA m),(iA j)]
abbrev sh(b:Nat)(e f:LV)(g d:Nat)(a:OA)(n c:Nat)(i:Nat):LV:=[(aN (.func b) ⟨e⟩ ⟨f⟩),(pA g),(pA d),(ae a n c),(iA n),(iA i)]
theorem acs(m f:LV)(e:Nat)(j l:LV)(h:aw)(Q:VH)(p:xN (iF au 66 (aq ⟨m⟩)) h λs c=>xN (iF au 105 (aq ⟨f⟩)) c λt a=>xP (bB au 66 (pA (h.ax)) 0) λo=>mh 24 (bN o) 3 22 a λq r n=>ky 105 (pA (c.ax)) 0 a λg=>ve 22 (ae q r n) (aA g) 44 1 λk=>xL (aM au 42 a (bN k)) λd b i=>cq lj (pq 37) [(aN (.func e) ⟨j⟩ ⟨l⟩),(pA (h.ax)),(pA (c.ax)),(ae d b i),(iA b),(aA 0)] a (ez lj (pq 21) Q)):aW 111 [(aq ⟨m⟩),(aq ⟨f⟩),(aN (.func e) ⟨j⟩ ⟨l⟩)] h Q:=gZ lj Tryz.func111 (bF p)
theorem E3(V U:LV)(e:Nat)(k l:LV)(f d:Nat)(a:OA)(n c:Nat)(g:Nat->Nat->aw->Prop)(Q:VH)(step:∀(j:Nat) (i:Nat) (F:Nat->ah) (h:aw),g j i h->cp (decide ((i:Int)<(n:Int))) (qX xA 42 (ae a n c) (iA i) 46 h λr=>xN (cD au 46) h λT p=>xU (aQ au 46 (pA (h.ax)) (aq ⟨r⟩) p) p λS b=>ky 46 (pA (h.ax)) 0 b λA=>cp ((A==0)) (ky 46 (pA (h.ax)) 1 b λL=>xA (cI au 116 [(0,(aA 0)),(1,(aA L)),(2,(aA 0))]) λy=>ky 46 (pA (h.ax)) 3 b λu=>ky 105 (pA d) 1 b λC=>xA (cI au 105 [(0,(aA u)),(1,(aA C))]) λB=>cp (dj e YB) (aW e (k++[(aq ⟨y⟩),(aq ⟨B⟩)]++l) b λw D=>w=(av ⟨[]⟩)/\cB (mw (mZ e k l f d a n c) g) j [(aN (.func e) ⟨k⟩ ⟨l⟩),(pA f),(pA d),(ae a n c),(iA n),(aA (aj an ((i:Int)+1)))] D) False) (xP (bB au 66 (pA f) 1) λK=>mh 24 (bN K) 3 22 b λs P M=>ky 105 (pA d) 1 b λG=>ve 22 (ae s P M) (aA G) 44 1 λJ=>xL (aM au 42 b (bN J)) λz m H=>cq lj (pq 20069) [(aN (.func e) ⟨k⟩ ⟨l⟩),(pA f),(pA d),(pA (h.ax)),(ae a n c),(iA n),(iA i),(ae z m H),(iA m),(aA 0)] b (fZ lj (pq 371) (pq 37) (RR lj (pq 37) (mw (mZ e k l f d a n c) g) j (ez lj (pq 21) Q))))) (xP (bB au 66 (pA f) 1) λI=>mh 24 (bN I) 3 22 h λN O R=>ky 105 (pA d) 1 h λt=>ve 22 (ae N O R) (aA t) 44 1 λE=>xL (aM au 42 h (bN E)) λv o x=>cq lj (pq 39) [(aN (.func e) ⟨k⟩ ⟨l⟩),(pA f),(pA d),(ae v o x),(iA o),(aA 0)] h (ez lj (pq 23) Q)))(j:Nat){i:Nat}{h:aw}(q:g j i h):cq lj (pq 37) (mZ e k l f d a n c i) h (ez lj (pq 21) Q):=
 gP (mZ e k l f d a n c) g (λj i F h q=>bF (step j i F h q)) j q
theorem E4(M L:LV)(g:Nat)(l o:LV)(r q:Nat)(a:OA)(n c:Nat)(p:Nat)(b:OA)(m d:Nat)(s:Nat->Nat->aw->Prop)(v i:Nat)(k:Nat->Nat->aw->Prop)(Q:VH)(step:∀(f:Nat) (j:Nat) (z:Nat->ah) (h:aw),k f j h->cp (decide ((j:Int)<(m:Int))) (qX xA 42 (ae b m d) (iA j) 46 h λH=>xN (cD au 46) h λK t=>xU (aQ au 46 (pA (h.ax)) (aq ⟨H⟩) t) t λJ e=>ky 46 (pA (h.ax)) 0 e λw=>ky 46 (pA p) 0 e λE=>cp ((w==E)) (ky 46 (pA p) 0 e λI=>ky 46 (pA p) 1 e λF=>ky 46 (pA (h.ax)) 1 e λB=>xA (cI au 116 [(0,(aA I)),(1,(aA F)),(2,(aA B))]) λC=>ky 46 (pA p) 3 e λA=>ky 46 (pA (h.ax)) 3 e λy=>xA (cI au 105 [(0,(aA A)),(1,(aA y))]) λG=>cp (dj g YB) (aW g (l++[(aq ⟨C⟩),(aq ⟨G⟩)]++o) e λD x=>D=(av ⟨[]⟩)/\cB (mw (sf g l o r q a n c p b m d i) k) f [(aN (.func g) ⟨l⟩ ⟨o⟩),(pA r),(pA q),(pA p),(ae a n c),(iA n),(iA i),(ae b m d),(iA m),(aA (aj an ((j:Int)+1)))] x) False) (cB (mw (sf g l o r q a n c p b m d i) k) f [(aN (.func g) ⟨l⟩ ⟨o⟩),(pA r),(pA q),(pA p),(ae a n c),(iA n),(iA i),(ae b m d),(iA m),(aA (aj an ((j:Int)+1)))] e)) (cB (mw (mZ g l o r q a n c) s) v [(aN (.func g) ⟨l⟩ ⟨o⟩),(pA r),(pA q),(ae a n c),(iA n),(aA (aj an ((i:Int)+1)))] h))(f:Nat){j:Nat}{h:aw}(u:k f j h):cq lj (pq 20069) (sf g l o r q a n c p b m d i j) h (fZ lj (pq 371) (pq 37) (RR lj (pq 37) (mw (mZ g l o r q a n c) s) v (ez lj (pq 21) Q))):=
 gP (sf g l o r q a n c p b m d i) k (λf j z h u=>bF (step f j z h u)) f u
theorem E5(C B:LV)(f:Nat)(j k:LV)(l g:Nat)(a:OA)(n c:Nat)(d:Nat->Nat->aw->Prop)(Q:VH)(step:∀(b:Nat) (i:Nat) (u:Nat->ah) (h:aw),d b i h->cp (decide ((i:Int)<(n:Int))) (qX xA 42 (ae a n c) (iA i) 46 h λs=>xN (cD au 46) h λA m=>xU (aQ au 46 (pA (h.ax)) (aq ⟨s⟩) m) m λz e=>ky 46 (pA (h.ax)) 0 e λr=>cp ((r==0)) (ky 46 (pA (h.ax)) 1 e λw=>xA (cI au 116 [(0,(aA 0)),(1,(aA 0)),(2,(aA w))]) λq=>ky 105 (pA g) 0 e λt=>ky 46 (pA (h.ax)) 3 e λy=>xA (cI au 105 [(0,(aA t)),(1,(aA y))]) λx=>cp (dj f YB) (aW f (j++[(aq ⟨q⟩),(aq ⟨x⟩)]++k) e λv o=>v=(av ⟨[]⟩)/\cB (mw (sh f j k l g a n c) d) b [(aN (.func f) ⟨j⟩ ⟨k⟩),(pA l),(pA g),(ae a n c),(iA n),(aA (aj an ((i:Int)+1)))] o) False) (cB (mw (sh f j k l g a n c) d) b [(aN (.func f) ⟨j⟩ ⟨k⟩),(pA l),(pA g),(ae a n c),(iA n),(aA (aj an ((i:Int)+1)))] e)) (Q (av ⟨[]⟩) h))(b:Nat){i:Nat}{h:aw}(p:d b i h):cq lj (pq 39) (sh f j k l g a n c i) h (ez lj (pq 23) Q):=
 gP (sh f j k l g a n c) d (λb i u h p=>bF (step b i u h p)) b p
noncomputable def hI:FD:=gT Tryz.f105 [((pq 151),[1,2,3,5])]
abbrev lU(b a c:Nat)(i:Nat):LV:=[(pA b),(pA a),(pA c),(iA i)]
theorem Qx(g:LV)(h:aw)(Q:VH)(p:xN (iF au 66 (aq ⟨g⟩)) h λs j=>xN (cD au 162) j λt k=>xN (cD au 163) k λu a=>xP (bB au 66 (pA (h.ax)) 0) λm=>xP (bB au 24 (bN m) 1) λl=>xI an (aM au 3 a (bN l)) λi=>xP (bB au 66 (pA (h.ax)) 1) λb=>xP (bB au 24 (bN b) 1) λf=>xI an (aM au 3 a (bN f)) λe=>xA (cI au 105 [(0,(aA i)),(1,(aA e))]) λd=>xN (cD au 105) a λr c=>xU (aQ au 105 (pA (a.ax)) (aq ⟨d⟩) c) c λq n=>wpD SS hI.nm (abX (oO [1,1,0] hI.body)) (fr (uN [(aq ⟨g⟩),(pA (h.ax)),(pA (j.ax)),(pA (k.ax)),(pA (a.ax)),undef,(bN m),(bN l),(aA i),(bN b),(bN f),(aA e),(aq ⟨d⟩)] 20)) n (lift hI.nm λo h=>(ez hI [1,1,0] Q) .normal o h)):aW 105 [(aq ⟨g⟩)] h Q:=gZ hI Tryz.func105 (bF p)
theorem GF{E H F I u x c r j A C q z y d b a g l D t o f s p e B:ah}(G:cq hI (pq 151) (lU n m k 0) h (ez hI (pq 87) Q)):(ez hI [1,1,0] Q) .normal [v,(pA n),(pA m),(pA k),(pA i),w,E,H,F,I,u,x,c,r,j,A,C,q,z,y,d,b,a,g,l,D,t,o,f,s,p,e,B] h:=bF G
theorem AY(B:LV)(g a b:Nat)(d:Nat->Nat->aw->Prop)(Q:VH)(step:∀(c:Nat) (i:Nat) (s:Nat->ah) (h:aw),d c i h->xL (aM au 162 h (pA a)) λy p z=>cp (decide ((i:Int)<(p:Int))) (xA (aM au 66 (room h 7) (pA g)) λk=>xL (aM au 162 (room h 7) (pA a)) λq r v=>qX xA 162 (ae q r v) (iA i) 105 (room h 7) λt=>aW 111 [(aq ⟨k⟩),(aq ⟨t⟩),(aN (.func 144) ⟨[]⟩ ⟨[(pA b),(pA a)]⟩)] (room h 7) λw u=>w=(av ⟨[]⟩)/\cB (mw (lU g a b) d) c [(pA g),(pA a),(pA b),(aA (aj an ((i:Int)+1)))] u) (xL (aM au 162 (room h 4) (pA a)) λl n m=>xV (aM au 163 (room h 4) (pA b)) λe=>xU (aQ au 162 (pA a) (ae l n m) (room h 4)) (room h 4) λx f=>xU (aQ au 163 (pA b) e f) f λA o=>(aM au 163 f (pA b)=aa e/\iz 4 e e=af)/\gI SS [((pA a),aa 162),((pA b),aa 163)] o Q))(c:Nat){i:Nat}{h:aw}(j:d c i h):cq hI (pq 151) (lU g a b i) h (ez hI (pq 87) Q):=
 gP (lU g a b) d (λc i s h j=>bF (step c i s h j)) c j
noncomputable def XF:FD:=gT Tryz.f144 []
theorem S6(l n:LV)(g c:Nat)(h:aw)(Q:VH)(x:xN (iF au 116 (aq ⟨l⟩)) h λI d=>xN (iF au 105 (aq ⟨n⟩)) d λJ a=>xV (aM au 163 a (pA g)) λy=>xA (aM au 105 a (pA (d.ax))) λA=>∃z:Int,∃m:Bool,(uY au 163 y (aq ⟨A⟩) af a)=aa (av ⟨[(aA z),(ai m)]⟩)/\cp (!m) (xV (aM au 163 a (pA g)) λB=>xA (aM au 105 a (pA (d.ax))) λv=>xL (aM au 162 a (pA c)) λE q G=>xU (tH au 163 B (aq ⟨v⟩) (iA q) a) a λC b=>xL (aM au 162 b (pA c)) λo w i=>xA (aM au 105 b (pA (d.ax))) λs=>xR (bC au 162 1 [(0,(aq ⟨s⟩))]) b λH t j f=>xE (bY au 162 162 (ae o w i) (sA (b.ax) t j) f) f λp k r F e=>xU (aQ au 162 (pA c) (ae p k r) e) e λD u=>Q (av ⟨[]⟩) u) (Q (av ⟨[]⟩) a)):aW 144 [(aq ⟨l⟩),(aq ⟨n⟩),(pA g),(pA c)] h Q:=gZ XF Tryz.func144 (bF x)
noncomputable def XG:FD:=gT Tryz.f145 []
theorem S7(r z:LV)(i k u:Nat)(h:aw)(Q:VH)(H:xN (iF au 116 (aq ⟨r⟩)) h λK f=>xN (iF au 105 (aq ⟨z⟩)) f λL a=>xL (aM au 126 (room a 15) (pA i)) λl j g=>xV (aM au 163 (room a 15) (pA k)) λe=>xA (aM au 105 (room a 15) (pA (f.ax))) λd=>xI an (uY au 163 e (aq ⟨d⟩) ak (room a 15)) λc=>xL (aM au 126 (room a 15) (pA i)) λo B w=>xV (aM au 163 (room a 15) (pA k)) λn=>xA (aM au 105 (room a 15) (pA (f.ax))) λG=>xI an (uY au 163 n (aq ⟨G⟩) ak (room a 15)) λq=>qX xL 126 (ae o B w) (aA q) 27 (room a 15) λv y x=>xI an (aM au 3 (room a 15) (pA u)) λD=>zR (bC au 27 1 [(0,(aA D))]) λm A F=>xE (bY au 27 27 (ae v y x) (sA (a.ax+11) A F) (bS (room a 15) a.ax [(11,m)])) (bS (room a 15) a.ax [(11,m)]) λs E t I b=>xP (aZ au 126 (ae l j g) (aA c)) λp=>xU (aQ au 27 (bN p) (ae s E t) b) b λJ C=>(aM au 126 b (pA i)=aa (ae l j g)/\iz 4 (ae l j g) (ae l j g)=af)/\(aM au 163 b (pA k)=aa e/\iz 4 e e=af)/\(aM au 105 b (pA (f.ax))=aa (aq ⟨d⟩)/\iz 4 (aq ⟨d⟩) (aq ⟨d⟩)=af)/\(uY au 163 e (aq ⟨d⟩) ak b=aa (aA c)/\iz 4 (aA c) (aA c)=af)/\Q (av ⟨[]⟩) C):aW 145 [(aq ⟨r⟩),(aq ⟨z⟩),(pA i),(pA k),(pA u)] h Q:=gZ XG Tryz.func145 (bF H)
noncomputable def XH:FD:=gT Tryz.f147 []
theorem S8(s E:LV)(K j c d i:Nat)(h:aw)(Q:VH)(R:xN (iF au 116 (aq ⟨s⟩)) h λB1 p=>xN (iF au 105 (aq ⟨E⟩)) p λB3 a=>xV (aM au 163 (room a 12) (pA K)) λS=>xA (aM au 105 (room a 12) (pA (p.ax))) λU=>xI an (uY au 163 S (aq ⟨U⟩) ak (room a 12)) λT=>xI an (aM au 3 (room a 12) (pA j)) λV=>cp ((T==V)) (xL (aM au 166 (room a 12) (pA c)) λP x L=>xI an (aM au 3 (room a 12) (pA d)) λH=>qX xO 166 (ae P x L) (aA H) 168 (room a 12) λm=>xB (cm au .eql 168 (.pointer m) (aT none)) λt=>cp t (xL (aM au 166 (room (room a 12) 11) (pA c)) λF N k=>xI an (aM au 3 (room (room a 12) 11) (pA d)) λD=>xA (aM au 116 (room (room a 12) 11) (pA (h.ax))) λC=>xL (aM au 166 (room (room a 12) 11) (pA c)) λq O o=>xI an (aM au 3 (room (room a 12) 11) (pA j)) λA=>qX xO 166 (ae q O o) (aA A) 168 (room (room a 12) 11) λn=>xA (cI au 170 [(0,(aq ⟨C⟩)),(1,(.pointer n))]) λy=>zN (iF au 170 (aq ⟨y⟩)) λg=>xP (aZ au 166 (ae F N k) (aA D)) λM=>xU (aQ au 168 (bN M) (pA ((room a 12).ax+8)) (bS (room (room a 12) 11) (room a 12).ax [(8,g)])) (bS (room (room a 12) 11) (room a 12).ax [(8,g)]) λY b=>xL (aM au 27 b (pA i)) λz w B=>xI an (aM au 3 b (pA d)) λv=>xR (bC au 27 1 [(0,(aA v))]) b λX u l e=>xE (bY au 27 27 (ae z w B) (sA (b.ax) u l) e) e λI J G Z f=>xU (aQ au 27 (pA i) (ae I J G) f) f λW r=>Q (av ⟨[]⟩) r) (Q (av ⟨[]⟩) (room a 12))) (Q (av ⟨[]⟩) (room a 12))):aW 147 [(aq ⟨s⟩),(aq ⟨E⟩),(pA K),(pA j),(pA c),(pA d),(pA i)] h Q:=gZ XH Tryz.func147 (bF R)
variable{j:Nat}{M:cG}
section
abbrev NN:=Nat×Nat
def kV(k:NN):List ah:=[aA (k.1:Int),aA (k.2:Int)]
def Bj(m:Mv):List ah:=[aA m.i,aA m.l,aA m.r]
theorem adO(a b c d:Int):pj au 3 105 (aq ⟨[aA a,aA b]⟩) (aq ⟨[aA c,aA d]⟩)=aa ((a==c)&&(b==d)):=by
 have e:pj au 3 105 (aq ⟨[aA a,aA b]⟩) (aq ⟨[aA c,aA d]⟩)=Bool.rec (motive:=λ_=>Option Bool) (aa ak) (Bool.rec (motive:=λ_=>Option Bool) (aa ak) (aa af) (b==d)) (a==c):=by kernel_rfl
 rw[e]
 cases (a==c)<;>cases (b==d)<;>rfl
theorem aaA(x y:NN):Fz au 105 (aq ⟨kV x⟩) (aq ⟨kV y⟩)=aa (decide (x=y)):=by
 unfold Fz;rw[iP (show Gy (aq ⟨kV y⟩)=af from rfl)];rw[show pj au 3 105 (aq ⟨kV x⟩) (aq ⟨kV y⟩)=_ from adO ..];by_cases h:x=y
 ·subst h;simp[kV,VA,Jl,Q0]
 ·have:((x.1:Int)==(y.1:Int)&&(x.2:Int)==(y.2:Int))=ak:=by
   rw[Bool.and_eq_false_iff];refine fA λe=>h ?_;rw[not_or]at e;obtain⟨a,b⟩:=e;simp only[Bool.not_eq_false,beq_iff_eq]at a b;exact Prod.ext (by omega) (by omega)
  rw[this];simp[h]
def Iv(x:NN):List NN->Nat->Option Nat
 |[],_=>none
 |k::r,i=>if x=k then aa i else Iv x r (i+1)
def qC:List NN->Nat->List (ah×ah)
 |[],_=>[]
 |k::r,i=>(aq ⟨kV k⟩,aA (i:Int))::qC r (i+1)
theorem Pr:∀(l m:List NN)(i:Nat),qC (l++m) i=qC l i++qC m (i+l.length)
 |[],m,i=>by simp[qC]
 |k::l,m,i=>by rw[dQ,qC,qC,Pr l m (i+1),dQ,bP,show i+1+l.length=i+(l.length+1) by omega]
theorem aak(x:NN):∀(l:List NN)(i:Nat),Bh au 105 (aq ⟨kV x⟩) (qC l i)=aa ((Iv x l i).map λj:Nat=> aA (j:Int))
 |[],_=>rfl
 |k::l,i=>by
  show(match Fz au 105 (aq ⟨kV x⟩) (aq ⟨kV k⟩)with|some af=>aa (aa (aB an (i:Int)))|some ak=>Bh au 105 (aq ⟨kV x⟩) (qC l (i+1))|none=>none)=_;rw[aaA];by_cases h:x=k
  ·rw[eT h,Iv,iP h];rfl
  ·rw[eF h,Iv,iN h];exact aak x l (i+1)
theorem PQ{x:NN}:∀{l:List NN}{i:Nat}(v:ah),x∉l->tD au 105 (aq ⟨kV x⟩) v (qC l i)=aa (qC l i++[(aq ⟨kV x⟩,v)])
 |[],_,_,_=>rfl
 |k::l,i,v,h=>by
  show(match Fz au 105 (aq ⟨kV x⟩) (aq ⟨kV k⟩)with|some af=>aa ((aq ⟨kV x⟩,v)::qC l (i+1))|some ak=>(tD au 105 (aq ⟨kV x⟩) v (qC l (i+1))).map ((aq ⟨kV k⟩,aB an (i:Int))::·)|none=>none)=_;rw[aaA,eF (λe=>h (by rw[e];exact cH ..))];dsimp only;rw[PQ v λe=>h (cJ _ e)];rfl
theorem Ll{x:NN}:∀{l:List NN}{i j:Nat},Iv x l i=aa j->i<=j/\l[j-i]?=aa x
 |[],_,_,h=>by cases h
 | k::l,i,j,h=>by
  rw[Iv]at h;split at h
  ·next e=>
   obtain rfl:=aC h;exact⟨aS _,by rw[Nat.sub_self,e];rfl⟩
  ·obtain⟨b,a⟩:=Ll h;refine⟨by omega,?_⟩;rw[show j-i=(j-(i+1))+1 by omega];exact a
theorem EG{x:NN}:∀{l:List NN}{i:Nat},Iv x l i=none->x∉l
 |[],_,_=>by simp
 | k::l,i,h=>by
  rw[Iv]at h;split at h
  ·cases h
  ·next e=>
   intro b;rcases cO.1 b with a|a
   ·exact e a
   ·exact EG h a
def uM(a:List NN)(x:NN):Option Nat:=Iv x a 0
theorem Aw{a:List NN}{x:NN}(h:uM a x=aa j):a[j]?=aa x:=(Ll h).2
theorem zt{a:List NN}{x:NN}(h:x∈a):∃j,uM a x=aa j/\a[j]?=aa x:=by
 cases e:uM a x with
 |none=>exact absurd h (EG e)
 |some j=>exact⟨j,rfl,Aw e⟩
theorem vS:au.underlying 163=aa (.map 105 3):=by kernel_rfl
theorem akv:zeroOf au 3=aa (aA 0):=by kernel_rfl
theorem G0{k:Nat}{a:List NN}(e:h.get k=aa (.map (qC a 0)))(x:NN):uY au 163 (.map (aa k)) (aq ⟨kV x⟩) af h=aa (av ⟨[aA (((uM a x).getD 0:Nat):Int),ai (uM a x).isSome]⟩)/\uY au 163 (.map (aa k)) (aq ⟨kV x⟩) ak h=aa (aA (((uM a x).getD 0:Nat):Int)):=by
 have c:∀b,uY au 163 (.map (aa k)) (aq ⟨kV x⟩) b h=match (match h.get k with|some (.map d)=>aa d|_=>none),zeroOf au 3 with
  |some d,aa z=>if uX au 105 (aq ⟨kV x⟩)then match Bh au 105 (aq ⟨kV x⟩) d with
   |some (aa v)=>aa (if b then .tuple #[v,ai af]else v)
   |some none=>aa (if b then .tuple #[z,ai ak]else z)
   |none=>none else none
  |_,_=>none:=λb=>by
  unfold uY eB;dsimp only;rw[vS];rfl
 rw[c,c,e,akv];dsimp only;rw[show uX au 105 (aq ⟨kV x⟩)=af by kernel_rfl,iP rfl,aak];unfold uM
 cases Iv x a 0<;>exact⟨rfl,rfl⟩
theorem acY{k:Nat}{a:List NN}(c:h.get k=aa (.map (qC a 0))){x:NN}(b:x∉a):tH au 163 (.map (aa k)) (aq ⟨kV x⟩) (aA (a.length:Int)) h=aa (undef,.set k (.map (qC (a++[x]) 0))):=by
 unfold tH;rw[vS];dsimp only;rw[c];dsimp only;rw[show uX au 105 (aq ⟨kV x⟩)=af by kernel_rfl,iP rfl,PQ _ b,Pr];simp[qC]
structure kI where
 A:cG
 a:Option aF
 n:Nat
 c:Nat
 B:cG
 b:Option aF
 m:Nat
 d:Nat
def kI.arg(T:kI):List ah:=dK T.A T.a T.n T.c++dK T.B T.b T.m T.d
structure kI.Rows(T:kI)(g:aw):Prop where
 ra:iY g (ae T.a T.n T.c) T.A.aE
 rb:iY g (ae T.b T.m T.d) T.B.aE
theorem kI.Rows.ok{T:kI}{g:aw}(r:T.Rows g)(o:Ok g h):T.Rows h:=⟨r.ra.ok o,r.rb.ok o⟩
def rW(T:kI):eE:= .cells T.arg 66 0 af
def iM(k:NN):eE:= .cells (kV k) 105 0 af
def pK(m:Mv):eE:= .cells (Bj m) 116 0 af
theorem O8(T:kI):iF au 66 (aq ⟨T.arg⟩)=aa (rW T,jL):=by kernel_rfl
theorem Ex(k:NN):iF au 105 (aq ⟨kV k⟩)=aa (iM k,jL):=by kernel_rfl
theorem HL(m:Mv):iF au 116 (aq ⟨Bj m⟩)=aa (pK m,jL):=by kernel_rfl
theorem M1(k:Nat):bB au 66 (pA k) 0=aa (pA k):=by kernel_rfl
theorem Il(k:Nat):bB au 66 (pA k) 1=aa (cn k 4):=by kernel_rfl
theorem ahj(k:Nat):bB au 24 (cn k 4) 1=aa (cn k 5):=by kernel_rfl
theorem Sn(k:Nat):bB au 24 (cn k 4) 3=aa (cn k 7):=by kernel_rfl
theorem MT(k o:Nat):bB au 105 (cn k o) 0=aa (cn k (o+0)):=by kernel_rfl
theorem GX(k o:Nat):bB au 105 (cn k o) 1=aa (cn k (o+1)):=by kernel_rfl
theorem R1(a b c:Int):cI au 116 [(0,(aA a)),(1,(aA b)),(2,(aA c))]=aa (aq ⟨Bj ⟨a,b,c⟩⟩):=by kernel_rfl
theorem MF(p q:Int):cI au 105 [(0,(aA p)),(1,(aA q))]=aa (aq ⟨[aA p,aA q]⟩):=by kernel_rfl
theorem akD:Go.Ab.isAgg au 66=af:=by kernel_rfl
theorem Zk:Go.Ab.isAgg au 105=af:=by kernel_rfl
theorem afW:Go.Ab.isAgg au 116=af:=by kernel_rfl
theorem aj9:cd au 66=aa 8:=by kernel_rfl
theorem Jr:cd au 105=aa 2:=by kernel_rfl
theorem acx:cd au 116=aa 3:=by kernel_rfl
noncomputable def akq:TypeDesc:=(au.underlying 66).getD .bool
theorem als:au.underlying 66=aa akq:=by kernel_rfl
noncomputable def aip:TypeDesc:=(au.underlying 105).getD .bool
theorem acU:au.underlying 105=aa aip:=by kernel_rfl
noncomputable def aiq:TypeDesc:=(au.underlying 116).getD .bool
theorem agx:au.underlying 116=aa aiq:=by kernel_rfl
section
variable {g:aw} {k:Nat} {T:kI} {x:NN} {m:Mv}
theorem rW.all(h:g.get k=aa (rW T)):aM au 66 g (pA k)=aa (aq ⟨T.arg⟩):=mr als akD aj9 h (by simp[kI.arg,dK])
theorem rW.a1(h:g.get k=aa (rW T)):aM au 3 g (cn k 1)=aa (aA T.A.start):=da rk ri h (by simp[kI.arg,dK])
theorem rW.a3(h:g.get k=aa (rW T)):aM au 22 g (cn k 3)=aa (ae T.a T.n T.c):=da KB V5 h (by simp[kI.arg,dK])
theorem rW.b1(h:g.get k=aa (rW T)):aM au 3 g (cn k 5)=aa (aA T.B.start):=da rk ri h (by simp[kI.arg,dK])
theorem rW.b3(h:g.get k=aa (rW T)):aM au 22 g (cn k 7)=aa (ae T.b T.m T.d):=da KB V5 h (by simp[kI.arg,dK])
theorem iM.all(h:g.get k=aa (iM x)):aM au 105 g (pA k)=aa (aq ⟨kV x⟩):=mr acU Zk Jr h (by simp[kV])
theorem iM.l0(h:g.get k=aa (iM x)):aM au 3 g (cn k (0+0))=aa (aA (x.1:Int)):=da rk ri h (by simp[kV])
theorem iM.l1(h:g.get k=aa (iM x)):aM au 3 g (cn k (0+1))=aa (aA (x.2:Int)):=da rk ri h (by simp[kV])
theorem pK.all(h:g.get k=aa (pK m)):aM au 116 g (pA k)=aa (aq ⟨Bj m⟩):=mr agx afW acx h (by simp[Bj])
end
def nF(a:iu)(q:Nat)(c:List iu):List (Mv×NN):=if a.i=0 then[(⟨0,a.o,0⟩,(a.t.toNat,q))]else c.filterMap λb=>if b.i=a.i then aa (⟨a.i,a.o,b.o⟩,(a.t.toNat,b.t.toNat))else none
def tj(p:Nat)(b:iu):Option (Mv×NN):=if b.i=0 then aa (⟨0,0,b.o⟩,(p,b.t.toNat))else none
def jF(A B:cG)(k:NN):List (Mv×NN):=((eA A k.1).flatMap λa=>nF a k.2 (eA B k.2))++(eA B k.2).filterMap (tj k.1)
theorem mG{B:cG}{k j:NN}{m:Mv}:(m,j)∈jF M B k↔Fl M B k m j:=by
 obtain⟨p,q⟩:=k;unfold jF;rw[bH,List.mem_flatMap,mF];constructor
 ·rintro(⟨a,f,h⟩|⟨b,d,h⟩)
  ·unfold nF at h;split at h
   ·next c=>
    rw[aX]at h;injection h with g i
    subst g;subst i;exact .left f c
   ·next c=>
    obtain⟨b,d,h⟩:=mF.1 h;split at h
    ·next e=>
     injection h with h
     injection h with g i
     subst g;subst i;exact .both f d c e.symm
    ·cases h
  ·unfold tj at h;split at h
   ·next c=>
    injection h with h
    injection h with g i
    subst g;subst i;exact .right d c
   ·cases h
 ·intro h
  cases h with
  |left f c=>exact .inl ⟨_,f,by unfold nF;rw[iP c];exact aX.2 rfl⟩
  |right d c=>exact .inr ⟨_,d,by unfold tj;rw[iP c]⟩
  |both f d c e=>exact .inl ⟨_,f,by unfold nF;rw[iN c];exact mF.2 ⟨_,d,iP e.symm⟩⟩
end
variable{A:Type}{z:Int}
section
def WK(M:cG)(s:Nat):Bool:= !((M.aE.getD s ⟨[],[]⟩).f==[])
theorem jv:WK M n=af↔rp M n:=by
 unfold WK rp
 cases (M.aE.getD n ⟨[],[]⟩).f<;>simp
theorem nj(h:n<M.aE.length):∃x:kH,M.aE[n]?=aa x/\eA M n=x.bG/\WK M n = !(x.f==[])/\x∈M.aE:=by
 refine⟨M.aE[n],gE h,?_,?_,List.getElem_mem h⟩
 ·unfold eA;rw[gD,gE h];rfl
 ·unfold WK;rw[gD,gE h];rfl
theorem Qw(w:Wf h){T:kI}(r:T.Rows h){k:NN}(x:k.1<T.A.aE.length)(n:k.2<T.B.aE.length):aW 109 [aq ⟨T.arg⟩,aq ⟨kV k⟩] h (λv o=>v=ai (WK T.A k.1&&WK T.B k.2)/\Ok h o):=by
 refine abn T.arg (kV k) h _ ⟨_,O8 T,_,Ex k,?_⟩;have c:=(Ok.refl w).push (rW T);have a:=cC h (rW T);generalize h.push (rW T)=g at*;have d:=(Ok.refl c.wf).push (iM k);have f:=cC g (iM k);have a:=d.ext _ _ a;generalize g.push (iM k)=z at*;have b:=c.trans d;obtain⟨s,l,_,e,_⟩:=nj x;obtain⟨t,y,_,p,_⟩:=nj n;obtain⟨B,D,_,_,_,u,_,i,_⟩:=r.ra.K1 b l;obtain⟨C,A,_,_,_,m,_,j,_⟩:=r.rb.K1 b y;refine⟨_,M1 _,_,eR _,_,_,_,rW.a3 a,_,MT _ _,_,iM.l0 f,_,u,_,pk _ _,_,i,ay (λq=>?_) (λq=>?_)⟩
 ·refine⟨_,Il _,_,Sn _,_,_,_,rW.b3 a,_,GX _ _,_,iM.l1 f,_,m,_,pk _ _,_,j,?_,b⟩;rw[e,p,q];rfl
 ·exact⟨by rw[e,q];rfl,b⟩
theorem iI{l:List A}{a:A}(h:l[i]?=aa a):l=l.take i++a::l.drop (i+1)/\l.take (i+1)=l.take i++[a]:=by
 obtain⟨b,rfl⟩:=List.getElem?_eq_some_iff.1 h;exact⟨by simp,by rw[eI,h];rfl⟩
theorem VO{x:Int}{p q:Nat}(a:x=(p:Int))(b:z=(q:Int)):([aA x,aA z]:List ah)=kV (p,q):=by rw[a,b];rfl
section
variable {h0:aw} {T:kI}
theorem D7(w0:Wf h0)(K:T.Rows h0)(gA:Good T.A)(gB:Good T.B)(sA:∀s∈T.A.aE,s.bG.length<=2000)(sB:∀s∈T.B.aE,s.bG.length<=2000){h:aw}{L:List gf}{k:NN}(hp:k.1<T.A.aE.length)(hq:k.2<T.B.aE.length){N:Nat}{fa fc:List ah}(hf:dj N YB=af)
  (I:List (Mv×NN)->aw->List gf->Prop) (O:∀l g L,I l g L->OL h0 g L) (hG:∀l g L p,I l g L->Ok g p->I l p L) (hi:I [] h L)
  (hs:∀x5 x y4,jF T.A T.B k=x5++x::y4->∀g L,I x5 g L->aW N (fa++[aq ⟨Bj x.1⟩,aq ⟨kV x.2⟩]++fc) g (λv p=>v=av ⟨[]⟩/\∃n,I (x5++[x]) p n/\ng g L p n)):
  aW 111 [aq ⟨T.arg⟩,aq ⟨kV k⟩,aN (.func N) ⟨fa⟩ ⟨fc⟩] h (λv p=>v=av ⟨[]⟩/\∃n,I (jF T.A T.B k) p n/\ng h L p n):=by
 refine acs T.arg (kV k) N fa fc h _ ⟨_,O8 T,_,Ex k,?_⟩;have o:=O _ _ _ hi;have e1:=(Ok.refl o.ok.wf).push (rW T);have m1:=o.oT (rW T);have i1:=hG _ _ _ _ hi e1;have c1:=(o.grow e1).2;generalize h.push (rW T)=g1 at*;have o1:=O _ _ _ i1;have e2:=(Ok.refl o1.ok.wf).push (iM k);have m2:=o1.oT (iM k);have i2:=hG _ _ _ _ i1 e2;have y3:=(o1.grow e2).2;have m1:=y3 _ _ m1;have c2:=c1.trans y3;generalize g1.push (iM k)=g2 at*;obtain⟨s,y6,ea,_,ms⟩:=nj hp;obtain⟨d,y0,eb,_,x7⟩:=nj hq;obtain⟨b,o,x,y,z,d1,d2,d3,d4,ar⟩:=K.ra.K1 (O _ _ _ i2).ok y6;have hy:y=s.bG.length:=ar.len;have z0:=sA s ms;have y9:=sB d x7;refine⟨_,M1 _,_,eR _,_,_,_,rW.a3 m1.1,_,MT _ _,_,iM.l0 m2.1,_,d1,_,jc _ _,_,_,_,d4,?_⟩;have x4:jF T.A T.B k=(s.bG.flatMap λa=>nF a k.2 d.bG)++d.bG.filterMap (tj k.1):=by unfold jF;rw[ea,eb]
 refine E3 T.arg (kV k) N fa fc h.ax g1.ax x y z (λmz i g=>i<=s.bG.length/\mz=s.bG.length-i/\∃n,I ((s.bG.take i).flatMap λa=>nF a k.2 d.bG) g n/\ng g2 L g n) _ (λmz i=>?_) s.bG.length (i:=0) ⟨cr _,rfl,L,i2,ng.refl _ _⟩;intros;rename_i g Z;obtain⟨f1,rfl,n,iL,V⟩:=Z;have Y:=O _ _ _ iL;have t:=V _ _ m1;have r:=V _ _ m2;refine ay (λq=>?_) (λq=>?_)
 ·have q:=dT q;have x8:i<s.bG.length:=by omega
  obtain⟨a,ha⟩:∃a,s.bG[i]?=aa a:=⟨_,gE x8⟩
  have Z:=gA.bG s ms a (aI ha);obtain⟨t1,t2⟩:=iI ha;obtain⟨bb,o1,x1,x2,_⟩:=(ar.ok Y.ok).at_ ha;obtain⟨u,p1,p2,p3⟩:=FK Y.ok.wf a;refine⟨_,x1,_,x2,_,MA,u,p1,?_⟩;have i3:=hG _ _ _ _ iL p2;have c3:=(Y.grow p2).2;have B:Im (u.app (g.push JQ)) n g.ax _:=Y.new (aS _) p3;have t:=c3 _ _ t;have r:=c3 _ _ r;have V:=V.trans c3;generalize u.app (g.push JQ)=g3 at*;have o3:=O _ _ _ i3;have W:jF T.A T.B k=((s.bG.take i).flatMap λa=>nF a k.2 d.bG)++(nF a k.2 d.bG++(((s.bG.drop (i+1)).flatMap λa=>nF a k.2 d.bG)++d.bG.filterMap (tj k.1))):=by
   rw[x4]
   conv=>lhs;rw[t1,List.flatMap_append,List.flatMap_cons]
   simp only[cE]
  have X:((s.bG.take (i+1)).flatMap λa=>nF a k.2 d.bG)=((s.bG.take i).flatMap λa=>nF a k.2 d.bG)++nF a k.2 d.bG:=by
   rw[t2,List.flatMap_append];simp
  have hw:aj an ((i:Int)+1)=((i+1:Nat):Int):=cL x8 (by omega);have x9:a.t=((a.t.toNat:Nat):Int):=by have:=Z.t0;omega
  refine⟨_,po _ _,_,p3.l0,ay (λP=>?_) (λP=>?_)⟩
  ·have P:a.i=0:=by simpa using P
   have hF:nF a k.2 d.bG=[(⟨0,a.o,0⟩,(a.t.toNat,k.2))]:=by unfold nF;rw[iP P]
   refine⟨_,pT _ _,_,p3.l1,_,R1 _ _ _,_,jE _ _,_,p3.l3,_,GX _ _,_,iM.l1 r.1,_,MF _ _,ay (λ_=>?_) (λq=>by rw[hf]at q;cases q)⟩;rw[VO x9 rfl];rw[hF]at W X;refine(hs _ _ _ W g3 n i3).mono ?_;rintro _ g4 ⟨rfl,L4,i4,c4⟩;refine⟨rfl,?_⟩;rw[hw];refine fG (s.bG.length-(i+1)) (by omega) ⟨by omega,rfl,L4,?_,V.trans c4⟩;rw[X];exact i4
  ·have P:a.i≠0:=by simpa using P
   have hF:nF a k.2 d.bG=d.bG.filterMap λb=>if b.i=a.i then aa (⟨a.i,a.o,b.o⟩,(a.t.toNat,b.t.toNat))else none:=by unfold nF;rw[iN P]
   rw[hF]at W X;obtain⟨b',o',x',y',z',x6,y7,y5,x3,E⟩:=K.rb.K1 o3.ok y0;have y8:y'=d.bG.length:=E.len;refine⟨_,Il _,_,Sn _,_,_,_,rW.b3 t.1,_,GX _ _,_,iM.l1 r.1,_,x6,_,jc _ _,_,_,_,x3,?_⟩;refine E4 T.arg (kV k) N fa fc h.ax g1.ax x y z g.ax x' y' z' _ _ i (λD j p=>j<=d.bG.length/\D=d.bG.length-j/\∃G,I (((s.bG.take i).flatMap λa=>nF a k.2 d.bG)++(d.bG.take j).filterMap λb=>if b.i=a.i then aa (⟨a.i,a.o,b.o⟩,(a.t.toNat,b.t.toNat))else none) p G/\ng g3 n p G) _ (λD j=>?_) d.bG.length (j:=0) ⟨cr _,rfl,n,by simpa using i3,ng.refl _ _⟩;intros;rename_i g5 U;obtain⟨f5,rfl,R,A,f⟩:=U;have Q:=O _ _ _ A;have t:=f _ _ t;have r:=f _ _ r;have B:=f _ _ B;refine ay (λq=>?_) (λq=>?_)
   ·have q:=dT q;have F:j<d.bG.length:=by omega
    obtain⟨c,w⟩:∃c,d.bG[j]?=aa c:=⟨_,gE F⟩
    have M:=gB.bG d x7 c (aI w);obtain⟨v1,v2⟩:=iI w;obtain⟨cc,oc,y1,y2,_⟩:=(E.ok Q.ok).at_ w;obtain⟨u5,r1,r2,J⟩:=FK Q.ok.wf c;refine⟨_,y1,_,y2,_,MA,u5,r1,?_⟩;have i6:=hG _ _ _ _ A r2;have H:=(Q.grow r2).2;have t:=H _ _ t;have r:=H _ _ r;have B:AB _ _ a:=(H _ _ B).1;have f:=f.trans H;generalize u5.app (g5.push JQ)=g6 at*;have C:aj an ((j:Int)+1)=((j+1:Nat):Int):=cL F (by omega);have x0:c.t=((c.t.toNat:Nat):Int):=by have:=M.t0;omega
    refine⟨_,po _ _,_,J.l0,_,po _ _,_,B.l0,ay (λm=>?_) (λm=>?_)⟩
    ·have m:c.i=a.i:=by simpa using m
     refine⟨_,po _ _,_,B.l0,_,pT _ _,_,B.l1,_,pT _ _,_,J.l1,_,R1 _ _ _,_,jE _ _,_,B.l3,_,jE _ _,_,J.l3,_,MF _ _,ay (λ_=>?_) (λq=>by rw[hf]at q;cases q)⟩;rw[VO x9 x0];have S:jF T.A T.B k=(((s.bG.take i).flatMap λa=>nF a k.2 d.bG)++(d.bG.take j).filterMap λb=>if b.i=a.i then aa (⟨a.i,a.o,b.o⟩,(a.t.toNat,b.t.toNat))else none)++(⟨a.i,a.o,c.o⟩,(a.t.toNat,c.t.toNat))::(((d.bG.drop (j+1)).filterMap λb=>if b.i=a.i then aa ((⟨a.i,a.o,b.o⟩:Mv),(a.t.toNat,b.t.toNat))else none)++(((s.bG.drop (i+1)).flatMap λa=>nF a k.2 d.bG)++d.bG.filterMap (tj k.1))):=by
      rw[W];have:(d.bG.filterMap λb=>if b.i=a.i then aa ((⟨a.i,a.o,b.o⟩:Mv),(a.t.toNat,b.t.toNat))else none)=((d.bG.take j).filterMap λb=>if b.i=a.i then aa (⟨a.i,a.o,b.o⟩,(a.t.toNat,b.t.toNat))else none)++(⟨a.i,a.o,c.o⟩,(a.t.toNat,c.t.toNat))::((d.bG.drop (j+1)).filterMap λb=>if b.i=a.i then aa ((⟨a.i,a.o,b.o⟩:Mv),(a.t.toNat,b.t.toNat))else none):=by
       conv=>lhs;rw[v1,fX,eU,iP m]
      rw[this];simp only[cE,dQ]
     refine(hs _ _ _ S g6 R i6).mono ?_;rintro _ g7 ⟨rfl,L7,i7,c7⟩;refine⟨rfl,?_⟩;rw[C];refine fG (d.bG.length-(j+1)) (by omega) ⟨by omega,rfl,L7,?_,f.trans c7⟩;rw[v2,fX,eU,iP m,<-cE];exact i7
    ·have m:c.i≠a.i:=by simpa using m
     rw[C];refine fG (d.bG.length-(j+1)) (by omega) ⟨by omega,rfl,R,?_,f⟩;rw[v2,fX,eU,iN m];simpa using i6
   ·have q:=dF q;have e:d.bG.take j=d.bG:=bm (by omega);rw[e]at A;rw[hw];refine fG (s.bG.length-(i+1)) (by omega) ⟨by omega,rfl,R,?_,V.trans f⟩;rw[X];exact A
 ·have q:=dF q;have e:s.bG.take i=s.bG:=bm (by omega);rw[e]at iL;obtain⟨b',o',x',y',z',x6,y7,y5,x3,E⟩:=K.rb.K1 Y.ok y0;have y8:y'=d.bG.length:=E.len;refine⟨_,Il _,_,Sn _,_,_,_,rW.b3 t.1,_,GX _ _,_,iM.l1 r.1,_,x6,_,jc _ _,_,_,_,x3,?_⟩;refine E5 T.arg (kV k) N fa fc h.ax g1.ax x' y' z' (λD j p=>j<=d.bG.length/\D=d.bG.length-j/\∃G,I ((s.bG.flatMap λa=>nF a k.2 d.bG)++(d.bG.take j).filterMap (tj k.1)) p G/\ng g n p G) _ (λD j=>?_) d.bG.length (i:=0) ⟨cr _,rfl,n,by simpa using iL,ng.refl _ _⟩;intros;rename_i g5 U;obtain⟨f5,rfl,R,A,f⟩:=U;have Q:=O _ _ _ A;have t:=f _ _ t;have r:=f _ _ r;refine ay (λq=>?_) (λq=>?_)
  ·have q:=dT q;have F:j<d.bG.length:=by omega
   obtain⟨c,w⟩:∃c,d.bG[j]?=aa c:=⟨_,gE F⟩
   have M:=gB.bG d x7 c (aI w);obtain⟨v1,v2⟩:=iI w;obtain⟨cc,oc,y1,y2,_⟩:=(E.ok Q.ok).at_ w;obtain⟨u5,r1,r2,J⟩:=FK Q.ok.wf c;refine⟨_,y1,_,y2,_,MA,u5,r1,?_⟩;have i6:=hG _ _ _ _ A r2;have H:=(Q.grow r2).2;have t:=H _ _ t;have r:=H _ _ r;have f:=f.trans H;generalize u5.app (g5.push JQ)=g6 at*;have C:aj an ((j:Int)+1)=((j+1:Nat):Int):=cL F (by omega);have x0:c.t=((c.t.toNat:Nat):Int):=by have:=M.t0;omega
   refine⟨_,po _ _,_,J.l0,ay (λm=>?_) (λm=>?_)⟩
   ·have m:c.i=0:=by simpa using m
    refine⟨_,pT _ _,_,J.l1,_,R1 _ _ _,_,MT _ _,_,iM.l0 r.1,_,jE _ _,_,J.l3,_,MF _ _,ay (λ_=>?_) (λq=>by rw[hf]at q;cases q)⟩;rw[VO rfl x0];have hR:tj k.1 c=aa (⟨0,0,c.o⟩,(k.1,c.t.toNat)):=by unfold tj;rw[iP m]
    have S:jF T.A T.B k=((s.bG.flatMap λa=>nF a k.2 d.bG)++(d.bG.take j).filterMap (tj k.1))++(⟨0,0,c.o⟩,(k.1,c.t.toNat))::(d.bG.drop (j+1)).filterMap (tj k.1):=by
     rw[x4];have:d.bG.filterMap (tj k.1)=(d.bG.take j).filterMap (tj k.1)++(⟨0,0,c.o⟩,(k.1,c.t.toNat))::(d.bG.drop (j+1)).filterMap (tj k.1):=by
      conv=>lhs;rw[v1,fX,eU,hR]
     rw[this];simp only[cE]
    refine(hs _ _ _ S g6 R i6).mono ?_;rintro _ g7 ⟨rfl,L7,i7,c7⟩;refine⟨rfl,?_⟩;rw[C];refine fG (d.bG.length-(j+1)) (by omega) ⟨by omega,rfl,L7,?_,f.trans c7⟩;rw[v2,fX,eU,hR,<-cE];exact i7
   ·have m:c.i≠0:=by simpa using m
    rw[C];refine fG (d.bG.length-(j+1)) (by omega) ⟨by omega,rfl,R,?_,f⟩;rw[v2,fX,eU,show tj k.1 c=none by unfold tj;rw[iN m]];simpa using i6
  ·have q:=dF q;have e:d.bG.take j=d.bG:=bm (by omega);rw[e]at A;refine⟨rfl,R,?_,c2.trans (V.trans f)⟩;rw[x4];exact A
end
end
section
theorem D3:au.underlying 162=aa (.slice 105):=by kernel_rfl
theorem KX:Go.Ab.isAgg au 162=ak:=by kernel_rfl
theorem yT:Go.Ab.isAgg au 163=ak:=by kernel_rfl
noncomputable def acC:TypeInfo:=(au.info? 105).getD default
theorem ajY:gF au 105=aa acC:=by kernel_rfl
theorem T4:acC.size=2:=by kernel_rfl
theorem Ri:acC.bytes=16:=by kernel_rfl
theorem akf:fD au 162=af:=by kernel_rfl
theorem T2:cd au 162=aa 1:=by kernel_rfl
theorem T3:cd au 163=aa 1:=by kernel_rfl
theorem af2(x:NN):bC au 162 1 [(0,(aq ⟨kV x⟩))]=aa (.cells (kV x) 105 2 af,pw 1 1):=by kernel_rfl
def CF(ord:List NN)(x:NN):List NN:=if x∈ord then ord else ord++[x]
def Y5(kl kn km:Nat)(v:ah)(ord:List NN)(G:gf):List gf:=[[(kl,.cells [v] 162 0 af)],[(kn,.cells [.map (aa km)] 163 0 af)],G,[(km,.map (qC ord 0))]]
def RS(h0:aw)(kl kn km:Nat)(ord:List NN)(g:aw)(L:List gf):Prop:=OL h0 g L/\∃v G,kK 105 2 v (ord.map kV) G/\L=Y5 kl kn km v ord G
section
variable {h0:aw} {kl kn km:Nat} {ord:List NN} {g:aw} {L:List gf}
theorem RS.grow(r:RS h0 kl kn km ord g L)(o:Ok g h):RS h0 kl kn km ord h L:=⟨(r.1.grow o).1,r.2⟩
theorem Yc(k:Wf h0)(w:RS h0 kl kn km ord g L)(Y:ord.length<=100000)(m:Mv)(x:NN):aW 144 [aq ⟨Bj m⟩,aq ⟨kV x⟩,pA kn,pA kl] g (λv z=>v=av ⟨[]⟩/\∃y,RS h0 kl kn km (CF ord x) z y/\ng g L z y):=by
 refine S6 (Bj m) (kV x) kn kl g _ ⟨_,HL m,_,Ex x,?_⟩;obtain⟨o,v,G,t,rfl⟩:=w;obtain⟨l,Q⟩:=o.grow ((Ok.refl o.ok.wf).push (pK m));generalize g.push (pK m)=T at*;have b:=l.oT (iM x);obtain⟨d,R⟩:=l.grow ((Ok.refl l.ok.wf).push (iM x));have c:=Q.trans R;generalize T.push (iM x)=I at*;obtain⟨a,n,A⟩:=t.rM;rw[aG]at A;subst A;refine⟨_,da vS yT (d.get 1 rfl) (by simp),_,iM.all b.1,_,_,(G0 (d.get 3 rfl) x).1,ay (λq=>?_) (λq=>?_)⟩
 ·have f:x∉ord:=by
   refine EG (i:=0) ?_
   cases e:Iv x ord 0 with
   |none=>rfl
   |some j=>unfold uM at q;rw[e]at q;cases q
  have h:CF ord x=ord++[x]:=by unfold CF;rw[iN f]
  obtain⟨s,F⟩:=d.uR k 3 rfl (.map (qC (ord++[x]) 0));refine⟨_,da vS yT (d.get 1 rfl) (by simp),_,iM.all b.1,_,_,_,da D3 KX (d.get 0 rfl) (by simp),_,acY (d.get 3 rfl) f,?_⟩;have J:=F _ _ b;have c:=c.trans F;generalize (dJ.set km (.map (qC (ord++[x]) 0))).app I=H at*;refine⟨_,_,_,da D3 KX (s.get 0 rfl) (by simp),_,iM.all J.1,_,_,_,af2 x,?_⟩;have P:=cC H (.cells (kV x) 105 2 af);obtain⟨O,N⟩:=s.grow ((Ok.refl s.ok.wf).push (.cells (kV x) 105 2 af));have c:=c.trans N;generalize H.push (.cells (kV x) 105 2 af)=K at*;obtain⟨p,E,B,u,U,X,W,D,C,V⟩:=t.add D3 ajY T4 akf k O (j:=2) rfl (D5 P rfl) (λr w=>by rw[aX.1 w];rfl) rfl (by rw[Ri,aG,bw];omega) (by rw[aG,bw];omega) (.inl (aS _));refine⟨_,_,_,_,U,?_⟩;have c:=c.trans V;generalize u.app K=Z at*;obtain⟨M,S⟩:=C.uR k 0 rfl (.cells [ae p E B] 162 0 af);refine⟨_,eu T2 (C.get 0 rfl) (by simp) (dD ..) (by cases p<;>rfl),rfl,_,⟨M,ae p E B,W,?_,?_⟩,c.trans S⟩
  ·rw[h,bU];exact D
  ·rw[h];rfl
 ·have f:x∈ord:=fA λf=>by
   have e:uM ord x=none:=by
    cases e:uM ord x with
    |none=>rfl
    |some j=>exact absurd (aI (Aw e)) f
   rw[e]at q;cases q
  have h:CF ord x=ord:=by unfold CF;rw[iP f]
  exact⟨rfl,_,⟨d,_,G,by rw[h];exact t,by rw[h]⟩,c⟩
end
end
variable{P:aO}{U:Array aR}{q:aR}{r:bh->ah}{I:eE}
section
noncomputable def Kw:Array aR:=abX (oO [1,1,0] hI.body)
noncomputable def oR(j:Nat):aR:=(Kw[j]?).getD default
theorem sM{a:Nat->Bool}{s:Fc}{u:Option (Nat×eE)}(b:U[j]?=aa q)(c:q.guard=none)(h:ND P (ev a s.1) q (n+j) s.2.1=aa (v,u)):D6 P a U n j s=aa (IE s q.dst v u):=by grind[D6,jN]
theorem Lx{h:aw}{t:aD}{a:bh}(e:q.op = .load t a)(d:aM P t h (r a)=aa v):ND P r q k h=aa (v,none):=by
 obtain⟨g,j,i,f,c,b⟩:=q;subst e;show(match aM P t h (r a)with|some v=>aa (v,none)|none=>_)=_;rw[d]
theorem Xz{h:aw}{a:bh}(d:q.op = .move a):ND P r q k h=aa (r a,none):=by
 obtain⟨f,i,g,e,c,b⟩:=q;subst d;rfl
theorem aeI{h:aw}{t:aD}{x:bh}{f:Nat->ah}(l:q.op = .buildSlice t 1 #[(0,x)])(j:r x=v)(m:bC P t 1 [(0,v)]=aa (I,f)):ND P r q k h=aa (f k,aa (k,I)):=by
 obtain⟨g,n,i,d,c,a⟩:=q;subst l;subst j;have e:dz P r ⟨g,.buildSlice t 1 #[(0,x)],i,d,c,a⟩=bC P t 1 [(0,r x)]:=rfl;show(match dz P r ⟨g,.buildSlice t 1 #[(0,x)],i,d,c,a⟩with|some (b,f)=>aa (f k,aa (k,b))|none=>_)=_
 grind
theorem aeJ{h:aw}{t:aD}{f:Nat->ah}(j:q.op = .makeMap t none)(l:Dm P t=aa (I,f)):ND P r q k h=aa (f k,aa (k,I)):=by
 obtain⟨g,m,i,d,c,a⟩:=q;subst j;have e:dz P r ⟨g,.makeMap t none,i,d,c,a⟩=Dm P t:=rfl;show(match dz P r ⟨g,.makeMap t none,i,d,c,a⟩with|some (b,f)=>aa (f k,aa (k,b))|none=>_)=_
 grind
theorem abm{h:aw}{t:aD}{m a b:bh}(l:q.op = .insert t m a b)(n:tH P t (r m) (r a) (r b) h=aa (undef,.set i I)):ND P r q k h=aa (undef,aa (i,I)):=by
 obtain⟨g,o,j,f,d,c⟩:=q;subst l;have e:gM P mI r ⟨g,.insert t m a b,j,f,d,c⟩ h=tH P t (r m) (r a) (r b) h:=rfl;show(match gM P mI r ⟨g,.insert t m a b,j,f,d,c⟩ h with|some (v,.no)=>aa (v,none)|some (v,.set i b)=>aa (v,aa (i,b))|_=>none)=_
 grind
theorem IV{h:aw}{t:aD}{a x:bh}(l:q.op = .store t a x)(m:aQ P t (r a) (r x) h=aa (undef,.set i I)):ND P r q k h=aa (undef,aa (i,I)):=by
 obtain⟨g,n,j,f,d,c⟩:=q;subst l;have e:gM P mI r ⟨g,.store t a x,j,f,d,c⟩ h=aQ P t (r a) (r x) h:=rfl;show(match gM P mI r ⟨g,.store t a x,j,f,d,c⟩ h with|some (v,.no)=>aa (v,none)|some (v,.set i b)=>aa (v,aa (i,b))|_=>none)=_
 grind
theorem Vr{l:List ah}(h:n<l.length)(v:ah)(t:Nat):(lG l (aa n) v).getD t undef=if t=n then v else l.getD t undef:=by
 show(l.set n v).getD t undef=_
 grind
theorem ajI:Dm au 163=aa (.map [],λk=> .map (aa k)):=by rfl
section
variable (tm:List ah) (h:aw) (k2 k3 k4:Nat) (x:NN)
def vT(D:Nat->Bool)(t:Nat):ah:=if t=13/\D 0=af then aq ⟨kV x⟩else if t=14/\D 1=af then sA (h.ax+1) 1 1 else if t=15/\D 2=af then .map (aa (h.ax+2))else if t=16/\D 3=af then aq ⟨kV x⟩else if t=17/\D 5=af then .map (aa (h.ax+2))else tm.getD t undef
def mT(b:Bool):List (ah×ah):=if b=af then qC [x] 0 else[]
noncomputable def hT(D:Nat->Bool)(k:Nat):Option eE:=if k=h.ax+1/\D 1=af then aa (.cells (kV x) 105 2 af)else if k=h.ax+2/\D 2=af then aa (.map (mT x (D 4)))else if k=k2/\D 6=af then aa (.cells [sA (h.ax+1) 1 1] 162 0 af)else if k=k3/\D 7=af then aa (.cells [.map (aa (h.ax+2))] 163 0 af)else h.get k
structure StR(D:Nat->Bool)(s:Fc):Prop where
 len:s.1.length=33
 val:∀t,s.1.getD t undef=vT tm h x D t
 nx:s.2.1.ax=h.ax+8
 get:∀k,s.2.1.get k=hT h k2 k3 x D k
 wr:∀k∈s.2.2,k=h.ax+1\/k=h.ax+2\/k=k2\/k=k3
 cl:D 4=af->D 2=af
end
theorem UJ{D:Nat->Bool}(h:D 4=af->D 2=af)(a:j=4->D 2=af):(4==j||D 4)=af->(2==j||D 2)=af:=by grind
section
variable {tm:List ah} {h:aw} {k2 k3 k4:Nat} {x:NN}
theorem opv{D:Nat->Bool}{s:Fc}(a:StR tm h k2 k3 x D s)(t:Nat):ev SS.gl s.1 (.tmp t)=vT tm h x D t:=a.val t
theorem StR.pure{D:Nat->Bool}{s:Fc}(a:StR tm h k2 k3 x D s){j d:Nat}(f:j≠4)(g:d<33){v:ah}(b:∀t,vT tm h x (λi=>i==j||D i) t=if t=d then v else vT tm h x D t)(c:∀k,hT h k2 k3 x (λi=>i==j||D i) k=hT h k2 k3 x D k):StR tm h k2 k3 x (λi=>i==j||D i) (IE s (aa d) v none):=by
 refine⟨?_,λt=>?_,a.nx,λk=>?_,a.wr,UJ a.cl λe=>absurd e f⟩
 ·show(s.1.set d v).length=33;rw[bT];exact a.len
 ·rw[b];show(lG s.1 (aa d) v).getD t undef=_;rw[Vr (by rw[a.len];omega),a.val]
 ·rw[c];exact a.get k
theorem StR.yk{D:Nat->Bool}{s:Fc}(a:StR tm h k2 k3 x D s){j:Nat}(l:j=4->D 2=af){b:Option Tmp}{v:ah}{i:Nat}{B:eE}(f:b=none/\(∀t,vT tm h x (λi=>i==j||D i) t=vT tm h x D t)\/ ∃d,b=aa d/\d<33/\∀t,vT tm h x (λi=>i==j||D i) t=if t=d then v else vT tm h x D t)(m:i=h.ax+1\/i=h.ax+2\/i=k2\/i=k3)(g:∀k,hT h k2 k3 x (λi=>i==j||D i) k=if k=i then aa B else hT h k2 k3 x D k):StR tm h k2 k3 x (λi=>i==j||D i) (IE s b v (aa (i,B))):=by
 refine⟨?_,λt=>?_,a.nx,λk=>?_,λk e=>?_,UJ a.cl l⟩
 ·rcases f with⟨rfl,_⟩|⟨d,rfl,_⟩
  ·exact a.len
  ·show(s.1.set d v).length=33;rw[bT];exact a.len
 ·rcases f with⟨rfl,c⟩|⟨d,rfl,f,c⟩
  ·rw[c];exact a.val t
  ·rw[c];show(lG s.1 (aa d) v).getD t undef=_;rw[Vr (by rw[a.len];omega),a.val]
 ·rw[g];show(s.2.1.set i B).get k=_;rw[aw.bZ,a.get]
 ·rcases cO.1 e with rfl|e
  ·omega
  ·exact a.wr k e
theorem FG(h:j<8):Kw[j]?=aa (oR j):=by
 have a:Kw.size=8:=by kernel_rfl
 grind[oR]
theorem abY(O:tm.getD 2 undef=pA k2)(L:tm.getD 3 undef=pA k3)(M:tm.getD 4 undef=pA k4)(K:h.get k4=aa (iM x))(S:h.get k2=aa (.cells [nA] 162 0 af))(H:h.get k3=aa (.cells [.map none] 163 0 af))(n:k2≠k3)(r:k2≠k4)(o:k3≠k4)(X:k2<h.ax)(T:k3<h.ax)(V:k4<h.ax):
  ∀D s j,j<8->D j=ak->(∀i,i<j->gy (lK Kw) j i=af->D i=af)->StR tm h k2 k3 x D s->∃y,D6 au SS.gl Kw h.ax j s=aa y/\StR tm h k2 k3 x (λi=>i==j||D i) y:=by
 intro D s j W u f c;have w:s.2.1.get k4=aa (iM x):=by
  rw[c.get];unfold hT;rw[iN (λe=>by omega),iN (λe=>by omega),iN (λe=>r e.1.symm),iN (λe=>o e.1.symm)];exact K
 have q:ev SS.gl s.1 (.tmp 4)=pA k4:=by
  rw[opv c];unfold vT;rw[iN (λe=>by omega),iN (λe=>by omega),iN (λe=>by omega),iN (λe=>by omega),iN (λe=>by omega)];exact M
 have F:ev SS.gl s.1 (.tmp 2)=pA k2:=by
  rw[opv c];unfold vT;rw[iN (λe=>by omega),iN (λe=>by omega),iN (λe=>by omega),iN (λe=>by omega),iN (λe=>by omega)];exact O
 have E:ev SS.gl s.1 (.tmp 3)=pA k3:=by
  rw[opv c];unfold vT;rw[iN (λe=>by omega),iN (λe=>by omega),iN (λe=>by omega),iN (λe=>by omega),iN (λe=>by omega)];exact L
 have B:j=0\/j=1\/j=2\/j=3\/j=4\/j=5\/j=6\/j=7:=by omega
 rcases B with rfl|rfl|rfl|rfl|rfl|rfl|rfl|rfl
 ·refine⟨_,sM (FG (by omega)) (by kernel_rfl) (Lx (t:=105) (a:= .tmp 4) (v:= aq ⟨kV x⟩) (by kernel_rfl) (by rw[q];exact iM.all w)),?_⟩;rw[show(oR 0).dst=aa 13 by kernel_rfl];refine c.pure (j:=0) (d:=13) (by omega) (by omega) (λt=>?_) (λk=>?_)
  all_goals grind[vT,hT]
 ·have J:=f 0 (by omega) (by kernel_rfl);have A:ev SS.gl s.1 (.tmp 13)=aq ⟨kV x⟩:=by rw[opv c];unfold vT;simp[J]
  refine⟨_,sM (FG (by omega)) (by kernel_rfl) (aeI (t:=162) (x:= .tmp 13) (by kernel_rfl) A (af2 x)),?_⟩;rw[show(oR 1).dst=aa 14 by kernel_rfl];refine c.yk (j:=1) (λe=>by cases e) (.inr ⟨14,rfl,by decide,λt=>?_⟩) (.inl rfl) (λk=>?_)
  all_goals grind[vT,pw,hT]
 ·refine⟨_,sM (FG (by omega)) (by kernel_rfl) (aeJ (t:=163) (by kernel_rfl) ajI),?_⟩;rw[show(oR 2).dst=aa 15 by kernel_rfl];have U:D 4=ak:=by
   cases e:D 4 with
   |false=>rfl
   |true=>have:=c.cl e;rw[u]at this;cases this
  refine c.yk (j:=2) (λe=>by cases e) (.inr ⟨15,rfl,by decide,λt=>?_⟩) (.inr (.inl rfl)) (λk=>?_)
  all_goals grind[vT,hT,mT]
 ·refine⟨_,sM (FG (by omega)) (by kernel_rfl) (Lx (t:=105) (a:= .tmp 4) (v:= aq ⟨kV x⟩) (by kernel_rfl) (by rw[q];exact iM.all w)),?_⟩;rw[show(oR 3).dst=aa 16 by kernel_rfl];refine c.pure (j:=3) (d:=16) (by omega) (by omega) (λt=>?_) (λk=>?_)
  all_goals grind[vT,hT]
 ·have l:=f 2 (by omega) (by kernel_rfl);have Q:=f 3 (by omega) (by kernel_rfl);have g:ev SS.gl s.1 (.tmp 15) = .map (aa (h.ax+2)):=by rw[opv c];unfold vT;simp[l]
  have z:ev SS.gl s.1 (.tmp 16)=aq ⟨kV x⟩:=by rw[opv c];unfold vT;simp[Q]
  have N:s.2.1.get (h.ax+2)=aa (.map (qC [] 0)):=by
   rw[c.get];unfold hT mT;simp[l,u,qC]
  refine⟨_,sM (FG (by omega)) (by kernel_rfl) (abm (t:=163) (m:= .tmp 15) (a:= .tmp 16) (b:= .const (aA 0)) (by kernel_rfl) (by rw[g,z];exact acY N (List.not_mem_nil))),?_⟩;rw[show(oR 4).dst=none by kernel_rfl];refine c.yk (j:=4) (λ_=>l) (.inl ⟨rfl,λt=>?_⟩) (.inr (.inl rfl)) (λk=>?_)
  all_goals grind[vT,hT,mT]
 ·have l:=f 2 (by omega) (by kernel_rfl);have g:ev SS.gl s.1 (.tmp 15) = .map (aa (h.ax+2)):=by rw[opv c];unfold vT;simp[l]
  refine⟨_,sM (FG (by omega)) (by kernel_rfl) (Xz (a:= .tmp 15) (by kernel_rfl)),?_⟩;rw[show(oR 5).dst=aa 17 by kernel_rfl,g];refine c.pure (j:=5) (d:=17) (by omega) (by omega) (λt=>?_) (λk=>?_)
  all_goals grind[vT,hT]
 ·have P:=f 1 (by omega) (by rfl);have p:ev SS.gl s.1 (.tmp 14)=sA (h.ax+1) 1 1:=by rw[opv c];unfold vT;simp[P]
  have G:s.2.1.get k2=aa (.cells [nA] 162 0 af):=by
   rw[c.get];unfold hT;rw[iN (λe=>by omega),iN (λe=>by omega),iN (λe=>by grind),iN (λe=>n e.1)];exact S
  refine⟨_,sM (FG (by omega)) (by rfl) (IV (t:=162) (a:= .tmp 2) (x:= .tmp 14) (by rfl) (by rw[F,p];exact eu T2 G (by simp) rfl rfl)),?_⟩;rw[show(oR 6).dst=none by rfl];refine c.yk (j:=6) (λe=>by cases e) (.inl ⟨rfl,λt=>?_⟩) (.inr (.inr (.inl rfl))) (λk=>?_)
  ·rfl
  ·unfold hT
   grind
 ·have I:=f 5 (by omega) (by rfl);have C:ev SS.gl s.1 (.tmp 17) = .map (aa (h.ax+2)):=by rw[opv c];unfold vT;simp[I]
  have R:s.2.1.get k3=aa (.cells [.map none] 163 0 af):=by
   rw[c.get];unfold hT;rw[iN (λe=>by omega),iN (λe=>by omega),iN (λe=>n e.1.symm),iN (λe=>by grind)];exact H
  refine⟨_,sM (FG (by omega)) (by rfl) (IV (t:=163) (a:= .tmp 3) (x:= .tmp 17) (by rfl) (by rw[E,C];exact eu T3 R (by simp) rfl rfl)),?_⟩;rw[show(oR 7).dst=none by rfl];refine c.yk (j:=7) (λe=>by cases e) (.inl ⟨rfl,λt=>?_⟩) (.inr (.inr (.inr rfl))) (λk=>?_)
  ·rfl
  ·unfold hT
   grind
theorem Z8{l l':List ah}(f:l.length=l'.length)(d:∀t,l.getD t undef=l'.getD t undef)(c:∀t,iz 4 (l.getD t undef) (l.getD t undef)=af):Fu (iz 4) l l'=af:=by
 induction l generalizing l' with
 |nil=>cases l' with
  |nil=>rfl
  |cons b l'=>grind
 | cons a l e=>cases l' with
  |nil=>grind
  |cons b l'=>
   obtain rfl:a=b:=d 0;show(iz 4 a a&&Fu (iz 4) l l')=af;rw[show iz 4 a a=af from c 0,e (by grind) (λt=>d (t+1)) (λt=>c (t+1))];rfl
theorem afb(K:tm.length=33)(Y:tm.getD 2 undef=pA k2)(O:tm.getD 3 undef=pA k3)(R:tm.getD 4 undef=pA k4)(E:∀t,iz 4 (tm.getD t undef) (tm.getD t undef)=af)(M:h.get k4=aa (iM x))(b2:h.get k2=aa (.cells [nA] 162 0 af))(F:h.get k3=aa (.cells [.map none] 163 0 af))(y:k2≠k3)(u:k2≠k4)(r:k3≠k4)(l2:k2<h.ax)(S:k3<h.ax)(X:k4<h.ax):
  ∃l o,l.length=33/\CO au SS.gl Kw (gy (lK Kw)) tm h=aa (l,o)/\(∀t,t<13->l.getD t undef=tm.getD t undef)/\o.ax=h.ax+8/\∀k,o.get k=hT h k2 k3 x (λ_=>af) k:=by
 have b:∀D:Nat->Bool,(∀i,i<8->D i=af)->(∀t,vT tm h x D t=vT tm h x (λ_=>af) t)/\∀k,hT h k2 k3 x D k=hT h k2 k3 x (λ_=>af) k:=λD d=>by
  have I:=d 0 (by omega);have j:=d 1 (by omega);have g:=d 2 (by omega);have p:=d 3 (by omega);have m:=d 4 (by omega);have V:=d 5 (by omega);have J:=d 6 (by omega);have U:=d 7 (by omega);exact⟨λt=>by unfold vT;rw[I,j,g,p,V],λk=>by unfold hT;rw[j,g,m,J,U]⟩
 have H:∀t,iz 4 (vT tm h x (λ_=>af) t) (vT tm h x (λ_=>af) t)=af:=λt=>by
  unfold vT;split
  ·simp[iz,Fu,kV]
  split
  ·simp[iz]
  split
  ·simp[iz]
  split
  ·simp[iz,Fu,kV]
  split
  ·simp[iz]
  exact E t
 have W:∀k,k=h.ax+1\/k=h.ax+2\/k=k2\/k=k3->∃B,hT h k2 k3 x (λ_=>af) k=aa B/\Fp B B=af:=λk a=>by
  unfold hT;split
  ·exact⟨_,rfl,by simp[Fp,Fu,kV,iz]⟩
  split
  ·exact⟨_,rfl,by simp[Fp,mT,qC,BK,Fu,kV,iz]⟩
  split
  ·exact⟨_,rfl,by simp[Fp,Fu,iz]⟩
  split
  ·exact⟨_,rfl,by simp[Fp,Fu,iz]⟩
  next C w q A=>
   exfalso;simp only[and_true]at C w q A;rcases a with a|a|a|a
   ·exact C a
   ·exact w a
   ·exact q a
   ·exact A a
 obtain⟨s,c,Z⟩:=ZZ (P:=au) (gl:=SS.gl) (ops:=Kw) (bf:=gy (lK Kw)) (base:=h.ax) (N:=8) (by kernel_rfl) (StR tm h k2 k3 x) (abY Y O R M b2 F y u r l2 S X) (tm:=tm) (h:=h) rfl
  ⟨K,λt=>(by unfold vT;simp),(by rw[show Kw.size=8 by kernel_rfl]),λk=>(by unfold hT;simp;rfl),λk a=>(by cases a),λe=>e⟩
  (λD G s v d z c f=>by
   obtain⟨j,g⟩:=b D d;obtain⟨p,m⟩:=b G z;have ga:∀k,s.2.1.get k=v.2.1.get k:=λk=>by rw[c.get,f.get,g,m]
   have n:∀k,(k=h.ax+1\/k=h.ax+2\/k=k2\/k=k3)->V8 s.2.1 v.2.1 k=af:=λk a=>by
    obtain⟨B,L,Q⟩:=W k a;unfold V8;rw[c.get,f.get,g,m,L];exact Q
   unfold Lc;rw[Z8 (by rw[c.len,f.len]) (λt=>by rw[c.val,f.val,j,p]) (λt=>by rw[c.val,j];exact H t),cw.2 λk a=>n k (c.wr k a),cw.2 λk a=>n k (f.wr k a)];rfl)
 obtain⟨j,g⟩:=b (λi=>decide (i<8)) (λi T=>by simpa using T);refine⟨_,_,c.len,Z,λt ht=>?_,c.nx,λk=>by rw[c.get,g]⟩;rw[c.val];unfold vT
 grind
end
end
variable{c:List ah}{X:Sx}
section
theorem aaZ(h:c.length=n):(dL n).map (fr c)=c:=by
 subst h;refine List.ext_getElem (by simp) λi a b=>?_
 grind[fr]
theorem ad1{a b:ah}{t d:aD}{h:aw}(e:aM X.P t h a=aa v)(c:aM X.P d h b=aa w)(f:Q (av ⟨[v,w]⟩) h):gI X [(a,aa t),(b,aa d)] h Q:=by
 unfold gI;simp only[QU,e,c];exact f
theorem Zi{a:List NN}{x y:NN}:y∈CF a x↔y∈a\/y=x:=by
 unfold CF
 grind
theorem adl{a:List NN}{x:NN}(h:a.Nodup):(CF a x).Nodup:=by grind[CF]
def Ep(a:List NN)(l:List (Mv×NN)):List NN:=l.foldl (λo x=>CF o x.2) a
theorem V3(a:List NN)(l:List (Mv×NN))(x:Mv×NN):Ep a (l++[x])=CF (Ep a l) x.2:=by grind[Ep]
theorem vM:∀{l:List (Mv×NN)}{a:List NN}{y:NN},y∈Ep a l↔y∈a\/ ∃x∈l,y=x.2
 |[],a,y=>by simp[Ep]
 |x::l,a,y=>by
  show y∈Ep (CF a x.2) l↔_;rw[vM,Zi]
  grind
theorem My:∀{l:List (Mv×NN)}{a:List NN},a.Nodup->(Ep a l).Nodup
 |[],_,h=>h
 |x::l,a,h=>My (l:=l) (adl h)
theorem CG:∀{l:List (Mv×NN)}{ord:List NN}{j:Nat}{y:NN},ord[j]?=aa y->(Ep ord l)[j]?=aa y
 |[],_,_,_,h=>h
 |x::l,ord,j,y,h=>by
  refine CG (l:=l) (ord:=CF ord x.2) ?_
  grind[CF]
def Nd(A B:cG)(k:NN):Prop:=k.1<A.aE.length/\k.2<B.aE.length
theorem zr{N M:Nat}{c:List NN}(m:c.Nodup)(d:∀k∈c,k.1<N/\k.2<M):c.length<=N*M:=by
 have h:=IN (N*M) (l:=c.map λk=>k.1*M+k.2) ?_ ?_
 ·grind
 ·refine(List.pairwise_map).2 ((List.Pairwise.imp_of_mem (λo j s e=>?_)) m);obtain⟨g,f⟩:=d _ o;obtain⟨u,r⟩:=d _ j;rename_i a b;have n:a.2=b.2:=by
   have:=congrArg (· % M) e;simpa[Nat.mul_add_mod',eG f,eG r]using this
  have t:a.1=b.1:=by
   rw[n]at e;exact Nat.eq_of_mul_eq_mul_right (by omega) (Nat.add_right_cancel e)
  grind
 ·intro i p;obtain⟨k,q,rfl⟩:=dZ.1 p;obtain⟨g,f⟩:=d _ q
  calc k.1*M+k.2<k.1*M+M:=by omega
   _=(k.1+1)*M:=by grind
   _<=N*M:=bJ _ g
theorem Cj{B:cG}(o:Good M)(l:Good B){k j:NN}{m:Mv}(d:Nd M B k)(s:Fl M B k m j):Nd M B j:=by
 have b:∀{n:cG},Good n->∀{s:Nat}{a:iu},a∈eA n s->s<n.aE.length->a.t.toNat<n.aE.length:=λ{n} g {s} {a} c q=>by
  obtain⟨x,_,e,_,p⟩:=nj q;rw[e]at c;have h:=g.bG x p a c;have i:=h.t0;have r:=h.t1;omega
 cases s with
 |left c i=>exact⟨b o c d.1,d.2⟩
 |right f i=>exact⟨d.1,b l f d.2⟩
 |both c f i e=>exact⟨b o c d.1,b l f d.2⟩
structure ROk(A B:cG)(ord:List NN):Prop where
 nd:ord.Nodup
 hd:ord[0]?=aa (uP A B)
 lt:∀k∈ord,Nd A B k
 rc:∀k∈ord,∃ms,PR A B (uP A B) ms k
 cl:∀k∈ord,∀m k',Fl A B k m k'->k'∈ord
structure Uy(A B:cG)(i:Nat)(ord:List NN):Prop where
 nd:ord.Nodup
 hd:ord[0]?=aa (uP A B)
 lt:∀k∈ord,Nd A B k
 rc:∀k∈ord,∃ms,PR A B (uP A B) ms k
 cl:∀j k,j<i->ord[j]?=aa k->∀m k',Fl A B k m k'->k'∈ord
theorem Uy.step{B:cG}(s:Good M)(q:Good B){i:Nat}{a:List NN}(r:Uy M B i a){k:NN}(g:a[i]?=aa k):Uy M B (i+1) (Ep a (jF M B k)):=by
 have p:=aI g;refine⟨My r.nd,CG r.hd,λx f=>?_,λx f=>?_,λj y v t m o d=>?_⟩
 ·rcases vM.1 f with h|⟨z,n,rfl⟩
  ·exact r.lt x h
  ·exact Cj s q (r.lt k p) (mG.1 n)
 ·rcases vM.1 f with h|⟨z,n,rfl⟩
  ·exact r.rc x h
  ·obtain⟨u,h⟩:=r.rc k p;exact⟨_,h.snoc (mG.1 n)⟩
 ·have b:j<a.length:=by
   have:=(List.getElem?_eq_some_iff.1 g).1;omega
  have c:=CG (l:=jF M B k) (gE b);rw[t]at c;obtain rfl:=aC c;by_cases h:j=i
  ·subst h;have e:a[j]=k:=by
    have:=gE b;rw[g]at this;exact(aC this).symm
   rw[e]at d;exact vM.2 (.inr ⟨(m,o),mG.2 d,rfl⟩)
  ·exact vM.2 (.inl (r.cl j _ (by omega) (gE b) m o d))
def abT(h:aw)(T:kI):VH:=λv g=>∃(b:List NN)(a:Option aF)(n c d:Nat),v=av ⟨[ae a n c,.map (aa d)]⟩/\ROk T.A T.B b/\hJ h g 105 2 (ae a n c) (b.map kV)/\g.get d=aa (.map (qC b 0))/\h.ax<=d/\dV (ae a n c)≠aa d/\Ok h g
section
variable {h:aw} {T:kI}
theorem aiK:cD au 162=aa (.cells [nA] 162 0 af,jL):=by rfl
theorem aiL:cD au 163=aa (.cells [.map none] 163 0 af,jL):=by rfl
def uL:eE:= .cells [aA 0,aA 0] 105 0 af
theorem Zl:cD au 105=aa (uL,jL):=by rfl
theorem abA(x:NN)(g:aw):aQ au 105 (pA g.ax) (aq ⟨kV x⟩) (g.push uL)=aa (undef,.set g.ax (iM x)):=gL Jr rfl (cC g uL) rfl rfl
theorem aks(r:T.Rows h):iz 4 (aq ⟨T.arg⟩) (aq ⟨T.arg⟩)=af:=by
 have a:=Jw r.ra;have b:=Jw r.rb;simp only[iz,kI.arg,dK,Fu,bj,dQ,dq]at a b⊢
 grind
theorem Kp(w:Wf h)(N:T.Rows h)(F:Good T.A)(E:Good T.B)(zA:∀s∈T.A.aE,s.bG.length<=2000)(zB:∀s∈T.B.aE,s.bG.length<=2000)(x0:T.A.aE.length<=300)(nB:T.B.aE.length<=300){I f t d:Nat}{R:aw}{Q:List gf}(m0:Im R Q I (rW T))(r0:RS h f t d [uP T.A T.B] R Q):cq hI (pq 151) (lU I f t 0) R (fZ hI (pq 87) [] (kU hI (abT h T))):=by
 have x3:Nd T.A T.B (uP T.A T.B):=by
  have a0:=F.oz;have a1:=F.pY;have b0:=E.oz;have b1:=E.pY;exact⟨by grind[uP],by grind[uP]⟩
 have P:T.A.aE.length*T.B.aE.length<=90000:=dC x0 nB;refine AY T.arg I f t (λX i g=>∃b L,RS h f t d b g L/\Im g L I (rW T)/\Uy T.A T.B i b/\i<=b.length/\X=T.A.aE.length*T.B.aE.length-i) _ (λX i=>?_) (T.A.aE.length*T.B.aE.length) (i:=0) ⟨_,Q,r0,m0,⟨by simp,rfl,λk u=>by grind,λk u=>by rw[aX.1 u];exact⟨[],.nil _⟩,λj k K=>absurd K (dH _)⟩,cr _,rfl⟩;intros;rename_i g A;obtain⟨b,L,rs,m1,p,x4,rfl⟩:=A;have x2:=zr p.nd p.lt;obtain⟨o,v,G,D,rfl⟩:=rs;obtain⟨a,c,Y⟩:=D.rM;rw[aG]at Y;subst Y;refine⟨_,_,_,da D3 KX (o.get 0 rfl) (by simp),ay (λq=>?_) (λq=>?_)⟩
 ·have q:=dT q;have hi:i<b.length:=by omega
  obtain⟨k,u⟩:∃k,b[i]?=aa k:=⟨_,gE hi⟩
  obtain⟨C,c2⟩:=o.grow ((Ok.refl o.ok.wf).room 7);have m2:=c2 _ _ m1;generalize Go.Ab.room g 7=H at*;obtain⟨kk,oo,d1,V,_⟩:=(D.rd C (i:=2) rfl).at_ D3 Jr acU Zk (ik:= an) (i:=(i:Int)) (by omega) (by grind);have e4:(b.map kV).getD (i:Int).toNat []=kV k:=by
   rw[bn,gD,getElem?_map,u];rfl
  rw[e4]at V;have A:=p.lt k (aI u);have Z:=p.step F E u;refine⟨_,rW.all m2.1,_,_,_,da D3 KX (C.get 0 rfl) (by simp),_,d1,_,V,?_⟩;refine(D7 w N F E zA zB (h:=H) (L:=Y5 f t d _ b G) A.1 A.2 (fa:=[]) (fc:=[pA t,pA f]) (by rfl) (λl g L=>RS h f t d (Ep b l) g L/\(Ep b l).length<=90000) (λl g L r=>r.1.1) (λl g L U r o=>⟨r.1.grow o,r.2⟩) ⟨⟨C,_,G,D,rfl⟩,by show b.length<=90000;omega⟩ (λx5 x x1 x6 g L r=>?_)).mono ?_
  ·refine(Yc w r.1 (by omega) x.1 x.2).mono ?_;rintro _ U ⟨rfl,M,r',O⟩;refine⟨rfl,M,⟨by grind[V3],?_⟩,O⟩;refine bK (zr (My p.nd) λy hy=>?_) P;rcases vM.1 hy with h1|⟨z,hz,rfl⟩
   ·exact p.lt y h1
   ·refine Cj F E A (mG.1 ?_) (m:=z.1)
    grind
  ·rintro _ U ⟨rfl,M,⟨r',_⟩,O⟩;refine⟨rfl,?_⟩;rw[cL (n:=b.length) hi (by omega)];refine fG (T.A.aE.length*T.B.aE.length-(i+1)) (by omega) ⟨_,M,r',O _ _ m2,Z,?_,rfl⟩;have K:=CG (l:=jF T.A T.B k) u
   grind
 ·have q:=dF q;have x7:i=b.length:=by omega
  obtain⟨C,c2⟩:=o.grow ((Ok.refl o.ok.wf).room 4);generalize Go.Ab.room g 4=H at*;obtain⟨J,c3⟩:=C.uR w 0 rfl (.cells [ae a b.length c] 162 0 af);refine⟨_,_,_,da D3 KX (C.get 0 rfl) (by simp),.map (aa d),da vS yT (C.get 1 rfl) (by simp),_,eu T2 (C.get 0 rfl) (by simp) (dD ..) (by rfl),?_⟩;change OL h ((dJ.set f (.cells (([ae a b.length c]:List ah).set 0 (ae a b.length c)) 162 0 af)).app H) (Y5 f t d (ae a b.length c) b G)at J;generalize (dJ.set f (.cells (([ae a b.length c]:List ah).set 0 (ae a b.length c)) 162 0 af)).app H=g3 at*;obtain⟨B,c4⟩:=J.uR w 1 rfl (.cells [.map (aa d)] 163 0 af);refine⟨_,eu T3 (J.get 1 rfl) (by simp) rfl rfl,⟨da vS yT (J.get 1 rfl) (by simp),by simp[iz]⟩,?_⟩;change OL h ((dJ.set t (.cells (([.map (aa d)]:List ah).set 0 (.map (aa d))) 163 0 af)).app g3) (Y5 f t d (ae a b.length c) b G)at B;generalize (dJ.set t (.cells (([.map (aa d)]:List ah).set 0 (.map (aa d))) 163 0 af)).app g3=g4 at*;refine ad1 (da D3 KX (B.get 0 rfl) (by simp)) (da vS yT (B.get 1 rfl) (by simp)) ⟨b,a,b.length,c,d,rfl,⟨p.nd,p.hd,p.lt,p.rc,λk u m k' hs=>?_⟩,D.own B (i:=2) rfl,B.get 3 rfl,?_,?_,B.ok⟩
  ·obtain⟨j,K⟩:=List.getElem?_of_mem u;exact p.cl j k (by grind) K m k' hs
  ·exact B.lo d (by unfold keys Y5;simp)
  ·intro e;have S:=D.blk;rw[e]at S;have W:=B.nd;unfold keys Y5 at W;simp only[fg,flatten_nil,bU,List.map_cons,List.map_nil,cF,S]at W
   grind
theorem Qy(w:Wf h)(m:T.Rows h)(M:Good T.A)(H:Good T.B)(P:∀s∈T.A.aE,s.bG.length<=2000)(S:∀s∈T.B.aE,s.bG.length<=2000)(L:T.A.aE.length<=300)(U:T.B.aE.length<=300):aW 105 [aq ⟨T.arg⟩] h (abT h T):=by
 refine Qx T.arg h _ ⟨_,O8 T,_,aiK,_,aiL,?_⟩;have G:=(Ok.refl w).push (rW T);have j:=cC h (rW T);have Z:(h.push (rW T)).ax=h.ax+1:=rfl;generalize h.push (rW T)=g at*;have E:=(Ok.refl G.wf).push (.cells [nA] 162 0 af);have v:=cC g (.cells [nA] 162 0 af);have j:=E.ext _ _ j;have n2:(g.push (.cells [nA] 162 0 af)).ax=g.ax+1:=rfl;generalize g.push (.cells [nA] 162 0 af)=f at*;have q:=(Ok.refl E.wf).push (.cells [.map none] 163 0 af);have D:=cC f (.cells [.map none] 163 0 af);have j:=q.ext _ _ j;have v:=q.ext _ _ v;have Y:(f.push (.cells [.map none] 163 0 af)).ax=f.ax+1:=rfl;generalize f.push (.cells [.map none] 163 0 af)=b at*;have X:=M.oz;have eb:=H.oz;have Q:([aA T.A.start,aA T.B.start]:List ah)=kV (uP T.A T.B):=VO (by omega) (by omega);refine⟨_,M1 _,_,nV _,_,rW.a1 j,_,Il _,_,ahj _,_,rW.b1 j,_,MF _ _,_,Zl,?_⟩;rw[Q];have R:=(Ok.refl q.wf).push uL;have b4:=cC b uL;have n4:(b.push uL).ax=b.ax+1:=rfl;have y:Ok b ((dJ.set b.ax (iM (uP T.A T.B))).app (b.push uL)):=R.set _ (aS _) (by omega) q.wf;have V:((dJ.set b.ax (iM (uP T.A T.B))).app (b.push uL)).get b.ax=aa (iM (uP T.A T.B)):=by
  show((b.push uL).set _ _).get _=_;rw[aw.bZ,iP rfl]
 have W:((dJ.set b.ax (iM (uP T.A T.B))).app (b.push uL)).ax=b.ax+1:=rfl;refine⟨_,abA _ b,?_⟩;have j:=y.ext _ _ j;have v:=y.ext _ _ v;have D:=y.ext _ _ D;have A:=((G.trans E).trans q).trans y;generalize (dJ.set b.ax (iM (uP T.A T.B))).app (b.push uL)=i at*;refine .inr ⟨by kernel_rfl,?_⟩;have l:hI.nm=33:=by kernel_rfl
 obtain⟨a,u,l',d,z,nx,C⟩:=afb (tm:=uN [(aq ⟨T.arg⟩),(pA (h.ax)),(pA (g.ax)),(pA (f.ax)),(pA (b.ax)),undef,(pA h.ax),(cn h.ax 1),(aA T.A.start),(cn h.ax 4),(cn h.ax 5),(aA T.B.start),(aq ⟨kV (uP T.A T.B)⟩)] 20) (h:=i) (x:=uP T.A T.B) rfl rfl rfl rfl (λt=>by
  have K:∀n,iz 4 ((aH n undef:List ah).getD t undef) ((aH n undef:List ah).getD t undef)=af:=λn=>by
   rw[gD,getElem?_replicate];split<;>rfl
  match t with
  |0=>exact aks m
  |1=>simp[iz]
  |2=>simp[iz]
  |3=>simp[iz]
  |4=>simp[iz]
  |5=>rfl
  |6=>simp[iz]
  |7=>simp[iz]
  |8=>simp[iz]
  |9=>simp[iz]
  |10=>simp[iz]
  |11=>simp[iz]
  |12=>simp[iz,Fu,kV]
  |t+13=>
   show iz 4 ((aH 20 undef:List ah).getD t undef) ((aH 20 undef:List ah).getD t undef)=af;rw[gD,getElem?_replicate];split<;>rfl) V v D (by omega) (by omega) (by omega) (by omega) (by omega) (by omega)
 have o:∀k,k<h.ax+1->∀B,i.get k=aa B->u.get k=aa B:=λk c B N=>by
  rw[C];unfold hT;rw[iN (λe=>by omega),iN (λe=>by omega),iN (λe=>by omega),iN (λe=>by omega)];exact N
 have I:Ok h u:=⟨λk B c=>by
   rw[C]at c;unfold hT at c;split at c
   ·omega
   split at c
   ·omega
   split at c
   ·omega
   split at c
   ·omega
   ·have:=A.wf _ _ c;omega,λk B c=>o k (by have:=w _ _ c;omega) B (A.ext _ _ c),by omega⟩
 have J:RS h g.ax f.ax (i.ax+2) [uP T.A T.B] u (Y5 g.ax f.ax (i.ax+2) (sA (i.ax+1) 1 1) [uP T.A T.B] [(i.ax+1,.cells (kV (uP T.A T.B)) 105 2 af)]):=by
  refine⟨⟨I,?_,λk c=>?_,λp F=>?_⟩,_,_,?_,rfl⟩
  ·unfold keys Y5;simp only[fg,flatten_nil,bU,List.map_cons,List.map_nil,cF,dQ,dq,nodup_cons,cO,List.not_mem_nil,or_false,not_or,List.nodup_nil,not_false_eq_true,and_true];omega
  ·unfold keys Y5 at c;simp at c;omega
  ·unfold Y5 at F;simp only[fg,flatten_nil,cF,dQ,dq,cO,List.not_mem_nil,or_false]at F;rw[C];unfold hT;rcases F with rfl|rfl|rfl|rfl
   ·rw[iN (λe=>by have:=e.1;dsimp only at this;omega),iN (λe=>by have:=e.1;dsimp only at this;omega),iP ⟨rfl,rfl⟩]
   ·rw[iN (λe=>by have:=e.1;dsimp only at this;omega),iN (λe=>by have:=e.1;dsimp only at this;omega),iN (λe=>by have:=e.1;dsimp only at this;omega),iP ⟨rfl,rfl⟩]
   ·rw[iP ⟨rfl,rfl⟩]
   ·rw[iN (λe=>by have:=e.1;dsimp only at this;omega),iP ⟨rfl,rfl⟩];rfl
  ·exact kK.made (rs:=[kV (uP T.A T.B)]) (λr K=>by rw[aX.1 K];rfl) (by rw[bw];decide)
 have O:Im u (Y5 g.ax f.ax (i.ax+2) (sA (i.ax+1) 1 1) [uP T.A T.B] [(i.ax+1,.cells (kV (uP T.A T.B)) 105 2 af)]) h.ax (rW T):=⟨o _ (eD _) _ j,λc=>by
  unfold keys Y5 at c;simp at c;omega⟩
 have lp:=Kp w m M H P S L U O J;refine⟨a,u,by rw[l];exact l',by rw[l,aaZ (n:=33) rfl];exact d,a,by rw[l];exact l',rfl,?_⟩;have e:a=[fr a 0,fr a 1,fr a 2,fr a 3,fr a 4,fr a 5,fr a 6,fr a 7,fr a 8,fr a 9,fr a 10,fr a 11,fr a 12,fr a 13,fr a 14,fr a 15,fr a 16,fr a 17,fr a 18,fr a 19,fr a 20,fr a 21,fr a 22,fr a 23,fr a 24,fr a 25,fr a 26,fr a 27,fr a 28,fr a 29,fr a 30,fr a 31,fr a 32]:=(aaZ l').symm;rw[show fr a 1=pA h.ax from z 1 (by omega),show fr a 2=pA g.ax from z 2 (by omega),show fr a 3=pA f.ax from z 3 (by omega),show fr a 4=pA b.ax from z 4 (by omega)]at e
 grind[GF]
end
end
noncomputable def eV:FD:=gT Tryz.f106 [((pq 151),[1,3,5,7,8,23,24,25]),((pq 607),[1,3,5,7,8,11,40,41,42]),((pq 575),[1,3,5,7,8,11]),((pq 80447),[1,3,5,7,8,11,14,71,72,73])]
abbrev od(a:OA)(n c f d e b:Nat)(i:Nat):LV:=[(ae a n c),(pA f),(pA d),(pA e),(pA b),(ae a n c),(iA n),(iA i)]
abbrev lV(a:OA)(n c g e f d b:Nat)(i:Nat):LV:=[(ae a n c),(pA g),(pA e),(pA f),(pA d),(pA b),(ae a n c),(iA n),(iA i)]
abbrev lW(a:OA)(n c g e f d b:Nat)(z:Unit):LV:=[(ae a n c),(pA g),(pA e),(pA f),(pA d),(pA b)]
abbrev oe(a:OA)(n c k h i g e f:Nat)(b:OA)(m d:Nat)(j:Nat):LV:=[(ae a n c),(pA k),(pA h),(pA i),(pA g),(pA e),(pA f),(ae b m d),(iA m),(iA j)]
theorem XI(a:OA)(n c:Nat)(o:LV)(l:Nat)(h:aw)(Q:VH)(r:xN (iF au 66 (aq ⟨o⟩)) h λx j=>xN (iF au 163 (.map (aa l))) j λz k=>xR (cK au 166 (iA n) (iA n)) k λA s q g=>xN (cD au 166) g λy f=>xU (aQ au 166 (pA (g.ax)) (sA (k.ax) s q) f) f λu d=>xR (cK au 126 (iA n) (iA n)) d λt i p b=>xN (cD au 126) b λw e=>xU (aQ au 126 (pA (b.ax)) (sA (d.ax) i p) e) e λv m=>cq eV (pq 151) (od a n c (h.ax) (j.ax) (g.ax) (b.ax) 0) m (ez eV (pq 87) Q)):aW 106 [(aq ⟨o⟩),(ae a n c),(.map (aa l))] h Q:=gZ eV Tryz.func106 (bF r)
theorem Dx(a:OA)(n c:Nat)(M:LV)(L:Nat)(j g m d:Nat)(e:Nat->Nat->aw->Prop)(Q:VH)(step:∀(b:Nat) (i:Nat) (A:Nat->ah) (h:aw),e b i h->cp (decide ((i:Int)<(n:Int))) (qX xA 162 (ae a n c) (iA i) 105 h λs=>xN (cD au 3) h λJ k=>xN (cD au 105) k λK p=>xU (aQ au 3 (pA (h.ax)) (iA i) p) p λI o=>xU (aQ au 105 (pA (k.ax)) (aq ⟨s⟩) o) o λG l=>xA (aM au 66 l (pA j)) λw=>xA (aM au 105 l (pA (k.ax))) λy=>aW 111 [(aq ⟨w⟩),(aq ⟨y⟩),(aN (.func 145) ⟨[]⟩ ⟨[(pA d),(pA g),(pA (h.ax))]⟩)] l λx f=>x=(av ⟨[]⟩)/\xL (aM au 126 f (pA d)) λt r z=>xI an (aM au 3 f (pA (h.ax))) λE=>qX xL 126 (ae t r z) (aA E) 27 f λC D B=>aW 146 [(ae C D B)] f λF u=>F=(av ⟨[]⟩)/\cB (mw (od a n c j g m d) e) b [(ae a n c),(pA j),(pA g),(pA m),(pA d),(ae a n c),(iA n),(aA (aj an ((i:Int)+1)))] u) (xN (cD au 27) h λH v=>cq eV (pq 607) (lV a n c j g m d (h.ax) 0) v (ez eV (pq 351) Q)))(b:Nat){i:Nat}{h:aw}(q:e b i h):cq eV (pq 151) (od a n c j g m d i) h (ez eV (pq 87) Q):=
 gP (od a n c j g m d) e (λb i A h q=>bF (step b i A h q)) b q
theorem Dy(a:OA)(n c:Nat)(X:LV)(W:Nat)(g k f j:Nat)(b:Nat)(e:Nat->Nat->aw->Prop)(Q:VH)(step:∀(d:Nat) (i:Nat) (F:Nat->ah) (h:aw),e d i h->cp (decide ((i:Int)<(n:Int))) (qX xA 162 (ae a n c) (iA i) 105 h λC=>xN (cD au 105) h λP r=>xU (aQ au 105 (pA (h.ax)) (aq ⟨C⟩) r) r λT m=>xA (aM au 66 m (pA g)) λH=>xA (aM au 105 m (pA (h.ax))) λK=>aW 109 [(aq ⟨H⟩),(aq ⟨K⟩)] m λJ l=>yB J λz=>cp z (xL (aM au 166 l (pA f)) λu v M=>xA (cI au 170 []) λA=>xN (iF au 170 (aq ⟨A⟩)) l λS q=>xP (aZ au 166 (ae u v M) (iA i)) λD=>xU (aQ au 168 (bN D) (pA (l.ax)) q) q λO o=>xL (aM au 27 o (pA b)) λL I x=>xR (bC au 27 1 [(0,(iA i))]) o λR w B p=>xE (bY au 27 27 (ae L I x) (sA (o.ax) w B) p) p λy G E U s=>xU (aQ au 27 (pA b) (ae y G E) s) s λV N=>cB (mw (lV a n c g k f j b) e) d [(ae a n c),(pA g),(pA k),(pA f),(pA j),(pA b),(ae a n c),(iA n),(aA (aj an ((i:Int)+1)))] N) (cB (mw (lV a n c g k f j b) e) d [(ae a n c),(pA g),(pA k),(pA f),(pA j),(pA b),(ae a n c),(iA n),(aA (aj an ((i:Int)+1)))] l)) (cq eV (pq 575) [(ae a n c),(pA g),(pA k),(pA f),(pA j),(pA b)] h (ez eV (pq 319) Q)))(d:Nat){i:Nat}{h:aw}(t:e d i h):cq eV (pq 607) (lV a n c g k f j b i) h (ez eV (pq 351) Q):=
 gP (lV a n c g k f j b) e (λd i F h t=>bF (step d i F h t)) d t
theorem Dz(a:OA)(n c:Nat)(T:LV)(S:Nat)(l k j i:Nat)(b:Nat)(e:Nat->Unit->aw->Prop)(Q:VH)(step:∀(d:Nat) (z:Unit) (H:Nat->ah) (h:aw),e d z h->xL (aM au 27 h (pA b)) λP D O=>cp (decide ((D:Int)>0)) (xL (aM au 27 h (pA b)) λA F G=>vX 27 (ae A F G) (aA 0) h λE=>xN (cD au 3) h λM m=>xU (aQ au 3 (pA (h.ax)) (aA E) m) m λN g=>xL (aM au 27 g (pA b)) λC L B=>xL (cY au 27 (ae C L B) (aa (aA 1)) none none g) λK J I=>xU (aQ au 27 (pA b) (ae K J I) g) g λR f=>xL (aM au 126 f (pA i)) λy u x=>xI an (aM au 3 f (pA (h.ax))) λp=>qX xL 126 (ae y u x) (aA p) 27 f λo w q=>cq eV (pq 80447) (oe a n c l k j i b (h.ax) o w q 0) f (fZ eV (pq 93) (pq 575) (RR eV (pq 575) (mw (lW a n c l k j i b) e) d (ez eV (pq 319) Q)))) (xL (aM au 166 h (pA j)) λt s r=>Q (ae t s r) h))(d:Nat){z:Unit}{h:aw}(v:e d z h):cq eV (pq 575) (lW a n c l k j i b z) h (ez eV (pq 319) Q):=
 gP (lW a n c l k j i b) e (λd z H h v=>bF (step d z H h v)) d v
theorem DA(a:OA)(n c:Nat)(M:LV)(L:Nat)(p o k q:Nat)(f i:Nat)(b:OA)(m d:Nat)(s:Nat->Unit->aw->Prop)(t:Nat)(z:Unit)(l:Nat->Nat->aw->Prop)(Q:VH)(step:∀(g:Nat) (j:Nat) (I:Nat->ah) (h:aw),l g j h->cp (decide ((j:Int)<(m:Int))) (vX 27 (ae b m d) (iA j) h λF=>xN (cD au 3) h λJ r=>xU (aQ au 3 (pA (h.ax)) (aA F) r) r λK e=>xL (aM au 166 e (pA k)) λH B D=>xI an (aM au 3 e (pA (h.ax))) λG=>qX xO 166 (ae H B D) (aA G) 168 e λu=>xB (cm au .neq 168 (.pointer u) (aT none)) λy=>cp y (cB (mw (oe a n c p o k q f i b m d) l) g [(ae a n c),(pA p),(pA o),(pA k),(pA q),(pA f),(pA i),(ae b m d),(iA m),(aA (aj an ((j:Int)+1)))] e) (xA (aM au 66 (room e 7) (pA p)) λw=>xI an (aM au 3 (room e 7) (pA (h.ax))) λv=>qX xA 162 (ae a n c) (aA v) 105 (room e 7) λx=>aW 111 [(aq ⟨w⟩),(aq ⟨x⟩),(aN (.func 147) ⟨[]⟩ ⟨[(pA o),(pA i),(pA k),(pA (h.ax)),(pA f)]⟩)] (room e 7) λE C=>E=(av ⟨[]⟩)/\cB (mw (oe a n c p o k q f i b m d) l) g [(ae a n c),(pA p),(pA o),(pA k),(pA q),(pA f),(pA i),(ae b m d),(iA m),(aA (aj an ((j:Int)+1)))] C)) (cB (mw (lW a n c p o k q f) s) t [(ae a n c),(pA p),(pA o),(pA k),(pA q),(pA f)] h))(g:Nat){j:Nat}{h:aw}(A:l g j h):cq eV (pq 80447) (oe a n c p o k q f i b m d j) h (fZ eV (pq 93) (pq 575) (RR eV (pq 575) (mw (lW a n c p o k q f) s) t (ez eV (pq 319) Q))):=
 gP (oe a n c p o k q f i b m d) l (λg j I h A=>bF (step g j I h A)) g A
variable{d:List ah}
section
theorem wo{n:Nat}(h:i<n)(a:n<=4611686018427387904):aj an ((i:Int)+1)=((i+1:Nat):Int):=by grind[cj]
theorem aby:SS.pr 146=aa Jk:=by rfl
theorem Jt:fD au 27=af:=by rfl
theorem Ph:∀l:List Int,Sd (l.map zV)=aa l
 |[]=>rfl
 |z::l=>by
  show(Sd (l.map zV)).map (z::·)=_;rw[Ph l];rfl
def vk(l:List Nat):List Nat:=(FZ (l.map λx:Nat=>(x:Int))).map Int.toNat
theorem Ci(l:List Nat):(FZ (l.map λx:Nat=>(x:Int))).Perm (l.map λx:Nat=>(x:Int)):=List.mergeSort_perm ..
theorem YI{l:List Nat}{x:Nat}:x∈vk l↔x∈l:=by
 unfold vk
 grind[Ci]
theorem we(l:List Nat):(vk l).length=l.length:=by
 unfold vk;rw[aG,(Ci l).length_eq,aG]
theorem acn(l:List Nat):(vk l).map iv=(FZ (l.map λx:Nat=>(x:Int))).map zV:=by
 unfold vk;rw[map_map];refine kc λz a=>?_;obtain⟨y,b,rfl⟩:=dZ.1 ((Ci l).mem_iff.1 a);rfl
theorem TR{h0 g:aw}{L:List gf}{l:List Nat}{G:gf}(z:Wf h0)(r:iq 3 v (l.map iv) G)(o:OL h0 g L){i:Nat}(m:L[i]?=aa G)(J:l.length<=4611686018427387903):aW 146 [v] g (λx d=>x=av ⟨[]⟩/\∃q,iq 3 v ((vk l).map iv) q/\OL h0 d (L.set i q)/\ng g L d (L.set i q)):=by
 obtain⟨I,⟨rfl,B,rfl⟩|⟨k,a,cs,c,rfl,rfl,n,C,y⟩⟩:=r
 ·have f:l=[]:=by simpa[yx]using B
  subst f;refine Ao (h':=g) (v:= av ⟨[]⟩) (by rfl) aby (λu=>?_) ⟨rfl,[],?_,?_⟩
  ·rfl
  ·grind[we,iq.nil]
  ·exact o.ab1 m o.ok (λp F=>by grind) (by simp) (λk w=>by grind) (λ_ _ h _=>h)
 ·rw[ja,aG]at n y;rw[rH,df]at n;rw[df]at C;have w:=o.get i m;have b:(yx (l.map iv)).length=l.length:=by rw[ja,aG]
  have e:(yx ((vk l).map iv)).length=l.length:=by rw[ja,aG,we]
  have s:l.map iv=(l.map λx:Nat=>(x:Int)).map zV:=by rw[map_map];rfl
  have K:((vk l).map iv).length=l.length:=by rw[aG,we]
  obtain⟨E,D⟩:=o.uR z i m (.cells (cs.take a++(vk l).map iv++cs.drop (a+l.length)) 3 1 af);by_cases h0:l.length=0
  ·have f:l=[]:=aY h0;subst f;refine Ao (h':=g) (v:= av ⟨[]⟩) (by rfl) aby (λu=>?_) ⟨rfl,[(k,.cells cs 3 1 af)],?_,?_⟩
   ·rfl
   ·have:vk []=[]:=aY (we []);rw[this];exact⟨Dv,.inr ⟨k,a,cs,c,rfl,rfl,by rfl,by omega,cr _⟩⟩
   ·exact o.ab1 m o.ok (λp F=>by grind) (by simp) (λj H=> .inl H) (λ_ _ h _=>h)
  ·refine Ao (h':=(dJ.set k (.cells (cs.take a++(vk l).map iv++cs.drop (a+l.length)) 3 1 af)).app g) (v:= av ⟨[]⟩) (by kernel_rfl) aby (λu=>?_) ⟨rfl,_,⟨Dv,.inr ⟨k,a,_,c,by rw[b,e],rfl,?_,?_,by rw[e];exact y⟩⟩,E,D⟩
   ·rw[b];show(if l.length=0 then aa (av ⟨[]⟩,g)else match g.get k with
     |some (.cells cs t A af)=>if l.length<4611686018427387904/\a+l.length<=cs.length then(Sd ((cs.drop a).take l.length)).map λl'=>(av ⟨[]⟩,g.set k (.cells (cs.take a++(FZ l').map zV++cs.drop (a+l.length)) t A af))else none
     |_=>none)=_
    rw[iN h0,w];dsimp only;rw[iP (⟨by omega,by omega⟩:l.length<4611686018427387904/\a+l.length<=cs.length),n,s,Ph,acn];rfl
   ·rw[e,df,rH,cE,List.drop_append,cU (by rw[bo];omega),dq,show a-(cs.take a).length=0 by rw[bo];omega,bV,List.take_append_of_le_length (by omega),bm (by omega)]
   grind
def bkL(ko kb n:Nat)(a:List ah)(b:List gf):List gf:=[(ko,.cells (aH n (aT none)) 168 1 af)]::[(kb,.cells a 27 1 af)]::b
structure BkR(n:Nat)(bs:List (List Nat))(vs:List ah)(Gs:List gf):Prop where
 lv:vs.length=n
 lg:Gs.length=n
 lb:bs.length=n
 row:∀(j:Nat)(v:ah)(b:List Nat)(G:gf),vs[j]?=aa v->bs[j]?=aa b->Gs[j]?=aa G->iq 3 v (b.map iv) G
theorem BkR.at_{n:Nat}{e:List (List Nat)}{f:List gf}(r:BkR n e d f){t:Nat}(g:t<n):∃b a c G,d[t]?=aa (ae a b.length c)/\e[t]?=aa b/\f[t]?=aa G/\iq 3 (ae a b.length c) (b.map iv) G:=by
 have j:=gE (l:=d) (i:=t) (by rw[r.lv];exact g);have k:=gE (l:=e) (i:=t) (by rw[r.lb];exact g);have h:=gE (l:=f) (i:=t) (by rw[r.lg];exact g);have m:=r.row t _ _ _ j k h;obtain⟨a,c,o⟩:=m.rM
 grind
theorem BkR.set{n:Nat}{g:List (List Nat)}{i:List gf}(r:BkR n g c i)(t:Nat){v:ah}{b:List Nat}{G:gf}(h:iq 3 v (b.map iv) G):BkR n (g.set t b) (c.set t v) (i.set t G):=by
 refine⟨by rw[bT];exact r.lv,by rw[bT];exact r.lg,by rw[bT];exact r.lb,λj l k m d f a=>?_⟩;rw[getElem?_set]at d f a;by_cases e:t=j
 ·grind
 ·rw[iN e]at d f a;exact r.row j _ _ _ d f a
def BS(h0:aw)(ko kb n:Nat)(c:List (List Nat))(g:aw)(L:List gf):Prop:=OL h0 g L/\∃a b,BkR n c a b/\L=bkL ko kb n a b
structure Still(k3 k5 k8 km:Nat)(T:kI)(ord:List NN)(kb n:Nat)(g:aw)(L:List gf):Prop where
 m3:Im g L k3 (rW T)
 m5:Im g L k5 (.cells [.map (aa km)] 163 0 af)
 m8:Im g L k8 (.cells [sA kb n n] 126 0 af)
 mm:Im g L km (.map (qC ord 0))
section
variable {h0:aw} {T:kI} {ord:List NN} {k3 k5 k8 km ko kb n:Nat} {g:aw} {L:List gf}
theorem Still.fN{a:List gf}(s:Still k3 k5 k8 km T ord kb n g L)(c:ng g L h a):Still k3 k5 k8 km T ord kb n h a:=⟨c _ _ s.m3,c _ _ s.m5,c _ _ s.m8,c _ _ s.mm⟩
def J4(ord:List NN)(i:Nat)(a:List (List Nat))(x:Mv×NN):List (List Nat):=match uM ord x.2 with
 |some t=>a.set t (a.getD t []++[i])
 |none=>a
theorem YA(H:Wf h0){q:List (List Nat)}(hr:BS h0 ko kb n q g L)(S:Still k3 k5 k8 km T ord kb n g L){A i:Nat}(mi:Im g L A (.cells [iA i] 3 0 af)){x:NN}{t:Nat}(ht:uM ord x=aa t)(f:t<n)(Y:∀b∈q,b.length<=500000000000)(m:Mv):
  aW 145 [aq ⟨Bj m⟩,aq ⟨kV x⟩,pA k8,pA k5,pA A] g (λv e=>v=av ⟨[]⟩/\∃F,BS h0 ko kb n (J4 ord i q (m,x)) e F/\ng g L e F):=by
 refine S7 (Bj m) (kV x) k8 k5 A g _ ⟨_,HL m,_,Ex x,?_⟩;obtain⟨o,k,V,O,rfl⟩:=hr;obtain⟨s,c1⟩:=o.grow ((Ok.refl o.ok.wf).push (pK m));generalize g.push (pK m)=g1 at*;have b:=s.oT (iM x);obtain⟨C,c2⟩:=s.grow ((Ok.refl s.ok.wf).push (iM x));have c:=c1.trans c2;generalize g1.push (iM x)=w at*;obtain⟨o3,B⟩:=C.grow ((Ok.refl C.ok.wf).room 15);have d:=S.fN (c.trans B);have K:=B _ _ b;have N:=(c.trans B) _ _ mi;have E:∀{e:aw},e.get km=aa (.map (qC ord 0))->uY au 163 (.map (aa km)) (aq ⟨kV x⟩) ak e=aa (aA (t:Int)):=λh=>by
  have:=(G0 h x).2
  grind
 obtain⟨l,a,cc,G,Z,U,e3,W⟩:=O.at_ f;have R:k.getD t undef=ae a l.length cc:=by rw[gD,Z];rfl
 have I:aM au 27 (Go.Ab.room w 15) (cn kb t)=aa (ae a l.length cc):=by rw[da fs lF (o3.get 1 rfl) (by grind),R]
 refine⟨_,_,_,d.m8.ld qg vN,.map (aa km),d.m5.ld vS yT,_,iM.all K.1,_,E d.mm.1,_,_,_,d.m8.ld qg vN,.map (aa km),d.m5.ld vS yT,_,iM.all K.1,_,E d.mm.1,_,sy qg jR f,_,_,_,I,_,N.ld rk ri,_,_,_,qi _,?_⟩;obtain⟨o4,z,m4⟩:=C.SD (n:=15) (j:=11) (by omega) (.cells [aA (i:Int)] 3 1 af);have s4:=S.fN (c.trans z);have b4:=z _ _ b;generalize bS (Go.Ab.room w 15) w.ax [(11,.cells [aA (i:Int)] 3 1 af)]=g4 at*;have x0:=Y l (aI U);obtain⟨Q,P,J,u,p1,p2,X,r,p,D⟩:=W.snoc fs rJ lZ Jt H o4 (j:=t+2) (by exact e3) (x:= aA (i:Int)) rfl m4.1 (by grind[jV]) (by grind);refine⟨_,_,_,_,p1,?_⟩;have y:=s4.fN D;have b5:=D _ _ b4;generalize u.app g4=g5 at*;have p:OL h0 g5 (bkL ko kb n k (V.set t X)):=p;obtain⟨o6,c6⟩:=p.uR H 1 rfl (.cells (k.set t (ae Q P J)) 27 1 af);refine⟨_,sy qg jR f,_,eu jR (p.get 1 rfl) (by grind) (dD ..) (by rfl),⟨y.m8.ld qg vN,by simp[iz]⟩,⟨y.m5.ld vS yT,by simp[iz]⟩,⟨iM.all b5.1,by simp[iz,Fu,kV]⟩,⟨E y.mm.1,by simp[iz]⟩,rfl,_,⟨o6,k.set t (ae Q P J),V.set t X,?_,rfl⟩,(c.trans z).trans (D.trans c6)⟩;unfold J4;rw[show uM ord (m,x).2=aa t from ht];dsimp only;have M:q.getD t []=l:=by rw[gD,U];rfl
 rw[M];exact O.set t (by rw[bU];exact r)
end
def Cu(ord:List NN)(W:Nat->(Mv×NN)->Prop)(c:List (List Nat)):Prop:=∀t b,c[t]?=aa b->∀a,a∈b↔ ∃x,W a x/\uM ord x.2=aa t
theorem Cu.add{ord:List NN}{W:Nat->(Mv×NN)->Prop}{f:List (List Nat)}(h:Cu ord W f)(i:Nat)(x:Mv×NN):Cu ord (λa y=>W a y\/(a=i/\y=x)) (J4 ord i f x):=by
 intro t b c a;unfold J4 at c
 cases j:uM ord x.2 with
 |none=>
  rw[j]at c;rw[h t b c a]
  grind
 | some s=>
  rw[j]at c;dsimp only at c;rw[getElem?_set]at c;by_cases e:s=t
  ·subst e;rw[iP rfl]at c;split at c
   ·next g=>
    obtain rfl:=aC c;have h0:=h s _ (gE g) a;have l:f.getD s []=f[s]:=by rw[gD,gE g];rfl
    rw[l,bH,h0,aX];constructor
    ·rintro(⟨y,d,k⟩|rfl)
     ·exact⟨y,.inl d,k⟩
     ·exact⟨x,.inr ⟨rfl,rfl⟩,j⟩
    ·rintro⟨y,d|⟨d,_⟩,k⟩
     ·exact .inl ⟨y,d,k⟩
     ·exact .inr d
   grind
  ·rw[iN e]at c;rw[h t b c a]
   grind
theorem Cu.congr{ord:List NN}{W c:Nat->(Mv×NN)->Prop}{d:List (List Nat)}(h:Cu ord W d)(e:∀a x,W a x↔c a x):Cu ord c d:=λt b f a=>by
 rw[h t b f a]
 grind
theorem Cu.sort{ord:List NN}{W:Nat->(Mv×NN)->Prop}{d:List (List Nat)}(h:Cu ord W d){i:Nat}{b:List Nat}(g:d[i]?=aa b):Cu ord W (d.set i (vk b)):=by
 intro t f c a;rw[getElem?_set]at c;by_cases e:i=t
 ·subst e;rw[iP rfl]at c;split at c
  ·obtain rfl:=aC c;rw[YI];exact h i b g a
  grind
 ·rw[iN e]at c;exact h t f c a
theorem Zh{ord:List NN}{a:List (List Nat)}{x:Mv×NN}(h:∀b∈a,b.length<=m):∀b∈J4 ord i a x,b.length<=m+1:=by
 intro b c;unfold J4 at c
 grind
theorem Xa{a:iu}{q:Nat}{b:List iu}(h:b.length<=2000):(nF a q b).length<=2000:=by grind[nF]
theorem vP{b c:Type}{f:b->List c}{N:Nat}(h:∀a,(f a).length<=N):∀l:List b,(l.flatMap f).length<=l.length*N
 |[]=>by simp
 |a::l=>by
  rw[List.flatMap_cons,bg,bP,cM,dw];have:=h a;have:=vP h l;omega
theorem TY{B:cG}(i:∀s∈M.aE,s.bG.length<=2000)(d:∀s∈B.aE,s.bG.length<=2000){k:NN}(b:Nd M B k):(jF M B k).length<=4002000:=by
 obtain⟨s,_,c,_,h⟩:=nj b.1;obtain⟨t,_,e,_,g⟩:=nj b.2;unfold jF;rw[c,e,bg];have j:=vP (f:=λa=>nF a k.2 t.bG) (λa=>Xa (d t g)) s.bG
 grind
end
variable{x:List Nat}{l:Nat}
section
def yz(m:Mv)(p:Option aF):eE:= .cells (Bj m++[.pointer p]) 170 0 af
inductive Ht(I:Nat->eE->Prop):Nat->List Mv->Prop
 |nil {k:Nat} (m:Mv) (h:I k (yz m none)):Ht I k []
 |cons {k k':Nat} {m:Mv} {ms:List Mv} (h:I k (yz m (aa ⟨k',0,none⟩))) (r:Ht I k' ms):Ht I k (m::ms)
theorem Ht.mono{I I':Nat->eE->Prop}(b:∀k B,I k B->I' k B){k:Nat}{a:List Mv}(r:Ht I k a):Ht I' k a:=by
 induction r with
 |nil m h=>exact .nil m (b _ _ h)
 |cons h _ c=>exact .cons (b _ _ h) c
def Kq(o:Option Nat):ah:= .pointer (o.map λk=>⟨k,0,none⟩)
def GY(a:List (Option Nat))(j:Nat):Prop:=∃k:Nat,a[j]?=aa (aa k)
def gr{b:Type}(a:List (Option b)):Nat:=a.countP Option.isNone
theorem wX{a:List (Option Nat)}(h:GY a j):GY (a.set i (aa k)) j:=by
 obtain⟨b,h⟩:=h;unfold GY
 grind
theorem Dc{a:List (Option Nat)}(h:i<a.length):GY (a.set i (aa k)) i:=⟨k,by grind⟩
theorem U7{a:List (Option Nat)}(h:GY (a.set i (aa k)) j):j=i\/GY a j:=by
 obtain⟨b,h⟩:=h;rw[getElem?_set]at h;by_cases e:i=j
 ·omega
 ·rw[iN e]at h;exact .inr ⟨b,h⟩
theorem mW:∀{a:List (Option A)}{i:Nat}(k:A),a[i]?=aa none->gr (a.set i (aa k))+1=gr a
 |[],i,_,h=>by grind
 |o::a,0,k,h=>by simp_all[gr]
 |o::a,i+1,k,h=>by grind[gr]
theorem IP(a:List (Option A)):gr a<=a.length:=List.countP_le_length
theorem IQ{b:Type}:∀(a:List (Option b))(i:Nat)(k:b),gr (a.set i (aa k))<=gr a
 |[],_,_=>aS _
 |o::a,0,k=>by grind[gr]
 |o::a,i+1,k=>by
  have:=IQ a i k
  grind[gr]
def KJ(h g:aw)(L:List gf)(k:Nat)(B:eE):Prop:=Im g L k B/\h.ax<=k
theorem KJ.fN{h g b:aw}{L a:List gf}(c:ng g L b a):∀k B,KJ h g L k B->KJ h b a k B:=λk B m=>⟨c _ _ m.1,m.2⟩
def yf(I:Nat->eE->Prop)(A B:cG)(ord:List NN)(a:List (Option Nat)):Prop:=∀(j k:Nat),a[j]?=aa (aa k)->∃(x:NN)(b:List Mv)(e:NN),ord[j]?=aa x/\Ht I k b/\PR A B x b e/\nN A B e/\(nN A B x->b=[])/\b.length+gr a<=a.length
theorem yf.mono{I I':Nat->eE->Prop}{B:cG}{ord:List NN}{a:List (Option Nat)}(c:∀k B,I k B->I' k B)(o:yf I M B ord a):yf I' M B ord a:=λj k h=>by
 obtain⟨x,b,e,f,g,d⟩:=o j k h;exact⟨x,b,e,f,g.mono c,d⟩
theorem yf.set{I:Nat->eE->Prop}{B:cG}{ord:List NN}{a:List (Option Nat)}(o:yf I M B ord a){i k:Nat}{x e:NN}{b:List Mv}(n:ord[i]?=aa x)(m:Ht I k b)(u:PR M B x b e)(g:nN M B e)(s:nN M B x->b=[])(f:b.length+gr (a.set i (aa k))<=a.length):yf I M B ord (a.set i (aa k)):=λj c h=>by
 rw[getElem?_set]at h;by_cases d:i=j
 ·grind
 ·rw[iN d]at h;obtain⟨x,b,e,p,q,l,r,t,v⟩:=o j c h
  grind[IQ]
def otL(ko pD:Nat)(a:List (Option Nat))(b:ah)(c:gf):List gf:=[[(ko,.cells (a.map Kq) 168 1 af)],[(pD,.cells [b] 27 0 af)],c]
def P2(h:aw)(ko pD:Nat)(a:List (Option Nat))(b:List Nat)(g:aw)(L:List gf):Prop:=OL h g L/\∃c d,iq 3 c (b.map iv) d/\L=otL ko pD a c d
structure BF(k3 k5 k7 k8 km:Nat)(T:kI)(ord:List NN)(ko kb n:Nat)(vs:List ah)(bs:List (List Nat))(g:aw)(L:List gf):Prop where
 st:Still k3 k5 k8 km T ord kb n g L
 m7:Im g L k7 (.cells [sA ko n n] 166 0 af)
 mb:Im g L kb (.cells vs 27 1 af)
 lv:vs.length=n
 lb:bs.length=n
 rows:∀(t:Nat)(v:ah)(b:List Nat),vs[t]?=aa v->bs[t]?=aa b->ua g L 3 v (b.map iv)
theorem pf:au.underlying 166=aa (.slice 168):=by rfl
theorem CH:Go.Ab.isAgg au 166=ak:=by rfl
theorem acy:cd au 166=aa 1:=by rfl
theorem rQ:cd au 168=aa 1:=by rfl
theorem Rr:au.underlying 168=aa (.pointer 170):=by rfl
theorem OX:Go.Ab.isAgg au 168=ak:=by rfl
theorem MQ(a:Option aF):cm au .eql 168 (.pointer a) (aT none)=aa (ai a.isNone):=by cases a<;>kernel_rfl
theorem SW(a:Option aF):cm au .neq 168 (.pointer a) (aT none)=aa (.bool !a.isNone):=by cases a<;>kernel_rfl
theorem agQ(m:Mv)(a:Option aF):cI au 170 [(0,(aq ⟨Bj m⟩)),(1,(.pointer a))]=aa (aq ⟨Bj m++[.pointer a]⟩):=by rfl
theorem ZG(m:Mv)(a:Option aF):iF au 170 (aq ⟨Bj m++[.pointer a]⟩)=aa (yz m a,jL):=by rfl
section
variable {h:aw} {T:kI} {ord:List NN} {k3 k5 k7 k8 km ko kb n pD:Nat} {vs:List ah} {bs:List (List Nat)} {g:aw} {L:List gf}
theorem BF.fN{d:aw}{a:List gf}(s:BF k3 k5 k7 k8 km T ord ko kb n vs bs g L)(c:ng g L d a):BF k3 k5 k7 k8 km T ord ko kb n vs bs d a:=⟨s.st.fN c,c _ _ s.m7,c _ _ s.mb,s.lv,s.lb,λt v b e f=>(s.rows t v b e f).fN c⟩
theorem P2.grow{b:aw}{a:List (Option Nat)}(p:P2 h ko pD a x g L)(o:Ok g b):P2 h ko pD a x b L:=⟨(p.1.grow o).1,p.2⟩
theorem Vs(w:Wf h){a:List (Option Nat)}{b:List Nat}(p:P2 h ko pD a b g L)(q:a.length=n){i kx:Nat}(m:i<n):∃u:dJ,aQ au 168 (cn ko i) (pA kx) g=aa (undef,u)/\∃c,P2 h ko pD (a.set i (aa kx)) b (u.app g) c/\ng g L (u.app g) c:=by
 obtain⟨o,k,l,d,rfl⟩:=p;have e:(a.map Kq).set i (pA kx)=(a.set i (aa kx)).map Kq:=by rw[map_set];rfl
 obtain⟨j,f⟩:=o.uR w 0 rfl (.cells ((a.map Kq).set i (pA kx)) 168 1 af);refine⟨_,eu rQ (o.get 0 rfl) (by grind) rfl rfl,_,⟨j,k,l,d,?_⟩,f⟩;rw[e];rfl
theorem QB(w:Wf h){e:List (Option Nat)}{b:List Nat}(p:P2 h ko pD e b g L)(J:b.length<=100000)(i:Nat):
  ∃(a:Option aF)(m c:Nat),aM au 27 g (pA pD)=aa (ae a m c)/\∃(v:Option aF)(y d:Nat)(u:dJ),bY au 27 27 (ae a m c) (sA g.ax 1 1) (g.push (.cells [aA (i:Int)] 3 1 af))=aa (ae v y d,u)/\∃q:dJ,aQ au 27 (pA pD) (ae v y d) (u.app (g.push (.cells [aA (i:Int)] 3 1 af)))=aa (undef,q)/\∃r,P2 h ko pD e (b++[i]) (q.app (u.app (g.push (.cells [aA (i:Int)] 3 1 af)))) r/\ng g L (q.app (u.app (g.push (.cells [aA (i:Int)] 3 1 af)))) r:=by
 obtain⟨o,K,N,f,rfl⟩:=p;obtain⟨a,c,s⟩:=f.rM;rw[aG]at s;subst s;have B:=cC g (.cells [aA (i:Int)] 3 1 af);obtain⟨D,C⟩:=o.grow ((Ok.refl o.ok.wf).push (.cells [aA (i:Int)] 3 1 af));refine⟨_,_,_,da fs lF (o.get 1 rfl) (by simp),?_⟩;generalize g.push (.cells [aA (i:Int)] 3 1 af)=z at*;obtain⟨n,l,d,u,F,I,H,k,t,G⟩:=f.snoc fs rJ lZ Jt w D (j:=2) rfl (x:= aA (i:Int)) rfl B (by grind[jV]) (by grind);refine⟨n,l,d,u,F,?_⟩;generalize u.app z=M at*;obtain⟨A,E⟩:=t.uR w 1 rfl (.cells [ae n l d] 27 0 af);refine⟨_,eu jR (t.get 1 rfl) (by simp) (dD ..) (by rfl),_,⟨A,ae n l d,H,?_,rfl⟩,C.trans (G.trans E)⟩;rw[bU];exact k
def VI(h:aw)(T:kI)(ord:List NN)(k3 k5 k7 k8 km ko kb n pD d c:Nat)(vs:List ah)(bs:List (List Nat))(a:List (Option Nat))(b:List Nat)(e i:Nat)(f:List (Mv×NN))(g:aw)(L:List gf):Prop:=
 BF k3 k5 k7 k8 km T ord ko kb n vs bs g L/\Im g L d (.cells [iA e] 3 0 af)/\Im g L c (.cells [iA i] 3 0 af)/\
  (((∀x∈f,uM ord x.2≠aa e)/\P2 h ko pD a b g L/\yf (KJ h g L) T.A T.B ord a)\/
   ∃k,P2 h ko pD (a.set i (aa k)) (b++[i]) g L/\yf (KJ h g L) T.A T.B ord (a.set i (aa k)))
theorem VI.grow{e:List (Option Nat)}{f:List (Mv×NN)}{q:aw}(v:VI h T ord k3 k5 k7 k8 km ko kb n pD m j vs bs e x l i f g L)(o:Ok g q):VI h T ord k3 k5 k7 k8 km ko kb n pD m j vs bs e x l i f q L:=by
 obtain⟨a,b,c,d⟩:=v;have ch:ng g L q L:=by
  rcases d with⟨_,p,_⟩|⟨_,p,_⟩<;>exact(p.1.grow o).2
 refine⟨a.fN ch,ch _ _ b,ch _ _ c,?_⟩;rcases d with⟨s,p,r⟩|⟨k,p,r⟩
 ·exact .inl ⟨s,p.grow o,r.mono (KJ.fN ch)⟩
 ·exact .inr ⟨k,p.grow o,r.mono (KJ.fN ch)⟩
theorem VI.ol{a:List (Option Nat)}{b:List (Mv×NN)}(v:VI h T ord k3 k5 k7 k8 km ko kb n pD m k vs bs a x j i b g L):OL h g L:=by
 rcases v.2.2.2 with⟨_,p,_⟩|⟨_,p,_⟩<;>exact p.1
theorem YC(w:Wf h){E D B i:Nat}{f:List (Option Nat)}{s:List Nat}{S:List (Mv×NN)}(hv:VI h T ord k3 k5 k7 k8 km ko kb n pD E D vs bs f s B i S g L)(ho:f.length=n)(hl:s.length<=99999)(Q:i<n)(x1:B<n)(h0:f[i]?=aa none)(ht:∃k,f[B]?=aa (aa k)){V:NN}(x6:ord[i]?=aa V)(x8:¬nN T.A T.B V){m:Mv}{x:NN}(hs:Fl T.A T.B V m x)(hx:∃t,uM ord x=aa t):
  aW 147 [aq ⟨Bj m⟩,aq ⟨kV x⟩,pA k5,pA E,pA k7,pA D,pA pD] g (λv G=>v=av ⟨[]⟩/\∃J,VI h T ord k3 k5 k7 k8 km ko kb n pD E D vs bs f s B i (S++[(m,x)]) G J/\ng g L G J):=by
 refine S8 (Bj m) (kV x) k5 E k7 D pD g _ ⟨_,HL m,_,Ex x,?_⟩;have o:=hv.ol;have e1:=(Ok.refl o.ok.wf).push (pK m);have N:=o.oT (pK m);have c1:=(o.grow e1).2;have v1:=hv.grow e1;generalize g.push (pK m)=g1 at*;have X:=v1.ol;have e2:=(Ok.refl X.ok.wf).push (iM x);have b:=X.oT (iM x);have c2:=(X.grow e2).2;have N:=c2 _ _ N;have v2:=v1.grow e2;have c:=c1.trans c2;generalize g1.push (iM x)=g2 at*;have o2:=v2.ol;have e3:=(Ok.refl o2.ok.wf).room 12;have c3:=(o2.grow e3).2;have v3:=v2.grow e3;have c:=c.trans c3;have N:=c3 _ _ N;have b:=c3 _ _ b;dsimp only;generalize Go.Ab.room g2 12=A at*;obtain⟨t,R⟩:=hx;have F:=v3;obtain⟨z,l,a,d⟩:=v3;have lk:uY au 163 (.map (aa km)) (aq ⟨kV x⟩) ak A=aa (aA (t:Int)):=by
  have:=(G0 z.st.mm.1 x).2;rw[R]at this;exact this
 refine⟨.map (aa km),z.st.m5.ld vS yT,_,iM.all b.1,_,lk,_,l.ld rk ri,ay (λq=>?_) (λq=>?_)⟩
 ·have q:t=B:=by
   have:(t:Int)=B:=by simpa using q
   omega
  subst q;have K:∀{r:List (Option Nat)}{C:List Nat}{G:aw}{J:List gf},P2 h ko pD r C G J->r.length=n->∀{j:Nat}{v:Option Nat},r[j]?=aa v->aM au 168 G (cn ko j)=aa (Kq v):=by
   rintro r C G J ⟨o',tv,Gq,_,rfl⟩ y0 j v hj;have y8:=(List.getElem?_eq_some_iff.1 hj).1;rw[da Rr OX (o'.get 0 rfl) (by grind),gD,getElem?_map,hj];rfl
  rcases d with⟨d1,p,W⟩|⟨k,p,W⟩
  ·obtain⟨H,U⟩:=ht;refine⟨_,_,_,z.m7.ld pf CH,_,a.ld rk ri,_,sy pf rQ Q,none,K p ho h0,_,MQ none,ay (λ_=>?_) (λq=>by cases q)⟩;have e4:=(Ok.refl F.ol.ok.wf).room 11;have P:=(F.ol.grow e4).2;have s4:=z.fN P;have Z:=P _ _ l;have x0:=P _ _ a;have x4:=P _ _ N;refine⟨_,_,_,s4.m7.ld pf CH,_,x0.ld rk ri,_,pK.all x4.1,_,_,_,s4.m7.ld pf CH,_,Z.ld rk ri,_,sy pf rQ x1,aa ⟨H,0,none⟩,K (p.grow e4) ho U,_,agQ _ _,_,ZG _ _,_,sy pf rQ Q,?_⟩;obtain⟨o5,O,Y⟩:=F.ol.SD (n:=11) (j:=8) (by omega) (yz m (aa ⟨H,0,none⟩));have y9:=F.ol.ok.nx;have p5:P2 h ko pD f s (bS (Go.Ab.room A 11) A.ax [(8,yz m (aa ⟨H,0,none⟩))]) L:=⟨o5,p.2⟩
   have s5:=z.fN O;have l:=O _ _ l;have a:=O _ _ a;have d5:=W.mono (KJ.fN O);generalize bS (Go.Ab.room A 11) A.ax [(8,yz m (aa ⟨H,0,none⟩))]=g5 at*;obtain⟨u,u1,L6,p6,I⟩:=Vs w p5 ho Q (kx:=A.ax+8);refine⟨u,u1,?_⟩;have s6:=s5.fN I;have l:=I _ _ l;have a:=I _ _ a;have d6:=d5.mono (KJ.fN I);have Y:=I _ _ Y;generalize u.app g5=g6 at*;obtain⟨a7,m7,x7,l7,a8,m8,y7,u8,x3,u9,x5,L9,p9,M⟩:=QB w p6 (by omega) i;refine⟨a7,m7,x7,l7,_,a.ld rk ri,_,_,_,qi _,_,_,_,_,x3,_,x5,rfl,L9,⟨s6.fN M,M _ _ l,M _ _ a,.inr ⟨_,p9,?_⟩⟩,c.trans (O.trans (I.trans M))⟩;obtain⟨y,ms,e,y1,y2,y3,y4,y6,y5⟩:=d6 t H U;have z0:=mW (A.ax+8) h0;have hy:=Aw R;rw[y1]at hy;obtain rfl:=aC hy;have x2:KJ h g6 L6 (A.ax+8) (yz m (aa ⟨H,0,none⟩)):=⟨Y,by omega⟩
   exact(d6.set x6 (.cons x2 y2) (.cons hs y3) y4 (λh=>absurd h x8) (by grind)).mono (KJ.fN M)
  ·have x9:(f.set i (aa k))[i]?=aa (aa k):=by rw[getElem?_set,iP rfl,iP (by omega)]
   refine⟨_,_,_,z.m7.ld pf CH,_,a.ld rk ri,_,sy pf rQ Q,aa ⟨k,0,none⟩,K p (by grind) x9,_,MQ _,ay (λq=>by cases q) (λ_=>?_)⟩;exact⟨rfl,L,⟨z,l,a,.inr ⟨k,p,W⟩⟩,c⟩
 ·have q:t≠B:=λe=>by rw[e]at q;simp at q
  refine⟨rfl,L,⟨z,l,a,?_⟩,c⟩
  grind
end
end
variable{a:Option aF}
section
def Clo(bs:List (List Nat))(a:List (Option Nat))(j:Nat):Prop:=∀b,bs[j]?=aa b->∀i∈b,GY a i
theorem Clo.set{bs:List (List Nat)}{c:List (Option Nat)}(h:Clo bs c j):Clo bs (c.set i (aa k)) j:=λb d a e=>wX (h b d a e)
def stW(A B:cG)(ord:List NN)(a:Nat)(x:Mv×NN):Prop:=∃b,ord[a]?=aa b/\x∈jF A B b
theorem ZA{B:cG}{ord:List NN}(n:ROk M B ord){bs:List (List Nat)}(p:Cu ord (stW M B ord) bs)(w:bs.length=ord.length){a:List (Option Nat)}(fin:∀j x,ord[j]?=aa x->nN M B x->GY a j)(o:∀j,GY a j->Clo bs a j){x e:NN}{d:List Mv}(r:PR M B x d e)(f:nN M B e):∀j,ord[j]?=aa x->GY a j:=by
 induction r with
 |nil s=>exact λj b=>fin j s b f
 |@cons s k e m d g r q=>
  intro j b;obtain⟨t,u,h⟩:=zt (n.cl s (aI b) m k g);have v:=(List.getElem?_eq_some_iff.1 h).1;have c:=gE (l:=bs) (i:=t) (by omega);exact o t (q f t h) _ c j ((p t _ c j).2 ⟨(m,k),⟨s,b,mG.2 g⟩,u⟩)
def Vz(h:aw)(T:kI)(ord:List NN):VH:=λv g=>∃(ko:Nat)(a:List (Option Nat)),v=sA ko ord.length ord.length/\g.get ko=aa (.cells (a.map Kq) 168 1 af)/\h.ax<=ko/\a.length=ord.length/\yf (λk B=>g.get k=aa B/\h.ax<=k) T.A T.B ord a/\(∀(j:Nat)(x:NN),ord[j]?=aa x->Co T.A T.B x->GY a j)/\Ok h g
theorem al3:cD au 3=aa (.cells [aA 0] 3 0 af,jL):=by kernel_rfl
theorem OY:cD au 27=aa (.cells [nA] 27 0 af,jL):=by kernel_rfl
section
variable {h:aw} {T:kI} {ord:List NN} {k3 k5 k7 k8 km ko kb n pD:Nat} {vs:List ah} {bs:List (List Nat)}
structure R3(h:aw)(T:kI)(ord:List NN)(k3 k5 k7 k8 km ko kb n pD:Nat)(vs:List ah)(bs:List (List Nat))(outs:List (Option Nat))(todo:List Nat)(g:aw)(L:List gf):Prop where
 p:P2 h ko pD outs todo g L
 s:BF k3 k5 k7 k8 km T ord ko kb n vs bs g L
 ok:yf (KJ h g L) T.A T.B ord outs
 len:outs.length=n
 fin:∀j x,ord[j]?=aa x->nN T.A T.B x->GY outs j
 td:∀j∈todo,GY outs j
 bd:todo.length+gr outs<=n
theorem R3.nY{a:List (Option Nat)}{d:aw}{L b:List gf}(r:R3 h T ord k3 k5 k7 k8 km ko kb n pD vs bs a x g L)(c:ng g L d b)(p:P2 h ko pD a x d b):R3 h T ord k3 k5 k7 k8 km ko kb n pD vs bs a x d b:=⟨p,r.s.fN c,r.ok.mono (KJ.fN c),r.len,r.fin,r.td,r.bd⟩
theorem R3.grow{a:List (Option Nat)}{b:aw}{L:List gf}(r:R3 h T ord k3 k5 k7 k8 km ko kb n pD vs bs a x g L)(o:Ok g b):R3 h T ord k3 k5 k7 k8 km ko kb n pD vs bs a x b L:=r.nY (r.p.1.grow o).2 (r.p.grow o)
theorem P2.out(a:List (Option Nat)){b:List Nat}{g:aw}{L:List gf}(p:P2 h ko pD a b g L){j:Nat}{v:Option Nat}(d:a[j]?=aa v):aM au 168 g (cn ko j)=aa (Kq v):=by
 obtain⟨e,f,i,_,rfl⟩:=p;have c:=(List.getElem?_eq_some_iff.1 d).1;rw[da Rr OX (e.get 0 rfl) (by rw[aG];exact c),gD,getElem?_map,d];rfl
theorem IZ{c:Nat}(e:Ba g 105 2 (ae a ord.length c) (ord.map kV)){i:Nat}{x:NN}(b:ord[i]?=aa x):∃(k o:Nat),aZ au 162 (ae a ord.length c) (aA (i:Int))=aa (cn k o)/\aM au 105 g (cn k o)=aa (aq ⟨kV x⟩):=by
 have l:=(List.getElem?_eq_some_iff.1 b).1;obtain⟨f,h,j,d,_⟩:=e.at_ D3 Jr acU Zk (ik:= an) (i:=(i:Int)) (by omega) (by rw[aG];omega);refine⟨f,h,j,?_⟩;rw[d,bn,gD,getElem?_map,b];rfl
theorem ab4(w:Wf h)(y1:T.Rows h)(gA:Good T.A)(gB:Good T.B)(zA:∀s∈T.A.aE,s.bG.length<=2000)(zB:∀s∈T.B.aE,s.bG.length<=2000)(ro:ROk T.A T.B ord)(hn:ord.length<=90000){a:Option aF}{c:Nat}(rl:Ba h 105 2 (ae a ord.length c) (ord.map kV))(mb:Cu ord (stW T.A T.B ord) bs)(zb:∀b∈bs,b.length<=500000000000){mz:Nat}{g:aw}(J:∃d u L,R3 h T ord k3 k5 k7 k8 km ko kb ord.length pD vs bs d u g L/\(∀j,GY d j->j∈u\/Clo bs d j)/\mz=2*gr d+u.length):
  cq eV (pq 575) (lW a ord.length c k3 k5 k7 k8 pD ()) g (fZ eV (pq 319) [] (kU eV (Vz h T ord))):=by
 refine Dz a ord.length c T.arg km k3 k5 k7 k8 pD (λmz _ g=>∃d u L,R3 h T ord k3 k5 k7 k8 km ko kb ord.length pD vs bs d u g L/\(∀j,GY d j->j∈u\/Clo bs d j)/\mz=2*gr d+u.length) _ (λz8 z=>?_) mz J;clear J g mz;intro zz g J;obtain⟨d,u,L,r,cl,rfl⟩:=J;obtain⟨o,tv,Gq,x3,rfl⟩:=r.p;obtain⟨ta,tc,hv⟩:=x3.rM;rw[aG]at hv;subst hv;have x4:aM au 27 g (pA pD)=aa (ae ta u.length tc):=da fs lF (o.get 1 rfl) (by simp);refine⟨_,_,_,x4,ay (λq=>?_) (λq=>?_)⟩
 ·have q:=dT q
  cases u with
  |nil=>simp at q
  |cons C I=>
  obtain⟨kt,x8⟩:=r.td C (cH ..);have V:C<ord.length:=by rw[<-r.len];exact(List.getElem?_eq_some_iff.1 x8).1
  obtain⟨D,W⟩:∃b,bs[C]?=aa b:=⟨_,gE (by rw[r.s.lb];exact V)⟩
  obtain⟨vt,x1⟩:∃v,vs[C]?=aa v:=⟨_,gE (by rw[r.s.lv];exact V)⟩
  obtain⟨p0,i1,i2⟩:=(x3.rd o (i:=2) rfl).at_ fs wu rk ri (k:= an) (i:=((0:Nat):Int)) (by omega) (by simp);have i2:aM au 3 g (bN p0)=aa (iA C):=i2;refine⟨_,_,_,x4,_,i1,_,i2,_,al3,?_⟩;obtain⟨u1,y4,e1,m1⟩:=o.cell (P:=au) wu (aA 0) (v:=iA C) rfl rfl;refine⟨u1,y4,?_⟩;have r1:=r.grow e1;have Z:=(o.grow e1).1;generalize u1.app (g.push (.cells [aA 0] 3 0 af))=g1 at*;obtain⟨N,Q,R,sl,y0⟩:=iq.tail (g:=g1) (x:=iv C) (vs:=I.map iv) fs wu x3 (Z.PM (i:=2) rfl);obtain⟨o2,c2⟩:=Z.uR w 1 rfl (.cells [ae N Q R] 27 0 af);refine⟨_,_,_,da fs lF (Z.get 1 rfl) (by simp),_,_,_,sl,_,eu jR (Z.get 1 rfl) (by simp) (dD ..) (by cases N<;>rfl),?_⟩;have nn:gr d=gr d:=rfl;have r2:R3 h T ord k3 k5 k7 k8 km ko kb ord.length pD vs bs d I ((dJ.set pD (.cells (([ae ta (C::I).length tc]:List ah).set 0 (ae N Q R)) 27 0 af)).app g1) (otL ko pD d (ae N Q R) Gq):=⟨⟨o2,_,Gq,y0,rfl⟩,r1.s.fN c2,r1.ok.mono (KJ.fN c2),r.len,r.fin,λj A=>r.td j (cJ _ A),by have:=r.bd;rw[bP]at this;omega⟩
  have m2:=c2 _ _ m1;have gn:=o.ok.nx;change Im ((dJ.set pD (.cells (([ae ta (C::I).length tc]:List ah).set 0 (ae N Q R)) 27 0 af)).app g1) (otL ko pD d (ae N Q R) Gq) g.ax _ at m2;generalize (dJ.set pD (.cells (([ae ta (C::I).length tc]:List ah).set 0 (ae N Q R)) 27 0 af)).app g1=g2 at*;generalize otL ko pD d (ae N Q R) Gq=L2 at*;have ir:=r2.s.rows C vt D x1 W;obtain⟨b',m',d',y7⟩:∃b' m' d',vt=ae b' m' d':=by
   obtain⟨G,n,_⟩:=ir;obtain⟨x,y,e⟩:=n.rM;exact⟨x,_,y,e⟩
  subst y7;have z5:m'=D.length:=by have:=ir.rd.len;rwa[aG]at this
  have y6:aM au 27 g2 (cn kb C)=aa (ae b' m' d'):=by
   rw[da fs lF r2.s.mb.1 (by rw[r2.s.lv];exact V),gD,x1];rfl
  refine⟨_,_,_,r2.s.st.m8.ld qg vN,_,m2.ld rk ri,_,sy qg jR V,_,_,_,y6,?_⟩;have z3:=zb D (aI W);refine DA a ord.length c T.arg km k3 k5 k7 k8 pD g.ax b' m' d' _ _ () (λx6 M g'=>∃H U L',R3 h T ord k3 k5 k7 k8 km ko kb ord.length pD vs bs H U g' L'/\Im g' L' g.ax (.cells [iA C] 3 0 af)/\GY H C/\(∀j,GY H j->j∈U\/j=C\/Clo bs H j)/\(∀i∈D.take M,GY H i)/\2*gr H+U.length+1<=2*gr d+(C::I).length/\M<=D.length/\x6=D.length-M) _ (λx6 M=>?_) D.length (j:=0) ⟨d,I,L2,r2,m2,⟨kt,x8⟩,λj A=>?_,λi X=>by simp at X,by rw[bP];omega,cr _,rfl⟩
  rotate_left
  ·rcases cl j A with n|n
   ·rcases cO.1 n with n|n
    ·exact .inr (.inl n)
    ·exact .inl n
   ·exact .inr (.inr n)
  intros;rename_i _ g4 J;obtain⟨p,F,L4,K,m4,s4,x2,Y,y2,jl,rfl⟩:=J;refine ay (λq=>?_) (λq=>?_)
  ·have q:=dT q;have A:M<D.length:=by omega
   obtain⟨i,x0⟩:∃i,D[M]?=aa i:=⟨_,gE A⟩
   obtain⟨y,⟨ki,S,hy⟩,z1⟩:=(mb C D W i).1 (aI x0);have X:=(List.getElem?_eq_some_iff.1 S).1;have y5:=(K.s.rows C _ D x1 W).rd;obtain⟨p1,j1,j2⟩:=y5.at_ fs wu rk ri (k:= an) (i:=(M:Int)) (by omega) (by rw[aG];omega);have e2:(D.map iv).getD (M:Int).toNat undef=iA i:=by
    rw[bn,gD,getElem?_map,x0];rfl
   rw[e2]at j2;refine⟨_,j1,_,j2,_,al3,?_⟩;obtain⟨u5,y9,e5,m5⟩:=K.p.1.cell (P:=au) wu (aA 0) (v:=iA i) rfl rfl;refine⟨u5,y9,?_⟩;have c5:=(K.p.1.grow e5).2;have r5:=K.grow e5;have m4:=c5 _ _ m4;generalize u5.app (g4.push (.cells [aA 0] 3 0 af))=g5 at*;obtain⟨oi,O⟩:∃v,p[i]?=aa v:=⟨_,gE (by rw[K.len];exact X)⟩
   have x9:D.take (M+1)=D.take M++[i]:=(iI x0).2;refine⟨_,_,_,r5.s.m7.ld pf CH,_,m5.ld rk ri,_,sy pf rQ X,_,r5.p.out _ O,_,SW _,ay (λq2=>?_) (λq2=>?_)⟩
   ·have hs:GY p i:=by
     cases oi with
     |none=>cases q2
     |some k=>exact⟨k,O⟩
    rw[wo A (by omega)];refine fG (D.length-(M+1)) (by omega) ⟨p,F,L4,r5,m4,s4,x2,λx E=>?_,y2,by omega,rfl⟩;rw[x9]at E;rcases bH.1 E with E|E
    ·exact Y x E
    ·rw[aX.1 E];exact hs
   ·have O:p[i]?=aa none:=by
     cases oi with
     |none=>exact O
     |some k=>cases q2
    have e6:=(Ok.refl r5.p.1.ok.wf).room 7;have c6:=(r5.p.1.grow e6).2;have r6:=r5.grow e6;have m4:=c6 _ _ m4;have m5:=c6 _ _ m5;generalize Go.Ab.room g5 7=g6 at*;obtain⟨kk,z9,d1,d2⟩:=IZ (rl.ok r6.p.1.ok) S;have J:=ro.lt ki (aI S);refine⟨_,rW.all r6.s.st.m3.1,_,m5.ld rk ri,_,d1,_,d2,?_⟩;have y3:F.length<=99999:=by have:=K.bd;omega
    have z0:¬nN T.A T.B ki:=λhf=>by
     obtain⟨k,hk⟩:=K.fin i ki S hf;rw[O]at hk;cases hk
    refine(D7 w y1 gA gB zA zB (h:=g6) (L:=L4) J.1 J.2 (fa:=[]) (fc:=[pA k5,pA g.ax,pA k7,pA g4.ax,pA pD]) (by decide +kernel) (VI h T ord k3 k5 k7 k8 km ko kb ord.length pD g.ax g4.ax vs bs p F C i) (λl g L r=>r.ol) (λl g L g' r o=>r.grow o) ⟨r6.s,m4,m5,.inl ⟨λx E=>(by cases E),r6.p,r6.ok⟩⟩ (λz4 x z2 y8 g' L' hv=>?_)).mono ?_
    ·have E:x∈jF T.A T.B ki:=by rw[y8];simp
     have x7:=mG.1 (show(x.1,x.2)∈jF T.A T.B ki from E);obtain⟨t,ht,_⟩:=zt (ro.cl ki (aI S) _ _ x7);exact YC w hv K.len y3 X V O s4 S z0 x7 ⟨t,ht⟩
    ·rintro _ g7 ⟨rfl,L7,⟨s7,m7,m8,d7⟩,c7⟩;refine⟨rfl,?_⟩;rcases d7 with⟨d7,_⟩|⟨k,p7,o7⟩
     ·exact absurd z1 (d7 y hy)
     ·have x5:i<p.length:=by rw[K.len];exact X
      have z7:=mW k O;have z6:=K.bd;rw[wo A (by omega)];refine fG (D.length-(M+1)) (by omega) ⟨p.set i (aa k),F++[i],L7,⟨p7,s7,o7,by rw[bT];exact K.len,λj x n h2=>wX (K.fin j x n h2),λj A=>?_,by rw[bg,bw];omega⟩,m7,wX s4,λj A=>?_,λx E=>?_,by rw[bg,bw];omega,by omega,rfl⟩
      ·rcases bH.1 A with A|A
       ·exact wX (K.td j A)
       ·rw[aX.1 A];exact Dc x5
      ·rcases U7 A with rfl|A
       ·exact .inl (List.mem_append_right _ (aX.2 rfl))
       ·rcases x2 j A with n|n|n
        ·exact .inl (dY _ n)
        ·exact .inr (.inl n)
        ·exact .inr (.inr n.set)
      ·rw[x9]at E;rcases bH.1 E with E|E
       ·exact wX (Y x E)
       ·rw[aX.1 E];exact Dc x5
  ·have q:=dF q;have e:D.take M=D:=bm (by omega);rw[e]at Y;refine fG (a:=()) (2*gr p+F.length) (by omega) ⟨p,F,L4,K,λj A=>?_,rfl⟩;rcases x2 j A with n|rfl|n
   ·exact .inl n
   ·refine .inr λb hb i X=>?_;rw[W]at hb;obtain rfl:=aC hb;exact Y i X
   ·exact .inr n
 ·have q:=dF q;have ht:u=[]:=aY (by omega);subst ht;refine⟨_,_,_,r.s.m7.ld pf CH,ko,d,rfl,o.get 0 rfl,?_,r.len,r.ok.mono λk B m=>⟨m.1.1,m.2⟩,λj x A ⟨ms,e,pr,f⟩=>ZA ro mb (by rw[r.s.lb]) r.fin (λj A=>?_) pr f j A,o.ok⟩
  ·exact o.lo ko (by unfold keys otL;simp)
  ·rcases cl j A with n|n
   ·cases n
   ·exact n
end
end
section
def Ew:Nat:=4002000
theorem ME(h:i<=90000):i*Ew<=360180000000:=by unfold Ew;omega
theorem ads:cI au 170 []=aa (aq ⟨Bj ⟨0,0,0⟩++[aT none]⟩):=by kernel_rfl
noncomputable def acF:TypeInfo:=(au.info? 168).getD default
theorem acG:au.info? 168=aa acF:=by kernel_rfl
theorem T6:acF.size=1:=by kernel_rfl
theorem Rk:acF.bytes=8:=by kernel_rfl
theorem afQ:zeroOf au 168=aa (aT none):=by kernel_rfl
theorem ajJ(n:Nat)(a:n<=100000):cK au 166 (aA (n:Int)) (aA (n:Int))=aa (.cells (aH n (aT none)) 168 1 af,pw n n):=by
 unfold cK dz;dsimp only;rw[pf]
 try dsimp only
 change (match au.info? 168,zeroOf au 168 with
  |some i,aa z=>(if z.cells.size=i.size/\0<i.size/\(0:Int)<=(n:Int)/\(n:Int)<=(n:Int)/\(n:Int)*i.bytes<=140737488355328/\(n:Int)<=1099511627776 then aa (eE.cells (eO z.cells.toList (n:Int).toNat) 168 i.size af,λk=>ae (aa ⟨k,0,none⟩) (n:Int).toNat (n:Int).toNat)else none)
  |_,_=>none)=_
 rw[acG,afQ];dsimp only;rw[T6,Rk,iP ⟨rfl,by omega,by omega,fU _,by omega,by omega⟩];have e:((n:Int)).toNat=n:=by omega
 rw[e,show(aT none).cells.toList=[aT none]from rfl,qh];rfl
theorem afZ:cD au 166=aa (.cells [nA] 166 0 af,jL):=by kernel_rfl
theorem agJ:cD au 126=aa (.cells [nA] 126 0 af,jL):=by kernel_rfl
theorem ag1(k:Nat):iF au 163 (.map (aa k))=aa (.cells [.map (aa k)] 163 0 af,jL):=by kernel_rfl
section
variable {h:aw} {T:kI} {ord:List NN} {k3 k5 k7 k8 km ko kb pD:Nat} {vs:List ah} {bs:List (List Nat)}
theorem ahE{L:List gf}(o:OL h g L)(x:NN):∃u:dJ,aQ au 105 (pA g.ax) (aq ⟨kV x⟩) (g.push uL)=aa (undef,u)/\Ok g (u.app (g.push uL))/\Im (u.app (g.push uL)) L g.ax (iM x):=by
 have e:Ok g ((g.push uL).set g.ax (iM x)):=((Ok.refl o.ok.wf).push _).set _ (aS _) (eD _) o.ok.wf;exact⟨_,abA x g,e,o.new (aS _) (by show((g.push _).set _ _).get _=_;rw[aw.bZ,iP rfl])⟩
theorem ab3(w:Wf h)(v:T.Rows h)(gA:Good T.A)(gB:Good T.B)(zA:∀s∈T.A.aE,s.bG.length<=2000)(zB:∀s∈T.B.aE,s.bG.length<=2000)(O:ROk T.A T.B ord)(hn:ord.length<=90000){a:Option aF}{c:Nat}(P:Ba h 105 2 (ae a ord.length c) (ord.map kV))(mb:Cu ord (stW T.A T.B ord) bs)(zb:∀b∈bs,b.length<=500000000000){g:aw}{L:List gf}(p:P2 h ko pD (aH ord.length none) [] g L)(s:BF k3 k5 k7 k8 km T ord ko kb ord.length vs bs g L):
  cq eV (pq 607) (lV a ord.length c k3 k5 k7 k8 pD 0) g (fZ eV (pq 351) [] (kU eV (Vz h T ord))):=by
 refine Dy a ord.length c T.arg km k3 k5 k7 k8 pD (λI i g=>∃d l L,P2 h ko pD d l g L/\BF k3 k5 k7 k8 km T ord ko kb ord.length vs bs g L/\yf (KJ h g L) T.A T.B ord d/\d.length=ord.length/\(∀j x,j<i->ord[j]?=aa x->nN T.A T.B x->GY d j)/\(∀j,GY d j↔j∈l)/\(∀j,i<=j->j<ord.length->d[j]?=aa none)/\l.length+gr d=ord.length/\i<=ord.length/\I=ord.length-i) _ (λI i=>?_) ord.length (i:=0) ⟨_,_,L,p,s,λj k f=>?_,bE,λj x f=>absurd f (dH _),λj=>?_,λj _ f=>?_,?_,cr _,rfl⟩
 rotate_left
 ·rw[getElem?_replicate]at f;split at f<;>cases f
 ·constructor
  ·rintro⟨k,M⟩;rw[getElem?_replicate]at M;split at M<;>cases M
  ·intro f;cases f
 ·rw[getElem?_replicate,iP f]
 ·unfold gr;rw[List.countP_replicate];simp
 clear p s g L;intro zz g o;obtain⟨d,l,L,p,s,ok,r,fin,B,N,bd,hi,rfl⟩:=o;refine ay (λq=>?_) (λq=>?_)
 ·have q:=dT q;have m:i<ord.length:=by omega
  obtain⟨x,E⟩:∃x,ord[i]?=aa x:=⟨_,gE m⟩
  have o:=O.lt x (aI E);obtain⟨kk,x6,d1,d2⟩:=IZ (P.ok p.1.ok) E;obtain⟨U,V,Q,m1⟩:=ahE p.1 x;refine⟨_,d1,_,d2,_,Zl,U,V,?_⟩;have c1:=(p.1.grow Q).2;have F:=p.grow Q;have s1:=s.fN c1;generalize U.app (g.push uL)=g1 at*;refine⟨_,rW.all s1.st.m3.1,_,iM.all m1.1,(Qw F.1.ok.wf (v.ok F.1.ok) o.1 o.2).mono ?_⟩;rintro _ z ⟨rfl,e2⟩;have c2:=c1.trans (F.1.grow e2).2;have t:=F.grow e2;have K:=s.fN c2;have H:=ok.mono (KJ.fN c2);have Y:aj an ((i:Int)+1)=((i+1:Nat):Int):=wo m (by omega);refine⟨_,rfl,ay (λu=>?_) (λu=>?_)⟩
  ·rw[bj]at u;have f2:nN T.A T.B x:=⟨jv.1 u.1,jv.1 u.2⟩
   refine⟨_,_,_,K.m7.ld pf CH,_,ads,_,ZG _ _,_,sy pf rQ m,?_⟩;have X:=(Ok.refl t.1.ok.wf).push (yz ⟨0,0,0⟩ none);have m3:=t.1.oT (yz ⟨0,0,0⟩ none);have c3:=(t.1.grow X).2;have p3:=t.grow X;have gn:=t.1.ok.nx;have s3:=K.fN c3;have Z:=H.mono (KJ.fN c3);generalize z.push (yz ⟨0,0,0⟩ none)=g3 at*;obtain⟨W,x3,L4,p4,J⟩:=Vs w p3 r m (kx:=z.ax);refine⟨W,x3,?_⟩;have s4:=s3.fN J;have x2:=Z.mono (KJ.fN J);have m4:=J _ _ m3;generalize W.app g3=g4 at*;obtain⟨a7,m7,x1,l7,a8,m8,x4,u8,S,u9,x0,L9,p9,R⟩:=QB w p4 (by omega) i;refine⟨a7,m7,x1,l7,_,_,_,qi _,_,_,_,_,S,_,x0,?_⟩;rw[Y];have h0:=N i (aS _) m;have x5:=mW z.ax h0;have G:i<d.length:=by omega
   refine fG (ord.length-(i+1)) (by omega) ⟨d.set i (aa z.ax),l++[i],L9,p9,s4.fN R,?_,by rw[bT];exact r,λj y f D n=>?_,λj=>?_,λj f A=>?_,by rw[bg,bw];omega,by omega,rfl⟩
   ·exact(x2.set E (.nil ⟨0,0,0⟩ (show KJ h g4 L4 z.ax _ from⟨m4,gn⟩)) (.nil _) f2 (λ_=>rfl) (by rw[List.length_nil];omega)).mono (KJ.fN R)
   ·by_cases e:j=i
    ·subst e;exact Dc G
    ·exact wX (fin j y (by omega) D n)
   ·rw[bH,aX];constructor
    ·intro f;rcases U7 f with C|C
     ·exact .inr C
     ·exact .inl ((B j).1 C)
    ·rintro(C|rfl)
     ·exact wX ((B j).2 C)
     ·exact Dc G
   ·rw[getElem?_set,iN (by omega)];exact N j (by omega) A
  ·rw[Y];refine fG (ord.length-(i+1)) (by omega) ⟨d,l,L,t,K,H,r,λj y f D n=>?_,B,λj f A=>N j (by omega) A,bd,by omega,rfl⟩;by_cases e:j=i
   ·subst e;rw[E]at D;obtain rfl:=aC D;rw[jv.2 n.1,jv.2 n.2]at u
    cases u
   ·exact fin j y (by omega) D n
 ·have q:=dF q;exact ab4 w v gA gB zA zB O hn P mb zb (mz:=2*gr d+l.length) ⟨d,l,L,⟨p,s,ok,r,λj x f n=>fin j x (by have:=(List.getElem?_eq_some_iff.1 f).1;omega) f n,λj f=>(B j).2 f,by omega⟩,λj f=> .inl ((B j).1 f),rfl⟩
theorem ab2(w:Wf h)(O:T.Rows h)(gA:Good T.A)(gB:Good T.B)(zA:∀s∈T.A.aE,s.bG.length<=2000)(zB:∀s∈T.B.aE,s.bG.length<=2000)(ro:ROk T.A T.B ord)(hn:ord.length<=90000){a:Option aF}{c:Nat}(rl:Ba h 105 2 (ae a ord.length c) (ord.map kV)){g:aw}{L:List gf}(b:BS h ko kb ord.length (aH ord.length []) g L)(s:Still k3 k5 k8 km T ord kb ord.length g L)(V:Im g L k7 (.cells [sA ko ord.length ord.length] 166 0 af)):
  cq eV (pq 151) (od a ord.length c k3 k5 k7 k8 0) g (fZ eV (pq 87) [] (kU eV (Vz h T ord))):=by
 refine Dx a ord.length c T.arg km k3 k5 k7 k8 (λmz i g=>∃bs L,BS h ko kb ord.length bs g L/\Still k3 k5 k8 km T ord kb ord.length g L/\Im g L k7 (.cells [sA ko ord.length ord.length] 166 0 af)/\Cu ord (λa x=>a<i/\stW T.A T.B ord a x) bs/\(∀b∈bs,b.length<=i*Ew)/\i<=ord.length/\mz=ord.length-i) _ (λmz i=>?_) ord.length (i:=0) ⟨_,L,b,s,V,λt b f x=>?_,λb f=>?_,cr _,rfl⟩
 rotate_left
 ·rw[getElem?_replicate]at f;split at f
  ·obtain rfl:=aC f;constructor
   ·intro h;cases h
   ·rintro⟨_,⟨h,_⟩,_⟩;exact absurd h (dH _)
  ·cases f
 ·rw[List.eq_of_mem_replicate f];exact cr _
 clear b s V g L;intro zz g C;obtain⟨bs,L,b,s,V,x4,zb,hi,rfl⟩:=C;refine ay (λq=>?_) (λq=>?_)
 ·have q:=dT q;have n:i<ord.length:=by omega
  obtain⟨x,U⟩:∃x,ord[i]?=aa x:=⟨_,gE n⟩
  have C:=ro.lt x (aI U);obtain⟨kk,z7,d1,d2⟩:=IZ (rl.ok b.1.ok) U;have e0:=(Ok.refl b.1.ok.wf).push (.cells [aA 0] 3 0 af);have o0:=(b.1.grow e0).1;have n0:(g.push (.cells [aA 0] 3 0 af)).ax=g.ax+1:=rfl;have k0:=cC g (.cells [aA 0] 3 0 af);have Y:=e0.push uL;have k1:((g.push (.cells [aA 0] 3 0 af)).push uL).get g.ax=aa (.cells [aA 0] 3 0 af):=by
   rw[aw.cZ,iN (by omega)];exact k0
  have k2:=cC (g.push (.cells [aA 0] 3 0 af)) uL;have n1:((g.push (.cells [aA 0] 3 0 af)).push uL).ax=g.ax+2:=rfl;refine⟨_,d1,_,d2,_,al3,_,Zl,_,eu wu k1 (by simp) rfl rfl,?_⟩;generalize I:((dJ.set g.ax (.cells (([aA 0]:List ah).set 0 (iA i)) 3 0 af)).app ((g.push (.cells [aA 0] 3 0 af)).push uL))=A;have W:Ok g A:=by rw[<-I];exact Y.set _ (aS _) (by omega) b.1.ok.wf
  have n2:A.ax=g.ax+2:=by rw[<-I];rfl
  have x9:A.get g.ax=aa (.cells [iA i] 3 0 af):=by
   rw[<-I];show(aw.set _ _ _).get _=_;rw[aw.bZ,iP rfl];rfl
  have k4:A.get (g.ax+1)=aa uL:=by
   rw[<-I];show(aw.set _ _ _).get _=_;rw[aw.bZ,iN (by omega)];exact k2
  have z0:aQ au 105 (pA (g.push (.cells [aA 0] 3 0 af)).ax) (aq ⟨kV x⟩) A=aa (undef,.set (g.ax+1) (iM x)):=gL Jr rfl k4 rfl rfl;refine⟨_,z0,?_⟩;generalize u:((dJ.set (g.ax+1) (iM x)).app A)=B;have e3:Ok g B:=by rw[<-u];exact W.set _ (by omega) (by omega) b.1.ok.wf
  have c3:=(b.1.grow e3).2;have mi:Im B L g.ax (.cells [iA i] 3 0 af):=b.1.new (aS _) (by
   rw[<-u];show(aw.set _ _ _).get _=_;rw[aw.bZ,iN (by omega)];exact x9)
  have mx:Im B L (g.ax+1) (iM x):=b.1.new (by omega) (by
   rw[<-u];show(aw.set _ _ _).get _=_;rw[aw.bZ,iP rfl])
  have b3:BS h ko kb ord.length bs B L:=⟨(b.1.grow e3).1,b.2⟩
  have s3:=s.fN c3;have y1:=c3 _ _ V;have z4:(jF T.A T.B x).length<=Ew:=TY zA zB C;refine⟨_,rW.all s3.m3.1,_,iM.all mx.1,?_⟩;refine(D7 w O gA gB zA zB (h:=B) (L:=L) C.1 C.2 (fa:=[]) (fc:=[pA k8,pA k5,pA g.ax]) (by decide +kernel) (λl g L=>BS h ko kb ord.length (l.foldl (J4 ord i) bs) g L/\Still k3 k5 k8 km T ord kb ord.length g L/\Im g L k7 (.cells [sA ko ord.length ord.length] 166 0 af)/\Im g L B.ax.pred.pred (.cells [iA i] 3 0 af)/\Cu ord (λa y=>(a<i/\stW T.A T.B ord a y)\/(a=i/\y∈l)) (l.foldl (J4 ord i) bs)/\∀b∈l.foldl (J4 ord i) bs,b.length<=i*Ew+l.length) (λl g L r=>r.1.1) (λl g L g' r o=>?_) ?_ (λJ y z1 x3 g' L' hv=>?_)).mono ?_
  ·obtain⟨E,F,M,D,S⟩:=r;have c:=(E.1.grow o).2;exact⟨⟨(E.1.grow o).1,E.2⟩,F.fN c,c _ _ M,c _ _ D,S⟩
  ·refine⟨b3,s3,y1,?_,x4.congr λa y=>⟨.inl,λh=>h.elim id λh=>by cases h.2⟩,λb f=>bK (zb b f) (dg _ _)⟩;have:B.ax.pred.pred=g.ax:=by
    rw[<-u];show A.ax.pred.pred=_;rw[n2];rfl
   rw[this];exact mi
  ·have Z:B.ax.pred.pred=g.ax:=by
    rw[<-u];show A.ax.pred.pred=_;rw[n2];rfl
   obtain⟨E,F,M,D,S,K⟩:=hv;rw[Z]at D;have hy:y∈jF T.A T.B x:=by rw[x3];simp
   have y4:=mG.1 (show(y.1,y.2)∈jF T.A T.B x from hy);obtain⟨t,ht,y8⟩:=zt (ro.cl x (aI U) _ _ y4);have z3:J.length<=Ew:=by
    have:=congrArg List.length x3;rw[bg]at this;omega
   have R:=ME (i:=i) (by omega);have x0:Ew=4002000:=rfl;refine(YA w E F D ht (List.getElem?_eq_some_iff.1 y8).1 (λb f=>by have:=K b f;omega) y.1).mono ?_;rintro _ g5 ⟨rfl,L5,b5,X⟩;refine⟨rfl,L5,⟨by rw[List.foldl_append];exact b5,F.fN X,X _ _ M,by rw[Z];exact X _ _ D,?_,?_⟩,X⟩
   ·rw[List.foldl_append];refine(S.add i y).congr λa z=>?_;rw[bH,aX];constructor
    ·rintro((d|d)|d)
     ·exact .inl d
     ·exact .inr ⟨d.1,.inl d.2⟩
     ·exact .inr ⟨d.1,.inr d.2⟩
    ·rintro(d|⟨d,k|k⟩)
     ·exact .inl (.inl d)
     ·exact .inl (.inr ⟨d,k⟩)
     ·exact .inr ⟨d,k⟩
   ·rw[List.foldl_append,bg,bw];rw[show i*Ew+(J.length+1)=(i*Ew+J.length)+1 by omega];generalize i*Ew+J.length=N at K⊢;exact Zh K
  ·rintro _ g5 ⟨rfl,L5,⟨E,F,M,D,S,K⟩,X⟩;have Z:B.ax.pred.pred=g.ax:=by
    rw[<-u];show A.ax.pred.pred=_;rw[n2];rfl
   rw[Z]at D;refine⟨rfl,?_⟩;generalize (jF T.A T.B x).foldl (J4 ord i) bs=x1 at*;obtain⟨o5,vs,Gs,m,rfl⟩:=E;obtain⟨P,x2,ct,G,Y,W,y2,y9⟩:=m.at_ n;have y7:aM au 27 g5 (cn kb i)=aa (ae x2 P.length ct):=by
    rw[da fs lF (o5.get 1 rfl) (by rw[m.lv];exact n),gD,Y];rfl
   have z2:=K P (aI W);have R:=ME (i:=i) (by omega);have x0:Ew=4002000:=rfl;refine⟨_,_,_,F.m8.ld qg vN,_,D.ld rk ri,_,sy qg jR n,_,_,_,y7,(TR w y9 o5 (i:=i+2) (by exact y2) (by omega)).mono ?_⟩;rintro _ g6 ⟨rfl,G',x7,o6,c6⟩;refine⟨rfl,?_⟩;rw[wo n (by omega)];have x6:=m.set i x7;have y6:vs.set i (ae x2 P.length ct)=vs:=by
    refine cV λj=>?_;rw[getElem?_set];by_cases e:i=j
    ·subst e;rw[iP rfl,iP (by rw[m.lv];exact n),Y]
    ·rw[iN e]
   rw[y6]at x6;refine fG (ord.length-(i+1)) (by omega) ⟨x1.set i (vk P),_,⟨o6,vs,Gs.set i G',x6,rfl⟩,F.fN c6,c6 _ _ M,?_,λb f=>?_,by omega,rfl⟩
   ·refine(S.sort W).congr λa y=>?_;constructor
    ·rintro(⟨d,k⟩|⟨rfl,k⟩)
     ·exact⟨by omega,k⟩
     ·exact⟨by omega,x,U,k⟩
    ·rintro⟨d,ka,k,Q⟩;by_cases e:a=i
     ·subst e;rw[U]at k;obtain rfl:=aC k;exact .inr ⟨rfl,Q⟩
     ·exact .inl ⟨by omega,ka,k,Q⟩
   ·have x5:∀b∈x1,b.length<=(i+1)*Ew:=λb f=>by have:=K b f;rw[cM,dw];omega
    rcases List.mem_or_eq_of_mem_set f with d|rfl
    ·exact x5 b d
    ·rw[we];exact x5 P (aI W)
 ·have q:=dF q;have z5:i=ord.length:=by omega
  obtain⟨o,vs,Gs,m,rfl⟩:=b;have ol:OL h g ([[(ko,.cells (aH ord.length (aT none)) 168 1 af)]]++([(kb,.cells vs 27 1 af)]::Gs)):=o;obtain⟨o1,c1⟩:=ol.left;have im:=ol.aeo;have s1:=s.fN c1;have y5:=c1 _ _ V;have y0:Im g [[(ko,.cells (aH ord.length (aT none)) 168 1 af)]] kb (.cells vs 27 1 af):=im (kb,.cells vs 27 1 af) (by simp);have x8:∀(t:Nat)(v:ah)(b:List Nat),vs[t]?=aa v->bs[t]?=aa b->ua g [[(ko,.cells (aH ord.length (aT none)) 168 1 af)]] 3 v (b.map iv):=λt v b d k=>by
   have y3:t<Gs.length:=by rw[m.lg,<-m.lv];exact(List.getElem?_eq_some_iff.1 d).1
   have Q:=gE y3;exact⟨_,m.row t v b _ d k Q,λp hp=>im p (by rw[fg];exact List.mem_append_right _ (List.mem_flatten.2 ⟨_,aI Q,hp⟩))⟩
  refine⟨_,OY,?_⟩;obtain⟨o2,c2⟩:=o1.push (.cells [nA] 27 0 af);have z6:=c2;obtain⟨o3,c3⟩:=o2.none;have H:=c2.trans c3;have R:=ME (i:=i) (by omega);have x0:Ew=4002000:=rfl;refine ab3 (bs:=bs) (vs:=vs) (ko:=ko) (kb:=kb) w O gA gB zA zB ro hn rl (x4.congr λa x=>⟨λh=>h.2,λh=>⟨by obtain⟨ka,d,_⟩:=h;have:=(List.getElem?_eq_some_iff.1 d).1;omega,h⟩⟩) (λb f=>bK (zb b f) (by omega)) (L:=otL ko g.ax (aH ord.length none) nA []) ⟨?_,nA,[],iq.nil 3,rfl⟩ ⟨s1.fN ?_,?_,?_,m.lv,m.lb,λt v b d k=>(x8 t v b d k).fN ?_⟩
  all_goals
   have eo:otL ko g.ax (aH ord.length none) nA []=[[(ko,.cells (aH ord.length (aT none)) 168 1 af)]]++[[(g.ax,.cells [nA] 27 0 af)]]++[[]]:=by
    unfold otL;rw[List.map_replicate];rfl
   rw[eo]
  ·exact o3
  ·exact H
  ·exact H _ _ y5
  ·exact H _ _ y0
  ·exact H
theorem XJ(w:Wf h)(p:T.Rows h)(gA:Good T.A)(Q:Good T.B)(R:∀s∈T.A.aE,s.bG.length<=2000)(V:∀s∈T.B.aE,s.bG.length<=2000)(N:ROk T.A T.B ord)(M:ord.length<=90000){a:Option aF}{c:Nat}(O:Ba h 105 2 (ae a ord.length c) (ord.map kV))(W:h.get km=aa (.map (qC ord 0))):
  aW 106 [aq ⟨T.arg⟩,ae a ord.length c,.map (aa km)] h (Vz h T ord):=by
 refine XI a ord.length c T.arg km h _ ⟨_,O8 T,_,ag1 km,_,_,_,ajJ _ (by omega),_,afZ,?_⟩;have l:=OL.nil (Ok.refl w);have B:=(Ok.refl w).push (rW T);have e:=l.oT (rW T);have d:=(l.grow B).2 _ _ (l.old w W);have k:=(l.grow B).1;generalize h.push (rW T)=Y at*;have I:=(Ok.refl k.ok.wf).push (.cells [.map (aa km)] 163 0 af);have f:=k.oT (.cells [.map (aa km)] 163 0 af);have H:=(k.grow I).2;have X:=(k.grow I).1;have e:=H _ _ e;have d:=H _ _ d;generalize Y.push (.cells [.map (aa km)] 163 0 af)=q at*;obtain⟨z,A⟩:=X.push (.cells (aH ord.length (aT none)) 168 1 af);have e:=A _ _ e;have f:=A _ _ f;have d:=A _ _ d;generalize q.push (.cells (aH ord.length (aT none)) 168 1 af)=g3 at*;obtain⟨C,K,D,i⟩:=z.cell (P:=au) acy nA (v:=sA q.ax ord.length ord.length) rfl rfl;refine⟨C,K,_,_,_,Ve _ (by omega),_,agJ,?_⟩;have u:=(z.grow D).2;have U:=(z.grow D).1;have e:=u _ _ e;have f:=u _ _ f;have d:=u _ _ d;generalize C.app (g3.push (.cells [nA] 166 0 af))=r at*;obtain⟨x,o⟩:=U.push (.cells (aH ord.length AV) 27 1 af);have e:=o _ _ e;have f:=o _ _ f;have d:=o _ _ d;have i:=o _ _ i;generalize r.push (.cells (aH ord.length AV) 27 1 af)=Z at*;obtain⟨F,J,E,m8⟩:=x.cell (P:=au) T1 nA (v:=sA r.ax ord.length ord.length) rfl rfl;refine⟨F,J,?_⟩;have n:=(x.grow E).2;have S:=(x.grow E).1;have e:=n _ _ e;have f:=n _ _ f;have d:=n _ _ d;have i:=n _ _ i;generalize F.app (Z.push (.cells [nA] 126 0 af))=g6 at*;obtain⟨o7,g⟩:=S.gr ord.length;refine ab2 w p gA Q R V N M O (L:=bkL q.ax r.ax ord.length (aH ord.length AV) (aH ord.length [])) ⟨o7,_,_,⟨bE,bE,bE,λj v b G m y t=>?_⟩,rfl⟩ ⟨g _ _ e,g _ _ f,g _ _ m8,g _ _ d⟩ (g _ _ i);rw[getElem?_replicate]at m y t;split at m
 ·next hj=>
  rw[iP hj]at y t;obtain rfl:=aC m;obtain rfl:=aC y;obtain rfl:=aC t;exact iq.nil 3
 ·cases m
end
end
noncomputable def jX:FD:=gT Tryz.f68 [((pq 17),[0,2,3,4]),((pq 1169),[0,2,3,4,31,32])]
abbrev kO(a c b:Nat)(t:OA):LV:=[(.pointer t),(pA a),(pA c),(pA b)]
abbrev mU(t:OA)(a d b:Nat)(c:LV)(i:Nat):LV:=[(.pointer t),(pA a),(pA d),(pA b),(aq ⟨c⟩),(iA i)]
theorem Uf(a:OA)(h:aw)(Q:VH)(d:xN (cD au 27) h λf b=>xN (cD au 27) b λg c=>xN (cD au 27) c λi e=>cq jX (pq 17) (kO (h.ax) (b.ax) (c.ax) a) e (ez jX [1,0,0] Q)):aW 68 [(.pointer a)] h Q:=gZ jX Tryz.func68 (bF d)
theorem Cl(t0:OA)(a c b:Nat)(f:Nat->OA->aw->Prop)(Q:VH)(step:∀(e:Nat) (t:OA) (E:Nat->ah) (h:aw),f e t h->xB (cm au .neq 112 (.pointer t) (aT none)) λY=>cp Y (KF au t (room h 20) λX h9=>xP (bB au 118 X 0) λs=>ky 116 (bN s) 0 (room h 20) λG=>xA (cI au 187 [(0,(aA G)),(1,(pA a))]) λy=>KF au t (room h 20) λn Z=>xP (bB au 118 n 0) λA=>ky 116 (bN A) 1 (room h 20) λq=>xA (cI au 187 [(0,(aA q)),(1,(pA c))]) λI=>KF au t (room h 20) λL x0=>xP (bB au 118 L 0) λo=>ky 116 (bN o) 2 (room h 20) λw=>xA (cI au 187 [(0,(aA w)),(1,(pA b))]) λp=>xA (cI au 188 [(0,(aq ⟨y⟩)),(1,(aq ⟨I⟩)),(2,(aq ⟨p⟩))]) λH=>cq jX (pq 1169) (mU t a c b H 0) (room h 20) (fZ jX (pq 41) (pq 17) (RR jX (pq 17) (mw (kO a c b) f) e (ez jX [1,0,0] Q)))) (xL (aM au 27 h (pA a)) λR K M=>aW 122 [(ae R K M)] h λC k=>C=(av ⟨[]⟩)/\xL (aM au 27 k (pA c)) λu r z=>aW 122 [(ae u r z)] k λx g=>x=(av ⟨[]⟩)/\xL (aM au 27 g (pA b)) λm U O=>aW 122 [(ae m U O)] g λP d=>P=(av ⟨[]⟩)/\xL (aM au 27 d (pA a)) λD T B=>xL (aM au 27 d (pA c)) λF v J=>xL (aM au 27 d (pA b)) λV N S=>xU (aQ au 27 (pA a) (ae D T B) d) d λx1 i=>xU (aQ au 27 (pA c) (ae F v J) i) i λx3 j=>xU (aQ au 27 (pA b) (ae V N S) j) j λx2 W=>gI SS [((pA a),aa 27),((pA c),aa 27),((pA b),aa 27)] W Q))(e:Nat){t:OA}{h:aw}(l:f e t h):cq jX (pq 17) (kO a c b t) h (ez jX [1,0,0] Q):=
 gP (kO a c b) f (λe t E h l=>bF (step e t E h l)) e l
theorem Cm(S:OA)(t:OA)(d f e:Nat)(g:LV)(l:Nat->OA->aw->Prop)(s:Nat)(c:Nat->Nat->aw->Prop)(Q:VH)(step:∀(b:Nat) (i:Nat) (F:Nat->ah) (h:aw),c b i h->cp (decide ((i:Int)<3)) (xA (dR au 188 (aq ⟨g⟩) (iA i)) λx=>xN (cD au 187) h λP n=>xU (aQ au 187 (pA (h.ax)) (aq ⟨x⟩) n) n λN a=>ky 187 (pA (h.ax)) 0 a λA=>cp (decide (A>0)) (xP (bB au 187 (pA (h.ax)) 1) λo=>xO (aM au 186 (room a 12) (bN o)) λj=>qF xO 187 (pA (h.ax)) 1 186 (room a 12) λI=>KF au I (room a 12) λy M=>xL (aM au 27 (room a 12) y) λz v D=>ky 187 (pA (h.ax)) 0 (room a 12) λH=>zR (bC au 27 1 [(0,(aA H))]) λp B G=>xE (bY au 27 27 (ae z v D) (sA (a.ax+8) B G) (bS (room a 12) a.ax [(8,p)])) (bS (room a 12) a.ax [(8,p)]) λu E J L k=>KF au j k λw R=>xU (aQ au 27 w (ae u E J) k) k λO C=>(aM au 186 k (bN o)=aa (.pointer j)/\iz 4 (.pointer j) (.pointer j)=af)/\cB (mw (mU t d f e g) c) b [(.pointer t),(pA d),(pA f),(pA e),(aq ⟨g⟩),(aA (aj an ((i:Int)+1)))] C) (cB (mw (mU t d f e g) c) b [(.pointer t),(pA d),(pA f),(pA e),(aq ⟨g⟩),(aA (aj an ((i:Int)+1)))] a)) (KF au t h λK m=>qF xO 118 K 1 112 m λr=>cB (mw (kO d f e) l) s [(.pointer r),(pA d),(pA f),(pA e)] m))(b:Nat){i:Nat}{h:aw}(q:c b i h):cq jX (pq 1169) (mU t d f e g i) h (fZ jX (pq 41) (pq 17) (RR jX (pq 17) (mw (kO d f e) l) s (ez jX [1,0,0] Q))):=
 gP (mU t d f e g) c (λb i F h q=>bF (step b i F h q)) b q
noncomputable def zx:FD:=gT Tryz.f107 [((pq 17),[0,1,2,3,4])]
abbrev qL(a b c:Nat)(t r:OA):LV:=[(.pointer t),(.pointer r),(pA a),(pA b),(pA c)]
theorem XD(a b:OA)(c d e:Nat)(h:aw)(Q:VH)(f:cq zx (pq 17) (qL c d e a b) h (ez zx [1,0,0] Q)):aW 107 [(.pointer a),(.pointer b),(pA c),(pA d),(pA e)] h Q:=gZ zx Tryz.func107 (bF f)
theorem Dw(Y Z:OA)(f c d:Nat)  (b:Nat->OA->OA->aw->Prop) (Q:VH) (step:∀(a:Nat)(t r:OA)(F:Nat->ah)(h:aw),b a t r h->KF au r h λT w=>qF xO 170 T 1 168 w λR=>xB (cm au .neq 168 (.pointer R) (aT none)) λS=>cp S (KF au r w λO x=>qF xA 170 O 0 116 x λP=>xA (cI au 118 [(0,(aq ⟨P⟩)),(1,(.pointer t))]) λM=>xN (iF au 118 (aq ⟨M⟩)) x λV A=>KF au r A λI v=>qF xO 170 I 1 168 v λE=>cB (wz (qL f c d) b) a [(pA (x.ax)),(.pointer E),(pA f),(pA c),(pA d)] v) (aW 68 [(.pointer t)] w λN k=>∃(s:OA)(u g:Nat),∃(m:OA)(n q:Nat),∃(i:OA)(p j:Nat),N=(av ⟨[(ae s u g),(ae m n q),(ae i p j)]⟩)/\xU (aQ au 27 (pA f) (ae s u g) k) k λU l=>xU (aQ au 27 (pA c) (ae m n q) l) l λW o=>xU (aQ au 27 (pA d) (ae i p j) o) o λX e=>xL (aM au 27 e (pA c)) λD C B=>xL (aM au 27 e (pA d)) λz L J=>aW 108 [(ae D C B),(ae z L J)] e λK G=>yB K λH=>Q (ai (!H)) G)) (a:Nat) {t r:OA} {h:aw} (y:b a t r h):cq zx (pq 17) (qL f c d t r) h (ez zx [1,0,0] Q):=
 sK (qL f c d) b (λa t r F h y=>bF (step a t r F h y)) a y
noncomputable def adN:FD:=gT Tryz.f110 []
theorem ZW(f n:LV)(h:aw)(Q:VH)(v:xN (iF au 175 (aq ⟨f⟩)) h λy b=>xN (iF au 175 (aq ⟨n⟩)) b λz c=>mh 175 (pA (h.ax)) 0 27 c λu x w=>mh 175 (pA (b.ax)) 0 27 c λj o s=>aW 108 [(ae u x w),(ae j o s)] c λq a=>yB q λm=>cp m (mh 175 (pA (h.ax)) 1 27 a λr l p=>mh 175 (pA (b.ax)) 1 27 a λg t e=>aW 108 [(ae r l p),(ae g t e)] a λd k=>yB d λi=>Q (ai i) k) (Q (ai ak) a)):aW 110 [(aq ⟨f⟩),(aq ⟨n⟩)] h Q:=gZ adN Tryz.func110 (bF v)
noncomputable def iZ:FD:=gT Tryz.f113 [((pq 143),[4,6])]
abbrev ui(b a:Nat)(z:Unit):LV:=[(pA b),(pA a)]
theorem Wx(A H:LV)(h:aw)(Q:VH)(hx:xN (iF au 175 (aq ⟨A⟩)) h λB1 d=>xN (iF au 116 (aq ⟨H⟩)) d λB3 i=>xN (cD au 175) i λB5 b=>mh 175 (pA (h.ax)) 0 27 (room b 9) λa8 n9 y2=>aW 148 [(ae a8 n9 y2)] (room b 9) λz n=>yL z λT B x7=>xP (bB au 175 (pA (h.ax)) 1) λm=>xL (aM au 27 n (bN m)) λg e f=>aW 148 [(ae g e f)] n λZ l=>yL Z λR S x3=>xA (cI au 175 [(0,(ae T B x7)),(1,(ae R S x3))]) λE=>zN (cD au 175) λp=>xU (aQ au 175 (pA (b.ax+7)) (aq ⟨E⟩) (bS l b.ax [(7,p)])) (bS l b.ax [(7,p)]) λy8 a=>(aM au 27 (room b 9) (bN m)=aa (ae g e f)/\iz 4 (ae g e f) (ae g e f)=af)/\ky 116 (pA (d.ax)) 1 a λK=>cp (decide (K>0)) (mh 175 (pA (b.ax+7)) 0 27 a λL J O=>ky 116 (pA (d.ax)) 1 a λt=>xR (bC au 27 1 [(0,(aA t))]) a λz2 y1 x6 j=>xE (bY au 27 27 (ae L J O) (sA (a.ax) y1 x6) j) j λv x y4 y9 q=>xP (bB au 175 (pA (b.ax+7)) 0) λI=>xU (aQ au 27 (bN I) (ae v x y4) q) q λz3 c=>ky 116 (pA (d.ax)) 2 c λx9=>cp (decide (x9>0)) (mh 175 (pA (b.ax+7)) 1 27 c λU u x4=>ky 116 (pA (d.ax)) 2 c λX=>xR (bC au 27 1 [(0,(aA X))]) c λz1 C x0 o=>xE (bY au 27 27 (ae U u x4) (sA (c.ax) C x0) o) o λx5 x1 D y6 r=>xP (bB au 175 (pA (b.ax+7)) 1) λy0=>xU (aQ au 27 (bN y0) (ae x5 x1 D) r) r λz4 W=>cq iZ (pq 143) [(pA (i.ax)),(pA (b.ax+7))] W (ez iZ (pq 79) Q)) (cq iZ (pq 143) [(pA (i.ax)),(pA (b.ax+7))] c (ez iZ (pq 79) Q))) (ky 116 (pA (d.ax)) 2 a λy3=>cp (decide (y3>0)) (mh 175 (pA (b.ax+7)) 1 27 a λw V x8=>ky 116 (pA (d.ax)) 2 a λM=>xR (bC au 27 1 [(0,(aA M))]) a λz0 P y s=>xE (bY au 27 27 (ae w V x8) (sA (a.ax) P y) s) s λx2 F G y7 k=>xP (bB au 175 (pA (b.ax+7)) 1) λN=>xU (aQ au 27 (bN N) (ae x2 F G) k) k λy5 Y=>cq iZ (pq 143) [(pA (i.ax)),(pA (b.ax+7))] Y (ez iZ (pq 79) Q)) (cq iZ (pq 143) [(pA (i.ax)),(pA (b.ax+7))] a (ez iZ (pq 79) Q)))):aW 113 [(aq ⟨A⟩),(aq ⟨H⟩)] h Q:=gZ iZ Tryz.func113 (bF hx)
theorem CM(Y Z:LV)(b a:Nat)(i:Nat->Unit->aw->Prop)(Q:VH)(step:∀(f:Nat) (z:Unit) (M:Nat->ah) (h:aw),i f z h->mh 175 (pA a) 0 27 h λU K W=>cp (decide ((K:Int)>0)) (mh 175 (pA a) 1 27 h λX L V=>cp (decide ((L:Int)>0)) (mh 175 (pA a) 0 27 (room h 9) λN J H=>vX 27 (ae N J H) (aA 0) (room h 9) λw=>mh 175 (pA a) 1 27 (room h 9) λE v r=>vX 27 (ae E v r) (aA 0) (room h 9) λF=>cp ((w !=F)) (xA (aM au 175 (room h 9) (pA a)) λq=>xU (aQ au 175 (pA b) (aq ⟨q⟩) (room h 9)) (room h 9) λS m=>gI SS [((pA b),aa 175),((ai ak),none)] m Q) (mh 175 (pA a) 0 27 (room (room h 9) 10) λy t o=>xL (cY au 27 (ae y t o) (aa (aA 1)) none none (room (room h 9) 10)) λG I D=>mh 175 (pA a) 1 27 (room (room h 9) 10) λj k l=>xL (cY au 27 (ae j k l) (aa (aA 1)) none none (room (room h 9) 10)) λc e d=>xP (bB au 175 (pA a) 0) λB=>xU (aQ au 27 (bN B) (ae G I D) (room (room h 9) 10)) (room (room h 9) 10) λO g=>xP (bB au 175 (pA a) 1) λp=>xU (aQ au 27 (bN p) (ae c e d) g) g λT A=>(cY au 27 (ae j k l) (aa (aA 1)) none none g=aa (ae c e d)/\iz 4 (ae c e d) (ae c e d)=af)/\cB (mw (ui b a) i) f [(pA b),(pA a)] A)) (xA (aM au 175 h (pA a)) λC=>xU (aQ au 175 (pA b) (aq ⟨C⟩) h) h λR u=>gI SS [((pA b),aa 175),((ai af),none)] u Q)) (xA (aM au 175 h (pA a)) λs=>xU (aQ au 175 (pA b) (aq ⟨s⟩) h) h λP n=>gI SS [((pA b),aa 175),((ai af),none)] n Q))(f:Nat){z:Unit}{h:aw}(x:i f z h):cq iZ (pq 143) (ui b a z) h (ez iZ (pq 79) Q):=
 gP (ui b a) i (λf z M h x=>bF (step f z M h x)) f x
variable{T:aD}
section
theorem Rz{g:aw}{l:List Int}(r:Rd g 3 v (l.map zV)){i:Nat}{z:Int}(a:l[i]?=aa z):∃p:aF,aZ au 27 v (aA (i:Int))=aa (bN p)/\aM au 3 g (bN p)=aa (aA z):=by
 have d:=(List.getElem?_eq_some_iff.1 a).1;obtain⟨p,b,c⟩:=r.at_ fs wu rk ri (k:= an) (i:=(i:Int)) (by omega) (by rw[aG];omega);refine⟨p,b,?_⟩;rw[c,bn,gD,getElem?_map,a];rfl
theorem EB(w:Wf h){a:Option aF}{n c:Nat}{b:Option aF}{m d:Nat}{l l':List Int}(r:Rd h 3 (ae a n c) (l.map zV))(A:Rd h 3 (ae b m d) (l'.map zV))(F:l.length<=1000000000):aW 108 [ae a n c,ae b m d] h (λv g=>v=ai (decide (l=l'))/\Ok h g):=by
 have B:n=l.length:=by have:=r.len;rwa[aG]at this
 have C:m=l'.length:=by have:=A.len;rwa[aG]at this
 refine WG a n c b m d h _ (ay (λq=>?_) (λq=>?_))
 ·refine⟨?_,Ok.refl w⟩;rw[eF];intro e;rw[B,C,e]at q;simp at q
 ·have I:n=m:=by
   have:(n:Int)=m:=by simpa using q
   omega
  refine C0 a n c b m d (λu i g=>i<=l.length/\u=l.length-i/\Ok h g/\l.take i=l'.take i) _ (λu i=>?_) l.length (i:=0) ⟨cr _,rfl,Ok.refl w,by simp⟩;intro K g t;obtain⟨M,rfl,z,o⟩:=t;refine ay (λq=>?_) (λq=>?_)
  ·have q:=dT q;obtain⟨x,f⟩:∃p,l[i]?=aa p:=⟨_,gE (by omega)⟩
   obtain⟨y,s⟩:∃p,l'[i]?=aa p:=⟨_,gE (by omega)⟩
   have j:=z.room 9;obtain⟨L,D,E⟩:=Rz (r.ok j) f;obtain⟨J,G,H⟩:=Rz (A.ok j) s;refine⟨_,D,_,E,_,G,_,H,ay (λk=>?_) (λk=>?_)⟩
   ·refine⟨?_,j⟩;rw[eF];intro e;rw[e,s]at f;obtain rfl:=aC f;simp at k
   ·have e:x=y:=by simpa using k
    subst e;rw[cL (n:=l.length) (by omega) F];refine fG (l.length-(i+1)) (by omega) ⟨by omega,rfl,j,?_⟩;rw[(iI f).2,(iI s).2,o]
  ·have q:=dF q;rw[bm (by omega),bm (by omega)]at o;exact⟨by rw[eT o],z⟩
theorem HR(w:Wf h){v:ah}{l:List Int}(r:Rd h 3 v (l.map zV))(t:l.length<=1000000000):aW 148 [v] h (λx g=>qs h g 3 x (l.map zV)/\Ok h g):=by
 have d:(l.map zV).length=l.length:=aG ..;rcases r with⟨rfl,e⟩|⟨k,a,cs,c,n,rfl,e,j⟩
 ·rw[e];exact Wn h _ ⟨⟨[],iq.nil 3,λp o=>by cases o⟩,Ok.refl w⟩
 ·have r:Rd h 3 (gG k a (l.map zV).length c) (l.map zV):= .inr ⟨k,a,cs,c,n,rfl,e,j⟩;refine Sa ⟨k,a,none⟩ (l.map zV).length c h _ ⟨_,0,0,(by kernel_rfl:bC au 27 0 []=aa (.cells [] 3 1 af,pw 0 0)),?_⟩;obtain⟨b,m,f,u,q,i,s⟩:=UE fs rJ lZ Jt w (x:= gG k a (l.map zV).length c) (aco (r.ok ((Ok.refl w).push _))) (by rw[List.all_map];simp[zV,eY]) (by rw[jV,d];omega) (by rw[d];omega);exact⟨b,m,f,u,q,i,s⟩
structure V2(l cur:List Int)(i j:Int):Prop where
 len:cur.length=l.length
 out:∀p:Nat,p<l.length->((p:Int)<i\/j<(p:Int))->cur[p]?=l[l.length-1-p]?
 mid:∀p:Nat,i<=(p:Int)->(p:Int)<=j->cur[p]?=l[p]?
 sum:i+j=(l.length:Int)-1
theorem V2.done{l a:List Int}{i j:Int}(t:V2 l a i j)(h:j<=i):a=l.reverse:=by
 refine cV λp=>?_;by_cases c:p<l.length
 ·rw[List.getElem?_reverse c];by_cases b:(p:Int)<i\/j<(p:Int)
  ·exact t.out p c b
  ·rw[not_or]at b;have:=t.sum;rw[t.mid p (by omega) (by omega)];congr 1;omega
 ·rw[getElem?_eq_none (by rw[t.len];omega),getElem?_eq_none (by rw[List.length_reverse];omega)]
theorem V2.step{l a:List Int}(t:V2 l a i j)(h:i<j){x y:Int}(k:a[i]?=aa x)(e:a[j]?=aa y):V2 l ((a.set i y).set j x) ((i:Int)+1) ((j:Int)-1):=by
 have o:=t.sum;have c:j<a.length:=(List.getElem?_eq_some_iff.1 e).1;have g:=t.len;have n:=t.mid i (fU _) (by omega);have f:=t.mid j (by omega) (fU _);refine⟨by rw[bT,bT];exact g,λp m s=>?_,λp q r=>?_,by omega⟩
 ·rw[getElem?_set];by_cases b:j=p
  ·subst b;rw[iP rfl,iP (by rw[bT];exact c),<-k,n];congr 1;omega
  ·rw[iN b,getElem?_set];by_cases d:i=p
   ·subst d;rw[iP rfl,iP (by omega),<-e,f];congr 1;omega
   ·rw[iN d];exact t.out p m (by omega)
 ·rw[getElem?_set,iN (by omega),getElem?_set,iN (by omega)];exact t.mid p (by omega) (by omega)
theorem QX{c:Nat}{G:gf}(r:iq T (ae a n c) d G):n=d.length:=by
 obtain⟨e,b,h⟩:=r.rM;injection h
theorem LO{g:aw}{L:List gf}(t:Wf h){a:Option aF}{n c:Nat}{b:List Int}{G:gf}(r:iq 3 (ae a n c) (b.map zV) G)(o:OL h g L){j:Nat}(B:L[j]?=aa G){i:Nat}(s:i<b.length)(y:Int):∃p:aF,aZ au 27 (ae a n c) (aA (i:Int))=aa (bN p)/\∃u:dJ,aQ au 3 (bN p) (aA y) g=aa (undef,u)/\∃d,iq 3 (ae a n c) ((b.set i y).map zV) d/\OL h (u.app g) (L.set j d)/\ng g L (u.app g) (L.set j d):=by
 have v:=QX r;rw[aG]at v;have w:=r;obtain⟨D,⟨_,f,_⟩|⟨k,C,cs,E,l,_⟩⟩:=w
 ·have:b=[]:=by simpa[yx]using f
  subst this;exact absurd s (dH _)
 ·injection l with l hv2 m
  subst l;subst m;obtain⟨u,A,d,f,z⟩:=kK.put (P:=au) (t':=3) wu t (e:=3) (sz:=1) (i:=i) (q:=0) (x:=[zV b[i]]) (v':= aA y) r o B (by unfold yx;rw[getElem?_map,getElem?_map,gE s];rfl) (by omega) rfl rfl;refine⟨_,Gw fs wu (by omega) (by omega),u,by rw[bn];exact A,d,?_,z⟩;have e:(yx (b.map zV)).set i (([zV b[i]]:List ah).set 0 (aA y))=yx ((b.set i y).map zV):=by
   unfold yx;rw[map_set,map_set];rfl
  rw[e]at f;exact f
theorem Cg{g:aw}{L:List gf}(E:Wf h){a:Option aF}{n c:Nat}{l:List Int}{G:gf}(r:iq 3 (ae a n c) (l.map zV) G)(o:OL h g L){k:Nat}(Q:L[k]?=aa G)(hl:l.length<=1000000000):aW 122 [ae a n c] g (λv u=>v=av ⟨[]⟩/\∃f,iq 3 (ae a n c) (l.reverse.map zV) f/\OL h u (L.set k f)/\ng g L u (L.set k f)):=by
 have hn:n=l.length:=by have:=QX r;rwa[aG]at this
 refine TG a n c g _ ?_;rw[cj (by omega) (by omega)];have x:=(List.getElem?_eq_some_iff.1 Q).1;have w:L.set k G=L:=cV λp=>by
  rw[getElem?_set];by_cases e:k=p
  ·subst e;rw[iP rfl,iP x,Q]
  ·rw[iN e]
 refine Ch a n c (λH i j u=>∃b f,V2 l b i j/\iq 3 (ae a n c) (b.map zV) f/\OL h u (L.set k f)/\ng g L u (L.set k f)/\i<=l.length/\H=l.length-i) _ (λH i j=>?_) l.length (i:=0) ⟨l,G,⟨rfl,λp hp ho=>by omega,λp _ _=>rfl,by omega⟩,r,by rw[w];exact o,by rw[w];exact ng.refl _ _,cr _,rfl⟩;intro zz g1 F;obtain⟨b,B,t,y,z,N,hi,rfl⟩:=F;have hs:=t.sum;have x0:=t.len;refine ay (λq=>?_) (λq=>?_)
 ·have q:=dT q;obtain⟨d,rfl⟩:∃d:Nat,j=(d:Int):=⟨j.toNat,by omega⟩
  have S:d<b.length:=by omega
  have s:i<b.length:=by omega
  have K:=gE s;have T:=gE S;have D:(L.set k B)[k]?=aa B:=by rw[getElem?_set,iP rfl,iP x]
  obtain⟨C,c2⟩:=z.grow ((Ok.refl z.ok.wf).room 16);generalize Go.Ab.room g1 16=g2 at*;obtain⟨p1,W,Y⟩:=Rz (y.rd C D) T;obtain⟨Z,A,j2⟩:=Rz (y.rd C D) K;obtain⟨q1,m,u1,s2,R,V,O,P⟩:=LO E y C D s b[d];rw[A]at m;obtain rfl:Z=q1:=by injection m with m;injection m with m;injection m
  refine⟨_,W,_,Y,_,A,_,j2,_,A,u1,s2,?_⟩;rw[set_set]at O P;have M:(L.set k R)[k]?=aa R:=by rw[getElem?_set,iP rfl,iP x]
  obtain⟨q2,s3,U,s4,G4,r4,J,I⟩:=LO E V O M (i:=d) (by rw[bT];exact S) b[i];rw[set_set]at J I;refine⟨_,s3,U,s4,?_⟩;have ts:=t.step (by omega) K T;have X:aj an ((i:Int)+1)=((i+1:Nat):Int):=cL s (by omega);have e2:aj an ((d:Int)-1)=(d:Int)-1:=cj (by omega) (by omega);rw[X,e2];refine pe (l.length-(i+1)) (by omega) ⟨_,G4,?_,r4,J,N.trans (c2.trans (P.trans I)),by omega,rfl⟩;have:((i+1:Nat):Int)=(i:Int)+1:=by omega
  rw[this];exact ts
 ·have q:=dF q;have e:=t.done (by omega);subst e;exact⟨rfl,B,y,z,N⟩
abbrev qk:=List Int×List Int
noncomputable def air:TypeDesc:=(au.underlying 175).getD .bool
theorem agy:au.underlying 175=aa air:=by kernel_rfl
theorem afX:Go.Ab.isAgg au 175=af:=by kernel_rfl
theorem Ck:cd au 175=aa 2:=by kernel_rfl
theorem tB(k o:Nat):bB au 175 (cn k o) 0=aa (cn k (o+0)):=by kernel_rfl
theorem tC(k o:Nat):bB au 175 (cn k o) 1=aa (cn k (o+1)):=by kernel_rfl
def fv(x y:ah):eE:= .cells [x,y] 175 0 af
theorem R7(a:Option aF)(n c:Nat)(b:Option aF)(m d:Nat):iF au 175 (aq ⟨[ae a n c,ae b m d]⟩)=aa (fv (ae a n c) (ae b m d),jL):=by cases a<;>cases b<;>kernel_rfl
section
variable {g:aw} {k:Nat} {x y:ah}
theorem fv.l0(h:g.get k=aa (fv x y)):aM au 27 g (cn k (0+0))=aa x:=da fs lF h (by simp)
theorem fv.l1(h:g.get k=aa (fv x y)):aM au 27 g (cn k (0+1))=aa y:=da fs lF h (by simp)
theorem fv.all(h:g.get k=aa (fv x y)):aM au 175 g (pA k)=aa (aq ⟨[x,y]⟩):=mr agy afX Ck h (by simp)
end
theorem Pg(w:Wf h){a:Option aF}{n c:Nat}{b:Option aF}{m d:Nat}{o:Option aF}{l j:Nat}{r:Option aF}{p k:Nat}{x y:qk}(F:Rd h 3 (ae a n c) (x.1.map zV))(H:Rd h 3 (ae b m d) (x.2.map zV))(D:Rd h 3 (ae o l j) (y.1.map zV))(J:Rd h 3 (ae r p k) (y.2.map zV))(G:x.1.length<=1000000000)(A:x.2.length<=1000000000):aW 110 [aq ⟨[ae a n c,ae b m d]⟩,aq ⟨[ae o l j,ae r p k]⟩] h (λv g=>v=ai (decide (x=y))/\Ok h g):=by
 refine ZW _ _ h _ ⟨_,R7 ..,_,R7 ..,?_⟩;have z:=(Ok.refl w).push (fv (ae a n c) (ae b m d));have i:=cC h (fv (ae a n c) (ae b m d));generalize h.push (fv (ae a n c) (ae b m d))=B at*;have C:=(Ok.refl z.wf).push (fv (ae o l j) (ae r p k));have t:=cC B (fv (ae o l j) (ae r p k));have i:=C.ext _ _ i;have s:=z.trans C;generalize B.push (fv (ae o l j) (ae r p k))=K at*;refine⟨_,tB _ _,_,_,_,fv.l0 i,_,tB _ _,_,_,_,fv.l0 t,(EB s.wf (F.ok s) (D.ok s) G).mono ?_⟩;rintro _ M ⟨rfl,u⟩;have f:=s.trans u;have i:=u.ext _ _ i;have t:=u.ext _ _ t;refine⟨_,rfl,ay (λq=>?_) (λq=>?_)⟩
 ·have q:=dT q;refine⟨_,tC _ _,_,_,_,fv.l1 i,_,tC _ _,_,_,_,fv.l1 t,(EB f.wf (H.ok f) (J.ok f) A).mono ?_⟩;rintro _ L ⟨rfl,I⟩;refine⟨_,rfl,?_,f.trans I⟩;by_cases e:x.2=y.2
  ·rw[eT e,eT (Prod.ext q e)]
  ·rw[eF e,eF (λE=>e (by rw[E]))]
 ·have q:=dF q;exact⟨by rw[eF (λe=>q (by rw[e]))],f⟩
end
variable{p:List Int}
section
theorem ab6{G:gf}(r:iq T v d G):iz 4 v v=af:=by
 obtain⟨_,⟨rfl,_⟩|⟨k,a,cs,c,rfl,_⟩⟩:=r<;>simp[iz]
theorem Jb(r:Rd g T v d):iz 4 v v=af:=by
 rcases r with⟨rfl,_⟩|⟨k,a,cs,c,b,rfl,_⟩<;>simp[iz]
theorem Ov(x:List Int)(c:Int):(x++opt c []).map zV=if c=0 then x.map zV else x.map zV++[zV c]:=by grind[opt]
theorem MU(k:Nat):bB au 116 (pA k) 1=aa (cn k 1):=by rfl
theorem MW(k:Nat):bB au 116 (pA k) 2=aa (cn k 2):=by rfl
theorem pK.l1{m:Mv}(h:g.get k=aa (pK m)):aM au 3 g (cn k 1)=aa (aA m.l):=da rk ri h (by simp[Bj])
theorem pK.l2{m:Mv}(h:g.get k=aa (pK m)):aM au 3 g (cn k 2)=aa (aA m.r):=da rk ri h (by simp[Bj])
theorem Zm:cD au 175=aa (fv nA nA,jL):=by rfl
theorem agR(a:Option aF)(n c:Nat)(b:Option aF)(m d:Nat):cI au 175 [(0,(ae a n c)),(1,(ae b m d))]=aa (aq ⟨[ae a n c,ae b m d]⟩):=by rfl
def aL(k4 k6:Nat)(c b:ah)(d a:gf):List gf:=[[(k4,fv nA nA)],[(k6,fv c b)],d,a]
def AS(h:aw)(k4 k6:Nat)(x y:List Int)(g:aw):Prop:=∃c b d a,OL h g (aL k4 k6 c b d a)/\iq 3 c (x.map zV) d/\iq 3 b (y.map zV) a
def agE(h:aw)(r:Option qk):VH:=λv g=>Ok h g/\((r=none/\∃(a:Option aF)(n c:Nat)(b:Option aF)(m d:Nat),v=av ⟨[aq ⟨[ae a n c,ae b m d]⟩,ai ak]⟩)\/ ∃(e:qk)(a:Option aF)(n c:Nat)(b:Option aF)(m d:Nat),r=aa e/\v=av ⟨[aq ⟨[ae a n c,ae b m d]⟩,ai af]⟩/\qs h g 3 (ae a n c) (e.1.map zV)/\qs h g 3 (ae b m d) (e.2.map zV))
section
variable {h:aw} {k4 k6:Nat}
theorem AS.grow{x:List Int}{a:aw}(s:AS h k4 k6 x p g)(o:Ok g a):AS h k4 k6 x p a:=by
 obtain⟨e,d,f,c,b,r⟩:=s;exact⟨e,d,f,c,(b.grow o).1,r⟩
theorem iJ(a:Option aF)(n c:Nat):(ae a n c).cells = #[ae a n c]:=by rfl
theorem AS.ret(w:Wf h){x y:List Int}{g:aw}(s:AS h k4 k6 x y g)(b:Bool)(Q:VH)(A:∀(a:Option aF) (n c:Nat) (e:Option aF) (m d:Nat) (k:aw),Ok h k->qs h k 3 (ae a n c) (x.map zV)->qs h k 3 (ae e m d) (y.map zV)->Q (av ⟨[aq ⟨[ae a n c,ae e m d]⟩,ai b]⟩) k):xA (aM au 175 g (pA k6)) λq=>xU (aQ au 175 (pA k4) (aq ⟨q⟩) g) g λz l=>gI SS [((pA k4),aa 175),((ai b),none)] l Q:=by
 obtain⟨D,C,B,u,o,t,r⟩:=s;obtain⟨a,c,rfl⟩:=t.rM;obtain⟨e,d,rfl⟩:=r.rM;obtain⟨f,_⟩:=o.uR w 0 rfl (fv (ae a (x.map zV).length c) (ae e (y.map zV).length d));have v:aQ au 175 (pA k4) (aq ⟨[ae a (x.map zV).length c,ae e (y.map zV).length d]⟩) g=aa (undef,.set k4 (fv (ae a (x.map zV).length c) (ae e (y.map zV).length d))):=gL Ck rfl (o.get 0 rfl) rfl (by rfl);refine⟨_,fv.all (o.get 1 rfl),_,v,?_⟩;refine CU (fv.all (f.get 0 rfl)) (A a _ c e _ d _ f.ok ⟨B,t,λp j=>?_⟩ ⟨u,r,λp j=>?_⟩)
 ·exact⟨f.PV (i:=2) rfl p j,f.PM (i:=2) rfl p j⟩
 ·exact⟨f.PV (i:=3) rfl p j,f.PM (i:=3) rfl p j⟩
theorem OW(w:Wf h)(dv ov:List ah){r:Option qk}{x y:List Int}{g:aw}(s:AS h k4 k6 x y g)(I:kZ x y=r):cq iZ (pq 143) [(pA k4),(pA k6)] g (fZ iZ (pq 79) [] (kU iZ (agE h r))):=by
 refine CM dv ov k4 k6 (λmz _ g=>∃x y,AS h k4 k6 x y g/\kZ x y=r/\mz=x.length) _ (λx5 z=>?_) x.length (z:=()) ⟨x,y,s,I,rfl⟩;clear s I x y g;intro zz g W;obtain⟨x,y,s,I,rfl⟩:=W;have S:=s;obtain⟨vl,vr,Gl,Z,o,N,F⟩:=s;have x1:=N.rM;have x0:=F.rM;obtain⟨a,c,rfl⟩:=x1;obtain⟨b,d,rfl⟩:=x0;refine⟨_,tB _ _,_,_,_,fv.l0 (o.get 1 rfl),ay (λq=>?_) (λq=>?_)⟩
 ·have q:=dT q;refine⟨_,tC _ _,_,_,_,fv.l1 (o.get 1 rfl),ay (λG=>?_) (λG=>?_)⟩
  ·have G:=dT G
   cases x with
   |nil=>grind
   |cons u x=>
   cases y with
   |nil=>grind
   |cons v y=>
   obtain⟨C,_⟩:=o.grow ((Ok.refl o.ok.wf).room 9);have s1:=S.grow ((Ok.refl o.ok.wf).room 9);generalize Go.Ab.room g 9=g1 at*;obtain⟨p1,i1,i2⟩:=Rz (N.rd C (i:=2) rfl) (i:=0) (z:=u) rfl;obtain⟨p2,j1,j2⟩:=Rz (F.rd C (i:=3) rfl) (i:=0) (z:=v) rfl;refine⟨_,tB _ _,_,_,_,fv.l0 (C.get 1 rfl),_,i1,_,i2,_,tC _ _,_,_,_,fv.l1 (C.get 1 rfl),_,j1,_,j2,ay (λE=>?_) (λE=>?_)⟩
   ·have E:u≠v:=by simpa using E
    refine s1.ret w ak _ λa n c p m d V H _ _=>⟨H,.inl ⟨?_,_,_,_,_,_,_,rfl⟩⟩
    simp_all[kZ]
   ·have E:u=v:=by simpa using E
    obtain⟨A,_⟩:=C.grow ((Ok.refl C.ok.wf).room 10);generalize Go.Ab.room g1 10=Y at*;obtain⟨l,j,f,t1,x2⟩:=iq.tail (x:=zV u) (vs:=x.map zV) fs wu N (A.PM (i:=2) rfl);obtain⟨p,K,J,M,L⟩:=iq.tail (x:=zV v) (vs:=y.map zV) fs wu F (A.PM (i:=3) rfl);obtain⟨D,_⟩:=A.uR w 1 rfl (fv (ae l j f) (ae b ((v::y).map zV).length d));have U:aQ au 27 (cn k6 (0+0)) (ae l j f) Y=aa (undef,.set k6 (fv (ae l j f) (ae b ((v::y).map zV).length d))):=eu jR (A.get 1 rfl) (by simp) (dD ..) (iJ ..);refine⟨_,tB _ _,_,_,_,fv.l0 (A.get 1 rfl),_,_,_,t1,_,tC _ _,_,_,_,fv.l1 (A.get 1 rfl),_,_,_,M,_,tB _ _,_,U,?_⟩;generalize (dJ.set k6 (fv (ae l j f) (ae b ((v::y).map zV).length d))).app Y=T at*;have D:OL h T (aL k4 k6 (ae l j f) (ae b ((v::y).map zV).length d) Gl Z):=D;obtain⟨o4,_⟩:=D.uR w 1 rfl (fv (ae l j f) (ae p K J));have x3:aQ au 27 (cn k6 (0+1)) (ae p K J) T=aa (undef,.set k6 (fv (ae l j f) (ae p K J))):=eu jR (D.get 1 rfl) (by simp) (dD ..) (iJ ..);obtain⟨b2,m2,d2,t3,x4⟩:=iq.tail (x:=zV v) (vs:=y.map zV) fs wu F (D.PM (i:=3) rfl);have et:cY au 27 (ae b ((v::y).map zV).length d) (aa (aA 1)) none none T=aa (ae p K J):=by
     obtain⟨_,⟨_,hh,_⟩|⟨k,B,cs,f,Q,hG,_,_,e⟩⟩:=F
     ·cases hh
     ·have k1:=A.PM (i:=3) rfl (k,.cells cs 3 1 af) (by rw[hG];exact aX.2 rfl);have k2:=D.PM (i:=3) rfl (k,.cells cs 3 1 af) (by rw[hG];exact aX.2 rfl);injection Q with Q hv2 X
      rw[ja]at e;rw[<-X]at e;rw[Q]at M⊢;rw[<-M];have a1:=xw (P:=au) (t:=27) fs wu (k:=k) (off:=B) (n:=((v::y).map zV).length) (c:=d) (z:=1) k1 (by simp) e;have a2:=xw (P:=au) (t:=27) fs wu (k:=k) (off:=B) (n:=((v::y).map zV).length) (c:=d) (z:=1) k2 (by simp) e;exact a2.trans a1.symm
    refine⟨_,tC _ _,_,x3,⟨et,ab6 L⟩,?_⟩;refine fG (a:=()) x.length (by simp) ⟨x,y,⟨_,_,Gl,Z,o4,x2,L⟩,?_,rfl⟩
    simp_all[kZ]
  ·have G:=dF G;have hy:y=[]:=aY (by grind);refine S.ret w af _ λa n c p m d V H O R=>⟨H,.inr ⟨(x,y),_,_,_,_,_,_,?_,rfl,O,R⟩⟩
   rw[<-I,hy]
   cases x<;>rfl
 ·have q:=dF q;have hx:x=[]:=aY (by grind);refine S.ret w af _ λa n c p m d V H O R=>⟨H,.inr ⟨(x,y),_,_,_,_,_,_,?_,rfl,O,R⟩⟩
  rw[<-I,hx];rfl
def akC(e k4 k6:Nat)(g:aw)(Q:VH):Prop:=xP (bB au 116 (pA e) 2) λo=>xI an (aM au 3 g (bN o)) λs=>cp (decide ((s:Int)>0)) (xP (bB au 175 (pA k6) 1) λq=>xL (aM au 27 g (bN q)) λc m r=>xP (bB au 116 (pA e) 2) λf=>xI an (aM au 3 g (bN f)) λj=>xR (bC au 27 1 [(0,(aA j))]) g λv l d b=>xE (bY au 27 27 (ae c m r) (sA (g.ax) l d) b) b λp h i u a=>xP (bB au 175 (pA k6) 1) λk=>xU (aQ au 27 (bN k) (ae p h i) a) a λt n=>cq iZ (pq 143) [(pA k4),(pA k6)] n (ez iZ (pq 79) Q)) (cq iZ (pq 143) [(pA k4),(pA k6)] g (ez iZ (pq 79) Q))
theorem KW(w:Wf h)(p z:List ah){m:Mv}(T:0<=m.r){v:Nat}{r:Option qk}{x y:List Int}{g:aw}(E:g.get v=aa (pK m))(s:AS h k4 k6 x y g)(P:y.length<=1000000000)(F:kZ x (y++opt m.r [])=r):akC v k4 k6 g (agE h r):=by
 have R:=s;obtain⟨S,Q,n,I,o,f,t⟩:=s;have B:=f.rM;have A:=t.rM;obtain⟨a,c,rfl⟩:=B;obtain⟨b,d,rfl⟩:=A;refine⟨_,MW _,_,pK.l2 E,ay (λq=>?_) (λq=>?_)⟩
 ·have q:=dT q;have N:=cC g (.cells [zV m.r] 3 1 af);obtain⟨H,_⟩:=o.grow ((Ok.refl o.ok.wf).push (.cells [zV m.r] 3 1 af));refine⟨_,tC _ _,_,_,_,fv.l1 (o.get 1 rfl),_,MW _,_,pK.l2 E,_,_,_,qi _,?_⟩;change xE (bY au 27 27 (ae b (y.map zV).length d) (sA g.ax 1 1) (g.push (.cells [zV m.r] 3 1 af))) (g.push (.cells [zV m.r] 3 1 af)) _;generalize g.push (.cells [zV m.r] 3 1 af)=L at*;obtain⟨l,k,i,u,M,O,D,G,e,_⟩:=t.snoc fs rJ lZ Jt w H (j:=3) rfl (x:=zV m.r) rfl N (by rw[jV,aG];omega) (by rw[aG];omega);refine⟨_,_,_,_,M,?_⟩;generalize u.app L=C at*;have e:OL h C (aL k4 k6 (ae a (x.map zV).length c) (ae b (y.map zV).length d) n D):=e;obtain⟨J,_⟩:=e.uR w 1 rfl (fv (ae a (x.map zV).length c) (ae l k i));have K:aQ au 27 (cn k6 (0+1)) (ae l k i) C=aa (undef,.set k6 (fv (ae a (x.map zV).length c) (ae l k i))):=eu jR (e.get 1 rfl) (by simp) (dD ..) (iJ ..);refine⟨_,tC _ _,_,K,?_⟩;refine OW w p z (x:=x) (y:=y++opt m.r []) ⟨_,_,n,D,J,f,?_⟩ F;rw[Ov,iN (by omega)];omega
 ·have q:=dF q;refine OW w p z (x:=x) (y:=y++opt m.r []) ⟨_,_,n,I,o,f,?_⟩ F;rw[Ov,iP (by omega)];omega
theorem Wy(w:Wf h){a:Option aF}{n c:Nat}{b:Option aF}{I H:Nat}{d:qk}{m:Mv}(r1:Rd h 3 (ae a n c) (d.1.map zV))(r2:Rd h 3 (ae b I H) (d.2.map zV))(hl:0<=m.l)(hr:0<=m.r)(z1:d.1.length<=1000000000)(z2:d.2.length<=1000000000):aW 113 [aq ⟨[ae a n c,ae b I H]⟩,aq ⟨Bj m⟩] h (agE h (ue d m)):=by
 refine Wx _ _ h _ ⟨_,R7 ..,_,HL m,_,Zm,?_⟩;have e1:=(Ok.refl w).push (fv (ae a n c) (ae b I H));have E:=cC h (fv (ae a n c) (ae b I H));have n1:(h.push (fv (ae a n c) (ae b I H))).ax=h.ax+1:=rfl;generalize h.push (fv (ae a n c) (ae b I H))=J at*;have e2:=(Ok.refl e1.wf).push (pK m);have b2:=cC J (pK m);have E:=e2.ext _ _ E;have n2:(J.push (pK m)).ax=J.ax+1:=rfl;have x5:=e1.trans e2;generalize J.push (pK m)=g at*;have M:=(Ok.refl e2.wf).push (fv nA nA);have b4:=cC g (fv nA nA);have E:=M.ext _ _ E;have b2:=M.ext _ _ b2;have n3:(g.push (fv nA nA)).ax=g.ax+1:=rfl;have V:=x5.trans M;generalize g.push (fv nA nA)=f at*;have C:=(Ok.refl M.wf).room 9;have n4:(Go.Ab.room f 9).ax=f.ax+9:=rfl;refine⟨_,tB _ _,_,_,_,fv.l0 (C.ext _ _ E),(HR C.wf (r1.ok (V.trans C)) z1).mono ?_⟩;rintro v5 S ⟨⟨l,Y,pl⟩,K⟩;obtain⟨v,z,rfl⟩:=Y.rM;have X:=(V.trans C).trans K;refine⟨_,_,_,rfl,_,tC _ _,_,_,_,fv.l1 (K.ext _ _ (C.ext _ _ E)),(HR K.wf (r2.ok X) z2).mono ?_⟩;rintro v6 t ⟨⟨i,N,pr⟩,R⟩;obtain⟨r,s,rfl⟩:=N.rM;have n5:=K.nx;have n6:=R.nx;refine⟨_,_,_,rfl,_,agR ..,_,Zm,?_⟩;have x0:bS t f.ax [(7,fv nA nA)]=t.set (f.ax+7) (fv nA nA):=rfl;dsimp only;rw[x0];have L:∀k B,f.get k=aa B->(t.set (f.ax+7) (fv nA nA)).get k=aa B:=λk B D=>by
  have:=M.wf _ _ D;rw[aw.bZ,iN (by omega)];exact R.ext _ _ (K.ext _ _ (C.ext _ _ D))
 have x6:Ok h (t.set (f.ax+7) (fv nA nA)):=(X.trans R).set _ (by omega) (by omega) w;have gs:(t.set (f.ax+7) (fv nA nA)).get (f.ax+7)=aa (fv nA nA):=by rw[aw.bZ,iP rfl]
 have U:∀p∈l,f.ax+9<=p.1/\(t.set (f.ax+7) (fv nA nA)).get p.1=aa p.2/\p.1<S.ax:=λp o=>by
  have Q:=(pl p o).1;have h2:=(pl p o).2;refine⟨by omega,?_,K.wf _ _ h2⟩;rw[aw.bZ,iN (by omega)];exact R.ext _ _ h2
 have x4:∀p∈i,S.ax<=p.1/\(t.set (f.ax+7) (fv nA nA)).get p.1=aa p.2:=λp o=>by
  have Q:=(pr p o).1;refine⟨Q,?_⟩;rw[aw.bZ,iN (by omega)]
  grind
 have x1:=L _ _ b2;have y1:=L _ _ b4;generalize t.set (f.ax+7) (fv nA nA)=P at*;have st:aQ au 175 (pA (f.ax+7)) (aq ⟨[ae v (d.1.map zV).length z,ae r (d.2.map zV).length s]⟩) P=aa (undef,.set (f.ax+7) (fv (ae v (d.1.map zV).length z) (ae r (d.2.map zV).length s))):=gL Ck rfl gs rfl (by rfl);have y0:f.ax=g.ax+1:=n3;have o7:OL h P (aL g.ax (f.ax+7) nA nA l i):=by
  refine⟨x6,?_,λk D=>?_,λp o=>?_⟩
  ·have e:keys (aL g.ax (f.ax+7) nA nA l i)=g.ax::(f.ax+7)::(l.map (·.1)++i.map (·.1)):=by unfold keys aL;simp
   rw[e];have hl:∀k∈l.map (·.1),f.ax+9<=k/\k<S.ax:=λk D=>by
    obtain⟨p,o,rfl⟩:=dZ.1 D;exact⟨(U p o).1,(U p o).2.2⟩
   have y2:∀k∈i.map (·.1),S.ax<=k:=λk D=>by
    obtain⟨p,o,rfl⟩:=dZ.1 D;exact(x4 p o).1
   refine nodup_cons.2 ⟨λO=>?_,nodup_cons.2 ⟨λO=>?_,List.nodup_append.2 ⟨Y.nd,N.nd,λx hx y hy e=>?_⟩⟩⟩
   all_goals grind
  ·have e:keys (aL g.ax (f.ax+7) nA nA l i)=g.ax::(f.ax+7)::(l.map (·.1)++i.map (·.1)):=by unfold keys aL;simp
   grind
  ·unfold aL at o
   grind
 have m7:Im P (aL g.ax (f.ax+7) nA nA l i) J.ax (pK m):=by
  refine⟨x1,λO=>?_⟩;have e:keys (aL g.ax (f.ax+7) nA nA l i)=g.ax::(f.ax+7)::(l.map (·.1)++i.map (·.1)):=by unfold keys aL;simp
  rw[e]at O;rcases cO.1 O with Q|Q
  ·omega
  ·grind
 obtain⟨G,c8⟩:=o7.uR w 1 rfl (fv (ae v (d.1.map zV).length z) (ae r (d.2.map zV).length s));refine⟨_,st,⟨fv.l1 (C.ext _ _ E),Jb r2⟩,?_⟩;generalize (dJ.set (f.ax+7) (fv (ae v (d.1.map zV).length z) (ae r (d.2.map zV).length s))).app P=A at*;have G:OL h A (aL g.ax (f.ax+7) (ae v (d.1.map zV).length z) (ae r (d.2.map zV).length s) l i):=G;have T:Im A (aL g.ax (f.ax+7) (ae v (d.1.map zV).length z) (ae r (d.2.map zV).length s) l i) J.ax (pK m):=c8 _ _ m7;refine⟨_,MU _,_,pK.l1 T.1,ay (λq=>?_) (λq=>?_)⟩
 ·have q:=dT q;have k3:=cC A (.cells [zV m.l] 3 1 af);obtain⟨o9,c9⟩:=G.grow ((Ok.refl G.ok.wf).push (.cells [zV m.l] 3 1 af));refine⟨_,tB _ _,_,_,_,fv.l0 (G.get 1 rfl),_,MU _,_,pK.l1 T.1,_,_,_,qi _,?_⟩;change xE (bY au 27 27 (ae v (d.1.map zV).length z) (sA A.ax 1 1) (A.push (.cells [zV m.l] 3 1 af))) (A.push (.cells [zV m.l] 3 1 af)) _;generalize A.push (.cells [zV m.l] 3 1 af)=g9 at*;obtain⟨b',n',Z,u,p1,p2,G',x9,F,x8⟩:=Y.snoc fs rJ lZ Jt w o9 (j:=2) rfl (x:=zV m.l) rfl k3 (by rw[jV,aG];omega) (by rw[aG];omega);refine⟨_,_,_,_,p1,?_⟩;generalize u.app g9=W at*;have F:OL h W (aL g.ax (f.ax+7) (ae v (d.1.map zV).length z) (ae r (d.2.map zV).length s) G' i):=F;have x3:=x8 _ _ (c9 _ _ T);obtain⟨x2,x7⟩:=F.uR w 1 rfl (fv (ae b' n' Z) (ae r (d.2.map zV).length s));have st:aQ au 27 (cn (f.ax+7) (0+0)) (ae b' n' Z) W=aa (undef,.set (f.ax+7) (fv (ae b' n' Z) (ae r (d.2.map zV).length s))):=eu jR (F.get 1 rfl) (by simp) (dD ..) (iJ ..);refine⟨_,tB _ _,_,st,?_⟩;refine KW w [] [] hr (x7 _ _ x3).1 (x:=d.1++opt m.l []) ⟨_,_,G',i,x2,?_,N⟩ z2 rfl;rw[Ov,iN (by omega)];omega
 ·have q:=dF q;refine KW w [] [] hr T.1 (x:=d.1++opt m.l []) ⟨_,_,l,i,G,?_,N⟩ z2 rfl;rw[Ov,iP (by omega)];omega
end
end
section
def Hm(m:Mv)(p:Option aF):eE:= .cells (Bj m++[.pointer p]) 118 0 af
inductive yD(I:Nat->eE->Prop):Option aF->List Mv->Prop
 |nil:yD I none []
 |cons {k:Nat} {p:Option aF} {m:Mv} {ms:List Mv} (h:I k (Hm m p)) (r:yD I p ms):yD I (aa ⟨k,0,none⟩) (m::ms)
theorem yD.mono{I I':Nat->eE->Prop}(b:∀k B,I k B->I' k B){p:Option aF}{a:List Mv}(r:yD I p a):yD I' p a:=by
 induction r with
 |nil=>exact .nil
 |cons h _ c=>exact .cons (b _ _ h) c
def aez(m:Mv):Prop:=0<=m.i/\0<=m.l/\0<=m.r
theorem ac2:∀a:List Mv,wI a.reverse=(wI a).reverse
 |[]=>rfl
 |m::a=>by
  rw[List.reverse_cons,ac1,ac2 a]
  grind[opt,wI]
theorem ac3:∀a:List Mv,wL a.reverse=(wL a).reverse
 |[]=>rfl
 |m::a=>by
  rw[List.reverse_cons,JA,ac3 a]
  grind[opt,wL]
theorem ac4:∀a:List Mv,wR a.reverse=(wR a).reverse
 |[]=>rfl
 |m::a=>by
  rw[List.reverse_cons,JB,ac4 a]
  grind[opt,wR]
theorem eZ(f:Mv->Int):∀a:List Mv,(a.foldr (λm x=>opt (f m) x) []).length<=a.length
 |[]=>aS _
 |m::a=>by
  have:=eZ f a
  grind[opt]
theorem agw:au.underlying 112=aa (.pointer 118):=by rfl
theorem afV:Go.Ab.isAgg au 112=ak:=by rfl
theorem akj:au.underlying 186=aa (.pointer 27):=by rfl
theorem aiG:Go.Ab.isAgg au 186=ak:=by rfl
theorem ahD(a:Option aF):cm au .neq 112 (.pointer a) (aT none)=aa (.bool !a.isNone):=by cases a<;>kernel_rfl
theorem MX(k:Nat):bB au 118 (pA k) 0=aa (pA k):=by rfl
theorem ad6(k:Nat):bB au 118 (pA k) 1=aa (cn k 3):=by rfl
theorem ad5(k:Nat):bB au 116 (pA k) 0=aa (pA k):=by rfl
section
variable {g:aw} {k:Nat} {m:Mv} {p:Option aF}
theorem Hm.l0(h:g.get k=aa (Hm m p)):aM au 3 g (pA k)=aa (aA m.i):=da rk ri h (by grind)
theorem Hm.l1(h:g.get k=aa (Hm m p)):aM au 3 g (cn k 1)=aa (aA m.l):=da rk ri h (by simp[Bj])
theorem Hm.l2(h:g.get k=aa (Hm m p)):aM au 3 g (cn k 2)=aa (aA m.r):=da rk ri h (by simp[Bj])
theorem Hm.l3(h:g.get k=aa (Hm m p)):aM au 112 g (cn k 3)=aa (.pointer p):=da agw afV h (by simp[Bj])
end
theorem R2(n:Int)(k:Nat):cI au 187 [(0,(aA n)),(1,(pA k))]=aa (aq ⟨[aA n,pA k]⟩):=by rfl
theorem agS(a b c:Int)(x y z:Nat):cI au 188 [(0,(aq ⟨[aA a,pA x]⟩)),(1,(aq ⟨[aA b,pA y]⟩)),(2,(aq ⟨[aA c,pA z]⟩))]=aa (aq ⟨[aA a,pA x,aA b,pA y,aA c,pA z]⟩):=by kernel_rfl
theorem aeh(a b c:Int)(x y z:Nat):dR au 188 (aq ⟨[aA a,pA x,aA b,pA y,aA c,pA z]⟩) (iA 0)=aa (aq ⟨[aA a,pA x]⟩):=by rfl
theorem aei(a b c:Int)(x y z:Nat):dR au 188 (aq ⟨[aA a,pA x,aA b,pA y,aA c,pA z]⟩) (iA 1)=aa (aq ⟨[aA b,pA y]⟩):=by rfl
theorem aej(a b c:Int)(x y z:Nat):dR au 188 (aq ⟨[aA a,pA x,aA b,pA y,aA c,pA z]⟩) (iA 2)=aa (aq ⟨[aA c,pA z]⟩):=by rfl
def CE(n:Int)(k:Nat):eE:= .cells [aA n,pA k] 187 0 af
def VR:eE:= .cells [aA 0,aT none] 187 0 af
theorem aiP:cD au 187=aa (VR,jL):=by rfl
theorem aic:cd au 187=aa 2:=by rfl
theorem UW(k:Nat):bB au 187 (pA k) 0=aa (pA k):=by rfl
theorem UX(k:Nat):bB au 187 (pA k) 1=aa (cn k 1):=by rfl
theorem CE.l0{g:aw}{k:Nat}(h:g.get k=aa (CE z n)):aM au 3 g (pA k)=aa (aA z):=da rk ri h (by simp)
theorem CE.l1{g:aw}{k:Nat}(h:g.get k=aa (CE z n)):aM au 186 g (cn k 1)=aa (pA n):=da akj aiG h (by simp)
theorem Z6{a b c:ah}{t d:aD}{j:ah}{h:aw}(f:aM X.P t h a=aa v)(i:aM X.P T h b=aa w)(e:aM X.P d h c=aa j)(g:Q (av ⟨[v,w,j]⟩) h):gI X [(a,aa t),(b,aa T),(c,aa d)] h Q:=by
 unfold gI;simp only[QU,f,i,e];exact g
section
variable {h:aw}
def qj(k:Nat)(v:ah):gf:=[(k,.cells [v] 27 0 af)]
theorem ac5(w:Wf h){g:aw}{L:List gf}(o:OL h g L){s l:Nat}{v:ah}{G:gf}{x:List Int}(F:L[s]?=aa (qj l v))(T:L[s+3]?=aa G)(r:iq 3 v (x.map zV) G)(V:x.length<=1000000000)(c:Int):
  ∃(a:Option aF)(n cc:Nat),aM au 27 (Go.Ab.room g 12) (pA l)=aa (ae a n cc)/\∃(b:Option aF)(f d:Nat)(u:dJ),bY au 27 27 (ae a n cc) (sA (g.ax+8) 1 1) (bS (Go.Ab.room g 12) g.ax [(8,.cells [aA c] 3 1 af)])=aa (ae b f d,u)/\ng g L (u.app (bS (Go.Ab.room g 12) g.ax [(8,.cells [aA c] 3 1 af)])) (L.set (s+3) [])/\
   ∃A:dJ,aQ au 27 (pA l) (ae b f d) (u.app (bS (Go.Ab.room g 12) g.ax [(8,.cells [aA c] 3 1 af)]))=aa (undef,A)/\∃q,iq 3 (ae b f d) ((x++[c]).map zV) q/\OL h (A.app (u.app (bS (Go.Ab.room g 12) g.ax [(8,.cells [aA c] 3 1 af)]))) ((L.set (s+3) q).set s (qj l (ae b f d))):=by
 obtain⟨a,cc,rfl⟩:=r.rM;have Q:=(o.grow ((Ok.refl o.ok.wf).room 12)).1;refine⟨a,_,cc,da fs lF (Q.get s F) (by simp),?_⟩;obtain⟨H,N,J⟩:=o.SD (n:=12) (j:=8) (by omega) (.cells [aA c] 3 1 af);generalize bS (Go.Ab.room g 12) g.ax [(8,.cells [aA c] 3 1 af)]=D at*;obtain⟨b,f,d,u,S,U,q,y,C,P⟩:=r.snoc fs rJ lZ Jt w H T (x:= aA c) rfl J.1 (by grind[jV]) (by grind);have O:ng D L (u.app D) (L.set (s+3) []):=λk B m=>by
  have:=P k B m;refine⟨this.1,λI=>this.2 ?_⟩;obtain⟨p,R,rfl⟩:=dZ.1 I;obtain⟨X,M,z⟩:=List.mem_flatten.1 R;refine mem_keys (List.mem_flatten.2 ⟨X,?_,z⟩);obtain⟨j,E⟩:=List.getElem?_of_mem M;rw[getElem?_set]at E;by_cases e:s+3=j
  ·grind
  ·rw[iN e]at E;exact aI (i:=j) (by grind)
 refine⟨b,f,d,u,S,N.trans O,?_⟩;have t:(L.set (s+3) q)[s]?=aa (qj l (ae a (x.map zV).length cc)):=by rw[getElem?_set,iN (by omega)];exact F
 obtain⟨K,_⟩:=C.uR w s t (.cells [ae b f d] 27 0 af);exact⟨_,eu jR (C.get s t) (by simp) (dD ..) (iJ ..),q,by rw[bU];exact y,K⟩
def aly(e i f:Nat)(c a d:ah)(b h g:gf):List gf:=[qj e c,qj i a,qj f d,b,h,g]
def WS(h:aw)(i k j:Nat)(x y z:List Int)(g:aw):Prop:=∃c a d b f e,OL h g (aly i k j c a d b f e)/\iq 3 c (x.map zV) b/\iq 3 a (y.map zV) f/\iq 3 d (z.map zV) e
theorem WS.grow{x y z:List Int}{g a:aw}(s:WS h n i j x y z g)(o:Ok g a):WS h n i j x y z a:=by
 obtain⟨e,b,f,c,l,k,d,r⟩:=s;exact⟨e,b,f,c,l,k,(d.grow o).1,r⟩
def aiw(h:aw)(x y z:List Int):VH:=λv g=>Ok h g/\∃(a:Option aF)(n c:Nat)(j:Option aF)(i f:Nat)(d:Option aF)(b e:Nat),v=av ⟨[ae a n c,ae j i f,ae d b e]⟩/\qs h g 3 (ae a n c) (x.map zV)/\qs h g 3 (ae j i f) (y.map zV)/\qs h g 3 (ae d b e) (z.map zV)
def Ea(i j:Nat)(c:Int):List Int:=if j<i then opt c []else[]
theorem ac6(w:Wf h){t:Option aF}{E:List Mv}(K:yD (λk B=>h.get k=aa B) t E)(nn:∀m∈E,aez m)(hl:E.length<=1000000):aW 68 [.pointer t] h (aiw h (wI E.reverse) (wL E.reverse) (wR E.reverse)):=by
 refine Uf t h _ ⟨_,OY,_,OY,_,OY,?_⟩;obtain⟨O,_⟩:=(OL.nil (Ok.refl w)).push (.cells [nA] 27 0 af);have n1:(h.push (.cells [nA] 27 0 af)).ax=h.ax+1:=rfl;generalize h.push (.cells [nA] 27 0 af)=g1 at*;obtain⟨o2,_⟩:=O.push (.cells [nA] 27 0 af);generalize g1.push (.cells [nA] 27 0 af)=d at*;obtain⟨o3,_⟩:=o2.push (.cells [nA] 27 0 af);generalize d.push (.cells [nA] 27 0 af)=g3 at*;obtain⟨F,_⟩:=o3.gr 3;generalize h.ax=f at*;generalize g1.ax=l at*;generalize d.ax=j at*;have s0:WS h f l j [] [] [] g3:=⟨nA,nA,nA,[],[],[],F,iq.nil 3,iq.nil 3,iq.nil 3⟩
 clear O o2 o3 F n1;refine Cl t f l j (λmz t' g=>∃c H,E=c++H/\yD (λk B=>h.get k=aa B) t' H/\WS h f l j (wI c) (wL c) (wR c) g/\mz=H.length) _ (λmz t'=>?_) E.length ⟨[],E,rfl,K,s0,rfl⟩;clear s0 K;intro zz g x4;obtain⟨c,H,rfl,K,s,rfl⟩:=x4;refine⟨_,ahD t',ay (λq=>?_) (λq=>?_)⟩
 ·cases K with
  |nil=>cases q
  |@cons k p m H hk K=>
  obtain⟨i0,l0,r0⟩:=nn m (by simp);have y5:c.length+H.length<1000000:=by rw[bg,bP]at hl;omega
  have sR:=s.grow ((Ok.refl (by obtain⟨_,_,_,_,_,_,o,_⟩:=s;exact o.ok.wf)).room 20);generalize Go.Ab.room g 20=g1 at*;have N:∀{g:aw}{x y z:List Int},WS h f l j x y z g->g.get k=aa (Hm m p):=λ{g} {x y z} s=>by
   obtain⟨_,_,_,_,_,_,o,_⟩:=s;exact o.ok.ext _ _ hk
  refine nc ⟨_,MX _,_,ad5 _,_,Hm.l0 (N sR),_,R2 _ _,nc ⟨_,MX _,_,MU _,_,Hm.l1 (N sR),_,R2 _ _,nc ⟨_,MX _,_,MW _,_,Hm.l2 (N sR),_,R2 _ _,_,agS _ _ _ _ _ _,?_⟩⟩⟩;refine Cm t (aa ⟨k,0,none⟩) f l j _ _ _ (λx1 i g=>i<=3/\x1=3-i/\WS h f l j (wI c++Ea i 0 m.i) (wL c++Ea i 1 m.l) (wR c++Ea i 2 m.r) g) _ (λx1 i=>?_) 3 (i:=0) ⟨by omega,rfl,by grind[Ea]⟩;clear sR s;intro y6 d x3;obtain⟨hi,rfl,s⟩:=x3;refine ay (λY=>?_) (λY=>?_)
  ·have Y:=dT Y;have x0:i=0\/i=1\/i=2:=by omega
   have bI:=eZ Mv.i c;have bL:=eZ Mv.l c;have bR:=eZ Mv.r c;have bI:(wI c).length<=c.length:=bI;have bL:(wL c).length<=c.length:=bL;have bR:(wR c).length<=c.length:=bR;have x2:∃(L:List gf)(n:Int)(r D:Nat)(v:ah)(G:gf)(x:List Int),OL h d L/\L[D]?=aa (qj r v)/\L[D+3]?=aa G/\iq 3 v (x.map zV) G/\x.length<=1000000000/\dR au 188 (aq ⟨[aA m.i,pA f,aA m.l,pA l,aA m.r,pA j]⟩) (iA i)=aa (aq ⟨[aA n,pA r]⟩)/\0<=n/\
     ∀(J:ah)(C:gf)(W:aw),iq 3 J ((x++opt n []).map zV) C->OL h W ((L.set (D+3) C).set D (qj r J))->WS h f l j (wI c++Ea (i+1) 0 m.i) (wL c++Ea (i+1) 1 m.l) (wR c++Ea (i+1) 2 m.r) W:=by
    obtain⟨v2,v3,v4,G2,G3,G4,o,r2,r3,r4⟩:=s;rcases x0 with rfl|rfl|rfl
    ·refine⟨_,m.i,f,0,v2,G2,wI c,o,rfl,rfl,(by simpa[Ea]using r2),(by omega),aeh _ _ _ _ _ _,i0,λJ C W M o'=>⟨J,v3,v4,C,G3,G4,o',?_,?_,?_⟩⟩
     all_goals grind[Ea]
    ·refine⟨_,m.l,l,1,v3,G3,wL c,o,rfl,rfl,(by simpa[Ea]using r3),(by omega),aei _ _ _ _ _ _,l0,λJ C W M o'=>⟨v2,J,v4,G2,C,G4,o',?_,?_,?_⟩⟩
     all_goals grind[Ea]
    ·refine⟨_,m.r,j,2,v4,G4,wR c,o,rfl,rfl,(by simpa[Ea]using r4),(by omega),aej _ _ _ _ _ _,r0,λJ C W M o'=>⟨v2,v3,J,G2,G3,C,o',?_,?_,?_⟩⟩
     all_goals grind[Ea]
   obtain⟨L,n,r,D,v,G,x,o,h1,h2,y3,y2,x6,y7,fin⟩:=x2;refine⟨_,x6,_,aiP,?_⟩;have kb:=cC d VR;have eb:Ok d ((dJ.set d.ax (CE n r)).app (d.push VR)):=((Ok.refl o.ok.wf).push _).set _ (aS _) (eD _) o.ok.wf;have Z:Im ((dJ.set d.ax (CE n r)).app (d.push VR)) L d.ax (CE n r):=o.new (aS _) (by show((d.push _).set _ _).get _=_;rw[aw.bZ,iP rfl]);have O:=(o.grow eb).1;have st:aQ au 187 (pA d.ax) (aq ⟨[aA n,pA r]⟩) (d.push VR)=aa (undef,.set d.ax (CE n r)):=gL aic rfl kb rfl rfl;refine⟨_,st,?_⟩;generalize (dJ.set d.ax (CE n r)).app (d.push VR)=g3 at*;refine⟨_,UW _,_,CE.l0 Z.1,ay (λV=>?_) (λV=>?_)⟩
   ·have V:=dT V;obtain⟨oR,cR⟩:=O.grow ((Ok.refl O.ok.wf).room 12);have mR:=cR _ _ Z;obtain⟨a,n1,cc,l1,b,n',c',u,ap,cg,u',y0,C,M,o5⟩:=ac5 w O h1 h2 y3 y2 n;have mA:=cg _ _ Z;refine⟨_,UX _,_,CE.l1 mR.1,_,UX _,_,CE.l1 mR.1,nc ⟨a,n1,cc,l1,_,UW _,_,CE.l0 mR.1,_,_,_,qi _,b,n',c',u,ap,nc ⟨u',y0,⟨CE.l1 mA.1,by simp[iz]⟩,?_⟩⟩⟩;rw[wo (n:=3) (by omega) (by omega)];refine fG (3-(i+1)) (by omega) ⟨by omega,rfl,fin _ C _ ?_ o5⟩
    grind[vD]
   ·have V:=dF V;rw[wo (n:=3) (by omega) (by omega)];refine fG (3-(i+1)) (by omega) ⟨by omega,rfl,fin v G _ ?_ ?_⟩
    ·grind[kj]
    ·have e1:L.set (D+3) G=L:=cV λp=>by
      rw[getElem?_set];by_cases e:D+3=p
      ·subst e;rw[iP rfl,iP (List.getElem?_eq_some_iff.1 h2).1,h2]
      ·rw[iN e]
     have e2:L.set D (qj r v)=L:=cV λp=>by
      rw[getElem?_set];by_cases e:D=p
      ·subst e;rw[iP rfl,iP (List.getElem?_eq_some_iff.1 h1).1,h1]
      ·rw[iN e]
     grind
  ·have Y:=dF Y;have x0:i=3:=by omega
   subst x0;refine nc ⟨_,ad6 _,_,Hm.l3 (N s),?_⟩;refine fG H.length (by simp) ⟨c++[m],H,by simp,K,?_,rfl⟩
   grind[ac1,JA,JB,wI,Ea,wL,wR]
 ·cases K with
  |cons hk K=>cases q
  |nil=>
  rw[cF]at hl nn;rw[cF];obtain⟨v2,v3,v4,G2,G3,G4,o,r2,r3,r4⟩:=s;obtain⟨P,U,rfl⟩:=r2.rM;obtain⟨R,T,rfl⟩:=r3.rM;obtain⟨S,Q,rfl⟩:=r4.rM;have bI:(wI c).length<=c.length:=eZ Mv.i c;have bL:(wL c).length<=c.length:=eZ Mv.l c;have bR:(wR c).length<=c.length:=eZ Mv.r c;refine⟨_,_,_,da fs lF (o.get 0 rfl) (by simp),(Cg w r2 o (k:=3) rfl (by omega)).mono ?_⟩;rintro _ d ⟨rfl,x7,x5,o2,_⟩;refine⟨rfl,_,_,_,da fs lF (o2.get 1 rfl) (by simp),(Cg w r3 o2 (k:=4) rfl (by omega)).mono ?_⟩;rintro _ g3 ⟨rfl,y4,x9,o3,_⟩;refine⟨rfl,_,_,_,da fs lF (o3.get 2 rfl) (by simp),(Cg w r4 o3 (k:=5) rfl (by omega)).mono ?_⟩;rintro _ X ⟨rfl,y1,x8,F,_⟩;have l2:aM au 27 X (pA f)=aa (ae P ((wI c).map zV).length U):=da fs lF (F.get 0 rfl) (by simp);have l3:aM au 27 X (pA l)=aa (ae R ((wL c).map zV).length T):=da fs lF (F.get 1 rfl) (by simp);have l4:aM au 27 X (pA j)=aa (ae S ((wR c).map zV).length Q):=da fs lF (F.get 2 rfl) (by simp);obtain⟨o5,_⟩:=F.uR w 0 rfl (.cells [ae P ((wI c).map zV).length U] 27 0 af);have s5:aQ au 27 (pA f) (ae P ((wI c).map zV).length U) X=aa (undef,.set f (.cells [ae P ((wI c).map zV).length U] 27 0 af)):=eu jR (F.get 0 rfl) (by simp) (dD ..) (iJ ..);refine⟨rfl,_,_,_,l2,_,_,_,l3,_,_,_,l4,_,s5,?_⟩;generalize (dJ.set f (.cells [ae P ((wI c).map zV).length U] 27 0 af)).app X=g5 at*;obtain⟨o6,_⟩:=o5.uR w 1 rfl (.cells [ae R ((wL c).map zV).length T] 27 0 af);have s6:aQ au 27 (pA l) (ae R ((wL c).map zV).length T) g5=aa (undef,.set l (.cells [ae R ((wL c).map zV).length T] 27 0 af)):=eu jR (o5.get 1 rfl) (by simp) (dD ..) (iJ ..);refine⟨_,s6,?_⟩;generalize (dJ.set l (.cells [ae R ((wL c).map zV).length T] 27 0 af)).app g5=g6 at*;obtain⟨A,_⟩:=o6.uR w 2 rfl (.cells [ae S ((wR c).map zV).length Q] 27 0 af);have s7:aQ au 27 (pA j) (ae S ((wR c).map zV).length Q) g6=aa (undef,.set j (.cells [ae S ((wR c).map zV).length Q] 27 0 af)):=eu jR (o6.get 2 rfl) (by simp) (dD ..) (iJ ..);refine⟨_,s7,?_⟩;generalize (dJ.set j (.cells [ae S ((wR c).map zV).length Q] 27 0 af)).app g6=g7 at*;rw[ac2,ac3,ac4];refine Z6 (da fs lF (A.get 0 rfl) (by simp)) (da fs lF (A.get 1 rfl) (by simp)) (da fs lF (A.get 2 rfl) (by simp)) ⟨A.ok,P,_,U,R,_,T,S,_,Q,rfl,⟨x7,x5,λp I=>⟨A.PV (i:=3) rfl p I,A.PM (i:=3) rfl p I⟩⟩,⟨y4,x9,λp I=>⟨A.PV (i:=4) rfl p I,A.PM (i:=4) rfl p I⟩⟩,⟨y1,x8,λp I=>⟨A.PV (i:=5) rfl p I,A.PM (i:=5) rfl p I⟩⟩⟩
end
end
section
theorem ad7(k:Nat):bB au 170 (pA k) 0=aa (pA k):=by kernel_rfl
theorem MY(k:Nat):bB au 170 (pA k) 1=aa (cn k 3):=by kernel_rfl
theorem yz.l3{m:Mv}{p:Option aF}(h:g.get k=aa (yz m p)):aM au 168 g (cn k 3)=aa (.pointer p):=da Rr OX h (by simp[Bj])
theorem yz.mv{m:Mv}{p:Option aF}(h:g.get k=aa (yz m p)):aM au 116 g (pA k)=aa (aq ⟨Bj m⟩):=mr agx afW acx h (by simp[Bj])
theorem ZC(m:Mv)(p:Option aF):cI au 118 [(0,(aq ⟨Bj m⟩)),(1,(.pointer p))]=aa (aq ⟨Bj m++[.pointer p]⟩):=by cases p<;>kernel_rfl
theorem ZF(m:Mv)(p:Option aF):iF au 118 (aq ⟨Bj m++[.pointer p]⟩)=aa (Hm m p,jL):=by cases p<;>kernel_rfl
def Td(L:List gf)(a b c:Nat)(x y z:ah):List gf:=((L.set 0 (qj a x)).set 1 (qj b y)).set 2 (qj c z)
def ahK(h0 g:aw)(L:List gf)(b c d:Nat)(p:List Mv):VH:=λv a=>∃(x y z:ah),v=ai (!decide (wL p=wR p))/\OL h0 a (Td L b c d x y z)/\ng g L a (Td L b c d x y z)/\ua a (Td L b c d x y z) 3 x ((wI p).map zV)/\ua a (Td L b c d x y z) 3 y ((wL p).map zV)/\ua a (Td L b c d x y z) 3 z ((wR p).map zV)
section
variable {h0:aw}
theorem XE(V:Wf h0){g:aw}{L:List gf}(o:OL h0 g L){i h j:Nat}{v0 v1 v2:ah}(c0:L[0]?=aa (qj i v0))(c1:L[1]?=aa (qj h v1))(c2:L[2]?=aa (qj j v2)){t:Option aF}{y ns:List Mv}{A:Nat}(G:yD (Im g L) t y)(F:Ht (Im g L) A ns)(nn:∀m∈y.reverse++ns,aez m)(E:y.length+ns.length<=1000000):aW 107 [.pointer t,pA A,pA i,pA h,pA j] g (ahK h0 g L i h j (y.reverse++ns)):=by
 refine XD t (aa ⟨A,0,none⟩) i h j g _ ?_;generalize z:y.reverse++ns=p at*;refine Dw t (aa ⟨A,0,none⟩) i h j (λmz M r' N=>∃H D U,r'=aa ⟨U,0,none⟩/\yD (Im N L) M H/\Ht (Im N L) U D/\H.reverse++D=p/\H.length+D.length<=1000000/\OL h0 N L/\ng g L N L/\mz=D.length) _ (λmz M r'=>?_) ns.length ⟨y,ns,A,rfl,G,F,z,E,o,ng.refl _ _,rfl⟩;clear G F z E o y ns A t;intro zz g1 X;obtain⟨y,ns,A,rfl,G,F,z,E,o,cg,rfl⟩:=X
 cases F with
 |@cons _ k' m ns I F=>
  refine nc ⟨_,MY _,_,yz.l3 I.1,_,SW _,ay (λ_=>?_) (λq=>by cases q)⟩;refine nc ⟨_,ad7 _,_,yz.mv I.1,_,ZC _ _,_,ZF _ _,?_⟩;have e:=(Ok.refl o.ok.wf).push (Hm m M);have mt:=o.oT (Hm m M);have c:=(o.grow e).2;have o1:=(o.grow e).1;generalize g1.push (Hm m M)=W at*;refine nc ⟨_,MY _,_,yz.l3 (c _ _ I).1,?_⟩;refine pe ns.length (by simp) ⟨m::y,ns,k',rfl,.cons mt (G.mono c),F.mono c,?_,by simp only[bP]at E⊢;omega,o1,cg.trans c,rfl⟩;rw[<-z];simp
 | nil m I=>
  refine nc ⟨_,MY _,_,yz.l3 I.1,_,SW _,ay (λq=>by cases q) (λ_=>?_)⟩;rw[cF]at z;refine(ac6 o.ok.wf (G.mono λk B m=>m.1) (λx hx=>nn x (by rw[<-z];exact List.mem_reverse.2 hx)) (by simpa using E)).mono ?_;rintro _ W ⟨e2,a,n,c,s,r,l,d,b,f,rfl,r1,r2,Y⟩;rw[z]at r1 r2 Y;have w:=r1.im o;have u:=r2.im o;have v:=Y.im o;have x2:=cg.trans (o.grow e2).2;have o2:=(o.grow e2).1;obtain⟨o3,P⟩:=o2.uR V 0 c0 (.cells [ae a n c] 27 0 af);have s3:aQ au 27 (pA i) (ae a n c) W=aa (undef,.set i (.cells [ae a n c] 27 0 af)):=eu jR (o2.get 0 c0) (by simp) (dD ..) (iJ ..);refine⟨_,_,_,_,_,_,_,_,_,rfl,_,s3,?_⟩;have w:=w.fN P;have u:=u.fN P;have v:=v.fN P;have x0:=x2.trans P;generalize (dJ.set i (.cells [ae a n c] 27 0 af)).app W=g3 at*;have S:(L.set 0 [(i,.cells [ae a n c] 27 0 af)])[1]?=aa (qj h v1):=by rw[getElem?_set,iN (by omega)];exact c1
  obtain⟨o4,O⟩:=o3.uR V 1 S (.cells [ae s r l] 27 0 af);have s4:aQ au 27 (pA h) (ae s r l) g3=aa (undef,.set h (.cells [ae s r l] 27 0 af)):=eu jR (o3.get 1 S) (by simp) (dD ..) (iJ ..);refine⟨_,s4,?_⟩;have w:=w.fN O;have u:=u.fN O;have v:=v.fN O;have x1:=x0.trans O;generalize (dJ.set h (.cells [ae s r l] 27 0 af)).app g3=g4 at*;have T:((L.set 0 [(i,.cells [ae a n c] 27 0 af)]).set 1 [(h,.cells [ae s r l] 27 0 af)])[2]?=aa (qj j v2):=by rw[getElem?_set,iN (by omega),getElem?_set,iN (by omega)];exact c2
  obtain⟨C,R⟩:=o4.uR V 2 T (.cells [ae d b f] 27 0 af);have s5:aQ au 27 (pA j) (ae d b f) g4=aa (undef,.set j (.cells [ae d b f] 27 0 af)):=eu jR (o4.get 2 T) (by simp) (dD ..) (iJ ..);refine⟨_,s5,?_⟩;have w:=w.fN R;have u:=u.fN R;have v:=v.fN R;have K:=x1.trans R;generalize (dJ.set j (.cells [ae d b f] 27 0 af)).app g4=J at*;have C:OL h0 J (Td L i h j (ae a n c) (ae s r l) (ae d b f)):=C;have K:ng g L J (Td L i h j (ae a n c) (ae s r l) (ae d b f)):=K;have w:ua J (Td L i h j (ae a n c) (ae s r l) (ae d b f)) 3 _ _:=w;have u:ua J (Td L i h j (ae a n c) (ae s r l) (ae d b f)) 3 _ _:=u;have v:ua J (Td L i h j (ae a n c) (ae s r l) (ae d b f)) 3 _ _:=v;have l1:1<L.length:=(List.getElem?_eq_some_iff.1 c1).1;have l2:2<L.length:=(List.getElem?_eq_some_iff.1 c2).1;have Z:(Td L i h j (ae a n c) (ae s r l) (ae d b f))[1]?=aa (qj h (ae s r l)):=by
   unfold Td;rw[getElem?_set,iN (by omega),getElem?_set,iP rfl,iP (by rw[bT];exact l1)]
  have x3:(Td L i h j (ae a n c) (ae s r l) (ae d b f))[2]?=aa (qj j (ae d b f)):=by
   unfold Td;rw[getElem?_set,iP rfl,iP (by rw[bT,bT];exact l2)]
  have x4:(wL p).length<=1000000:=by
   have:(wL p).length<=p.length:=eZ Mv.l p;rw[<-z]at this⊢;rw[List.length_reverse]at this;simp at E;omega
  refine⟨_,_,_,da fs lF (C.get 1 Z) (by simp),_,_,_,da fs lF (C.get 2 x3) (by simp),(EB C.ok.wf u.rd v.rd (by omega)).mono ?_⟩;rintro _ g6 ⟨rfl,e6⟩;have Q:=(C.grow e6).2;exact⟨_,rfl,_,_,_,rfl,(C.grow e6).1,K.trans Q,w.fN Q,u.fN Q,v.fN Q⟩
end
end
noncomputable def abo:FD:=gT Tryz.f112 []
theorem XL(ov kv:LV)(kn t s v R p y U I:Nat)(h:aw)(Q:VH)(hx:xN (iF au 116 (aq ⟨ov⟩)) h λB1 g2=>xN (iF au 105 (aq ⟨kv⟩)) g2 λB3 b=>xV (aM au 163 b (pA kn)) λv5=>xA (aM au 105 b (pA (g2.ax))) λc6=>xI an (uY au 163 v5 (aq ⟨c6⟩) ak b) λf=>xB (aM au 4 b (pA t)) λb8=>cp b8 (Q (av ⟨[]⟩) b) (xL (aM au 166 b (pA s)) λa9 z7 w8=>qX xO 166 (ae a9 z7 w8) (aA f) 168 b λv2=>xB (cm au .eql 168 (.pointer v2) (aT none)) λz8=>cp z8 (Q (av ⟨[]⟩) b) (xL (aM au 172 (room b 12) (pA v)) λy3 y6 x7=>xI an (aM au 3 (room b 12) (pA R)) λz5=>qX xA 172 (ae y3 y6 x7) (aA z5) 175 (room b 12) λu1=>xA (aM au 116 (room b 12) (pA (h.ax))) λx8=>aW 113 [(aq ⟨u1⟩),(aq ⟨x8⟩)] (room b 12) λj1 C=>∃r:LV,∃z:Bool,j1=(av ⟨[(aq ⟨r⟩),(ai z)]⟩)/\zN (cD au 175) λD=>xU (aQ au 175 (pA (b.ax+9)) (aq ⟨r⟩) (bS C b.ax [(9,D)])) (bS C b.ax [(9,D)]) λj5 d=>xA (aM au 116 (room d 8) (pA (h.ax))) λw1=>xL (aM au 109 (room d 8) (pA p)) λw7 u4 z9=>xI an (aM au 3 (room d 8) (pA R)) λz6=>qX xO 109 (ae w7 u4 z9) (aA z6) 112 (room d 8) λy0=>xA (cI au 118 [(0,(aq ⟨w1⟩)),(1,(.pointer y0))]) λz4=>zN (iF au 118 (aq ⟨z4⟩)) λu6=>ahu (bS (room d 8) d.ax [(6,u6)]) λa=>cp (!z) (xF (aM au 171 (room a 8) (pA y)) λA v8 z3=>xL (aM au 166 (room a 8) (pA s)) λu9 w9 u7=>qX xO 166 (ae u9 w9 u7) (aA f) 168 (room a 8) λv9=>cp (dj A YB) (aW A (v8++[(pA (d.ax+6)),(.pointer v9)]++z3) (room a 8) λz2 F=>yB z2 λu3=>xU (aQ au 4 (pA t) (ai u3) F) F λj7 v0=>Q (av ⟨[]⟩) v0) False) (xL (aM au 68 a (pA U)) λv3 x9 w5=>qX xB 68 (ae v3 x9 w5) (aA f) 4 a λw3=>cp (!w3) (xL (aM au 68 (room a 14) (pA U)) λv7 y5 w0=>xL (aM au 172 (room a 14) (pA v)) λl n m=>xL (aM au 109 (room a 14) (pA p)) λi e g=>xA (aM au 175 (room a 14) (pA (b.ax+9))) λo=>xP (aZ au 68 (ae v7 y5 w0) (aA f)) λv4=>xU (aQ au 4 (bN v4) (ai af) (room a 14)) (room a 14) λj6 k=>xP (aZ au 172 (ae l n m) (aA f)) λu5=>xU (aQ au 175 (bN u5) (aq ⟨o⟩) k) k λq1 x=>xP (aZ au 109 (ae i e g) (aA f)) λz1=>xU (aQ au 112 (bN z1) (pA (d.ax+6)) x) x λq0 q=>(aM au 172 k (pA v)=aa (ae l n m)/\iz 4 (ae l n m) (ae l n m)=af)/\(aM au 109 k (pA p)=aa (ae i e g)/\iz 4 (ae i e g) (ae i e g)=af)/\(aM au 109 x (pA p)=aa (ae i e g)/\iz 4 (ae i e g) (ae i e g)=af)/\(aM au 175 k (pA (b.ax+9))=aa (aq ⟨o⟩)/\iz 4 (aq ⟨o⟩) (aq ⟨o⟩)=af)/\xL (aM au 27 q (pA I)) λy4 v1 w6=>xR (bC au 27 1 [(0,(aA f))]) q λj9 u8 y1 G=>xE (bY au 27 27 (ae y4 v1 w6) (sA (q.ax) u8 y1) G) G λj0 w2 u2 j4 E=>xU (aQ au 27 (pA I) (ae j0 w2 u2) E) E λj8 y2=>Q (av ⟨[]⟩) y2) (xA (aM au 175 (room a 8) (pA (b.ax+9))) λy8=>xL (aM au 172 (room a 8) (pA v)) λw4 v6 y9=>qX xA 172 (ae w4 v6 y9) (aA f) 175 (room a 8) λy7=>aW 110 [(aq ⟨y8⟩),(aq ⟨y7⟩)] (room a 8) λz0 j=>yB z0 λu0=>cp (!u0) (xF (aM au 171 (room j 20) (pA y)) λB T O=>xL (aM au 166 (room j 20) (pA s)) λV x5 S=>qX xO 166 (ae V x5 S) (aA f) 168 (room j 20) λJ=>cp (dj B YB) (aW B (T++[(pA (d.ax+6)),(.pointer J)]++O) (room j 20) λW c=>yB W λx6=>cp x6 (xU (aQ au 4 (pA t) (ai af) c) c λj3 H=>Q (av ⟨[]⟩) H) (xF (aM au 171 c (pA y)) λu X x3=>xL (aM au 109 c (pA p)) λx0 Y x1=>qX xO 109 (ae x0 Y x1) (aA f) 112 c λZ=>xL (aM au 166 c (pA s)) λK x2 x4=>qX xO 166 (ae K x2 x4) (aA f) 168 c λL=>cp (dj u YB) (aW u (X++[(.pointer Z),(.pointer L)]++x3) c λN w=>yB N λM=>xU (aQ au 4 (pA t) (ai M) w) w λj2 P=>Q (av ⟨[]⟩) P) False)) False) (Q (av ⟨[]⟩) j)))))):aW 112 [(aq ⟨ov⟩),(aq ⟨kv⟩),(pA kn),(pA t),(pA s),(pA v),(pA R),(pA p),(pA y),(pA U),(pA I)] h Q:=gZ abo Tryz.func112 (bF hx)
variable{b:Bool}
section
theorem aeP:au.underlying 172=aa (.slice 175):=by rfl
theorem agp:Go.Ab.isAgg au 172=ak:=by rfl
theorem QD:au.underlying 109=aa (.slice 112):=by rfl
theorem abF:Go.Ab.isAgg au 109=ak:=by rfl
theorem QE:cd au 112=aa 1:=by rfl
theorem q68:au.underlying 68=aa (.slice 4):=by rfl
theorem ajU:Go.Ab.isAgg au 68=ak:=by rfl
theorem q4:au.underlying 4=aa .bool:=by rfl
theorem q4a:Go.Ab.isAgg au 4=ak:=by rfl
theorem Te:cd au 4=aa 1:=by rfl
noncomputable def ajT:TypeDesc:=(au.underlying 171).getD .bool
theorem ak1:au.underlying 171=aa ajT:=by rfl
theorem ajS:Go.Ab.isAgg au 171=ak:=by rfl
theorem pU(g:Good M){s:Nat}{a:iu}(h:a∈eA M s):Hp M.aE.length a:=by
 by_cases c:s<M.aE.length
 ·obtain⟨x,_,e,_,b⟩:=nj c;rw[e]at h;exact g.bG x b a h
 grind[eA]
theorem acu{B:cG}(c:Good M)(d:Good B){k f:NN}{m:Mv}(s:Fl M B k m f):aez m:=by
 cases s with
 |left a h0=>exact⟨fU _,(pU c a).o0,fU _⟩
 |right b h0=>exact⟨fU _,fU _,(pU d b).o0⟩
 |both a b h0 e=>exact⟨(pU c a).i0,(pU c a).o0,(pU d b).o0⟩
theorem ajR{B:cG}(e:Good M)(c:Good B){k b:NN}{a:List Mv}(r:PR M B k a b):∀m∈a,aez m:=by
 induction r with
 |nil=>grind
 |cons h r d=>grind[acu]
theorem ss:∀{y z:List Int}{d:qk},kZ y z=aa d->d.1.length<=y.length/\d.2.length<=z.length
 |[],z,d,h=>by obtain rfl:=aC h;grind
 |a::y,[],d,h=>by obtain rfl:=aC h;grind
 |a::y,b::z,d,h=>by
  rw[kZ]at h;split at h
  ·obtain⟨c,e⟩:=ss h;exact⟨Nat.le_succ_of_le c,Nat.le_succ_of_le e⟩
  grind
def uO(ds:List ah)(k:Nat)(a b:ah):List ah:=(ds.set (2*k) a).set (2*k+1) b
theorem afn{ds:List ah}{a b x y:ah}(d:2*k+1<ds.length)(e:ds[2*j]?=aa x)(f:ds[2*j+1]?=aa y)(c:j≠k):(uO ds k a b)[2*j]?=aa x/\(uO ds k a b)[2*j+1]?=aa y:=by
 unfold uO
 grind
theorem E2{ds:List ah}{a b:ah}(c:2*k+1<ds.length):(uO ds k a b)[2*k]?=aa a/\(uO ds k a b)[2*k+1]?=aa b:=by
 unfold uO
 grind
theorem aed{n c:Nat}(h:i<n):aZ au 172 (sA k n c) (aA (i:Int))=aa (cn k (2*i)):=by
 rw[Gw aeP Ck (by omega) (by omega)]
 grind
theorem ld2{g:aw}{ds:List ah}{x y:ah}{e:aD}{z:Nat}(a:g.get k=aa (.cells ds e z b))(d:ds[2*i]?=aa x)(c:ds[2*i+1]?=aa y):aM au 175 g (cn k (2*i))=aa (aq ⟨[x,y]⟩):=by
 have f:=(List.getElem?_eq_some_iff.1 c).1;rw[mr agy afX Ck a (by omega)];have e:(ds.drop (2*i)).take 2=[x,y]:=by
  refine cV λj=>?_;rw[List.getElem?_take]
  match j with
  |0=>grind
  |1=>grind
  |j+2=>rfl
 rw[e]
theorem aln{g:aw}{ds:List ah}{x y:ah}{e:aD}{z:Nat}(q:g.get k=aa (.cells ds e z af))(c:2*i+1<ds.length)(o:eY x=af)(r:eY y=af):aQ au 175 (cn k (2*i)) (aq ⟨[x,y]⟩) g=aa (undef,.set k (.cells (uO ds i x y) e z af)):=by
 have n:ds.take (2*i)++[x,y]++ds.drop (2*i+2)=uO ds i x y:=by
  refine cV λj=>?_;by_cases h:j<2*i
  ·unfold uO;rw[cE,List.getElem?_append_left (by rw[bo];omega),List.getElem?_take,iP h,getElem?_set,iN (by omega),getElem?_set,iN (by omega)]
  ·have f:(ds.take (2*i)).length=2*i:=by rw[bo];omega
   rw[cE,List.getElem?_append_right (by omega),f];by_cases l:j=2*i
   ·subst l;rw[(E2 (a:=x) (b:=y) c).1,Nat.sub_self];rfl
   ·by_cases d:j=2*i+1
    ·subst d;rw[(E2 (a:=x) (b:=y) c).2,show 2*i+1-2*i=1 by omega];rfl
    ·rw[List.getElem?_append_right (by show 2<=_;omega),List.getElem?_drop];unfold uO;rw[getElem?_set,iN (by omega),getElem?_set,iN (by omega)];congr 1;show 2*i+2+(j-2*i-2)=j;omega
 unfold aQ;dsimp only;have m:(aq ⟨[x,y]⟩).cells.size=2:=rfl;have p:(aq ⟨[x,y]⟩).cells.toList=[x,y]:=rfl;rw[iP (by rw[m];exact Ck)];unfold storeAt
 grind
abbrev Cq:=List (Option (List Mv×qk))
structure Fm(g:aw)(L:List gf)(n:Nat)(tr:Cq)(ts ds ks:List ah):Prop where
 lt:tr.length=n
 lts:ts.length=n
 Ki:ds.length=2*n
 lks:ks.length=n
 kn:∀(k:Nat)(v:Option (List Mv×qk)),tr[k]?=aa v->ks[k]?=aa (ai v.isSome)
 row:∀(k:Nat)(ms:List Mv)(d:qk),tr[k]?=aa (aa (ms,d))->∃(p:Option aF)(dl dr:ah),ts[k]?=aa (.pointer p)/\yD (Im g L) p ms.reverse/\ds[2*k]?=aa dl/\ds[2*k+1]?=aa dr/\ua g L 3 dl (d.1.map zV)/\ua g L 3 dr (d.2.map zV)
theorem Fm.fN{g g':aw}{L a:List gf}{n:Nat}{tr:Cq}{ts ds ks:List ah}(r:Fm g L n tr ts ds ks)(c:ng g L g' a):Fm g' a n tr ts ds ks:=⟨r.lt,r.lts,r.Ki,r.lks,r.kn,λk b d h=>by
 obtain⟨p,i,o,f,j,e,l,q,m⟩:=r.row k b d h;exact⟨p,i,o,f,j.mono c,e,l,q.fN c,m.fN c⟩⟩
theorem Fm.set{g:aw}{L:List gf}{n:Nat}{tr:Cq}{ts ds ks:List ah}(r:Fm g L n tr ts ds ks){k:Nat}(B:k<n){l:List Mv}{d:qk}{p:Option aF}{f i:ah}(x:yD (Im g L) p l.reverse)(u:ua g L 3 f (d.1.map zV))(t:ua g L 3 i (d.2.map zV)):Fm g L n (tr.set k (aa (l,d))) (ts.set k (.pointer p)) (uO ds k f i) (ks.set k (ai af)):=by
 refine⟨by rw[bT];exact r.lt,by rw[bT];exact r.lts,by unfold uO;rw[bT,bT];exact r.Ki,by rw[bT];exact r.lks,λj v c=>?_,λj m z c=>?_⟩
 ·rw[getElem?_set]at c⊢;by_cases e:k=j
  ·rw[iP e]at c⊢;rw[iP (by rw[r.lks];omega)]
   grind
  ·rw[iN e]at c⊢;exact r.kn j v c
 ·have s:2*k+1<ds.length:=by rw[r.Ki];omega
  rw[getElem?_set]at c;by_cases e:k=j
  ·subst e;rw[iP rfl]at c;split at c
   ·have:=aC (aC c);injection this with w C
    subst w;subst C;obtain⟨q,o⟩:=E2 (a:=f) (b:=i) s;exact⟨p,f,i,by rw[getElem?_set,iP rfl,iP (by rw[r.lts];exact B)],x,q,o,u,t⟩
   grind
  ·rw[iN e]at c;obtain⟨F,E,D,G,H,y,A,J,I⟩:=r.row j m z c;obtain⟨q,o⟩:=afn (a:=f) (b:=i) s y A (λh=>e h.symm)
   grind
structure KS where
 k1:Nat
 k2:Nat
 k3:Nat
 k4:Nat
 k5:Nat
 k7:Nat
 k8:Nat
 k9:Nat
 k10:Nat
 pD:Nat
 k12:Nat
 Ni:Nat
 kt:Nat
 kd:Nat
 kk:Nat
 km:Nat
 ko:Nat
def AN(K:KS)(x y z:ah)(f:Bool)(ts ds ks:List ah)(tv:ah)(Gq:gf):List gf:=[qj K.k2 x,qj K.k3 y,qj K.k4 z,[(K.k5,.cells [ai f] 4 0 af)],[(K.kt,.cells ts 112 1 af)],[(K.kd,.cells ds 175 2 af)],[(K.kk,.cells ks 4 1 af)],qj K.Ni tv,Gq]
structure DC(K:KS)(T:kI)(ord:List NN)(outs:List (Option Nat))(n:Nat)(g:aw)(L:List gf):Prop where
 m1:Im g L K.k1 (rW T)
 m7:Im g L K.k7 (.cells [.map (aa K.km)] 163 0 af)
 mm:Im g L K.km (.map (qC ord 0))
 m8:Im g L K.k8 (.cells [sA K.ko n n] 166 0 af)
 mo:Im g L K.ko (.cells (outs.map Kq) 168 1 af)
 m9:Im g L K.k9 (.cells [aN (.func 107) ⟨[]⟩ ⟨[pA K.k2,pA K.k3,pA K.k4]⟩] 171 0 af)
 m10:Im g L K.k10 (.cells [sA K.kt n n] 109 0 af)
 m11:Im g L K.pD (.cells [sA K.kd n n] 172 0 af)
 m12:Im g L K.k12 (.cells [sA K.kk n n] 68 0 af)
 lo:outs.length=n
 ok:yf (Im g L) T.A T.B ord outs
theorem DC.fN{K:KS}{T:kI}{ord:List NN}{outs:List (Option Nat)}{n:Nat}{g g':aw}{L a:List gf}(s:DC K T ord outs n g L)(c:ng g L g' a):DC K T ord outs n g' a:=⟨c _ _ s.m1,c _ _ s.m7,c _ _ s.mm,c _ _ s.m8,c _ _ s.mo,c _ _ s.m9,c _ _ s.m10,c _ _ s.m11,c _ _ s.m12,s.lo,s.ok.mono c⟩
def Wit(A B:cG)(g:aw)(L:List gf)(x y z:ah):Prop:=∃p e,PR A B (uP A B) p e/\nN A B e/\wL p≠wR p/\p.length<=1000000/\ua g L 3 x ((wI p).map zV)/\ua g L 3 y ((wL p).map zV)/\ua g L 3 z ((wR p).map zV)
theorem Wit.fN{B:cG}{g g':aw}{L a:List gf}{x y z:ah}(w:Wit M B g L x y z)(c:ng g L g' a):Wit M B g' a x y z:=by
 obtain⟨p,e,d,f,b,i,k,j,h⟩:=w;exact⟨p,e,d,f,b,i,k.fN c,j.fN c,h.fN c⟩
def isK(tr:Cq)(k:Nat):Prop:=∃v,tr[k]?=aa (aa v)
def adk(A B:cG)(ord:List NN)(tr:Cq):Prop:=∀(k:Nat)(a:List Mv)(d:qk),tr[k]?=aa (aa (a,d))->∃x,ord[k]?=aa x/\PR A B (uP A B) a x/\kZ (wL a) (wR a)=aa d/\a.length+gr tr<=tr.length
def OS(A B:cG)(ord:List NN)(tr:Cq)(d:qk)(w:Mv×NN):Prop:=Co A B w.2->∃(k:Nat)(b:qk)(a:List Mv),uM ord w.2=aa k/\ue d w.1=aa b/\tr[k]?=aa (aa (a,b))
def yq(tr a:Cq):Prop:=∀(k:Nat)(v:List Mv×qk),tr[k]?=aa (aa v)->a[k]?=aa (aa v)
theorem yq.set{tr:Cq}(h:tr[k]?=aa none)(v:List Mv×qk):yq tr (tr.set k (aa v)):=λj w a=>by grind
theorem OS.ext{B:cG}{ord:List NN}{tr a:Cq}{d:qk}{w:Mv×NN}(s:OS M B ord tr d w)(e:yq tr a):OS M B ord a d w:=λc=>by
 obtain⟨k,g,b,h,i,f⟩:=s c;exact⟨k,g,b,h,i,e _ _ f⟩
def Hr(A B:cG)(ord:List NN)(tr:Cq)(k:Nat):Prop:=∀(b:List Mv)(d:qk)(x:NN),tr[k]?=aa (aa (b,d))->ord[k]?=aa x->(nN A B x->d=([],[]))/\∀m a,Fl A B x m a->OS A B ord tr d (m,a)
theorem Hr.ext{B:cG}{ord:List NN}{tr c:Cq}(h:Hr M B ord tr k)(o:isK tr k)(e:yq tr c):Hr M B ord c k:=λg d x l n=>by
 obtain⟨v,f⟩:=o;have j:=e _ _ f;have:v=(g,d):=aC (aC (j.symm.trans l));subst this;obtain⟨a,b⟩:=h g d x f n;exact⟨a,λm i s=>(b m i s).ext e⟩
theorem yq.refl(tr:Cq):yq tr tr:=λ_ _ h=>h
theorem yq.trans{a b c:Cq}(h:yq a b)(d:yq b c):yq a c:=λk v x=>d k v (h k v x)
structure VC(h0:aw)(K:KS)(T:kI)(ord:List NN)(outs:List (Option Nat))(n:Nat)(tr:Cq)(x y z:ah)(f:Bool)(ts ds ks:List ah)(todo:List Nat)(tv:ah)(Gq:gf)(g:aw)(L:List gf):Prop where
 e:L=AN K x y z f ts ds ks tv Gq
 o:OL h0 g L
 dc:DC K T ord outs n g L
 row:Fm g L n tr ts ds ks
 LX:adk T.A T.B ord tr
 td:iq 3 tv (todo.map iv) Gq
 bd:todo.length+gr tr<=n
section
variable {h0:aw} {K:KS} {T:kI} {ord:List NN} {outs:List (Option Nat)} {n:Nat} {tr:Cq} {x y z:ah} {f:Bool} {ts ds ks:List ah} {todo:List Nat} {tv:ah} {Gq:gf} {g g':aw} {L:List gf}
theorem VC.grow(c:VC h0 K T ord outs n tr x y z f ts ds ks todo tv Gq g L)(o:Ok g g'):VC h0 K T ord outs n tr x y z f ts ds ks todo tv Gq g' L/\ng g L g' L:=by
 obtain⟨b,a⟩:=c.o.grow o;exact⟨⟨c.e,b,c.dc.fN a,c.row.fN a,c.LX,c.td,c.bd⟩,a⟩
variable (vcx:VC h0 K T ord outs n tr x y z f ts ds ks todo tv Gq g L)
include vcx
theorem VC.Lg:aM au 4 g (pA K.k5)=aa (ai f):=by
 have a:L[3]?=aa [(K.k5,.cells [ai f] 4 0 af)]:=by rw[vcx.e];rfl
 exact da q4 q4a (vcx.o.get 3 a) (by simp)
theorem VC.num:aM au 163 g (pA K.k7)=aa (.map (aa K.km)):=vcx.dc.m7.ld vS yT
theorem VC.rst:aM au 166 g (pA K.k8)=aa (sA K.ko n n):=vcx.dc.m8.ld pf CH
theorem VC.prv:aM au 171 g (pA K.k9)=aa (aN (.func 107) ⟨[]⟩ ⟨[pA K.k2,pA K.k3,pA K.k4]⟩):=vcx.dc.m9.ld ak1 ajS
theorem VC.trl:aM au 109 g (pA K.k10)=aa (sA K.kt n n):=vcx.dc.m10.ld QD abF
theorem VC.dly:aM au 172 g (pA K.pD)=aa (sA K.kd n n):=vcx.dc.m11.ld aeP agp
theorem VC.knw:aM au 68 g (pA K.k12)=aa (sA K.kk n n):=vcx.dc.m12.ld q68 ajU
theorem VC.out{t:Nat}{o:Option Nat}(h:outs[t]?=aa o):aM au 168 g (cn K.ko t)=aa (Kq o):=by
 rw[da Rr OX vcx.dc.mo.1 (by grind),gD,getElem?_map,h];rfl
theorem VC.ajD{t:Nat}{v:Option (List Mv×qk)}(h:tr[t]?=aa v):aM au 4 g (cn K.kk t)=aa (ai v.isSome):=by
 have a:=vcx.row.kn t v h;rw[da q4 q4a (vcx.o.get 6 (by rw[vcx.e];rfl)) (List.getElem?_eq_some_iff.1 a).1,gD,a];rfl
theorem VC.ways{t:Nat}{f:List Mv}{d:qk}(h:tr[t]?=aa (aa (f,d))):∃(p:Option aF)(a:Option aF)(m c:Nat)(b:Option aF)(n i:Nat),aM au 112 g (cn K.kt t)=aa (.pointer p)/\yD (Im g L) p f.reverse/\aM au 175 g (cn K.kd (2*t))=aa (aq ⟨[ae a m c,ae b n i]⟩)/\ua g L 3 (ae a m c) (d.1.map zV)/\ua g L 3 (ae b n i) (d.2.map zV):=by
 obtain⟨p,z,A,l,u,s,v,y,w⟩:=vcx.row.row t f d h;obtain⟨G,j,o⟩:=y;obtain⟨x,k,r⟩:=w;obtain⟨a,e,rfl⟩:=j.rM;obtain⟨b,q,rfl⟩:=k.rM;refine⟨p,a,_,e,b,_,q,?_,u,ld2 (vcx.o.get 5 (by rw[vcx.e];rfl)) s v,⟨G,j,o⟩,⟨x,k,r⟩⟩;rw[da agw afV (vcx.o.get 4 (by rw[vcx.e];rfl)) (List.getElem?_eq_some_iff.1 l).1,gD,l];rfl
theorem VC.found(h:Wf h0)(b:Bool):∃u:dJ,aQ au 4 (pA K.k5) (ai b) g=aa (undef,u)/\VC h0 K T ord outs n tr x y z b ts ds ks todo tv Gq (u.app g) (AN K x y z b ts ds ks tv Gq)/\ng g L (u.app g) (AN K x y z b ts ds ks tv Gq):=by
 have d:L[3]?=aa [(K.k5,.cells [ai f] 4 0 af)]:=by rw[vcx.e];rfl
 obtain⟨c,a⟩:=vcx.o.uR h 3 d (.cells [ai b] 4 0 af);have e:L.set 3 [(K.k5,.cells [ai b] 4 0 af)]=AN K x y z b ts ds ks tv Gq:=by rw[vcx.e];rfl
 rw[e]at c a;exact⟨_,eu Te (vcx.o.get 3 d) (by simp) rfl rfl,⟨rfl,c,vcx.dc.fN a,vcx.row.fN a,vcx.LX,vcx.td,vcx.bd⟩,a⟩
theorem VC.prove(r:Wf h0)(E:Good T.A)(w:Good T.B){t:Option aF}{d ns:List Mv}{p:Nat}{k e:NN}(s:yD (Im g L) t d.reverse)(A:Ht (Im g L) p ns)(u:PR T.A T.B (uP T.A T.B) d k)(B:PR T.A T.B k ns e)(C:nN T.A T.B e)(F:d.length+ns.length<=1000000):
  aW 107 [.pointer t,pA p,pA K.k2,pA K.k3,pA K.k4] g (λv g'=>v=ai (!decide (wL (d++ns)=wR (d++ns)))/\∃c a b,VC h0 K T ord outs n tr c a b f ts ds ks todo tv Gq g' (AN K c a b f ts ds ks tv Gq)/\ng g L g' (AN K c a b f ts ds ks tv Gq)/\(wL (d++ns)≠wR (d++ns)->Wit T.A T.B g' (AN K c a b f ts ds ks tv Gq) c a b)):=by
 have o:=u.app B;have H:=ajR E w o;have D:=XE r vcx.o (v0:=x) (v1:=y) (v2:=z) (by rw[vcx.e];rfl) (by rw[vcx.e];rfl) (by rw[vcx.e];rfl) s A (by grind) (by grind);refine D.mono ?_;rintro _ G ⟨c,a,b,rfl,m,h,i,j,l⟩;have e:Td L K.k2 K.k3 K.k4 c a b=AN K c a b f ts ds ks tv Gq:=by rw[vcx.e];rfl
 rw[e]at m h i j l;rw[List.reverse_reverse]at i j l⊢;exact⟨rfl,c,a,b,⟨rfl,m,vcx.dc.fN h,vcx.row.fN h,vcx.LX,vcx.td,vcx.bd⟩,h,λq=>⟨_,_,o,C,q,by grind,i,j,l⟩⟩
end
end
section
theorem afL{n c:Nat}{b:Option aF}{d:Nat}(g:iz 4 (ae a n c) (ae a n c)=af)(h:iz 4 (ae b m d) (ae b m d)=af):iz 4 (aq ⟨[ae a n c,ae b m d]⟩) (aq ⟨[ae a n c,ae b m d]⟩)=af:=by
 rcases a with _|⟨k,o,_|s⟩<;>rcases b with _|⟨e,i,_|f⟩<;>simp_all[iz,Fu]
theorem XQ(p:Option aF):eY (.pointer p)=af:=by cases p<;>rfl
theorem Tb(p:Option aF):(aT p).cells = #[.pointer p]:=by cases p<;>rfl
theorem qs.set{g:aw}{n:Nat}(k:j<n){e:aD}{v:ah}{a:List ah}(r:qs (room g n) h e v a)(B f:eE):qs g ((h.set (g.ax+j) B).set (g.ax+j) f) e v a:=by
 obtain⟨G,d,b⟩:=r;refine⟨G,d,λp c=>?_⟩;have i:g.ax+n<=p.1:=(b p c).1;refine⟨by omega,?_⟩;rw[aw.bZ,iN (by omega),aw.bZ,iN (by omega)];exact(b p c).2
theorem adk.put{B:cG}{ord:List NN}{tr:Cq}(s:adk M B ord tr){t:Nat}(h0:tr[t]?=aa none){b:List Mv}{d:qk}{x:NN}(i:ord[t]?=aa x)(r:PR M B (uP M B) b x)(o:kZ (wL b) (wR b)=aa d)(q:b.length+gr tr<=tr.length+1):adk M B ord (tr.set t (aa (b,d))):=λk c h a=>by
 have p:=mW (b,d) h0;rw[getElem?_set]at a;by_cases e:t=k
 ·subst e;rw[iP rfl]at a;split at a
  ·have:=aC (aC a);injection this with f n
   subst f;subst n;exact⟨x,i,r,o,by rw[bT];omega⟩
  ·cases a
 ·rw[iN e]at a;obtain⟨l,j,m,g,u⟩:=s k c h a;exact⟨l,j,m,g,by rw[bT];omega⟩
def VD(h0:aw)(K:KS)(T:kI)(ord:List NN)(outs:List (Option Nat))(n:Nat)(tr0:Cq)(xi:NN)(i ki N:Nat)(pre:List (Mv×NN))(d:qk)(g:aw)(L:List gf):Prop:=
 ∃(tr:Cq)(x y z:ah)(f:Bool)(ts ds ks:List ah)(todo:List Nat)(tv:ah)(Gq:gf),VC h0 K T ord outs n tr x y z f ts ds ks todo tv Gq g L/\Im g L ki (.cells [iA i] 3 0 af)/\yq tr0 tr/\((∀k,isK tr k->k∈todo\/k=i\/Hr T.A T.B ord tr k)/\∀k∈todo,isK tr k)/\2*gr tr+todo.length<=N/\((f=af/\Wit T.A T.B g L x y z)\/(f=ak/\(nN T.A T.B xi->d=([],[]))/\∀w∈pre,OS T.A T.B ord tr d w))
theorem isK.ext{tr a:Cq}(h:isK tr k)(e:yq tr a):isK a k:=by
 obtain⟨v,b⟩:=h;exact⟨v,e _ _ b⟩
section
variable {h0:aw} {K:KS} {T:kI} {ord:List NN} {outs:List (Option Nat)} {n:Nat} {tr0:Cq} {xi:NN} {i ki N:Nat} {pre:List (Mv×NN)} {d:qk} {g g':aw} {L:List gf}
theorem VD.ol(v:VD h0 K T ord outs n tr0 xi i ki N pre d g L):OL h0 g L:=by
 obtain⟨tr,x,y,z,f,ts,ds,ks,todo,tv,Gq,c,_⟩:=v;exact c.o
theorem VD.grow(v:VD h0 K T ord outs n tr0 xi i ki N pre d g L)(o:Ok g g'):VD h0 K T ord outs n tr0 xi i ki N pre d g' L:=by
 obtain⟨tr,x,y,z,f,ts,ds,ks,todo,tv,Gq,c,e,j,b,l,m⟩:=v;obtain⟨k,a⟩:=c.grow o;exact⟨tr,x,y,z,f,ts,ds,ks,todo,tv,Gq,k,a _ _ e,j,b,l,m.imp (λh=>⟨h.1,h.2.fN a⟩) id⟩
variable {tr:Cq} {x y z:ah} {f:Bool} {ts ds ks:List ah} {todo:List Nat} {tv:ah} {Gq:gf}
theorem VC.put(D:Wf h0)(c:VC h0 K T ord outs n tr x y z f ts ds ks todo tv Gq g L){t:Nat}(H:tr[t]?=aa none){i:List Mv}{d:qk}{P:NN}(hx:ord[t]?=aa P)(r:PR T.A T.B (uP T.A T.B) i P)(hd:kZ (wL i) (wR i)=aa d)(hl:i.length+gr tr<=tr.length+1){p:Option aF}(Z:yD (Im g L) p i.reverse){a b:ah}(sl:eY a=af)(sr:eY b=af)(X:ua g L 3 a (d.1.map zV))(W:ua g L 3 b (d.2.map zV)):
  ∃j:dJ,aQ au 4 (cn K.kk t) (ai af) g=aa (undef,j)/\∃l:dJ,aQ au 175 (cn K.kd (2*t)) (aq ⟨[a,b]⟩) (j.app g)=aa (undef,l)/\∃G:dJ,aQ au 112 (cn K.kt t) (.pointer p) (l.app (j.app g))=aa (undef,G)/\
   (∃L1,ng g L (j.app g) L1)/\(∃L2,ng g L (l.app (j.app g)) L2)/\
   VC h0 K T ord outs n (tr.set t (aa (i,d))) x y z f (ts.set t (.pointer p)) (uO ds t a b) (ks.set t (ai af)) todo tv Gq (G.app (l.app (j.app g))) (AN K x y z f (ts.set t (.pointer p)) (uO ds t a b) (ks.set t (ai af)) tv Gq)/\ng g L (G.app (l.app (j.app g))) (AN K x y z f (ts.set t (.pointer p)) (uO ds t a b) (ks.set t (ai af)) tv Gq):=by
 have m:t<n:=by have:=(List.getElem?_eq_some_iff.1 H).1;rw[c.row.lt]at this;exact this
 have U:L[6]?=aa [(K.kk,.cells ks 4 1 af)]:=by rw[c.e];rfl
 obtain⟨E,e⟩:=c.o.uR D 6 U (.cells (ks.set t (ai af)) 4 1 af);refine⟨_,eu Te (c.o.get 6 U) (by rw[c.row.lks];exact m) rfl rfl,?_⟩;have M:=c.row.fN e;have S:=c.dc.fN e;have B:=Z.mono e;have C:=X.fN e;have s:=W.fN e;have Y:L.set 6 [(K.kk,.cells (ks.set t (ai af)) 4 1 af)]=AN K x y z f ts ds (ks.set t (ai af)) tv Gq:=by rw[c.e];rfl
 rw[Y]at E e M S B C s;generalize (dJ.set K.kk (.cells (ks.set t (ai af)) 4 1 af)).app g=g1 at*;have V:(AN K x y z f ts ds (ks.set t (ai af)) tv Gq)[5]?=aa [(K.kd,.cells ds 175 2 af)]:=rfl;obtain⟨F,h⟩:=E.uR D 5 V (.cells (uO ds t a b) 175 2 af);refine⟨_,aln (E.get 5 V) (by rw[c.row.Ki];omega) sl sr,?_⟩;have N:=M.fN h;have J:=S.fN h;have w:=B.mono h;have u:=C.fN h;have q:=s.fN h;have e2:(AN K x y z f ts ds (ks.set t (ai af)) tv Gq).set 5 [(K.kd,.cells (uO ds t a b) 175 2 af)]=AN K x y z f ts (uO ds t a b) (ks.set t (ai af)) tv Gq:=rfl;rw[e2]at F h N J w u q;generalize (dJ.set K.kd (.cells (uO ds t a b) 175 2 af)).app g1=g2 at*;have R:(AN K x y z f ts (uO ds t a b) (ks.set t (ai af)) tv Gq)[4]?=aa [(K.kt,.cells ts 112 1 af)]:=rfl;obtain⟨Q,k⟩:=F.uR D 4 R (.cells (ts.set t (.pointer p)) 112 1 af);refine⟨_,eu QE (F.get 4 R) (by rw[c.row.lts];exact m) (XQ p) (Tb p),⟨_,e⟩,⟨_,e.trans h⟩,?_⟩;have I:=N.fN k;have O:=J.fN k;have A:=w.mono k;have o:=u.fN k;have v:=q.fN k;have e3:(AN K x y z f ts (uO ds t a b) (ks.set t (ai af)) tv Gq).set 4 [(K.kt,.cells (ts.set t (.pointer p)) 112 1 af)]=AN K x y z f (ts.set t (.pointer p)) (uO ds t a b) (ks.set t (ai af)) tv Gq:=rfl;rw[e3]at Q k I O A o v;have hn:=mW (i,d) H;exact⟨⟨rfl,Q,O,I.set m A o v,c.LX.put H hx r hd hl,c.td,by have:=c.bd;omega⟩,e.trans (h.trans k)⟩
theorem VC.push(s:Wf h0)(c:VC h0 K T ord outs n tr x y z f ts ds ks todo tv Gq g L)(t:Nat)(E:todo.length+1+gr tr<=n)(Q:n<=100000):
  ∃(a:Option aF)(m cc:Nat),aM au 27 g (pA K.Ni)=aa (ae a m cc)/\∃(B:Option aF)(C b:Nat)(u:dJ),bY au 27 27 (ae a m cc) (sA g.ax 1 1) (g.push (.cells [aA (t:Int)] 3 1 af))=aa (ae B C b,u)/\∃r:dJ,aQ au 27 (pA K.Ni) (ae B C b) (u.app (g.push (.cells [aA (t:Int)] 3 1 af)))=aa (undef,r)/\∃e i,VC h0 K T ord outs n tr x y z f ts ds ks (todo++[t]) e i (r.app (u.app (g.push (.cells [aA (t:Int)] 3 1 af)))) (AN K x y z f ts ds ks e i)/\ng g L (r.app (u.app (g.push (.cells [aA (t:Int)] 3 1 af)))) (AN K x y z f ts ds ks e i):=by
 have p:=c.td;obtain⟨a,cc,v⟩:=p.rM;rw[aG]at v;subst v;have D:L[7]?=aa (qj K.Ni (ae a todo.length cc)):=by rw[c.e];rfl
 have G:L[8]?=aa Gq:=by rw[c.e];rfl
 have H:=cC g (.cells [aA (t:Int)] 3 1 af);obtain⟨M,J⟩:=c.o.grow ((Ok.refl c.o.ok.wf).push (.cells [aA (t:Int)] 3 1 af));refine⟨_,_,_,da fs lF (c.o.get 7 D) (by simp),?_⟩;generalize g.push (.cells [aA (t:Int)] 3 1 af)=F at*;obtain⟨h,d,b,u,O,R,l,q,A,P⟩:=p.snoc fs rJ lZ Jt s M (j:=8) G (x:= aA (t:Int)) rfl H (by rw[jV,aG];omega) (by rw[aG];omega);refine⟨h,d,b,u,O,?_⟩;generalize u.app F=S at*;have o:(L.set 8 l)[7]?=aa (qj K.Ni (ae a todo.length cc)):=by rw[getElem?_set,iN (by omega)];exact D
 obtain⟨w,N⟩:=A.uR s 7 o (.cells [ae h d b] 27 0 af);have k:=J.trans (P.trans N);have I:(L.set 8 l).set 7 [(K.Ni,.cells [ae h d b] 27 0 af)]=AN K x y z f ts ds ks (ae h d b) l:=by rw[c.e];rfl
 rw[I]at w k;refine⟨_,eu jR (A.get 7 o) (by simp) (dD ..) (iJ ..),ae h d b,l,⟨rfl,w,c.dc.fN k,c.row.fN k,c.LX,?_,by rw[bg];exact E⟩,k⟩;rw[bU];exact q
end
end
section
theorem MG:dj 107 YB=af:=by kernel_rfl
theorem ag0:dj 112 YB=af:=by kernel_rfl
section
variable {h0:aw} {K:KS} {T:kI} {ord:List NN} {outs:List (Option Nat)} {n:Nat} {tr0:Cq} {xi:NN} {i ki N:Nat} {pre:List (Mv×NN)} {d:qk} {g g':aw} {L:List gf}
theorem XM(w0:Wf h0)(gA:Good T.A)(gB:Good T.B)(hn:n<=100000)(lo:ord.length=n)(al:∀j x,ord[j]?=aa x->Co T.A T.B x->GY outs j)(z9:ord[i]?=aa xi){s:List Mv}(w9:tr0[i]?=aa (aa (s,d))){m:Mv}{P:NN}(hs:Fl T.A T.B xi m P)(hx:∃t,uM ord P=aa t)(hv:VD h0 K T ord outs n tr0 xi i ki N pre d g L):
  aW 112 [aq ⟨Bj m⟩,aq ⟨kV P⟩,pA K.k7,pA K.k5,pA K.k8,pA K.pD,pA ki,pA K.k10,pA K.k9,pA K.k12,pA K.Ni] g (λv g'=>v=av ⟨[]⟩/\∃L',VD h0 K T ord outs n tr0 xi i ki N (pre++[(m,P)]) d g' L'/\ng g L g' L'):=by
 refine XL (Bj m) (kV P) K.k7 K.k5 K.k8 K.pD ki K.k10 K.k9 K.k12 K.Ni g _ ⟨_,HL m,_,Ex P,?_⟩;obtain⟨V,x,y,z,f,ts,ds,ks,W,tv,Gq,c,I,ex,kn,me,st⟩:=hv;have b1:=c.o.oT (pK m);obtain⟨c,H⟩:=c.grow ((Ok.refl c.o.ok.wf).push (pK m));generalize g.push (pK m)=g1 at*;have b2:=c.o.oT (iM P);obtain⟨c,M⟩:=c.grow ((Ok.refl c.o.ok.wf).push (iM P));have b1:=M _ _ b1;have H:=H.trans M;have I:=H _ _ I;generalize g1.push (iM P)=C at*;obtain⟨t,ht⟩:=hx;have x7:=Aw ht;have G:t<n:=by have:=(List.getElem?_eq_some_iff.1 x7).1;omega
 have z5:i<n:=by have:=(List.getElem?_eq_some_iff.1 z9).1;omega
 have w8:uY au 163 (.map (aa K.km)) (aq ⟨kV P⟩) ak C=aa (aA (t:Int)):=by
  have:=(G0 c.dc.mm.1 P).2;rw[ht]at this;exact this
 refine⟨_,c.num,_,iM.all b2.1,_,w8,_,c.Lg,ay (λhf=>?_) (λhf=>?_)⟩
 ·refine⟨rfl,L,⟨V,x,y,z,f,ts,ds,ks,W,tv,Gq,c,I,ex,kn,me,.inl ⟨hf,?_⟩⟩,H⟩;rcases st with⟨_,w⟩|⟨z7,_⟩
  ·exact w.fN H
  ·rw[hf]at z7;cases z7
 subst hf;obtain⟨hP,st⟩:(nN T.A T.B xi->d=([],[]))/\∀w∈pre,OS T.A T.B ord V d w:=by
  rcases st with⟨h,_⟩|⟨_,h⟩
  ·cases h
  ·exact h
 have fin:∀{y4:Cq},yq V y4->OS T.A T.B ord y4 d (m,P)->∀w∈pre++[(m,P)],OS T.A T.B ord y4 d w:=λhe hs w hw=>by
  rcases bH.1 hw with h|h
  ·exact(st w h).ext he
  ·obtain rfl:=aX.1 h;exact hs
 obtain⟨o,ho⟩:∃o,outs[t]?=aa o:=⟨_,gE (by rw[c.dc.lo];exact G)⟩
 refine⟨_,_,_,c.rst,_,sy pf rQ G,_,c.out ho,_,MQ _,ay (λq=>?_) (λq=>?_)⟩
 ·refine⟨rfl,L,⟨V,x,y,z,ak,ts,ds,ks,W,tv,Gq,c,I,ex,kn,me,.inr ⟨rfl,hP,fin (yq.refl _) λhc=>?_⟩⟩,H⟩;obtain⟨k,hk⟩:=al t P x7 hc;rw[ho]at hk;obtain rfl:=aC hk
  cases q
 obtain⟨kr,rfl⟩:∃kr,o=aa kr:=by
  cases o with
  |none=>cases q
  |some kr=>exact⟨kr,rfl⟩
 obtain⟨y6,ns,e,u7,lr,r2,f2,_,q4⟩:=c.dc.ok t kr ho;obtain rfl:P=y6:=aC (x7.symm.trans u7);have hi:=ex _ _ w9;obtain⟨u8,u4,v6,z0,q2⟩:=c.LX i s d hi;obtain rfl:xi=u8:=aC (z9.symm.trans u4);have r1:=v6.snoc hs;obtain⟨_,v0,w6⟩:=acu gA gB hs;obtain⟨z1,z2⟩:=ss z0;have l1:(wL s).length<=s.length:=eZ Mv.l s;have l2:(wR s).length<=s.length:=eZ Mv.r s;have z4:=c.row.lt;have j5:=c.dc.lo;obtain⟨c3,x3⟩:=c.grow ((Ok.refl c.o.ok.wf).room 12);obtain⟨p,a,S,Q,O,D,E,w1,w2,w3,w4,w5⟩:=c3.ways hi;refine⟨_,_,_,c3.dly,_,(x3 _ _ I).ld rk ri,_,aed z5,_,w3,_,pK.all (x3 _ _ b1).1,(Wy c3.o.ok.wf w4.rd w5.rd v0 w6 (by omega) (by omega)).mono ?_⟩;rintro j1 R ⟨e4,hr⟩;obtain⟨a,S,Q,O,D,E,x0,rfl,y9⟩:∃(a:Option aF)(n c:Nat)(O:Option aF)(n' c':Nat)(b:Bool),j1=av ⟨[aq ⟨[ae a n c,ae O n' c']⟩,ai b]⟩/\((b=ak/\ue d m=none)\/(b=af/\∃l,ue d m=aa l/\qs (room C 12) R 3 (ae a n c) (l.1.map zV)/\qs (room C 12) R 3 (ae O n' c') (l.2.map zV))):=by
  rcases hr with⟨h1,a,n,c,b,m,d,rfl⟩|⟨l,a,n,c,b,m,d,h1,rfl,h2,h3⟩
  ·exact⟨a,n,c,b,m,d,ak,rfl,.inl ⟨rfl,h1⟩⟩
  ·exact⟨a,n,c,b,m,d,af,rfl,.inr ⟨rfl,l,h1,h2,h3⟩⟩
 obtain⟨e5,b5⟩:=Hl c.o.ok.wf (by omega:9<12) e4 (fv nA nA);have e6:Ok C ((dJ.set (C.ax+9) (fv (ae a S Q) (ae O D E))).app (bS R C.ax [(9,fv nA nA)])):=e5.set (fv (ae a S Q) (ae O D E)) (dg C.ax 9) (e5.wf _ _ b5) c.o.ok.wf;have b6:((dJ.set (C.ax+9) (fv (ae a S Q) (ae O D E))).app (bS R C.ax [(9,fv nA nA)])).get (C.ax+9)=aa (fv (ae a S Q) (ae O D E)):=by
  show((bS R C.ax [(9,fv nA nA)]).set (C.ax+9) (fv (ae a S Q) (ae O D E))).get (C.ax+9)=_;rw[aw.bZ,iP rfl]
 have u0:aQ au 175 (pA (C.ax+9)) (aq ⟨[ae a S Q,ae O D E]⟩) (bS R C.ax [(9,fv nA nA)])=aa (undef,.set (C.ax+9) (fv (ae a S Q) (ae O D E))):=gL Ck rfl b5 rfl (by simp[eY]);refine⟨_,x0,rfl,_,Zm,_,u0,?_⟩;have y9:(x0=ak/\ue d m=none)\/(x0=af/\∃l,ue d m=aa l/\ua ((dJ.set (C.ax+9) (fv (ae a S Q) (ae O D E))).app (bS R C.ax [(9,fv nA nA)])) L 3 (ae a S Q) (l.1.map zV)/\ua ((dJ.set (C.ax+9) (fv (ae a S Q) (ae O D E))).app (bS R C.ax [(9,fv nA nA)])) L 3 (ae O D E) (l.2.map zV)):=by
  rcases y9 with h|⟨h,l,h1,h2,h3⟩
  ·exact .inl h
  ·exact .inr ⟨h,l,h1,qs.im (qs.set (by omega) h2 _ _) c.o,qs.im (qs.set (by omega) h3 _ _) c.o⟩
 have m6:=c.o.new (dg C.ax 9) b6;clear b5 e5 e4 hr u0;obtain⟨c,M⟩:=c.grow e6;have b1:=M _ _ b1;have H:=H.trans M;have I:=M _ _ I;have lr:=lr.mono M;clear e6 M b6 b2 w1 w2 w3 w4 w5 c3 x3;generalize (dJ.set (C.ax+9) (fv (ae a S Q) (ae O D E))).app (bS R C.ax [(9,fv nA nA)])=U at*;obtain⟨c3,x3⟩:=c.grow ((Ok.refl c.o.ok.wf).room 8);obtain⟨p,_,_,_,_,_,_,w1,w2,_⟩:=c3.ways hi;have w2:yD (Im U L) p s.reverse:=w2.mono λk B m=>m;obtain⟨e8,b8⟩:=xe c.o.ok.wf (n:=8) (j:=6) (by omega) (Hm m p);refine⟨_,pK.all (x3 _ _ b1).1,_,_,_,c3.trl,_,(x3 _ _ I).ld rk ri,_,sy QD QE z5,_,w1,_,ZC m p,_,ZF m p,?_⟩;have m8:=c.o.new (dg U.ax 6) b8;obtain⟨c,M⟩:=c.grow e8;have H:=H.trans M;have I:=M _ _ I;have lr:=lr.mono M;have m6:=M _ _ m6;have lt:yD (Im (bS (room U 8) U.ax [(6,Hm m p)]) L) (aa ⟨U.ax+6,0,none⟩) (s++[m]).reverse:=by
  rw[List.reverse_append];exact .cons m8 (w2.mono M)
 have hr:(x0=ak/\ue d m=none)\/(x0=af/\∃l,ue d m=aa l/\ua (bS (room U 8) U.ax [(6,Hm m p)]) L 3 (ae a S Q) (l.1.map zV)/\ua (bS (room U 8) U.ax [(6,Hm m p)]) L 3 (ae O D E) (l.2.map zV)):=y9.imp id λ⟨h,l,h1,h2,h3⟩=>⟨h,l,h1,h2.fN M,h3.fN M⟩
 clear w1 w2 c3 x3 b8 e8 b1 m8 M;change ahu (bS (room U 8) U.ax [(6,Hm m p)]) _;generalize q3:U.ax+6=k6 at*;generalize q0:C.ax+9=k9 at*;unfold ahu;generalize bS (room U 8) U.ax [(6,Hm m p)]=g6 at*;have hl:(s++[m]).length+ns.length<=1000000:=by rw[bg,bw];omega
 refine ay (λq=>?_) (λq=>?_)
 ·have q:x0=ak:=by simpa using q
  have hd:ue d m=none:=by
   rcases hr with⟨_,h⟩|⟨h,_⟩
   ·exact h
   ·rw[q]at h;cases h
  have x4:=UO (ns:=ns) (by rw[yY (m:=m) z0];exact hd);obtain⟨J,r⟩:=c.grow ((Ok.refl c.o.ok.wf).room 8);refine⟨_,_,_,J.prv,_,_,_,J.rst,_,sy pf rQ G,_,J.out ho,ay (λ_=>?_) (λq=>by rw[MG]at q;cases q)⟩;refine(J.prove w0 gA gB (lt.mono r) (lr.mono r) r1 r2 f2 hl).mono ?_;rintro _ g7 ⟨rfl,x',y',z',x6,F,hw⟩;obtain⟨u,s1,Z,A⟩:=x6.found w0 (!decide (wL (s++[m]++ns)=wR (s++[m]++ns)));have ct:=H.trans (r.trans (F.trans A));exact⟨_,rfl,_,s1,rfl,_,⟨V,x',y',z',_,ts,ds,ks,W,tv,Gq,Z,(r.trans (F.trans A)) _ _ I,ex,kn,me,.inl ⟨by rw[eF x4];rfl,(hw x4).fN A⟩⟩,ct⟩
 ·have q:x0=af:=by simpa using q
  obtain⟨l,y5,rl,rr⟩:∃l,ue d m=aa l/\ua g6 L 3 (ae a S Q) (l.1.map zV)/\ua g6 L 3 (ae O D E) (l.2.map zV):=by
   rcases hr with⟨h,_⟩|⟨_,h⟩
   ·rw[q]at h;cases h
   ·exact h
  clear hr;have y0:kZ (wL (s++[m])) (wR (s++[m]))=aa l:=by rw[yY (m:=m) z0];exact y5
  obtain⟨o',Y⟩:∃o',V[t]?=aa o':=⟨_,gE (by rw[z4];exact G)⟩
  refine⟨_,_,_,c.knw,_,sy q68 Te G,_,c.ajD Y,ay (λq=>?_) (λq=>?_)⟩
  ·
   obtain rfl:o'=none:=by
    cases o' with
    |none=>rfl
    |some v=>cases q
   obtain⟨J,r⟩:=c.grow ((Ok.refl c.o.ok.wf).room 14);have m9:=r _ _ m6;obtain⟨u1,s1,u2,s2,u3,s3,⟨L1,x1⟩,⟨L2,x2⟩,x6,F⟩:=J.put w0 Y x7 r1 y0 (by rw[bg,bw];omega) (lt.mono r) (dD ..) (dD ..) (rl.fN r) (rr.fN r);refine⟨_,_,_,J.knw,_,_,_,J.dly,_,_,_,J.trl,_,fv.all m9.1,_,sy q68 Te G,_,s1,_,aed G,_,s2,_,sy QD QE G,_,s3,⟨(x1 _ _ J.dc.m11).ld aeP agp,Jx ..⟩,⟨(x1 _ _ J.dc.m10).ld QD abF,Jx ..⟩,⟨(x2 _ _ J.dc.m10).ld QD abF,Jx ..⟩,⟨fv.all (x1 _ _ m9).1,afL (Jb rl.rd) (Jb rr.rd)⟩,?_⟩;have q7:=mW (s++[m],l) Y;have j6:=c.bd;generalize u3.app (u2.app (u1.app (room g6 14)))=g7 at*;obtain⟨a9,q8,j8,h1,j9,j7,j4,u,h2,u',h3,v7,j2,Z,A⟩:=x6.push w0 t (by omega) hn;have he:yq V (V.set t (aa (s++[m],l))):=yq.set Y _;have z8:(V.set t (aa (s++[m],l)))[t]?=aa (aa (s++[m],l)):=by rw[getElem?_set,iP rfl,iP (by rw[z4];exact G)]
   refine⟨_,_,_,h1,_,_,_,qi _,_,_,_,_,h2,_,h3,rfl,_,⟨_,x,y,z,ak,_,_,_,_,v7,j2,Z,(r.trans (F.trans A)) _ _ I,ex.trans he,⟨λk hk=>?_,λk hk=>?_⟩,by rw[bg,bw];omega,.inr ⟨rfl,hP,fin he λ_=>⟨t,l,_,ht,y5,z8⟩⟩⟩,H.trans (r.trans (F.trans A))⟩
   ·by_cases ek:k=t
    ·subst ek;exact .inl (List.mem_append_right _ (aX.2 rfl))
    ·have z6:isK V k:=by
      obtain⟨v,hv⟩:=hk;rw[getElem?_set,iN (λe=>ek e.symm)]at hv;exact⟨v,hv⟩
     rcases kn.1 k z6 with h|h|h
     ·exact .inl (dY _ h)
     ·exact .inr (.inl h)
     ·exact .inr (.inr (h.ext z6 he))
   ·rcases bH.1 hk with h|h
    ·exact(kn.2 k h).ext he
    ·rw[aX.1 h];exact⟨_,z8⟩
  ·
   obtain⟨⟨y3,d2⟩,rfl⟩:∃v,o'=aa v:=by
    cases o' with
    |none=>cases q
    |some v=>exact⟨v,rfl⟩
   obtain⟨y6,u5,z3,u6,j3⟩:=c.LX t y3 d2 Y;obtain rfl:P=y6:=aC (x7.symm.trans u5);obtain⟨J,r⟩:=c.grow ((Ok.refl c.o.ok.wf).room 8);have m9:=r _ _ m6;obtain⟨p2,b,n2,f1,b',q6,q5,v1,v2,v3,v4,v5⟩:=J.ways Y;obtain⟨y1,y2⟩:=ss y0;have j0:(wL (s++[m])).length<=(s++[m]).length:=eZ Mv.l _;have w7:(wR (s++[m])).length<=(s++[m]).length:=eZ Mv.r _;rw[bg,bw]at hl;refine⟨_,fv.all m9.1,_,_,_,J.dly,_,aed G,_,v3,(Pg J.o.ok.wf (x:=l) (y:=d2) (rl.fN r).rd (rr.fN r).rd v4.rd v5.rd (by rw[bg,bw]at j0;omega) (by rw[bg,bw]at w7;omega)).mono ?_⟩;rintro _ g7 ⟨rfl,e7⟩;obtain⟨x6,F⟩:=J.grow e7;have H:=H.trans (r.trans F);have I:=(r.trans F) _ _ I;have lt:=lt.mono (r.trans F);have lr:=lr.mono (r.trans F);refine⟨_,rfl,ay (λq=>?_) (λq=>?_)⟩
   ·have y8:l≠d2:=by simpa using q
    have u9:=UQ r1 z3 y0 u6 y8 r2 f2;obtain⟨Z,A⟩:=x6.grow ((Ok.refl x6.o.ok.wf).room 20);refine⟨_,_,_,Z.prv,_,_,_,Z.rst,_,sy pf rQ G,_,Z.out ho,ay (λ_=>?_) (λq=>by rw[MG]at q;cases q)⟩;refine(Z.prove w0 gA gB (lt.mono A) (lr.mono A) r1 r2 f2 (by rw[bg,bw];omega)).mono ?_;rintro _ g8 ⟨rfl,x',y',z',x5,x9,hw⟩;have H:=H.trans (A.trans x9);have I:=(A.trans x9) _ _ I;refine⟨_,rfl,ay (λq=>?_) (λq=>?_)⟩
    ·have x4:wL (s++[m]++ns)≠wR (s++[m]++ns):=by simpa using q
     obtain⟨u,s1,y7,X⟩:=x5.found w0 af;exact⟨_,s1,rfl,_,⟨V,x',y',z',_,ts,ds,ks,W,tv,Gq,y7,X _ _ I,ex,kn,me,.inl ⟨rfl,(hw x4).fN X⟩⟩,H.trans X⟩
    ·have v9:wL (s++[m]++ns)=wR (s++[m]++ns):=by simpa using q
     have x4:=u9.resolve_left λh=>h v9;obtain⟨p3,_,_,_,_,_,_,t1,t2,_⟩:=x5.ways Y;refine⟨_,_,_,x5.prv,_,_,_,x5.trl,_,sy QD QE G,_,t1,_,_,_,x5.rst,_,sy pf rQ G,_,x5.out ho,ay (λ_=>?_) (λq=>by rw[MG]at q;cases q)⟩;refine(x5.prove w0 gA gB t2 (lr.mono (A.trans x9)) z3 r2 f2 (by omega)).mono ?_;rintro _ g9 ⟨rfl,x',y',z',y7,X,hw⟩;obtain⟨u,s1,v8,x8⟩:=y7.found w0 (!decide (wL (y3++ns)=wR (y3++ns)));exact⟨_,rfl,_,s1,rfl,_,⟨V,x',y',z',_,ts,ds,ks,W,tv,Gq,v8,(X.trans x8) _ _ I,ex,kn,me,.inl ⟨by rw[eF x4];rfl,(hw x4).fN x8⟩⟩,H.trans (X.trans x8)⟩
   ·have y8:l=d2:=by simpa using q
    subst y8;exact⟨rfl,L,⟨V,x,y,z,ak,ts,ds,ks,W,tv,Gq,x6,I,ex,kn,me,.inr ⟨rfl,hP,fin (yq.refl _) λ_=>⟨t,l,y3,ht,y5,Y⟩⟩⟩,H⟩
end
end
noncomputable def qd:FD:=gT Tryz.f47 [((pq 18431),[1,2,3,4,5,6,7,8,9,10,11,12,13])]
abbrev mP(i h o j k m g l d b e f:Nat)(a:OA)(n c:Nat)(z:Unit):LV:=[(pA i),(pA h),(pA o),(pA j),(pA k),(ae a n c),(pA m),(pA g),(pA l),(pA d),(pA b),(pA e),(pA f)]
theorem S1(pv:LV)(h:aw)(Q:VH)(hx:xN (iF au 66 (aq ⟨pv⟩)) h λB1 c=>xN (cD au 27) c λB3 d=>xN (cD au 27) d λB5 e=>xN (cD au 27) e λB7 f=>xN (cD au 4) f λB9 J=>qF xA 66 (pA (h.ax)) 0 24 J λz1=>aW 104 [(aq ⟨z1⟩)] J λy6 n=>yB y6 λx4=>cp x4 (xU (aQ au 27 (pA (c.ax)) nA n) n λw1 K=>xU (aQ au 27 (pA (d.ax)) nA K) K λw5 E=>xU (aQ au 27 (pA (e.ax)) nA E) E λu7 G=>xU (aQ au 4 (pA (f.ax)) (ai ak) G) G λv1 x8=>gI SS [((pA (c.ax)),aa 27),((pA (d.ax)),aa 27),((pA (e.ax)),aa 27),((pA (f.ax)),aa 4)] x8 Q) (qF xA 66 (pA (h.ax)) 1 24 n λx0=>aW 104 [(aq ⟨x0⟩)] n λy4 k=>yB y4 λy1=>cp y1 (xU (aQ au 27 (pA (c.ax)) nA k) k λz9 I=>xU (aQ au 27 (pA (d.ax)) nA I) I λv3 D=>xU (aQ au 27 (pA (e.ax)) nA D) D λu1 v=>xU (aQ au 4 (pA (f.ax)) (ai ak) v) v λv6 x6=>gI SS [((pA (c.ax)),aa 27),((pA (d.ax)),aa 27),((pA (e.ax)),aa 27),((pA (f.ax)),aa 4)] x6 Q) (xA (aM au 66 k (pA (h.ax))) λy2=>aW 105 [(aq ⟨y2⟩)] k λy8 m=>∃(s:OA) (a q:Nat),∃N:ah,y8=(av ⟨[(ae s a q),N]⟩)/\xN (cD au 163) m λv5 H=>xU (aQ au 163 (pA (m.ax)) N H) H λv2 p=>xA (aM au 66 p (pA (h.ax))) λy0=>xV (aM au 163 p (pA (m.ax))) λy7=>aW 106 [(aq ⟨y0⟩),(ae s a q),y7] p λx2 j=>yL x2 λy5 X y9=>xN (cD au 166) j λw2 O=>xU (aQ au 166 (pA (j.ax)) (ae y5 X y9) O) O λv9 b=>xL (aM au 166 b (pA (j.ax))) λy3 x3 x7=>qX xO 166 (ae y3 x3 x7) (aA 0) 168 b λz3=>xB (cm au .eql 168 (.pointer z3) (aT none)) λx5=>cp x5 (xU (aQ au 27 (pA (c.ax)) nA b) b λu0 L=>xU (aQ au 27 (pA (d.ax)) nA L) L λw3 F=>xU (aQ au 27 (pA (e.ax)) nA F) F λv0 z=>xU (aQ au 4 (pA (f.ax)) (ai ak) z) z λw0 z4=>gI SS [((pA (c.ax)),aa 27),((pA (d.ax)),aa 27),((pA (e.ax)),aa 27),((pA (f.ax)),aa 4)] z4 Q) (xN (cD au 171) b λv8 B=>xU (aQ au 171 (pA (b.ax)) (aN (.func 107) ⟨[]⟩ ⟨[(pA (c.ax)),(pA (d.ax)),(pA (e.ax))]⟩) B) B λu5 w=>xR (cK au 109 (iA a) (iA a)) w λu8 x9 Z u=>xN (cD au 109) u λu4 M=>xU (aQ au 109 (pA (u.ax)) (sA (w.ax) x9 Z) M) M λv7 y=>xR (cK au 172 (iA a) (iA a)) y λu9 Y z2 r=>xN (cD au 172) r λu3 C=>xU (aQ au 172 (pA (r.ax)) (sA (y.ax) Y z2) C) C λu6 A=>xR (cK au 68 (iA a) (iA a)) A λu2 z0 x1 l=>xN (cD au 68) l λv4 x=>xU (aQ au 68 (pA (l.ax)) (sA (A.ax) z0 x1) x) x λw4 i=>xL (aM au 68 i (pA (l.ax))) λW T U=>xP (aZ au 68 (ae W T U) (aA 0)) λS=>xU (aQ au 4 (bN S) (ai af) i) i λz8 t=>xR (bC au 27 1 [(0,(aA 0))]) t λz6 V P g=>xN (cD au 27) g λz5 o=>xU (aQ au 27 (pA (g.ax)) (sA (t.ax) V P) o) o λz7 R=>cq qd (pq 18431) [(pA (h.ax)),(pA (c.ax)),(pA (d.ax)),(pA (e.ax)),(pA (f.ax)),(ae s a q),(pA (m.ax)),(pA (j.ax)),(pA (b.ax)),(pA (u.ax)),(pA (r.ax)),(pA (l.ax)),(pA (g.ax))] R (ez qd (pq 10239) Q))))):aW 47 [(aq ⟨pv⟩)] h Q:=gZ qd Tryz.func47 (bF hx)
theorem B0(pv:LV)(H q i e d K G I s r t g:Nat)(a:OA)(n c:Nat)(N:Nat->Unit->aw->Prop)(Q:VH)(step:∀(J:Nat) (z:Unit) (zz:Nat->ah) (h:aw),N J z h->(λ(Cz:aw->Prop)=>xL (aM au 27 h (pA g)) λX2 v8 X4=>cp (decide ((v8:Int)>0)) (xB (aM au 4 h (pA d)) λj0=>cp (!j0) (xL (aM au 27 h (pA g)) λv9 u7 w9=>vX 27 (ae v9 u7 w9) (aA 0) h λz0=>xN (cD au 3) h λX6 O=>xU (aQ au 3 (pA (h.ax)) (aA z0) O) O λX1 C=>xL (aM au 27 C (pA g)) λv1 j3 u8=>xL (cY au 27 (ae v1 j3 u8) (aa (aA 1)) none none C) λw1 z6 y5=>xU (aQ au 27 (pA g) (ae w1 z6 y5) C) C λj7 A=>xA (aM au 66 (room A 15) (pA H)) λu1=>xI an (aM au 3 (room A 15) (pA (h.ax))) λv6=>qX xA 162 (ae a n c) (aA v6) 105 (room A 15) λw5=>aW 109 [(aq ⟨u1⟩),(aq ⟨w5⟩)] (room A 15) λx2 f=>yB x2 λv2=>cp v2 (xL (aM au 172 f (pA r)) λv3 y7 w6=>xI an (aM au 3 f (pA (h.ax))) λx9=>qX xA 172 (ae v3 y7 w6) (aA x9) 175 f λu9=>xA (cI au 175 []) λy1=>aW 110 [(aq ⟨u9⟩),(aq ⟨y1⟩)] f λy6 b=>yB y6 λx6=>cp (!x6) (xF (aM au 171 (room b 11) (pA I)) λT j1 v5=>xL (aM au 109 (room b 11) (pA s)) λw0 x3 z7=>xI an (aM au 3 (room b 11) (pA (h.ax))) λz8=>qX xO 109 (ae w0 x3 z7) (aA z8) 112 (room b 11) λu0=>xL (aM au 166 (room b 11) (pA G)) λz2 z5 w7=>xI an (aM au 3 (room b 11) (pA (h.ax))) λj2=>qX xO 166 (ae z2 z5 w7) (aA j2) 168 (room b 11) λj4=>cp (dj T YB) (aW T (j1++[(.pointer u0),(.pointer j4)]++v5) (room b 11) λu5 R=>yB u5 λu4=>xU (aQ au 4 (pA d) (ai u4) R) R λq8 B=>xA (aM au 66 (room B 7) (pA H)) λj5=>xI an (aM au 3 (room B 7) (pA (h.ax))) λu3=>qX xA 162 (ae a n c) (aA u3) 105 (room B 7) λv7=>aW 111 [(aq ⟨j5⟩),(aq ⟨v7⟩),(aN (.func 112) ⟨[]⟩ ⟨[(pA K),(pA d),(pA G),(pA r),(pA (h.ax)),(pA s),(pA I),(pA t),(pA g)]⟩)] (room B 7) λw2 x4=>w2=(av ⟨[]⟩)/\Cz x4) False) (xA (aM au 66 (room b 7) (pA H)) λw4=>xI an (aM au 3 (room b 7) (pA (h.ax))) λz3=>qX xA 162 (ae a n c) (aA z3) 105 (room b 7) λz4=>aW 111 [(aq ⟨w4⟩),(aq ⟨z4⟩),(aN (.func 112) ⟨[]⟩ ⟨[(pA K),(pA d),(pA G),(pA r),(pA (h.ax)),(pA s),(pA I),(pA t),(pA g)]⟩)] (room b 7) λx5 y0=>x5=(av ⟨[]⟩)/\Cz y0)) (xA (aM au 66 (room f 7) (pA H)) λx1=>xI an (aM au 3 (room f 7) (pA (h.ax))) λx7=>qX xA 162 (ae a n c) (aA x7) 105 (room f 7) λu6=>aW 111 [(aq ⟨x1⟩),(aq ⟨u6⟩),(aN (.func 112) ⟨[]⟩ ⟨[(pA K),(pA d),(pA G),(pA r),(pA (h.ax)),(pA s),(pA I),(pA t),(pA g)]⟩)] (room f 7) λy2 v4=>y2=(av ⟨[]⟩)/\Cz v4)) (xB (aM au 4 h (pA d)) λy8=>cp (!y8) (xU (aQ au 27 (pA q) nA h) h λj9 W=>xU (aQ au 27 (pA i) nA W) W λq6 S=>xU (aQ au 27 (pA e) nA S) S λq0 X=>xU (aQ au 4 (pA d) (ai ak) X) X λq5 y4=>gI SS [((pA q),aa 27),((pA i),aa 27),((pA e),aa 27),((pA d),aa 4)] y4 Q) (xL (aM au 27 (room h 7) (pA q)) λw8 y3 w3=>xL (aM au 27 (room h 7) (pA i)) λD u F=>xL (aM au 27 (room h 7) (pA e)) λp m j=>xU (aQ au 27 (pA q) (ae w8 y3 w3) (room h 7)) (room h 7) λq1 E=>xU (aQ au 27 (pA i) (ae D u F) E) E λX7 M=>xU (aQ au 27 (pA e) (ae p m j) M) M λq3 P=>xU (aQ au 4 (pA d) (ai af) P) P λq7 v0=>(aM au 27 E (pA i)=aa (ae D u F)/\iz 4 (ae D u F) (ae D u F)=af)/\(aM au 27 E (pA e)=aa (ae p m j)/\iz 4 (ae p m j) (ae p m j)=af)/\(aM au 27 M (pA e)=aa (ae p m j)/\iz 4 (ae p m j) (ae p m j)=af)/\gI SS [((pA q),aa 27),((pA i),aa 27),((pA e),aa 27),((pA d),aa 4)] v0 Q))) (xB (aM au 4 h (pA d)) λu2=>cp (!u2) (xU (aQ au 27 (pA q) nA h) h λX0 U=>xU (aQ au 27 (pA i) nA U) U λj6 V=>xU (aQ au 27 (pA e) nA V) V λX3 Y=>xU (aQ au 4 (pA d) (ai ak) Y) Y λX5 z1=>gI SS [((pA q),aa 27),((pA i),aa 27),((pA e),aa 27),((pA d),aa 4)] z1 Q) (xL (aM au 27 (room h 7) (pA q)) λz9 x8 x0=>xL (aM au 27 (room h 7) (pA i)) λv w x=>xL (aM au 27 (room h 7) (pA e)) λk o l=>xU (aQ au 27 (pA q) (ae z9 x8 x0) (room h 7)) (room h 7) λj8 y=>xU (aQ au 27 (pA i) (ae v w x) y) y λq4 L=>xU (aQ au 27 (pA e) (ae k o l) L) L λq2 Z=>xU (aQ au 4 (pA d) (ai af) Z) Z λq9 y9=>(aM au 27 y (pA i)=aa (ae v w x)/\iz 4 (ae v w x) (ae v w x)=af)/\(aM au 27 y (pA e)=aa (ae k o l)/\iz 4 (ae k o l) (ae k o l)=af)/\(aM au 27 L (pA e)=aa (ae k o l)/\iz 4 (ae k o l) (ae k o l)=af)/\gI SS [((pA q),aa 27),((pA i),aa 27),((pA e),aa 27),((pA d),aa 4)] y9 Q))) (λhz=>cB (mw (mP H q i e d K G I s r t g a n c) N) J [(pA H),(pA q),(pA i),(pA e),(pA d),(ae a n c),(pA K),(pA G),(pA I),(pA s),(pA r),(pA t),(pA g)] hz))(J:Nat){z:Unit}{h:aw}(hi:N J z h):cq qd (pq 18431) (mP H q i e d K G I s r t g a n c z) h (ez qd (pq 10239) Q):=
 gP (mP H q i e d K G I s r t g a n c) N (λJ z zz h hi=>bF (step J z zz h hi)) J hi
noncomputable def Mn:FD:=gT Tryz.f14 []
theorem JU(q:LV)(h:aw)(Q:VH)(z:xN (iF au 24 (aq ⟨q⟩)) h λE t=>xA (aM au 24 t (pA (h.ax))) λA=>aW 39 [(aq ⟨A⟩)] t λy b=>∃m:LV,∃o:Int,y=(av ⟨[(aq ⟨m⟩),(aA o)]⟩)/\xN (cD au 24) b λF w=>xU (aQ au 24 (pA (b.ax)) (aq ⟨m⟩) w) w λB a=>cp ((o !=0)) (Q (av ⟨[(ai ak),nA,nA,nA,(aA o)]⟩) a) (mh 24 (pA (b.ax)) 3 22 a λC s D=>cp (decide ((s:Int)>200)) (Q (av ⟨[(ai ak),nA,nA,nA,(aA 2)]⟩) a) (xA (aM au 24 a (pA (b.ax))) λu=>xA (aM au 24 a (pA (b.ax))) λp=>xA (cI au 66 [(0,(aq ⟨u⟩)),(1,(aq ⟨p⟩))]) λr=>aW 47 [(aq ⟨r⟩)] a λv x=>∃(f:OA) (n d:Nat),∃(g:OA) (c i:Nat),∃(l:OA) (j k:Nat),∃e:Bool,v=(av ⟨[(ae f n d),(ae g c i),(ae l j k),(ai e)]⟩)/\Q (av ⟨[(ai (!e)),(ae f n d),(ae g c i),(ae l j k),(aA 0)]⟩) x))):aW 14 [(aq ⟨q⟩)] h Q:=gZ Mn Tryz.func14 (bF z)
section
theorem Sh{a b c d:ah}{t g e f:aD}{n q:ah}(j:aM X.P t h a=aa v)(l:aM X.P g h b=aa w)(i:aM X.P e h c=aa n)(m:aM X.P f h d=aa q)(k:Q (av ⟨[v,w,n,q]⟩) h):gI X [(a,aa t),(b,aa g),(c,aa e),(d,aa f)] h Q:=by
 unfold gI;simp only[QU,j,l,i,m];exact k
def CN(h:aw)(A B:cG):VH:=λv g=>∃(a:Option aF)(n c:Nat)(l:Option aF)(k j:Nat)(d:Option aF)(b i:Nat)(f:Bool),v=av ⟨[ae a n c,ae l k j,ae d b i,ai f]⟩/\Ok h g/\((f=ak/\ae a n c=nA/\ae l k j=nA/\ae d b i=nA/\xX A B)\/(f=af/\∃p e,PR A B (uP A B) p e/\nN A B e/\wL p≠wR p/\p.length<=1000000/\Rd g 3 (ae a n c) ((wI p).map zV)/\Rd g 3 (ae l k j) ((wL p).map zV)/\Rd g 3 (ae d b i) ((wR p).map zV)))
section
variable {h0:aw} {K:KS} {T:kI} {ord:List NN} {outs:List (Option Nat)} {n:Nat} {tr:Cq} {x y z:ah} {f:Bool} {ts ds ks:List ah} {todo:List Nat} {tv:ah} {Gq:gf} {g g':aw} {L:List gf}
theorem VC.words(d:Wf h0)(c:VC h0 K T ord outs n tr x y z f ts ds ks todo tv Gq g L)(v:ah)(h:eY v=af)(i:v.cells = #[v]):
  (∃u:dJ,aQ au 27 (pA K.k2) v g=aa (undef,u)/\VC h0 K T ord outs n tr v y z f ts ds ks todo tv Gq (u.app g) (AN K v y z f ts ds ks tv Gq)/\ng g L (u.app g) (AN K v y z f ts ds ks tv Gq))/\
  (∃u:dJ,aQ au 27 (pA K.k3) v g=aa (undef,u)/\VC h0 K T ord outs n tr x v z f ts ds ks todo tv Gq (u.app g) (AN K x v z f ts ds ks tv Gq)/\ng g L (u.app g) (AN K x v z f ts ds ks tv Gq))/\
  (∃u:dJ,aQ au 27 (pA K.k4) v g=aa (undef,u)/\VC h0 K T ord outs n tr x y v f ts ds ks todo tv Gq (u.app g) (AN K x y v f ts ds ks tv Gq)/\ng g L (u.app g) (AN K x y v f ts ds ks tv Gq)):=by
 have l:L[0]?=aa (qj K.k2 x):=by rw[c.e];rfl
 have j:L[1]?=aa (qj K.k3 y):=by rw[c.e];rfl
 have k:L[2]?=aa (qj K.k4 z):=by rw[c.e];rfl
 refine⟨?_,?_,?_⟩
 ·obtain⟨b,a⟩:=c.o.uR d 0 l (.cells [v] 27 0 af);have e:L.set 0 [(K.k2,.cells [v] 27 0 af)]=AN K v y z f ts ds ks tv Gq:=by rw[c.e];rfl
  rw[e]at b a;exact⟨_,eu jR (c.o.get 0 l) (by simp) h i,⟨rfl,b,c.dc.fN a,c.row.fN a,c.LX,c.td,c.bd⟩,a⟩
 ·obtain⟨b,a⟩:=c.o.uR d 1 j (.cells [v] 27 0 af);have e:L.set 1 [(K.k3,.cells [v] 27 0 af)]=AN K x v z f ts ds ks tv Gq:=by rw[c.e];rfl
  rw[e]at b a;exact⟨_,eu jR (c.o.get 1 j) (by simp) h i,⟨rfl,b,c.dc.fN a,c.row.fN a,c.LX,c.td,c.bd⟩,a⟩
 ·obtain⟨b,a⟩:=c.o.uR d 2 k (.cells [v] 27 0 af);have e:L.set 2 [(K.k4,.cells [v] 27 0 af)]=AN K x y v f ts ds ks tv Gq:=by rw[c.e];rfl
  rw[e]at b a;exact⟨_,eu jR (c.o.get 2 k) (by simp) h i,⟨rfl,b,c.dc.fN a,c.row.fN a,c.LX,c.td,c.bd⟩,a⟩
theorem VC.Ki(c:VC h0 K T ord outs n tr x y z f ts ds ks todo tv Gq g L):aM au 27 g (pA K.k2)=aa x/\aM au 27 g (pA K.k3)=aa y/\aM au 27 g (pA K.k4)=aa z:=by
 have d:L[0]?=aa (qj K.k2 x):=by rw[c.e];rfl
 have a:L[1]?=aa (qj K.k3 y):=by rw[c.e];rfl
 have b:L[2]?=aa (qj K.k4 z):=by rw[c.e];rfl
 exact⟨da fs lF (c.o.get 0 d) (by simp),da fs lF (c.o.get 1 a) (by simp),da fs lF (c.o.get 2 b) (by simp)⟩
theorem VC.pop(l:Wf h0){i:Nat}{b:List Nat}(c:VC h0 K T ord outs n tr x y z f ts ds ks (i::b) tv Gq g L):∃(a:Option aF)(m cc:Nat),cY au 27 tv (aa (aA 1)) none none g=aa (ae a m cc)/\∃u:dJ,aQ au 27 (pA K.Ni) (ae a m cc) g=aa (undef,u)/\VC h0 K T ord outs n tr x y z f ts ds ks b (ae a m cc) Gq (u.app g) (AN K x y z f ts ds ks (ae a m cc) Gq)/\ng g L (u.app g) (AN K x y z f ts ds ks (ae a m cc) Gq):=by
 have k:L[7]?=aa (qj K.Ni tv):=by rw[c.e];rfl
 have p:L[8]?=aa Gq:=by rw[c.e];rfl
 obtain⟨a,m,cc,o,h⟩:=iq.tail (g:=g) (x:=iv i) (vs:=b.map iv) fs wu c.td (c.o.PM p);obtain⟨j,d⟩:=c.o.uR l 7 k (.cells [ae a m cc] 27 0 af);have e:L.set 7 [(K.Ni,.cells [ae a m cc] 27 0 af)]=AN K x y z f ts ds ks (ae a m cc) Gq:=by rw[c.e];rfl
 rw[e]at j d;exact⟨a,m,cc,o,_,eu jR (c.o.get 7 k) (by simp) (dD ..) (iJ ..),⟨rfl,j,c.dc.fN d,c.row.fN d,c.LX,h,by have:=c.bd;rw[bP]at this;omega⟩,d⟩
theorem VC.ldt(c:VC h0 K T ord outs n tr x y z f ts ds ks todo tv Gq g L):aM au 27 g (pA K.Ni)=aa tv/\Rd g 3 tv (todo.map iv)/\∃(a:Option aF)(cc:Nat),tv=ae a todo.length cc:=by
 have d:L[7]?=aa (qj K.Ni tv):=by rw[c.e];rfl
 have b:L[8]?=aa Gq:=by rw[c.e];rfl
 obtain⟨a,cc,h⟩:=c.td.rM;rw[aG]at h;exact⟨da fs lF (c.o.get 7 d) (by simp),c.td.rd c.o b,a,cc,h⟩
theorem Pj(s:Wf h0)(c:VC h0 K T ord outs n tr x y z f ts ds ks todo tv Gq g L)(P:(f=af/\Wit T.A T.B g L x y z)\/(f=ak/\xX T.A T.B)):
  xB (aM au 4 g (pA K.k5)) λG=>cp (!G) (xU (aQ au 27 (pA K.k2) nA g) g λS B=>xU (aQ au 27 (pA K.k3) nA B) B λx2 A=>xU (aQ au 27 (pA K.k4) nA A) A λX C=>xU (aQ au 4 (pA K.k5) (ai ak) C) C λx1 F=>gI SS [((pA K.k2),aa 27),((pA K.k3),aa 27),((pA K.k4),aa 27),((pA K.k5),aa 4)] F (CN h0 T.A T.B)) (xL (aM au 27 (room g 7) (pA K.k2)) λJ E I=>xL (aM au 27 (room g 7) (pA K.k3)) λm l r=>xL (aM au 27 (room g 7) (pA K.k4)) λj d b=>xU (aQ au 27 (pA K.k2) (ae J E I) (room g 7)) (room g 7) λZ o=>xU (aQ au 27 (pA K.k3) (ae m l r) o) o λx4 v=>xU (aQ au 27 (pA K.k4) (ae j d b) v) v λx0 w=>xU (aQ au 4 (pA K.k5) (ai af) w) w λx3 H=>(aM au 27 o (pA K.k3)=aa (ae m l r)/\iz 4 (ae m l r) (ae m l r)=af)/\(aM au 27 o (pA K.k4)=aa (ae j d b)/\iz 4 (ae j d b) (ae j d b)=af)/\(aM au 27 v (pA K.k4)=aa (ae j d b)/\iz 4 (ae j d b) (ae j d b)=af)/\gI SS [((pA K.k2),aa 27),((pA K.k3),aa 27),((pA K.k4),aa 27),((pA K.k5),aa 4)] H (CN h0 T.A T.B)):=by
 refine⟨_,c.Lg,ay (λq=>?_) (λq=>?_)⟩
 ·obtain rfl:f=ak:=by simpa using q
  have ag:xX T.A T.B:=by
   rcases P with⟨h,_⟩|⟨_,h⟩
   ·cases h
   ·exact h
  obtain⟨u,i,a,_⟩:=(c.words s nA rfl rfl).1;refine⟨_,i,?_⟩;obtain⟨u,i,a,_⟩:=(a.words s nA rfl rfl).2.1;refine⟨_,i,?_⟩;obtain⟨u,i,a,_⟩:=(a.words s nA rfl rfl).2.2;refine⟨_,i,?_⟩;obtain⟨u,i,a,_⟩:=a.found s ak;refine⟨_,i,Sh a.Ki.1 a.Ki.2.1 a.Ki.2.2 a.Lg ⟨_,_,_,_,_,_,_,_,_,_,rfl,a.o.ok,.inl ⟨rfl,rfl,rfl,rfl,ag⟩⟩⟩
 ·obtain rfl:f=af:=by simpa using q
  have wt:Wit T.A T.B g L x y z:=by
   rcases P with⟨_,h⟩|⟨h,_⟩
   ·exact h
   ·cases h
  obtain⟨p,e,h1,h2,h3,h4,O,D,M⟩:=wt;have j1:=O;have j2:=D;have j3:=M;obtain⟨G1,W,_⟩:=j1;obtain⟨G2,r2,_⟩:=j2;obtain⟨G3,R,_⟩:=j3;obtain⟨a1,U,rfl⟩:=W.rM;obtain⟨Y,e2,rfl⟩:=r2.rM;obtain⟨a3,e3,rfl⟩:=R.rM;have V:=Jb D.rd;have N:=Jb M.rd;obtain⟨a,k⟩:=c.grow ((Ok.refl c.o.ok.wf).room 7);refine⟨_,_,_,a.Ki.1,_,_,_,a.Ki.2.1,_,_,_,a.Ki.2.2,?_⟩;obtain⟨u,i,a,t⟩:=(a.words s (ae a1 _ U) (dD ..) (iJ ..)).1;have k:=k.trans t;refine⟨_,i,?_⟩;have Q:=a.Ki;obtain⟨u,i,a,t⟩:=(a.words s (ae Y _ e2) (dD ..) (iJ ..)).2.1;have k:=k.trans t;refine⟨_,i,?_⟩;have l4:=a.Ki;obtain⟨u,i,a,t⟩:=(a.words s (ae a3 _ e3) (dD ..) (iJ ..)).2.2;have k:=k.trans t;refine⟨_,i,?_⟩;obtain⟨u,i,a,t⟩:=a.found s af;have k:=k.trans t;refine⟨_,i,⟨Q.2.1,V⟩,⟨Q.2.2,N⟩,⟨l4.2.2,N⟩,Sh a.Ki.1 a.Ki.2.1 a.Ki.2.2 a.Lg ⟨_,_,_,_,_,_,_,_,_,_,rfl,a.o.ok,.inr ⟨rfl,p,e,h1,h2,h3,h4,(O.fN k).rd,(D.fN k).rd,(M.fN k).rd⟩⟩⟩
end
def Uu(g:aw)(L:List gf)(e:aD)(a:Nat)(v:ah)(b:List (List ah)):Prop:=∃G,kK e a v b G/\∀p∈G,Im g L p.1 p.2
theorem Uu.fN{g g':aw}{L a:List gf}{e:aD}{b:List (List ah)}(r:Uu g L e m v b)(c:ng g L g' a):Uu g' a e m v b:=by
 obtain⟨G,d,f⟩:=r;exact⟨G,d,λp h=>c _ _ (f p h)⟩
theorem Uu.rd{g:aw}{L:List gf}{e:aD}{d:List (List ah)}(r:Uu g L e m v d):Ba g e m v d:=by
 obtain⟨G,⟨a,⟨rfl,rfl,rfl⟩|⟨k,b,cs,c,rfl,rfl,f,i,j⟩⟩,h⟩:=r
 ·exact⟨a,.inl ⟨.inl rfl,rfl⟩⟩
 ·exact hJ.rd (h0:={ g with ax:=0 }) ⟨a,.inr ⟨k,b,cs,c,rfl,cr _,(h _ (aX.2 rfl)).1,f,i,j⟩⟩
def Dk(ord:List NN)(tr:Cq)(k:NN):Option qk:=(uM ord k).bind λj=>(tr[j]?).bind λo=>o.map (·.2)
theorem Mm{ord:List NN}{tr:Cq}{k:NN}{d:qk}:Dk ord tr k=aa d↔ ∃j b,uM ord k=aa j/\tr[j]?=aa (aa (b,d)):=by
 unfold Dk;constructor
 ·intro h
  cases c:uM ord k with
  |none=>rw[c]at h;cases h
  | some j=>
   rw[c]at h
   cases a:tr[j]? with
   |none=>simp[a]at h
   | some o=>
    cases o with
    |none=>simp[a]at h
    |some v=>
     obtain⟨b,e⟩:=v;simp[a]at h;subst h;exact⟨j,b,rfl,a⟩
 ·rintro⟨j,b,c,a⟩;simp[c,a]
theorem Sf{B:cG}{ord:List NN}(b:ROk M B ord){tr:Cq}(h0:tr[0]?=aa (aa ([],([],[]))))(n:∀k,isK tr k->Hr M B ord tr k):xX M B:=by
 refine UN (Dk ord tr) ?_ (λk d m o h s c=>?_) (λk d h f=>?_)
 ·obtain⟨j,w,e⟩:=zt (aI b.hd);have r:=(List.getElem?_eq_some_iff.1 e).1;have y:=(List.getElem?_eq_some_iff.1 b.hd).1;have:j=0:=(List.getElem?_inj r b.nd).1 (e.trans b.hd.symm);subst this;exact Mm.2 ⟨0,[],w,h0⟩
 ·obtain⟨j,g,i,a⟩:=Mm.1 h;obtain⟨_,v⟩:=n j ⟨_,a⟩ g d k a (Aw i);obtain⟨p,t,l,q,u,x⟩:=v m o s c;exact⟨t,u,Mm.2 ⟨p,l,q,x⟩⟩
 ·obtain⟨j,g,i,a⟩:=Mm.1 h;exact(n j ⟨_,a⟩ g d k a (Aw i)).1 f
section
variable {h0:aw} {K:KS} {T:kI} {ord:List NN} {outs:List (Option Nat)} {n:Nat} {tr0:Cq} {xi:NN} {i ki N:Nat} {d:qk} {g:aw} {L:List gf}
theorem Ez(D:Wf h0)(u:T.Rows h0)(O:Good T.A)(F:Good T.B)(V:∀s∈T.A.aE,s.bG.length<=2000)(Y:∀s∈T.B.aE,s.bG.length<=2000)(E:ROk T.A T.B ord)(Z:ord.length=n)(hn:n<=90000)(al:∀j x,ord[j]?=aa x->Co T.A T.B x->GY outs j)(b:ord[i]?=aa xi){U:List Mv}(M:tr0[i]?=aa (aa (U,d))){a:Option aF}{c:Nat}(e:VD h0 K T ord outs n tr0 xi i ki N [] d g L)(H:Uu g L 105 2 (ae a n c) (ord.map kV))(G:aw->Prop)(W:∀g' p,VD h0 K T ord outs n tr0 xi i ki N (jF T.A T.B xi) d g' p->Uu g' p 105 2 (ae a n c) (ord.map kV)->G g'):
  xA (aM au 66 g (pA K.k1)) λC=>xI an (aM au 3 g (pA ki)) λw=>xP (aZ au 162 (ae a n c) (aA w)) λv=>xA (aM au 105 g (bN v)) λA=>aW 111 [(aq ⟨C⟩),(aq ⟨A⟩),(aN (.func 112) ⟨[]⟩ ⟨[(pA K.k7),(pA K.k5),(pA K.k8),(pA K.pD),(pA ki),(pA K.k10),(pA K.k9),(pA K.k12),(pA K.Ni)]⟩)] g λB q=>B=(av ⟨[]⟩)/\G q:=by
 have J:=e;obtain⟨tr,x,y,z,f,ts,ds,ks,todo,tv,Gq,cc,mi,_⟩:=J;subst Z;obtain⟨kk,x1,d1,Q⟩:=IZ H.rd b;have k:=E.lt xi (aI b);refine⟨_,rW.all cc.dc.m1.1,_,mi.ld rk ri,_,d1,_,Q,?_⟩;refine(D7 D u O F V Y (h:=g) (L:=L) k.1 k.2 (fa:=[]) (fc:=[(pA K.k7),(pA K.k5),(pA K.k8),(pA K.pD),(pA ki),(pA K.k10),(pA K.k9),(pA K.k12),(pA K.Ni)]) ag0 (λl g L=>VD h0 K T ord outs ord.length tr0 xi i ki N l d g L) (λl g L r=>r.ol) (λl g L g' r o=>r.grow o) e (λx0 x R I g' p e=>?_)).mono ?_
 ·have X:x∈jF T.A T.B xi:=by rw[I];simp
  have m:=mG.1 (show(x.1,x.2)∈jF T.A T.B xi from X);obtain⟨t,ht,_⟩:=zt (E.cl xi (aI b) _ _ m);exact XM D O F (by omega) rfl al b M m ⟨t,ht⟩ e
 ·rintro _ g7 ⟨rfl,L7,P,S⟩;exact⟨rfl,W _ _ P (H.fN S)⟩
end
end
section
theorem adt:cI au 175 []=aa (aq ⟨[nA,nA]⟩):=by kernel_rfl
def DI(h0:aw)(K:KS)(T:kI)(ord:List NN)(outs:List (Option Nat))(n:Nat)(a:Option aF)(c:Nat)(e:Nat)(g:aw):Prop:=
 ∃(d:Cq)(x y z:ah)(f:Bool)(m h i:List ah)(b:List Nat)(j:ah)(l:gf)(L:List gf),VC h0 K T ord outs n d x y z f m h i b j l g L/\Uu g L 105 2 (ae a n c) (ord.map kV)/\d[0]?=aa (aa ([],([],[])))/\(∀k∈b,isK d k)/\2*gr d+b.length=e/\((f=af/\Wit T.A T.B g L x y z)\/(f=ak/\∀k,isK d k->k∈b\/Hr T.A T.B ord d k))
section
variable {h0:aw} {K:KS} {T:kI} {ord:List NN} {outs:List (Option Nat)} {n:Nat}
theorem ZX(H:Wf h0)(G:T.Rows h0)(gA:Good T.A)(gB:Good T.B)(zA:∀s∈T.A.aE,s.bG.length<=2000)(zB:∀s∈T.B.aE,s.bG.length<=2000)(ro:ROk T.A T.B ord)(lo:ord.length=n)(hn:n<=90000)(al:∀j x,ord[j]?=aa x->Co T.A T.B x->GY outs j)(pv:LV){a:Option aF}{c mz:Nat}{g:aw}(B:DI h0 K T ord outs n a c mz g):
  cq qd (pq 18431) (mP K.k1 K.k2 K.k3 K.k4 K.k5 K.k7 K.k8 K.k9 K.k10 K.pD K.k12 K.Ni a n c ()) g (fZ qd (pq 10239) [] (kU qd (CN h0 T.A T.B))):=by
 refine B0 pv K.k1 K.k2 K.k3 K.k4 K.k5 K.k7 K.k8 K.k9 K.k10 K.pD K.k12 K.Ni a n c (λmz _ g=>DI h0 K T ord outs n a c mz g) _ (λv7 z=>?_) mz B;clear B g mz;intro zz g B;obtain⟨C,x,y,z,f,ts,ds,ks,S,tv,Gq,L,cc,o,x9,tk,rfl,st⟩:=B;obtain⟨ld,rt,u8,ct,rfl⟩:=cc.ldt;refine⟨_,_,_,ld,ay (λq=>?_) (λq=>?_)⟩
 rotate_left
 ·have q:=dF q;obtain rfl:S=[]:=aY (by omega);refine Pj H cc (st.imp id λ⟨h1,h2⟩=>⟨h1,Sf ro x9 λk R=>(h2 k R).resolve_left (λh=>by cases h)⟩)
 refine⟨_,cc.Lg,ay (λq2=>?_) (λq2=>?_)⟩
 rotate_left
 ·have hf:f=af:=by simpa using q2
  refine Pj H cc (.inl ?_);rcases st with h|⟨h,_⟩
  ·exact h
  ·rw[hf]at h;cases h
 obtain rfl:f=ak:=by simpa using q2
 have q:=dT q;obtain⟨i,l,rfl⟩:∃i l,S=i::l:=by
  cases S with
  |nil=>simp at q
  |cons i l=>exact⟨i,l,rfl⟩
 have dn:∀k,isK C k->k∈i::l\/Hr T.A T.B ord C k:=by
  rcases st with⟨h,_⟩|⟨_,h⟩
  ·cases h
  ·exact h
 obtain⟨⟨I,d⟩,Q⟩:=tk i (cH ..);obtain⟨F,t,z5,y4,u6⟩:=cc.LX i I d Q;have u3:=cc.row.lt;have B:i<n:=by have:=(List.getElem?_eq_some_iff.1 t).1;omega
 obtain⟨p0,i1,i2⟩:=rt.at_ fs wu rk ri (k:= an) (i:=((0:Nat):Int)) (by omega) (by simp);have i2:aM au 3 g (bN p0)=aa (iA i):=i2;refine⟨_,_,_,ld,_,i1,_,i2,_,al3,?_⟩;obtain⟨u1,z3,e1,m1⟩:=cc.o.cell (P:=au) wu (aA 0) (v:=iA i) rfl rfl;refine⟨u1,z3,?_⟩;obtain⟨cc,cg⟩:=cc.grow e1;have o:=o.fN cg;generalize u1.app (g.push (.cells [aA 0] 3 0 af))=g1 at*;obtain⟨a',m',c',sl,u2,y5,c2,x8⟩:=cc.pop H;refine⟨_,_,_,cc.ldt.1,_,_,_,sl,_,y5,?_⟩;have o:=o.fN x8;have r:=x8 _ _ m1;generalize u2.app g1=g2 at*;generalize u4:g.ax=ki at*;have z0:2*gr C+l.length<=2*gr C+l.length:=aS _;have M:∀(E:aw)(D:List gf),VD h0 K T ord outs n C F i ki (2*gr C+l.length) (jF T.A T.B F) d E D->Uu E D 105 2 (ae a n c) (ord.map kV)->cB (mw (mP K.k1 K.k2 K.k3 K.k4 K.k5 K.k7 K.k8 K.k9 K.k10 K.pD K.k12 K.Ni a n c) (λmz (_:Unit) g=>DI h0 K T ord outs n a c mz g)) (2*gr C+(i::l).length) [(pA K.k1),(pA K.k2),(pA K.k3),(pA K.k4),(pA K.k5),(ae a n c),(pA K.k7),(pA K.k8),(pA K.k9),(pA K.k10),(pA K.pD),(pA K.k12),(pA K.Ni)] E:=by
  rintro E D ⟨x4,J,N,O,U,y7,y9,y6,V,z6,z9,c',v6,ex,kn,me,z7⟩ z8;refine fG (a:=()) (2*gr x4+V.length) (by rw[bP];omega) ⟨x4,J,N,O,U,y7,y9,y6,V,z6,z9,D,c',z8,ex _ _ x9,kn.2,rfl,z7.imp id λ⟨h1,h2,h3⟩=>⟨h1,λk R=>?_⟩⟩;rcases kn.1 k R with h|rfl|h
  ·exact .inl h
  ·refine .inr λu5 d' x0 e1 e2=>?_;have e3:=aC (aC ((ex _ _ Q).symm.trans e1));injection e3 with e4 e5
   subst e4;subst e5;obtain rfl:=aC (t.symm.trans e2);exact⟨h2,λm k' s=>h3 _ (mG.2 s)⟩
  ·exact .inr h
 have vd:∀{E:aw}{D:List gf}{J N O:ah}{U:Bool},VC h0 K T ord outs n C J N O U ts ds ks l (ae a' m' c') Gq E D->Im E D ki (.cells [iA i] 3 0 af)->((U=af/\Wit T.A T.B E D J N O)\/(U=ak/\(nN T.A T.B F->d=([],[]))))->VD h0 K T ord outs n C F i ki (2*gr C+l.length) [] d E D:=λ{E D J N O U} cv mv sv=>⟨C,J,N,O,U,ts,ds,ks,l,_,Gq,cv,mv,yq.refl _,⟨λk R=>by
   rcases dn k R with h|h
   ·rcases cO.1 h with rfl|h
    ·exact .inr (.inl rfl)
    ·exact .inl h
   ·exact .inr (.inr h),λk R=>tk k (cJ _ R)⟩,z0,sv.imp id λ⟨h1,h2⟩=>⟨h1,h2,λw Y=>by cases Y⟩⟩
 have u0:=o;obtain⟨c3,x6⟩:=c2.grow ((Ok.refl c2.o.ok.wf).room 15);have o:=o.fN x6;have r:=x6 _ _ r;have y8:=lo;subst y8;obtain⟨kk,v8,d1,d2⟩:=IZ o.rd t;have x2:=ro.lt F (aI t);refine⟨_,rW.all c3.dc.m1.1,_,r.ld rk ri,_,d1,_,d2,?_⟩;refine(Qw c3.o.ok.wf (G.ok c3.o.ok) x2.1 x2.2).mono ?_;rintro _ g4 ⟨rfl,e4⟩;obtain⟨X,x7⟩:=c3.grow e4;have o:=o.fN x7;have r:=x7 _ _ r;refine⟨_,rfl,ay (λW=>?_) (λW=>?_)⟩
 ·rw[bj]at W;have f2:nN T.A T.B F:=⟨jv.1 W.1,jv.1 W.2⟩
  obtain⟨p,b,n2,f1,b',v0,u9,v1,v2,v3,v4,v5⟩:=X.ways Q;obtain⟨y1,y2⟩:=ss y4;have l1:(wL I).length<=I.length:=eZ Mv.l _;have l2:(wR I).length<=I.length:=eZ Mv.r _;refine⟨_,_,_,X.dly,_,r.ld rk ri,_,aed B,_,v3,_,adt,(Pg X.o.ok.wf (x:=d) (y:=([],[])) v4.rd v5.rd (.inl ⟨rfl,rfl⟩) (.inl ⟨rfl,rfl⟩) (by omega) (by omega)).mono ?_⟩;rintro _ g5 ⟨rfl,e5⟩;obtain⟨c5,y3⟩:=X.grow e5;have o:=o.fN y3;have r:=y3 _ _ r;refine⟨_,rfl,ay (λq4=>?_) (λq4=>?_)⟩
  ·have z4:d≠([],[]):=by simpa using q4
   obtain⟨kr,x5⟩:=al i F t ⟨[],F,.nil _,f2⟩;obtain⟨J,ns,e,z1,lr,r2,z2,hz,u7⟩:=c5.dc.ok i kr x5;obtain rfl:=aC (t.symm.trans z1);obtain rfl:=hz f2;obtain⟨Z,x1⟩:=c5.grow ((Ok.refl c5.o.ok.wf).room 11);have o:=o.fN x1;have r:=x1 _ _ r;obtain⟨p,_,_,_,_,_,_,w1,w2,_⟩:=Z.ways Q;refine⟨_,_,_,Z.prv,_,_,_,Z.trl,_,r.ld rk ri,_,sy QD QE B,_,w1,_,_,_,Z.rst,_,r.ld rk ri,_,sy pf rQ B,_,Z.out x5,ay (λ_=>?_) (λq=>by rw[MG]at q;cases q)⟩;have hl:I.length+([]:List Mv).length<=1000000:=by rw[List.length_nil];omega
   refine(Z.prove H gA gB w2 (lr.mono x1) z5 r2 z2 hl).mono ?_;rintro _ g7 ⟨rfl,J,N,O,c7,y0,Y⟩;have hd:=UP y4 z4;rw[cF]at Y⊢;obtain⟨u,s1,c8,x3⟩:=c7.found H (!decide (wL I=wR I));refine⟨_,rfl,_,s1,?_⟩;have o:=o.fN (y0.trans x3);have r:=(y0.trans x3) _ _ r;have Y:=(Y hd).fN x3;generalize u.app g7=g8 at*;obtain⟨c9,A⟩:=c8.grow ((Ok.refl c8.o.ok.wf).room 7);refine Ez H G gA gB zA zB ro rfl hn al t Q (vd c9 (A _ _ r) (.inl ⟨by rw[eF hd];rfl,Y.fN A⟩)) (o.fN A) _ M
  ·have he:d=([],[]):=by simpa using q4
   obtain⟨c9,A⟩:=c5.grow ((Ok.refl c5.o.ok.wf).room 7);refine Ez H G gA gB zA zB ro rfl hn al t Q (vd c9 (A _ _ r) (.inr ⟨rfl,λ_=>he⟩)) (o.fN A) _ M
 ·have nf:¬nN T.A T.B F:=λh=>by
   rw[jv.2 h.1,jv.2 h.2]at W;cases W
  obtain⟨c9,A⟩:=X.grow ((Ok.refl X.o.ok.wf).room 7);refine Ez H G gA gB zA zB ro rfl hn al t Q (vd c9 (A _ _ r) (.inr ⟨rfl,λh=>absurd h nf⟩)) (o.fN A) _ M
end
end
section
theorem OL.perm{h0 g:aw}{L L':List gf}(o:OL h0 g L)(p:L.flatten.Perm L'.flatten):OL h0 g L'/\ng g L g L':=by
 have b:(keys L).Perm (keys L'):=p.map _;exact⟨⟨o.ok,b.nodup_iff.1 o.nd,λk a=>o.lo k (b.mem_iff.2 a),λq c=>o.at_ q (p.mem_iff.2 c)⟩,λk B m=>⟨m.1,λa=>m.2 (b.mem_iff.2 a)⟩⟩
theorem Uu.abh{h0 g:aw}{L:List gf}{e:aD}{d:List (List ah)}(o:OL h0 g L)(i:hJ g h e n v d):Uu h L e n v d:=by
 obtain⟨j,⟨rfl,rfl⟩|⟨k,b,cs,c,rfl,l,f,m,r,q⟩⟩:=i
 ·exact⟨[],kK.nil ..,λp a=>by cases a⟩
 ·exact⟨_,⟨j,.inr ⟨k,b,cs,c,rfl,rfl,m,r,q⟩⟩,λp a=>by obtain rfl:=aX.1 a;exact o.new l f⟩
theorem zE{l:List Nat}{x:List Int}(r:oJ M n l m x p)(g:Good M)(b:rp M m):lD (λp x=>kD M x p) (AP M) n:=by
 induction r with
 |nil n=>
  refine .base ?_;unfold rp at b;by_cases c:n<M.aE.length
  ·rw[gD,gE c]at b;exact⟨_,gE c,b⟩
  ·rw[gD,getElem?_eq_none (by omega)]at b;exact absurd rfl b
 |@cons n i m a l x p h r e=>
  refine .step (e b) ?_;by_cases c:n<M.aE.length
  ·obtain⟨t,f,d,_⟩:=nj c;rw[d]at h;exact⟨t,f,dZ.2 ⟨a,aI h,rfl⟩⟩
  ·unfold eA at h;rw[gD,getElem?_eq_none (l:=M.aE) (by omega)]at h;simp at h
theorem HX(g:Good M)(h:HW M=af):∀l x y,¬Eh M l x y:=by
 rintro l x y ⟨e,r,f⟩;unfold HW at h;rw[bj]at h;have a:=h.2;simp only[dt,decide_eq_false_iff_not]at a;exact a ⟨.base rfl,zE r g f⟩
theorem aiJ:cD au 109=aa (.cells [nA] 109 0 af,jL):=by kernel_rfl
theorem aiN:cD au 172=aa (.cells [nA] 172 0 af,jL):=by kernel_rfl
theorem aiM:cD au 171=aa (.cells [.nilFunc] 171 0 af,jL):=by kernel_rfl
theorem aiS:cD au 68=aa (.cells [nA] 68 0 af,jL):=by kernel_rfl
theorem al4:cD au 4=aa (.cells [ai ak] 4 0 af,jL):=by kernel_rfl
theorem agK:cD au 163=aa (.cells [.map none] 163 0 af,jL):=by kernel_rfl
theorem ah9:cd au 109=aa 1:=by kernel_rfl
theorem aib:cd au 172=aa 1:=by kernel_rfl
theorem aia:cd au 171=aa 1:=by kernel_rfl
theorem aid:cd au 68=aa 1:=by kernel_rfl
noncomputable def acD:TypeInfo:=(au.info? 112).getD default
theorem acE:au.info? 112=aa acD:=by kernel_rfl
theorem T5:acD.size=1:=by kernel_rfl
theorem Rj:acD.bytes=8:=by kernel_rfl
theorem afP:zeroOf au 112=aa (aT none):=by kernel_rfl
theorem ajH(n:Nat)(a:n<=100000):cK au 109 (aA (n:Int)) (aA (n:Int))=aa (.cells (aH n (aT none)) 112 1 af,pw n n):=by
 unfold cK dz;dsimp only;rw[QD]
 try dsimp only
 change (match au.info? 112,zeroOf au 112 with
  |some i,aa z=>(if z.cells.size=i.size/\0<i.size/\(0:Int)<=(n:Int)/\(n:Int)<=(n:Int)/\(n:Int)*i.bytes<=140737488355328/\(n:Int)<=1099511627776 then aa (eE.cells (eO z.cells.toList (n:Int).toNat) 112 i.size af,λk=>ae (aa ⟨k,0,none⟩) (n:Int).toNat (n:Int).toNat)else none)
  |_,_=>none)=_
 rw[acE,afP];dsimp only;rw[T5,Rj,iP ⟨rfl,by omega,by omega,fU _,by omega,by omega⟩];have e:((n:Int)).toNat=n:=by omega
 rw[e,show(aT none).cells.toList=[aT none]from rfl,qh];rfl
noncomputable def acH:TypeInfo:=(au.info? 175).getD default
theorem acI:au.info? 175=aa acH:=by kernel_rfl
theorem T7:acH.size=2:=by kernel_rfl
theorem Rl:acH.bytes=48:=by kernel_rfl
theorem afR:zeroOf au 175=aa (aq ⟨[nA,nA]⟩):=by kernel_rfl
theorem ajK(n:Nat)(a:n<=100000):cK au 172 (aA (n:Int)) (aA (n:Int))=aa (.cells (aH n [nA,nA]).flatten 175 2 af,pw n n):=by
 unfold cK dz;dsimp only;rw[aeP]
 try dsimp only
 change (match au.info? 175,zeroOf au 175 with
  |some i,aa z=>(if z.cells.size=i.size/\0<i.size/\(0:Int)<=(n:Int)/\(n:Int)<=(n:Int)/\(n:Int)*i.bytes<=140737488355328/\(n:Int)<=1099511627776 then aa (eE.cells (eO z.cells.toList (n:Int).toNat) 175 i.size af,λk=>ae (aa ⟨k,0,none⟩) (n:Int).toNat (n:Int).toNat)else none)
  |_,_=>none)=_
 rw[acI,afR];dsimp only;rw[T7,Rl,iP ⟨rfl,by omega,by omega,fU _,by omega,by omega⟩];have e:((n:Int)).toNat=n:=by omega
 rw[e,show(aq ⟨[nA,nA]⟩).cells.toList=[nA,nA]from rfl,xW];rfl
section
variable {h0:aw} {T:kI} {g:aw} {L:List gf}
theorem HV(n:Wf h0)(o:OL h0 g L){b d c a:Nat}{x y z:ah}{f:Bool}{R:List gf}(e:L=[qj b x,qj d y,qj c z,[(a,.cells [ai f] 4 0 af)]]++R)(C:xX T.A T.B):
  xU (aQ au 27 (pA b) nA g) g λw l=>xU (aQ au 27 (pA d) nA l) l λE j=>xU (aQ au 27 (pA c) nA j) j λA m=>xU (aQ au 4 (pA a) (ai ak) m) m λD q=>gI SS [((pA b),aa 27),((pA d),aa 27),((pA c),aa 27),((pA a),aa 4)] q (CN h0 T.A T.B):=by
 subst e;obtain⟨p,_⟩:=o.uR n 0 (k:=b) (B:= .cells [x] 27 0 af) rfl (.cells [nA] 27 0 af);have h:aQ au 27 (pA b) nA g=aa (undef,.set b (.cells [nA] 27 0 af)):=eu jR (cs:=[x]) (o.get 0 rfl) (by simp) rfl rfl;refine⟨_,h,?_⟩;change OL h0 _ ([qj b nA,qj d y,qj c z,[(a,.cells [ai f] 4 0 af)]]++R)at p;generalize (dJ.set b (.cells [nA] 27 0 af)).app g=u at*;obtain⟨s,_⟩:=p.uR n 1 (k:=d) (B:= .cells [y] 27 0 af) rfl (.cells [nA] 27 0 af);have h:aQ au 27 (pA d) nA u=aa (undef,.set d (.cells [nA] 27 0 af)):=eu jR (cs:=[y]) (p.get 1 rfl) (by simp) rfl rfl;refine⟨_,h,?_⟩;change OL h0 _ ([qj b nA,qj d nA,qj c z,[(a,.cells [ai f] 4 0 af)]]++R)at s;generalize (dJ.set d (.cells [nA] 27 0 af)).app u=t at*;obtain⟨r,_⟩:=s.uR n 2 (k:=c) (B:= .cells [z] 27 0 af) rfl (.cells [nA] 27 0 af);have h:aQ au 27 (pA c) nA t=aa (undef,.set c (.cells [nA] 27 0 af)):=eu jR (cs:=[z]) (s.get 2 rfl) (by simp) rfl rfl;refine⟨_,h,?_⟩;change OL h0 _ ([qj b nA,qj d nA,qj c nA,[(a,.cells [ai f] 4 0 af)]]++R)at r;generalize (dJ.set c (.cells [nA] 27 0 af)).app t=v at*;obtain⟨i,_⟩:=r.uR n 3 (k:=a) (B:= .cells [ai f] 4 0 af) rfl (.cells [ai ak] 4 0 af);have h:aQ au 4 (pA a) (ai ak) v=aa (undef,.set a (.cells [ai ak] 4 0 af)):=eu Te (cs:=[ai f]) (r.get 3 rfl) (by simp) rfl rfl;refine⟨_,h,?_⟩;change OL h0 _ ([qj b nA,qj d nA,qj c nA,[(a,.cells [ai ak] 4 0 af)]]++R)at i;generalize (dJ.set a (.cells [ai ak] 4 0 af)).app v=F at*;exact Sh (da fs lF (i.get 0 rfl) (by simp)) (da fs lF (i.get 1 rfl) (by simp)) (da fs lF (i.get 2 rfl) (by simp)) (da q4 q4a (k:=a) (cs:=[ai ak]) (e:=4) (sz:=0) (wr:=af) (i.get 3 rfl) (by simp)) ⟨_,_,_,_,_,_,_,_,_,_,rfl,i.ok,.inl ⟨rfl,rfl,rfl,rfl,C⟩⟩
end
end
def Ju(n:Nat):Cq:=(aH n none).set 0 (aa ([],([],[])))
theorem Og{a:List Mv}{d:qk}(h:(Ju n)[k]?=aa (aa (a,d))):k=0/\a=[]/\d=([],[]):=by
 unfold Ju at h;rw[getElem?_set]at h;by_cases e:0=k
 ·rw[iP e]at h;split at h
  ·have:=aC (aC h);injection this with b c
   exact⟨e.symm,b.symm,c.symm⟩
  ·cases h
 ·rw[iN e,getElem?_replicate]at h;split at h<;>cases h
theorem Mf(a:0<n):(Ju n)[0]?=aa (aa ([],([],[]))):=by
 unfold Ju;rw[getElem?_set,iP rfl,iP (by rw[bE];exact a)]
theorem Ue(a:0<n):gr (Ju n)+1<=n:=by
 have h:(aH n (none:Option (List Mv×qk)))[0]?=aa none:=by rw[getElem?_replicate,iP a]
 have:=mW (([],([],[])):List Mv×qk) h;have b:=IP (aH n (none:Option (List Mv×qk)));rw[bE]at b;unfold Ju;omega
theorem afF{L:List gf}(b:0<n):Fm g L n (Ju n) (aH n (aT none)) (aH n [nA,nA]).flatten (((aH n ak).map ai).set 0 (ai af)):=by
 refine⟨by unfold Ju;simp,by simp,by simp[List.length_flatten];omega,by simp,λk v h=>?_,λk i d h=>?_⟩
 ·unfold Ju at h;rw[getElem?_set]at h⊢;by_cases e:0=k
  ·rw[iP e]at h⊢;rw[iP (by simpa using b)];split at h
   ·obtain rfl:=aC h;rfl
   ·cases h
  ·rw[iN e,getElem?_replicate]at h;rw[iN e,getElem?_map,getElem?_replicate];split at h
   ·next c=>
    obtain rfl:=aC h;rw[iP c];rfl
   ·cases h
 ·obtain⟨rfl,rfl,rfl⟩:=Og h;obtain⟨m,rfl⟩:∃m,n=m+1:=⟨n-1,by omega⟩
  have a:ua g L 3 nA ([].map zV):=⟨[],iq.nil 3,λp f=>by cases f⟩
  exact⟨none,nA,nA,by simp[List.replicate_succ],.nil,by simp[List.replicate_succ],by simp[List.replicate_succ],a,a⟩
theorem rW.lA{T:kI}(h:g.get k=aa (rW T)):aM au 24 g (pA k)=aa (aq ⟨dK T.A T.a T.n T.c⟩):=mr KD J6 sN h (by simp[kI.arg,dK])
theorem rW.lB{T:kI}(h:g.get k=aa (rW T)):aM au 24 g (cn k 4)=aa (aq ⟨dK T.B T.b T.m T.d⟩):=mr KD J6 sN h (by simp[kI.arg,dK])
theorem abp(A:List gf)(G a:gf):(A++[G,a]).flatten.Perm (A++[a,G]).flatten:=by
 rw[fV,fV];refine List.Perm.append_left _ ?_;simp only[fg,flatten_nil,cF];exact List.perm_append_comm
theorem S5{T:kI}(tb:BG h)(w:Wf h)(x2:Small T.A)(x0:Small T.B)(U:T.Rows h)(gA:Good T.A)(gB:Good T.B):aW 47 [aq ⟨T.arg⟩] h (CN h T.A T.B):=by
 have zA:=x2.bG;have zB:=x0.bG;refine S1 T.arg h _ ⟨_,O8 T,_,OY,_,OY,_,OY,_,al4,?_⟩;have o0:=OL.nil (Ok.refl w);have g:=o0.oT (rW T);obtain⟨o1,_⟩:=o0.grow ((Ok.refl w).push (rW T));generalize q3:h.ax=k1 at*;generalize h.push (rW T)=g1 at*;obtain⟨o2,c2⟩:=o1.push (.cells [nA] 27 0 af);have g:=c2 _ _ g;generalize j3:g1.ax=k2 at*;generalize g1.push (.cells [nA] 27 0 af)=g2 at*;obtain⟨o3,c3⟩:=o2.push (.cells [nA] 27 0 af);have g:=c3 _ _ g;generalize q4:g2.ax=k3 at*;generalize g2.push (.cells [nA] 27 0 af)=g3 at*;obtain⟨o4,c4⟩:=o3.push (.cells [nA] 27 0 af);have g:=c4 _ _ g;generalize j2:g3.ax=k4 at*;generalize g3.push (.cells [nA] 27 0 af)=g4 at*;obtain⟨o5,c5⟩:=o4.push (.cells [ai ak] 4 0 af);have g:=c5 _ _ g;generalize j7:g4.ax=k5 at*;generalize g4.push (.cells [ai ak] 4 0 af)=g5 at*;change OL h g5 [qj k2 nA,qj k3 nA,qj k4 nA,[(k5,.cells [ai ak] 4 0 af)]]at o5;change Im g5 [qj k2 nA,qj k3 nA,qj k4 nA,[(k5,.cells [ai ak] 4 0 af)]] k1 (rW T)at g;clear c2 c3 c4 c5 o1 o2 o3 o4;refine⟨_,M1 _,_,rW.lA g.1,(Lr (tb.ok o5.ok) o5.ok.wf x2 (U.ok o5.ok).ra).mono ?_⟩;rintro _ g6 ⟨rfl,e6⟩;obtain⟨o6,c6⟩:=o5.grow e6;have g:=c6 _ _ g;refine⟨_,rfl,ay (λq=>?_) (λq=>?_)⟩
 ·exact HV w o6 (R:=[]) (by rw[cF]) λl l' x y z h _=>absurd h (HX gA q l x y)
 refine⟨_,Il _,_,rW.lB g.1,(Lr (tb.ok o6.ok) o6.ok.wf x0 (U.ok o6.ok).rb).mono ?_⟩;rintro _ g7 ⟨rfl,e7⟩;obtain⟨o7,c7⟩:=o6.grow e7;have g:=c7 _ _ g;refine⟨_,rfl,ay (λq=>?_) (λq=>?_)⟩
 ·exact HV w o7 (R:=[]) (by rw[cF]) λl l' x y z _ h=>absurd h (HX gB q l' x z)
 refine⟨_,rW.all g.1,(Qy o7.ok.wf (U.ok o7.ok) gA gB zA zB x2.OB x0.OB).mono ?_⟩;rintro _ g8 ⟨b,a,n,c,km,rfl,ro,ow,z6,w0,_,e8⟩;have w6:=zr ro.nd ro.lt;have j1:T.A.aE.length*T.B.aE.length<=90000:=dC x2.OB x0.OB;have hn:b.length<=90000:=by omega
 have S:0<b.length:=(List.getElem?_eq_some_iff.1 ro.hd).1;have j:=Uu.abh o7 ow;obtain rfl:n=b.length:=by
  obtain⟨G,r,_⟩:=j;rw[r.len,aG]
 have p:=o7.new w0 z6;obtain⟨o8,c8⟩:=o7.grow e8;have g:=c8 _ _ g;refine⟨_,_,_,_,rfl,_,agK,?_⟩;obtain⟨u,s9,e9,s⟩:=o8.cell (P:=au) T3 (.map none) (v:= .map (aa km)) rfl rfl;refine⟨u,s9,?_⟩;obtain⟨o9,c9⟩:=o8.grow e9;have g:=c9 _ _ g;have p:=c9 _ _ p;have j:=j.fN c9;generalize q2:g8.ax=k7 at*;generalize u.app (g8.push (.cells [.map none] 163 0 af))=g9 at*;refine⟨_,rW.all g.1,_,s.ld vS yT,(XJ o9.ok.wf (U.ok o9.ok) gA gB zA zB ro hn j.rd p.1).mono ?_⟩;rintro _ x6 ⟨ko,z3,rfl,u0,z4,lo,t,al,u3⟩;have A:=o9.new z4 u0;obtain⟨x7,x3⟩:=o9.grow u3;have t:=t.mono (I':=Im x6 [qj k2 nA,qj k3 nA,qj k4 nA,[(k5,.cells [ai ak] 4 0 af)]]) λk B m=>o9.new m.2 m.1;have g:=x3 _ _ g;have p:=x3 _ _ p;have s:=x3 _ _ s;have j:=j.fN x3;refine⟨_,_,_,rfl,_,afZ,?_⟩;obtain⟨u,z8,w4,C⟩:=x7.cell (P:=au) acy nA (v:=sA ko b.length b.length) rfl rfl;refine⟨u,z8,?_⟩;obtain⟨x4,Z⟩:=x7.grow w4;have g:=Z _ _ g;have p:=Z _ _ p;have s:=Z _ _ s;have A:=Z _ _ A;have t:=t.mono Z;have j:=j.fN Z;generalize j4:x6.ax=k8 at*;generalize u.app (x6.push (.cells [nA] 166 0 af))=x5 at*;obtain⟨o,ho⟩:∃o,z3[0]?=aa o:=⟨_,gE (by omega)⟩
 have x8:aM au 168 x5 (pA ko)=aa (Kq o):=by
  rw[da Rr OX A.1 (by rw[aG];omega),gD,getElem?_map,ho];rfl
 refine⟨_,_,_,C.ld pf CH,_,sy (i:=0) pf rQ S,_,x8,_,MQ _,ay (λq=>?_) (λq=>?_)⟩
 ·refine HV w x4 (R:=[]) (by rw[cF]) (Ag.2 λms e r f=>?_);obtain⟨k,X⟩:=al 0 _ ro.hd ⟨ms,e,r,f⟩;rw[ho]at X;obtain rfl:=aC X
  cases q
 clear x8;refine⟨_,aiM,?_⟩;obtain⟨u,v6,u6,J⟩:=x4.cell (P:=au) aia .nilFunc (v:= aN (.func 107) ⟨[]⟩ ⟨[pA k2,pA k3,pA k4]⟩) rfl rfl;refine⟨u,v6,?_⟩;obtain⟨v4,V⟩:=x4.grow u6;have g:=V _ _ g;have p:=V _ _ p;have s:=V _ _ s;have C:=V _ _ C;have A:=V _ _ A;have t:=t.mono V;have j:=j.fN V;generalize j9:x5.ax=k9 at*;generalize u.app (x5.push (.cells [.nilFunc] 171 0 af))=x9 at*;refine⟨_,_,_,ajH _ (by omega),?_⟩;obtain⟨y3,N⟩:=v4.push (.cells (aH b.length (aT none)) 112 1 af);have g:=N _ _ g;have p:=N _ _ p;have s:=N _ _ s;have C:=N _ _ C;have J:=N _ _ J;have A:=N _ _ A;have t:=t.mono N;have j:=j.fN N;generalize q1:x9.ax=kt at*;generalize x9.push (.cells (aH b.length (aT none)) 112 1 af)=y1 at*;refine⟨_,aiJ,?_⟩;obtain⟨u,v3,v0,D⟩:=y3.cell (P:=au) ah9 nA (v:=sA kt b.length b.length) rfl rfl;refine⟨u,v3,?_⟩;obtain⟨u5,O⟩:=y3.grow v0;have g:=O _ _ g;have p:=O _ _ p;have s:=O _ _ s;have C:=O _ _ C;have J:=O _ _ J;have A:=O _ _ A;have t:=t.mono O;have j:=j.fN O;generalize w8:y1.ax=u4 at*;generalize u.app (y1.push (.cells [nA] 109 0 af))=y2 at*;refine⟨_,_,_,ajK _ (by omega),?_⟩;obtain⟨z2,M⟩:=u5.push (.cells (aH b.length [nA,nA]).flatten 175 2 af);have g:=M _ _ g;have p:=M _ _ p;have s:=M _ _ s;have C:=M _ _ C;have J:=M _ _ J;have D:=M _ _ D;have A:=M _ _ A;have t:=t.mono M;have j:=j.fN M;generalize j8:y2.ax=kd at*;generalize y2.push (.cells (aH b.length [nA,nA]).flatten 175 2 af)=y5 at*;refine⟨_,aiN,?_⟩;obtain⟨u,w5,v7,Q⟩:=z2.cell (P:=au) aib nA (v:=sA kd b.length b.length) rfl rfl;refine⟨u,w5,?_⟩;obtain⟨v2,L⟩:=z2.grow v7;have g:=L _ _ g;have p:=L _ _ p;have s:=L _ _ s;have C:=L _ _ C;have J:=L _ _ J;have D:=L _ _ D;have A:=L _ _ A;have t:=t.mono L;have j:=j.fN L;generalize j0:y5.ax=u1 at*;generalize u.app (y5.push (.cells [nA] 172 0 af))=y4 at*;refine⟨_,_,_,Xj _ (by omega),?_⟩;obtain⟨y0,H⟩:=v2.push (.cells ((aH b.length ak).map ai) 4 1 af);have g:=H _ _ g;have p:=H _ _ p;have s:=H _ _ s;have C:=H _ _ C;have J:=H _ _ J;have D:=H _ _ D;have Q:=H _ _ Q;have A:=H _ _ A;have t:=t.mono H;have j:=j.fN H;generalize j5:y4.ax=kk at*;generalize y4.push (.cells ((aH b.length ak).map ai) 4 1 af)=z1 at*;refine⟨_,aiS,?_⟩;obtain⟨u,u9,v8,x1⟩:=y0.cell (P:=au) aid nA (v:=sA kk b.length b.length) rfl rfl;refine⟨u,u9,?_⟩;obtain⟨y6,I⟩:=y0.grow v8;have g:=I _ _ g;have p:=I _ _ p;have s:=I _ _ s;have C:=I _ _ C;have J:=I _ _ J;have D:=I _ _ D;have Q:=I _ _ Q;have A:=I _ _ A;have t:=t.mono I;have j:=j.fN I;generalize w9:z1.ax=u7 at*;generalize u.app (z1.push (.cells [nA] 68 0 af))=v1 at*;obtain⟨u8,E⟩:=y6.uR w 6 (k:=kk) (B:= .cells ((aH b.length ak).map ai) 4 1 af) rfl (.cells (((aH b.length ak).map ai).set 0 (ai af)) 4 1 af);refine⟨_,_,_,x1.ld q68 ajU,_,sy (i:=0) q68 Te S,_,eu Te (k:=kk) (y6.get 6 rfl) (by simpa using S) rfl rfl,_,_,_,qi 0,_,OY,?_⟩;have g:=E _ _ g;have p:=E _ _ p;have s:=E _ _ s;have C:=E _ _ C;have J:=E _ _ J;have D:=E _ _ D;have Q:=E _ _ Q;have x1:=E _ _ x1;have A:=E _ _ A;have t:=t.mono E;have j:=j.fN E;generalize (dJ.set kk (.cells (((aH b.length ak).map ai).set 0 (ai af)) 4 1 af)).app v1=y7 at*;obtain⟨w3,v5⟩:=u8.push (.cells [aA 0] 3 1 af);have F:=v5;generalize j6:y7.ax=W at*;generalize y7.push (.cells [aA 0] 3 1 af)=z0 at*
 obtain⟨y9,z5⟩:=w3.push (.cells [nA] 27 0 af);have F:=F.trans z5;generalize w7:z0.ax=Y at*;generalize z0.push (.cells [nA] 27 0 af)=y8 at*;obtain⟨z7,z9⟩:=y9.uR w 8 (k:=Y) (B:= .cells [nA] 27 0 af) rfl (.cells [sA W 1 1] 27 0 af);have F:=F.trans z9;have w1:aQ au 27 (pA Y) (sA W 1 1) y8=aa (undef,.set Y (.cells [sA W 1 1] 27 0 af)):=eu jR (cs:=[nA]) (y9.get 8 rfl) (by simp) rfl rfl;refine⟨_,w1,?_⟩;generalize (dJ.set Y (.cells [sA W 1 1] 27 0 af)).app y8=q0 at*
 let K:KS:=⟨k1,k2,k3,k4,k5,k7,k8,k9,u4,u1,u7,Y,kt,kd,kk,km,ko⟩
 obtain⟨v9,u2⟩:=OL.perm (L':=AN K nA nA nA ak (aH b.length (aT none)) (aH b.length [nA,nA]).flatten (((aH b.length ak).map ai).set 0 (ai af)) (sA W 1 1) [(W,.cells [aA 0] 3 1 af)]) z7 (abp [qj k2 nA,qj k3 nA,qj k4 nA,[(k5,.cells [ai ak] 4 0 af)],[(kt,.cells (aH b.length (aT none)) 112 1 af)],[(kd,.cells (aH b.length [nA,nA]).flatten 175 2 af)],[(kk,.cells (((aH b.length ak).map ai).set 0 (ai af)) 4 1 af)]] [(W,.cells [aA 0] 3 1 af)] (qj Y (sA W 1 1)));have F:=F.trans u2;have w2:iq 3 (sA W 1 1) (([0]:List Nat).map iv) [(W,.cells [aA 0] 3 1 af)]:=kK.made (rs:=[[aA 0]]) (by simp) (by decide +kernel);refine ZX (K:=K) (mz:=2*gr (Ju b.length)+1) w U gA gB zA zB ro rfl hn al T.arg ⟨Ju b.length,nA,nA,nA,ak,_,_,_,[0],_,_,_,⟨rfl,v9,⟨F _ _ g,F _ _ s,F _ _ p,F _ _ C,F _ _ A,F _ _ J,F _ _ D,F _ _ Q,F _ _ x1,lo,t.mono F⟩,afF S,λk ms d X=>?_,w2,?_⟩,j.fN F,Mf S,λk X=>?_,rfl,.inr ⟨rfl,λk X=>?_⟩⟩
 ·obtain⟨rfl,rfl,rfl⟩:=Og X;exact⟨_,ro.hd,.nil _,rfl,by rw[List.length_nil,bO];exact IP _⟩
 ·have:=Ue S;rw[bw];omega
 ·obtain rfl:=aX.1 X;exact⟨_,Mf S⟩
 ·obtain⟨⟨ms,d⟩,X⟩:=X;obtain⟨rfl,_⟩:=Og X;exact .inl (aX.2 rfl)
variable{N:kH}
section
theorem Yv{M:cG}{ord:List Nat}(l:Good M)(e:M.start.toNat∈ord):Good (lq M ord):=by
 have f:(lq M ord).aE.length=ord.length:=by unfold lq;simp
 have g:=(IT ord 0 M.start.toNat).2 e;have j:=ux ord 0 M.start.toNat;refine⟨?_,?_,λs e q m=>?_⟩
 ·show 0<=ic ord 0 M.start.toNat;rcases j with h|h
  ·exact absurd h g
  ·omega
 ·show ic ord 0 M.start.toNat<_;rw[f];rcases j with h|h
  ·exact absurd h g
  ·omega
 ·obtain⟨x,o,rfl⟩:=dZ.1 e;obtain⟨p,b,c⟩:=mF.1 m;unfold jM at c;split at c
  ·cases c
  ·next i=>
   obtain rfl:=aC c;have k:=ux ord 0 p.t.toNat;rw[f];rcases k with h|h
   ·exact absurd h i
   ·have d:Hp M.aE.length p:=by
     rw[gD]at b
     cases a:M.aE[x]? with
     |none=>rw[a]at b;cases b
     |some n=>rw[a]at b;exact l.bG n (aI a) p b
    exact⟨d.i0,d.i1,d.o0,d.o1,by show 0<=ic ord 0 p.t.toNat;omega,by show ic ord 0 p.t.toNat<_;omega⟩
theorem afd{M:cG}{ord:List Nat}(b:∀s∈M.aE,s.bG.length<=n):∀s∈(lq M ord).aE,s.bG.length<=n:=λs a=>by
 obtain⟨x,c,rfl⟩:=dZ.1 a;refine bK (jC ..) ?_;rw[gD]
 cases h:M.aE[x]? with
 |none=>exact cr _
 |some s=>exact b s (aI h)
theorem NB:∀{l:List Nat}{i j x:Nat},l.Nodup->l[j]?=aa x->ic l i x=((i+j:Nat):Int)
 |[],_,_,_,_,h=>by simp at h
 |o::r,i,0,x,a,h=>by
  obtain rfl:o=x:=by simpa using h
  unfold ic;rw[iP rfl];simp
 |o::r,i,j+1,x,a,h=>by
  have b:r[j]?=aa x:=by simpa using h
  have c:o≠x:=λe=>(nodup_cons.1 a).1 (e▸aI b);unfold ic;rw[iN c,NB (nodup_cons.1 a).2 b];omega
theorem Qp:∀{l:List Nat}{i j x:Nat},ic l i x=((i+j:Nat):Int)->l[j]?=aa x
 |[],i,j,x,h=>by unfold ic at h;omega
 | o::r,i,j,x,h=>by
  unfold ic at h;split at h
  ·next e=>
   obtain rfl:j=0:=by omega
   rw[e];rfl
  ·have b:=ux r (i+1) x;obtain⟨a,rfl⟩:∃a,j=a+1:=⟨j-1,by omega⟩
   show r[a]?=aa x;exact Qp (i:=i+1) (by rw[h];omega)
section
variable {M:cG} {ord:List Nat}
theorem Vx{x:Nat}(h:ord[i]?=aa x):(lq M ord).aE[i]?=aa (uB M ord x):=by
 show(ord.map (uB M ord))[i]?=_;rw[getElem?_map,h];rfl
theorem QS:(lq M ord).aE.length=ord.length:=by unfold lq;simp
theorem acp{x:Nat}(h:x<M.aE.length):M.aE[x]?=aa (M.aE.getD x ⟨[],[]⟩):=by
 rw[gD,gE h];rfl
theorem acv(d:Good M){x y:Nat}(h:kD M x y):x<M.aE.length/\y<M.aE.length:=by
 obtain⟨s,b,c⟩:=h;obtain⟨q,e,rfl⟩:=dZ.1 c;have a:=d.bG s (aI b) q e;have g:=a.t0;have f:=a.t1;exact⟨(List.getElem?_eq_some_iff.1 b).1,by omega⟩
theorem acq(a:Good M):M.start.toNat<M.aE.length:=by
 have c:=a.oz;have b:=a.pY;omega
theorem ahU(a:Good M){x:Nat}(h:lD (kD M) (λy=>y=M.start.toNat) x):x<M.aE.length:=by
 cases h with
 |base h=>rw[h];exact acq a
 |step h e=>exact(acv a e).2
theorem IY(a:Good M){x:Nat}:x∈oY M↔kG M x:=by
 unfold oY;rw[iR,eL];constructor
 ·rintro⟨_,h⟩;exact @of_decide_eq_true _ (fo _) h
 ·intro h;exact⟨ahU a h.1,@decide_eq_true _ (fo _) h⟩
theorem Yx(c:Fk M.aE.length ord)(b:M.start.toNat∈ord):∃i,ord[i]?=aa M.start.toNat/\(lq M ord).start=((i:Nat):Int):=by
 obtain⟨i,a⟩:=List.getElem?_of_mem b;refine⟨i,a,?_⟩;show ic ord 0 M.start.toNat=_;rw[NB c.nd a];simp
end
theorem xz(f:Nat->Nat):∀(n:Nat)(l:List Nat),l.Nodup->(∀x∈l,x<n)->(l.map f).sum<=((dL n).map f).sum
 |0,[],_,_=>aS _
 |0,x::l,_,h=>absurd (h x (cH ..)) (dH _)
 | n+1,l,b,h=>by
  rw[List.range_succ,bU,List.sum_append];by_cases c:n∈l
  ·have j:=List.perm_cons_erase c;rw[(j.map f).sum_nat];have g:=xz f n (l.erase n) (b.erase n) (λx a=>by
    have d:=h x (List.mem_of_mem_erase a);have i:x≠n:=λe=>by subst e;exact(b.not_mem_erase) a
    omega)
   simp only[List.map_cons,sum_cons,List.map_nil,List.sum_nil];omega
  ·have g:=xz f n l b (λx a=>by
    have d:=h x a;have i:x≠n:=λe=>c (e▸a);omega)
   omega
theorem T0(M:cG):rP M.aE=((dL M.aE.length).map λx=>(M.aE.getD x ⟨[],[]⟩).bG.length).sum:=by
 unfold rP;congr 1;refine cV λi=>?_;rw[getElem?_map,getElem?_map];by_cases a:i<M.aE.length
 ·rw[List.getElem?_range a,acp a];rfl
 ·rw[getElem?_eq_none (by omega),getElem?_eq_none (by simpa using a)];rfl
section
variable {M:cG} {ord:List Nat}
theorem aff(a:Fk M.aE.length ord):rP (lq M ord).aE<=rP M.aE:=by
 rw[T0 M];refine bK ?_ (xz _ M.aE.length ord a.nd a.lt);show((ord.map (uB M ord)).map λs=>s.bG.length).sum<=_;rw[map_map];have:∀l:List Nat,(l.map ((λs:kH=>s.bG.length)∘uB M ord)).sum<=(l.map λx=>(M.aE.getD x ⟨[],[]⟩).bG.length).sum:=λl=>by
  induction l with
  |nil=>exact aS _
  |cons x l b=>
   rw[List.map_cons,List.map_cons,sum_cons,sum_cons];have:(uB M ord x).bG.length<=(M.aE.getD x ⟨[],[]⟩).bG.length:=jC ..;show(uB M ord x).bG.length+_<=_;omega
 exact this ord
theorem afe{i:Nat}{q:iu}(g:Fk M.aE.length ord)(c:N∈(lq M ord).aE)(e:q∈N.bG):∃b∈M.aE,∃p∈b.bG,N.f=b.f/\q.i=p.i/\q.o=p.o/\q.w=p.w/\0<=q.t/\q.t<ord.length:=by
 obtain⟨x,d,rfl⟩:=dZ.1 c;obtain⟨p,h,a⟩:=mF.1 e;have f:=acp (g.lt x d);unfold jM at a;split at a
 ·cases a
 ·next j=>
  obtain rfl:=aC a;have k:=ux ord 0 p.t.toNat;refine⟨_,aI f,p,h,rfl,rfl,rfl,rfl,?_,?_⟩
  ·show 0<=ic ord 0 p.t.toNat;omega
  ·show ic ord 0 p.t.toNat<_;omega
theorem Vy(d:Fk M.aE.length ord)(b:N∈(lq M ord).aE):∃a∈M.aE,N.f=a.f/\N.bG.length<=a.bG.length:=by
 obtain⟨x,c,rfl⟩:=dZ.1 b;exact⟨_,aI (acp (d.lt x c)),rfl,jC ..⟩
theorem Oi(h:fH M=af):(1<=M.kind/\M.kind<=3)/\(1<=M.aE.length/\M.aE.length<=3000)/\(0<=M.start/\M.start<M.aE.length)/\gJ M.kind M.lead=af/\wh M.kind M.aE.length 0 M.aE=af:=by
 unfold fH at h;simp only[bj,decide_eq_true_eq]at h;obtain⟨⟨⟨⟨⟨⟨⟨c,d⟩,a⟩,f⟩,i⟩,g⟩,e⟩,b⟩:=h;exact⟨⟨c,d⟩,⟨a,f⟩,⟨i,g⟩,e,b⟩
theorem Yw(a:Small M)(b:Fk M.aE.length ord):Small (lq M ord):=by
 have h:=tU _ b.nd b.lt;refine⟨a.lead,by rw[QS];exact bK h a.OB,λs c=>?_,λs c=>?_,λs c q j=>?_,bK (aff b) a.tot⟩
 ·obtain⟨d,f,e,_⟩:=Vy b c;rw[e];exact a.fin d f
 ·obtain⟨d,f,_,e⟩:=Vy b c;exact bK e (a.bG d f)
 ·obtain⟨d,g,p,l,m,r,n,k,t,o⟩:=afe (i:=0) b c j;rw[k];exact a.w d g p l
end
end
variable{s:List UInt8}
section
section
variable {M:cG}
noncomputable def phi(M:cG)(s:Nat):Nat:=(oY M).getD s 0
noncomputable def psi(M:cG)(s i:Nat):Nat:=PE (jM (oY M)) (eA M (phi M s)) i
theorem Ta{x:Nat}(h:(oY M)[n]?=aa x):phi M n=x:=by
 unfold phi;rw[gD,h];rfl
theorem NO(h:n<(oY M).length):(oY M)[n]?=aa (phi M n):=by
 unfold phi;rw[gD,gE h];rfl
theorem HH(h:n<(oY M).length):eA (lq M (oY M)) n=(eA M (phi M n)).filterMap (jM (oY M)):=by
 unfold eA;rw[gD,Vx (NO h)];rfl
theorem Pz(h:n<(oY M).length):rp (lq M (oY M)) n↔rp M (phi M n):=by
 unfold rp;rw[gD,Vx (NO h)];rfl
theorem QR{q a:iu}(h:jM x q=aa a):a.i=q.i/\a.o=q.o/\∃j:Nat,a.t=(j:Int)/\x[j]?=aa q.t.toNat:=by
 unfold jM at h;split at h
 ·cases h
 ·next b=>
  obtain rfl:=aC h;have c:=ux x 0 q.t.toNat;have d:ic x 0 q.t.toNat=((0+(ic x 0 q.t.toNat).toNat:Nat):Int):=by
   rcases c with h|h
   ·exact absurd h b
   ·omega
  exact⟨rfl,rfl,(ic x 0 q.t.toNat).toNat,by show ic x 0 q.t.toNat=_;omega,Qp d⟩
theorem acS(n:Good M)(t:kG M M.start.toNat):Za (lq M (oY M)) M (λs=>s<(oY M).length) (phi M) (psi M):=by
 have w:=vc M;obtain⟨x,g,r⟩:=Yx w ((IY n).2 t);have k:=(List.getElem?_eq_some_iff.1 g).1;refine⟨?_,λs i a c d=>?_,λs i j a b c d f e=>?_,λs c l=>(Pz c).1 l⟩
 ·rw[r,bn];exact⟨k,Ta g⟩
 ·rw[HH c]at d;obtain⟨q,o,u⟩:=Ss _ _ d;obtain⟨m,v,j,p,h⟩:=QR u;rw[p,bn];exact⟨(List.getElem?_eq_some_iff.1 h).1,q,o,m.symm,v.symm,(Ta h).symm⟩
 ·rw[HH c]at d f;exact M5 _ _ (List.getElem?_eq_some_iff.1 d).1 (List.getElem?_eq_some_iff.1 f).1 e
theorem ab0(p:Good M){s e:Nat}{l:List Nat}{x y:List Int}(r:oJ M s l e x y)(h:rp M e):∀{t:Nat},t<(oY M).length->phi M t=s->lD (kD M) (λy=>y=M.start.toNat) s->∃k f,oJ (lq M (oY M)) t k f x y/\rp (lq M (oY M)) f/\Y4 (lq M (oY M)) (psi M) t k=l:=by
 induction r with
 |nil s=>
  rintro t d rfl B;exact⟨[],t,.nil _,(Pz d).2 h,rfl⟩
 | @cons s i e a l x y v r F=>
  rintro t d rfl B;have u:phi M t<M.aE.length:=(vc M).lt _ (aI (NO d));obtain⟨w,o,C,_⟩:=nj u;have A:w.bG[i]?=aa a:=by rw[<-C];exact v
  have c:kD M (phi M t) a.t.toNat:=⟨w,o,dZ.2 ⟨a,aI A,rfl⟩⟩
  have g:lD (kD M) (λy=>y=M.start.toNat) a.t.toNat:= .step B c;have G:kG M a.t.toNat:=⟨g,zE r p h⟩
  obtain⟨j,m⟩:=List.getElem?_of_mem ((IY p).2 G);have D:ic (oY M) 0 a.t.toNat=(j:Int):=by rw[NB (vc M).nd m,bO]
  have q:jM (oY M) a=aa ⟨a.i,a.o,a.w,(j:Int)⟩:=by
   unfold jM;rw[D,iN (by omega)]
  obtain⟨n,b,z⟩:=U1 _ _ v q;obtain⟨k,f,E,H,I⟩:=F h (t:=j) (List.getElem?_eq_some_iff.1 m).1 (Ta m) g;rw[<-HH d]at b;have J:=oJ.cons b (l:=k) (e:=f) (x:=x) (y:=y) (by rw[show(iu.t ⟨a.i,a.o,a.w,(j:Int)⟩)=(j:Int)from rfl,bn];exact E);refine⟨n::k,f,J,H,?_⟩;have K:(eA (lq M (oY M)) t).getD n q0=⟨a.i,a.o,a.w,(j:Int)⟩:=by rw[gD,b];rfl
  rw[Y4,K];show psi M t n::Y4 _ _ ((j:Int)).toNat k=_;rw[bn,I];show PE _ _ _::_=_;rw[z]
structure Trm(N M:cG):Prop where
 fw:∀l x y,Eh N l x y->∃l',Eh M l' x y
 f2:∀l l' x y z,Eh N l x y->Eh N l' x z->l≠l'->∃k k',Eh M k x y/\Eh M k' x z/\k≠k'
 fu:Fe N↔Fe M
 un:UA N↔UA M
theorem acT{N:cG}(a:∀l x y,¬Eh N l x y)(b:∀l x y,¬Eh M l x y):Trm N M:=
 ⟨λl x y h=>absurd h (a l x y),λl l' x y z h=>absurd h (a l x y),⟨λ_ l l' x y z h=>absurd h (b l x y),λ_ l l' x y z h=>absurd h (a l x y)⟩,⟨λ_ l l' x y z h=>absurd h (b l x y),λ_ l l' x y z h=>absurd h (a l x y)⟩⟩
theorem afH(m:Good M)(s:kG M M.start.toNat):Trm (lq M (oY M)) M:=by
 have a:=acS m s;have d:∀{l x y},Eh M l x y->∃k,Eh (lq M (oY M)) k x y/\Y4 (lq M (oY M)) (psi M) (lq M (oY M)).start.toNat k=l:=by
  rintro l x y ⟨e,r,f⟩;obtain⟨k,u,q,t,i⟩:=ab0 m r f a.start.1 a.start.2 (.base rfl);exact⟨k,⟨u,q,t⟩,i⟩
 refine⟨λl x y h=>⟨_,a.acc h⟩,λl l' x y z b c n=>⟨_,_,a.acc b,a.acc c,λe=>n ?_⟩,⟨λh l l' x y z b c=>?_,a.func⟩,⟨λh l l' x y z b c=>?_,a.alx⟩⟩
 ·obtain⟨_,r,_⟩:=b;obtain⟨_,v,_⟩:=c;exact a.Nc l l' a.start.1 r v e
 ·obtain⟨k,j,_⟩:=d b;obtain⟨o,g,_⟩:=d c;exact h _ _ _ _ _ j g
 ·obtain⟨k,j,p⟩:=d b;obtain⟨o,g,i⟩:=d c;rw[<-p,<-i,h _ _ _ _ _ j g]
theorem abk{k:Int}:∀l x y,¬Eh ⟨k,0,s,[⟨[],[]⟩]⟩ l x y:=by
 rintro l x y ⟨e,r,f⟩
 cases r with
 |nil=>exact f rfl
 |cons h _=>simp[eA]at h
theorem SY(a:Good M)(b:¬kG M M.start.toNat):∀l x y,¬Eh M l x y:=λl x y ⟨e,r,f⟩=>b ⟨.base rfl,zE r a f⟩
theorem Ro(c:fH M=af)(h:Small M):(jz M).2=0/\Good (jz M).1/\Small (jz M).1/\Trm (jz M).1 M/\(jz M).1.aE.length<=M.aE.length:=by
 have d:=sS c;by_cases b:kG M M.start.toNat
 ·rw[D9 c b];have i:=tU _ (vc M).nd (vc M).lt;exact⟨rfl,Yv d ((IY d).2 b),Yw h (vc M),afH d b,by show(lq M (oY M)).aE.length<=_;rw[QS];exact i⟩
 ·rw[xH c b];obtain⟨k,j,_⟩:=Oi c;unfold ym;rw[iP k];have g:M.kind=1\/M.kind=2\/M.kind=3:=by omega
  refine⟨rfl,⟨fU _,by show(0:Int)<(1:Nat);omega,λs a q f=>?_⟩,⟨?_,(show 1<=300 by decide),λs a=>?_,λs a=>?_,λs a=>?_,(show 0<=2000 by decide)⟩,acT abk (SY d b),j.1⟩
  ·rw[aX.1 a]at f;cases f
  ·rcases g with e|e|e<;>rw[e]<;>decide +kernel
  ·rw[aX.1 a];exact cr _
  ·rw[aX.1 a];exact cr _
  ·rw[aX.1 a];exact λq f=>by cases f
end
end
theorem aiY(T:kI):cI au 66 [(0,(aq ⟨dK T.A T.a T.n T.c⟩)),(1,(aq ⟨dK T.B T.b T.m T.d⟩))]=aa (aq ⟨T.arg⟩):=by
 obtain⟨A,a,n,c,B,b,m,d⟩:=T
 cases a<;>cases b<;>kernel_rfl
def ajo(h:aw)(M:cG):VH:=λv g=>∃(b:Bool)(a:Option aF)(n c:Nat)(m:Option aF)(f k:Nat)(i:Option aF)(d j:Nat)(e:Int),v=av ⟨[ai b,ae a n c,ae m f k,ae i d j,aA e]⟩/\Ok h g/\
 ((fH M=ak/\b=ak/\n=0/\f=0/\d=0/\e=1)\/(fH M=af/\200<M.aE.length/\b=ak/\n=0/\f=0/\d=0/\e=2)\/
  (fH M=af/\e=0/\((b=af/\n=0/\f=0/\d=0/\Fe M)\/(b=ak/\∃l l' x y z,Eh M l x y/\Eh M l' x z/\y≠z/\Rd g 3 (ae a n c) (x.map zV)/\Rd g 3 (ae m f k) (y.map zV)/\Rd g 3 (ae i d j) (z.map zV)/\x.length<=1000000/\y.length<=1000000/\z.length<=1000000))))
theorem I0{c:Nat}(J:BG h)(w:Wf h)(C:Small M)(r:iY h (ae a n c) M.aE):aW 14 [aq ⟨dK M a n c⟩] h (ajo h M):=by
 refine JU (dK M a n c) h _ ⟨_,qx M a n c,?_⟩;have s:=(Ok.refl w).push (Bm M a n c);have b1:=cC h (Bm M a n c);have X:aM au 24 (h.push (Bm M a n c)) (pA h.ax)=aa (aq ⟨dK M a n c⟩):=mr KD J6 sN b1 (by simp[dK]);refine⟨_,X,?_⟩;generalize h.push (Bm M a n c)=g1 at*;refine(aaX (J.ok s) s.wf C (r.ok s)).mono ?_;rintro _ b ⟨d,g,i,ps,rfl,t,K,e2⟩;have z:=s.trans e2;refine⟨_,_,rfl,_,Mz,?_⟩;have W:=(Ok.refl z.wf).push wy;have P:=cC b wy;have Y:aQ au 24 (pA b.ax) (aq ⟨dK (jz M).1 d g i⟩) (b.push wy)=aa (undef,.set b.ax (Bm (jz M).1 d g i)):=gL sN rfl P rfl (by simp[dK,eY,strOf]);refine⟨_,Y,?_⟩;have G:Ok b ((dJ.set b.ax (Bm (jz M).1 d g i)).app (b.push wy)):=W.set _ (aS _) (eD _) z.wf;have F:((dJ.set b.ax (Bm (jz M).1 d g i)).app (b.push wy)).get b.ax=aa (Bm (jz M).1 d g i):=by
  show((b.push wy).set _ _).get _=_;rw[aw.bZ,iP rfl]
 generalize (dJ.set b.ax (Bm (jz M).1 d g i)).app (b.push wy)=D at*;have m:=z.trans G
 cases j:fH M with
 |false=>
  rw[AJ j];exact ay (λ_=>⟨_,_,_,_,_,_,_,_,_,_,_,rfl,m,.inl ⟨j,rfl,rfl,rfl,rfl,rfl⟩⟩) (λq=>by cases q)
 | true=>
  obtain⟨t1,B,H,u,t5⟩:=Ro j C;have o:=(K.ok G).st;rw[t]at o;rw[t1];refine ay (λq=>by cases q) (λ_=>?_);have Z:aM au 22 D (cn b.ax 3)=aa (ae d g i):=da KB V5 F (by simp[dK]);have L:aM au 24 D (pA b.ax)=aa (aq ⟨dK (jz M).1 d g i⟩):=mr KD J6 sN F (by simp[dK]);have x0:g=(jz M).1.aE.length:=by have:=K.row.rd.len;rw[<-t,aG,this,aG]
  refine⟨_,eR _,_,_,_,Z,ay (λq=>?_) (λq=>?_)⟩
  ·have q:=dT q;exact⟨_,_,_,_,_,_,_,_,_,_,_,rfl,m,.inr (.inl ⟨j,by omega,rfl,rfl,rfl,rfl,rfl⟩)⟩
  ·refine⟨_,L,_,L,_,aiY ⟨(jz M).1,d,g,i,(jz M).1,d,g,i⟩,?_⟩;refine(S5 (T:=⟨(jz M).1,d,g,i,(jz M).1,d,g,i⟩) (J.ok m) m.wf H H ⟨o,o⟩ B B).mono ?_;rintro _ g5 ⟨xa,xn,xc,ya,yn,yc,za,zn,zc,f,rfl,e5,V⟩;refine⟨_,_,_,_,_,_,_,_,_,_,rfl,_,_,_,_,_,_,_,_,_,_,_,rfl,m.trans e5,.inr (.inr ⟨j,rfl,?_⟩)⟩;rcases V with⟨rfl,x,y,v,U⟩|⟨rfl,p,e,R,I,E,A,O,Q,i3⟩
   ·injection x with _ x
    injection y with _ y
    injection v with _ v
    exact .inl ⟨rfl,x,y,v,u.fu.1 U⟩
   ·obtain⟨⟨l,p1⟩,⟨l',S⟩⟩:=R.runs;obtain⟨k,a1⟩:=u.fw l _ _ ⟨_,p1,I.1⟩;obtain⟨N,d⟩:=u.fw l' _ _ ⟨_,S,I.2⟩;exact .inr ⟨rfl,k,N,_,_,_,a1,d,E,O,Q,i3,bK (eZ Mv.i p) A,bK (eZ Mv.l p) A,bK (eZ Mv.r p) A⟩
noncomputable def ael:FD:=gT Tryz.f12 []
theorem aaE(b:LV)(h:aw)(Q:VH)(g:xN (iF au 24 (aq ⟨b⟩)) h λj a=>mh 24 (pA (h.ax)) 3 22 a λk d l=>cp (decide ((d:Int)>8)) (Q (ai af) a) (xA (aM au 24 a (pA (h.ax))) λe=>aW 23 [(aq ⟨e⟩)] a λf i=>yI an f λc=>Q (ai (decide (c>30))) i)):aW 12 [(aq ⟨b⟩)] h Q:=gZ ael Tryz.func12 (bF g)
section
def EQ(h:aw):VH:=λv g=>v=ai af/\Ok h g
structure agD(M:cG):Prop where
 lead:M.lead.length<=281474976710656
 fin:∀s∈M.aE,s.f.length<=281474976710656
 w:∀s∈M.aE,∀q∈s.bG,q.w.length<=281474976710656
theorem EN{s:kH}:∀{l:List kH},s∈l->s.bG.length<=rP l
 |[],h=>by cases h
 |x::l,h=>by
  rw[wj];rcases cO.1 h with rfl|h
  ·omega
  ·have:=EN h;omega
def lrg(M:cG):Bool:=decide (8<M.aE.length)||decide (30<rP M.aE)
theorem ack{M:cG}(a:agD M)(q:lrg M=ak):Small M:=by
 unfold lrg at q;rw[Bool.or_eq_false_iff,decide_eq_false_iff_not,decide_eq_false_iff_not]at q;exact⟨a.lead,by omega,a.fin,λs b=>by have:=EN b;omega,a.w,by omega⟩
theorem ahy:SS.pr 13=aa (LR [([],ai af)]):=by kernel_rfl
theorem Ii{h:aw}(c:Ok h g):aW 13 [] g λv a=>yB v λb=>EQ h (ai b) a:=
 Ao (by unfold YB;decide) ahy (v:= ai af) (h':=g) (λ_=>rfl) ⟨af,rfl,rfl,c⟩
section
variable {h:aw} {M:cG} {a:Option aF} {n c:Nat}
theorem aaF(w:Wf h)(g:Bnd M)(r:iY h (ae a n c) M.aE):aW 12 [aq ⟨dK M a n c⟩] h (λv i=>v=ai (lrg M)/\Ok h i):=by
 obtain⟨b,d⟩:=ni w r;have j:=b.len;refine aaE (dK M a n c) h _ ⟨_,qx M a n c,_,eR _,_,_,_,b.l3,ay (λq=>?_) (λq=>?_)⟩
 ·have q:=dT q;refine⟨?_,d⟩;unfold lrg;rw[eT (by omega)];rfl
 ·have q:=dF q;refine⟨_,b.all,(abJ d.wf g (by omega) b.row).mono ?_⟩;rintro _ k ⟨rfl,f⟩;refine⟨_,rfl,?_,d.trans f⟩;unfold lrg;rw[eF (by omega:¬8<M.aE.length),Bool.false_or];congr 1;by_cases e:30<rP M.aE
  ·rw[eT e,eT (by omega)]
  ·rw[eF e,eF (by omega)]
end
end
end Go.Proofs.YtnlccnpbjeiccaaGreatDoor
end
