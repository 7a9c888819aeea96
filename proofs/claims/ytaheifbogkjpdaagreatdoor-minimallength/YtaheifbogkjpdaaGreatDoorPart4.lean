/- Laws and walks that the proof leans on (part 4): P9; P10; P11; P12; P13; W6 and others. No condition. -/
import Derived.Test.YtaheifbogkjpdaaGreatDoorPart3
import Derived.Test.YtaheifbogkjpdaaGreatDoorPart2
set_option linter.unusedVariables false
set_option linter.unusedSimpArgs false
set_option maxRecDepth 100000
open List (all_cons append_assoc drop_eq_nil_of_le drop_zero getElem?_eq_none getElem?_map getElem?_take length_append length_drop length_nil length_replicate length_set length_take map_append map_take mem_append mem_singleton nil_append take_length take_of_length_le take_zero)
open Nat (add_mul le_of_lt lt_of_lt_of_le lt_or_ge min_eq_left mod_lt mul_comm mul_one mul_pos one_mul pow_add pow_le_pow_right pow_succ zero_add zero_le)
open Bool (and_eq_true not_eq_false' not_eq_true')
open Int (toNat_natCast)
open Go.IntKind (wrap wrap_i64)
section
namespace Go.Proofs.YtaheifbogkjpdaaGreatDoor
open Go Go.Ab Go.Num
theorem dO.RX{h0 h1 h:aa}{e:TypeId}{v:Value}{vs:List Value}(hn:h0.next<=h1.next)(o:dO h1 h e v vs):dO h0 h e v vs:=by
 rcases o with o|⟨k,cs,h1',h2,h3,h4,h5⟩
 ·exact .inl o
 ·exact .inr ⟨k,cs,h1',Nat.le_trans hn h2,h3,h4,h5⟩
theorem Nq(k:Int):l8 SS.P 117 (.int .u64 k)=some (.cells [.int .u64 k] 117 0 true,kj):=by kernel_rfl
theorem pS{h:aa}{a:Option Addr}{n c:Nat}{x:List Nat}(ra:Rd h 117 (.slice a n c) (x.map uv))(hx:∀d∈x,d<BB)(hlen:x.length<=10000){k:Nat}(hk0:0<k)(hk:k<=BB)(w:Wf h):
  FW SS 190 [.slice a n c,.int .u64 (k:Int)] h (gP h 117 (bl (Num.bv BB x*k))):=by
 have ok:=(Ok.refl w).push (.cells [.int .u64 (k:Int)] 117 0 true);refine yZ a n c _ h _ ⟨_,Nq _,?_⟩;have hp:ag SS.P 117 (h.push (.cells [.int .u64 (k:Int)] 117 0 true)) (.pointer (some ⟨h.next,0,none⟩))=some (.int .u64 (k:Int)):=by
  unfold ag;rw[Fh];dsimp only;rw[aa.aM,if_pos rfl];dsimp only;rw[Ep];rfl
 refine(vL (ra.ok ok) hx hlen hp hk0 hk ok.wf).mono ?_;rintro _ h3 ⟨a4,n5,c6,rfl,o,ok3⟩;exact⟨a4,n5,c6,rfl,a4,n5,c6,rfl,dO.RX (Nat.le_succ _) o,ok.trans ok3⟩
def sY(h:aa)(k off n c:Nat)(l:List Nat):Prop:=∃cs wr,h.get k=some (.cells cs 117 1 wr)/\n=l.length/\(cs.drop off).take n=l.map uv/\n<=aX c
theorem sY.rd{h:aa}{k off n c:Nat}{l:List Nat}(r:sY h k off n c l):Rd h 117 (.slice (some ⟨k,off,none⟩) n c) (l.map uv):=by
 obtain⟨cs,wr,h1,rfl,h3,h4⟩:=r;exact .inr ⟨k,off,cs,c,wr,by rw[lM],h1,by rw[lM];exact h3⟩
theorem sY.take{h:aa}{k off n c:Nat}{l:List Nat}(r:sY h k off n c l){j:Nat}(hj:j<=n):cA SS.P 150 (.slice (some ⟨k,off,none⟩) n c) none (some (.int .i64 (j:Int))) none h=some (.slice (some ⟨k,off,none⟩) j c)/\sY h k off j c (l.take j):=by
 obtain⟨cs,wr,h1,rfl,h3,h4⟩:=r;refine⟨?_,cs,wr,h1,by rw[length_take];omega,?_,by omega⟩
 ·unfold cA;dsimp only;rw[rI];dsimp only[dy];rw[vu,h1];dsimp only;have e2:((j:Int)-((0:Nat):Int)).toNat=j:=by omega
  have e0:((0:Nat):Int).toNat=0:=rfl;rw[if_pos (by simp),if_pos (by omega),e2,e0];rfl
 ·have:=congrArg (List.take j) h3;rwa[List.take_take,min_eq_left hj,<-map_take]at this
theorem jS{h:aa}{k off n c:Nat}{l:List Nat}(r:sY h k off n c l)(hlen:l.length<=100000):
  FW SS 139 [.slice (some ⟨k,off,none⟩) n c] h (λv h'=>v = .slice (some ⟨k,off,none⟩) (cd l).length c/\h'=h):=by
 have hn:n=l.length:=by obtain⟨_,_,_,h2,_⟩:=r;exact h2
 have L:=jt (some ⟨k,off,none⟩) n c (λmz r m d g=>m<=l.length/\mz=m/\r=some ⟨k,off,none⟩/\d=c/\sY h k off m c (l.take m)/\cd l=cd (l.take m)/\g=h) (λv h'=>v = .slice (some ⟨k,off,none⟩) (cd l).length c/\h'=h) (by
  intro mz r m d;intros;rename_i g hi;obtain⟨h1,rfl,rfl,rfl,h3,h4,rfl⟩:=hi;have hw:wrap .i64 ((mz:Int)-1)=(mz:Int)-1:=aB (by omega) (by omega);rw[hw];have hm:mz≠0->l.take mz=l.take (mz-1)++[l.getD (mz-1) 0]:=λhm=>by
   obtain⟨j,rfl⟩:∃j,mz=j+1:=⟨mz-1,by omega⟩
   rw[List.take_succ_eq_append_getElem (by omega),Nat.add_sub_cancel,gD,gE (by omega)];rfl
  refine ae (λh5=>?_) (λh5=>?_)
  ·have h5:=dT h5;obtain⟨p,g2,g3⟩:=wz h3.rd (i:=(mz:Int)-1) (by omega) (by rw[length_take];omega);have e1:(l.take mz).getD ((mz:Int)-1).toNat 0=l.getD (mz-1) 0:=by
    rw[show((mz:Int)-1).toNat=mz-1 by omega,gD,getElem?_take,if_pos (by omega),gD]
   rw[e1]at g3;refine⟨p,g2,_,g3,ae (λh6=>?_) (λh6=>?_)⟩
   ·have h6:((l.getD (mz-1) 0:Nat):Int)=0:=by simpa using h6
    have h6:l.getD (mz-1) 0=0:=by omega
    obtain⟨g4,g5⟩:=h3.take (j:=mz-1) (by omega);rw[show((mz:Int)-1)=((mz-1:Nat):Int) by omega];refine⟨_,_,_,g4,AV (mz-1) (by omega) ⟨by omega,rfl,rfl,rfl,?_,?_,rfl⟩⟩
    ·rw[List.take_take,min_eq_left (by omega)]at g5;exact g5
    ·rw[h4,hm (by omega),h6,eQ]
   ·have h6:¬((l.getD (mz-1) 0:Nat):Int)=0:=by simpa using h6
    refine⟨?_,rfl⟩;rw[h4,hm (by omega),fA _ (by omega),<-hm (by omega),length_take,min_eq_left h1]
  ·have h5:=dF h5;obtain rfl:mz=0:=by omega
   refine⟨?_,rfl⟩;rw[h4];rfl)
 exact ui _ n c h _ (L n ⟨by omega,rfl,rfl,rfl,by rw[show l.take n=l by rw[hn,take_length]];exact r,by rw[show l.take n=l by rw[hn,take_length]],rfl⟩)
theorem vt:∀n,bC [uv 0] n=(List.replicate n 0).map uv
 |0=>rfl
 |n+1=>by rw[bC,vt n];rfl
noncomputable def JT:TypeInfo:=(SS.P.info? 117).getD default
theorem JU:SS.P.info? 117=some JT:=by kernel_rfl
theorem D1:JT.size=1:=by kernel_rfl
theorem Cc:JT.bytes=8:=by kernel_rfl
theorem My:zeroOf SS.P 117=some (uv 0):=by kernel_rfl
theorem MS(n:Nat)(hn:n<=100000):bM SS.P 150 (.int .i64 (n:Int)) (.int .i64 (n:Int))=some (.cells ((List.replicate n 0).map uv) 117 1 true,jE n n):=by
 unfold bM aJ;dsimp only;rw[rI]
 try dsimp only
 change (match SS.P.info? 117,zeroOf SS.P 117 with
  |some i,some z=>(if z.cells.size=i.size/\0<i.size/\(0:Int)<=(n:Int)/\(n:Int)<=(n:Int)/\(n:Int)*i.bytes<=140737488355328/\(n:Int)<=1099511627776 then some (bt.cells (bC z.cells.toList (n:Int).toNat) 117 i.size true,λk=>Value.slice (some ⟨k,0,none⟩) (n:Int).toNat (n:Int).toNat)else none)
  |_,_=>none)=_
 rw[JU,My];dsimp only;rw[D1,Cc,if_pos ⟨rfl,by omega,by omega,Int.le_refl _,by omega,by omega⟩];have e:((n:Int)).toNat=n:=by omega
 rw[e,show(uv 0).cells.toList=[uv 0]from rfl,vt];rfl
theorem iz{C:List Value}{off:Nat}{W:List Nat}(h:(C.drop off).take W.length=W.map uv):bn C off W=C:=by
 unfold bn;rw[<-h,append_assoc,<-List.drop_drop,List.take_append_drop,List.take_append_drop]
theorem vI{C:List Value}{U W W':List Nat}{at':Nat}(hU:at'+W'.length<=U.length)(hl:U.length<=C.length)(hw:W'.length=W.length)(hW:(U.drop at').take W.length=W):
  bn (bn C 0 U) at' W'=bn C 0 (U.take at'++W'++U.drop (at'+W'.length)):=by
 unfold bn;have h1:(C.take 0++U.map uv++C.drop (0+U.length)).take at'=(U.take at').map uv:=by
  rw[take_zero,nil_append,List.take_append_of_le_length (by rw[lM];omega),map_take]
 have h2:(C.take 0++U.map uv++C.drop (0+U.length)).drop (at'+W'.length)=(U.drop (at'+W'.length)).map uv++C.drop (0+U.length):=by
  rw[take_zero,nil_append,List.drop_append_of_le_length (by rw[lM];omega),List.map_drop]
 have h3:(U.take at'++W'++U.drop (at'+W'.length)).length=U.length:=by
  simp only[length_append,length_take,length_drop];omega
 rw[h1,h2,h3,map_append,map_append,take_zero,nil_append,append_assoc,append_assoc,append_assoc]
theorem j8{C:List Value}{U:List Nat}{at' n:Nat}(hU:at'+n<=U.length):((bn C 0 U).drop at').take n=((U.drop at').take n).map uv:=by
 unfold bn;rw[take_zero,nil_append,List.drop_append_of_le_length (by rw[lM];omega),List.take_append_of_le_length (by rw[length_drop,lM];omega),<-List.map_drop,<-map_take]
theorem ua{C:List Value}{off:Nat}{W:List Nat}(h:off+W.length<=C.length):(bn C off W).length=C.length:=by
 unfold bn;simp only[length_append,length_take,lM,length_drop];omega
theorem sY.zu{h:aa}{k off n c:Nat}{l:List Nat}(r:sY h k off n c l){lo hi:Nat}(h1:lo<=hi)(h2:hi<=n):cA SS.P 150 (.slice (some ⟨k,off,none⟩) n c) (some (.int .i64 (lo:Int))) (some (.int .i64 (hi:Int))) none h=some (.slice (some ⟨k,off+lo,none⟩) (hi-lo) (c-lo)):=by
 obtain⟨cs,wr,h1',rfl,h3,h4⟩:=r;unfold cA;dsimp only;rw[rI];dsimp only[dy];rw[vu,h1'];dsimp only;have e1:((hi:Int)-(lo:Int)).toNat=hi-lo:=by omega
 have e0:((lo:Nat):Int).toNat=lo:=by omega
 rw[if_pos (by simp),if_pos (by omega),e1,e0,mul_one]
structure M9(h2 G:aa)(ku kv kq:Nat)(cu:List Value)(cv:List Value)(U Ql:List Nat)(N m XK V j:Nat):Prop where
 ok:Ok h2 G
 w2:Wf h2
 u2:h2.next<=ku
 q2:h2.next<=kq
 gu:G.get ku=some (.cells (bn cu 0 U) 117 1 true)
 gv:G.get kv=some (.cells cv 117 1 true)
 gq:G.get kq=some (.cells (bn ((List.replicate (N+1-m) 0).map uv) 0 Ql) 117 1 true)
 RW:ku≠kv
 uq:ku≠kq
 vq:kv≠kq
 ul:U.length=N+1
 cl:N+1<=cu.length
 Oc:Ql.length=N+1-m
 Mu:(cv.take (ay BB V).length)=bl V
 inv:eG BB m V XK U Ql j
end Go.Proofs.YtaheifbogkjpdaaGreatDoor
end
section
set_option linter.defProp false
namespace Go.Proofs.YtaheifbogkjpdaaGreatDoor
open Go Go.Ab Go.Num
def xW(h:aa)(X Y:Nat):VH:=λv h'=>∃(a1:Option Addr)(n1 c1:Nat)(a2:Option Addr)(n2 c2:Nat),v = .tuple ⟨[.slice a1 n1 c1,.slice a2 n2 c2]⟩/\Rd h' 117 (.slice a1 n1 c1) (bl (X/Y))/\Rd h' 117 (.slice a2 n2 c2) (bl (X%Y))/\Ok h h'
theorem sJ{g:aa}{k n c:Nat}{C:List Value}{l:List Nat}(hg:g.get k=some (.cells (bn C 0 l) 117 1 true))(hn:n=l.length)(hc:n<=aX c):sY g k 0 n c l:=by
 refine⟨_,_,hg,hn,?_,hc⟩;subst hn;rw[j8 (by omega),drop_zero,take_length]
theorem qS{g:aa}{k n c:Nat}{l:List Nat}(r:sY g k 0 n c l)(hl:∀d∈l,d<BB):Rd g 117 (.slice (some ⟨k,0,none⟩) (cd l).length c) (bl (Num.bv BB l)):=by
 obtain⟨h1,h2⟩:=pe l;have hn:n=l.length:=by obtain⟨_,_,_,h,_⟩:=r;exact h
 have h3:=(r.take (j:=(cd l).length) (by omega)).2.rd;rw[h1,fT dK hl]at h3;rw[fT dK hl];exact h3
def KZ{h:aa}(w:Wf h){X Y ku kq rl rc L k R:Nat}{C Zq:List Value}{Ql:List Nat}(hku:h.next<=ku)(hkq:h.next<=kq)(hne:ku≠kq)(hrl:rl<=C.length)(hrl2:rl<=10000)(hL:L=Ql.length)(hL2:L<=10000)(hcap:rl<=aX rc)(hcapL:L<=aX L)(k0:0<k)(kB:k<=BB)
  (hQ:∀d∈Ql,d<BB) (hq:Num.bv BB Ql=X/Y) (hr:R/k=X%Y) (a:Option Addr) (n c:Nat) (b:Option Addr) (m d:Nat):=
 mN a n c b m d (k:Int) (some ⟨kq,0,none⟩) L L (some ⟨ku,0,none⟩) rl rc (rl:Int)
  (λmz i left g=>i<=rl/\mz=rl-i/\(∃(r:List Nat)(ln:Nat),r.length=rl/\left=(ln:Int)/\fS BB k R r (rl-i) ln/\g.get ku=some (.cells (bn C 0 r) 117 1 true))/\g.get kq=some (.cells (bn Zq 0 Ql) 117 1 true)/\Ok h g) (xW h X Y) (by
  intro mz i left;intros;rename_i g hi;obtain⟨h1,h2,⟨r,ln,hrlen,rfl,inv,hg⟩,hgq,ok⟩:=hi;have hBv:BB=1000000000:=rfl;have hw1:wrap .i64 ((rl:Int)-1)=(rl:Int)-1:=aB (by omega) (by omega);have hw2:wrap .i64 ((rl:Int)-1-(i:Int))=(rl:Int)-1-(i:Int):=aB (by omega) (by omega);have hw3:wrap .i64 ((i:Int)+1)=((i+1:Nat):Int):=by rw[aB (by omega) (by omega)];omega
  rw[hw1,hw2,hw3];refine ae (λh5=>?_) (λh5=>?_)
  ·have h5:=dT h5;have hj:((rl:Int)-1-(i:Int)).toNat=rl-1-i:=by omega
   have hl:=ud hg (by rw[hrlen];omega) (i:=rl-1-i) (by rw[hrlen];omega);have hlt:=inv.lt;have hrj:r.getD (rl-1-i) 0<BB:=aS (by decide) inv.rl _;obtain⟨LB,hLB⟩:∃x,x=ln*BB:=⟨_,rfl⟩
   have hLB':LB=1000000000*ln:=by rw[hLB,hBv,mul_comm]
   have ea:wrap .u64 ((ln:Int)*1000000000)=(LB:Int):=wU (by omega) (by omega);have eb:wrap .u64 ((LB:Int)+((r.getD (rl-1-i) 0:Nat):Int))=((LB+r.getD (rl-1-i) 0:Nat):Int):=wU (by omega) (by omega);refine⟨_,pE (by omega) (by omega),_,by rw[hj];exact hl,?_⟩;dsimp only;rw[ea,eb];refine⟨_,Jo (by omega) k0,_,MY k0,_,pE (by omega) (by omega),?_⟩;have hst:=uX (g:=room g 11) hg (by rw[hrlen];omega) (i:=rl-1-i) (by rw[hrlen];omega) ((LB+r.getD (rl-1-i) 0)/k);have ok':=ok.room 11;have hkn:=ok'.wf _ _ (show(room g 11).get ku=_ from hg);refine⟨_,by rw[hj];exact hst,?_⟩;have hstep:=fS.step (at':=rl-1-i) k0 (by rw[show rl-1-i+1=rl-i by omega];exact inv);rw[<-hLB]at hstep;refine lT (mz-1) (by omega) ⟨by omega,by omega,⟨r.set (rl-1-i) ((LB+r.getD (rl-1-i) 0)/k),(LB+r.getD (rl-1-i) 0)%k,by rw[length_set,hrlen],rfl,by rw[show rl-(i+1)=rl-1-i by omega];exact hstep,?_⟩,?_,ok'.set _ hku hkn w⟩
   ·show((room g 11).set ku _).get ku=_;rw[aa.aR,if_pos rfl]
   ·show((room g 11).set ku _).get kq=_;rw[aa.aR,if_neg (λe=>hne e.symm)];exact hgq
  ·have h5:=dF h5;obtain rfl:i=rl:=by omega
   rw[Nat.sub_self]at inv;have hdone:=inv.done k0;have r1:=sJ hgq hL hcapL;have r2:=sJ hg hrlen.symm hcap;refine(jS r1 (by omega)).mono ?_;rintro _ _ ⟨rfl,rfl⟩;refine⟨_,_,_,rfl,(jS r2 (by omega)).mono ?_⟩;rintro _ _ ⟨rfl,rfl⟩;refine⟨_,_,_,rfl,_,_,_,_,_,_,rfl,?_,?_,ok⟩
   ·have:=qS r1 hQ;rw[hq]at this;exact this
   ·have:=qS r2 inv.rl;rw[hdone,hr]at this;exact this)
theorem Ok.T5{h G G':aa}{k:Nat}(o:Ok h G)(w:Wf h)(x:zY G k G')(hk:h.next<=k):Ok h G':=
 ⟨x.wf,λj B hj=>x.dQ j B (λe=>by have:=w _ _ hj;omega) (o.ext j B hj),Nat.le_trans o.nx x.nx⟩
def K0{h2:aa}{X Y N m L k ku kv kq ec:Nat}{cu cv:List Value}(hY:0<Y)(hm:0<m)(hmN:m<=N)(hN:N<=5000)(hL:L=N+1-m)(k0:0<k)(kB:k<=BB)(hVl:(ay BB (Y*k)).length=m)(hVB:Y*k<=BB^m)(a:Option Addr)(n c:Nat)(b:Option Addr)(d:Nat):=
 mM a n c b m d (k:Int) (some ⟨kq,0,none⟩) L L (some ⟨ku,0,none⟩) (N+1) (bR+cu.length) (some ⟨kv,0,none⟩) m ec (L:Int)
  (λmz i G=>i<=L/\mz=L-i/\∃U Ql:List Nat,M9 h2 G ku kv kq cu cv U Ql N m (X*k) (Y*k) (L-i)) (xW h2 X Y) (by
  intro mz i;intros;rename_i G hi;obtain⟨h1,h2',U,Ql,D⟩:=hi;have hYk:0<Y*k:=mul_pos hY k0;have hw1:wrap .i64 ((L:Int)-1)=(L:Int)-1:=aB (by omega) (by omega);have hw3:wrap .i64 ((i:Int)+1)=((i+1:Nat):Int):=by rw[aB (by omega) (by omega)];omega
  have hcap:aX (bR+cu.length)=cu.length:=by unfold aX;rw[if_pos (by omega)];omega
  have hul:=D.ul;have hcl:=D.cl;have hql:=D.Oc;have ru:=sJ (c:=bR+cu.length) D.gu hul.symm (by rw[hcap];exact hcl);rw[hw1];refine ae (λh5=>?_) (λh5=>?_)
  ·have h5:=dT h5;obtain⟨at',hat⟩:∃x,x=L-1-i:=⟨_,rfl⟩
   have hw2:wrap .i64 ((L:Int)-1-(i:Int))=(at':Int):=by rw[aB (by omega) (by omega)];omega
   have hw4:wrap .i64 ((at':Int)+(m:Int))=((at'+m:Nat):Int):=by rw[aB (by omega) (by omega)];omega
   have hw5:wrap .i64 (((at'+m:Nat):Int)+1)=((at'+m+1:Nat):Int):=by rw[aB (by omega) (by omega)];omega
   rw[hw2,hw4,hw5,hw3];have hinv:eG BB m (Y*k) (X*k) U Ql (at'+1):=by rw[show at'+1=L-i by omega];exact D.inv
   obtain⟨w1,w2,w3⟩:=hinv.zu dK hVB;have hwin:=ru.zu (lo:=at') (hi:=at'+m+1) (by omega) (by omega);rw[show at'+m+1-at'=m+1 by omega,zero_add]at hwin;refine⟨_,_,_,hwin,?_⟩;have hC:(bn cu 0 U).length=cu.length:=ua (by omega);have DI:MC G ku at' (bR+cu.length-at') m (bn cu 0 U) ((U.drop at').take (m+1)) (ay BB (Y*k)) (some ⟨kv,0,none⟩) ec:={
    w:=D.ok.wf
    get:=by
     rw[iz (by rw[w3];exact j8 (by omega))];exact D.gu
    fit:=by rw[w3,hC];omega
    ul:=w3
    vl:=hVl
    mp:=hm
    TV:=by omega
    ult:=λx hx=>hinv.ul x (List.mem_of_mem_drop (List.mem_of_mem_take hx))
    PG:=bK dK _
    v1:=by have:=wo dK hYk;rwa[hVl]at this
    lt:=by rw[bg dK];exact w2
    rd:=λg og=> .inr ⟨kv,0,cv,ec,true,by rw[lM,hVl],og.dQ _ _ (λe=>D.RW e.symm) D.gv,by rw[drop_zero,lM];exact D.Mu⟩ }
   refine(Bh DI).mono ?_;rintro _ g3 ⟨W',wl,wlt,wbv,rfl,wget,wok⟩;rw[bg dK]at wbv;have hqd:Num.bv BB ((U.drop at').take (m+1))/Num.bv BB (ay BB (Y*k))=Num.bv BB ((U.drop at').take (m+1))/(Y*k):=by rw[bg dK]
   rw[hqd];have hdB:Num.bv BB ((U.drop at').take (m+1))/(Y*k)<BB:=Nat.div_lt_of_lt_mul (by rw[mul_comm];exact w2);have gq3:=wok.dQ _ _ (λe=>D.uq e.symm) D.gq;have gv3:=wok.dQ _ _ (λe=>D.RW e.symm) D.gv;have ok3:=Ok.T5 D.ok D.w2 wok D.u2;have hzl:((List.replicate (N+1-m) 0).map uv).length=N+1-m:=by rw[lM,length_replicate]
   have hst:=uX gq3 (by rw[hzl];omega) (i:=at') (by omega) (Num.bv BB ((U.drop at').take (m+1))/(Y*k));have hkn:=ok3.wf _ _ gq3;have hid:=pE (k:=kq) (off:=0) (n:=L) (c:=L) (i:=(at':Int)) (by omega) (by omega);rw[toNat_natCast]at hid;refine⟨_,rfl,_,hid,_,hst,?_⟩;have hsplit:Num.bv BB ((U.drop at').take (m+1))=Num.bv BB W'+Num.bv BB ((U.drop at').take (m+1))/(Y*k)*(Y*k):=by
    have h9:=Nat.mod_add_div (Num.bv BB ((U.drop at').take (m+1))) (Y*k);rw[mul_comm (Y*k)]at h9;rw[wbv];exact h9.symm
   have hnew:=hinv.step dK hVB wlt wl hdB hsplit (by rw[wbv];exact mod_lt _ hYk);refine eH (mz-1) (by omega) ⟨by omega,by omega,U.take at'++W'++U.drop (at'+(m+1)),Ql.set at' (Num.bv BB ((U.drop at').take (m+1))/(Y*k)),{
    ok:=ok3.set _ D.q2 hkn D.w2
    w2:=D.w2
    u2:=D.u2
    q2:=D.q2
    gu:= ?_
    gv:= ?_
    gq:= ?_
    RW:=D.RW
    uq:=D.uq
    vq:=D.vq
    ul:= ?_
    cl:=hcl
    Oc:=by rw[length_set];exact hql
    Mu:=D.Mu
    inv:=by rw[show L-(i+1)=at' by omega];exact hnew }⟩
   ·show(g3.set kq _).get ku=_;rw[aa.aR,if_neg D.uq,wget,vI (W:=(U.drop at').take (m+1)) (by omega) (by omega) (by rw[wl,w3]) (by rw[w3]),wl]
   ·show(g3.set kq _).get kv=_;rw[aa.aR,if_neg D.vq];exact gv3
   ·show(g3.set kq _).get kq=_;rw[aa.aR,if_pos rfl]
   ·simp only[length_append,length_take,length_drop,wl];omega
  ·have h5:=dF h5;obtain rfl:i=L:=by omega
   have hinv:=D.inv;rw[Nat.sub_self]at hinv;obtain⟨d1,d2⟩:=hinv.done;obtain⟨e1,e2⟩:=rU (X:=X) (Y:=Y) k0;rw[e1]at d1;rw[e2]at d2;have hul':=hinv.ul;obtain⟨t1,t2⟩:=pe U;refine(jS ru (by omega)).mono ?_;rintro _ _ ⟨rfl,rfl⟩;refine⟨_,_,_,rfl,?_⟩;have hC:(bn cu 0 U).length=cu.length:=ua (by omega);have hcapL:aX (N+1-m)=N+1-m:=by unfold aX;rw[if_neg (by unfold bR;omega)]
   have hbvt:Num.bv BB (cd U)=X%Y*k:=by rw[fT dK hul',bg dK,d2]
   subst hL;rename_i G';refine KZ D.w2 (X:=X) (Y:=Y) (ku:=ku) (kq:=kq) (rc:=bR+cu.length) (k:=k) (R:=X%Y*k) (C:=bn cu 0 U) (Zq:=(List.replicate (N+1-m) 0).map uv) (Ql:=Ql) D.u2 D.q2 D.uq (by rw[hC];omega) (by omega) hql.symm (by omega) (by rw[hcap];omega) (by rw[hcapL];exact Nat.le_refl _) k0 kB hinv.ql d1 (Nat.mul_div_cancel _ k0) a n c b m d _ (i:=0)
    ⟨zero_le _,rfl,⟨cd U,0,rfl,rfl,⟨λx hx=>hul' x (by rw[<-t1]at hx;exact List.mem_of_mem_take hx),by omega,k0,?_⟩,?_⟩,D.gq,D.ok⟩
   ·rw[Nat.sub_zero,List.drop_length,take_length,hbvt];simp[Num.bv]
   ·rw[iz (by rw[j8 (by omega),drop_zero,t1])];exact D.gu)
end Go.Proofs.YtaheifbogkjpdaaGreatDoor
end
section
namespace Go.Proofs.YtaheifbogkjpdaaGreatDoor
open Go Go.Ab Go.Num
theorem yX{h:aa}{a b:Option Addr}{n c mm d:Nat}{X Y:Nat}(ra:Rd h 117 (.slice a n c) (bl X))(rb:Rd h 117 (.slice b mm d) (bl Y))(hY:0<Y)(hN:(ay BB X).length<=5000)(hM:(ay BB Y).length<=5000)(w:Wf h):
  FW SS 166 [.slice a n c,.slice b mm d] h (xW h X Y):=by
 have hBv:BB=1000000000:=rfl;have hn:n=(ay BB X).length:=by have:=ra.len;rwa[lM]at this
 have hmm:mm=(ay BB Y).length:=by have:=rb.len;rwa[lM]at this
 obtain⟨f1,f2,f3,f4,f5,f6⟩:=Hp dK hY;rw[<-hmm]at f1 f2 f3 f4 f5 f6;generalize htop:(ay BB Y).getD (mm-1) 0=top at f2 f3 f4 f6;generalize hkd:BB/(top+1)=k at f3 f4 f6;refine yW a n c b mm d h _ ((ka ra rb (by omega) w).mono ?_);rintro _ h2 ⟨rfl,ok2⟩;refine⟨_,rfl,ae (λh1=>?_) (λh1=>?_)⟩
 ·have h1:=oj.1 (dT h1);refine⟨_,_,_,_,_,_,rfl,.inl ⟨rfl,?_⟩,?_,ok2⟩
  ·rw[Nat.div_eq_of_lt h1];show(ay BB 0).map uv=[];rw[dn];rfl
  ·rw[Nat.mod_eq_of_lt h1];exact ra.ok ok2
 ·have hXY:Y<=X:=by
   rcases lt_or_ge X Y with h|h
   ·exact absurd (oj.2 h) (dF h1)
   ·exact h
  have hX:0<X:=by omega
  have hmN:mm<=n:=by
   rcases lt_or_ge n mm with h|h
   ·have:=gk dK (m:=X) (n:=Y) (by omega);omega
   ·exact h
  have hw1:wrap .i64 ((mm:Int)-1)=((mm-1:Nat):Int):=by rw[aB (by omega) (by omega)];omega
  have hj:((mm-1:Nat):Int).toNat=mm-1:=by omega
  obtain⟨p,g2,g3⟩:=wz (rb.ok ok2) (i:=((mm-1:Nat):Int)) (by omega) (by omega);rw[hj,htop]at g3;have et:wrap .u64 ((top:Int)+1)=((top+1:Nat):Int):=wU (by omega) (by omega);have hquo:aq SS.P .quo 117 (.int .u64 1000000000) (.int .u64 ((top+1:Nat):Int))=some (.int .u64 (k:Int)):=by
   have:=Jo (a:=BB) (b:=top+1) (by decide) (by omega);rw[hkd]at this;exact this
  rw[hw1];refine⟨p,g2,_,g3,?_⟩;dsimp only;rw[et];refine⟨_,hquo,?_⟩;refine(pS (ra.ok ok2) (bK dK X) (by omega) f3 f4 ok2.wf).mono ?_;rintro _ h8 ⟨a9,n10,bE,rfl,ou,ok8⟩;rw[bg dK]at ou;refine⟨a9,n10,bE,rfl,(pS ((rb.ok ok2).ok ok8) (bK dK Y) (by omega) f3 f4 ok8.wf).mono ?_⟩;rintro _ h13 ⟨a14,n15,c16,rfl,ov,ok13⟩;rw[bg dK]at ov;refine⟨a14,n15,c16,rfl,?_⟩;have hYk:0<Y*k:=mul_pos hY f3;have hVl:(ay BB (Y*k)).length=mm:=x6 dK f6 (Nat.le_trans f5 (Nat.le_mul_of_pos_right Y f3)) f1;have hvlen:(bl (Y*k)).length=mm:=by rw[lM];exact hVl
  rcases ov with⟨_,e⟩|⟨kv,cv,e,hkv,gv,tv,lv⟩
  ·rw[e]at hvlen;simp at hvlen;omega
  injection e with e1 e2 e3
  subst e1;obtain rfl:n15=mm:=by rw[e2,hvlen]
  rw[hvlen]at tv;have hbvX:=cY (bK dK X);rw[bg dK,<-hn]at hbvX;have hXk:0<X*k:=mul_pos hX f3;have L1:=mL a n c b n15 d (k:Int) (some ⟨kv,0,none⟩) n15 c16
   (λmz r rn rc g=>rn<=n+1/\mz=n+1-rn/\0<rn/\∃U:List Nat,U.length=rn/\dO h g 117 (.slice r rn rc) (U.map uv)/\Ok h g/\(∀x∈U,x<BB)/\Num.bv BB U=X*k/\g.get kv=some (.cells cv 117 1 true)/\(∀o n c,Value.slice r rn rc≠ .slice (some ⟨kv,o,none⟩) n c)) (xW h X Y) (by
   intro mz r rn rc;intros;rename_i g hi;obtain⟨h1,h2',h3,U,hU,o,ok,hlt,hbv,gkv,hne⟩:=hi;refine ae (λh5=>?_) (λh5=>?_)
   ·have h5:=dT h5;refine⟨_,_,_,lR _,?_⟩;obtain⟨b',m',d',u,g6,g7,g8,g9,zG,Dc⟩:=dO.Ry (P:=SS.P) (t:=150) (x:= .int .u64 0) rI BG uJ w ok o rfl (by rw[rG,lM];omega) (by rw[lM];omega);rw[lM,hU]at g7;subst g7;refine⟨b',_,d',u,g6,AV (mz-1) (by omega) ⟨by omega,by omega,by omega,U++[0],by simp[hU],?_,g9,?_,?_,zG _ _ gkv hne,?_⟩⟩
    ·rw[map_append];exact g8
    ·intro x hx;rcases mem_append.1 hx with hx|hx
     ·exact hlt x hx
     ·rw[mem_singleton.1 hx];decide
    ·rw[kf,hbv];simp
    ·intro o' n' c' e;rcases Dc _ _ _ _ e with h7|⟨o2,n2,c2,h7⟩
     ·have:=ok.wf _ _ gkv;omega
     ·exact hne _ _ _ h7
   ·have h5:=dF h5;obtain rfl:rn=n+1:=by omega
    rcases o with⟨_,e⟩|⟨ku,cu,e,hku,gu,tu,lu⟩
    ·have:=congrArg List.length e;rw[lM,hU]at this;have h9:n+1=0:=this;omega
    rw[lM,hU]at e tu lu;injection e with e1 _ e3
    subst e1;subst e3;have hwL:wrap .i64 (((n+1:Nat):Int)-(n15:Int))=((n+1-n15:Nat):Int):=by rw[aB (by omega) (by omega)];omega
    rw[hwL];refine⟨_,_,_,MS _ (by omega),?_⟩;have hkun:=ok.wf _ _ gu;have hkvn:=ok.wf _ _ gkv;have huv:ku≠kv:=λe=>hne 0 (n+1) (bR+cu.length) (by rw[e]);have hcapz:((List.replicate (n+1-n15) 0).map uv).length=n+1-n15:=by rw[lM,length_replicate]
    exact K0 (h2:=h) (X:=X) (Y:=Y) (N:=n) (m:=n15) (L:=n+1-n15) (k:=k) (ku:=ku) (kv:=kv) (kq:=g.next) (ec:=c16) (cu:=cu) (cv:=cv) hY f1 hmN (by omega) rfl f3 f4 hVl (le_of_lt f6) a n c b d (n+1-n15) (i:=0)
     ⟨zero_le _,rfl,U,List.replicate (n+1-n15) 0,{
      ok:=ok.push _
      w2:=w
      u2:=hku
      q2:=ok.nx
      gu:=by
       rw[aa.aM,if_neg (by omega),iz (by rw[drop_zero,hU];exact tu)];exact gu
      gv:=by rw[aa.aM,if_neg (by omega)];exact gkv
      gq:=by
       rw[aa.aM,if_pos rfl,iz (by rw[drop_zero,length_replicate,take_of_length_le (by rw[hcapz];exact Nat.le_refl _)])]
      RW:=huv
      uq:=by omega
      vq:=by omega
      ul:=hU
      cl:=lu
      Oc:=by rw[length_replicate]
      Mu:=by rw[hVl];exact tv
      inv:=eG.start dK hlt hU hmN hbvX f5 f1 f3 hbv }⟩)
  have hou:=dO.RX ok2.nx ou;have hlenu:n10=(ay BB (X*k)).length:=by have:=ou.len;rwa[lM]at this
  have hkvlt:h8.next<=kv:=hkv;have hXkl:(ay BB (X*k)).length<=n+1:=by
   refine gj dK ?_;rw[pow_succ];exact lt_of_lt_of_le (Nat.mul_lt_mul_of_pos_right hbvX f3) (Nat.mul_le_mul_left _ f4)
  have hpos:0<(ay BB (X*k)).length:=List.length_pos_iff.2 λe=>by have:=(ek dK).1 e;omega
  refine L1 (n+1-n10) ⟨by omega,rfl,by omega,ay BB (X*k),hlenu.symm,hou.ok ok13,(ok2.trans ok8).trans ok13,bK dK _,bg dK _,gv,?_⟩;intro o n' c' e;rcases ou with⟨e',_⟩|⟨ku,cu,e',hku,gu,_,_⟩
  ·rw[e']at e;injection e with e;cases e
  ·rw[e']at e;injection e with e _ _
   injection e with e
   injection e with e
   have:=ok8.wf _ _ gu;omega
abbrev dZ:LB:=[0,1,2,2,3,3,3,3,4,4,4,4,4,4,4,4,5,5,5,5,5,5,5,5,5,5,5,5,5,5,5,5,6,6,6,6,6,6,6,6,6,6,6,6,6,6,6,6,6,6,6,6,6,6,6,6,6,6,6,6,6,6,6,6,7,7,7,7,7,7,7,7,7,7,7,7,7,7,7,7,7,7,7,7,7,7,7,7,7,7,7,7,7,7,7,7,7,7,7,7,7,7,7,7,7,7,7,7,7,7,7,7,7,7,7,7,7,7,7,7,7,7,7,7,7,7,7,7,8,8,8,8,8,8,8,8,8,8,8,8,8,8,8,8,8,8,8,8,8,8,8,8,8,8,8,8,8,8,8,8,8,8,8,8,8,8,8,8,8,8,8,8,8,8,8,8,8,8,8,8,8,8,8,8,8,8,8,8,8,8,8,8,8,8,8,8,8,8,8,8,8,8,8,8,8,8,8,8,8,8,8,8,8,8,8,8,8,8,8,8,8,8,8,8,8,8,8,8,8,8,8,8,8,8,8,8,8,8,8,8,8,8,8,8,8,8,8,8,8,8,8,8,8,8,8,8]
noncomputable def Lq:FD:=fo Tryz.f89 []
theorem IJ(u:Int)(h:aa)(Q:VH)(hx:aZ (decide ((u:Int)>=4294967296)) (xI .u64 (aq SS.P .shr 117 (.int .u64 u) (.int .u64 32)) λn1=>aZ (decide ((n1:Int)>=65536)) (xI .u64 (aq SS.P .shr 117 (.int .u64 n1) (.int .u64 16)) λn2=>aZ (decide ((n2:Int)>=256)) (xI .u64 (aq SS.P .shr 117 (.int .u64 n2) (.int .u64 8)) λn3=>xI .u8 (bu SS.P 9 (strOf dZ) (.int .u8 (wrap .u8 n3))) λn4=>Q (.int .i64 (wrap .i64 (wrap .i64 (wrap .i64 (32+16)+8)+wrap .i64 n4))) h) (xI .u8 (bu SS.P 9 (strOf dZ) (.int .u8 (wrap .u8 n2))) λn5=>Q (.int .i64 (wrap .i64 (wrap .i64 (32+16)+wrap .i64 n5))) h)) (aZ (decide ((n1:Int)>=256)) (xI .u64 (aq SS.P .shr 117 (.int .u64 n1) (.int .u64 8)) λn6=>xI .u8 (bu SS.P 9 (strOf dZ) (.int .u8 (wrap .u8 n6))) λn7=>Q (.int .i64 (wrap .i64 (wrap .i64 (32+8)+wrap .i64 n7))) h) (xI .u8 (bu SS.P 9 (strOf dZ) (.int .u8 (wrap .u8 n1))) λn8=>Q (.int .i64 (wrap .i64 (32+wrap .i64 n8))) h))) (aZ (decide ((u:Int)>=65536)) (xI .u64 (aq SS.P .shr 117 (.int .u64 u) (.int .u64 16)) λn9=>aZ (decide ((n9:Int)>=256)) (xI .u64 (aq SS.P .shr 117 (.int .u64 n9) (.int .u64 8)) λn10=>xI .u8 (bu SS.P 9 (strOf dZ) (.int .u8 (wrap .u8 n10))) λn11=>Q (.int .i64 (wrap .i64 (wrap .i64 (wrap .i64 (0+16)+8)+wrap .i64 n11))) h) (xI .u8 (bu SS.P 9 (strOf dZ) (.int .u8 (wrap .u8 n9))) λn12=>Q (.int .i64 (wrap .i64 (wrap .i64 (0+16)+wrap .i64 n12))) h)) (aZ (decide ((u:Int)>=256)) (xI .u64 (aq SS.P .shr 117 (.int .u64 u) (.int .u64 8)) λn13=>xI .u8 (bu SS.P 9 (strOf dZ) (.int .u8 (wrap .u8 n13))) λn14=>Q (.int .i64 (wrap .i64 (wrap .i64 (0+8)+wrap .i64 n14))) h) (xI .u8 (bu SS.P 9 (strOf dZ) (.int .u8 (wrap .u8 u))) λn15=>Q (.int .i64 (wrap .i64 (0+wrap .i64 n15))) h)))):FW SS 89 [(.int .u64 u)] h Q:=fy Lq Tryz.func89 (az hx)
noncomputable def A9:FD:=fo Tryz.f169 []
theorem yP(n:Int)(h:aa)(Q:VH)(hx:xI .i64 (aq SS.P .shr 3 (.int .i64 (wrap .i64 (n*78913))) (.int .u64 18)) λn1=>Q (.int .i64 n1) h):FW SS 169 [(.int .i64 n)] h Q:=fy A9 Tryz.func169 (az hx)
noncomputable def KF:FD:=fo Tryz.f170 []
theorem HJ(b:Bool)(h:aa)(Q:VH)(hx:aZ b (Q (.int .i64 1) h) (Q (.int .i64 0) h)):FW SS 170 [(.bool b)] h Q:=fy KF Tryz.func170 (az hx)
noncomputable def Bu:FD:=fo Tryz.f146 []
theorem y6(u:Int)(h:aa)(Q:VH)(hx:FW SS 89 [(.int .u64 u)] h λv1 h2=>yI .i64 v1 λn3=>FW SS 169 [(.int .i64 n3)] h2 λv4 h5=>yI .i64 v4 λn6=>xP (af SS.P 184 (pA 0) (.int .i64 n6)) λp7=>xI .u64 (ag SS.P 117 h5 (.pointer (some p7))) λn8=>FW SS 170 [(.bool (decide ((u:Int)>=n8)))] h5 λv9 h10=>yI .i64 v9 λn11=>Q (.int .i64 (wrap .i64 (n6+n11))) h10):FW SS 146 [(.int .u64 u)] h Q:=fy Bu Tryz.func146 (az hx)
abbrev bh:LB:=[48,48,48,49,48,50,48,51,48,52,48,53,48,54,48,55,48,56,48,57,49,48,49,49,49,50,49,51,49,52,49,53,49,54,49,55,49,56,49,57,50,48,50,49,50,50,50,51,50,52,50,53,50,54,50,55,50,56,50,57,51,48,51,49,51,50,51,51,51,52,51,53,51,54,51,55,51,56,51,57,52,48,52,49,52,50,52,51,52,52,52,53,52,54,52,55,52,56,52,57,53,48,53,49,53,50,53,51,53,52,53,53,53,54,53,55,53,56,53,57,54,48,54,49,54,50,54,51,54,52,54,53,54,54,54,55,54,56,54,57,55,48,55,49,55,50,55,51,55,52,55,53,55,54,55,55,55,56,55,57,56,48,56,49,56,50,56,51,56,52,56,53,56,54,56,55,56,56,56,57,57,48,57,49,57,50,57,51,57,52,57,53,57,54,57,55,57,56,57,57]
noncomputable def Md:FD:=fo Tryz.f145 []
theorem JK(n:Int)(h:aa)(Q:VH)(hx:aZ (decide ((n:Int)<10)) (xS (cA SS.P 9 (strOf [48,49,50,51,52,53,54,55,56,57,97,98,99,100,101,102,103,104,105,106,107,108,109,110,111,112,113,114,115,116,117,118,119,120,121,122]) (some (.int .i64 n)) (some (.int .i64 (wrap .i64 (n+1)))) none h) λl1=>Q (strOf l1) h) (xS (cA SS.P 9 (strOf bh) (some (.int .i64 (wrap .i64 (n*2)))) (some (.int .i64 (wrap .i64 (wrap .i64 (n*2)+2)))) none h) λl2=>Q (strOf l2) h)):FW SS 145 [(.int .i64 n)] h Q:=fy Md Tryz.func145 (az hx)
noncomputable def kS:FD:=fo Tryz.f147 [([1,0,0,0],[0,1,4])]
abbrev ic(a:OA)(n c:Nat)(i:Nat)(v:Int):LV:=[(.slice a n c),(.int .u64 v),(iA i)]
theorem Is(a:OA)(n c:Nat)(u:Int)(h:aa)(Q:VH)(hx:LL SS kS [1,0,0,0] (ic a n c n u) h (KK SS kS [1,0,0] [] (EE SS kS Q))):FW SS 147 [(.slice a n c),(.int .u64 u)] h Q:=fy kS Tryz.func147 (az hx)
theorem qJ(a:OA)(n c:Nat)(u:Int)  (Inv:Nat->Nat->Int->aa->Prop) (Q:VH) (step:∀(mz:Nat)(i:Nat)(v:Int)(zz:Nat->Value)(h:aa),Inv mz i v h->aZ (decide (((i:Int):Int)>=8)) (xI .u64 (aq SS.P .rem 117 (.int .u64 v) (.int .u64 100000000)) λn1=>xI .u64 (aq SS.P .quo 117 (.int .u64 v) (.int .u64 100000000)) λn2=>xI .u32 (aq SS.P .quo 115 (.int .u32 (wrap .u32 n1)) (.int .u32 10000)) λn3=>xI .u32 (aq SS.P .rem 115 (.int .u32 (wrap .u32 n1)) (.int .u32 10000)) λn4=>xI .u32 (aq SS.P .quo 115 (.int .u32 n4) (.int .u32 100)) λn5=>xI .u32 (aq SS.P .rem 115 (.int .u32 n4) (.int .u32 100)) λn6=>xI .u32 (aq SS.P .quo 115 (.int .u32 n3) (.int .u32 100)) λn7=>xI .u32 (aq SS.P .rem 115 (.int .u32 n3) (.int .u32 100)) λn8=>xI .u8 (bu SS.P 9 (strOf bh) (.int .u32 (wrap .u32 (wrap .u32 (n6*2)+1)))) λn9=>xI .u8 (bu SS.P 9 (strOf bh) (.int .u32 (wrap .u32 (n6*2)))) λn10=>xP (af SS.P 159 (.slice a n c) (.int .i64 (wrap .i64 ((i:Int)-1)))) λp11=>xU (an SS.P 5 (.pointer (some p11)) (.int .u8 n9) (room h 15)) (room h 15) λM4 zH=>xP (af SS.P 159 (.slice a n c) (.int .i64 (wrap .i64 ((i:Int)-2)))) λp14=>xU (an SS.P 5 (.pointer (some p14)) (.int .u8 n10) zH) zH λPF g16=>xI .u8 (bu SS.P 9 (strOf bh) (.int .u32 (wrap .u32 (wrap .u32 (n5*2)+1)))) λn17=>xI .u8 (bu SS.P 9 (strOf bh) (.int .u32 (wrap .u32 (n5*2)))) λn18=>xP (af SS.P 159 (.slice a n c) (.int .i64 (wrap .i64 ((i:Int)-3)))) λp19=>xU (an SS.P 5 (.pointer (some p19)) (.int .u8 n17) (room g16 15)) (room g16 15) λu20 g21=>xP (af SS.P 159 (.slice a n c) (.int .i64 (wrap .i64 ((i:Int)-4)))) λp22=>xU (an SS.P 5 (.pointer (some p22)) (.int .u8 n18) g21) g21 λu23 g24=>xI .u8 (bu SS.P 9 (strOf bh) (.int .u32 (wrap .u32 (wrap .u32 (n8*2)+1)))) λn25=>xI .u8 (bu SS.P 9 (strOf bh) (.int .u32 (wrap .u32 (n8*2)))) λn26=>xP (af SS.P 159 (.slice a n c) (.int .i64 (wrap .i64 ((i:Int)-5)))) λp27=>xU (an SS.P 5 (.pointer (some p27)) (.int .u8 n25) (room g24 15)) (room g24 15) λu28 g29=>xP (af SS.P 159 (.slice a n c) (.int .i64 (wrap .i64 ((i:Int)-6)))) λp30=>xU (an SS.P 5 (.pointer (some p30)) (.int .u8 n26) g29) g29 λu31 g32=>xI .u8 (bu SS.P 9 (strOf bh) (.int .u32 (wrap .u32 (wrap .u32 (n7*2)+1)))) λn33=>xI .u8 (bu SS.P 9 (strOf bh) (.int .u32 (wrap .u32 (n7*2)))) λn34=>xP (af SS.P 159 (.slice a n c) (.int .i64 (wrap .i64 ((i:Int)-7)))) λp35=>xU (an SS.P 5 (.pointer (some p35)) (.int .u8 n33) (room g32 15)) (room g32 15) λu36 g37=>xP (af SS.P 159 (.slice a n c) (.int .i64 (wrap .i64 ((i:Int)-8)))) λp38=>xU (an SS.P 5 (.pointer (some p38)) (.int .u8 n34) g37) g37 λu39 g40=>ba (zE (ic a n c) Inv) mz [(.slice a n c),(.int .u64 n2),(.int .i64 (wrap .i64 ((i:Int)-8)))] g40) (aZ (decide (((i:Int):Int)>=4)) (xI .u32 (aq SS.P .rem 115 (.int .u32 (wrap .u32 v)) (.int .u32 10000)) λn41=>xI .u32 (aq SS.P .quo 115 (.int .u32 (wrap .u32 v)) (.int .u32 10000)) λn42=>xI .u32 (aq SS.P .quo 115 (.int .u32 n41) (.int .u32 100)) λn43=>xI .u32 (aq SS.P .rem 115 (.int .u32 n41) (.int .u32 100)) λn44=>xI .u8 (bu SS.P 9 (strOf bh) (.int .u32 (wrap .u32 (wrap .u32 (n44*2)+1)))) λn45=>xI .u8 (bu SS.P 9 (strOf bh) (.int .u32 (wrap .u32 (n44*2)))) λn46=>xP (af SS.P 159 (.slice a n c) (.int .i64 (wrap .i64 ((i:Int)-1)))) λp47=>xU (an SS.P 5 (.pointer (some p47)) (.int .u8 n45) (room h 15)) (room h 15) λu48 g49=>xP (af SS.P 159 (.slice a n c) (.int .i64 (wrap .i64 ((i:Int)-2)))) λp50=>xU (an SS.P 5 (.pointer (some p50)) (.int .u8 n46) g49) g49 λu51 g52=>xI .u8 (bu SS.P 9 (strOf bh) (.int .u32 (wrap .u32 (wrap .u32 (n43*2)+1)))) λn53=>xI .u8 (bu SS.P 9 (strOf bh) (.int .u32 (wrap .u32 (n43*2)))) λn54=>xP (af SS.P 159 (.slice a n c) (.int .i64 (wrap .i64 ((i:Int)-3)))) λp55=>xU (an SS.P 5 (.pointer (some p55)) (.int .u8 n53) (room g52 15)) (room g52 15) λu56 g57=>xP (af SS.P 159 (.slice a n c) (.int .i64 (wrap .i64 ((i:Int)-4)))) λp58=>xU (an SS.P 5 (.pointer (some p58)) (.int .u8 n54) g57) g57 λu59 g60=>aZ (decide ((wrap .i64 ((i:Int)-4):Int)>=2)) (xI .u32 (aq SS.P .rem 115 (.int .u32 n42) (.int .u32 100)) λn61=>xI .u32 (aq SS.P .quo 115 (.int .u32 n42) (.int .u32 100)) λn62=>xI .u8 (bu SS.P 9 (strOf bh) (.int .u32 (wrap .u32 (wrap .u32 (n61*2)+1)))) λn63=>xI .u8 (bu SS.P 9 (strOf bh) (.int .u32 (wrap .u32 (n61*2)))) λn64=>xP (af SS.P 159 (.slice a n c) (.int .i64 (wrap .i64 (wrap .i64 ((i:Int)-4)-1)))) λp65=>xU (an SS.P 5 (.pointer (some p65)) (.int .u8 n63) (room g60 15)) (room g60 15) λu66 g67=>xP (af SS.P 159 (.slice a n c) (.int .i64 (wrap .i64 (wrap .i64 ((i:Int)-4)-2)))) λp68=>xU (an SS.P 5 (.pointer (some p68)) (.int .u8 n64) g67) g67 λu69 g70=>aZ (decide ((wrap .i64 (wrap .i64 ((i:Int)-4)-2):Int)>0)) (xP (af SS.P 159 (.slice a n c) (.int .i64 0)) λp71=>xU (an SS.P 5 (.pointer (some p71)) (.int .u8 (wrap .u8 (wrap .u32 (48+n62)))) g70) g70 λu72 g73=>Q (.tuple ⟨[]⟩) g73) (Q (.tuple ⟨[]⟩) g70)) (aZ (decide ((wrap .i64 ((i:Int)-4):Int)>0)) (xP (af SS.P 159 (.slice a n c) (.int .i64 0)) λp74=>xU (an SS.P 5 (.pointer (some p74)) (.int .u8 (wrap .u8 (wrap .u32 (48+n42)))) g60) g60 λu75 g76=>Q (.tuple ⟨[]⟩) g76) (Q (.tuple ⟨[]⟩) g60))) (aZ (decide (((i:Int):Int)>=2)) (xI .u32 (aq SS.P .rem 115 (.int .u32 (wrap .u32 v)) (.int .u32 100)) λn77=>xI .u32 (aq SS.P .quo 115 (.int .u32 (wrap .u32 v)) (.int .u32 100)) λn78=>xI .u8 (bu SS.P 9 (strOf bh) (.int .u32 (wrap .u32 (wrap .u32 (n77*2)+1)))) λn79=>xI .u8 (bu SS.P 9 (strOf bh) (.int .u32 (wrap .u32 (n77*2)))) λn80=>xP (af SS.P 159 (.slice a n c) (.int .i64 (wrap .i64 ((i:Int)-1)))) λp81=>xU (an SS.P 5 (.pointer (some p81)) (.int .u8 n79) (room h 15)) (room h 15) λu82 g83=>xP (af SS.P 159 (.slice a n c) (.int .i64 (wrap .i64 ((i:Int)-2)))) λp84=>xU (an SS.P 5 (.pointer (some p84)) (.int .u8 n80) g83) g83 λu85 g86=>aZ (decide ((wrap .i64 ((i:Int)-2):Int)>0)) (xP (af SS.P 159 (.slice a n c) (.int .i64 0)) λp87=>xU (an SS.P 5 (.pointer (some p87)) (.int .u8 (wrap .u8 (wrap .u32 (48+n78)))) g86) g86 λu88 g89=>Q (.tuple ⟨[]⟩) g89) (Q (.tuple ⟨[]⟩) g86)) (aZ (decide (((i:Int):Int)>0)) (xP (af SS.P 159 (.slice a n c) (.int .i64 0)) λp90=>xU (an SS.P 5 (.pointer (some p90)) (.int .u8 (wrap .u8 (wrap .u32 (48+wrap .u32 v)))) h) h λu91 g92=>Q (.tuple ⟨[]⟩) g92) (Q (.tuple ⟨[]⟩) h))))) (mz:Nat) {i:Nat} {v:Int} {h:aa} (hi:Inv mz i v h):LL SS kS [1,0,0,0] (ic a n c i v) h (KK SS kS [1,0,0] [] (EE SS kS Q)):=
 uS (ic a n c) Inv (λmz i v zz h hi=>az (step mz i v zz h hi)) mz hi
noncomputable def C8:FD:=fo Tryz.f205 []
theorem AP(u:Int)(h:aa)(Q:VH)(hx:aZ (((10:Int)==10)) (aZ (decide ((u:Int)<100)) (FW SS 145 [(.int .i64 (wrap .i64 u))] h λv1 h2=>yS v1 λl3=>Q (strOf l3) h2) (xN (bN SS.P 157) h λB4 g5=>FW SS 146 [(.int .u64 u)] g5 λv6 h7=>yI .i64 v6 λn8=>xL (cA SS.P 157 (pA (h.next)) none (some (.int .i64 n8)) none h7) λa9 n10 bE=>FW SS 147 [(.slice a9 n10 bE),(.int .u64 u)] h7 λv12 h13=>v12=(.tuple ⟨[]⟩)/\xL (cA SS.P 157 (pA (h.next)) none (some (.int .i64 n8)) none h13) λa14 n15 c16=>xS (JO SS.P 159 9 (.slice a14 n15 c16) h13) λl17=>Q (strOf l17) h13)) (FW SS 148 [nA,(.int .u64 u),(.int .i64 10),(.bool false),(.bool false)] h λv18 h19=>∃(a20:OA) (n21 c22:Nat),∃l23:LB,v18=(.tuple ⟨[(.slice a20 n21 c22),(strOf l23)]⟩)/\Q (strOf l23) h19)):FW SS 205 [(.int .u64 u),(.int .i64 10)] h Q:=fy C8 Tryz.func205 (az hx)
noncomputable def FZ:FD:=fo Tryz.f185 []
theorem C9(u:Int)(h:aa)(Q:VH)(hx:FW SS 205 [(.int .u64 u),(.int .i64 10)] h λv1 h2=>yS v1 λl3=>Q (strOf l3) h2):FW SS 185 [(.int .u64 u),(.int .i64 10)] h Q:=fy FZ Tryz.func185 (az hx)
theorem DT{P:Program}{t:TypeId}{a:Int}(h:0<=a){s:Nat}(hs:s<=64):aq P .shr t (.int .u64 a) (.int .u64 (s:Int))=some (.int .u64 (a/2^s)):=by
 show(if 0<=(s:Int)then some (Value.int .u64 (a.fdiv (2^(min (s:Int).toNat 64))))else none)=_;rw[if_pos (by omega),toNat_natCast,min_eq_left hs,Int.fdiv_eq_ediv_of_nonneg _ (Int.le_of_lt (Int.pow_pos (by decide)))]
theorem Ma{P:Program}{t:TypeId}{a:Int}(h:0<=a){s:Nat}(hs:s<=64):aq P .shr t (.int .i64 a) (.int .u64 (s:Int))=some (.int .i64 (a/2^s)):=by
 show(if 0<=(s:Int)then some (Value.int .i64 (a.fdiv (2^(min (s:Int).toNat 64))))else none)=_;rw[if_pos (by omega),toNat_natCast,min_eq_left hs,Int.fdiv_eq_ediv_of_nonneg _ (Int.le_of_lt (Int.pow_pos (by decide)))]
def Ki:List UInt8:=[0,1,2,2,3,3,3,3,4,4,4,4,4,4,4,4,5,5,5,5,5,5,5,5,5,5,5,5,5,5,5,5,6,6,6,6,6,6,6,6,6,6,6,6,6,6,6,6,6,6,6,6,6,6,6,6,6,6,6,6,6,6,6,6,7,7,7,7,7,7,7,7,7,7,7,7,7,7,7,7,7,7,7,7,7,7,7,7,7,7,7,7,7,7,7,7,7,7,7,7,7,7,7,7,7,7,7,7,7,7,7,7,7,7,7,7,7,7,7,7,7,7,7,7,7,7,7,7,8,8,8,8,8,8,8,8,8,8,8,8,8,8,8,8,8,8,8,8,8,8,8,8,8,8,8,8,8,8,8,8,8,8,8,8,8,8,8,8,8,8,8,8,8,8,8,8,8,8,8,8,8,8,8,8,8,8,8,8,8,8,8,8,8,8,8,8,8,8,8,8,8,8,8,8,8,8,8,8,8,8,8,8,8,8,8,8,8,8,8,8,8,8,8,8,8,8,8,8,8,8,8,8,8,8,8,8,8,8,8,8,8,8,8,8,8,8,8,8,8,8,8,8,8,8,8,8]
def SM:List UInt8:=[48,48,48,49,48,50,48,51,48,52,48,53,48,54,48,55,48,56,48,57,49,48,49,49,49,50,49,51,49,52,49,53,49,54,49,55,49,56,49,57,50,48,50,49,50,50,50,51,50,52,50,53,50,54,50,55,50,56,50,57,51,48,51,49,51,50,51,51,51,52,51,53,51,54,51,55,51,56,51,57,52,48,52,49,52,50,52,51,52,52,52,53,52,54,52,55,52,56,52,57,53,48,53,49,53,50,53,51,53,52,53,53,53,54,53,55,53,56,53,57,54,48,54,49,54,50,54,51,54,52,54,53,54,54,54,55,54,56,54,57,55,48,55,49,55,50,55,51,55,52,55,53,55,54,55,55,55,56,55,57,56,48,56,49,56,50,56,51,56,52,56,53,56,54,56,55,56,56,56,57,57,48,57,49,57,50,57,51,57,52,57,53,57,54,57,55,57,56,57,57]
theorem Lv:((List.range 256).all λx=>(x==0&&(Ki.getD x 0).toNat==0)||(Nat.ble 1 (Ki.getD x 0).toNat&&Nat.ble (Ki.getD x 0).toNat 8&&Nat.ble (2^((Ki.getD x 0).toNat-1)) x&&Nat.blt x (2^(Ki.getD x 0).toNat)))=true:=by kernel_rfl
theorem R6{x:Nat}(h:x<256)(h0:0<x):∃t,(Ki.getD x 0).toNat=t+1/\t<8/\2^t<=x/\x<2^(t+1):=by
 have h1:=List.all_eq_true.1 Lv x (List.mem_range.2 h);have h2:(x==0)=false:=by simp;omega
 rw[h2]at h1;simp only[Bool.false_and,Bool.false_or,and_eq_true,Nat.ble_eq,Nat.blt_eq]at h1;obtain⟨⟨⟨a,b⟩,c⟩,d⟩:=h1;refine⟨(Ki.getD x 0).toNat-1,by omega,by omega,c,?_⟩;rwa[Nat.sub_add_cancel a]
theorem sy{x:Int}(h0:0<=x)(h1:x<256):bu SS.P 9 (strOf Ki) (.int .u8 (wrap .u8 x))=some (.int .u8 ((Ki.getD x.toNat 0).toNat:Nat)):=by
 rw[q6 h0 h1];exact nh (by kernel_rfl) Ki .u8 h0 (by show x<((256:Nat):Int);omega)
theorem O9:((List.range 100).all λx=>Nat.beq (SM.getD (2*x) 0).toNat (48+x/10)&&Nat.beq (SM.getD (2*x+1) 0).toNat (48+x%10))=true:=by kernel_rfl
theorem JJ{x:Nat}(h:x<100):(SM.getD (2*x) 0).toNat=48+x/10/\(SM.getD (2*x+1) 0).toNat=48+x%10:=by
 have h1:=List.all_eq_true.1 O9 x (List.mem_range.2 h);simp only[and_eq_true,Nat.beq_eq]at h1;exact h1
theorem IK{u:Nat}(h0:0<u)(h1:u<4294967296)(h:aa):FW SS 89 [.int .u64 (u:Int)] h (λv h'=>h'=h/\∃n:Nat,v = .int .i64 (n+1:Nat)/\n<32/\2^n<=u/\u<2^(n+1)):=by
 refine IJ _ h _ (ae (λg=>absurd (dT g) (by omega)) λ_=>ae (λg=>?_) (λg=>?_))
 ·have g:=dT g;refine⟨_,DT (s:=16) (by omega) (by omega),ae (λg1=>?_) (λg1=>?_)⟩
  ·have g1:=dT g1;refine⟨_,DT (s:=8) (by omega) (by omega),_,sy (by omega) (by omega),rfl,?_⟩;obtain⟨t,e,h2,h3,h4⟩:=R6 (x:=((u:Int)/2^16/2^8).toNat) (by omega) (by omega);rw[e];refine⟨t+24,?_,by omega,?_,?_⟩
   ·refine congrArg (Value.int .i64) ?_;simp only[wrap_i64];omega
   ·rw[pow_add];omega
   ·rw[show t+24+1=(t+1)+24 by omega,pow_add];omega
  ·have g1:=dF g1;refine⟨_,sy (by omega) (by omega),rfl,?_⟩;obtain⟨t,e,h2,h3,h4⟩:=R6 (x:=((u:Int)/2^16).toNat) (by omega) (by omega);rw[e];refine⟨t+16,?_,by omega,?_,?_⟩
   ·refine congrArg (Value.int .i64) ?_;simp only[wrap_i64];omega
   ·rw[pow_add];omega
   ·rw[show t+16+1=(t+1)+16 by omega,pow_add];omega
 ·have g:=dF g;refine ae (λg1=>?_) (λg1=>?_)
  ·have g1:=dT g1;refine⟨_,DT (s:=8) (by omega) (by omega),_,sy (by omega) (by omega),rfl,?_⟩;obtain⟨t,e,h2,h3,h4⟩:=R6 (x:=((u:Int)/2^8).toNat) (by omega) (by omega);rw[e];refine⟨t+8,?_,by omega,?_,?_⟩
   ·refine congrArg (Value.int .i64) ?_;simp only[wrap_i64];omega
   ·rw[pow_add];omega
   ·rw[show t+8+1=(t+1)+8 by omega,pow_add];omega
  ·have g1:=dF g1;refine⟨_,sy (by omega) (by omega),rfl,?_⟩;obtain⟨t,e,h2,h3,h4⟩:=R6 (x:=((u:Int)).toNat) (by omega) (by omega);rw[e];refine⟨t,?_,by omega,by omega,by omega⟩;refine congrArg (Value.int .i64) ?_;simp only[wrap_i64];omega
def Ca:List Value:=(List.range 20).map λi=>uv (10^i)
def mn(h:aa):Prop:=∃t wr,h.get 0=some (.cells Ca t 0 wr)
theorem mn.ok{h h':aa}(t:mn h)(o:Ok h h'):mn h':=let⟨k,wr,e⟩:=t;⟨k,wr,o.ext _ _ e⟩
theorem PR:SS.P.underlying 184=some (.array 20 117):=by kernel_rfl
theorem Pk{h:aa}(t:mn h){i:Int}(h0:0<=i)(h1:i<20):af SS.P 184 (.pointer (some ⟨0,0,none⟩)) (.int .i64 i)=some (.pointer (some ⟨0,0+i.toNat*1,none⟩))/\ag SS.P 117 h (.pointer (some ⟨0,0+i.toNat*1,none⟩))=some (.int .u64 ((10^i.toNat:Nat):Int)):=by
 obtain⟨_,wr,e⟩:=t;constructor
 ·unfold af;rw[PR];dsimp only;rw[vu];dsimp only;rw[if_pos ⟨h0,h1⟩,bZ,zero_add]
 ·unfold ag;rw[Fh];dsimp only;rw[e];dsimp only;rw[Ep];simp only[Bool.false_eq_true,if_false];unfold Ca;rw[zero_add,mul_one,getElem?_map,List.getElem?_range (by omega)];rfl
theorem y7{u:Nat}(h0:100<=u)(h1:u<1000000000){h:aa}(t:mn h):FW SS 146 [.int .u64 (u:Int)] h (λv h'=>h'=h/\∃n:Nat,v = .int .i64 (n+1:Nat)/\n<9/\10^n<=u/\u<10^(n+1)):=by
 refine y6 _ h _ ((IK (by omega) (by omega) h).mono ?_);rintro _ g ⟨e0,n,rfl,h2,h3,h4⟩;have t:=e0▸t;refine⟨_,rfl,yP _ _ _ ⟨_,Ma (s:=18) ?_ (by omega),_,rfl,?_⟩⟩
 ·rw[aB (by omega) (by omega)];omega
 rw[aB (by omega) (by omega)];have h5:n<30:=by
  rcases lt_or_ge n 30 with h|h
  ·exact h
  ·have:2^30<=2^n:=pow_le_pow_right (by omega) h;omega
 have h6:6<=n:=by
  rcases lt_or_ge n 6 with h|h
  ·have:2^(n+1)<=2^6:=pow_le_pow_right (by omega) h;omega
  ·exact h
 obtain⟨g1,g2⟩:=Pk t (i:=((n+1:Nat):Int)*78913/2^18) (by omega) (by omega);refine⟨_,g1,_,g2,HJ _ _ _ ?_⟩;have key:∀q:Nat,2<=q->q<=9->10^(q-1)<=u->u<10^(q+1)->((n+1:Nat):Int)*78913/2^18=(q:Int)->aZ (decide (((u:Nat):Int)>=((10^(((n+1:Nat):Int)*78913/2^18).toNat:Nat):Int))) (∃n11:Int,Value.int .i64 1 = .int .i64 n11/\(g=h/\∃m:Nat,Value.int .i64 (wrap .i64 (((n+1:Nat):Int)*78913/2^18+n11)) = .int .i64 (m+1:Nat)/\m<9/\10^m<=u/\u<10^(m+1))) (∃n11:Int,Value.int .i64 0 = .int .i64 n11/\(g=h/\∃m:Nat,Value.int .i64 (wrap .i64 (((n+1:Nat):Int)*78913/2^18+n11)) = .int .i64 (m+1:Nat)/\m<9/\10^m<=u/\u<10^(m+1))):=by
  intro q q1 q2 q3 q4 q5;rw[q5,toNat_natCast];refine ae (λg5=>?_) (λg5=>?_)
  ·have g5:=dT g5;refine⟨1,rfl,e0,q,?_,?_,by omega,q4⟩
   ·rw[aB (by omega) (by omega)];rfl
   ·rcases lt_or_ge q 9 with h|h
    ·exact h
    ·have:q=9:=by omega
     subst this;omega
  ·have g5:=dF g5;refine⟨0,rfl,e0,q-1,?_,by omega,q3,by rw[Nat.sub_add_cancel (by omega)];omega⟩;rw[aB (by omega) (by omega),Nat.sub_add_cancel (by omega),Int.add_zero]
 have hn:n=6\/n=7\/n=8\/n=9\/n=10\/n=11\/n=12\/n=13\/n=14\/n=15\/n=16\/n=17\/n=18\/n=19\/n=20\/n=21\/n=22\/n=23\/n=24\/n=25\/n=26\/n=27\/n=28\/n=29:=by omega
 rcases hn with rfl|rfl|rfl|rfl|rfl|rfl|rfl|rfl|rfl|rfl|rfl|rfl|rfl|rfl|rfl|rfl|rfl|rfl|rfl|rfl|rfl|rfl|rfl|rfl
 all_goals first
  |exact key 2 (by omega) (by omega) (by omega) (by omega) (by omega)
  |exact key 3 (by omega) (by omega) (by omega) (by omega) (by omega)
  |exact key 4 (by omega) (by omega) (by omega) (by omega) (by omega)
  |exact key 5 (by omega) (by omega) (by omega) (by omega) (by omega)
  |exact key 6 (by omega) (by omega) (by omega) (by omega) (by omega)
  |exact key 7 (by omega) (by omega) (by omega) (by omega) (by omega)
  |exact key 8 (by omega) (by omega) (by omega) (by omega) (by omega)
  |exact key 9 (by omega) (by omega) (by omega) (by omega) (by omega)
theorem JL{u:Nat}(h1:u<100)(h:aa):FW SS 145 [.int .i64 (u:Int)] h (λv h'=>h'=h/\v=strOf (av u)):=by
 refine JK _ h _ (ae (λg=>?_) (λg=>?_))
 ·have g:=dT g;rw[aB (by omega) (by omega)];refine⟨_,km (by kernel_rfl) _ (a:=u) (b:=u+1) rfl rfl (by omega) (by simp;omega),rfl,?_⟩;rw[cC (by omega)];have:u=0\/u=1\/u=2\/u=3\/u=4\/u=5\/u=6\/u=7\/u=8\/u=9:=by omega
  rcases this with rfl|rfl|rfl|rfl|rfl|rfl|rfl|rfl|rfl|rfl<;>rfl
 ·have g:=dF g;rw[aB (n:=(u:Int)*2) (by omega) (by omega),aB (by omega) (by omega)];refine⟨_,km (l:=SM) (by kernel_rfl) (a:=2*u) (b:=2*u+2) (by show some _=some _;congr 1;omega) (by show some _=some _;congr 1;omega) (by omega) (by show _<=200;omega),rfl,?_⟩;have hb:=JJ h1;rw[fe (by omega),cC (by omega),show 2*u+2-2*u=2 by omega];have hl:SM.length=200:=rfl;rw[List.drop_eq_getElem_cons (by omega),List.drop_eq_getElem_cons (by omega)];have e1:SM[2*u]'(by omega)=eP (u/10):=by
   apply UInt8.toNat_inj.1;have:=hb.1;rw[gD,gE (by omega)]at this;rw[show(SM[2*u]'(by omega)).toNat=_ from this];unfold eP;rw[UInt8.toNat_ofNat',Nat.mod_eq_of_lt (by omega)]
  have e2:SM[2*u+1]'(by omega)=eP (u%10):=by
   apply UInt8.toNat_inj.1;have:=hb.2;rw[gD,gE (by omega)]at this;rw[show(SM[2*u+1]'(by omega)).toNat=_ from this];unfold eP;rw[UInt8.toNat_ofNat',Nat.mod_eq_of_lt (a:=48+u%10) (b:=2^8) (by omega)]
  rw[e1,e2];rfl
section
theorem ir{n:Int}(h1:0<=n)(h2:n<4294967296):wrap .u32 n=n:=by
 simp only[wrap,IntKind.bits,IntKind.signed,Bool.false_and,Bool.false_eq_true,if_false];omega
theorem uD{P:Program}{t:TypeId}{a:Int}{b:Nat}(h0:0<=a)(h1:a<4294967296)(hb:0<b):aq P .quo t (.int .u32 a) (.int .u32 (b:Int))=some (.int .u32 (a/(b:Int))):=by
 rw[Es P t .u32 _ _ (by omega),Int.tdiv_eq_ediv_of_nonneg h0,ir (Int.ediv_nonneg h0 (by omega)) (Int.lt_of_le_of_lt (Int.ediv_le_self _ h0) h1)]
theorem KI{d:Nat}(h:d<10):tg (eP d) = .int .u8 (48+(d:Int)):=by
 unfold tg eP;rw[UInt8.toNat_ofNat',Nat.mod_eq_of_lt (a:=48+d) (b:=2^8) (by omega)];rfl
structure FB(h0:aa)(k n u j w:Nat)(h:aa):Prop where
 blk:∃cs,h.get k=some (.cells cs 157 0 true)/\cs.length=24/\(cs.drop j).take (n-j)=(Num.wid (n-j) u).map tg
 hw:w=u/10^(n-j)
 lt:w<10^j
 jn:j<=n
 n24:n<=9
 ok:zY h0 k h
section
variable {h0 h:aa} {k n u j w:Nat}
theorem FB.room(f:FB h0 k n u j w h)(r:Nat):FB h0 k n u j w (room h r):=⟨f.blk,f.hw,f.lt,f.jn,f.n24,f.ok.room r⟩
theorem FB.step(f:FB h0 k n u (j+1) w h){c:Nat}{x i:Int}(hx:x=48+(w:Int)%10)(hi:i=(j:Int)):
  ∃p:Addr,af SS.P 159 (.slice (some ⟨k,0,none⟩) n c) (.int .i64 i)=some (.pointer (some p))/\∃u':cL,an SS.P 5 (.pointer (some p)) (.int .u8 x) h=some (undef,u')/\FB h0 k n u j (w/10) (u'.app h):=by
 subst hx hi;obtain⟨cs,h1,h2,h3⟩:=f.blk;have hjn:=f.jn;have hn:=f.n24;refine⟨⟨k,0+j,none⟩,?_,.set k (.cells (cs.set j (tg (eP (w%10)))) 157 0 true),?_,?_⟩
 ·unfold af;rw[Fb];dsimp only;rw[R9];dsimp only;rw[if_pos ⟨by omega,by omega⟩,mul_one,bZ,toNat_natCast]
 ·rw[show(48+((w:Nat):Int)%10)=48+((w%10:Nat):Int) by omega,<-KI (mod_lt _ (by omega))];show(if aw SS.P 5=some 1 then(storeAt h k (0+j) [tg (eP (w%10))]).map λu=>(undef,u)else none)=_;rw[if_pos R9];unfold storeAt;rw[h1];dsimp only;rw[zero_add,if_pos ⟨by simp;omega,rfl⟩];have e:cs.take j++[tg (eP (w%10))]++cs.drop (j+[tg (eP (w%10))].length)=cs.set j (tg (eP (w%10))):=by
   rw[List.set_eq_take_append_cons_drop,if_pos (by omega),append_assoc];rfl
  rw[e];rfl
 ·have hk:=f.ok.wf _ _ h1;have hnj:n-j=(n-(j+1))+1:=by omega
  refine⟨⟨cs.set j (tg (eP (w%10))),?_,by rw[length_set];exact h2,?_⟩,?_,?_,by omega,hn,f.ok.set hk _⟩
  ·show(h.set k _).get k=_;rw[aa.aR,if_pos rfl]
  ·rw[List.drop_eq_getElem_cons (by simp only[length_set];omega),hnj,List.take_succ_cons,List.getElem_set_self,List.drop_set_of_lt (by omega),h3,oo,List.map_cons,<-f.hw]
  ·rw[hnj,pow_succ,<-Nat.div_div_eq_div_mul,<-f.hw]
  ·have:=f.lt;rw[pow_succ]at this;omega
theorem Rx{y:Int}{x:Nat}(hy:y=(x:Int))(hx:x<100):bu SS.P 9 (strOf SM) (.int .u32 (wrap .u32 (wrap .u32 (y*2)+1)))=some (.int .u8 (48+(x:Int)%10)):=by
 rw[ir (n:=y*2) (by omega) (by omega),ir (by omega) (by omega),nh (by kernel_rfl) SM .u32 (by omega) (by show _<((200:Nat):Int);omega),show(y*2+1).toNat=2*x+1 by omega,(JJ hx).2];rfl
theorem Rw{y:Int}{x:Nat}(hy:y=(x:Int))(hx:x<100):bu SS.P 9 (strOf SM) (.int .u32 (wrap .u32 (y*2)))=some (.int .u8 (48+(x:Int)/10)):=by
 rw[ir (n:=y*2) (by omega) (by omega),nh (by kernel_rfl) SM .u32 (by omega) (by show _<((200:Nat):Int);omega),show(y*2).toNat=2*x by omega,(JJ hx).1];rfl
theorem FB.pair(f:FB h0 k n u (j+2) w h){c:Nat}{y i1 i2:Int}(hy:y=(w:Int)%100)(h1:i1=(j:Int)+1)(h2:i2=(j:Int)):
  ∃n9:Int,bu SS.P 9 (strOf SM) (.int .u32 (wrap .u32 (wrap .u32 (y*2)+1)))=some (.int .u8 n9)/\
  ∃n10:Int,bu SS.P 9 (strOf SM) (.int .u32 (wrap .u32 (y*2)))=some (.int .u8 n10)/\
  ∃p11:Addr,af SS.P 159 (.slice (some ⟨k,0,none⟩) n c) (.int .i64 i1)=some (.pointer (some p11))/\
  ∃M4:cL,an SS.P 5 (.pointer (some p11)) (.int .u8 n9) (Go.Ab.room h 15)=some (undef,M4)/\
  ∃p13:Addr,af SS.P 159 (.slice (some ⟨k,0,none⟩) n c) (.int .i64 i2)=some (.pointer (some p13))/\
  ∃Km:cL,an SS.P 5 (.pointer (some p13)) (.int .u8 n10) (M4.app (Go.Ab.room h 15))=some (undef,Km)/\
  FB h0 k n u j (w/100) (Km.app (M4.app (Go.Ab.room h 15))):=by
 have e:y=((w%100:Nat):Int):=by omega
 obtain⟨p,a1,u1,a2,f1⟩:=(f.room 15).step (j:=j+1) (c:=c) (x:=48+((w%100:Nat):Int)%10) (i:=i1) (by omega) (by omega);obtain⟨q,a3,u2,a4,f2⟩:=f1.step (c:=c) (x:=48+((w%100:Nat):Int)/10) (i:=i2) (by omega) (by omega);refine⟨_,Rx e (by omega),_,Rw e (by omega),p,a1,u1,a2,q,a3,u2,a4,?_⟩;rw[Nat.div_div_eq_div_mul]at f2;exact f2
end
theorem It{h0 h:aa}{k n c u:Nat}(f:FB h0 k n u n u h):FW SS 147 [.slice (some ⟨k,0,none⟩) n c,.int .u64 (u:Int)] h (λv h'=>v = .tuple ⟨[]⟩/\∃w,FB h0 k n u 0 w h'):=by
 have hn:=f.n24;have L:=qJ (some ⟨k,0,none⟩) n c (u:Int) (λmz i v g=>∃w:Nat,v=(w:Int)/\mz=i/\FB h0 k n u i w g) (λv h'=>v = .tuple ⟨[]⟩/\∃w,FB h0 k n u 0 w h') (by
  intro mz i v;intros;rename_i g hi;obtain⟨w,rfl,rfl,f⟩:=hi;have hjn:=f.jn;have hw:w<1000000000:=lt_of_lt_of_le f.lt (show 10^mz<=10^9 from pow_le_pow_right (by omega) (by omega));refine ae (λg1=>?_) (λg1=>?_)
  ·have g1:=dT g1;obtain⟨j,rfl⟩:∃j,mz=j+8:=⟨mz-8,by omega⟩
   refine⟨_,dL (b:=100000000) (by omega) (by omega),_,jV (b:=100000000) (by omega) (by omega) (by omega),?_⟩;rw[ir (n:=((w:Nat):Int)%((100000000:Nat):Int)) (by omega) (by omega)];refine⟨_,uD (b:=10000) (by omega) (by omega) (by omega),_,dL (b:=10000) (by omega) (by omega),_,uD (b:=100) (by omega) (by omega) (by omega),_,dL (b:=100) (by omega) (by omega),_,uD (b:=100) (by omega) (by omega) (by omega),_,dL (b:=100) (by omega) (by omega),?_⟩;obtain⟨a1,b1,a2,b2,a3,b3,a4,b4,a5,b5,a6,b6,f1⟩:=FB.pair (j:=j+6) (c:=c) (y:=((w:Nat):Int)%((100000000:Nat):Int)%((10000:Nat):Int)%((100:Nat):Int)) (i1:=wrap .i64 (((j+8:Nat):Int)-1)) (i2:=wrap .i64 (((j+8:Nat):Int)-2)) f (by omega) (by rw[aB (by omega) (by omega)];omega) (by rw[aB (by omega) (by omega)];omega);refine⟨a1,b1,a2,b2,a3,b3,a4,b4,a5,b5,a6,b6,?_⟩;obtain⟨a1,b1,a2,b2,a3,b3,a4,b4,a5,b5,a6,b6,f2⟩:=FB.pair (j:=j+4) (c:=c) (y:=((w:Nat):Int)%((100000000:Nat):Int)%((10000:Nat):Int)/((100:Nat):Int)) (i1:=wrap .i64 (((j+8:Nat):Int)-3)) (i2:=wrap .i64 (((j+8:Nat):Int)-4)) f1 (by omega) (by rw[aB (by omega) (by omega)];omega) (by rw[aB (by omega) (by omega)];omega);refine⟨a1,b1,a2,b2,a3,b3,a4,b4,a5,b5,a6,b6,?_⟩;obtain⟨a1,b1,a2,b2,a3,b3,a4,b4,a5,b5,a6,b6,f3⟩:=FB.pair (j:=j+2) (c:=c) (y:=((w:Nat):Int)%((100000000:Nat):Int)/((10000:Nat):Int)%((100:Nat):Int)) (i1:=wrap .i64 (((j+8:Nat):Int)-5)) (i2:=wrap .i64 (((j+8:Nat):Int)-6)) f2 (by omega) (by rw[aB (by omega) (by omega)];omega) (by rw[aB (by omega) (by omega)];omega);refine⟨a1,b1,a2,b2,a3,b3,a4,b4,a5,b5,a6,b6,?_⟩;obtain⟨a1,b1,a2,b2,a3,b3,a4,b4,a5,b5,a6,b6,f4⟩:=FB.pair (j:=j) (c:=c) (y:=((w:Nat):Int)%((100000000:Nat):Int)/((10000:Nat):Int)/((100:Nat):Int)) (i1:=wrap .i64 (((j+8:Nat):Int)-7)) (i2:=wrap .i64 (((j+8:Nat):Int)-8)) f3 (by omega) (by rw[aB (by omega) (by omega)];omega) (by rw[aB (by omega) (by omega)];omega);refine⟨a1,b1,a2,b2,a3,b3,a4,b4,a5,b5,a6,b6,?_⟩;have e1:wrap .i64 (((j+8:Nat):Int)-8)=(j:Int):=by rw[aB (by omega) (by omega)];omega
   rw[e1];exact lT j (by omega) ⟨w/100000000,by omega,rfl,by
    have:=f4;simp only[Nat.div_div_eq_div_mul]at this;exact this⟩
  ·have g1:=dF g1;have hw8:w<100000000:=lt_of_lt_of_le f.lt (show 10^mz<=10^8 from pow_le_pow_right (by omega) (by omega));rw[ir (n:=((w:Nat):Int)) (by omega) (by omega)];refine ae (λg2=>?_) (λg2=>?_)
   ·have g2:=dT g2;obtain⟨j,rfl⟩:∃j,mz=j+4:=⟨mz-4,by omega⟩
    refine⟨_,dL (b:=10000) (by omega) (by omega),_,uD (b:=10000) (by omega) (by omega) (by omega),_,uD (b:=100) (by omega) (by omega) (by omega),_,dL (b:=100) (by omega) (by omega),?_⟩;obtain⟨a1,b1,a2,b2,a3,b3,a4,b4,a5,b5,a6,b6,f1⟩:=FB.pair (j:=j+2) (c:=c) (y:=((w:Nat):Int)%((10000:Nat):Int)%((100:Nat):Int)) (i1:=wrap .i64 (((j+4:Nat):Int)-1)) (i2:=wrap .i64 (((j+4:Nat):Int)-2)) f (by omega) (by rw[aB (by omega) (by omega)];omega) (by rw[aB (by omega) (by omega)];omega);refine⟨a1,b1,a2,b2,a3,b3,a4,b4,a5,b5,a6,b6,?_⟩;obtain⟨a1,b1,a2,b2,a3,b3,a4,b4,a5,b5,a6,b6,f2⟩:=FB.pair (j:=j) (c:=c) (y:=((w:Nat):Int)%((10000:Nat):Int)/((100:Nat):Int)) (i1:=wrap .i64 (((j+4:Nat):Int)-3)) (i2:=wrap .i64 (((j+4:Nat):Int)-4)) f1 (by omega) (by rw[aB (by omega) (by omega)];omega) (by rw[aB (by omega) (by omega)];omega);refine⟨a1,b1,a2,b2,a3,b3,a4,b4,a5,b5,a6,b6,?_⟩;have e1:wrap .i64 (((j+4:Nat):Int)-4)=(j:Int):=by rw[aB (by omega) (by omega)];omega
    rw[e1];have hwj:=f2.lt;refine ae (λg3=>?_) (λg3=>?_)
    ·have g3:=dT g3;obtain⟨l,rfl⟩:∃l,j=l+2:=⟨j-2,by omega⟩
     refine⟨_,dL (b:=100) (by omega) (by omega),_,uD (b:=100) (by omega) (by omega) (by omega),?_⟩;obtain⟨a1,b1,a2,b2,a3,b3,a4,b4,a5,b5,a6,b6,f3⟩:=FB.pair (j:=l) (c:=c) (y:=((w:Nat):Int)/((10000:Nat):Int)%((100:Nat):Int)) (i1:=wrap .i64 (((l+2:Nat):Int)-1)) (i2:=wrap .i64 (((l+2:Nat):Int)-2)) f2 (by omega) (by rw[aB (by omega) (by omega)];omega) (by rw[aB (by omega) (by omega)];omega);refine⟨a1,b1,a2,b2,a3,b3,a4,b4,a5,b5,a6,b6,?_⟩;have e2:wrap .i64 (((l+2:Nat):Int)-2)=(l:Int):=by rw[aB (by omega) (by omega)];omega
     rw[e2];refine ae (λg4=>?_) (λg4=>?_)
     ·have g4:=dT g4;obtain rfl:l=1:=by omega
      have hwl:=f3.lt;rw[ir (n:=48+_) (by omega) (by omega),q6 (n:=48+_) (by omega) (by omega)];obtain⟨p,b1,u1,b2,f4⟩:=f3.step (c:=c) (x:=48+((w:Nat):Int)/((10000:Nat):Int)/((100:Nat):Int)) (i:=0) (by omega) rfl;exact⟨p,b1,u1,b2,rfl,_,f4⟩
     ·have g4:=dF g4;obtain rfl:l=0:=by omega
      exact⟨rfl,_,f3⟩
    ·have g3:=dF g3;refine ae (λg4=>?_) (λg4=>?_)
     ·have g4:=dT g4;obtain rfl:j=1:=by omega
      rw[ir (n:=48+_) (by omega) (by omega),q6 (n:=48+_) (by omega) (by omega)];obtain⟨p,b1,u1,b2,f4⟩:=f2.step (c:=c) (x:=48+((w:Nat):Int)/((10000:Nat):Int)) (i:=0) (by omega) rfl;exact⟨p,b1,u1,b2,rfl,_,f4⟩
     ·have g4:=dF g4;obtain rfl:j=0:=by omega
      exact⟨rfl,_,f2⟩
   ·have g2:=dF g2;refine ae (λg3=>?_) (λg3=>?_)
    ·have g3:=dT g3;obtain⟨l,rfl⟩:∃l,mz=l+2:=⟨mz-2,by omega⟩
     refine⟨_,dL (b:=100) (by omega) (by omega),_,uD (b:=100) (by omega) (by omega) (by omega),?_⟩;obtain⟨a1,b1,a2,b2,a3,b3,a4,b4,a5,b5,a6,b6,f3⟩:=FB.pair (j:=l) (c:=c) (y:=((w:Nat):Int)%((100:Nat):Int)) (i1:=wrap .i64 (((l+2:Nat):Int)-1)) (i2:=wrap .i64 (((l+2:Nat):Int)-2)) f (by omega) (by rw[aB (by omega) (by omega)];omega) (by rw[aB (by omega) (by omega)];omega);refine⟨a1,b1,a2,b2,a3,b3,a4,b4,a5,b5,a6,b6,?_⟩;have e2:wrap .i64 (((l+2:Nat):Int)-2)=(l:Int):=by rw[aB (by omega) (by omega)];omega
     rw[e2];have hwl:=f3.lt;refine ae (λg4=>?_) (λg4=>?_)
     ·have g4:=dT g4;obtain rfl:l=1:=by omega
      rw[ir (n:=48+_) (by omega) (by omega),q6 (n:=48+_) (by omega) (by omega)];obtain⟨p,b1,u1,b2,f4⟩:=f3.step (c:=c) (x:=48+((w:Nat):Int)/((100:Nat):Int)) (i:=0) (by omega) rfl;exact⟨p,b1,u1,b2,rfl,_,f4⟩
     ·have g4:=dF g4;obtain rfl:l=0:=by omega
      exact⟨rfl,_,f3⟩
    ·have g3:=dF g3;have hwl:=f.lt;refine ae (λg4=>?_) (λg4=>?_)
     ·have g4:=dT g4;obtain rfl:mz=1:=by omega
      rw[ir (n:=48+_) (by omega) (by omega),q6 (n:=48+_) (by omega) (by omega)];obtain⟨p,b1,u1,b2,f4⟩:=f.step (c:=c) (x:=48+((w:Nat):Int)) (i:=0) (by omega) rfl;exact⟨p,b1,u1,b2,rfl,_,f4⟩
     ·have g4:=dF g4;obtain rfl:mz=0:=by omega
      exact⟨rfl,_,f⟩)
 exact Is _ n c _ h _ (L n ⟨u,rfl,rfl,f⟩)
end
noncomputable def Hl:bt:= .cells (List.replicate 24 (.int .u8 0)) 157 0 true
theorem PM:bN SS.P 157=some (Hl,kj):=by kernel_rfl
theorem PQ:SS.P.underlying 157=some (.array 24 5):=by kernel_rfl
theorem wy{h:aa}{k:Nat}{cs:List Value}{wr:Bool}(hk:h.get k=some (.cells cs 157 0 wr)){n:Nat}(hn:n<=24):cA SS.P 157 (.pointer (some ⟨k,0,none⟩)) none (some (.int .i64 (n:Int))) none h=some (.slice (some ⟨k,0,none⟩) n 24):=by
 unfold cA;dsimp only;rw[PQ];dsimp only[dy];rw[R9,hk];show(if 0<=((0:Nat):Int)/\((0:Nat):Int)<=(n:Int)/\(n:Int)<=((24:Nat):Int)/\24<bR then some (Value.slice (some ⟨k,0+((0:Nat):Int).toNat*1,none⟩) ((n:Int)-((0:Nat):Int)).toNat (24-((0:Nat):Int).toNat))else none)=_;have hO:24<bR:=by unfold bR;omega
 rw[if_pos ⟨by omega,by omega,by omega,hO⟩];have e2:((n:Int)-((0:Nat):Int)).toNat=n:=by omega
 have e0:((0:Nat):Int).toNat=0:=rfl;rw[e2,e0]
theorem DY{h:aa}{k off n c:Nat}{cs:List Value}{e sz:Nat}{wr:Bool}(hk:h.get k=some (.cells cs e sz wr)){l:List UInt8}(hl:(cs.drop off).take n=l.map tg)(hn:l.length=n):JO SS.P 159 9 (.slice (some ⟨k,off,none⟩) n c) h=some (strOf l):=by
 unfold JO aT;dsimp only;rw[Fb,show SS.P.underlying 9=some .string by kernel_rfl];dsimp only;rw[show SS.P.underlying 5=some (.int .u8) by kernel_rfl];dsimp only;rw[hk];dsimp only;rw[hl,if_pos (by rw[lM];exact hn),mw];rfl
theorem AQ{u:Nat}(h1:u<1000000000){h:aa}(t:mn h)(w:Wf h):FW SS 205 [.int .u64 (u:Int),.int .i64 10] h (λv h'=>v=strOf (av u)/\Ok h h'):=by
 refine AP _ h _ (ae (λ_=>?_) (λg=>by simp at g));refine ae (λg=>?_) (λg=>?_)
 ·have g:=dT g;rw[aB (by omega) (by omega)];refine(JL (by omega) h).mono ?_;rintro _ _ ⟨rfl,rfl⟩;exact⟨_,rfl,rfl,Ok.refl w⟩
 ·have g:=dF g;have ok:=(Ok.refl w).push Hl;refine⟨_,PM,(y7 (by omega) h1 (t.ok ok)).mono ?_⟩;rintro _ h6 ⟨e6,n,rfl,g1,g2,g3⟩;subst e6;have hk:(h.push Hl).get h.next=some (.cells (List.replicate 24 (.int .u8 0)) 157 0 true):=by rw[aa.aM,if_pos rfl];rfl
  refine⟨_,rfl,_,_,_,wy hk (n:=n+1) (by omega),?_⟩;have f:FB (h.push Hl) h.next (n+1) u (n+1) u (h.push Hl):=⟨⟨_,hk,by simp,by simp[Num.wid]⟩,by simp,g3,Nat.le_refl _,by omega,zY.refl ok.wf⟩
  refine(It f).mono ?_;rintro _ h12 ⟨rfl,x,f2⟩;obtain⟨cs,b1,b2,b3⟩:=f2.blk;rw[drop_zero,Nat.sub_zero]at b3;refine⟨rfl,_,_,_,wy b1 (n:=n+1) (by omega),av u,DY b1 ?_ ?_,rfl,?_⟩
  ·rw[drop_zero,b3,qg g3 (.inr g2)]
  ·rw[<-qg g3 (.inr g2),qh]
  ·refine⟨f2.ok.wf,λj B hj=>f2.ok.dQ j B (λe=>by have:=w _ _ hj;omega) (ok.ext _ _ hj),Nat.le_trans ok.nx f2.ok.nx⟩
theorem Da{u:Nat}(h1:u<1000000000){h:aa}(t:mn h)(w:Wf h):FW SS 185 [.int .u64 (u:Int),.int .i64 10] h (λv h'=>v=strOf (av u)/\Ok h h'):=by
 refine C9 _ h _ ((AQ h1 t w).mono ?_);rintro _ h2 ⟨rfl,o⟩;exact⟨_,rfl,rfl,o⟩
noncomputable def kH:FD:=fo Tryz.f206 []
theorem vG(p:Addr)(h:aa)(Q:VH)(hx:xP (ah SS.P 192 (.pointer (some p)) 0) λp1=>xO (ag SS.P 190 h (.pointer (some p1))) λa2=>xB (aq SS.P .eql 190 (.pointer a2) (.pointer none)) λb3=>aZ b3 (xG (aP SS.P eJ (ev SS.gl (uN [(.pointer (some p)),undef,(.pointer (some p)),(.pointer (some p)),(.pointer (some p1)),(.pointer a2),(.bool b3),(.pointer (some p)),(.pointer (some p))] 11)) (E7 (gJ [1,0] kH.body) 2) h) h λv4 u5 g6=>FW SS 215 [v4] g6 λv7 h8=>yV v7 λv9=>xG (aP SS.P eJ (ev SS.gl (uN [(.pointer (some p)),undef,(.pointer (some p)),(.pointer (some p)),(.pointer (some p1)),(.pointer a2),(.bool b3),(.pointer (some p)),(.pointer (some p)),v4,v9] 9)) (E7 (gJ [1,0] kH.body) 4) h8) h8 λv10 PD Kk=>xP (ah SS.P 192 (.pointer (some p)) 0) λp13=>xU (an SS.P 190 (.pointer (some p13)) v10 Kk) Kk λKm Iu=>Q (.tuple ⟨[]⟩) Iu) (xP (ah SS.P 192 (.pointer (some p)) 0) λp16=>xO (ag SS.P 190 h (.pointer (some p16))) λa17=>xB (aq SS.P .neq 190 (.pointer a17) (.pointer (some p))) λb18=>aZ b18 (False) (Q (.tuple ⟨[]⟩) h))):FW SS 206 [(.pointer (some p))] h Q:=fy kH Tryz.func206 (az hx)
noncomputable def HF:FD:=fo Tryz.f186 []
theorem Fx(p:Addr)(l:LB)(h:aa)(Q:VH)(hx:FW SS 206 [(.pointer (some p))] h λv1 h2=>v1=(.tuple ⟨[]⟩)/\xP (ah SS.P 192 (.pointer (some p)) 1) λp3=>xL (ag SS.P 159 h2 (.pointer (some p3))) λa4 n5 c6=>xE (aY SS.P 159 9 (.slice a4 n5 c6) (strOf l) h2) h2 λa7 n8 c9 Kl Dc=>xP (ah SS.P 192 (.pointer (some p)) 1) λp12=>xU (an SS.P 159 (.pointer (some p12)) (.slice a7 n8 c9) Dc) Dc λPE Hj=>Q (.tuple ⟨[(.int .i64 ((l:LB).length:Int)),.nilIface]⟩) Hj):FW SS 186 [(.pointer (some p)),(strOf l)] h Q:=fy HF Tryz.func186 (az hx)
noncomputable def qs:FD:=fo Tryz.f188 []
theorem CL(p:Addr)(h:aa)(Q:VH)(hx:xP (ah SS.P 192 (.pointer (some p)) 1) λp1=>xL (ag SS.P 159 (room h 12) (.pointer (some p1))) λa2 n3 c4=>xG (aP SS.P eJ (ev SS.gl (uN [(.pointer (some p)),undef,(strOf []),(.pointer (some p)),(.pointer (some p)),(.pointer (some p1)),(.slice a2 n3 c4)] 7)) (E7 (gJ [1,0] qs.body) 4) (room h 12)) (room h 12) λv5 u6 g7=>xP (ah SS.P 192 (.pointer (some p)) 1) λp8=>xL (ag SS.P 159 g7 (.pointer (some p8))) λa9 n10 bE=>xG (aP SS.P eJ (ev SS.gl [(.pointer (some p)),undef,(strOf []),(.pointer (some p)),(.pointer (some p)),(.pointer (some p1)),(.slice a2 n3 c4),v5,(.pointer (some p)),(.pointer (some p)),(.pointer (some p8)),(.slice a9 n10 bE),(iA n10),undef]) (E7 (gJ [1,0] qs.body) 10) g7) g7 λv12 PE Hj=>(ag SS.P 159 (room h 12) (.pointer (some p8))=some (.slice a9 n10 bE)/\jB 4 (.slice a9 n10 bE) (.slice a9 n10 bE)=true)/\(A6 SS.P 159 (.slice a9 n10 bE) (room h 12)=some (iA n10)/\jB 4 (iA n10) (iA n10)=true)/\Q v12 Hj):FW SS 188 [(.pointer (some p))] h Q:=fy qs Tryz.func188 (az hx)
theorem oe:SS.P.underlying 190=some (.pointer 192):=by kernel_rfl
theorem rL:SS.P.underlying 211=some .unsafePointer:=by kernel_rfl
theorem J0:aw SS.P 192=some 2:=by kernel_rfl
theorem KU{ρ:Operand->Value}{o:Oper}{x:Operand}(ho:o.op = .convert 190 211 x){h:aa}{k:Nat}{a b:Value}{wr:Bool}(hx:ρ x = .pointer (some ⟨k,0,none⟩))(hk:h.get k=some (.cells [a,b] 192 0 wr)):aP SS.P eJ ρ o h=some (.pointer (some ⟨k,0,none⟩),.no):=by
 obtain⟨dst,op,ty,pos,after,guard⟩:=o;subst ho;unfold aP;have h1:aK SS.P ρ ⟨dst,.convert 190 211 x,ty,pos,after,guard⟩=none:=by
  show dC SS.P 190 211 (ρ x)=none;rw[hx];unfold dC;rw[oe,rL]
 have h2:aT SS.P ρ ⟨dst,.convert 190 211 x,ty,pos,after,guard⟩ h=none:=by
  unfold aT;dsimp only;rw[oe,rL,hx]
 have h3:aJ SS.P ρ ⟨dst,.convert 190 211 x,ty,pos,after,guard⟩=none:=by
  unfold aJ;dsimp only;rw[oe,rL,hx]
 rw[h1];dsimp only;rw[h2];dsimp only;rw[h3];dsimp only;unfold cB;dsimp only;rw[oe,rL,hx];show(match h.get k with|some (.cells cs t' 0 _)=>if 192=t'/\aw SS.P 192=some cs.length/\0<cs.length then some (Value.pointer (some ⟨k,0,none⟩),cL.no)else none|_=>none)=_;rw[hk];show(if 192=192/\aw SS.P 192=some [a,b].length/\0<[a,b].length then some (Value.pointer (some ⟨k,0,none⟩),cL.no)else none)=_;rw[if_pos ⟨rfl,J0,by simp⟩]
theorem FK{ρ:Operand->Value}{o:Oper}{x:Operand}(ho:o.op = .convert 211 190 x){h:aa}{k:Nat}{a b:Value}{wr:Bool}(hx:ρ x = .pointer (some ⟨k,0,none⟩))(hk:h.get k=some (.cells [a,b] 192 0 wr)):aP SS.P eJ ρ o h=some (.pointer (some ⟨k,0,none⟩),.no):=by
 obtain⟨dst,op,ty,pos,after,guard⟩:=o;subst ho;unfold aP;have h1:aK SS.P ρ ⟨dst,.convert 211 190 x,ty,pos,after,guard⟩=none:=by
  show dC SS.P 211 190 (ρ x)=none;rw[hx];unfold dC;rw[oe,rL]
 have h2:aT SS.P ρ ⟨dst,.convert 211 190 x,ty,pos,after,guard⟩ h=none:=by
  unfold aT;dsimp only;rw[oe,rL,hx]
 have h3:aJ SS.P ρ ⟨dst,.convert 211 190 x,ty,pos,after,guard⟩=none:=by
  unfold aJ;dsimp only;rw[oe,rL,hx]
 rw[h1];dsimp only;rw[h2];dsimp only;rw[h3];dsimp only;unfold cB;dsimp only;rw[oe,rL,hx];show(match h.get k with|some (.cells cs t' 0 _)=>if 192=t'/\aw SS.P 192=some cs.length/\0<cs.length then some (Value.pointer (some ⟨k,0,none⟩),cL.no)else none|_=>none)=_;rw[hk];show(if 192=192/\aw SS.P 192=some [a,b].length/\0<[a,b].length then some (Value.pointer (some ⟨k,0,none⟩),cL.no)else none)=_;rw[if_pos ⟨rfl,J0,by simp⟩]
def self(k:Nat):Value:= .pointer (some ⟨k,0,none⟩)
theorem NL(k:Nat):ah SS.P 192 (.pointer (some ⟨k,0,none⟩)) 0=some (.pointer (some ⟨k,0,none⟩)):=by kernel_rfl
theorem K9(k:Nat):ah SS.P 192 (.pointer (some ⟨k,0,none⟩)) 1=some (.pointer (some ⟨k,1,none⟩)):=by kernel_rfl
theorem SP{h:aa}{k:Nat}{a b:Value}{wr:Bool}(hk:h.get k=some (.cells [a,b] 192 0 wr)):ag SS.P 190 h (.pointer (some ⟨k,0,none⟩))=some a:=by
 unfold ag;rw[oe];dsimp only;rw[hk];dsimp only;rw[show Go.Ab.isAgg SS.P 190=false by kernel_rfl];rfl
theorem Py{h:aa}{k:Nat}{a b:Value}{wr:Bool}(hk:h.get k=some (.cells [a,b] 192 0 wr)):ag SS.P 159 h (.pointer (some ⟨k,1,none⟩))=some b:=by
 unfold ag;rw[Fb];dsimp only;rw[hk];dsimp only;rw[show Go.Ab.isAgg SS.P 159=false by kernel_rfl];rfl
theorem Ue{h:aa}{k:Nat}{a b x:Value}(hk:h.get k=some (.cells [a,b] 192 0 true))(hx:cH x=true)(hc:x.cells = #[x]):an SS.P 190 (.pointer (some ⟨k,0,none⟩)) x h=some (undef,.set k (.cells [x,b] 192 0 true)):=by
 show(if aw SS.P 190=some x.cells.size then(storeAt h k 0 x.cells.toList).map λu=>(undef,u)else none)=_;rw[hc,show aw SS.P 190=some 1 by kernel_rfl,if_pos (show some 1=some #[x].size from rfl)];unfold storeAt;rw[hk];dsimp only;rw[if_pos ⟨by simp,by simp[hx]⟩];rfl
theorem To{h:aa}{k:Nat}{a b x:Value}(hk:h.get k=some (.cells [a,b] 192 0 true))(hx:cH x=true)(hc:x.cells = #[x]):an SS.P 159 (.pointer (some ⟨k,1,none⟩)) x h=some (undef,.set k (.cells [a,x] 192 0 true)):=by
 show(if aw SS.P 159=some x.cells.size then(storeAt h k 1 x.cells.toList).map λu=>(undef,u)else none)=_;rw[hc,show aw SS.P 159=some 1 by kernel_rfl,if_pos (show some 1=some #[x].size from rfl)];unfold storeAt;rw[hk];dsimp only;rw[if_pos ⟨by simp,by simp[hx]⟩];rfl
theorem ym{h:aa}{k:Nat}{a b:Value}(hk:h.get k=some (.cells [a,b] 192 0 true))(ha:a = .pointer none\/a=self k):
  FW SS 206 [self k] h (λv h'=>v = .tuple ⟨[]⟩/\h'.get k=some (.cells [self k,b] 192 0 true)/\(∀j,j≠k->h'.get j=h.get j)/\h'.next=h.next):=by
 refine vG ⟨k,0,none⟩ h _ ⟨_,NL k,?_⟩;rcases ha with rfl|rfl
 ·refine⟨_,SP hk,true,by kernel_rfl,?_⟩;refine ae (λ_=>?_) (λg=>by cases g);refine⟨_,_,KU (k:=k) (x:= .tmp 8) (by kernel_rfl) (by kernel_rfl) hk,yC (p:=hH) (v:=self k) (by kernel_rfl) (by kernel_rfl) (λ_=>rfl) ⟨_,rfl,_,_,FK (k:=k) (x:= .tmp 10) (by kernel_rfl) (by kernel_rfl) hk,_,NL k,_,Ue hk rfl rfl,rfl,?_,?_,rfl⟩⟩
  ·show(h.set k _).get k=_;rw[aa.aR,if_pos rfl];rfl
  ·intro j hj;show(h.set k _).get j=_;rw[aa.aR,if_neg hj]
 ·refine⟨_,SP hk,false,by kernel_rfl,?_⟩;refine ae (λg=>by cases g) (λ_=>?_);have hn:aq SS.P .neq 190 (self k) (self k)=some (.bool false):=by
   show((kO SS.P 190 (.pointer (some ⟨k,0,none⟩)) (.pointer (some ⟨k,0,none⟩))).map λb=>Value.bool !b)=_;unfold kO;dsimp only;rw[oe];dsimp only;rw[if_pos ⟨rfl,by rw[J0];rfl⟩];rfl
  refine⟨_,NL k,_,SP hk,false,hn,ae (λg=>by cases g) (λ_=>⟨rfl,hk,λ_ _=>rfl,rfl⟩)⟩
def Bd(h0 h:aa)(k:Nat)(l:List UInt8):Prop:=∃a v,h.get k=some (.cells [a,v] 192 0 true)/\(a = .pointer none\/a=self k)/\CC h0 h 5 v (l.map tg)/\h0.next<=k
theorem Uc:e9 SS.P 5=some ((SS.P.info? 5).getD default):=by kernel_rfl
theorem Ta:((SS.P.info? 5).getD default).size=1:=by kernel_rfl
theorem S9:((SS.P.info? 5).getD default).bytes=1:=by kernel_rfl
theorem Uf:dm SS.P 9=true:=by kernel_rfl
theorem Pa(h:aa)(l:List UInt8):fw h 1 (strOf l)=some (l.map tg,(l.map tg).length):=by
 show(if 1=1 then some (l.map (λb=>Value.int .u8 b.toNat),l.length)else none)=_;rw[if_pos rfl,lM];rfl
theorem Et:∀l:List UInt8,(l.map tg).all cH=true
 |[]=>rfl
 |c::l=>by rw[List.map_cons,all_cons,Et l];rfl
theorem zc{h0 h g:aa}{e:TypeId}{v:Value}{vs:List Value}(o:CC h0 h e v vs)(hg:∀j B,h.get j=some B->(∃cs wr,B = .cells cs e 1 wr)->g.get j=some B):CC h0 g e v vs:=by
 rcases o with o|⟨k,h1,h2,h3⟩
 ·exact .inl o
 ·exact .inr ⟨k,h1,h2,hg _ _ h3 ⟨_,_,rfl⟩⟩
theorem qt{h0 h:aa}{k:Nat}{l m:List UInt8}(w0:Wf h0)(ok:Ok h0 h)(b:Bd h0 h k l)(hl:l.length+m.length<=1000000):
  FW SS 186 [self k,strOf m] h (λv h'=>v = .tuple ⟨[.int .i64 (m.length:Int),.nilIface]⟩/\Ok h0 h'/\Bd h0 h' k (l++m)):=by
 obtain⟨a,v,hk,ha,o,hn⟩:=b;refine Fx ⟨k,0,none⟩ m h _ ((ym hk ha).mono ?_);rintro _ g ⟨rfl,hg,hj,hx⟩;have okg:Ok h0 g:=by
  refine⟨λj B h1=>?_,λj B h1=>?_,by rw[hx];exact ok.nx⟩
  ·rw[hx];by_cases e:j=k
   ·rw[e];exact ok.wf _ _ hk
   ·rw[hj j e]at h1;exact ok.wf _ _ h1
  ·have:=w0 _ _ h1;rw[hj j (by omega)];exact ok.ext _ _ h1
 have og:CC h0 g 5 v (l.map tg):=zc o λj B h1 h2=>by
  obtain⟨cs,wr,rfl⟩:=h2;by_cases e:j=k
  ·subst e;rw[hk]at h1;injection h1 with h1;injection h1;omega
  ·rw[hj j e];exact h1
 have hv:∃a n c,v = .slice a n c:=by
  rcases og with⟨rfl,_⟩|⟨_,rfl,_⟩<;>exact⟨_,_,_,rfl⟩
 obtain⟨a4,n5,c6,rfl⟩:=hv;obtain⟨b7,n8,c9,Kl,e1,o2,ok2,dQ⟩:=og.Sg Fb Uc Ta Uf w0 okg (Pa g m) (Et m) (by rw[S9,lM,lM];omega) (by rw[lM,lM];omega);have hk2:(Kl.app g).get k=some (.cells [self k,.slice a4 n5 c6] 192 0 true):=dQ k _ hg (by
  intro o n c e;rcases og with⟨e2,_⟩|⟨k2,e2,_,e3⟩
  ·rw[e2]at e;cases e
  ·rw[e2]at e;injection e with e
   injection e with e
   injection e with e
   subst e;rw[hg]at e3;injection e3 with e3;injection e3;omega)
 refine⟨rfl,_,K9 k,_,_,_,Py hg,b7,n8,c9,Kl,e1,_,K9 k,_,To hk2 ?_ ?_,rfl,?_,?_⟩
 ·rcases o2 with⟨e2,_⟩|⟨k2,e2,_,e3⟩<;>rw[e2]<;>rfl
 ·rfl
 ·exact ok2.set _ hn (ok2.wf _ _ hk2) w0
 ·refine⟨self k,.slice b7 n8 c9,?_,.inr rfl,?_,hn⟩
  ·show((Kl.app g).set k _).get k=_;rw[aa.aR,if_pos rfl]
  ·rw[map_append];refine zc o2 λj B h1 h2=>?_;obtain⟨cs,wr,rfl⟩:=h2;show((Kl.app g).set k _).get j=_;rw[aa.aR,if_neg]
   ·exact h1
   intro e;subst e;rw[hk2]at h1;injection h1 with h1;injection h1;omega
theorem Rt{ρ:Operand->Value}{o:Oper}{x:Operand}{ts:Array TypeId}(ho:o.op = .call ⟨.builtin .unsafeSliceData,#[x],ts⟩){h:aa}{a:Addr}{n c:Nat}(hx:ρ x = .slice (some a) n c)(hc:0<aX c):aP SS.P eJ ρ o h=some (.pointer (some a),.no):=by
 obtain⟨dst,op,ty,pos,after,guard⟩:=o;subst ho;show(match [x].map ρ with
  |[.slice none _ _]=>some (Value.pointer none,cL.no)
  |[.slice (some a) _ c]=>if 0<aX c then some (Value.pointer (some a),cL.no)else none
  |_=>none)=_
 rw[List.map_cons,List.map_nil,hx];show(if 0<aX c then some (Value.pointer (some a),cL.no)else none)=_;rw[if_pos hc]
theorem RL:SS.P.underlying 208=some (.pointer 5):=by kernel_rfl
theorem Me{ρ:Operand->Value}{o:Oper}{x y:Operand}{t2:TypeId}(ho:o.op = .call ⟨.builtin .unsafeString,#[x,y],#[208,t2]⟩){h:aa}{k:Nat}{l:List UInt8}(hx:ρ x = .pointer (some ⟨k,0,none⟩))(hy:ρ y = .int .i64 (l.length:Int))(hk:h.get k=some (.cells (l.map tg) 5 1 true))(h0:l≠[])(h1:l.length<9223372036854775807):aP SS.P eJ ρ o h=some (strOf l,.set k (.cells (l.map tg) 5 1 false)):=by
 obtain⟨dst,op,ty,pos,after,guard⟩:=o;subst ho;show(match [x,y].map ρ,(#[208,t2]:Array TypeId)[0]? with
  |[.pointer none,.int _ 0],some _=>some (strOf [],cL.no)
  | [.pointer (some ⟨k,i,none⟩),.int _ n],some pt=>(match h.get k,SS.P.underlying pt with
   | some (.cells cs e 1 true),some (.pointer e')=>
    if e=e'/\aw SS.P e=some 1/\0<n/\n<9223372036854775807/\((cs.drop i).take n.toNat).length=n.toNat then
     (match bytesOf ((cs.drop i).take n.toNat)with
     |some l=>some (strOf l,cL.set k (.cells cs e 1 false))
     |none=>none)
    else none
   |_,_=>none)
  |_,_=>none)=_
 rw[List.map_cons,List.map_cons,List.map_nil,hx,hy];show(match h.get k,SS.P.underlying 208 with
   | some (.cells cs e 1 true),some (.pointer e')=>
    if e=e'/\aw SS.P e=some 1/\0<(l.length:Int)/\(l.length:Int)<9223372036854775807/\((cs.drop 0).take (l.length:Int).toNat).length=(l.length:Int).toNat then
     (match bytesOf ((cs.drop 0).take (l.length:Int).toNat)with
     |some l=>some (strOf l,cL.set k (.cells cs e 1 false))
     |none=>none)
    else none
   |_,_=>none)=_
 rw[hk,RL];have hp:=List.length_pos_iff.2 h0;show(if 5=5/\aw SS.P 5=some 1/\0<(l.length:Int)/\(l.length:Int)<9223372036854775807/\(((l.map tg).drop 0).take (l.length:Int).toNat).length=(l.length:Int).toNat then
     (match bytesOf (((l.map tg).drop 0).take (l.length:Int).toNat)with
     |some l'=>some (strOf l',cL.set k (.cells (l.map tg) 5 1 false))
     |none=>none)
    else none)=_
 rw[toNat_natCast,drop_zero,take_of_length_le (by simp),if_pos ⟨rfl,R9,by omega,by omega,by simp⟩,mw]
theorem CM{h0 h:aa}{k:Nat}{l:List UInt8}(w0:Wf h0)(ok:Ok h0 h)(b:Bd h0 h k l)(hne:l≠[])(hl:l.length<=1000000):
  FW SS 188 [self k] h (λv h'=>v=strOf l/\Ok h0 h'):=by
 obtain⟨a,v,hk,ha,o,hn⟩:=b;rcases o with⟨_,h1⟩|⟨k2,rfl,h2,h3⟩
 ·exact absurd (List.map_eq_nil_iff.1 h1) hne
 have hk':(room h 12).get k=_:=hk;have hp:=List.length_pos_iff.2 hne;have hc:aX (bR+(l.map tg).length)=l.length:=by unfold aX;rw[if_pos (by omega),lM];omega
 rw[lM]at*;refine CL ⟨k,0,none⟩ h _ ⟨_,K9 k,_,_,_,Py hk',_,_,Rt (x:= .tmp 6) (ts:= #[159]) (a:=⟨k2,0,none⟩) (n:=l.length) (c:=bR+l.length) (by kernel_rfl) (by kernel_rfl) (by rw[hc];exact hp),_,K9 k,_,_,_,Py hk',_,_,Me (x:= .tmp 7) (y:= .tmp 12) (k:=k2) (l:=l) (t2:=3) (by kernel_rfl) (by kernel_rfl) (by kernel_rfl) h3 hne (by omega),⟨Py hk',by simp[jB]⟩,⟨rfl,by simp[jB]⟩,rfl,?_⟩;exact(ok.room 12).set _ h2 ((ok.room 12).wf _ _ h3) w0
theorem SY(m:Nat)(h:aa):aQ SS.P SS.gl SS.pr (m+8) 187 [strOf [48],.int .i64 0] h=some (strOf [],h):=by kernel_rfl
theorem SZ(m:Nat)(h:aa):aQ SS.P SS.gl SS.pr (m+8) 187 [strOf [48],.int .i64 1] h=some (strOf [48],h):=by kernel_rfl
theorem S0(m:Nat)(h:aa):aQ SS.P SS.gl SS.pr (m+8) 187 [strOf [48],.int .i64 2] h=some (strOf [48,48],h):=by kernel_rfl
theorem S1(m:Nat)(h:aa):aQ SS.P SS.gl SS.pr (m+8) 187 [strOf [48],.int .i64 3] h=some (strOf [48,48,48],h):=by kernel_rfl
theorem S2(m:Nat)(h:aa):aQ SS.P SS.gl SS.pr (m+8) 187 [strOf [48],.int .i64 4] h=some (strOf [48,48,48,48],h):=by kernel_rfl
theorem S3(m:Nat)(h:aa):aQ SS.P SS.gl SS.pr (m+8) 187 [strOf [48],.int .i64 5] h=some (strOf [48,48,48,48,48],h):=by kernel_rfl
theorem S4(m:Nat)(h:aa):aQ SS.P SS.gl SS.pr (m+8) 187 [strOf [48],.int .i64 6] h=some (strOf [48,48,48,48,48,48],h):=by kernel_rfl
theorem S5(m:Nat)(h:aa):aQ SS.P SS.gl SS.pr (m+8) 187 [strOf [48],.int .i64 7] h=some (strOf [48,48,48,48,48,48,48],h):=by kernel_rfl
theorem S6(m:Nat)(h:aa):aQ SS.P SS.gl SS.pr (m+8) 187 [strOf [48],.int .i64 8] h=some (strOf [48,48,48,48,48,48,48,48],h):=by kernel_rfl
theorem GS{n:Nat}(hn:n<=8)(h:aa):FW SS 187 [strOf [48],.int .i64 (n:Int)] h (λv h'=>v=strOf (List.replicate n 48)/\h'=h):=by
 have key:∀(z:Int)(l:List UInt8),(∀m,aQ SS.P SS.gl SS.pr (m+8) 187 [strOf [48],.int .i64 z] h=some (strOf l,h))->FW SS 187 [strOf [48],.int .i64 z] h (λv h'=>v=strOf l/\h'=h):=λz l hr=>
  ⟨_,_,⟨8,λN hN=>by obtain⟨m,rfl⟩:∃m,N=m+8:=⟨N-8,by omega⟩;exact hr m⟩,rfl,rfl⟩
 have:n=0\/n=1\/n=2\/n=3\/n=4\/n=5\/n=6\/n=7\/n=8:=by omega
 rcases this with rfl|rfl|rfl|rfl|rfl|rfl|rfl|rfl|rfl
 ·exact key 0 _ λm=>SY m h
 ·exact key 1 _ λm=>SZ m h
 ·exact key 2 _ λm=>S0 m h
 ·exact key 3 _ λm=>S1 m h
 ·exact key 4 _ λm=>S2 m h
 ·exact key 5 _ λm=>S3 m h
 ·exact key 6 _ λm=>S4 m h
 ·exact key 7 _ λm=>S5 m h
 ·exact key 8 _ λm=>S6 m h
noncomputable def gW:FD:=fo Tryz.f164 [([1,1,1,0,1,0,0],[0,3,10,11])]
abbrev fP(a:OA)(n c:Nat)(p:Addr)(lim:Int)(i:Nat):LV:=[(.slice a n c),(.pointer (some p)),(.int .i64 lim),(iA i)]
theorem Du(a:OA)(n c:Nat)(h:aa)(Q:VH)(hx:aZ ((((n:Int):Int)==0)) (Q (strOf [48]) h) (xN (bN SS.P 192) h λB1 g2=>LL SS gW [1,1,1,0,1,0,0] [(.slice a n c),(pA (h.next)),(iA n),(.int .i64 0)] g2 (KK SS gW [1,1,1,0,1,0] [] (EE SS gW Q)))):FW SS 164 [(.slice a n c)] h Q:=fy gW Tryz.func164 (az hx)
theorem oK(a:OA)(n c:Nat)(p:Addr)(lim:Int)(Inv:Nat->Nat->aa->Prop)(Q:VH)(step:∀(mz:Nat) (i:Nat) (zz:Nat->Value) (h:aa),Inv mz i h->aZ (decide (((i:Int):Int)<lim)) (xP (af SS.P 150 (.slice a n c) (.int .i64 (wrap .i64 (wrap .i64 ((n:Int)-1)-(i:Int))))) λp3=>xI .u64 (ag SS.P 117 h (.pointer (some p3))) λn4=>FW SS 185 [(.int .u64 n4),(.int .i64 10)] h λv5 h6=>yS v5 λl7=>aZ (decide (((i:Int):Int)>0)) (FW SS 187 [(strOf [48]),(.int .i64 (wrap .i64 (9-((l7:LB).length:Int))))] h6 λv8 h9=>yS v8 λl10=>FW SS 186 [(.pointer (some p)),(strOf l10)] h9 λv11 h12=>∃n13:Int,∃v14:Value,v11=(.tuple ⟨[(.int .i64 n13),v14]⟩)/\FW SS 186 [(.pointer (some p)),(strOf l7)] h12 λv15 h16=>∃n17:Int,∃v18:Value,v15=(.tuple ⟨[(.int .i64 n17),v18]⟩)/\ba (lZ (fP a n c p lim) Inv) mz [(.slice a n c),(.pointer (some p)),(.int .i64 lim),(.int .i64 (wrap .i64 ((i:Int)+1)))] h16) (FW SS 186 [(.pointer (some p)),(strOf l7)] h6 λv19 h20=>∃n21:Int,∃v22:Value,v19=(.tuple ⟨[(.int .i64 n21),v22]⟩)/\ba (lZ (fP a n c p lim) Inv) mz [(.slice a n c),(.pointer (some p)),(.int .i64 lim),(.int .i64 (wrap .i64 ((i:Int)+1)))] h20)) (FW SS 188 [(.pointer (some p))] h λv23 h24=>yS v23 λl25=>Q (strOf l25) h24))(mz:Nat){i:Nat}{h:aa}(hi:Inv mz i h):LL SS gW [1,1,1,0,1,0,0] (fP a n c p lim i) h (KK SS gW [1,1,1,0,1,0] [] (EE SS gW Q)):=
 gH (fP a n c p lim) Inv (λmz i zz h hi=>az (step mz i zz h hi)) mz hi
noncomputable def js:FD:=fo Tryz.f140 [([1,1,1,0,0,0],[6,7])]
abbrev gC  (a:OA) (n c:Nat) (b:OA) (k d:Nat):LV:=[(.slice a n c),(.slice b k d)]
theorem Gu(l m:LB)(h:aa)(Q:VH)(hx:FW SS 136 [(strOf l)] h λv1 h2=>yB v1 λb3=>aZ (!b3) (Q (.tuple ⟨[(strOf []),(.int .i64 1)]⟩) h2) (FW SS 136 [(strOf m)] h2 λv4 h5=>yB v4 λb6=>aZ (!b6) (Q (.tuple ⟨[(strOf []),(.int .i64 1)]⟩) h5) (FW SS 137 [(strOf l)] h5 λv7 h8=>yL v7 λa9 n10 bE=>FW SS 137 [(strOf m)] h8 λv12 h13=>yL v12 λa14 n15 c16=>LL SS js [1,1,1,0,0,0] (gC a9 n10 bE a14 n15 c16) h13 (KK SS js [1,1,1,0,0] [] (EE SS js Q))))):FW SS 140 [(strOf l),(strOf m)] h Q:=fy js Tryz.func140 (az hx)
theorem pO(l m:LB)  (Inv:Nat->OA->Nat->Nat->OA->Nat->Nat->aa->Prop) (Q:VH) (step:∀(mz:Nat)(a:OA)(n c:Nat)(b:OA)(k d:Nat)(zz:Nat->Value)(h:aa),Inv mz a n c b k d h->aZ (decide (((k:Int):Int)>0)) (FW SS 166 [(.slice a n c),(.slice b k d)] h λv17 h18=>∃(a19:OA)(n20 c21:Nat),∃(a22:OA)(n23 c24:Nat),v17=(.tuple ⟨[(.slice a19 n20 c21),(.slice a22 n23 c24)]⟩)/\ba (R2 gC Inv) mz [(.slice b k d),(.slice a22 n23 c24)] h18) (FW SS 164 [(.slice a n c)] h λv25 h26=>yS v25 λl27=>Q (.tuple ⟨[(strOf l27),(.int .i64 0)]⟩) h26)) (mz:Nat) {a:OA} {n c:Nat} {b:OA} {k d:Nat} {h:aa} (hi:Inv mz a n c b k d h):LL SS js [1,1,1,0,0,0] (gC  a n c b k d) h (KK SS js [1,1,1,0,0] [] (EE SS js Q)):=
 Rs gC Inv (λmz a n c b k d zz h hi=>az (step mz a n c b k d zz h hi)) mz hi
noncomputable def PH:bt:= .cells [.pointer none,.slice none 0 0] 192 0 true
theorem PN:bN SS.P 192=some (PH,kj):=by kernel_rfl
theorem PT{h0 h g:aa}{k:Nat}{l:List UInt8}(b:Bd h0 h k l)(o:Ok h g):Bd h0 g k l:=by
 obtain⟨a,v,h1,h2,h3,h4⟩:=b;exact⟨a,v,o.ext _ _ h1,h2,zc h3 λj B hj _=>o.ext _ _ hj,h4⟩
theorem oJ{h:aa}{a:Option Addr}{n c X:Nat}(ra:Rd h 117 (.slice a n c) (bl X))(hlen:(ay BB X).length<=10000)(t:mn h)(w:Wf h):
  FW SS 164 [.slice a n c] h (λv h'=>v=strOf (av X)/\Ok h h'):=by
 have hn:n=(ay BB X).length:=by have:=ra.len;rwa[lM]at this
 refine Du a n c h _ (ae (λg=>?_) (λg=>?_))
 ·have g:(n:Int)=0:=by simpa using g
  have h0:(ay BB X).length=0:=by omega
  have:X=0:=by have:=(ek dK).1 (List.eq_nil_of_length_eq_zero h0);omega
  subst this;refine⟨?_,Ok.refl w⟩;rw[cC (by omega)];rfl
 ·have g:¬(n:Int)=0:=by simpa using g
  have hX:0<X:=by
   rcases Nat.eq_zero_or_pos X with h|h
   ·subst h;rw[(ek dK).2 rfl]at hn;simp at hn;omega
   ·exact h
  have htop:=wo dK hX;have hlt:=bK dK X;have hbv:=bg dK X;have ra:Rd h 117 (.slice a n c) ((ay BB X).map uv):=ra;generalize hx:ay BB X=x at*;have L:=oK a n c ⟨h.next,0,none⟩ (n:Int) (λmz i g=>i<=n/\mz=n-i/\Ok h g/\∃l,Bd h g h.next l/\l.length<=9*i/\(i=0->l=[])/\(0<i->0<Num.bv BB (x.drop (n-i))/\l=av (Num.bv BB (x.drop (n-i))))) (λv h'=>v=strOf (av X)/\Ok h h') (by
   intro mz i;intros;rename_i g hi;obtain⟨h1,rfl,ok,l,bd,hll,hz,hp⟩:=hi;refine ae (λh2=>?_) (λh2=>?_)
   ·have h2:=dT h2;have e1:wrap .i64 (wrap .i64 ((n:Int)-1)-(i:Int))=((n-1-i:Nat):Int):=by
     rw[aB (n:=(n:Int)-1) (by omega) (by omega),aB (by omega) (by omega)];omega
    obtain⟨p,e2,e3⟩:=wz (ra.ok ok) (i:=((n-1-i:Nat):Int)) (by omega) (by rw[<-hn];omega);rw[e1];rw[toNat_natCast]at e3;have hb:x.getD (n-1-i) 0<BB:=aS (by decide) hlt _;have hstep:Num.bv BB (x.drop (n-1-i))=x.getD (n-1-i) 0+BB*Num.bv BB (x.drop (n-i)):=by
     rw[dz,show n-1-i+1=n-i by omega]
    have e5:wrap .i64 ((i:Int)+1)=((i+1:Nat):Int):=by rw[aB (by omega) (by omega)];omega
    rw[e5];have htop':i=0->0<x.getD (n-1-i) 0:=λe=>by subst e;rw[hn];exact htop
    generalize x.getD (n-1-i) 0=b at*;have hb':b<1000000000:=hb;have hb9:=vC hb';refine⟨p,e2,_,e3,(Da hb' (t.ok ok) ok.wf).mono ?_⟩;rintro _ h5 ⟨rfl,ok5⟩;have bd5:=PT bd ok5;have ok5:=ok.trans ok5;refine⟨_,rfl,ae (λh6=>?_) (λh6=>?_)⟩
    ·have h6:=dT h6;obtain⟨p1,p2⟩:=hp (by omega);have e4:wrap .i64 (9-((av b).length:Int))=((9-(av b).length:Nat):Int):=by rw[aB (by omega) (by omega)];omega
     rw[e4];have hpos:=lP b;refine(GS (by omega) h5).mono ?_;rintro _ h8 ⟨rfl,rfl⟩;refine⟨_,rfl,(qt w ok5 bd5 (by rw[length_replicate];omega)).mono ?_⟩;rintro _ h11 ⟨rfl,ok11,bd11⟩;refine⟨_,_,rfl,(qt w ok11 bd11 (by rw[length_append,length_replicate];omega)).mono ?_⟩;rintro _ h15 ⟨rfl,ok15,bd15⟩;refine⟨_,_,rfl,eH (n-(i+1)) (by omega) ⟨by omega,rfl,ok15,_,bd15,?_,λh=>by omega,λ_=>?_⟩⟩
     ·rw[length_append,length_append,length_replicate];omega
     ·rw[show n-(i+1)=n-1-i by omega,hstep];refine⟨Nat.add_pos_right _ (mul_pos (by decide) p1),?_⟩;have:=vB p1 hb';rw[p2];exact this.symm
    ·have h6:=dF h6;obtain rfl:i=0:=by omega
     obtain rfl:=hz rfl;refine(qt w ok5 bd5 (by rw[length_nil];omega)).mono ?_;rintro _ h15 ⟨rfl,ok15,bd15⟩;refine⟨_,_,rfl,eH (n-1) (by omega) ⟨by omega,rfl,ok15,_,bd15,?_,λh=>by omega,λ_=>?_⟩⟩
     ·rw[nil_append];omega
     ·have hb0:Num.bv BB (x.drop n)=0:=by rw[List.drop_of_length_le (by omega)];rfl
      rw[show n-1-0=n-1 by omega,show n-0=n by omega,hb0,Nat.mul_zero,Nat.add_zero]at hstep;rw[zero_add,hstep,nil_append];refine⟨?_,rfl⟩;exact htop' rfl
   ·have h2:=dF h2;obtain rfl:i=n:=by omega
    obtain⟨p1,p2⟩:=hp (by omega);rw[Nat.sub_self,drop_zero,hbv]at p2;subst p2;refine(CM w ok bd (om X) (by omega)).mono ?_;rintro _ h15 ⟨rfl,ok15⟩;exact⟨_,rfl,rfl,ok15⟩)
  have ok1:=(Ok.refl w).push PH;refine⟨_,PN,L n (i:=0) ⟨by omega,rfl,ok1,[],⟨_,_,?_,.inl rfl,.inl ⟨rfl,rfl⟩,Nat.le_refl _⟩,by simp,λ_=>rfl,λh=>by omega⟩⟩;rw[aa.aM,if_pos rfl];rfl
theorem Ob{k m:Nat}(h:k<=9*m):10^k<=BB^m:=by
 show 10^k<=(10^9)^m;rw[<-Nat.pow_mul];exact pow_le_pow_right (by decide) h
theorem jZ{X:Nat}(h:X<10^1000):(ay BB X).length<=112:=by
 refine gj dK (lt_of_lt_of_le h (Ob (k:=1000) (m:=112) (by decide)))
def yD(h:aa)(X Y:Nat)(mz:Nat)(a:Option Addr)(n c:Nat)(b:Option Addr)(k d:Nat)(g:aa):Prop:=∃p:Nat,Rd g 117 (.slice a n c) (bl p)/\Rd g 117 (.slice b k d) (bl mz)/\(ay BB p).length<=112/\(ay BB mz).length<=112/\Nat.gcd p mz=Nat.gcd X Y/\Ok h g
theorem Iv{h g:aa}{X Y mz:Nat}{a:Option Addr}{n c:Nat}{b:Option Addr}{k d:Nat}(t:mn h)(hi:yD h X Y mz a n c b k d g){K:Nat->Option Addr->Nat->Nat->Option Addr->Nat->Nat->aa->Prop}{Q:VH}
  (hK:∀(a1:Option Addr)(n1 c1:Nat)(a2:Option Addr)(n2 c2 m2:Nat)(g:aa),m2<mz->yD h X Y m2 b k d a2 n2 c2 g->K m2 a1 n1 c1 a2 n2 c2 g):
  (0<k->FW SS 166 [.slice a n c,.slice b k d] g (λv h'=>∃(a1:Option Addr)(n1 c1:Nat)(a2:Option Addr)(n2 c2 m2:Nat),v = .tuple ⟨[.slice a1 n1 c1,.slice a2 n2 c2]⟩/\K m2 a1 n1 c1 a2 n2 c2 h'))/\
  (k=0->FW SS 164 [.slice a n c] g (λv h'=>v=strOf (av (Nat.gcd X Y))/\Ok h h')):=by
 obtain⟨p,rp,rq,lp,lq,hg,ok⟩:=hi;have hk:k=(ay BB mz).length:=by have:=rq.len;rwa[lM]at this
 constructor
 ·intro h2;have hq0:0<mz:=by
   rcases Nat.eq_zero_or_pos mz with e|e
   ·subst e;rw[(ek dK).2 rfl]at hk;simp at hk;omega
   ·exact e
  refine(yX rp rq hq0 (Nat.le_trans lp (by omega)) (Nat.le_trans lq (by omega)) ok.wf).mono ?_;rintro _ h3 ⟨a1,n1,c1,a2,n2,c2,rfl,r1,r2,ok3⟩;refine⟨a1,n1,c1,a2,n2,c2,p%mz,rfl,hK a1 n1 c1 a2 n2 c2 (p%mz) h3 (mod_lt _ hq0) ⟨mz,rq.ok ok3,r2,lq,?_,?_,ok.trans ok3⟩⟩
  ·exact Nat.le_trans (Nat.le_of_not_lt λh=>by have h1:=gk dK h;have h2:=mod_lt p hq0;exact absurd h1 (Nat.not_lt.2 (le_of_lt h2))) lq
  ·rw[<-hg,Nat.gcd_comm mz,<-Nat.gcd_rec,Nat.gcd_comm]
 ·intro h2;have hq0:mz=0:=(ek dK).1 (List.eq_nil_of_length_eq_zero (by rw[<-hk,h2]));subst hq0;rw[Nat.gcd_zero_right]at hg;subst hg;refine(oJ rp (Nat.le_trans lp (by omega)) (t.ok ok) ok.wf).mono ?_;rintro _ h4 ⟨rfl,ok4⟩;exact⟨rfl,ok.trans ok4⟩
theorem Gv(a b:List UInt8){h:aa}(t:mn h)(w:Wf h):FW SS 140 [strOf a,strOf b] h (λv h'=>v=Dd a b/\Ok h h'):=by
 refine Gu a b h _ ((cM a h).mono ?_);rintro _ g0 ⟨rfl,e0⟩;obtain rfl:h=g0:=e0.symm;refine⟨_,rfl,ae (λg=>?_) (λg=>?_)⟩
 ·have g:aC a=false:=by simpa using g
  refine⟨?_,Ok.refl w⟩;unfold Dd;rw[if_neg (λe=>by rw[e.1]at g;cases g)];rfl
 have g:aC a=true:=by simpa using g
 refine(cM b h).mono ?_;rintro _ g0 ⟨rfl,e0⟩;obtain rfl:h=g0:=e0.symm;refine⟨_,rfl,ae (λg2=>?_) (λg2=>?_)⟩
 ·have g2:aC b=false:=by simpa using g2
  refine⟨?_,Ok.refl w⟩;unfold Dd;rw[if_neg (λe=>by rw[e.2]at g2;cases g2)];rfl
 have g2:aC b=true:=by simpa using g2
 obtain⟨X,ea,hX,eX⟩:=jk g;obtain⟨Y,eb,hY,eY⟩:=jk g2;have da:=(iw.1 g)
 have db:=(iw.1 g2)
 have lX:=jZ hX;have lY:=jZ hY;clear hX hY;refine(kZ a da.1.2.1 (Nat.le_trans da.2 (by omega)) h w).mono ?_;rintro _ h1 ⟨a1,n1,c1,rfl,o1,ok1⟩;refine⟨_,_,_,rfl,(kZ b db.1.2.1 (Nat.le_trans db.2 (by omega)) h1 ok1.wf).mono ?_⟩;rintro _ h2 ⟨a2,n2,c2,rfl,o2,ok2⟩;refine⟨_,_,_,rfl,?_⟩;have hS:Dd a b=xK (av (Nat.gcd X Y)) 0:=by unfold Dd;rw[if_pos ⟨g,g2⟩,eX,eY]
 rw[hS];rw[eX]at o1;rw[eY]at o2;refine pO a b (yD h X Y) (λv h'=>v=xK (av (Nat.gcd X Y)) 0/\Ok h h') (λmz a n c b k d=>?_) Y ⟨X,o1.rd.ok ok2,o2.rd,lX,lY,rfl,ok1.trans ok2⟩;intros;rename_i g hi;have S:=Iv t hi (K:=λm2 a1 n1 c1 a2 n2 c2 g=>m2<mz/\yD h X Y m2 b k d a2 n2 c2 g) (λa1 n1 c1 a2 n2 c2 m2 g h1 h2=>⟨h1,h2⟩) (Q:=λ_ _=>True);refine ae (λh2=>?_) (λh2=>?_)
 ·have h2:=dT h2;refine(S.1 (by omega)).mono ?_;rintro _ h3 ⟨a1,n1,c1,a2,n2,c2,m2,rfl,i1,i2⟩;exact⟨_,_,_,_,_,_,rfl,Qt m2 i1 i2⟩
 ·have h2:=dF h2;refine(S.2 (by omega)).mono ?_;rintro _ h4 ⟨rfl,ok4⟩;exact⟨_,rfl,rfl,ok4⟩
noncomputable def LU:FD:=fo Tryz.f183 []
theorem Jf(x y z:Int)(h:aa)(Q:VH)(hx:xI .u64 (aq SS.P .rem 117 (.int .u64 (wrap .u64 (wrap .u64 (x+y)+z))) (.int .u64 1000000000)) λn1=>xI .u64 (aq SS.P .quo 117 (.int .u64 (wrap .u64 (wrap .u64 (x+y)+z))) (.int .u64 1000000000)) λn2=>Q (.tuple ⟨[(.int .u64 n1),(.int .u64 n2)]⟩) h):FW SS 183 [(.int .u64 x),(.int .u64 y),(.int .u64 z)] h Q:=fy LU Tryz.func183 (az hx)
noncomputable def IW:FD:=fo Tryz.f189 []
theorem Gj(x y z:Int)(h:aa)(Q:VH)(hx:xI .u64 (aq SS.P .rem 117 (.int .u64 (wrap .u64 (wrap .u64 (wrap .u64 (x+1000000000)-y)-z))) (.int .u64 1000000000)) λn1=>xI .u64 (aq SS.P .quo 117 (.int .u64 (wrap .u64 (wrap .u64 (wrap .u64 (x+1000000000)-y)-z))) (.int .u64 1000000000)) λn2=>Q (.tuple ⟨[(.int .u64 n1),(.int .u64 (wrap .u64 (1-n2)))]⟩) h):FW SS 189 [(.int .u64 x),(.int .u64 y),(.int .u64 z)] h Q:=fy IW Tryz.func189 (az hx)
noncomputable def fV:FD:=fo Tryz.f182 [([1,1,1,0,1,0,0],[0,1,2,7,8,18,19])]
abbrev cP(a:OA)(n c:Nat)(b:OA)(m d:Nat)(lim:Int)(i:Nat)(cy:Int)(r:OA)(rn rc:Nat):LV:=[(.slice a n c),(.slice b m d),(.func (.func 183) ⟨[]⟩ ⟨[]⟩),(.slice r rn rc),(.int .u64 cy),(.int .i64 lim),(iA i)]
theorem Av(a:OA)(n c:Nat)(b:OA)(m d:Nat)(h:aa)(Q:VH)(hx:xI .i64 (mc true [(iA n),(iA m)]) λn1=>LL SS fV [1,1,1,0,1,0,0] (cP a n c b m d (wrap .i64 (n1+1)) 0 0 none 0 0) h (KK SS fV [1,1,1,0,1,0] [] (EE SS fV Q))):FW SS 182 [(.slice a n c),(.slice b m d),(.func (.func 183) ⟨[]⟩ ⟨[]⟩)] h Q:=fy fV Tryz.func182 (az hx)
theorem nz(a:OA)(n c:Nat)(b:OA)(m d:Nat)(lim:Int)(Inv:Nat->Nat->Int->OA->Nat->Nat->aa->Prop)(Q:VH)(step:∀(mz:Nat) (i:Nat) (cy:Int) (r:OA) (rn rc:Nat) (zz:Nat->Value) (h:aa),Inv mz i cy r rn rc h->aZ (decide (((i:Int):Int)<lim)) (aZ (decide (((i:Int):Int)<(n:Int))) (xP (af SS.P 150 (.slice a n c) (iA i)) λp2=>xI .u64 (ag SS.P 117 h (.pointer (some p2))) λn3=>aZ (decide (((i:Int):Int)<(m:Int))) (xP (af SS.P 150 (.slice b m d) (iA i)) λp4=>xI .u64 (ag SS.P 117 h (.pointer (some p4))) λn5=>FW SS 183 [(.int .u64 n3),(.int .u64 n5),(.int .u64 cy)] h λv6 h7=>∃n8:Int,∃n9:Int,v6=(.tuple ⟨[(.int .u64 n8),(.int .u64 n9)]⟩)/\xR (aL SS.P 150 1 [(0,(.int .u64 n8))]) h7 λB10 n11 bO zH=>xE (aY SS.P 150 150 (.slice r rn rc) (sA (h7.next) n11 bO) zH) zH λa14 n15 c16 u17 g18=>ba (Cr (cP a n c b m d lim) Inv) mz [(.slice a n c),(.slice b m d),(.func (.func 183) ⟨[]⟩ ⟨[]⟩),(.slice a14 n15 c16),(.int .u64 n9),(.int .i64 lim),(.int .i64 (wrap .i64 ((i:Int)+1)))] g18) (FW SS 183 [(.int .u64 n3),(.int .u64 0),(.int .u64 cy)] h λv19 h20=>∃n21:Int,∃n22:Int,v19=(.tuple ⟨[(.int .u64 n21),(.int .u64 n22)]⟩)/\xR (aL SS.P 150 1 [(0,(.int .u64 n21))]) h20 λB23 n24 c25 g26=>xE (aY SS.P 150 150 (.slice r rn rc) (sA (h20.next) n24 c25) g26) g26 λa27 n28 c29 u30 g31=>ba (Cr (cP a n c b m d lim) Inv) mz [(.slice a n c),(.slice b m d),(.func (.func 183) ⟨[]⟩ ⟨[]⟩),(.slice a27 n28 c29),(.int .u64 n22),(.int .i64 lim),(.int .i64 (wrap .i64 ((i:Int)+1)))] g31)) (aZ (decide (((i:Int):Int)<(m:Int))) (xP (af SS.P 150 (.slice b m d) (iA i)) λp32=>xI .u64 (ag SS.P 117 h (.pointer (some p32))) λn33=>FW SS 183 [(.int .u64 0),(.int .u64 n33),(.int .u64 cy)] h λv34 h35=>∃n36:Int,∃n37:Int,v34=(.tuple ⟨[(.int .u64 n36),(.int .u64 n37)]⟩)/\xR (aL SS.P 150 1 [(0,(.int .u64 n36))]) h35 λEk n39 c40 g41=>xE (aY SS.P 150 150 (.slice r rn rc) (sA (h35.next) n39 c40) g41) g41 λa42 n43 c44 u45 g46=>ba (Cr (cP a n c b m d lim) Inv) mz [(.slice a n c),(.slice b m d),(.func (.func 183) ⟨[]⟩ ⟨[]⟩),(.slice a42 n43 c44),(.int .u64 n37),(.int .i64 lim),(.int .i64 (wrap .i64 ((i:Int)+1)))] g46) (FW SS 183 [(.int .u64 0),(.int .u64 0),(.int .u64 cy)] h λv47 h48=>∃n49:Int,∃n50:Int,v47=(.tuple ⟨[(.int .u64 n49),(.int .u64 n50)]⟩)/\xR (aL SS.P 150 1 [(0,(.int .u64 n49))]) h48 λB51 n52 c53 g54=>xE (aY SS.P 150 150 (.slice r rn rc) (sA (h48.next) n52 c53) g54) g54 λa55 n56 c57 u58 g59=>ba (Cr (cP a n c b m d lim) Inv) mz [(.slice a n c),(.slice b m d),(.func (.func 183) ⟨[]⟩ ⟨[]⟩),(.slice a55 n56 c57),(.int .u64 n50),(.int .i64 lim),(.int .i64 (wrap .i64 ((i:Int)+1)))] g59))) (FW SS 139 [(.slice r rn rc)] h λv60 h61=>yL v60 λa62 n63 c64=>Q (.slice a62 n63 c64) h61))(mz:Nat){i:Nat}{cy:Int}{r:OA}{rn rc:Nat}{h:aa}(hi:Inv mz i cy r rn rc h):LL SS fV [1,1,1,0,1,0,0] (cP a n c b m d lim i cy r rn rc) h (KK SS fV [1,1,1,0,1,0] [] (EE SS fV Q)):=
 JA (cP a n c b m d lim) Inv (λmz i cy r rn rc zz h hi=>az (step mz i cy r rn rc zz h hi)) mz hi
noncomputable def fg:FD:=fo Tryz.f182 [([1,1,1,0,1,0,0],[0,1,2,7,8,18,19])]
abbrev cE(a:OA)(n c:Nat)(b:OA)(m d:Nat)(lim:Int)(i:Nat)(cy:Int)(r:OA)(rn rc:Nat):LV:=[(.slice a n c),(.slice b m d),(.func (.func 189) ⟨[]⟩ ⟨[]⟩),(.slice r rn rc),(.int .u64 cy),(.int .i64 lim),(iA i)]
theorem yu(a:OA)(n c:Nat)(b:OA)(m d:Nat)(h:aa)(Q:VH)(hx:xI .i64 (mc true [(iA n),(iA m)]) λn1=>LL SS fg [1,1,1,0,1,0,0] (cE a n c b m d (wrap .i64 (n1+1)) 0 0 none 0 0) h (KK SS fg [1,1,1,0,1,0] [] (EE SS fg Q))):FW SS 182 [(.slice a n c),(.slice b m d),(.func (.func 189) ⟨[]⟩ ⟨[]⟩)] h Q:=fy fg Tryz.func182 (az hx)
theorem mB(a:OA)(n c:Nat)(b:OA)(m d:Nat)(lim:Int)(Inv:Nat->Nat->Int->OA->Nat->Nat->aa->Prop)(Q:VH)(step:∀(mz:Nat) (i:Nat) (cy:Int) (r:OA) (rn rc:Nat) (zz:Nat->Value) (h:aa),Inv mz i cy r rn rc h->aZ (decide (((i:Int):Int)<lim)) (aZ (decide (((i:Int):Int)<(n:Int))) (xP (af SS.P 150 (.slice a n c) (iA i)) λp2=>xI .u64 (ag SS.P 117 h (.pointer (some p2))) λn3=>aZ (decide (((i:Int):Int)<(m:Int))) (xP (af SS.P 150 (.slice b m d) (iA i)) λp4=>xI .u64 (ag SS.P 117 h (.pointer (some p4))) λn5=>FW SS 189 [(.int .u64 n3),(.int .u64 n5),(.int .u64 cy)] h λv6 h7=>∃n8:Int,∃n9:Int,v6=(.tuple ⟨[(.int .u64 n8),(.int .u64 n9)]⟩)/\xR (aL SS.P 150 1 [(0,(.int .u64 n8))]) h7 λB10 n11 bO zH=>xE (aY SS.P 150 150 (.slice r rn rc) (sA (h7.next) n11 bO) zH) zH λa14 n15 c16 u17 g18=>ba (Cr (cE a n c b m d lim) Inv) mz [(.slice a n c),(.slice b m d),(.func (.func 189) ⟨[]⟩ ⟨[]⟩),(.slice a14 n15 c16),(.int .u64 n9),(.int .i64 lim),(.int .i64 (wrap .i64 ((i:Int)+1)))] g18) (FW SS 189 [(.int .u64 n3),(.int .u64 0),(.int .u64 cy)] h λv19 h20=>∃n21:Int,∃n22:Int,v19=(.tuple ⟨[(.int .u64 n21),(.int .u64 n22)]⟩)/\xR (aL SS.P 150 1 [(0,(.int .u64 n21))]) h20 λB23 n24 c25 g26=>xE (aY SS.P 150 150 (.slice r rn rc) (sA (h20.next) n24 c25) g26) g26 λa27 n28 c29 u30 g31=>ba (Cr (cE a n c b m d lim) Inv) mz [(.slice a n c),(.slice b m d),(.func (.func 189) ⟨[]⟩ ⟨[]⟩),(.slice a27 n28 c29),(.int .u64 n22),(.int .i64 lim),(.int .i64 (wrap .i64 ((i:Int)+1)))] g31)) (aZ (decide (((i:Int):Int)<(m:Int))) (xP (af SS.P 150 (.slice b m d) (iA i)) λp32=>xI .u64 (ag SS.P 117 h (.pointer (some p32))) λn33=>FW SS 189 [(.int .u64 0),(.int .u64 n33),(.int .u64 cy)] h λv34 h35=>∃n36:Int,∃n37:Int,v34=(.tuple ⟨[(.int .u64 n36),(.int .u64 n37)]⟩)/\xR (aL SS.P 150 1 [(0,(.int .u64 n36))]) h35 λEk n39 c40 g41=>xE (aY SS.P 150 150 (.slice r rn rc) (sA (h35.next) n39 c40) g41) g41 λa42 n43 c44 u45 g46=>ba (Cr (cE a n c b m d lim) Inv) mz [(.slice a n c),(.slice b m d),(.func (.func 189) ⟨[]⟩ ⟨[]⟩),(.slice a42 n43 c44),(.int .u64 n37),(.int .i64 lim),(.int .i64 (wrap .i64 ((i:Int)+1)))] g46) (FW SS 189 [(.int .u64 0),(.int .u64 0),(.int .u64 cy)] h λv47 h48=>∃n49:Int,∃n50:Int,v47=(.tuple ⟨[(.int .u64 n49),(.int .u64 n50)]⟩)/\xR (aL SS.P 150 1 [(0,(.int .u64 n49))]) h48 λB51 n52 c53 g54=>xE (aY SS.P 150 150 (.slice r rn rc) (sA (h48.next) n52 c53) g54) g54 λa55 n56 c57 u58 g59=>ba (Cr (cE a n c b m d lim) Inv) mz [(.slice a n c),(.slice b m d),(.func (.func 189) ⟨[]⟩ ⟨[]⟩),(.slice a55 n56 c57),(.int .u64 n50),(.int .i64 lim),(.int .i64 (wrap .i64 ((i:Int)+1)))] g59))) (FW SS 139 [(.slice r rn rc)] h λv60 h61=>yL v60 λa62 n63 c64=>Q (.slice a62 n63 c64) h61))(mz:Nat){i:Nat}{cy:Int}{r:OA}{rn rc:Nat}{h:aa}(hi:Inv mz i cy r rn rc h):LL SS fg [1,1,1,0,1,0,0] (cE a n c b m d lim i cy r rn rc) h (KK SS fg [1,1,1,0,1,0] [] (EE SS fg Q)):=
 JA (cE a n c b m d lim) Inv (λmz i cy r rn rc zz h hi=>az (step mz i cy r rn rc zz h hi)) mz hi
noncomputable def Gx:FD:=fo Tryz.f162 []
theorem Dr(a:OA)(n c:Nat)(b:OA)(m d:Nat)(h:aa)(Q:VH)(hx:FW SS 182 [(.slice a n c),(.slice b m d),(.func (.func 183) ⟨[]⟩ ⟨[]⟩)] h λv1 h2=>yL v1 λa3 n4 c5=>Q (.slice a3 n4 c5) h2):FW SS 162 [(.slice a n c),(.slice b m d)] h Q:=fy Gx Tryz.func162 (az hx)
noncomputable def Dq:FD:=fo Tryz.f165 []
theorem Bj(a:OA)(n c:Nat)(b:OA)(m d:Nat)(h:aa)(Q:VH)(hx:FW SS 182 [(.slice a n c),(.slice b m d),(.func (.func 189) ⟨[]⟩ ⟨[]⟩)] h λv1 h2=>yL v1 λa3 n4 c5=>Q (.slice a3 n4 c5) h2):FW SS 165 [(.slice a n c),(.slice b m d)] h Q:=fy Dq Tryz.func165 (az hx)
noncomputable def yY:FD:=fo Tryz.f138 []
theorem vW(a:OA)(n c:Nat)(h:aa)(Q:VH)(hx:FW SS 164 [(.slice a n c)] h λv1 h2=>yS v1 λl3=>aZ (decide ((((l3:LB).length:Int):Int)>1000)) (Q (.tuple ⟨[(strOf []),(.int .i64 2)]⟩) h2) (Q (.tuple ⟨[(strOf l3),(.int .i64 0)]⟩) h2)):FW SS 138 [(.slice a n c)] h Q:=fy yY Tryz.func138 (az hx)
noncomputable def I3:FD:=fo Tryz.f134 []
theorem Gs(l m:LB)(h:aa)(Q:VH)(hx:FW SS 136 [(strOf l)] h λv1 h2=>yB v1 λb3=>aZ (!b3) (Q (.int .i64 0) h2) (FW SS 136 [(strOf m)] h2 λv4 h5=>yB v4 λb6=>aZ (!b6) (Q (.int .i64 0) h5) (FW SS 137 [(strOf l)] h5 λv7 h8=>yL v7 λa9 n10 bE=>FW SS 137 [(strOf m)] h8 λv12 h13=>yL v12 λa14 n15 c16=>FW SS 163 [(.slice a9 n10 bE),(.slice a14 n15 c16)] h13 λv17 h18=>yI .i64 v17 λn19=>Q (.int .i64 n19) h18))):FW SS 134 [(strOf l),(strOf m)] h Q:=fy I3 Tryz.func134 (az hx)
noncomputable def I2:FD:=fo Tryz.f133 []
theorem Gq(l m:LB)(h:aa)(Q:VH)(hx:FW SS 136 [(strOf l)] h λv1 h2=>yB v1 λb3=>aZ (!b3) (Q (.tuple ⟨[(strOf []),(.int .i64 1)]⟩) h2) (FW SS 136 [(strOf m)] h2 λv4 h5=>yB v4 λb6=>aZ (!b6) (Q (.tuple ⟨[(strOf []),(.int .i64 1)]⟩) h5) (FW SS 137 [(strOf l)] h5 λv7 h8=>yL v7 λa9 n10 bE=>FW SS 137 [(strOf m)] h8 λv12 h13=>yL v12 λa14 n15 c16=>FW SS 162 [(.slice a9 n10 bE),(.slice a14 n15 c16)] h13 λv17 h18=>yL v17 λa19 n20 c21=>FW SS 138 [(.slice a19 n20 c21)] h18 λv22 h23=>∃l24:LB,∃n25:Int,v22=(.tuple ⟨[(strOf l24),(.int .i64 n25)]⟩)/\Q (.tuple ⟨[(strOf l24),(.int .i64 n25)]⟩) h23))):FW SS 133 [(strOf l),(strOf m)] h Q:=fy I2 Tryz.func133 (az hx)
noncomputable def I4:FD:=fo Tryz.f135 []
theorem Gy(l m:LB)(h:aa)(Q:VH)(hx:FW SS 136 [(strOf l)] h λv1 h2=>yB v1 λb3=>aZ (!b3) (Q (.tuple ⟨[(strOf []),(.int .i64 1)]⟩) h2) (FW SS 136 [(strOf m)] h2 λv4 h5=>yB v4 λb6=>aZ (!b6) (Q (.tuple ⟨[(strOf []),(.int .i64 1)]⟩) h5) (FW SS 137 [(strOf l)] h5 λv7 h8=>yL v7 λa9 n10 bE=>FW SS 137 [(strOf m)] h8 λv12 h13=>yL v12 λa14 n15 c16=>FW SS 163 [(.slice a9 n10 bE),(.slice a14 n15 c16)] h13 λv17 h18=>yI .i64 v17 λn19=>aZ (decide ((n19:Int)<0)) (Q (.tuple ⟨[(strOf []),(.int .i64 4)]⟩) h18) (FW SS 165 [(.slice a9 n10 bE),(.slice a14 n15 c16)] h18 λv20 h21=>yL v20 λa22 n23 c24=>FW SS 164 [(.slice a22 n23 c24)] h21 λv25 h26=>yS v25 λl27=>Q (.tuple ⟨[(strOf l27),(.int .i64 0)]⟩) h26)))):FW SS 135 [(strOf l),(strOf m)] h Q:=fy I4 Tryz.func135 (az hx)
noncomputable def cU:FD:=fo Tryz.f94 [([1,1,1,1,0,1,0,0],[6,7,8,33,34]),([1,1,1,1,0,1,0,0,1,1,0,0,1,1,1,0,0],[6,7,8,9,10,33,34,39,40])]
abbrev dU(a:OA)(n c:Nat)(b:OA)(k d:Nat)(t:OA)(tn tc:Nat)(lim:Int)(i:Nat):LV:=[(.slice a n c),(.slice b k d),(.slice t tn tc),(.int .i64 lim),(iA i)]
abbrev fp(a:OA)(n c:Nat)(b:OA)(k d:Nat)(t:OA)(tn tc:Nat)(lim:Int)(i:Nat)(lim2:Int)(j:Nat)(cy:Int):LV:=[(.slice a n c),(.slice b k d),(.slice t tn tc),(iA i),(.int .u64 cy),(.int .i64 lim),(iA i),(.int .i64 lim2),(iA j)]
theorem Gw(l m:LB)(h:aa)(Q:VH)(hx:FW SS 136 [(strOf l)] h λv1 h2=>yB v1 λb3=>aZ (!b3) (Q (.tuple ⟨[(strOf []),(.int .i64 1)]⟩) h2) (FW SS 136 [(strOf m)] h2 λv4 h5=>yB v4 λb6=>aZ (!b6) (Q (.tuple ⟨[(strOf []),(.int .i64 1)]⟩) h5) (FW SS 137 [(strOf l)] h5 λv7 h8=>yL v7 λa9 n10 bE=>FW SS 137 [(strOf m)] h8 λv12 h13=>yL v12 λa14 n15 c16=>xR (bM SS.P 150 (.int .i64 (wrap .i64 (wrap .i64 ((n10:Int)+(n15:Int))+1))) (.int .i64 (wrap .i64 (wrap .i64 ((n10:Int)+(n15:Int))+1)))) h13 λB17 n18 c19 g20=>LL SS cU [1,1,1,1,0,1,0,0] (dU a9 n10 bE a14 n15 c16 (some ⟨h13.next,0,none⟩) n18 c19 (n10:Int) 0) g20 (KK SS cU [1,1,1,1,0,1,0] [] (EE SS cU Q))))):FW SS 94 [(strOf l),(strOf m)] h Q:=fy cU Tryz.func94 (az hx)
theorem pP(l m:LB)(a:OA)(n c:Nat)(b:OA)(k d:Nat)(t:OA)(tn tc:Nat)(lim:Int)(Inv:Nat->Nat->aa->Prop)(Q:VH)(step:∀(mz:Nat) (i:Nat) (zz:Nat->Value) (h:aa),Inv mz i h->aZ (decide (((i:Int):Int)<lim)) (LL SS cU [1,1,1,1,0,1,0,0,1,1,0,0,1,1,1,0,0] (fp a n c b k d t tn tc lim i (wrap .i64 ((k:Int)+1)) 0 0) h (KK SS cU [1,1,0,0,1,1,1,0] [1,1,1,1,0,1,0,0] (RR cU [1,1,1,1,0,1,0,0] (lZ (dU a n c b k d t tn tc lim) Inv) mz (KK SS cU [1,1,1,1,0,1,0] [] (EE SS cU Q))))) (FW SS 139 [(.slice t tn tc)] h λv21 h22=>yL v21 λa23 n24 c25=>FW SS 138 [(.slice a23 n24 c25)] h22 λv26 h27=>∃l28:LB,∃n29:Int,v26=(.tuple ⟨[(strOf l28),(.int .i64 n29)]⟩)/\Q (.tuple ⟨[(strOf l28),(.int .i64 n29)]⟩) h27))(mz:Nat){i:Nat}{h:aa}(hi:Inv mz i h):LL SS cU [1,1,1,1,0,1,0,0] (dU a n c b k d t tn tc lim i) h (KK SS cU [1,1,1,1,0,1,0] [] (EE SS cU Q)):=
 gH (dU a n c b k d t tn tc lim) Inv (λmz i zz h hi=>az (step mz i zz h hi)) mz hi
theorem pQ(l m:LB)(a:OA)(n c:Nat)(b:OA)(k d:Nat)(t:OA)(tn tc:Nat)(lim:Int)(Inv:Nat->Nat->aa->Prop)(mz i:Nat)(lim2:Int)(Inv2:Nat->Nat->Int->aa->Prop)(Q:VH)(step:∀(mz2:Nat) (j:Nat) (cy:Int) (zz:Nat->Value) (h:aa),Inv2 mz2 j cy h->aZ (decide (((j:Int):Int)<lim2)) (xP (af SS.P 150 (.slice t tn tc) (.int .i64 (wrap .i64 ((i:Int)+(j:Int))))) λp30=>xI .u64 (ag SS.P 117 h (.pointer (some p30))) λn31=>aZ (decide (((j:Int):Int)<(k:Int))) (xP (af SS.P 150 (.slice a n c) (iA i)) λp32=>xI .u64 (ag SS.P 117 (room h 12) (.pointer (some p32))) λn33=>xP (af SS.P 150 (.slice b k d) (iA j)) λp34=>xI .u64 (ag SS.P 117 (room h 12) (.pointer (some p34))) λn35=>xI .u64 (aq SS.P .rem 117 (.int .u64 (wrap .u64 (wrap .u64 (n31+cy)+wrap .u64 (n33*n35)))) (.int .u64 1000000000)) λn36=>xI .u64 (aq SS.P .quo 117 (.int .u64 (wrap .u64 (wrap .u64 (n31+cy)+wrap .u64 (n33*n35)))) (.int .u64 1000000000)) λn37=>xP (af SS.P 150 (.slice t tn tc) (.int .i64 (wrap .i64 ((i:Int)+(j:Int))))) λp38=>xU (an SS.P 117 (.pointer (some p38)) (.int .u64 n36) (room h 12)) (room h 12) λu39 g40=>ba (zE (fp a n c b k d t tn tc lim i lim2) Inv2) mz2 [(.slice a n c),(.slice b k d),(.slice t tn tc),(iA i),(.int .u64 n37),(.int .i64 lim),(iA i),(.int .i64 lim2),(.int .i64 (wrap .i64 ((j:Int)+1)))] g40) (xI .u64 (aq SS.P .rem 117 (.int .u64 (wrap .u64 (n31+cy))) (.int .u64 1000000000)) λn41=>xI .u64 (aq SS.P .quo 117 (.int .u64 (wrap .u64 (n31+cy))) (.int .u64 1000000000)) λn42=>xP (af SS.P 150 (.slice t tn tc) (.int .i64 (wrap .i64 ((i:Int)+(j:Int))))) λp43=>xU (an SS.P 117 (.pointer (some p43)) (.int .u64 n41) h) h λu44 g45=>ba (zE (fp a n c b k d t tn tc lim i lim2) Inv2) mz2 [(.slice a n c),(.slice b k d),(.slice t tn tc),(iA i),(.int .u64 n42),(.int .i64 lim),(iA i),(.int .i64 lim2),(.int .i64 (wrap .i64 ((j:Int)+1)))] g45)) (ba (lZ (dU a n c b k d t tn tc lim) Inv) mz [(.slice a n c),(.slice b k d),(.slice t tn tc),(.int .i64 lim),(.int .i64 (wrap .i64 ((i:Int)+1)))] h))(mz2:Nat){j:Nat}{cy:Int}{h:aa}(hi:Inv2 mz2 j cy h):LL SS cU [1,1,1,1,0,1,0,0,1,1,0,0,1,1,1,0,0] (fp a n c b k d t tn tc lim i lim2 j cy) h (KK SS cU [1,1,0,0,1,1,1,0] [1,1,1,1,0,1,0,0] (RR cU [1,1,1,1,0,1,0,0] (lZ (dU a n c b k d t tn tc lim) Inv) mz (KK SS cU [1,1,1,1,0,1,0] [] (EE SS cU Q)))):=
 uS (fp a n c b k d t tn tc lim i lim2) Inv2 (λmz2 j cy zz h hi=>az (step mz2 j cy zz h hi)) mz2 hi
theorem Jg(x y z:Nat)(hx:x<BB)(hy:y<BB)(hz:z<=1)(h:aa):FW SS 183 [.int .u64 (x:Int),.int .u64 (y:Int),.int .u64 (z:Int)] h (λv h'=>v = .tuple ⟨[uv (aD BB x y z).1,uv (aD BB x y z).2]⟩/\h'=h):=by
 have hBv:BB=1000000000:=rfl;have e1:wrap .u64 ((x:Int)+(y:Int))=((x+y:Nat):Int):=by rw[<-Int.natCast_add];exact dM (by omega) (by omega)
 have e2:wrap .u64 (((x+y:Nat):Int)+(z:Int))=((x+y+z:Nat):Int):=by rw[<-Int.natCast_add];exact dM (by omega) (by omega)
 refine Jf _ _ _ h _ ?_;rw[e1,e2];refine⟨_,dL (b:=BB) (by omega) (by decide),_,jV (b:=BB) (by omega) (by omega) (by decide),?_,rfl⟩;unfold uv aD;rw[Int.natCast_emod,Int.natCast_ediv]
theorem Gk(x y z:Nat)(hx:x<BB)(hy:y<BB)(hz:z<=1)(h:aa):FW SS 189 [.int .u64 (x:Int),.int .u64 (y:Int),.int .u64 (z:Int)] h (λv h'=>v = .tuple ⟨[uv (a8 BB x y z).1,uv (a8 BB x y z).2]⟩/\h'=h):=by
 have hBv:BB=1000000000:=rfl;have hsum:x+BB-y-z<2*BB:=by omega
 have e1:wrap .u64 ((x:Int)+1000000000)=((x+BB:Nat):Int):=by rw[dM (by omega) (by omega)];omega
 have e2:wrap .u64 (((x+BB:Nat):Int)-(y:Int))=((x+BB-y:Nat):Int):=by rw[dM (by omega) (by omega)];omega
 have e3:wrap .u64 (((x+BB-y:Nat):Int)-(z:Int))=((x+BB-y-z:Nat):Int):=by rw[dM (by omega) (by omega)];omega
 refine Gj _ _ _ h _ ?_;rw[e1,e2,e3];refine⟨_,dL (b:=BB) (by omega) (by decide),_,jV (b:=BB) (by omega) (by omega) (by decide),?_,rfl⟩;unfold uv a8;dsimp only;generalize x+BB-y-z=q at*;have hq:q/BB<=1:=by
  have:q/BB<2:=Nat.div_lt_of_lt_mul (by omega);omega
 have e4:wrap .u64 (1-(q:Int)/(BB:Int))=((1-q/BB:Nat):Int):=by
  rw[<-Int.natCast_ediv];clear hsum e1 e2 e3;generalize q/BB=r at*;rw[dM (by omega) (by omega)];omega
 rw[e4,Int.natCast_emod]
theorem LW{p q c:Nat}(hp:p<BB)(hq:q<BB)(hc:c<=1):(aD BB p q c).2<=1:=by
 show(p+q+c)/BB<=1;have:(p+q+c)/BB<2:=Nat.div_lt_of_lt_mul (by omega);omega
theorem IX{p q c:Nat}(hp:p<BB)(hq:q<BB)(hc:c<=1):(a8 BB p q c).2<=1:=(kA dK hp hq hc).2
theorem Aw{h:aa}{a b:Option Addr}{n c m d:Nat}{x y:List Nat}(ra:Rd h 117 (.slice a n c) (x.map uv))(rb:Rd h 117 (.slice b m d) (y.map uv))(hx:∀d∈x,d<BB)(hy:∀d∈y,d<BB)(hlx:x.length<=10000)(hly:y.length<=10000)(w:Wf h){R:Nat}(fin:cd (aU (aD BB) x y 0 (max x.length y.length+1) 0)=ay BB R):
  FW SS 182 [.slice a n c,.slice b m d,.func (.func 183) ⟨[]⟩ ⟨[]⟩] h (gP h 117 (bl R)):=by
 have hn:n=x.length:=by have:=ra.len;rwa[lM]at this
 have hm:m=y.length:=by have:=rb.len;rwa[lM]at this
 rw[<-hn,<-hm]at fin;have hcr:∀j,dx (aD BB) x y 0 0 j<=1:=by
  intro j
  induction j with
  |zero=>exact zero_le _
  |succ j ih=>exact LW (aS (by decide) hx _) (aS (by decide) hy _) ih
 have hmn:n<=max n m/\m<=max n m:=⟨Nat.le_max_left _ _,Nat.le_max_right _ _⟩
 have hmx2:max n m<=10000:=Nat.max_le.2 ⟨by omega,by omega⟩;have hmx:(if(m:Int)>(n:Int)then(m:Int)else(n:Int))=((max n m:Nat):Int):=by split<;>omega
 generalize max n m=N at*;have L:=nz a n c b m d ((N:Int)+1) (λmz i cy r rn rc g=>i<=N+1/\mz=N+1-i/\cy=(dx (aD BB) x y 0 0 i:Nat)/\dO h g 117 (.slice r rn rc) ((aU (aD BB) x y 0 i 0).map uv)/\Ok h g) (gP h 117 (bl R)) (by
  intro mz i cy r rn rc;intros;rename_i g hi;obtain⟨h1,h2,rfl,ho,ok⟩:=hi;have hw3:wrap .i64 ((i:Int)+1)=((i+1:Nat):Int):=by rw[aB (by omega) (by omega)];omega
  rw[hw3];have hel:(aU (aD BB) x y 0 i 0).length=i:=fb _ _ _ _ _ _;have hsn:=gi (aD BB) x y i 0 0;rw[zero_add]at hsn;have hcr1:dx (aD BB) x y 0 0 (i+1)=(aD BB (x.getD i 0) (y.getD i 0) (dx (aD BB) x y 0 0 i)).2:=by
   show(aD BB (x.getD (0+i) 0) (y.getD (0+i) 0) _).2=_;rw[zero_add]
  have hci:=hcr i;have go:=Jg (x.getD i 0) (y.getD i 0) (dx (aD BB) x y 0 0 i) (aS (by decide) hx _) (aS (by decide) hy _) hci g;refine ae (λh5=>?_) (λh5=>?_)
  ·have h5:=dT h5;refine ae (λh6=>?_) (λh6=>?_)
   ·have h6:=dT h6;obtain⟨q,g2,g3⟩:=wz (ra.ok ok) (i:=(i:Int)) (by omega) (by omega);rw[toNat_natCast]at g3;refine⟨q,g2,_,g3,ae (λh7=>?_) (λh7=>?_)⟩
    ·have h7:=dT h7;obtain⟨q2,g4,g5⟩:=wz (rb.ok ok) (i:=(i:Int)) (by omega) (by omega);rw[toNat_natCast]at g5;refine⟨q2,g4,_,g5,go.mono ?_⟩;rintro _ _ ⟨rfl,rfl⟩;refine⟨_,_,rfl,_,_,_,lR _,?_⟩;obtain⟨b,m,d,u,g6,g7,g8,g9⟩:=gI w ok ho ((aD BB (x.getD i 0) (y.getD i 0) (dx (aD BB) x y 0 0 i)).1:Nat) (by rw[lM,hel];omega);refine⟨b,m,d,u,g6,nS (mz-1) (by omega) ⟨by omega,by omega,by rw[hcr1],?_,g9⟩⟩;rw[hsn,map_append];exact g8
    ·have h7:=dF h7;have y0:y.getD i 0=0:=by rw[gD,getElem?_eq_none (by omega)];rfl
     rw[y0]at go hsn hcr1;refine go.mono ?_;rintro _ _ ⟨rfl,rfl⟩;refine⟨_,_,rfl,_,_,_,lR _,?_⟩;obtain⟨b,m,d,u,g6,g7,g8,g9⟩:=gI w ok ho ((aD BB (x.getD i 0) 0 (dx (aD BB) x y 0 0 i)).1:Nat) (by rw[lM,hel];omega);refine⟨b,m,d,u,g6,nS (mz-1) (by omega) ⟨by omega,by omega,by rw[hcr1],?_,g9⟩⟩;rw[hsn,map_append];exact g8
   ·have h6:=dF h6;have x0:x.getD i 0=0:=by rw[gD,getElem?_eq_none (by omega)];rfl
    rw[x0]at go hsn hcr1;refine ae (λh7=>?_) (λh7=>?_)
    ·have h7:=dT h7;obtain⟨q2,g4,g5⟩:=wz (rb.ok ok) (i:=(i:Int)) (by omega) (by omega);rw[toNat_natCast]at g5;refine⟨q2,g4,_,g5,go.mono ?_⟩;rintro _ _ ⟨rfl,rfl⟩;refine⟨_,_,rfl,_,_,_,lR _,?_⟩;obtain⟨b,m,d,u,g6,g7,g8,g9⟩:=gI w ok ho ((aD BB 0 (y.getD i 0) (dx (aD BB) x y 0 0 i)).1:Nat) (by rw[lM,hel];omega);refine⟨b,m,d,u,g6,nS (mz-1) (by omega) ⟨by omega,by omega,by rw[hcr1],?_,g9⟩⟩;rw[hsn,map_append];exact g8
    ·have h7:=dF h7;have y0:y.getD i 0=0:=by rw[gD,getElem?_eq_none (by omega)];rfl
     rw[y0]at go hsn hcr1;refine go.mono ?_;rintro _ _ ⟨rfl,rfl⟩;refine⟨_,_,rfl,_,_,_,lR _,?_⟩;obtain⟨b,m,d,u,g6,g7,g8,g9⟩:=gI w ok ho ((aD BB 0 0 (dx (aD BB) x y 0 0 i)).1:Nat) (by rw[lM,hel];omega);refine⟨b,m,d,u,g6,nS (mz-1) (by omega) ⟨by omega,by omega,by rw[hcr1],?_,g9⟩⟩;rw[hsn,map_append];exact g8
  ·have h5:=dF h5;obtain rfl:i=N+1:=by omega
   refine(k6 ho (by rw[hel];omega)).mono ?_;rintro _ g2 ⟨a',n',c',rfl,o2,rfl⟩;rw[fin]at o2;exact⟨a',n',c',rfl,a',n',c',rfl,o2,ok⟩)
 refine Av a n c b m d h _ ⟨_,pM _ _ _,?_⟩;have hw:wrap .i64 ((N:Int)+1)=(N:Int)+1:=aB (by omega) (by omega);dsimp only;rw[hmx,hw];exact L (N+1) (i:=0) ⟨by omega,by omega,rfl,.inl ⟨rfl,rfl⟩,Ok.refl w⟩
theorem yv{h:aa}{a b:Option Addr}{n c m d:Nat}{x y:List Nat}(ra:Rd h 117 (.slice a n c) (x.map uv))(rb:Rd h 117 (.slice b m d) (y.map uv))(hx:∀d∈x,d<BB)(hy:∀d∈y,d<BB)(hlx:x.length<=10000)(hly:y.length<=10000)(w:Wf h){R:Nat}(fin:cd (aU (a8 BB) x y 0 (max x.length y.length+1) 0)=ay BB R):
  FW SS 182 [.slice a n c,.slice b m d,.func (.func 189) ⟨[]⟩ ⟨[]⟩] h (gP h 117 (bl R)):=by
 have hn:n=x.length:=by have:=ra.len;rwa[lM]at this
 have hm:m=y.length:=by have:=rb.len;rwa[lM]at this
 rw[<-hn,<-hm]at fin;have hcr:∀j,dx (a8 BB) x y 0 0 j<=1:=by
  intro j
  induction j with
  |zero=>exact zero_le _
  |succ j ih=>exact IX (aS (by decide) hx _) (aS (by decide) hy _) ih
 have hmn:n<=max n m/\m<=max n m:=⟨Nat.le_max_left _ _,Nat.le_max_right _ _⟩
 have hmx2:max n m<=10000:=Nat.max_le.2 ⟨by omega,by omega⟩;have hmx:(if(m:Int)>(n:Int)then(m:Int)else(n:Int))=((max n m:Nat):Int):=by split<;>omega
 generalize max n m=N at*;have L:=mB a n c b m d ((N:Int)+1) (λmz i cy r rn rc g=>i<=N+1/\mz=N+1-i/\cy=(dx (a8 BB) x y 0 0 i:Nat)/\dO h g 117 (.slice r rn rc) ((aU (a8 BB) x y 0 i 0).map uv)/\Ok h g) (gP h 117 (bl R)) (by
  intro mz i cy r rn rc;intros;rename_i g hi;obtain⟨h1,h2,rfl,ho,ok⟩:=hi;have hw3:wrap .i64 ((i:Int)+1)=((i+1:Nat):Int):=by rw[aB (by omega) (by omega)];omega
  rw[hw3];have hel:(aU (a8 BB) x y 0 i 0).length=i:=fb _ _ _ _ _ _;have hsn:=gi (a8 BB) x y i 0 0;rw[zero_add]at hsn;have hcr1:dx (a8 BB) x y 0 0 (i+1)=(a8 BB (x.getD i 0) (y.getD i 0) (dx (a8 BB) x y 0 0 i)).2:=by
   show(a8 BB (x.getD (0+i) 0) (y.getD (0+i) 0) _).2=_;rw[zero_add]
  have hci:=hcr i;have go:=Gk (x.getD i 0) (y.getD i 0) (dx (a8 BB) x y 0 0 i) (aS (by decide) hx _) (aS (by decide) hy _) hci g;refine ae (λh5=>?_) (λh5=>?_)
  ·have h5:=dT h5;refine ae (λh6=>?_) (λh6=>?_)
   ·have h6:=dT h6;obtain⟨q,g2,g3⟩:=wz (ra.ok ok) (i:=(i:Int)) (by omega) (by omega);rw[toNat_natCast]at g3;refine⟨q,g2,_,g3,ae (λh7=>?_) (λh7=>?_)⟩
    ·have h7:=dT h7;obtain⟨q2,g4,g5⟩:=wz (rb.ok ok) (i:=(i:Int)) (by omega) (by omega);rw[toNat_natCast]at g5;refine⟨q2,g4,_,g5,go.mono ?_⟩;rintro _ _ ⟨rfl,rfl⟩;refine⟨_,_,rfl,_,_,_,lR _,?_⟩;obtain⟨b,m,d,u,g6,g7,g8,g9⟩:=gI w ok ho ((a8 BB (x.getD i 0) (y.getD i 0) (dx (a8 BB) x y 0 0 i)).1:Nat) (by rw[lM,hel];omega);refine⟨b,m,d,u,g6,nS (mz-1) (by omega) ⟨by omega,by omega,by rw[hcr1],?_,g9⟩⟩;rw[hsn,map_append];exact g8
    ·have h7:=dF h7;have y0:y.getD i 0=0:=by rw[gD,getElem?_eq_none (by omega)];rfl
     rw[y0]at go hsn hcr1;refine go.mono ?_;rintro _ _ ⟨rfl,rfl⟩;refine⟨_,_,rfl,_,_,_,lR _,?_⟩;obtain⟨b,m,d,u,g6,g7,g8,g9⟩:=gI w ok ho ((a8 BB (x.getD i 0) 0 (dx (a8 BB) x y 0 0 i)).1:Nat) (by rw[lM,hel];omega);refine⟨b,m,d,u,g6,nS (mz-1) (by omega) ⟨by omega,by omega,by rw[hcr1],?_,g9⟩⟩;rw[hsn,map_append];exact g8
   ·have h6:=dF h6;have x0:x.getD i 0=0:=by rw[gD,getElem?_eq_none (by omega)];rfl
    rw[x0]at go hsn hcr1;refine ae (λh7=>?_) (λh7=>?_)
    ·have h7:=dT h7;obtain⟨q2,g4,g5⟩:=wz (rb.ok ok) (i:=(i:Int)) (by omega) (by omega);rw[toNat_natCast]at g5;refine⟨q2,g4,_,g5,go.mono ?_⟩;rintro _ _ ⟨rfl,rfl⟩;refine⟨_,_,rfl,_,_,_,lR _,?_⟩;obtain⟨b,m,d,u,g6,g7,g8,g9⟩:=gI w ok ho ((a8 BB 0 (y.getD i 0) (dx (a8 BB) x y 0 0 i)).1:Nat) (by rw[lM,hel];omega);refine⟨b,m,d,u,g6,nS (mz-1) (by omega) ⟨by omega,by omega,by rw[hcr1],?_,g9⟩⟩;rw[hsn,map_append];exact g8
    ·have h7:=dF h7;have y0:y.getD i 0=0:=by rw[gD,getElem?_eq_none (by omega)];rfl
     rw[y0]at go hsn hcr1;refine go.mono ?_;rintro _ _ ⟨rfl,rfl⟩;refine⟨_,_,rfl,_,_,_,lR _,?_⟩;obtain⟨b,m,d,u,g6,g7,g8,g9⟩:=gI w ok ho ((a8 BB 0 0 (dx (a8 BB) x y 0 0 i)).1:Nat) (by rw[lM,hel];omega);refine⟨b,m,d,u,g6,nS (mz-1) (by omega) ⟨by omega,by omega,by rw[hcr1],?_,g9⟩⟩;rw[hsn,map_append];exact g8
  ·have h5:=dF h5;obtain rfl:i=N+1:=by omega
   refine(k6 ho (by rw[hel];omega)).mono ?_;rintro _ g2 ⟨a',n',c',rfl,o2,rfl⟩;rw[fin]at o2;exact⟨a',n',c',rfl,a',n',c',rfl,o2,ok⟩)
 refine yu a n c b m d h _ ⟨_,pM _ _ _,?_⟩;have hw:wrap .i64 ((N:Int)+1)=(N:Int)+1:=aB (by omega) (by omega);dsimp only;rw[hmx,hw];exact L (N+1) (i:=0) ⟨by omega,by omega,rfl,.inl ⟨rfl,rfl⟩,Ok.refl w⟩
theorem Dt{h:aa}{a b:Option Addr}{n c m d X Y:Nat}(ra:Rd h 117 (.slice a n c) (bl X))(rb:Rd h 117 (.slice b m d) (bl Y))(hlx:(ay BB X).length<=10000)(hly:(ay BB Y).length<=10000)(w:Wf h):FW SS 162 [.slice a n c,.slice b m d] h (gP h 117 (bl (X+Y))):=by
 have hX:=bK dK X;have hY:=bK dK Y;refine Dr a n c b m d h _ ((Aw ra rb hX hY hlx hly w (R:=X+Y) ?_).mono ?_)
 ·have h1:=Nat.le_max_left (ay BB X).length (ay BB Y).length;have h2:=Nat.le_max_right (ay BB X).length (ay BB Y).length;rw[fT dK (gL (λp q c=>mod_lt _ (by decide)) _ _ _ 0 0),wm dK hX hY _ 0 0 (by omega) (by omega) (by omega) (by omega),drop_zero,drop_zero,bg dK,bg dK];rfl
 ·rintro _ g ⟨a',n',c',rfl,o,ok⟩;exact⟨_,_,_,rfl,a',n',c',rfl,o,ok⟩
theorem Bl{h:aa}{a b:Option Addr}{n c m d X Y:Nat}(ra:Rd h 117 (.slice a n c) (bl X))(rb:Rd h 117 (.slice b m d) (bl Y))(hXY:Y<=X)(hlx:(ay BB X).length<=10000)(hly:(ay BB Y).length<=10000)(w:Wf h):FW SS 165 [.slice a n c,.slice b m d] h (gP h 117 (bl (X-Y))):=by
 have hX:=bK dK X;have hY:=bK dK Y;refine Bj a n c b m d h _ ((yv ra rb hX hY hlx hly w (R:=X-Y) ?_).mono ?_)
 ·have h1:=Nat.le_max_left (ay BB X).length (ay BB Y).length;have h2:=Nat.le_max_right (ay BB X).length (ay BB Y).length;rw[fT dK (gL (λp q c=>mod_lt _ (by decide)) _ _ _ 0 0)];have h3:=Cy dK hX hY (max (ay BB X).length (ay BB Y).length+1) 0 0 (by omega) (by omega) (by omega) (by rw[drop_zero,drop_zero,bg dK,bg dK];exact hXY);rw[drop_zero,drop_zero,bg dK,bg dK]at h3;congr 1;omega
 ·rintro _ g ⟨a',n',c',rfl,o,ok⟩;exact⟨_,_,_,rfl,a',n',c',rfl,o,ok⟩
def pI(X:Nat):Value:=if 1000<(av X).length then xK [] 2 else xK (av X) 0
def CG(a b:List UInt8):Value:=if aC a=true/\aC b=true then pI (Num.val a+Num.val b)else xK [] 1
def Dp(a b:List UInt8):Value:=if aC a=true/\aC b=true then pI (Num.val a*Num.val b)else xK [] 1
def D0(a b:List UInt8):Value:=if aC a=true/\aC b=true then(if Num.val a<Num.val b then xK [] 4 else xK (av (Num.val a-Num.val b)) 0)else xK [] 1
def CV(a b:List UInt8):Value:=if aC a=true/\aC b=true then .int .i64 (dw (Num.val a) (Num.val b))else .int .i64 0
theorem nU{h:aa}{a:Option Addr}{n c X:Nat}(ra:Rd h 117 (.slice a n c) (bl X))(hlen:(ay BB X).length<=10000)(t:mn h)(w:Wf h):FW SS 138 [.slice a n c] h (λv h'=>v=pI X/\Ok h h'):=by
 refine vW a n c h _ ((oJ ra hlen t w).mono ?_);rintro _ g ⟨rfl,ok⟩;refine⟨_,rfl,ae (λh1=>?_) (λh1=>?_)⟩
 ·have h1:=dT h1;refine⟨?_,ok⟩;unfold pI;rw[if_pos (by omega)];rfl
 ·have h1:=dF h1;refine⟨?_,ok⟩;unfold pI;rw[if_neg (by omega)];rfl
structure Se(a b:List UInt8)(X Y:Nat):Prop where
 va:aC a=true
 vb:aC b=true
 ea:Num.val a=X
 eb:Num.val b=Y
 lx:(ay BB X).length<=112
 ly:(ay BB Y).length<=112
theorem Mr{a b:List UInt8}(va:aC a=true)(vb:aC b=true):Se a b (Num.val a) (Num.val b):=by
 obtain⟨X,_,hX,eX⟩:=jk va;obtain⟨Y,_,hY,eY⟩:=jk vb;exact⟨va,vb,rfl,rfl,by rw[eX];exact jZ hX,by rw[eY];exact jZ hY⟩
theorem iy{a:List UInt8}(va:aC a=true){h:aa}(w:Wf h):FW SS 137 [strOf a] h (gP h 117 (bl (Num.val a))):=by
 have da:=(iw.1 va)
 exact kZ a da.1.2.1 (Nat.le_trans da.2 (by omega)) h w
theorem Mq{X Y:Nat}(hx:(ay BB X).length<=112)(hy:(ay BB Y).length<=112):(ay BB (X+Y)).length<=10000:=by
 have h1:=cY (bK dK X);have h2:=cY (bK dK Y);rw[bg dK]at h1 h2;have h3:=lt_of_lt_of_le h1 (pow_le_pow_right (show 0<BB by decide) hx);have h4:=lt_of_lt_of_le h2 (pow_le_pow_right (show 0<BB by decide) hy);refine Nat.le_trans (gj dK (k:=113) ?_) (by omega);rw[pow_succ];have h5:2*BB^112<=BB^112*BB:=by rw[mul_comm];exact Nat.mul_le_mul_left _ (by decide)
 generalize BB^112=M at*;omega
theorem JY{m n:Nat}(h:m<=n):(ay BB m).length<=(ay BB n).length:=Nat.le_of_not_lt λg=>absurd (gk dK g) (Nat.not_lt.2 h)
theorem A7(X:Nat):∃l n,pI X=xK l n:=by
 unfold pI;split<;>exact⟨_,_,rfl⟩
theorem Fg{v:Value}(hv:∃l n,v=xK l n){K:Value->Prop}(hK:K v):∃(l:List UInt8)(n:Int),v = .tuple ⟨[strOf l,.int .i64 n]⟩/\K (.tuple ⟨[strOf l,.int .i64 n]⟩):=by
 obtain⟨l,n,rfl⟩:=hv;exact⟨l,n,rfl,hK⟩
theorem KQ{x y:Nat}(h:dw x y<0):x<y:=by
 unfold dw at h;split at h<;>omega
theorem KP{x y:Nat}(h:¬dw x y<0):y<=x:=by
 unfold dw at h;split at h<;>omega
theorem Gr(a b:List UInt8){h:aa}(t:mn h)(w:Wf h):FW SS 133 [strOf a,strOf b] h (λv h'=>v=CG a b/\Ok h h'):=by
 refine Gq a b h _ ((cM a h).mono ?_);rintro _ g0 ⟨rfl,e0⟩;obtain rfl:h=g0:=e0.symm;refine⟨_,rfl,ae (λg=>?_) (λg=>?_)⟩
 ·have g:aC a=false:=by simpa using g
  refine⟨?_,Ok.refl w⟩;unfold CG;rw[if_neg (λe=>by rw[e.1]at g;cases g)];rfl
 have g:aC a=true:=by simpa using g
 refine(cM b h).mono ?_;rintro _ g0 ⟨rfl,e0⟩;obtain rfl:h=g0:=e0.symm;refine⟨_,rfl,ae (λg2=>?_) (λg2=>?_)⟩
 ·have g2:aC b=false:=by simpa using g2
  refine⟨?_,Ok.refl w⟩;unfold CG;rw[if_neg (λe=>by rw[e.2]at g2;cases g2)];rfl
 have g2:aC b=true:=by simpa using g2
 have tb:=Mr g g2;have lx:=tb.lx;have ly:=tb.ly;refine(iy g w).mono ?_;rintro _ h1 ⟨a1,n1,c1,rfl,o1,ok1⟩;refine⟨_,_,_,rfl,(iy g2 ok1.wf).mono ?_⟩;rintro _ h2 ⟨a2,n2,c2,rfl,o2,ok2⟩;refine⟨_,_,_,rfl,?_⟩;have hS:CG a b=pI (Num.val a+Num.val b):=by unfold CG;rw[if_pos ⟨g,g2⟩]
 rw[hS];have r1:=o1.rd.ok ok2;have r2:=o2.rd;have ok:=ok1.trans ok2;refine(Dt r1 r2 (by omega) (by omega) ok.wf).mono ?_;rintro _ h3 ⟨a3,n3,c3,rfl,o3,ok3⟩;refine⟨_,_,_,rfl,(nU o3.rd (Mq lx ly) (t.ok (ok.trans ok3)) ok3.wf).mono ?_⟩;rintro _ h4 ⟨rfl,ok4⟩;exact Fg (K:=λv=>v=pI (Num.val a+Num.val b)/\Ok h h4) (A7 _) ⟨rfl,(ok.trans ok3).trans ok4⟩
theorem w5(a b:List UInt8){h:aa}(t:mn h)(w:Wf h):FW SS 135 [strOf a,strOf b] h (λv h'=>v=D0 a b/\Ok h h'):=by
 refine Gy a b h _ ((cM a h).mono ?_);rintro _ g0 ⟨rfl,e0⟩;obtain rfl:h=g0:=e0.symm;refine⟨_,rfl,ae (λg=>?_) (λg=>?_)⟩
 ·have g:aC a=false:=by simpa using g
  refine⟨?_,Ok.refl w⟩;unfold D0;rw[if_neg (λe=>by rw[e.1]at g;cases g)];rfl
 have g:aC a=true:=by simpa using g
 refine(cM b h).mono ?_;rintro _ g0 ⟨rfl,e0⟩;obtain rfl:h=g0:=e0.symm;refine⟨_,rfl,ae (λg2=>?_) (λg2=>?_)⟩
 ·have g2:aC b=false:=by simpa using g2
  refine⟨?_,Ok.refl w⟩;unfold D0;rw[if_neg (λe=>by rw[e.2]at g2;cases g2)];rfl
 have g2:aC b=true:=by simpa using g2
 have tb:=Mr g g2;have lx:=tb.lx;have ly:=tb.ly;refine(iy g w).mono ?_;rintro _ h1 ⟨a1,n1,c1,rfl,o1,ok1⟩;refine⟨_,_,_,rfl,(iy g2 ok1.wf).mono ?_⟩;rintro _ h2 ⟨a2,n2,c2,rfl,o2,ok2⟩;refine⟨_,_,_,rfl,?_⟩;have hS:D0 a b=(if Num.val a<Num.val b then xK [] 4 else xK (av (Num.val a-Num.val b)) 0):=by unfold D0;rw[if_pos ⟨g,g2⟩]
 rw[hS];have r1:=o1.rd.ok ok2;have r2:=o2.rd;have ok:=ok1.trans ok2;refine(ka r1 r2 (by omega) ok.wf).mono ?_;rintro _ h3 ⟨rfl,ok3⟩;refine⟨_,rfl,ae (λh6=>?_) (λh6=>?_)⟩
 ·have h6:=dT h6;rw[if_pos (KQ h6)];exact⟨rfl,ok.trans ok3⟩
 ·have h6:=dF h6;have hle:=KP h6;rw[if_neg (Nat.not_lt.2 hle)];refine(Bl (r1.ok ok3) (r2.ok ok3) hle (by omega) (by omega) ok3.wf).mono ?_;rintro _ h4 ⟨a3,n3,c3,rfl,o3,ok4⟩;refine⟨_,_,_,rfl,(oJ o3.rd (Nat.le_trans (JY (Nat.sub_le _ _)) (by omega)) (t.ok ((ok.trans ok3).trans ok4)) ok4.wf).mono ?_⟩;rintro _ h5 ⟨rfl,ok5⟩;exact⟨_,rfl,rfl,((ok.trans ok3).trans ok4).trans ok5⟩
theorem Gt(a b:List UInt8){h:aa}(t:mn h)(w:Wf h):FW SS 134 [strOf a,strOf b] h (λv h'=>v=CV a b/\Ok h h'):=by
 refine Gs a b h _ ((cM a h).mono ?_);rintro _ g0 ⟨rfl,e0⟩;obtain rfl:h=g0:=e0.symm;refine⟨_,rfl,ae (λg=>?_) (λg=>?_)⟩
 ·have g:aC a=false:=by simpa using g
  refine⟨?_,Ok.refl w⟩;unfold CV;rw[if_neg (λe=>by rw[e.1]at g;cases g)]
 have g:aC a=true:=by simpa using g
 refine(cM b h).mono ?_;rintro _ g0 ⟨rfl,e0⟩;obtain rfl:h=g0:=e0.symm;refine⟨_,rfl,ae (λg2=>?_) (λg2=>?_)⟩
 ·have g2:aC b=false:=by simpa using g2
  refine⟨?_,Ok.refl w⟩;unfold CV;rw[if_neg (λe=>by rw[e.2]at g2;cases g2)]
 have g2:aC b=true:=by simpa using g2
 have tb:=Mr g g2;have lx:=tb.lx;have ly:=tb.ly;refine(iy g w).mono ?_;rintro _ h1 ⟨a1,n1,c1,rfl,o1,ok1⟩;refine⟨_,_,_,rfl,(iy g2 ok1.wf).mono ?_⟩;rintro _ h2 ⟨a2,n2,c2,rfl,o2,ok2⟩;refine⟨_,_,_,rfl,?_⟩;have hS:CV a b = .int .i64 (dw (Num.val a) (Num.val b)):=by unfold CV;rw[if_pos ⟨g,g2⟩]
 rw[hS];have r1:=o1.rd.ok ok2;have r2:=o2.rd;have ok:=ok1.trans ok2;refine(ka r1 r2 (by omega) ok.wf).mono ?_;rintro _ h3 ⟨rfl,ok3⟩;exact⟨_,rfl,rfl,ok.trans ok3⟩
theorem Ms:SS.P.underlying 9=some .string:=Tryz.underlying9
theorem Fc(l:List UInt8)(h:aa){b:Nat}(hb:b<=l.length):cA SS.P 9 (strOf l) none (some (.int .i64 (b:Int))) none h=some (strOf (l.take b)):=by
 have:=km (h:=h) Ms l (lo:=none) (hi:=some (.int .i64 (b:Int))) (a:=0) (b:=b) rfl rfl (by omega) hb;simpa using this
theorem xq(l:List UInt8)(h:aa){a:Nat}(ha:a<=l.length):cA SS.P 9 (strOf l) (some (.int .i64 (a:Int))) none none h=some (strOf (l.drop a)):=by
 have:=km (h:=h) Ms l (lo:=some (.int .i64 (a:Int))) (hi:=none) (a:=a) (b:=l.length) rfl rfl ha (Nat.le_refl _);rw[this,take_of_length_le (by simp)]
theorem F4(l:List UInt8)(h:aa):FW SS 202 [strOf l,strOf [45]] h (λv h'=>v = .bool (Num.isNeg l)/\h'=h):=by
 refine F3 l [45] h _ (ae (λh1=>?_) (λh1=>?_))
 ·have h1:=dT h1;have h2:1<=l.length:=by simp only[List.length_cons,length_nil]at h1;omega
  refine⟨_,Fc l h (b:=1) h2,?_,rfl⟩
  cases l with
  |nil=>simp at h2
  |cons c l=>
   unfold Num.isNeg;simp only[List.take_succ_cons,take_zero,List.head?_cons];congr 1
   cases hc:c==45<;>simp_all
 ·have h1:=dF h1;have h2:l=[]:=List.eq_nil_of_length_eq_zero (by simp at h1;omega);subst h2;exact⟨rfl,rfl⟩
theorem CZ(l:List UInt8)(h:aa):FW SS 180 [strOf l,strOf [45]] h (λv h'=>v = .tuple ⟨[strOf (bJ l),.bool (Num.isNeg l)]⟩/\h'=h):=by
 refine CY l [45] h _ ((F4 l h).mono ?_);rintro _ g0 ⟨rfl,e0⟩;obtain rfl:h=g0:=e0.symm;refine⟨_,rfl,ae (λg=>?_) (λg=>?_)⟩
 ·have g:Num.isNeg l=false:=by simpa using g
  unfold bJ;rw[g];exact⟨rfl,rfl⟩
 ·have g:Num.isNeg l=true:=by simpa using g
  have h2:1<=l.length:=by
   cases l with
   |nil=>cases g
   |cons=>simp
  refine⟨_,xq l h (a:=1) h2,?_,rfl⟩;unfold bJ;rw[g];rfl
theorem FO(l:List UInt8)(h:aa):FW SS 158 [strOf l,strOf [45]] h (λv h'=>v = .tuple ⟨[strOf (bJ l),.bool (Num.isNeg l)]⟩/\h'=h):=by
 refine FN l [45] h _ ((CZ l h).mono ?_);rintro _ g0 ⟨rfl,e0⟩;exact⟨_,_,rfl,rfl,e0⟩
theorem C6(l:List UInt8):∀i:Nat,findAt 47 l i=if dN 47 l<l.length then((i+dN 47 l:Nat):Int)else -1:=by
 induction l with
 |nil=>intro i;rfl
 | cons c l ih=>
  intro i;unfold findAt dN;have hc:c.toNat=47↔c=47:=by rw[<-UInt8.toNat_inj];rfl
  by_cases h:c=47
  ·rw[if_pos (hc.2 h),if_pos h,if_pos (by simp)];rfl
  ·rw[if_neg (λe=>h (hc.1 e)),if_neg h,ih (i+1)];have:(dN 47 l+1<(c::l).length)↔dN 47 l<l.length:=by simp
   simp only[this];split
   ·congr 1;omega
   ·rfl
def IC(l:List UInt8):Int:=if dN 47 l<l.length then(dN 47 l:Int)else -1
theorem AX(l:List UInt8)(h:aa):FW SS 211 [strOf l,.int .u8 47] h (λv h'=>v = .int .i64 (IC l)/\h'=h):=by
 refine AW l 47 h _ (yC (p:=ft) (v:= .int .i64 (IC l)) (h':=h) (by decide +kernel) (by kernel_rfl) (λcf=>?_) ⟨_,rfl,rfl,rfl⟩);show(if(0:Int)<=47/\(47:Int)<256 then some (Value.int .i64 (findAt 47 l 0),h)else none)=_;rw[if_pos (by decide),C6,zero_add];rfl
theorem F7(l:List UInt8)(h:aa):FW SS 203 [strOf l,strOf [47]] h (λv h'=>v = .int .i64 (IC l)/\h'=h):=by
 refine F6 l h _ (ae (λh1=>?_) (λh1=>?_))
 ·have h1:([47]:List UInt8)=l:=by simpa using h1
  subst h1;exact⟨rfl,rfl⟩
 ·refine⟨47,rfl,(AX l h).mono ?_⟩;rintro _ g0 ⟨rfl,e0⟩;exact⟨_,rfl,rfl,e0⟩
def FP(l:List UInt8):Value:=if dN 47 l<l.length then .tuple ⟨[strOf (l.take (dN 47 l)),strOf (l.drop (dN 47 l+1)),.bool true]⟩else .tuple ⟨[strOf l,strOf [],.bool false]⟩
theorem KW(l:List UInt8)(hl:l.length<=281474976710656){h:aa}(w:Wf h):FW SS 181 [strOf l,strOf [47]] h (λv h'=>v=FP l/\Ok h h'):=by
 refine KV l h _ ((F7 l h).mono ?_);rintro _ g0 ⟨rfl,e0⟩;obtain rfl:h=g0:=e0.symm;refine⟨_,rfl,ae (λg=>?_) (λg=>?_)⟩
 ·have g:=dT g;unfold IC FP at*;by_cases h1:dN 47 l<l.length
  ·rw[if_pos h1,if_pos h1];have hw:wrap .i64 ((dN 47 l:Int)+1)=((dN 47 l+1:Nat):Int):=by rw[aB (by omega) (by omega)];omega
   rw[hw];exact⟨_,Fc l _ (le_of_lt h1),_,xq l _ h1,rfl,(Ok.refl w).room 12⟩
  ·rw[if_neg h1]at g;omega
 ·have g:=dF g;unfold IC FP at*;by_cases h1:dN 47 l<l.length
  ·rw[if_pos h1]at g;omega
  ·rw[if_neg h1];exact⟨rfl,Ok.refl w⟩
theorem ND(l:List UInt8)(hl:l.length<=281474976710656){h:aa}(w:Wf h):FW SS 159 [strOf l,strOf [47]] h (λv h'=>v=FP l/\Ok h h'):=by
 refine NC l h _ ((KW l hl w).mono ?_);rintro _ g0 ⟨rfl,e0⟩;unfold FP;split
 ·exact⟨_,_,_,rfl,rfl,e0⟩
 ·exact⟨_,_,_,rfl,rfl,e0⟩
end Go.Proofs.YtaheifbogkjpdaaGreatDoor
end
section
set_option linter.defProp false
namespace Go.Proofs.YtaheifbogkjpdaaGreatDoor
open Go Go.Ab Go.Num
noncomputable def Tr:TypeInfo:=(SS.P.info? 3).getD default
theorem Pn:SS.P.info? 3=some Tr:=by kernel_rfl
theorem JV:Tr.size=1:=by kernel_rfl
theorem G9:Tr.bytes=8:=by kernel_rfl
theorem R0:zeroOf SS.P 3=some (iv 0):=by kernel_rfl
theorem SV(n:Nat)(hn:n<=100000):bM SS.P 32 (.int .i64 (n:Int)) (.int .i64 (n:Int))=some (.cells ((List.replicate n 0).map iv) 3 1 true,jE n n):=by
 unfold bM aJ;dsimp only;rw[oT]
 try dsimp only
 change (match SS.P.info? 3,zeroOf SS.P 3 with
  |some i,some z=>(if z.cells.size=i.size/\0<i.size/\(0:Int)<=(n:Int)/\(n:Int)<=(n:Int)/\(n:Int)*i.bytes<=140737488355328/\(n:Int)<=1099511627776 then some (bt.cells (bC z.cells.toList (n:Int).toNat) 3 i.size true,λk=>Value.slice (some ⟨k,0,none⟩) (n:Int).toNat (n:Int).toNat)else none)
  |_,_=>none)=_
 rw[Pn,R0];dsimp only;rw[JV,G9,if_pos ⟨rfl,by omega,by omega,Int.le_refl _,by omega,by omega⟩];have e:((n:Int)).toNat=n:=by omega
 rw[e,show(iv 0).cells.toList=[iv 0]from rfl,rR,List.map_replicate];rfl
theorem Mt(n:Int):jB 4 (.int .i64 n) (.int .i64 n)=true:=by simp[jB]
end Go.Proofs.YtaheifbogkjpdaaGreatDoor
end
section
namespace Go.Proofs.YtaheifbogkjpdaaGreatDoor
open Go Go.Ab Go.Num
def oO(h:aa)(C:Prop)(G B:Value):VH:=λv h'=>Ok h h'/\(C->v=G)/\(¬C->v=B)
theorem GD{h h':aa}{C:Prop}{G B:Value}(o:Ok h h')(hc:¬C):oO h C G B B h':=⟨o,λc=>absurd c hc,λ_=>rfl⟩
theorem DA{h h':aa}{C:Prop}{G B:Value}(o:Ok h h')(hc:C):oO h C G B G h':=⟨o,λ_=>rfl,λc=>absurd hc c⟩
theorem Iw{n d:List UInt8}(hn:aC n=true)(hd:aC d=true):Dd n d=xK (av (Nat.gcd (Num.val n) (Num.val d))) 0:=by unfold Dd;rw[if_pos ⟨hn,hd⟩]
theorem jg{X:Nat}(h:X<10^800):aC (av X)=true:=nM.2 (lt_of_lt_of_le h (o8 (k:=800) (m:=1000) (by decide)))
theorem EP{X:Nat}(h:X<10^1000):pI X=xK (av X) 0:=by
 unfold pI;rw[if_neg];have:=(ff (n:=X) (k:=1000) (by decide)).2 h;omega
theorem Hs{A B:Nat}(hA:A<10^800)(hB:B<10^800):CG (av A) (av B)=xK (av (A+B)) 0:=by
 unfold CG;rw[if_pos ⟨jg hA,jg hB⟩,dY,dY];exact EP (lt_of_lt_of_le (Nat.add_lt_add hA hB) Fl)
theorem B0{A B:Nat}(hA:A<10^800)(hB:B<10^800)(h:B<=A):D0 (av A) (av B)=xK (av (A-B)) 0:=by
 unfold D0;rw[if_pos ⟨jg hA,jg hB⟩,dY,dY,if_neg (Nat.not_lt.2 h)]
theorem H2{A B:Nat}(hA:A<10^800)(hB:B<10^800):CV (av A) (av B) = .int .i64 (dw A B):=by
 unfold CV;rw[if_pos ⟨jg hA,jg hB⟩,dY,dY]
theorem pN{a b:List UInt8}(ha:aC a=true)(hb:aC b=true)(la:a.length<=400)(lb:b.length<=400):Dp a b=xK (av (Num.val a*Num.val b)) 0/\Num.val a*Num.val b<10^800:=by
 have h:=vy (sV (k:=400) ha (by decide) la) (sV (k:=400) hb (by decide) lb);refine⟨?_,h⟩;unfold Dp;rw[if_pos ⟨ha,hb⟩];exact EP (lt_of_lt_of_le h (o8 (k:=800) (m:=1000) (by decide)))
def E3(s:Bool)(A:Nat)(t:Bool)(B:Nat):Value:= .tuple ⟨[.bool (jK s A t B).1,strOf (av (jK s A t B).2)]⟩
theorem Ak{A B:Nat}:dw A B<0↔A<B:=oj
end Go.Proofs.YtaheifbogkjpdaaGreatDoor
end
section
set_option linter.defProp false
namespace Go.Proofs.YtaheifbogkjpdaaGreatDoor
open Go Go.Ab Go.Num
structure MR(hb:aa)(kt N:Nat)(L:List Nat)(g:aa):Prop where
 len:L.length=N
 lt:∀d∈L,d<BB
 row:g.get kt=some (.cells (bn ((List.replicate N 0).map uv) 0 L) 117 1 true)
 ok:Ok hb g
theorem MR.room{hb:aa}{kt N:Nat}{L:List Nat}{g:aa}(m:MR hb kt N L g)(r:Nat):MR hb kt N L (Go.Ab.room g r):=⟨m.len,m.lt,m.row,m.ok.room r⟩
theorem MR.get{hb:aa}{kt N c:Nat}{L:List Nat}{g:aa}(m:MR hb kt N L g){j:Int}{jn:Nat}(hj:j=(jn:Int))(hl:jn<N):∃p:Addr,af SS.P 150 (.slice (some ⟨kt,0,none⟩) N c) (.int .i64 j)=some (.pointer (some p))/\ag SS.P 117 g (.pointer (some p))=some (.int .u64 (L.getD jn 0:Nat))/\
  ∀d:Nat,d<BB->kt<g.next->hb.next<=kt->Wf hb->∃u:cL,an SS.P 117 (.pointer (some p)) (.int .u64 (d:Int)) g=some (undef,u)/\MR hb kt N (L.set jn d) (u.app g):=by
 subst hj;have hc:(0:Nat)+L.length<=((List.replicate N 0).map uv).length:=by rw[lM,length_replicate,m.len];omega
 refine⟨⟨kt,0+(jn:Int).toNat,none⟩,pE (by omega) (by omega),?_,?_⟩
 ·rw[toNat_natCast];exact ud m.row hc (by rw[m.len];exact hl)
 ·intro d hd hk hn w;rw[toNat_natCast];refine⟨_,uX m.row hc (by rw[m.len];exact hl) d,by rw[length_set];exact m.len,λe he=>?_,?_,m.ok.set _ hn hk w⟩
  ·rcases List.mem_or_eq_of_mem_set he with h|h
   ·exact m.lt e h
   ·rw[h];exact hd
  ·show(g.set kt _).get kt=_;rw[aa.aR,if_pos rfl]
def I1(hb:aa)(kt N n:Nat)(x y:List Nat)(mz i:Nat)(g:aa):Prop:=i<=n/\mz=n-i/\∃L,MR hb kt N L g/\Num.bv BB L=Num.bv BB (x.take i)*Num.bv BB y
def MT(hb:aa)(kt N k:Nat)(x y:List Nat)(i mz j:Nat)(cy:Int)(g:aa):Prop:=j<=k+1/\mz=k+1-j/\∃(L:List Nat)(cn:Nat),cy=(cn:Int)/\cn<BB/\MR hb kt N L g/\Num.bv BB L+cn*BB^(i+j)=Num.bv BB (x.take i)*Num.bv BB y+x.getD i 0*Num.bv BB (y.take j)*BB^i
theorem Dn{hb:aa}(w:Wf hb){kt N k:Nat}{x y:List Nat}(hkt:hb.next<=kt)(hx:∀d∈x,d<BB)(hy:∀d∈y,d<BB){i mz j:Nat}{cn:Nat}{L:List Nat}{g:aa}(hj:j<k+1)(hij:i+j<N)(hmz:mz=k+1-j)(hcn:cn<BB)(m:MR hb kt N L g)(he:Num.bv BB L+cn*BB^(i+j)=Num.bv BB (x.take i)*Num.bv BB y+x.getD i 0*Num.bv BB (y.take j)*BB^i){q:Nat}(hq:q=x.getD i 0*y.getD j 0):
  q<=999999998000000001/\L.getD (i+j) 0<BB/\(∀g',MR hb kt N (L.set (i+j) ((L.getD (i+j) 0+cn+q)%BB)) g'->mz-1<mz/\MT hb kt N k x y i (mz-1) (j+1) (((L.getD (i+j) 0+cn+q)/BB:Nat):Int) g')/\(L.getD (i+j) 0+cn+q)%BB<BB/\kt<g.next:=by
 have hxi:=aS (b:=BB) (by decide) hx i;have hyj:=aS (b:=BB) (by decide) hy j;have hLj:=aS (b:=BB) (by decide) m.lt (i+j);refine⟨?_,hLj,λg' m'=>⟨by omega,by omega,by omega,_,_,rfl,?_,m',?_⟩,mod_lt _ (by decide),m.ok.wf _ _ m.row⟩
 ·rw[hq];exact Nat.le_trans (Nat.mul_le_mul (Nat.le_of_lt_succ hxi) (Nat.le_of_lt_succ hyj)) (by decide)
 ·exact(sS dK m.lt (by rw[m.len];exact hij) hcn hxi hyj (by rw[hq]) he).2.1
 ·exact(sS dK m.lt (by rw[m.len];exact hij) hcn hxi hyj (by rw[hq]) he).2.2
def Gn{hb:aa}(w:Wf hb){a:Option Addr}{n c:Nat}{b:Option Addr}{k d:Nat}{kt N tc:Nat}{x y:List Nat}(ra:Rd hb 117 (.slice a n c) (x.map uv))(rb:Rd hb 117 (.slice b k d) (y.map uv))(hx:∀d∈x,d<BB)(hy:∀d∈y,d<BB)(hkt:hb.next<=kt){i:Nat}(hi:i<n)(hn:n=x.length)(hk:k=y.length)(hN:N=n+k+1)(hN2:N<=1000)(l m:List UInt8)(Q:VH)(mz:Nat)(hmz:mz=n-i):=
 pQ l m a n c b k d (some ⟨kt,0,none⟩) N tc (n:Int) (I1 hb kt N n x y) mz i ((k:Int)+1) (MT hb kt N k x y i) Q (by
  intro mz2 j cy;intros;rename_i g hin;obtain⟨h1,h2,L,cn,rfl,h3,mr,h4⟩:=hin;have hBv:BB=1000000000:=rfl;have e1:wrap .i64 ((i:Int)+(j:Int))=((i+j:Nat):Int):=by rw[aB (by omega) (by omega)];omega
  have e2:wrap .i64 ((j:Int)+1)=((j+1:Nat):Int):=by rw[aB (by omega) (by omega)];omega
  have e3:wrap .i64 ((i:Int)+1)=((i+1:Nat):Int):=by rw[aB (by omega) (by omega)];omega
  rw[e1,e2,e3];refine ae (λh5=>?_) (λh5=>?_)
  ·have h5:=dT h5;obtain⟨q,hq⟩:∃q,q=x.getD i 0*y.getD j 0:=⟨_,rfl⟩
   obtain⟨s1,s2,s3,s4,s5⟩:=Dn w hkt hx hy (by omega) (by omega) h2 h3 mr h4 hq;obtain⟨p,g1,g2,_⟩:=mr.get (c:=tc) (j:=((i+j:Nat):Int)) rfl (by omega);have e4:wrap .u64 (((L.getD (i+j) 0:Nat):Int)+(cn:Int))=((L.getD (i+j) 0+cn:Nat):Int):=by rw[dM (by omega) (by omega)];omega
   refine⟨p,g1,_,g2,ae (λh6=>?_) (λh6=>?_)⟩
   ·have h6:=dT h6;obtain⟨p1,f1,f2⟩:=wz (ra.ok (mr.room 12).ok) (i:=(i:Int)) (by omega) (by omega);obtain⟨p2,f3,f4⟩:=wz (rb.ok (mr.room 12).ok) (i:=(j:Int)) (by omega) (by omega);rw[toNat_natCast]at f2 f4;have e5:wrap .u64 (((x.getD i 0:Nat):Int)*((y.getD j 0:Nat):Int))=(q:Int):=by rw[<-Int.natCast_mul,<-hq];exact dM (by omega) (by omega)
    have e6:wrap .u64 (((L.getD (i+j) 0+cn:Nat):Int)+(q:Int))=((L.getD (i+j) 0+cn+q:Nat):Int):=by rw[dM (by omega) (by omega)];omega
    rw[e4];refine⟨p1,f1,_,f2,p2,f3,_,f4,?_⟩;dsimp only;rw[e5,e6];obtain⟨p3,g3,_,g5⟩:=(mr.room 12).get (c:=tc) (j:=((i+j:Nat):Int)) rfl (by omega);obtain⟨u,g6,g7⟩:=g5 _ s4 (lt_of_lt_of_le s5 (Nat.le_add_right _ _)) hkt w;obtain⟨t1,t2⟩:=s3 _ g7;refine⟨_,dL (b:=BB) (by omega) (by decide),_,jV (b:=BB) (by omega) (by omega) (by decide),p3,g3,u,g6,lT (mz2-1) t1 ?_⟩;rw[Int.natCast_ediv]at t2;exact t2
   ·have h6:=dF h6;have y0:y.getD j 0=0:=by rw[gD,getElem?_eq_none (by omega)];rfl
    have hq0:q=0:=by rw[hq,y0,Nat.mul_zero]
    rw[e4];obtain⟨p3,g3,_,g5⟩:=mr.get (c:=tc) (j:=((i+j:Nat):Int)) rfl (by omega);rw[hq0,Nat.add_zero]at s3 s4;obtain⟨u,g6,g7⟩:=g5 _ s4 s5 hkt w;obtain⟨t1,t2⟩:=s3 _ g7;refine⟨_,dL (b:=BB) (by omega) (by decide),_,jV (b:=BB) (by omega) (by omega) (by decide),p3,g3,u,g6,lT (mz2-1) t1 ?_⟩;rw[Int.natCast_ediv]at t2;exact t2
  ·have h5:=dF h5;obtain rfl:j=k+1:=by omega
   refine eH (n-(i+1)) (by omega) ⟨by omega,rfl,L,mr,?_⟩;exact Fk dK hx hy (by omega) mr.lt (by rw[<-hk];exact h4))
theorem JZ{X Y:Nat}(hx:(ay BB X).length<=112)(hy:(ay BB Y).length<=112):(ay BB (X*Y)).length<=10000:=by
 have h1:=cY (bK dK X);have h2:=cY (bK dK Y);rw[bg dK]at h1 h2;have h3:=lt_of_lt_of_le h1 (pow_le_pow_right (show 0<BB by decide) hx);have h4:=lt_of_lt_of_le h2 (pow_le_pow_right (show 0<BB by decide) hy);refine Nat.le_trans (gj dK (k:=224) ?_) (by omega);rw[show 224=112+112 from rfl,pow_add];exact Nat.mul_lt_mul'' h3 h4
theorem wZ(a b:List UInt8){h:aa}(t:mn h)(w:Wf h):FW SS 94 [strOf a,strOf b] h (λv h'=>v=Dp a b/\Ok h h'):=by
 refine Gw a b h _ ((cM a h).mono ?_);rintro _ g0 ⟨rfl,e0⟩;obtain rfl:h=g0:=e0.symm;refine⟨_,rfl,ae (λg=>?_) (λg=>?_)⟩
 ·have g:aC a=false:=by simpa using g
  refine⟨?_,Ok.refl w⟩;unfold Dp;rw[if_neg (λe=>by rw[e.1]at g;cases g)];rfl
 have g:aC a=true:=by simpa using g
 refine(cM b h).mono ?_;rintro _ g0 ⟨rfl,e0⟩;obtain rfl:h=g0:=e0.symm;refine⟨_,rfl,ae (λg2=>?_) (λg2=>?_)⟩
 ·have g2:aC b=false:=by simpa using g2
  refine⟨?_,Ok.refl w⟩;unfold Dp;rw[if_neg (λe=>by rw[e.2]at g2;cases g2)];rfl
 have g2:aC b=true:=by simpa using g2
 have tb:=Mr g g2;have lx:=tb.lx;have ly:=tb.ly;refine(iy g w).mono ?_;rintro _ h1 ⟨a1,n1,c1,rfl,o1,ok1⟩;refine⟨_,_,_,rfl,(iy g2 ok1.wf).mono ?_⟩;rintro _ h2 ⟨a2,n2,c2,rfl,o2,ok2⟩;refine⟨_,_,_,rfl,?_⟩;have hS:Dp a b=pI (Num.val a*Num.val b):=by unfold Dp;rw[if_pos ⟨g,g2⟩]
 rw[hS];have r1:=o1.rd.ok ok2;have r2:=o2.rd;have ok:=ok1.trans ok2;have hn1:n1=(ay BB (Num.val a)).length:=by have:=r1.len;rwa[lM]at this
 have hn2:n2=(ay BB (Num.val b)).length:=by have:=r2.len;rwa[lM]at this
 have hX:=bK dK (Num.val a);have hY:=bK dK (Num.val b);have bX:=bg dK (Num.val a);have bY:=bg dK (Num.val b);have r1:Rd h2 117 (.slice a1 n1 c1) ((ay BB (Num.val a)).map uv):=r1;have r2:Rd h2 117 (.slice a2 n2 c2) ((ay BB (Num.val b)).map uv):=r2;have hsz:(ay BB (Num.val a*Num.val b)).length<=10000:=JZ lx ly;generalize Num.val a=X at*;generalize Num.val b=Y at*;generalize ay BB X=x at*;generalize ay BB Y=y at*;have e1:wrap .i64 (wrap .i64 ((n1:Int)+(n2:Int))+1)=((n1+n2+1:Nat):Int):=by
  rw[aB (n:=(n1:Int)+(n2:Int)) (by omega) (by omega),aB (by omega) (by omega)];omega
 dsimp only;rw[e1];refine⟨_,_,_,MS _ (by omega),?_⟩;have okp:=(Ok.refl ok.wf).push (.cells ((List.replicate (n1+n2+1) 0).map uv) 117 1 true);have m0:MR h2 h2.next (n1+n2+1) (List.replicate (n1+n2+1) 0) (h2.push (.cells ((List.replicate (n1+n2+1) 0).map uv) 117 1 true)):=by
  refine⟨length_replicate,λd hd=>by rw[(List.mem_replicate.1 hd).2];decide,?_,okp⟩;rw[aa.aM,if_pos rfl,iz (by rw[drop_zero,length_replicate,take_of_length_le (by rw[lM,length_replicate];omega)])]
 refine pP a b a1 n1 c1 a2 n2 c2 (some ⟨h2.next,0,none⟩) (n1+n2+1) (n1+n2+1) (n1:Int) (I1 h2 h2.next (n1+n2+1) n1 x y) (λv h'=>v=pI (X*Y)/\Ok h h') (λmz i=>?_) n1 (i:=0) ⟨by omega,by omega,_,m0,by rw[sP,take_zero];simp[Num.bv]⟩;intros;rename_i g hi;obtain⟨f1,f2,L,mr,f3⟩:=hi;refine ae (λh5=>?_) (λh5=>?_)
 ·have h5:=dT h5;have e2:wrap .i64 ((n2:Int)+1)=(n2:Int)+1:=aB (by omega) (by omega);rw[e2];exact Gn ok.wf r1 r2 hX hY (Nat.le_refl _) (i:=i) (by omega) hn1 hn2 rfl (by omega) a b _ mz f2 (n2+1) (j:=0) (cy:=0) ⟨by omega,by omega,L,0,rfl,by decide,mr,by rw[f3,take_zero];simp[Num.bv]⟩
 ·have h5:=dF h5;obtain rfl:n1=i:=by omega
  rw[take_of_length_le (by omega),bX,bY]at f3;have hcap:n1+n2+1<=aX (n1+n2+1):=by unfold aX;rw[if_neg (by unfold bR;omega)];omega
  have rc:=sJ mr.row (n:=n1+n2+1) (c:=n1+n2+1) mr.len.symm hcap;refine(jS rc (by rw[mr.len];omega)).mono ?_;rintro _ h6 ⟨rfl,e6⟩;subst e6;have rt:=qS rc mr.lt;rw[f3]at rt;refine⟨_,_,_,rfl,(nU rt hsz (t.ok (ok.trans mr.ok)) mr.ok.wf).mono ?_⟩;rintro _ h7 ⟨rfl,ok7⟩;exact Fg (K:=λv=>v=pI (X*Y)/\Ok h h7) (A7 _) ⟨rfl,(ok.trans mr.ok).trans ok7⟩
end Go.Proofs.YtaheifbogkjpdaaGreatDoor
end
section
namespace Go.Proofs.YtaheifbogkjpdaaGreatDoor
open Go Go.Ab Go.Num
def vw:bt:= .cells [.bool false,strOf [],strOf []] 120 0 true
theorem Hv:bN SS.P 120=some (vw,kj):=by kernel_rfl
theorem PV(neg:Bool)(n d:List UInt8):bL SS.P 120 [(0,(.bool neg)),(1,(strOf n)),(2,(strOf d))]=some (.agg ⟨[.bool neg,strOf n,strOf d]⟩):=by kernel_rfl
theorem j6:bL SS.P 120 []=some (.agg ⟨[.bool false,strOf [],strOf []]⟩):=by kernel_rfl
theorem JQ:aw SS.P 120=some 3:=by kernel_rfl
theorem PK:Go.Ab.isAgg SS.P 120=true:=by kernel_rfl
noncomputable def Pr:TypeDesc:=(SS.P.underlying 120).getD .bool
theorem RK:SS.P.underlying 120=some Pr:=by kernel_rfl
theorem M0{h:aa}{k:Nat}{cs0:List Value}(hl:cs0.length=3)(hk:h.get k=some (.cells cs0 120 0 true))(b:Bool)(n d:List UInt8):an SS.P 120 (.pointer (some ⟨k,0,none⟩)) (.agg ⟨[.bool b,strOf n,strOf d]⟩) h=some (undef,.set k (.cells [.bool b,strOf n,strOf d] 120 0 true)):=by
 unfold an;dsimp only;rw[if_pos (show aw SS.P 120=some ((Value.agg ⟨[.bool b,strOf n,strOf d]⟩).cells).size from JQ)];unfold storeAt;rw[hk];dsimp only;have hs:([.bool b,strOf n,strOf d]:List Value).all cH=true:=rfl;rw[show(Value.agg ⟨[.bool b,strOf n,strOf d]⟩).cells.toList=[.bool b,strOf n,strOf d]from rfl,if_pos ⟨by simp[hl],hs⟩,drop_eq_nil_of_le (by simp[hl])];rfl
theorem QE{h:aa}{k:Nat}{b:Bool}{n d:List UInt8}(hk:h.get k=some (.cells [.bool b,strOf n,strOf d] 120 0 true)):ag SS.P 120 h (.pointer (some ⟨k,0,none⟩))=some (.agg ⟨[.bool b,strOf n,strOf d]⟩):=rC RK PK JQ hk (by simp)
theorem jw(l:List UInt8)(h:aa):FW SS 93 [strOf l,.int .i64 0] h (λv h'=>v=strOf l/\h'=h):=
 DD l 0 h _ (ae (λg=>by cases g) (λ_=>⟨rfl,rfl⟩))
theorem DF(s:Bool)(A:Nat)(t:Bool)(B:Nat)(hA:A<10^800)(hB:B<10^800){h:aa}(tb:mn h)(w:Wf h):FW SS 92 [.bool s,strOf (av A),.bool t,strOf (av B)] h (λv h'=>v=E3 s A t B/\Ok h h'):=by
 refine DE s _ t _ h _ (ae (λg=>?_) (λg=>?_))
 ·have g:s=t:=by simpa using g
  refine(Gr _ _ tb w).mono ?_;rintro _ h1 ⟨rfl,o1⟩;rw[Hs hA hB];refine⟨_,_,rfl,(jw _ _).mono ?_⟩;rintro _ _ ⟨rfl,rfl⟩;refine⟨_,rfl,?_,o1⟩;unfold E3 jK;rw[if_pos g]
 ·have g:¬s=t:=by simpa using g
  refine(Gt _ _ tb w).mono ?_;rintro _ h1 ⟨rfl,o1⟩;rw[H2 hA hB];refine⟨_,rfl,ae (λg1=>?_) (λg1=>?_)⟩
  ·have g1:=dT g1;have g2:A<B:=Ak.1 (by omega);refine(w5 _ _ (tb.ok o1) o1.wf).mono ?_;rintro _ h2 ⟨rfl,o2⟩;rw[B0 hB hA (le_of_lt g2)];refine⟨_,_,rfl,(jw _ _).mono ?_⟩;rintro _ _ ⟨rfl,rfl⟩;refine⟨_,rfl,?_,o1.trans o2⟩;unfold E3 jK;rw[if_neg g,if_pos g2]
  ·have g1:=dF g1;have g2:¬A<B:=λc=>by have:=Ak.2 c;omega
   refine(w5 _ _ (tb.ok o1) o1.wf).mono ?_;rintro _ h2 ⟨rfl,o2⟩;rw[B0 hA hB (Nat.not_lt.1 g2)];refine⟨_,_,rfl,(jw _ _).mono ?_⟩;rintro _ _ ⟨rfl,rfl⟩;refine⟨_,rfl,?_,o1.trans o2⟩;unfold E3 jK;rw[if_neg g,if_neg g2]
def GA(b:Bool)(n d:List UInt8):Value:= .agg ⟨[.bool b,strOf n,strOf d]⟩
def oN(l:List UInt8):Value:=if dr l=true then .tuple ⟨[GA (Num.isNeg l) (Num.numOf l) (ct l),.bool true]⟩else .tuple ⟨[GA false [] [],.bool false]⟩
def np(b:Bool)(n d:List UInt8):Value:= .tuple ⟨[GA b n d,.bool true]⟩
def mQ:Value:= .tuple ⟨[GA false [] [],.bool false]⟩
structure Ct(h0:aa)(k:Nat)(g:aa):Prop where
 row:∃cs0:List Value,cs0.length=3/\g.get k=some (.cells cs0 120 0 true)
 new:h0.next<=k
 ok:Ok h0 g
theorem Ct.trans{h0:aa}{k:Nat}{g g':aa}(m:Ct h0 k g)(o:Ok g g'):Ct h0 k g':=by
 obtain⟨⟨cs,h1,h2⟩,h3,h4⟩:=m;exact⟨⟨cs,h1,o.ext _ _ h2⟩,h3,h4.trans o⟩
theorem Bo{h0:aa}(w:Wf h0){k:Nat}{g:aa}(m:Ct h0 k g)(b:Bool)(n d:List UInt8)(okb:Bool){Q:VH}(hq:∀g',Ok h0 g'->Q (.tuple ⟨[GA b n d,.bool okb]⟩) g'):
  ∃u:cL,an SS.P 120 (.pointer (some ⟨k,0,none⟩)) (.agg ⟨[.bool b,strOf n,strOf d]⟩) g=some (undef,u)/\iP SS [(.pointer (some ⟨k,0,none⟩),some 120),(.bool okb,none)] (u.app g) Q:=by
 obtain⟨⟨cs,hl,hk⟩,h4,h5⟩:=m;refine⟨_,M0 hl hk b n d,?_⟩;have o:Ok h0 ((cL.set k (.cells [.bool b,strOf n,strOf d] 120 0 true)).app g):=h5.set _ h4 (h5.wf _ _ hk) w;have hg:((cL.set k (.cells [.bool b,strOf n,strOf d] 120 0 true)).app g).get k=some (.cells [.bool b,strOf n,strOf d] 120 0 true):=by
  show(g.set k _).get k=_;rw[aa.aR,if_pos rfl]
 refine Az (v:=GA b n d) (QE hg) ?_;exact hq _ o
def LZ(n d:List UInt8)(neg fnd:Bool):Prop:=aC n=true/\aC d=true/\n.length<=400/\d.length<=400/\¬(neg=true/\n=[48])/\¬(fnd=true/\(d=[48]\/d=[49]))/\Nat.gcd (Num.val n) (Num.val d)=1
theorem im{h0:aa}(w:Wf h0){k:Nat}{g:aa}(m:Ct h0 k g){C:Prop}(hc:¬C){G:Value}:
  ∃u:cL,an SS.P 120 (.pointer (some ⟨k,0,none⟩)) (.agg ⟨[.bool false,strOf [],strOf []]⟩) g=some (undef,u)/\iP SS [(.pointer (some ⟨k,0,none⟩),some 120),(.bool false,none)] (u.app g) (oO h0 C G mQ):=
 Bo w m false [] [] false (λ_ o=>GD o hc)
theorem E6(n d:List UInt8)(neg fnd:Bool)(k:Nat){h0 g:aa}(w:Wf h0)(m:Ct h0 k g)(tb:mn g){x0 x1 x3 x4 x9 x10 x11 x12 x13 x14 x15 x16 x17 x18 x19 x20 x21 x22 x23 x24 x25 x26 x27 x28 x29 x30 x31 x32 x33 x34 x35 x36 x37 x38 x39 x40 x41 x42 x43 x44 x45 x46 x47 x48 x49 x50 x51 x52 x53 x54 x55 x56 x57 x58 x59 x60 x61 x62 x63 x64 x65 x66 x67 x68 x69 x70 x71 x72 x73 x74 x75 x76:Value}:
  TT SS ai [1,1,1,1] [x0,x1,.pointer (some ⟨k,0,none⟩),x3,x4,.bool neg,strOf n,strOf d,.bool fnd,x9,x10,x11,x12,x13,x14,x15,x16,x17,x18,x19,x20,x21,x22,x23,x24,x25,x26,x27,x28,x29,x30,x31,x32,x33,x34,x35,x36,x37,x38,x39,x40,x41,x42,x43,x44,x45,x46,x47,x48,x49,x50,x51,x52,x53,x54,x55,x56,x57,x58,x59,x60,x61,x62,x63,x64,x65,x66,x67,x68,x69,x70,x71,x72,x73,x74,x75,x76] g (EE SS ai (oO h0 (LZ n d neg fnd) (np neg n d) mQ)):=by
 refine uF ((cM n g).mono ?_);rintro _ g0 ⟨rfl,e0⟩;obtain rfl:g=g0:=e0.symm;refine⟨_,rfl,ae (λg1=>⟨_,j6,im w m (λc=>?_)⟩) (λg1=>?_)⟩
 ·rw[c.1]at g1;cases g1
 have g1:aC n=true:=by simpa using g1
 refine(cM d g).mono ?_;rintro _ g0 ⟨rfl,e0⟩;obtain rfl:g=g0:=e0.symm;refine⟨_,rfl,ae (λg2=>⟨_,j6,im w m (λc=>?_)⟩) (λg2=>?_)⟩
 ·rw[c.2.1]at g2;cases g2
 have g2:aC d=true:=by simpa using g2
 refine ae (λg3=>⟨_,j6,im w m (λc=>?_)⟩) (λg3=>?_)
 ·have:=c.2.2.1;have g3:=dT g3;omega
 have g3:n.length<=400:=by have g3:=dF g3;omega
 refine ae (λg4=>⟨_,j6,im w m (λc=>?_)⟩) (λg4=>?_)
 ·have:=c.2.2.2.1;have g4:=dT g4;omega
 have g4:d.length<=400:=by have g4:=dF g4;omega
 have fin:¬(neg=true/\n=[48])->¬(fnd=true/\(d=[48]\/d=[49]))->∀{x0 x1 x3 x4 x9 x10 x11 x12 x13 x14 x15 x16 x17 x18 x19 x20 x21 x22 x23 x24 x25 x26 x27 x28 x29 x30 x31 x32 x33 x34 x35 x36 x37 x38 x39 x40 x41 x42 x43 x44 x45 x46 x47 x48 x49 x50 x51 x52 x53 x54 x55 x56 x57 x58 x59 x60 x61 x62 x63 x64 x65 x66 x67 x68 x69 x70 x71 x72 x73 x74 x75 x76:Value},TT SS ai [1,1,1,1,1,1] [x0,x1,.pointer (some ⟨k,0,none⟩),x3,x4,.bool neg,strOf n,strOf d,.bool fnd,x9,x10,x11,x12,x13,x14,x15,x16,x17,x18,x19,x20,x21,x22,x23,x24,x25,x26,x27,x28,x29,x30,x31,x32,x33,x34,x35,x36,x37,x38,x39,x40,x41,x42,x43,x44,x45,x46,x47,x48,x49,x50,x51,x52,x53,x54,x55,x56,x57,x58,x59,x60,x61,x62,x63,x64,x65,x66,x67,x68,x69,x70,x71,x72,x73,x74,x75,x76] g (EE SS ai (oO h0 (LZ n d neg fnd) (np neg n d) mQ)):=by
  intro c5 c6;intros;refine uH ((Gv n d tb m.ok.wf).mono ?_);rintro _ h1 ⟨rfl,o1⟩;have m1:=m.trans o1;rw[Iw g1 g2];refine⟨_,_,rfl,ae (λe=>by cases e) (λ_=>?_)⟩;refine ae (λe=>⟨_,j6,im w m1 (λc=>?_)⟩) (λe=>?_)
  ·have e:¬av (Nat.gcd (Num.val n) (Num.val d))=[49]:=by simpa using e
   exact e (mj.2 c.2.2.2.2.2.2)
  ·have e:av (Nat.gcd (Num.val n) (Num.val d))=[49]:=by simpa using e
   refine uI ⟨_,PV neg n d,Bo w m1 neg n d true (λ_ o=>DA o ?_)⟩;exact⟨g1,g2,g3,g4,c5,c6,mj.1 e⟩
 refine uG (ae (λg5=>ae (λg6=>⟨_,j6,im w m (λc=>?_)⟩) (λg6=>?_)) (λg5=>?_))
 ·exact c.2.2.2.2.1 ⟨g5,by simpa using g6⟩
 ·have c5:¬(neg=true/\n=[48]):=λc=>by
   have:¬n=[48]:=by simpa using g6
   exact this c.2
  refine ae (λg7=>ae (λg8=>⟨_,j6,im w m (λc=>?_)⟩) (λg8=>ae (λg9=>⟨_,j6,im w m (λc=>?_)⟩) (λg9=>?_))) (λg7=>?_)
  ·exact c.2.2.2.2.2.1 ⟨g7,.inl (by simpa using g8)⟩
  ·exact c.2.2.2.2.2.1 ⟨g7,.inr (by simpa using g9)⟩
  ·refine fin c5 (λc=>?_);have g8:¬d=[48]:=by simpa using g8
   have g9:¬d=[49]:=by simpa using g9
   exact c.2.elim g8 g9
  ·exact fin c5 (λc=>by rw[c.1]at g7;cases g7)
 ·have c5:¬(neg=true/\n=[48]):=λc=>by rw[c.1]at g5;cases g5
  refine ae (λg7=>ae (λg8=>⟨_,j6,im w m (λc=>?_)⟩) (λg8=>ae (λg9=>⟨_,j6,im w m (λc=>?_)⟩) (λg9=>?_))) (λg7=>?_)
  ·exact c.2.2.2.2.2.1 ⟨g7,.inl (by simpa using g8)⟩
  ·exact c.2.2.2.2.2.1 ⟨g7,.inr (by simpa using g9)⟩
  ·refine fin c5 (λc=>?_);have g8:¬d=[48]:=by simpa using g8
   have g9:¬d=[49]:=by simpa using g9
   exact c.2.elim g8 g9
  ·exact fin c5 (λc=>by rw[c.1]at g7;cases g7)
theorem ze{h:aa}{l:List UInt8}{v:Value}{h':aa}(q:oO h (LZ (Num.numOf l) (ct l) (Num.isNeg l) (fc l)) (np (Num.isNeg l) (Num.numOf l) (ct l)) mQ v h'):v=oN l/\Ok h h':=by
 obtain⟨o,q1,q2⟩:=q;refine⟨?_,o⟩;unfold oN;by_cases g:dr l=true
 ·rw[if_pos g];have r:=jJ.1 g;exact q1 ⟨r.num,r.den,r.ln,r.ld,r.neg,r.fr,r.one⟩
 ·rw[if_neg g];exact q2 λc=>g (jJ.2 ⟨c.1,c.2.1,c.2.2.1,c.2.2.2.1,c.2.2.2.2.1,c.2.2.2.2.2.1,c.2.2.2.2.2.2⟩)
theorem mT(l:List UInt8)(hl:l.length<=281474976710656){h:aa}(tb:mn h)(w:Wf h):FW SS 130 [strOf l] h (λv h'=>v=oN l/\Ok h h'):=by
 refine FW.mono (Q:=oO h (LZ (Num.numOf l) (ct l) (Num.isNeg l) (fc l)) (np (Num.isNeg l) (Num.numOf l) (ct l)) mQ) ?_ (λ_ _ q=>ze q);have m0:Ct h h.next (h.push vw):=⟨⟨_,rfl,by rw[aa.aM,if_pos rfl];rfl⟩,Nat.le_refl _,(Ok.refl w).push _⟩
 refine BE l h _ ⟨_,Hv,(FO l _).mono ?_⟩;rintro _ g0 ⟨rfl,rfl⟩;have hm:(bJ l).length<=281474976710656:=by
  unfold bJ;split
  ·rw[length_drop];omega
  ·exact hl
 refine⟨_,_,rfl,(ND _ hm m0.ok.wf).mono ?_⟩;rintro _ g1 ⟨rfl,o1⟩;have m1:=m0.trans o1;have t1:=tb.ok m1.ok;unfold FP;by_cases hs:dN 47 (bJ l)<(bJ l).length
 ·rw[if_pos hs];have hst:fc l=true:=decide_eq_true hs;have e2:ct l=(bJ l).drop (dN 47 (bJ l)+1):=by unfold ct;rw[if_pos hst]
  rw[hst];refine⟨_,_,_,rfl,ae (λe=>by cases e) (λ_=>?_)⟩;rw[<-e2];exact E6 _ _ _ true _ w m1 t1
 ·rw[if_neg hs];have hst:fc l=false:=decide_eq_false hs;have e2:ct l=[49]:=by unfold ct;rw[hst];rfl
  have e1:Num.numOf l=bJ l:=by unfold Num.numOf;rw[take_of_length_le (by omega)]
  rw[hst,e1,e2];refine⟨_,_,_,rfl,ae (λ_=>?_) (λe=>by cases e)⟩;exact E6 _ _ _ false _ w m1 t1
theorem Dz(l:List UInt8):∃(cs:List Value)(b:Bool),oN l = .tuple ⟨[.agg ⟨cs⟩,.bool b]⟩/\b=dr l:=by
 unfold oN
 cases g:dr l with
 |true=>exact⟨_,_,rfl,rfl⟩
 |false=>exact⟨_,_,rfl,rfl⟩
theorem rF(l:List UInt8)(hl:l.length<=281474976710656){h:aa}(tb:mn h)(w:Wf h):FW SS 96 [strOf l] h (λv h'=>v = .bool (dr l)/\Ok h h'):=by
 refine BF l h _ ((mT l hl tb w).mono ?_);rintro _ h1 ⟨rfl,o1⟩;obtain⟨cs,b,e,e2⟩:=Dz l;exact⟨cs,b,e,by rw[e2],o1⟩
theorem EF(k:Nat):ah SS.P 120 (.pointer (some ⟨k,0,none⟩)) 0=some (.pointer (some ⟨k,0,none⟩)):=by kernel_rfl
theorem EG(k:Nat):ah SS.P 120 (.pointer (some ⟨k,0,none⟩)) 1=some (.pointer (some ⟨k,1,none⟩)):=by kernel_rfl
theorem EH(k:Nat):ah SS.P 120 (.pointer (some ⟨k,0,none⟩)) 2=some (.pointer (some ⟨k,2,none⟩)):=by kernel_rfl
theorem Uh:SS.P.underlying 4=some .bool:=Tryz.underlying4
theorem T3:Go.Ab.isAgg SS.P 4=false:=by kernel_rfl
theorem Nk:Go.Ab.isAgg SS.P 9=false:=by kernel_rfl
def j4(g:aa)(k:Nat)(b:Bool)(n d:List UInt8):Prop:=g.get k=some (.cells [.bool b,strOf n,strOf d] 120 0 true)
theorem j4.ok{g g':aa}{k:Nat}{b:Bool}{n d:List UInt8}(x:j4 g k b n d)(o:Ok g g'):j4 g' k b n d:=o.ext _ _ x
theorem j4.l0{g:aa}{k:Nat}{b:Bool}{n d:List UInt8}(x:j4 g k b n d):ag SS.P 4 g (.pointer (some ⟨k,0,none⟩))=some (.bool b):=eI Uh T3 x (by simp)
theorem j4.l1{g:aa}{k:Nat}{b:Bool}{n d:List UInt8}(x:j4 g k b n d):ag SS.P 9 g (.pointer (some ⟨k,1,none⟩))=some (strOf n):=eI Ms Nk x (by simp)
theorem j4.l2{g:aa}{k:Nat}{b:Bool}{n d:List UInt8}(x:j4 g k b n d):ag SS.P 9 g (.pointer (some ⟨k,2,none⟩))=some (strOf d):=eI Ms Nk x (by simp)
theorem Jl{h:aa}(w:Wf h)(b:Bool)(n d:List UInt8):∃u:cL,an SS.P 120 (.pointer (some ⟨h.next,0,none⟩)) (.agg ⟨[.bool b,strOf n,strOf d]⟩) (h.push vw)=some (undef,u)/\Ok h (u.app (h.push vw))/\j4 (u.app (h.push vw)) h.next b n d:=by
 have hk:(h.push vw).get h.next=some vw:=by rw[aa.aM,if_pos rfl]
 refine⟨_,M0 (cs0:=[.bool false,strOf [],strOf []]) rfl hk b n d,?_,?_⟩
 ·exact((Ok.refl w).push _).set _ (Nat.le_refl _) (Nat.lt_succ_self _) w
 ·show((h.push vw).set h.next _).get h.next=_;rw[aa.aR,if_pos rfl]
theorem w7(l:List UInt8):∃(b:Bool)(n d:List UInt8),oN l = .tuple ⟨[.agg ⟨[.bool b,strOf n,strOf d]⟩,.bool (dr l)]⟩/\(dr l=true->b=Num.isNeg l/\n=Num.numOf l/\d=ct l):=by
 unfold oN
 cases g:dr l with
 |true=>exact⟨_,_,_,rfl,λ_=>⟨rfl,rfl,rfl⟩⟩
 |false=>exact⟨_,_,_,rfl,λe=>by cases e⟩
theorem rM(b:Bool):jB 4 (.bool b) (.bool b)=true:=by simp[jB]
theorem Fj(l:List UInt8):jB 4 (strOf l) (strOf l)=true:=by simp[jB,strOf]
theorem GL(l m:List UInt8)(hl:l.length<=281474976710656)(hm:m.length<=281474976710656){h:aa}(tb:mn h)(w:Wf h):FW SS 152 [strOf l,strOf m] h (λv h'=>v = .int .i64 (kg l m)/\Ok h h'):=by
 refine GK l m h _ ((mT l hl tb w).mono ?_);rintro _ h1 ⟨rfl,o1⟩;obtain⟨b,n,d,e1,f1⟩:=w7 l;obtain⟨u1,s1,s2,s3⟩:=Jl o1.wf b n d;refine⟨_,_,e1,_,Hv,u1,s1,?_⟩;have ok1:=o1.trans s2;generalize u1.app (h1.push vw)=g1 at*;refine(mT m hm (tb.ok ok1) ok1.wf).mono ?_;rintro _ h2 ⟨rfl,o2⟩;obtain⟨b',n',d',e2,f2⟩:=w7 m;obtain⟨u2,r1,r2,r3⟩:=Jl o2.wf b' n' d';refine⟨_,_,e2,_,Hv,u2,r1,?_⟩;have ok2:=(ok1.trans o2).trans r2;have x1:=(s3.ok o2).ok r2;generalize u2.app (h2.push vw)=g2 at*;generalize h1.next=k1 at*;generalize h2.next=k2 at*;refine ae (λq=>⟨?_,ok2⟩) (λq=>ae (λq2=>⟨?_,ok2⟩) (λq2=>?_))
 ·have q:dr l=false:=by simpa using q
  unfold kg;rw[if_neg (λc=>by rw[c.1]at q;cases q)]
 ·have q2:dr m=false:=by simpa using q2
  unfold kg;rw[if_neg (λc=>by rw[c.2]at q2;cases q2)]
 have q:dr l=true:=by simpa using q
 have q2:dr m=true:=by simpa using q2
 obtain⟨rfl,rfl,rfl⟩:=f1 q;obtain⟨rfl,rfl,rfl⟩:=f2 q2;have i1:=jJ.1 q;have i2:=jJ.1 q2;have or:Ok g2 (Go.Ab.room g2 27):=(Ok.refl ok2.wf).room 27;refine⟨_,EF _,_,(x1.ok or).l0,_,EG _,_,(x1.ok or).l1,_,EH _,_,(r3.ok or).l2,?_⟩;have okr:=ok2.trans or;refine(wZ _ _ (tb.ok okr) okr.wf).mono ?_;rintro _ h3 ⟨rfl,o3⟩;rw[(pN i1.num i2.den i1.ln i2.ld).1];refine⟨_,_,rfl,(jw _ _).mono ?_⟩;rintro _ h3' ⟨rfl,eh⟩;obtain rfl:h3=h3':=eh.symm;have p3:=or.trans o3;refine⟨_,rfl,_,EF _,_,(r3.ok p3).l0,_,EG _,_,(r3.ok p3).l1,_,EH _,_,(x1.ok p3).l2,?_⟩;have ok3:=ok2.trans p3;refine(wZ _ _ (tb.ok ok3) ok3.wf).mono ?_;rintro _ h4 ⟨rfl,o4⟩;rw[(pN i2.num i1.den i2.ln i1.ld).1];refine⟨_,_,rfl,(jw _ _).mono ?_⟩;rintro _ h4' ⟨rfl,eh⟩;obtain rfl:h4=h4':=eh.symm;have p4:=p3.trans o4;have ok4:=ok2.trans p4;refine⟨_,rfl,(DF _ _ _ _ (pN i1.num i2.den i1.ln i2.ld).2 (pN i2.num i1.den i2.ln i1.ld).2 (tb.ok ok4) ok4.wf).mono ?_⟩;rintro _ h5 ⟨rfl,o5⟩;have ok5:=ok4.trans o5;refine⟨_,_,rfl,⟨(x1.ok p3).l0,rM _⟩,⟨(x1.ok p3).l0,rM _⟩,⟨(x1.ok p4).l0,rM _⟩,⟨(x1.ok p4).l0,rM _⟩,⟨(r3.ok or).l0,rM _⟩,⟨(r3.ok p3).l0,rM _⟩,⟨(r3.ok p4).l0,rM _⟩,⟨(r3.ok p4).l0,rM _⟩,⟨(r3.ok or).l1,Fj _⟩,⟨(r3.ok p3).l1,Fj _⟩,⟨(x1.ok or).l2,Fj _⟩,⟨(x1.ok p3).l2,Fj _⟩,?_⟩;unfold kg;rw[if_pos ⟨q,q2⟩];generalize jK _ _ _ _=z;refine ae (λg3=>⟨?_,ok5⟩) (λg3=>?_)
 ·have g3:av z.2=[48]:=by simpa using g3
  rw[if_pos (lO.1 g3)]
 ·have g3:¬av z.2=[48]:=by simpa using g3
  rw[if_neg (λc=>g3 (lO.2 c))];refine ae (λg4=>⟨?_,ok5⟩) (λg4=>⟨?_,ok5⟩)
  ·rw[if_pos g4]
  ·rw[if_neg (by rw[g4];simp)]
noncomputable def DP:FD:=fo Tryz.f68 []
theorem BS  (h:aa) (Q:VH) (hx:xN (bN SS.P 97) h λB1 g2=>xA (bL SS.P 79 [(0,(strOf [105,110,102])),(1,(strOf [48])),(2,(.bool true)),(3,(.func (.func 107) ⟨[]⟩ ⟨[]⟩)),(4,(.func (.func 108) ⟨[]⟩ ⟨[]⟩)),(5,(.func (.func 109) ⟨[]⟩ ⟨[]⟩)),(6,(.func (.func 96) ⟨[]⟩ ⟨[]⟩)),(7,(.func (.func 96) ⟨[]⟩ ⟨[]⟩))]) λc3=>xA (bL SS.P 79 [(0,(strOf [48])),(1,(strOf [49])),(2,(.bool false)),(3,(.func (.func 110) ⟨[]⟩ ⟨[]⟩)),(4,(.func (.func 111) ⟨[]⟩ ⟨[]⟩)),(5,(.func (.func 112) ⟨[]⟩ ⟨[]⟩)),(6,(.func (.func 113) ⟨[]⟩ ⟨[]⟩)),(7,(.func (.func 114) ⟨[]⟩ ⟨[]⟩))]) λc4=>xA (bL SS.P 79 [(0,(strOf [48])),(1,(strOf [49])),(2,(.bool false)),(3,(.func (.func 107) ⟨[]⟩ ⟨[]⟩)),(4,(.func (.func 111) ⟨[]⟩ ⟨[]⟩)),(5,(.func (.func 115) ⟨[]⟩ ⟨[]⟩)),(6,(.func (.func 113) ⟨[]⟩ ⟨[]⟩)),(7,(.func (.func 114) ⟨[]⟩ ⟨[]⟩))]) λc5=>xA (bL SS.P 97 [(1,(.agg ⟨c3⟩)),(2,(.agg ⟨c4⟩)),(3,(.agg ⟨c5⟩))]) λc6=>xU (an SS.P 97 (pA (h.next)) (.agg ⟨c6⟩) g2) g2 λu7 g8=>iP SS [((pA (h.next)),some 97)] g8 Q):FW SS 68 [] h Q:=fy DP Tryz.func68 (az hx)
noncomputable def L8:FD:=fo Tryz.f45 []
theorem JG(kind:Int)(h:aa)(Q:VH)(hx:xN (bN SS.P 79) h λB1 g2=>aZ (decide ((kind:Int)<1)) (xA (bL SS.P 79 []) λc3=>xU (an SS.P 79 (pA (h.next)) (.agg ⟨c3⟩) g2) g2 λu4 g5=>iP SS [((pA (h.next)),some 79),((.bool false),none)] g5 Q) (aZ (decide ((kind:Int)>3)) (xA (bL SS.P 79 []) λc6=>xU (an SS.P 79 (pA (h.next)) (.agg ⟨c6⟩) g2) g2 λu7 g8=>iP SS [((pA (h.next)),some 79),((.bool false),none)] g8 Q) (FW SS 68 [] g2 λv9 h10=>yA v9 λbE=>xA (bu SS.P 97 (.agg ⟨bE⟩) (.int .i64 kind)) λbO=>xU (an SS.P 79 (pA (h.next)) (.agg ⟨bO⟩) h10) h10 λPE Hj=>iP SS [((pA (h.next)),some 79),((.bool true),none)] Hj Q))):FW SS 45 [(.int .i64 kind)] h Q:=fy L8 Tryz.func45 (az hx)
noncomputable def wb:FD:=fo Tryz.f114 []
theorem uT(l:LB)(h:aa)(Q:VH)(hx:FW SS 96 [(strOf l)] h λv1 h2=>yB v1 λb3=>aZ b3 (FW SS 152 [(strOf l),(strOf [48])] h2 λv4 h5=>yI .i64 v4 λn6=>Q (.bool (decide ((n6:Int)>0))) h5) (Q (.bool false) h2)):FW SS 114 [(strOf l)] h Q:=fy wb Tryz.func114 (az hx)
noncomputable def BU:FD:=fo Tryz.f50 []
theorem zm(kind:Int)(l:LB)(h:aa)(Q:VH)(hx:FW SS 45 [(.int .i64 kind)] h λv1 h2=>∃cs3:LV,∃b4:Bool,v1=(.tuple ⟨[(.agg ⟨cs3⟩),(.bool b4)]⟩)/\xN (bN SS.P 79) h2 λB5 g6=>xU (an SS.P 79 (pA (h2.next)) (.agg ⟨cs3⟩) g6) g6 λu7 g8=>aZ b4 (xP (ah SS.P 79 (pA (h2.next)) 7) λp9=>xF (ag SS.P 77 g8 (.pointer (some p9))) λzG a11 bO=>aZ (Nat.blt zG YB) (FW SS zG (a11++[(strOf l)]++bO) g8 λv13 h14=>yB v13 λb15=>Q (.bool b15) h14) False) (Q (.bool false) g8)):FW SS 50 [(.int .i64 kind),(strOf l)] h Q:=fy BU Tryz.func50 (az hx)
theorem jU{P:Program}{t:TypeId}{n:Nat}(hs:aw P t=some n){h:aa}{k:Nat}{cs0:List Value}(hl:cs0.length=n)(hk:h.get k=some (.cells cs0 t 0 true)){cs:List Value}(hc:cs.length=n)(hv:cs.all cH=true):an P t (.pointer (some ⟨k,0,none⟩)) (.agg ⟨cs⟩) h=some (undef,.set k (.cells cs t 0 true)):=by
 unfold an;dsimp only;have e1:(Value.agg ⟨cs⟩).cells.size=n:=by show cs.toArray.size=n;simpa using hc
 have e2:(Value.agg ⟨cs⟩).cells.toList=cs:=rfl;rw[if_pos (by rw[e1,hs])];unfold storeAt;rw[hk,e2];dsimp only;rw[if_pos ⟨by omega,hv⟩,drop_eq_nil_of_le (by omega)];simp
theorem lk{h0 h:aa}(w:Wf h0)(o:Ok h0 h){k:Nat}{t:TypeId}{cs0 cs:List Value}(hk:h.get k=some (.cells cs0 t 0 true))(hn:h0.next<=k):Ok h0 ((cL.set k (.cells cs t 0 true)).app h)/\((cL.set k (.cells cs t 0 true)).app h).get k=some (.cells cs t 0 true):=by
 refine⟨o.set _ hn (o.wf _ _ hk) w,?_⟩;show(h.set k _).get k=_;rw[aa.aR,if_pos rfl]
theorem bm(h:aa)(B:bt):(h.push B).get h.next=some B:=by rw[aa.aM,if_pos rfl]
def vv(i:Nat):Value:= .func (.func i) ⟨[]⟩ ⟨[]⟩
def iL:List Value:=[strOf [],strOf [],.bool false,.nilFunc,.nilFunc,.nilFunc,.nilFunc,.nilFunc]
def uP:List Value:=[strOf [105,110,102],strOf [48],.bool true,vv 107,vv 108,vv 109,vv 96,vv 96]
def uQ:List Value:=[strOf [48],strOf [49],.bool false,vv 110,vv 111,vv 112,vv 113,vv 114]
def uR:List Value:=[strOf [48],strOf [49],.bool false,vv 107,vv 111,vv 115,vv 113,vv 114]
def qR:List Value:=iL++uP++uQ++uR
def R1:bt:= .cells (iL++iL++iL++iL) 97 0 true
def Kp:bt:= .cells iL 79 0 true
theorem Sn:bN SS.P 97=some (R1,kj):=by kernel_rfl
theorem Nl:bN SS.P 79=some (Kp,kj):=by kernel_rfl
theorem M3:aw SS.P 97=some 32:=by kernel_rfl
theorem Ff:aw SS.P 79=some 8:=by kernel_rfl
theorem Sl:Go.Ab.isAgg SS.P 97=true:=by kernel_rfl
theorem Sk:Go.Ab.isAgg SS.P 79=true:=by kernel_rfl
noncomputable def RU:TypeDesc:=(SS.P.underlying 97).getD .bool
theorem Tw:SS.P.underlying 97=some RU:=by kernel_rfl
noncomputable def RT:TypeDesc:=(SS.P.underlying 79).getD .bool
theorem Tv:SS.P.underlying 79=some RT:=by kernel_rfl
noncomputable def RS:TypeDesc:=(SS.P.underlying 77).getD .bool
theorem Tu:SS.P.underlying 77=some RS:=by kernel_rfl
theorem Sj:Go.Ab.isAgg SS.P 77=false:=by kernel_rfl
theorem Nr:bL SS.P 79 [(0,(strOf [105,110,102])),(1,(strOf [48])),(2,(.bool true)),(3,(.func (.func 107) ⟨[]⟩ ⟨[]⟩)),(4,(.func (.func 108) ⟨[]⟩ ⟨[]⟩)),(5,(.func (.func 109) ⟨[]⟩ ⟨[]⟩)),(6,(.func (.func 96) ⟨[]⟩ ⟨[]⟩)),(7,(.func (.func 96) ⟨[]⟩ ⟨[]⟩))]=some (.agg ⟨uP⟩):=by kernel_rfl
theorem Ns:bL SS.P 79 [(0,(strOf [48])),(1,(strOf [49])),(2,(.bool false)),(3,(.func (.func 110) ⟨[]⟩ ⟨[]⟩)),(4,(.func (.func 111) ⟨[]⟩ ⟨[]⟩)),(5,(.func (.func 112) ⟨[]⟩ ⟨[]⟩)),(6,(.func (.func 113) ⟨[]⟩ ⟨[]⟩)),(7,(.func (.func 114) ⟨[]⟩ ⟨[]⟩))]=some (.agg ⟨uQ⟩):=by kernel_rfl
theorem Nt:bL SS.P 79 [(0,(strOf [48])),(1,(strOf [49])),(2,(.bool false)),(3,(.func (.func 107) ⟨[]⟩ ⟨[]⟩)),(4,(.func (.func 111) ⟨[]⟩ ⟨[]⟩)),(5,(.func (.func 115) ⟨[]⟩ ⟨[]⟩)),(6,(.func (.func 113) ⟨[]⟩ ⟨[]⟩)),(7,(.func (.func 114) ⟨[]⟩ ⟨[]⟩))]=some (.agg ⟨uR⟩):=by kernel_rfl
theorem HL:bL SS.P 79 []=some (.agg ⟨iL⟩):=by kernel_rfl
theorem Su:bL SS.P 97 [(1,(.agg ⟨uP⟩)),(2,(.agg ⟨uQ⟩)),(3,(.agg ⟨uR⟩))]=some (.agg ⟨qR⟩):=by kernel_rfl
theorem BT{h:aa}(w:Wf h):FW SS 68 [] h (λv h'=>v = .agg ⟨qR⟩/\Ok h h'):=by
 have hk:(h.push R1).get h.next=some (.cells (iL++iL++iL++iL) 97 0 true):=bm h R1;refine BS h _ ⟨_,Sn,_,Nr,_,Ns,_,Nt,_,Su,_,jU M3 (by rfl) hk (cs:=qR) (by rfl) (by rfl),?_⟩;obtain⟨o,g⟩:=lk (cs:=qR) w ((Ok.refl w).push R1) hk (Nat.le_refl _);refine Ay (v:= .agg ⟨qR⟩) (rC Tw Sl M3 g (by simp[qR,iL,uP,uQ,uR])) ?_;exact⟨rfl,o⟩
def N5(kind:Int):Value:=if kind=1 then .tuple ⟨[.agg ⟨uP⟩,.bool true]⟩else if kind=2 then .tuple ⟨[.agg ⟨uQ⟩,.bool true]⟩else if kind=3 then .tuple ⟨[.agg ⟨uR⟩,.bool true]⟩else .tuple ⟨[.agg ⟨iL⟩,.bool false]⟩
theorem ur{h0:aa}(w:Wf h0){g:aa}(o:Ok h0 g){k:Nat}{cs0:List Value}(hl:cs0.length=8)(hk:g.get k=some (.cells cs0 79 0 true))(hn:h0.next<=k){cs:List Value}(hc:cs.length=8)(hv:cs.all cH=true)(okb:Bool){Q:VH}(hq:∀g',Ok h0 g'->Q (.tuple ⟨[.agg ⟨cs⟩,.bool okb]⟩) g'):
  ∃u:cL,an SS.P 79 (.pointer (some ⟨k,0,none⟩)) (.agg ⟨cs⟩) g=some (undef,u)/\iP SS [(.pointer (some ⟨k,0,none⟩),some 79),(.bool okb,none)] (u.app g) Q:=by
 refine⟨_,jU Ff hl hk hc hv,?_⟩;obtain⟨o,g⟩:=lk (cs:=cs) w o hk hn;refine Az (v:= .agg ⟨cs⟩) (by rw[rC Tv Sk Ff g (by omega),drop_zero,take_of_length_le (by omega)]) ?_;exact hq _ o
theorem JH(kind:Int){h:aa}(w:Wf h):FW SS 45 [.int .i64 kind] h (λv h'=>v=N5 kind/\Ok h h'):=by
 have o0:=(Ok.refl w).push Kp;have k0:=bm h Kp;refine JG kind h _ ⟨_,Nl,ae (λg=>?_) (λg=>ae (λg2=>?_) (λg2=>?_))⟩
 ·have g:=dT g;refine⟨_,HL,ur w o0 rfl k0 (Nat.le_refl _) rfl rfl false (λ_ o=>⟨?_,o⟩)⟩;unfold N5;rw[if_neg (by omega),if_neg (by omega),if_neg (by omega)]
 ·have g2:=dT g2;refine⟨_,HL,ur w o0 rfl k0 (Nat.le_refl _) rfl rfl false (λ_ o=>⟨?_,o⟩)⟩;unfold N5;rw[if_neg (by omega),if_neg (by omega),if_neg (by omega)]
 ·have g:=dF g;have g2:=dF g2;refine(BT o0.wf).mono ?_;rintro _ h1 ⟨rfl,o1⟩;have k1:=o1.ext _ _ k0;have ok:=o0.trans o1;obtain rfl|rfl|rfl:kind=1\/kind=2\/kind=3:=by omega
  ·exact⟨_,rfl,uP,by kernel_rfl,ur w ok rfl k1 (Nat.le_refl _) rfl rfl true (λ_ o=>⟨rfl,o⟩)⟩
  ·exact⟨_,rfl,uQ,by kernel_rfl,ur w ok rfl k1 (Nat.le_refl _) rfl rfl true (λ_ o=>⟨rfl,o⟩)⟩
  ·exact⟨_,rfl,uR,by kernel_rfl,ur w ok rfl k1 (Nat.le_refl _) rfl rfl true (λ_ o=>⟨rfl,o⟩)⟩
theorem mY(l:List UInt8)(hl:l.length<=281474976710656){h:aa}(tb:mn h)(w:Wf h):FW SS 114 [strOf l] h (λv h'=>v = .bool (dr l&&decide (0<kg l [48]))/\Ok h h'):=by
 refine uT l h _ ((rF l hl tb w).mono ?_);rintro _ h1 ⟨rfl,o1⟩;refine⟨_,rfl,ae (λg=>?_) (λg=>?_)⟩
 ·refine(GL l [48] hl (by simp) (tb.ok o1) o1.wf).mono ?_;rintro _ h2 ⟨rfl,o2⟩;refine⟨_,rfl,?_,o1.trans o2⟩;rw[g,Bool.true_and]
 ·refine⟨?_,o1⟩;rw[g,Bool.false_and]
theorem Tn{b:Bool}{A B:Prop}(hb:b=true)(a:A):aZ b A B:=ae (λ_=>a) (λe=>by rw[hb]at e;cases e)
theorem wF{f:Nat}{args:List Value}{h:aa}{K:VH}(hf:Nat.blt f YB=true)(hx:FW SS f args h λv h'=>∃b:Bool,v = .bool b/\K (.bool b) h'):aZ (Nat.blt f YB) (FW SS f ([]++args++[]) h λv h'=>∃b:Bool,v = .bool b/\K (.bool b) h') False:=
 Tn hf (by rw[nil_append,List.append_nil];exact hx)
theorem lC(kind:Int)(l:List UInt8)(hl:l.length<=281474976710656){h:aa}(tb:mn h)(w:Wf h):FW SS 50 [.int .i64 kind,strOf l] h (λv h'=>v = .bool (cO kind l)/\Ok h h'):=by
 refine zm kind l h _ ((JH kind w).mono ?_);rintro _ h1 ⟨rfl,o1⟩;have key:∀(cs:List Value)(f:Nat),cs.length=8->cs.all cH=true->cs.getD 7 undef=vv f->Nat.blt f YB=true->(∀g,Ok h g->FW SS f [strOf l] g (λv h'=>v = .bool (cO kind l)/\Ok g h'))->N5 kind = .tuple ⟨[.agg ⟨cs⟩,.bool true]⟩->∃cs3:List Value,∃b4:Bool,N5 kind=(.tuple ⟨[(.agg ⟨cs3⟩),(.bool b4)]⟩)/\∃B5:bt,bN SS.P 79=some (B5,kj)/\∃u6:cL,an SS.P 79 (.pointer (some ⟨h1.next,0,none⟩)) (.agg ⟨cs3⟩) (h1.push B5)=some (undef,u6)/\aZ b4 (∃p7:Addr,ah SS.P 79 (.pointer (some ⟨h1.next,0,none⟩)) 7=some (.pointer (some p7))/\∃(g8:Nat)(a9 bU:List Value),ag SS.P 77 (u6.app (h1.push B5)) (.pointer (some p7))=some (.func (.func g8) ⟨a9⟩ ⟨bU⟩)/\aZ (Nat.blt g8 YB) (FW SS g8 (a9++[(strOf l)]++bU) (u6.app (h1.push B5)) λv11 h12=>∃b13:Bool,v11=(.bool b13)/\(Value.bool b13 = .bool (cO kind l)/\Ok h h12)) False) (Value.bool false = .bool (cO kind l)/\Ok h (u6.app (h1.push B5))):=by
  intro cs f hc hv hf hY hw e;refine⟨_,_,e,_,Nl,_,jU Ff rfl (bm h1 Kp) hc hv,ae (λ_=>?_) (λg=>by cases g)⟩;obtain⟨o,g⟩:=lk (cs:=cs) o1.wf ((Ok.refl o1.wf).push Kp) (bm h1 Kp) (Nat.le_refl _);have hld:=eI Tu Sj g (i:=7) (by omega);rw[hf]at hld;refine⟨⟨h1.next,7,none⟩,by kernel_rfl,f,[],[],hld,?_⟩;refine wF (K:=λv h12=>v = .bool (cO kind l)/\Ok h h12) hY ((hw _ (o1.trans o)).mono ?_);rintro _ h2 ⟨rfl,o2⟩;exact⟨_,rfl,rfl,(o1.trans o).trans o2⟩
 by_cases g1:kind=1
 ·subst g1;refine key uP 96 rfl rfl rfl (by decide +kernel) (λg o=>?_) rfl;refine(rF l hl (tb.ok o) o.wf).mono ?_;rintro _ h2 ⟨rfl,o2⟩;refine⟨?_,o2⟩;unfold cO;simp
 by_cases g2:kind=2
 ·subst g2;refine key uQ 114 rfl rfl rfl (by decide +kernel) (λg o=>?_) rfl;refine(mY l hl (tb.ok o) o.wf).mono ?_;rintro _ h2 ⟨rfl,o2⟩;refine⟨?_,o2⟩;unfold cO;simp
 by_cases g3:kind=3
 ·subst g3;refine key uR 114 rfl rfl rfl (by decide +kernel) (λg o=>?_) rfl;refine(mY l hl (tb.ok o) o.wf).mono ?_;rintro _ h2 ⟨rfl,o2⟩;refine⟨?_,o2⟩;unfold cO;simp
 ·have e:N5 kind = .tuple ⟨[.agg ⟨iL⟩,.bool false]⟩:=by unfold N5;rw[if_neg g1,if_neg g2,if_neg g3]
  refine⟨_,_,e,_,Nl,_,jU Ff rfl (bm h1 Kp) (cs:=iL) rfl rfl,ae (λg=>by cases g) (λ_=>?_)⟩;obtain⟨o,g⟩:=lk (cs:=iL) o1.wf ((Ok.refl o1.wf).push Kp) (bm h1 Kp) (Nat.le_refl _);refine⟨?_,o1.trans o⟩;unfold cO;rw[decide_eq_false (by omega)];rfl
section
def fQ(h:aa)(v:Value)(l:List dj):Prop:=zZ h 34 4 v (l.map gf)
def sL(p:iM×Value):List Value:=[strOf p.1.f,p.2]
def gr(h:aa)(v:Value)(l:List iM):Prop:=∃ps:List (iM×Value),ps.map (·.1)=l/\zZ h 38 2 v (ps.map sL)/\(∀p∈ps,fQ h p.2 p.1.bD)/\v≠wI
theorem gr.ok{h h':aa}{v:Value}{l:List iM}(r:gr h v l)(o:Ok h h'):gr h' v l:=by
 obtain⟨ps,h1,h2,h3,h4⟩:=r;exact⟨ps,h1,h2.ok o,λp hp=>zZ.ok (h3 p hp) o,h4⟩
theorem gr.len{h:aa}{a:Option Addr}{n c:Nat}{l:List iM}(r:gr h (.slice a n c) l):n=l.length:=by
 obtain⟨ps,h1,h2,h3,_⟩:=r;rw[h2.len,lM,<-h1,lM]
theorem DV:SS.P.underlying 22=some (.slice 38):=by kernel_rfl
theorem Mb:SS.P.underlying 36=some (.slice 34):=by kernel_rfl
theorem JR:aw SS.P 38=some 2:=by kernel_rfl
theorem B9:aw SS.P 34=some 4:=by kernel_rfl
theorem M1:aw SS.P 24=some 4:=by kernel_rfl
theorem PL:Go.Ab.isAgg SS.P 38=true:=by kernel_rfl
theorem Ni:Go.Ab.isAgg SS.P 34=true:=by kernel_rfl
theorem Sh:Go.Ab.isAgg SS.P 24=true:=by kernel_rfl
theorem Ku:Go.Ab.isAgg SS.P 22=false:=by kernel_rfl
theorem Nj:Go.Ab.isAgg SS.P 36=false:=by kernel_rfl
noncomputable def RP:TypeDesc:=(SS.P.underlying 38).getD .bool
theorem RO:SS.P.underlying 38=some RP:=by kernel_rfl
noncomputable def RN:TypeDesc:=(SS.P.underlying 34).getD .bool
theorem Ps:SS.P.underlying 34=some RN:=by kernel_rfl
noncomputable def RM:TypeDesc:=(SS.P.underlying 24).getD .bool
theorem Ts:SS.P.underlying 24=some RM:=by kernel_rfl
theorem tJ(k:Nat):ah SS.P 24 (.pointer (some ⟨k,0,none⟩)) 0=some (.pointer (some ⟨k,0,none⟩)):=by kernel_rfl
theorem Io(k:Nat):ah SS.P 24 (.pointer (some ⟨k,0,none⟩)) 1=some (.pointer (some ⟨k,1,none⟩)):=by kernel_rfl
theorem NJ(k:Nat):ah SS.P 24 (.pointer (some ⟨k,0,none⟩)) 2=some (.pointer (some ⟨k,2,none⟩)):=by kernel_rfl
theorem iG(k:Nat):ah SS.P 24 (.pointer (some ⟨k,0,none⟩)) 3=some (.pointer (some ⟨k,3,none⟩)):=by kernel_rfl
theorem yx(k o:Nat):ah SS.P 38 (.pointer (some ⟨k,o,none⟩)) 0=some (.pointer (some ⟨k,o+0,none⟩)):=by kernel_rfl
theorem kQ(k o:Nat):ah SS.P 38 (.pointer (some ⟨k,o,none⟩)) 1=some (.pointer (some ⟨k,o+1,none⟩)):=by kernel_rfl
theorem mD(k o:Nat):ah SS.P 34 (.pointer (some ⟨k,o,none⟩)) 0=some (.pointer (some ⟨k,o+0,none⟩)):=by kernel_rfl
theorem C5(k o:Nat):ah SS.P 34 (.pointer (some ⟨k,o,none⟩)) 1=some (.pointer (some ⟨k,o+1,none⟩)):=by kernel_rfl
theorem NK(k o:Nat):ah SS.P 34 (.pointer (some ⟨k,o,none⟩)) 2=some (.pointer (some ⟨k,o+2,none⟩)):=by kernel_rfl
theorem qI(k o:Nat):ah SS.P 34 (.pointer (some ⟨k,o,none⟩)) 3=some (.pointer (some ⟨k,o+3,none⟩)):=by kernel_rfl
structure MB(g:aa)(k:Nat)(M:cb)(a:Option Addr)(n c:Nat):Prop where
 box:g.get k=some (.cells [.int .i64 M.kind,.int .i64 M.start,strOf M.lead,.slice a n c] 24 0 true)
 row:gr g (.slice a n c) M.aA
section
variable {g g':aa} {k:Nat} {M:cb} {a:Option Addr} {n c:Nat}
theorem MB.ok(m:MB g k M a n c)(o:Ok g g'):MB g' k M a n c:=⟨o.ext _ _ m.box,m.row.ok o⟩
theorem MB.l0(m:MB g k M a n c):ag SS.P 3 g (.pointer (some ⟨k,0,none⟩))=some (.int .i64 M.kind):=eI J1 Ht m.box (by simp)
theorem MB.l1(m:MB g k M a n c):ag SS.P 3 g (.pointer (some ⟨k,1,none⟩))=some (.int .i64 M.start):=eI J1 Ht m.box (by simp)
theorem MB.l2(m:MB g k M a n c):ag SS.P 9 g (.pointer (some ⟨k,2,none⟩))=some (strOf M.lead):=eI Ms Nk m.box (by simp)
theorem MB.l3(m:MB g k M a n c):ag SS.P 22 g (.pointer (some ⟨k,3,none⟩))=some (.slice a n c):=eI DV Ku m.box (by simp)
theorem MB.all(m:MB g k M a n c):ag SS.P 24 g (.pointer (some ⟨k,0,none⟩))=some (.agg ⟨[.int .i64 M.kind,.int .i64 M.start,strOf M.lead,.slice a n c]⟩):=rC Ts Sh M1 m.box (by simp)
theorem MB.len(m:MB g k M a n c):n=M.aA.length:=m.row.len
end
theorem gr.at_{g:aa}{a:Option Addr}{n c:Nat}{l:List iM}(r:gr g (.slice a n c) l){i:Nat}{s:iM}(hs:l[i]?=some s):
  ∃(b o:Nat)(x:Option Addr)(y z:Nat),af SS.P 22 (.slice a n c) (.int .i64 (i:Int))=some (.pointer (some ⟨b,o,none⟩))/\ag SS.P 38 g (.pointer (some ⟨b,o,none⟩))=some (.agg ⟨[strOf s.f,.slice x y z]⟩)/\
   ag SS.P 9 g (.pointer (some ⟨b,o+0,none⟩))=some (strOf s.f)/\ag SS.P 36 g (.pointer (some ⟨b,o+1,none⟩))=some (.slice x y z)/\fQ g (.slice x y z) s.bD:=by
 obtain⟨ps,h1,h2,h3,_⟩:=r;rw[<-h1,getElem?_map]at hs;obtain⟨p,hp,rfl⟩:=Option.map_eq_some_iff.1 hs;have hi:=(List.getElem?_eq_some_iff.1 hp).1;obtain⟨b,o,e1,e2,e3⟩:=h2.at_ DV JR RO PL (ik:= .i64) (i:=(i:Int)) (by omega) (by rw[lM];omega);have e4:(ps.map sL).getD (i:Int).toNat []=sL p:=by
  rw[toNat_natCast,gD,getElem?_map,hp];rfl
 rw[e4]at e2 e3;have ha:=h3 p (List.mem_of_getElem? hp);obtain⟨x,z,hx⟩:=zZ.Mc ha;have e5:=e3 9 _ 0 Ms Nk (by omega);have e6:=e3 36 _ 1 Mb Nj (by omega);unfold sL at e2 e5 e6;rw[hx]at e2 e6 ha;exact⟨b,o,x,_,z,e1,e2,e5,e6,ha⟩
theorem fQ.len{g:aa}{x:Option Addr}{y z:Nat}{l:List dj}(r:fQ g (.slice x y z) l):y=l.length:=by
 have:=zZ.len r;rwa[lM]at this
theorem fQ.ok{h h':aa}{v:Value}{l:List dj}(r:fQ h v l)(o:Ok h h'):fQ h' v l:=zZ.ok r o
theorem fQ.at_{g:aa}{x:Option Addr}{y z:Nat}{l:List dj}(r:fQ g (.slice x y z) l){j:Nat}{q:dj}(hs:l[j]?=some q):
  ∃(b o:Nat),af SS.P 36 (.slice x y z) (.int .i64 (j:Int))=some (.pointer (some ⟨b,o,none⟩))/\ag SS.P 34 g (.pointer (some ⟨b,o,none⟩))=some (.agg ⟨gf q⟩)/\
   ag SS.P 3 g (.pointer (some ⟨b,o+0,none⟩))=some (.int .i64 q.i)/\ag SS.P 3 g (.pointer (some ⟨b,o+1,none⟩))=some (.int .i64 q.o)/\ag SS.P 9 g (.pointer (some ⟨b,o+2,none⟩))=some (strOf q.w)/\ag SS.P 3 g (.pointer (some ⟨b,o+3,none⟩))=some (.int .i64 q.t):=by
 have hj:=(List.getElem?_eq_some_iff.1 hs).1;obtain⟨b,o,e1,e2,e3⟩:=zZ.at_ Mb B9 Ps Ni r (ik:= .i64) (i:=(j:Int)) (by omega) (by rw[lM];omega);have e4:(l.map gf).getD (j:Int).toNat []=gf q:=by
  rw[toNat_natCast,gD,getElem?_map,hs];rfl
 rw[e4]at e2 e3;exact⟨b,o,e1,e2,e3 3 _ 0 J1 Ht (by omega),e3 3 _ 1 J1 Ht (by omega),e3 9 _ 2 Ms Nk (by omega),e3 3 _ 3 J1 Ht (by omega)⟩
def SB(g:aa)(k:Nat)(f:List UInt8)(x:Option Addr)(y z:Nat):Prop:=g.get k=some (.cells [strOf f,.slice x y z] 38 0 true)
theorem SB.ok{g g':aa}{k:Nat}{f:List UInt8}{x:Option Addr}{y z:Nat}(s:SB g k f x y z)(o:Ok g g'):SB g' k f x y z:=o.ext _ _ s
theorem SB.l0{g:aa}{k:Nat}{f:List UInt8}{x:Option Addr}{y z:Nat}(s:SB g k f x y z):ag SS.P 9 g (.pointer (some ⟨k,0+0,none⟩))=some (strOf f):=eI Ms Nk s (by simp)
theorem SB.l1{g:aa}{k:Nat}{f:List UInt8}{x:Option Addr}{y z:Nat}(s:SB g k f x y z):ag SS.P 36 g (.pointer (some ⟨k,0+1,none⟩))=some (.slice x y z):=eI Mb Nj s (by simp)
def AB(g:aa)(k:Nat)(q:dj):Prop:=g.get k=some (.cells (gf q) 34 0 true)
theorem AB.ok{g g':aa}{k:Nat}{q:dj}(s:AB g k q)(o:Ok g g'):AB g' k q:=o.ext _ _ s
theorem AB.l0{g:aa}{k:Nat}{q:dj}(s:AB g k q):ag SS.P 3 g (.pointer (some ⟨k,0+0,none⟩))=some (.int .i64 q.i):=eI J1 Ht s (by simp[gf])
theorem AB.l1{g:aa}{k:Nat}{q:dj}(s:AB g k q):ag SS.P 3 g (.pointer (some ⟨k,0+1,none⟩))=some (.int .i64 q.o):=eI J1 Ht s (by simp[gf])
theorem AB.l2{g:aa}{k:Nat}{q:dj}(s:AB g k q):ag SS.P 9 g (.pointer (some ⟨k,0+2,none⟩))=some (strOf q.w):=eI Ms Nk s (by simp[gf])
theorem AB.l3{g:aa}{k:Nat}{q:dj}(s:AB g k q):ag SS.P 3 g (.pointer (some ⟨k,0+3,none⟩))=some (.int .i64 q.t):=eI J1 Ht s (by simp[gf])
def Ek:bt:= .cells [strOf [],.slice none 0 0] 38 0 true
theorem Hw:bN SS.P 38=some (Ek,kj):=by kernel_rfl
def Hm:bt:= .cells [.int .i64 0,.int .i64 0,strOf [],.int .i64 0] 34 0 true
theorem Fu:bN SS.P 34=some (Hm,kj):=by kernel_rfl
theorem BC{h:aa}(w:Wf h)(f:List UInt8)(x:Option Addr)(y z:Nat):∃u:cL,an SS.P 38 (.pointer (some ⟨h.next,0,none⟩)) (.agg ⟨[strOf f,.slice x y z]⟩) (h.push Ek)=some (undef,u)/\Ok h (u.app (h.push Ek))/\SB (u.app (h.push Ek)) h.next f x y z:=by
 obtain⟨o,e⟩:=lk (cs:=[strOf f,.slice x y z]) w ((Ok.refl w).push Ek) (bm h Ek) (Nat.le_refl _);exact⟨_,jU JR rfl (bm h Ek) rfl rfl,o,e⟩
theorem xb{h:aa}(w:Wf h)(q:dj):∃u:cL,an SS.P 34 (.pointer (some ⟨h.next,0,none⟩)) (.agg ⟨gf q⟩) (h.push Hm)=some (undef,u)/\Ok h (u.app (h.push Hm))/\AB (u.app (h.push Hm)) h.next q:=by
 obtain⟨o,e⟩:=lk (cs:=gf q) w ((Ok.refl w).push Hm) (bm h Hm) (Nat.le_refl _);exact⟨_,jU B9 rfl (bm h Hm) rfl rfl,o,e⟩
def iC(M:cb)(a:Option Addr)(n c:Nat):List Value:=[.int .i64 M.kind,.int .i64 M.start,strOf M.lead,.slice a n c]
def Bm(M:cb)(a:Option Addr)(n c:Nat):bt:= .cells (iC M a n c) 24 0 true
theorem rj(M:cb)(a:Option Addr)(n c:Nat):l8 SS.P 24 (.agg ⟨iC M a n c⟩)=some (Bm M a n c,kj):=by kernel_rfl
theorem mu{h:aa}(w:Wf h){M:cb}{a:Option Addr}{n c:Nat}(r:gr h (.slice a n c) M.aA):MB (h.push (Bm M a n c)) h.next M a n c/\Ok h (h.push (Bm M a n c)):=
 ⟨⟨bm h _,r.ok ((Ok.refl w).push _)⟩,(Ok.refl w).push _⟩
def xz(s:Int):Bool:=decide (0<=s)&&decide (s<=500)
def lQ(kind:Int)(N:Nat)(a:dj):Bool:=xz a.i&&xz a.o&&decide (0<=a.t)&&decide (a.t<N)&&cO kind a.w
def pZ(kind:Int)(N:Nat):Int->List iM->Bool
 |_,[]=>true
 |acc,s::r=>decide (acc+s.bD.length<=30000)&&(s.f==[]||cO kind s.f)&&s.bD.all (lQ kind N)&&pZ kind N (acc+s.bD.length) r
def eN(M:cb):Bool:=decide (1<=M.kind)&&decide (M.kind<=3)&&decide (1<=M.aA.length)&&decide (M.aA.length<=3000)&&decide (0<=M.start)&&decide (M.start<M.aA.length)&&cO M.kind M.lead&&pZ M.kind M.aA.length 0 M.aA
def uY(l:List iM):Nat:=(l.map λs=>s.bD.length).sum
structure Small(M:cb):Prop where
 lead:M.lead.length<=281474976710656
 Pb:M.aA.length<=300
 fin:∀s∈M.aA,s.f.length<=281474976710656
 bD:∀s∈M.aA,s.bD.length<=2000
 w:∀s∈M.aA,∀q∈s.bD,q.w.length<=281474976710656
 Ug:uY M.aA<=2000
end
noncomputable def JP:FD:=fo Tryz.f51 []
theorem G5(s:Int)(h:aa)(Q:VH)(hx:aZ (decide ((s:Int)>=0)) (Q (.bool (decide ((s:Int)<=500))) h) (Q (.bool false) h)):FW SS 51 [(.int .i64 s)] h Q:=fy JP Tryz.func51 (az hx)
noncomputable def bT:FD:=fo Tryz.f30 [([1,1,1,1,0,1,0,0],[1,2,3,4,48,49,50]),([1,1,1,1,0,1,0,0,1,1,0,0,1,1,1,1,0,0],[1,2,3,4,6,48,49,50,75,76,77])]
abbrev dR(k:Nat)(a:OA)(n c:Nat)(i:Nat)(acc:Int):LV:=[(pA k),(.bool false),(iA n),(.int .i64 acc),(.slice a n c),(iA n),(iA i)]
abbrev fk(k:Nat)(a:OA)(n c k2:Nat)(b:OA)(m d i:Nat)(acc:Int)(j:Nat):LV:=[(pA k),(.bool false),(iA n),(.int .i64 acc),(pA k2),(.slice a n c),(iA n),(iA i),(.slice b m d),(iA m),(iA j)]
theorem Gi(mv:LV)(h:aa)(Q:VH)(hx:xN (l8 SS.P 24 (.agg ⟨mv⟩)) h λB1 g2=>xP (ah SS.P 24 (pA (h.next)) 3) λp3=>xL (ag SS.P 22 g2 (.pointer (some p3))) λa4 n5 c6=>xP (ah SS.P 24 (pA (h.next)) 0) λp7=>xI .i64 (ag SS.P 3 g2 (.pointer (some p7))) λn8=>aZ (decide ((n8:Int)<1)) (Q (.bool false) g2) (xP (ah SS.P 24 (pA (h.next)) 0) λp9=>xI .i64 (ag SS.P 3 g2 (.pointer (some p9))) λn10=>aZ (decide ((n10:Int)>3)) (Q (.bool false) g2) (aZ (decide (((n5:Int):Int)<1)) (Q (.bool false) g2) (aZ (decide (((n5:Int):Int)>3000)) (Q (.bool false) g2) (xP (ah SS.P 24 (pA (h.next)) 1) λp11=>xI .i64 (ag SS.P 3 g2 (.pointer (some p11))) λn12=>aZ (decide ((n12:Int)<0)) (Q (.bool false) g2) (xP (ah SS.P 24 (pA (h.next)) 1) λp13=>xI .i64 (ag SS.P 3 g2 (.pointer (some p13))) λn14=>aZ (decide ((n14:Int)>=(n5:Int))) (Q (.bool false) g2) (xP (ah SS.P 24 (pA (h.next)) 0) λp15=>xI .i64 (ag SS.P 3 g2 (.pointer (some p15))) λn16=>xP (ah SS.P 24 (pA (h.next)) 2) λp17=>xS (ag SS.P 9 g2 (.pointer (some p17))) λl18=>FW SS 50 [(.int .i64 n16),(strOf l18)] g2 λv19 h20=>yB v19 λb21=>aZ (!b21) (Q (.bool false) h20) (xP (ah SS.P 24 (pA (h.next)) 3) λp22=>xL (ag SS.P 22 h20 (.pointer (some p22))) λa23 n24 c25=>LL SS bT [1,1,1,1,0,1,0,0] [(pA (h.next)),(.bool false),(iA n5),(.int .i64 0),(.slice a23 n24 c25),(iA n24),(.int .i64 0)] h20 (KK SS bT [1,1,1,1,0,1,0] [] (EE SS bT Q)))))))))):FW SS 30 [(.agg ⟨mv⟩)] h Q:=fy bT Tryz.func30 (az hx)
theorem pK(mv:LV)(k:Nat)(a:OA)(n c:Nat)(Inv:Nat->Nat->Int->aa->Prop)(Q:VH)(step:∀(mz:Nat) (i:Nat) (acc:Int) (zz:Nat->Value) (h:aa),Inv mz i acc h->aZ (decide (((i:Int):Int)<(n:Int))) (xP (af SS.P 22 (.slice a n c) (iA i)) λp26=>xA (ag SS.P 38 h (.pointer (some p26))) λc27=>xN (bN SS.P 38) h λB28 g29=>xU (an SS.P 38 (pA (h.next)) (.agg ⟨c27⟩) g29) g29 λu30 g31=>xP (ah SS.P 38 (pA (h.next)) 1) λp32=>xL (ag SS.P 36 g31 (.pointer (some p32))) λa33 n34 c35=>aZ (decide ((wrap .i64 (acc+(n34:Int)):Int)>30000)) (Q (.bool false) g31) (xP (ah SS.P 38 (pA (h.next)) 0) λp36=>xS (ag SS.P 9 g31 (.pointer (some p36))) λl37=>aZ (!((l37:LB)==[])) (xP (ah SS.P 24 (pA k) 0) λp38=>xI .i64 (ag SS.P 3 g31 (.pointer (some p38))) λn39=>xP (ah SS.P 38 (pA (h.next)) 0) λp40=>xS (ag SS.P 9 g31 (.pointer (some p40))) λl41=>FW SS 50 [(.int .i64 n39),(strOf l41)] g31 λv42 h43=>yB v42 λb44=>aZ (!b44) (Q (.bool false) h43) (xP (ah SS.P 38 (pA (h.next)) 1) λp45=>xL (ag SS.P 36 h43 (.pointer (some p45))) λa46 n47 c48=>LL SS bT [1,1,1,1,0,1,0,0,1,1,0,0,1,1,1,1,0,0] (fk k a n c (h.next) a46 n47 c48 i (wrap .i64 (acc+(n34:Int))) 0) h43 (KK SS bT [1,1,0,0,1,1,1,1,0] [1,1,1,1,0,1,0,0] (RR bT [1,1,1,1,0,1,0,0] (zE (dR k a n c) Inv) mz (KK SS bT [1,1,1,1,0,1,0] [] (EE SS bT Q)))))) (xP (ah SS.P 38 (pA (h.next)) 1) λp49=>xL (ag SS.P 36 g31 (.pointer (some p49))) λa50 n51 c52=>LL SS bT [1,1,1,1,0,1,0,0,1,1,0,0,1,1,1,1,0,0] (fk k a n c (h.next) a50 n51 c52 i (wrap .i64 (acc+(n34:Int))) 0) g31 (KK SS bT [1,1,0,0,1,1,1,1,0] [1,1,1,1,0,1,0,0] (RR bT [1,1,1,1,0,1,0,0] (zE (dR k a n c) Inv) mz (KK SS bT [1,1,1,1,0,1,0] [] (EE SS bT Q))))))) (Q (.bool true) h))(mz:Nat){i:Nat}{acc:Int}{h:aa}(hi:Inv mz i acc h):LL SS bT [1,1,1,1,0,1,0,0] (dR k a n c i acc) h (KK SS bT [1,1,1,1,0,1,0] [] (EE SS bT Q)):=
 uS (dR k a n c) Inv (λmz i acc zz h hi=>az (step mz i acc zz h hi)) mz hi
theorem pL(mv:LV)(k:Nat)(a:OA)(n c:Nat)(k2:Nat)(b:OA)(m d:Nat)(Inv:Nat->Nat->Int->aa->Prop)(mz i:Nat)(acc:Int)(Inv2:Nat->Nat->aa->Prop)(Q:VH)(step:∀(mz2:Nat) (j:Nat) (zz:Nat->Value) (h:aa),Inv2 mz2 j h->aZ (decide (((j:Int):Int)<(m:Int))) (xP (af SS.P 36 (.slice b m d) (iA j)) λp53=>xA (ag SS.P 34 h (.pointer (some p53))) λc54=>xN (bN SS.P 34) h λB55 g56=>xU (an SS.P 34 (pA (h.next)) (.agg ⟨c54⟩) g56) g56 λu57 g58=>xP (ah SS.P 34 (pA (h.next)) 0) λp59=>xI .i64 (ag SS.P 3 g58 (.pointer (some p59))) λn60=>FW SS 51 [(.int .i64 n60)] g58 λv61 h62=>yB v61 λb63=>aZ (!b63) (Q (.bool false) h62) (xP (ah SS.P 34 (pA (h.next)) 1) λp64=>xI .i64 (ag SS.P 3 h62 (.pointer (some p64))) λn65=>FW SS 51 [(.int .i64 n65)] h62 λv66 h67=>yB v66 λb68=>aZ (!b68) (Q (.bool false) h67) (xP (ah SS.P 34 (pA (h.next)) 3) λp69=>xI .i64 (ag SS.P 3 h67 (.pointer (some p69))) λn70=>aZ (decide ((n70:Int)<0)) (Q (.bool false) h67) (xP (ah SS.P 34 (pA (h.next)) 3) λp71=>xI .i64 (ag SS.P 3 h67 (.pointer (some p71))) λn72=>aZ (decide ((n72:Int)>=(n:Int))) (Q (.bool false) h67) (xP (ah SS.P 24 (pA k) 0) λp73=>xI .i64 (ag SS.P 3 h67 (.pointer (some p73))) λn74=>xP (ah SS.P 34 (pA (h.next)) 2) λp75=>xS (ag SS.P 9 h67 (.pointer (some p75))) λl76=>FW SS 50 [(.int .i64 n74),(strOf l76)] h67 λv77 h78=>yB v77 λb79=>aZ (!b79) (Q (.bool false) h78) (ba (lZ (fk k a n c k2 b m d i acc) Inv2) mz2 [(pA k),(.bool false),(iA n),(.int .i64 acc),(pA k2),(.slice a n c),(iA n),(iA i),(.slice b m d),(iA m),(.int .i64 (wrap .i64 ((j:Int)+1)))] h78)))))) (ba (zE (dR k a n c) Inv) mz [(pA k),(.bool false),(iA n),(.int .i64 acc),(.slice a n c),(iA n),(.int .i64 (wrap .i64 ((i:Int)+1)))] h))(mz2:Nat){j:Nat}{h:aa}(hi:Inv2 mz2 j h):LL SS bT [1,1,1,1,0,1,0,0,1,1,0,0,1,1,1,1,0,0] (fk k a n c k2 b m d i acc j) h (KK SS bT [1,1,0,0,1,1,1,1,0] [1,1,1,1,0,1,0,0] (RR bT [1,1,1,1,0,1,0,0] (zE (dR k a n c) Inv) mz (KK SS bT [1,1,1,1,0,1,0] [] (EE SS bT Q)))):=
 gH (fk k a n c k2 b m d i acc) Inv2 (λmz2 j zz h hi=>az (step mz2 j zz h hi)) mz2 hi
section
theorem je{α:Type}{l:List α}{i:Nat}{s:α}(h:l[i]?=some s):l.drop i=s::l.drop (i+1):=by
 obtain⟨h1,rfl⟩:=List.getElem?_eq_some_iff.1 h;exact List.drop_eq_getElem_cons h1
theorem xC(s:Int)(h:aa):FW SS 51 [.int .i64 s] h (λv h'=>v = .bool (xz s)/\h'=h):=by
 refine G5 s h _ (ae (λg=>⟨?_,rfl⟩) (λg=>⟨?_,rfl⟩))
 ·have g:=dT g;unfold xz;rw[decide_eq_true (show 0<=s from g),Bool.true_and]
 ·have g:=dF g;unfold xz;rw[decide_eq_false (show ¬0<=s from g),Bool.false_and]
section
variable {h:aa} {k:Nat} {M:cb} {a:Option Addr} {n c:Nat}
def bQ(h:aa)(V:Bool):VH:=λv h'=>v = .bool V/\Ok h h'
def QH(h:aa)(k:Nat)(M:cb)(a:Option Addr)(n c:Nat)(V:Bool)(mz i:Nat)(acc:Int)(g:aa):Prop:=i<=n/\mz=n-i/\0<=acc/\acc<=30000/\MB g k M a n c/\Ok h g/\pZ M.kind n acc (M.aA.drop i)=V
def Ub(h:aa)(k:Nat)(M:cb)(a:Option Addr)(n c:Nat)(s:iM)(b:Option Addr)(m d i:Nat)(acc:Int)(V:Bool)(mz2 j:Nat)(g:aa):Prop:=j<=m/\mz2=m-j/\MB g k M a n c/\Ok h g/\fQ g (.slice b m d) s.bD/\((s.bD.drop j).all (lQ M.kind n)&&pZ M.kind n acc (M.aA.drop (i+1)))=V
theorem bW{i n:Nat}(h:i<n)(hn:n<=1000000000):wrap .i64 ((i:Int)+1)=((i+1:Nat):Int):=by rw[aB (by omega) (by omega)];omega
theorem sN(sm:Small M){s:iM}{i:Nat}(hs:M.aA[i]?=some s):s.bD.length<=2000/\s.f.length<=281474976710656/\∀q∈s.bD,q.w.length<=281474976710656:=by
 have h:=List.mem_of_getElem? hs;exact⟨sm.bD s h,Nat.le_trans (sm.fin s h) (by decide),λq hq=>Nat.le_trans (sm.w s h q hq) (by decide)⟩
set_option linter.defProp false in
def Be(w:Wf h)(tb:mn h)(sm:Small M)(V:Bool){s:iM}{b:Option Addr}{m d i k2:Nat}{acc:Int}(hs:M.aA[i]?=some s)(hi:i<n)(h0:0<=acc)(h1:acc<=30000)(mv:List Value)(mz:Nat)(hmz:mz=n-i):=
 pL mv k a n c k2 b m d (QH h k M a n c V) mz i acc (Ub h k M a n c s b m d i acc V) (bQ h V) (by
  intro mz2 j;intros;rename_i g hin;obtain⟨f1,f2,mb,ok,ar,hv⟩:=hin;have hn:n<=300:=by rw[mb.len];exact sm.Pb
  obtain⟨l1,l2,l3⟩:=sN sm hs;have hm:=ar.len;refine ae (λg1=>?_) (λg1=>?_)
  ·have g1:=dT g1;obtain⟨q,hq⟩:∃q,s.bD[j]?=some q:=⟨_,gE (by omega)⟩
   obtain⟨bb,o,e1,e2,e3⟩:=ar.at_ hq;have lq:=l3 q (List.mem_of_getElem? hq);rw[je hq,all_cons]at hv;obtain⟨u,p1,p2,p3⟩:=xb ok.wf q;refine⟨_,e1,_,e2,_,Fu,u,p1,?_⟩;have okg:=ok.trans p2;have mbg:=mb.ok p2;generalize u.app (g.push Hm)=g2 at*;refine⟨_,mD _ _,_,p3.l0,(xC _ _).mono ?_⟩;rintro _ g3 ⟨rfl,eg⟩;obtain rfl:g2=g3:=eg.symm;refine⟨_,rfl,ae (λt=>⟨?_,okg⟩) (λt=>?_)⟩
   ·rw[not_eq_true']at t;rw[<-hv];unfold lQ;rw[t];simp
   rw[not_eq_false']at t;refine⟨_,C5 _ _,_,p3.l1,(xC _ _).mono ?_⟩;rintro _ g3 ⟨rfl,eg⟩;obtain rfl:g2=g3:=eg.symm;refine⟨_,rfl,ae (λt2=>⟨?_,okg⟩) (λt2=>?_)⟩
   ·rw[not_eq_true']at t2;rw[<-hv];unfold lQ;rw[t2];simp
   rw[not_eq_false']at t2;refine⟨_,qI _ _,_,p3.l3,ae (λt3=>⟨?_,okg⟩) (λt3=>?_)⟩
   ·have t3:=dT t3;rw[<-hv];unfold lQ;rw[decide_eq_false (show ¬0<=q.t by omega)];simp
   have t3:=dF t3;refine⟨_,qI _ _,_,p3.l3,ae (λt4=>⟨?_,okg⟩) (λt4=>?_)⟩
   ·have t4:=dT t4;rw[<-hv];unfold lQ;rw[decide_eq_false (show ¬q.t<n by omega)];simp
   have t4:=dF t4;refine⟨_,tJ _,_,mbg.l0,_,NK _ _,_,p3.l2,(lC M.kind q.w lq (tb.ok okg) okg.wf).mono ?_⟩;rintro _ g4 ⟨rfl,o4⟩;refine⟨_,rfl,ae (λt5=>⟨?_,okg.trans o4⟩) (λt5=>?_)⟩
   ·rw[not_eq_true']at t5;rw[<-hv];unfold lQ;rw[t5];simp
   rw[not_eq_false']at t5;have hq1:lQ M.kind n q=true:=by
    unfold lQ;rw[t,t2,t5,decide_eq_true (show 0<=q.t by omega),decide_eq_true (show q.t<n by omega)];rfl
   rw[hq1,Bool.true_and]at hv;rw[bW (i:=j) (n:=m) (by omega) (by omega)];exact eH (mz2-1) (by omega) ⟨by omega,by omega,mbg.ok o4,okg.trans o4,(ar.ok p2).ok o4,hv⟩
  ·have g1:=dF g1;obtain rfl:m=j:=by omega
   rw[drop_eq_nil_of_le (by omega)]at hv;rw[bW hi (by omega)];exact lT (n-(i+1)) (by omega) ⟨by omega,rfl,h0,h1,mb,ok,by simpa using hv⟩)
theorem wY{h:aa}(tb:mn h)(w:Wf h){M:cb}(sm:Small M){a:Option Addr}{n c:Nat}(r:gr h (.slice a n c) M.aA):FW SS 30 [.agg ⟨iC M a n c⟩] h (λv h'=>v = .bool (eN M)/\Ok h h'):=by
 obtain⟨mb,ok⟩:=mu w r;refine Gi (iC M a n c) h _ ⟨_,rj M a n c,?_⟩;have hl:=mb.len;have hn:n<=300:=by rw[hl];exact sm.Pb
 generalize h.push (Bm M a n c)=g at*;refine⟨_,iG _,_,_,_,mb.l3,_,tJ _,_,mb.l0,ae (λt1=>⟨?_,ok⟩) (λt1=>?_)⟩
 ·have t1:=dT t1;unfold eN;rw[decide_eq_false (show ¬1<=M.kind by omega)];simp
 have t1:=dF t1;refine⟨_,tJ _,_,mb.l0,ae (λt2=>⟨?_,ok⟩) (λt2=>ae (λt3=>⟨?_,ok⟩) (λt3=>ae (λt4=>⟨?_,ok⟩) (λt4=>?_)))⟩
 ·have t2:=dT t2;unfold eN;rw[decide_eq_false (show ¬M.kind<=3 by omega)];simp
 ·have t3:=dT t3;unfold eN;rw[decide_eq_false (show ¬1<=M.aA.length by omega)];simp
 ·have t4:=dT t4;omega
 have t2:=dF t2;have t3:=dF t3;refine⟨_,Io _,_,mb.l1,ae (λt5=>⟨?_,ok⟩) (λt5=>?_)⟩
 ·have t5:=dT t5;unfold eN;rw[decide_eq_false (show ¬0<=M.start by omega)];simp
 have t5:=dF t5;refine⟨_,Io _,_,mb.l1,ae (λt6=>⟨?_,ok⟩) (λt6=>?_)⟩
 ·have t6:=dT t6;unfold eN;rw[decide_eq_false (show ¬M.start<M.aA.length by omega)];simp
 have t6:=dF t6;refine⟨_,tJ _,_,mb.l0,_,NJ _,_,mb.l2,(lC M.kind M.lead (Nat.le_trans sm.lead (by decide)) (tb.ok ok) ok.wf).mono ?_⟩;rintro _ g2 ⟨rfl,o2⟩;have ok2:=ok.trans o2;have mb2:=mb.ok o2;refine⟨_,rfl,ae (λt7=>⟨?_,ok2⟩) (λt7=>?_)⟩
 ·rw[not_eq_true']at t7;unfold eN;rw[t7];simp
 rw[not_eq_false']at t7;have hV:eN M=pZ M.kind n 0 M.aA:=by
  unfold eN;rw[t7,decide_eq_true (show 1<=M.kind by omega),decide_eq_true (show M.kind<=3 by omega),decide_eq_true (show 1<=M.aA.length by omega),decide_eq_true (show M.aA.length<=3000 by omega),decide_eq_true (show 0<=M.start by omega),decide_eq_true (show M.start<M.aA.length by omega),hl];rfl
 obtain⟨V,hVd⟩:∃V,V=pZ M.kind n 0 M.aA:=⟨_,rfl⟩
 rw[hV,<-hVd];refine⟨_,iG _,_,_,_,mb2.l3,?_⟩;refine pK (iC M a n c) h.next a n c (QH h h.next M a n c V) (bQ h V) (λmz i acc=>?_) n (i:=0) (acc:=0) ⟨by omega,rfl,by omega,by omega,mb2,ok2,hVd.symm⟩;intros;rename_i gg hi;obtain⟨f1,f2,f3,f4,mb3,ok3,f5⟩:=hi;refine ae (λq1=>?_) (λq1=>?_)
 ·have q1:=dT q1;obtain⟨s,hs⟩:∃s,M.aA[i]?=some s:=⟨_,gE (by omega)⟩
  obtain⟨b,o,x,y,z,e1,e2,e3,e4,ar⟩:=mb3.row.at_ hs;obtain⟨l1,l2,l3⟩:=sN sm hs;have hy:=ar.len;rw[je hs]at f5;unfold pZ at f5;obtain⟨u,p1,p2,p3⟩:=BC ok3.wf s.f x y z;refine⟨_,e1,_,e2,_,Hw,u,p1,?_⟩;have okg:=ok3.trans p2;have mbg:=mb3.ok p2;have arg:=ar.ok p2;generalize u.app (gg.push Ek)=g3 at*;have hw:wrap .i64 (acc+(y:Int))=acc+(s.bD.length:Int):=by rw[hy,aB (by omega) (by omega)]
  refine⟨_,kQ _ _,_,_,_,p3.l1,?_⟩;dsimp only;rw[hw];refine ae (λq2=>⟨?_,okg⟩) (λq2=>?_)
  ·have q2:=dT q2;rw[<-f5,decide_eq_false (show ¬acc+(s.bD.length:Int)<=30000 by omega)];simp
  have q2:=dF q2;rw[decide_eq_true (show acc+(s.bD.length:Int)<=30000 by omega),Bool.true_and]at f5;refine⟨_,yx _ _,_,p3.l0,ae (λq3=>?_) (λq3=>?_)⟩
  ·refine⟨_,tJ _,_,mbg.l0,_,yx _ _,_,p3.l0,(lC M.kind s.f l2 (tb.ok okg) okg.wf).mono ?_⟩;rintro _ g4 ⟨rfl,o4⟩;have q3:(s.f==[])=false:=by simpa using q3
   rw[q3,Bool.false_or]at f5;refine⟨_,rfl,ae (λq4=>⟨?_,okg.trans o4⟩) (λq4=>?_)⟩
   ·rw[not_eq_true']at q4;rw[<-f5,q4];simp
   rw[not_eq_false']at q4;rw[q4,Bool.true_and]at f5;refine⟨_,kQ _ _,_,_,_,(p3.ok o4).l1,?_⟩;exact Be w tb sm _ hs (by omega) (by omega) (by omega) [] mz f2 y (j:=0) ⟨by omega,rfl,mbg.ok o4,okg.trans o4,arg.ok o4,by rw[drop_zero];exact f5⟩
  ·have q3:(s.f==[])=true:=by simpa using q3
   rw[q3,Bool.true_or,Bool.true_and]at f5;refine⟨_,kQ _ _,_,_,_,p3.l1,?_⟩;exact Be w tb sm _ hs (by omega) (by omega) (by omega) [] mz f2 y (j:=0) ⟨by omega,rfl,mbg,okg,arg,by rw[drop_zero];exact f5⟩
 ·have q1:=dF q1;refine⟨?_,ok3⟩;rw[drop_eq_nil_of_le (by omega)]at f5;rw[<-f5];rfl
end
end
noncomputable def Nf:FD:=fo Tryz.f75 []
theorem Ks(qv:LV)(h:aa)(Q:VH)(hx:xN (l8 SS.P 34 (.agg ⟨qv⟩)) h λB1 g2=>xP (ah SS.P 34 (pA (h.next)) 0) λp3=>xI .i64 (ag SS.P 3 g2 (.pointer (some p3))) λn4=>xP (ah SS.P 34 (pA (h.next)) 1) λp5=>xI .i64 (ag SS.P 3 g2 (.pointer (some p5))) λn6=>Q (.bool (((n4:Int)==n6))) g2):FW SS 75 [(.agg ⟨qv⟩)] h Q:=fy Nf Tryz.func75 (az hx)
noncomputable def Jn:FD:=fo Tryz.f76 []
theorem GI(qv:LV)(h:aa)(Q:VH)(hx:xN (l8 SS.P 34 (.agg ⟨qv⟩)) h λB1 g2=>xP (ah SS.P 34 (pA (h.next)) 0) λp3=>xI .i64 (ag SS.P 3 g2 (.pointer (some p3))) λn4=>aZ (((n4:Int) !=0)) (Q (.bool true) g2) (xP (ah SS.P 34 (pA (h.next)) 1) λp5=>xI .i64 (ag SS.P 3 g2 (.pointer (some p5))) λn6=>Q (.bool (((n6:Int) !=0))) g2)):FW SS 76 [(.agg ⟨qv⟩)] h Q:=fy Jn Tryz.func76 (az hx)
noncomputable def Nm:FD:=fo Tryz.f120 []
theorem Kx(qv:LV)(k:Nat)(h:aa)(Q:VH)(hx:xN (l8 SS.P 34 (.agg ⟨qv⟩)) h λB1 g2=>xF (ag SS.P 100 g2 (pA k)) λg3 a4 c5=>xA (ag SS.P 34 g2 (pA (h.next))) λc6=>aZ (Nat.blt g3 YB) (FW SS g3 (a4++[(.agg ⟨c6⟩)]++c5) g2 λv7 h8=>yB v7 λb9=>Q (.bool (!b9)) h8) False):FW SS 120 [(.agg ⟨qv⟩),(pA k)] h Q:=fy Nm Tryz.func120 (az hx)
noncomputable def gU:FD:=fo Tryz.f153 [([1,0,1,0,0],[0,1,7,8])]
abbrev iH(b:OA)(m d k:Nat)(j:Nat):LV:=[(.slice b m d),(.func (.func 120) ⟨[]⟩ ⟨[(pA k)]⟩),(iA m),(iA j)]
theorem Dg(b:OA)(m d k:Nat)(h:aa)(Q:VH)(hx:LL SS gU [1,0,1,0,0] [(.slice b m d),(.func (.func 120) ⟨[]⟩ ⟨[(pA k)]⟩),(iA m),(.int .i64 0)] h (KK SS gU [1,0,1,0] [] (EE SS gU Q))):FW SS 153 [(.slice b m d),(.func (.func 120) ⟨[]⟩ ⟨[(pA k)]⟩)] h Q:=fy gU Tryz.func153 (az hx)
theorem oC(b:OA)(m d k:Nat)  (Inv:Nat->Nat->aa->Prop) (Q:VH) (step:∀(mz:Nat)(j:Nat)(zz:Nat->Value)(h:aa),Inv mz j h->aZ (decide (((j:Int):Int)<(m:Int))) (xP (af SS.P 36 (.slice b m d) (iA j)) λp1=>xA (ag SS.P 34 h (.pointer (some p1))) λc2=>FW SS 120 [(.agg ⟨c2⟩),(pA k)] h λv3 h4=>yB v3 λb5=>aZ b5 (Q (iA j) h4) (ba (lZ (iH b m d k) Inv) mz [(.slice b m d),(.func (.func 120) ⟨[]⟩ ⟨[(pA k)]⟩),(iA m),(.int .i64 (wrap .i64 ((j:Int)+1)))] h4)) (Q (.int .i64 (-1)) h)) (mz:Nat) {j:Nat} {h:aa} (hi:Inv mz j h):LL SS gU [1,0,1,0,0] (iH b m d k j) h (KK SS gU [1,0,1,0] [] (EE SS gU Q)):=
 gH (iH b m d k) Inv (λmz j zz h hi=>az (step mz j zz h hi)) mz hi
noncomputable def FL:FD:=fo Tryz.f119 []
theorem CW(b:OA)(m d k:Nat)(h:aa)(Q:VH)(hx:FW SS 153 [(.slice b m d),(.func (.func 120) ⟨[]⟩ ⟨[(pA k)]⟩)] h λv1 h2=>yI .i64 v1 λn3=>Q (.bool (decide ((n3:Int)>=0))) h2):FW SS 119 [(.slice b m d),(.func (.func 120) ⟨[]⟩ ⟨[(pA k)]⟩)] h Q:=fy FL Tryz.func119 (az hx)
noncomputable def oF:FD:=fo Tryz.f74 [([1,1,0,1,0,0],[2,3,4,11,12,13])]
abbrev iW(k k2:Nat)(a:OA)(n c:Nat)(i:Nat):LV:=[(pA k),(pA k2),(.bool false),(.slice a n c),(iA n),(iA i)]
theorem Ly(mv:LV)(f:Nat)(h:aa)(Q:VH)(hx:xN (l8 SS.P 24 (.agg ⟨mv⟩)) h λB1 g2=>xN (l8 SS.P 100 (.func (.func f) ⟨[]⟩ ⟨[]⟩)) g2 λB3 g4=>xA (ag SS.P 24 g4 (pA (h.next))) λc5=>FW SS 30 [(.agg ⟨c5⟩)] g4 λv6 h7=>yB v6 λb8=>aZ (!b8) (Q (.bool false) h7) (xP (ah SS.P 24 (pA (h.next)) 3) λp9=>xL (ag SS.P 22 h7 (.pointer (some p9))) λa10 n11 bO=>LL SS oF [1,1,0,1,0,0] (iW (h.next) (g2.next) a10 n11 bO 0) h7 (KK SS oF [1,1,0,1,0] [] (EE SS oF Q)))):FW SS 74 [(.agg ⟨mv⟩),(.func (.func f) ⟨[]⟩ ⟨[]⟩)] h Q:=fy oF Tryz.func74 (az hx)
theorem se(mv:LV)(f:Nat)(k k2:Nat)(a:OA)(n c:Nat)(Inv:Nat->Nat->aa->Prop)(Q:VH)(step:∀(mz:Nat) (i:Nat) (zz:Nat->Value) (h:aa),Inv mz i h->aZ (decide (((i:Int):Int)<(n:Int))) (xP (af SS.P 22 (.slice a n c) (iA i)) λp13=>xA (ag SS.P 38 h (.pointer (some p13))) λbV=>xN (bN SS.P 38) h λB15 g16=>xU (an SS.P 38 (pA (h.next)) (.agg ⟨bV⟩) g16) g16 λu17 g18=>xP (ah SS.P 38 (pA (h.next)) 1) λp19=>xL (ag SS.P 36 g18 (.pointer (some p19))) λa20 n21 c22=>FW SS 119 [(.slice a20 n21 c22),(.func (.func 120) ⟨[]⟩ ⟨[(pA k2)]⟩)] g18 λv23 h24=>yB v23 λb25=>aZ b25 (Q (.bool false) h24) (ba (lZ (iW k k2 a n c) Inv) mz [(pA k),(pA k2),(.bool false),(.slice a n c),(iA n),(.int .i64 (wrap .i64 ((i:Int)+1)))] h24)) (Q (.bool true) h))(mz:Nat){i:Nat}{h:aa}(hi:Inv mz i h):LL SS oF [1,1,0,1,0,0] (iW k k2 a n c i) h (KK SS oF [1,1,0,1,0] [] (EE SS oF Q)):=
 gH (iW k k2 a n c) Inv (λmz i zz h hi=>az (step mz i zz h hi)) mz hi
noncomputable def NX:FD:=fo Tryz.f52 []
theorem Lw(mv:LV)(h:aa)(Q:VH)(hx:xN (l8 SS.P 24 (.agg ⟨mv⟩)) h λB1 g2=>xA (ag SS.P 24 g2 (pA (h.next))) λc3=>FW SS 74 [(.agg ⟨c3⟩),(.func (.func 75) ⟨[]⟩ ⟨[]⟩)] g2 λv4 h5=>yB v4 λb6=>Q (.bool b6) h5):FW SS 52 [(.agg ⟨mv⟩)] h Q:=fy NX Tryz.func52 (az hx)
noncomputable def IT:FD:=fo Tryz.f53 []
theorem Gg(mv:LV)(h:aa)(Q:VH)(hx:xN (l8 SS.P 24 (.agg ⟨mv⟩)) h λB1 g2=>xA (ag SS.P 24 g2 (pA (h.next))) λc3=>FW SS 74 [(.agg ⟨c3⟩),(.func (.func 76) ⟨[]⟩ ⟨[]⟩)] g2 λv4 h5=>yB v4 λb6=>Q (.bool b6) h5):FW SS 53 [(.agg ⟨mv⟩)] h Q:=fy IT Tryz.func53 (az hx)
section
def CH(t:dj->Bool)(l:List iM):Bool:=l.all λs=>s.bD.all t
def Nh(q:dj):Bool:=q.i==q.o
def uC(q:dj):Bool:=q.i !=0||q.o !=0
def CF(f:Nat)(t:dj->Bool):Prop:=∀(q:dj)(g:aa),Wf g->FW SS f [.agg ⟨gf q⟩] g (λv g'=>v = .bool (t q)/\Ok g g')
def Bq(q:dj):bt:= .cells (gf q) 34 0 true
theorem HK(q:dj):l8 SS.P 34 (.agg ⟨gf q⟩)=some (Bq q,kj):=by kernel_rfl
theorem Kt:CF 75 Nh:=λq g w=>by
 have b:AB (g.push (Bq q)) g.next q:=bm g _;exact Ks _ g _ ⟨_,HK q,_,mD _ _,_,b.l0,_,C5 _ _,_,b.l1,rfl,(Ok.refl w).push _⟩
theorem GJ:CF 76 uC:=λq g w=>by
 have b:AB (g.push (Bq q)) g.next q:=bm g _;refine GI _ g _ ⟨_,HK q,_,mD _ _,_,b.l0,ae (λt=>⟨?_,(Ok.refl w).push _⟩) (λt=>⟨_,C5 _ _,_,b.l1,?_,(Ok.refl w).push _⟩)⟩
 ·unfold uC;rw[t];rfl
 ·unfold uC;rw[t];rfl
noncomputable def RQ:TypeDesc:=(SS.P.underlying 44).getD .bool
theorem Tt:SS.P.underlying 44=some RQ:=by kernel_rfl
theorem Si:Go.Ab.isAgg SS.P 100=false:=by kernel_rfl
def MD(g:aa)(k f:Nat):Prop:=g.get k=some (.cells [vv f] 100 0 true)
theorem MD.ok{g g':aa}{k f:Nat}(x:MD g k f)(o:Ok g g'):MD g' k f:=o.ext _ _ x
section
variable {f:Nat} {t:dj->Bool} (hf:Nat.blt f YB=true) (ht:CF f t)
include hf ht
theorem Ky(q:dj){k:Nat}{g:aa}(w:Wf g)(b:MD g k f):FW SS 120 [.agg ⟨gf q⟩,.pointer (some ⟨k,0,none⟩)] g (λv g'=>v = .bool (!t q)/\Ok g g'):=by
 have o:=(Ok.refl w).push (Bq q);have hk:=bm g (Bq q);refine Kx _ k g _ ⟨_,HK q,f,[],[],eI Tt Si (b.ok o) (by simp),_,rC Ps Ni B9 hk (by simp[gf]),?_⟩;refine wF (K:=λv g'=>(match v with|.bool x=>Value.bool (!x) = .bool (!t q)|_=>False)/\Ok g g') hf ((ht q _ o.wf).mono ?_);rintro _ g2 ⟨rfl,o2⟩;exact⟨_,rfl,rfl,o.trans o2⟩
theorem Dh{k:Nat}{g:aa}(w:Wf g)(bx:MD g k f){b:Option Addr}{m d:Nat}{l:List dj}(ar:fQ g (.slice b m d) l)(hl:l.length<=2000):
  FW SS 153 [.slice b m d,.func (.func 120) ⟨[]⟩ ⟨[.pointer (some ⟨k,0,none⟩)]⟩] g (λv g'=>∃n:Int,v = .int .i64 n/\decide (n>=0)=(!l.all t)/\Ok g g'):=by
 have hm:=ar.len;refine Dg b m d k g _ (oC b m d k (λmz j g'=>j<=m/\mz=m-j/\Ok g g'/\(l.drop j).all t=l.all t) _ (λmz j=>?_) m (j:=0) ⟨by omega,rfl,Ok.refl w,rfl⟩);intros;rename_i g' hi;obtain⟨h1,h2,ok,h3⟩:=hi;refine ae (λq1=>?_) (λq1=>?_)
 ·have q1:=dT q1;obtain⟨q,hq⟩:∃q,l[j]?=some q:=⟨_,gE (by omega)⟩
  obtain⟨bb,o,e1,e2,e3⟩:=(ar.ok ok).at_ hq;rw[je hq,all_cons]at h3;refine⟨_,e1,_,e2,(Ky hf ht q ok.wf (bx.ok ok)).mono ?_⟩;rintro _ g2 ⟨rfl,o2⟩;refine⟨_,rfl,ae (λt1=>⟨_,rfl,?_,ok.trans o2⟩) (λt1=>?_)⟩
  ·rw[not_eq_true']at t1;rw[<-h3,t1];simp
  ·rw[not_eq_false']at t1;rw[t1,Bool.true_and]at h3;rw[bW (i:=j) (n:=m) (by omega) (by omega)];exact eH (mz-1) (by omega) ⟨by omega,by omega,ok.trans o2,h3⟩
 ·have q1:=dF q1;refine⟨_,rfl,?_,ok⟩;rw[drop_eq_nil_of_le (by omega)]at h3;rw[<-h3];rfl
theorem CX{k:Nat}{g:aa}(w:Wf g)(bx:MD g k f){b:Option Addr}{m d:Nat}{l:List dj}(ar:fQ g (.slice b m d) l)(hl:l.length<=2000):
  FW SS 119 [.slice b m d,.func (.func 120) ⟨[]⟩ ⟨[.pointer (some ⟨k,0,none⟩)]⟩] g (λv g'=>v = .bool (!l.all t)/\Ok g g'):=by
 refine CW b m d k g _ ((Dh hf ht w bx ar hl).mono ?_);rintro _ g2 ⟨n,rfl,h1,o⟩;exact⟨_,rfl,by rw[h1],o⟩
theorem EU{h:aa}(tb:mn h)(w:Wf h){M:cb}(sm:Small M){a:Option Addr}{n c:Nat}(r:gr h (.slice a n c) M.aA):FW SS 74 [.agg ⟨iC M a n c⟩,vv f] h (λv h'=>v = .bool (eN M&&CH t M.aA)/\Ok h h'):=by
 obtain⟨mb0,ok0⟩:=mu w r;refine Ly (iC M a n c) f h _ ⟨_,rj M a n c,.cells [vv f] 100 0 true,by kernel_rfl,?_⟩;generalize h.push (Bm M a n c)=g0 at*;have o1:=(Ok.refl ok0.wf).push (.cells [vv f] 100 0 true);have bx:MD (g0.push (.cells [vv f] 100 0 true)) g0.next f:=bm g0 _;have mb:=mb0.ok o1;have ok:=ok0.trans o1;generalize g0.push (.cells [vv f] 100 0 true)=g at*;refine⟨_,mb.all,(wY (tb.ok ok) ok.wf sm mb.row).mono ?_⟩;rintro _ g2 ⟨rfl,o2⟩;have ok2:=ok.trans o2;have mb2:=mb.ok o2;have bx2:=bx.ok o2;have hn:n<=300:=by rw[mb.len];exact sm.Pb
 refine⟨_,rfl,ae (λq=>⟨?_,ok2⟩) (λq=>?_)⟩
 ·rw[not_eq_true']at q;rw[q];rfl
 rw[not_eq_false']at q;rw[q,Bool.true_and];refine⟨_,iG _,_,_,_,mb2.l3,?_⟩;obtain⟨V,hV⟩:∃V,V=CH t M.aA:=⟨_,rfl⟩
 rw[<-hV];refine se (iC M a n c) f h.next g0.next a n c (λmz i g'=>i<=n/\mz=n-i/\MB g' h.next M a n c/\MD g' g0.next f/\Ok h g'/\CH t (M.aA.drop i)=V) (bQ h V) (λmz i=>?_) n (i:=0) ⟨by omega,rfl,mb2,bx2,ok2,hV.symm⟩;intros;rename_i gg hi;obtain⟨f1,f2,mb3,bx3,ok3,f5⟩:=hi;have hl:=mb3.len;refine ae (λq1=>?_) (λq1=>?_)
 ·have q1:=dT q1;obtain⟨s,hs⟩:∃s,M.aA[i]?=some s:=⟨_,gE (by omega)⟩
  obtain⟨b,o,x,y,z,e1,e2,e3,e4,ar⟩:=mb3.row.at_ hs;obtain⟨l1,l2,l3⟩:=sN sm hs;rw[je hs]at f5;unfold CH at f5;rw[all_cons]at f5;obtain⟨u,p1,p2,p3⟩:=BC ok3.wf s.f x y z;refine⟨_,e1,_,e2,_,Hw,u,p1,_,kQ _ _,_,_,_,p3.l1,?_⟩;have okg:=ok3.trans p2;refine(CX hf ht okg.wf (bx3.ok p2) (ar.ok p2) l1).mono ?_;rintro _ g4 ⟨rfl,o4⟩;refine⟨_,rfl,ae (λq2=>⟨?_,okg.trans o4⟩) (λq2=>?_)⟩
  ·rw[not_eq_true']at q2;rw[<-f5,q2];rfl
  ·rw[not_eq_false']at q2;rw[q2,Bool.true_and]at f5;rw[bW (i:=i) (n:=n) (by omega) (by omega)];exact eH (mz-1) (by omega) ⟨by omega,by omega,(mb3.ok p2).ok o4,(bx3.ok p2).ok o4,okg.trans o4,f5⟩
 ·have q1:=dF q1;refine⟨?_,ok3⟩;rw[drop_eq_nil_of_le (by omega)]at f5;rw[<-f5];rfl
end
def Ng(M:cb):Bool:=eN M&&CH Nh M.aA
def DC(M:cb):Bool:=eN M&&CH uC M.aA
theorem Lx{h:aa}(tb:mn h)(w:Wf h){M:cb}(sm:Small M){a:Option Addr}{n c:Nat}(r:gr h (.slice a n c) M.aA):FW SS 52 [.agg ⟨iC M a n c⟩] h (λv h'=>v = .bool (Ng M)/\Ok h h'):=by
 obtain⟨mb,ok⟩:=mu w r;refine Lw _ h _ ⟨_,rj M a n c,_,mb.all,(EU (by decide +kernel) Kt (tb.ok ok) ok.wf sm mb.row).mono ?_⟩;rintro _ g ⟨rfl,o⟩;exact⟨_,rfl,rfl,ok.trans o⟩
theorem Gh{h:aa}(tb:mn h)(w:Wf h){M:cb}(sm:Small M){a:Option Addr}{n c:Nat}(r:gr h (.slice a n c) M.aA):FW SS 53 [.agg ⟨iC M a n c⟩] h (λv h'=>v = .bool (DC M)/\Ok h h'):=by
 obtain⟨mb,ok⟩:=mu w r;refine Gg _ h _ ⟨_,rj M a n c,_,mb.all,(EU (by decide +kernel) GJ (tb.ok ok) ok.wf sm mb.row).mono ?_⟩;rintro _ g ⟨rfl,o⟩;exact⟨_,rfl,rfl,ok.trans o⟩
end
theorem G4(s:iM)(l:List iM):uY (s::l)=s.bD.length+uY l:=by simp[uY]
noncomputable def fj:FD:=fo Tryz.f31 [([1,1,0,1,0,0],[1,2,17,18,19]),([1,1,0,1,0,0,1,1,0,0,1,1,0,1,0,0],[1,2,4,5,17,18,19,25,26,27])]
abbrev fD(k:Nat)(a:OA)(n c:Nat)(i:Nat):LV:=[(pA k),(.bool false),(.slice a n c),(iA n),(iA i)]
abbrev iX(k:Nat)(a:OA)(n c k2 k3:Nat)(b:OA)(m d i:Nat)(j:Nat):LV:=[(pA k),(.bool false),(pA k2),(.map (some k3)),(.slice a n c),(iA n),(iA i),(.slice b m d),(iA m),(iA j)]
theorem LC(mv:LV)(h:aa)(Q:VH)(hx:xN (l8 SS.P 24 (.agg ⟨mv⟩)) h λB1 g2=>xA (ag SS.P 24 g2 (pA (h.next))) λc3=>FW SS 52 [(.agg ⟨c3⟩)] g2 λv4 h5=>yB v4 λb6=>aZ (!b6) (Q (.bool false) h5) (xA (ag SS.P 24 h5 (pA (h.next))) λc7=>FW SS 53 [(.agg ⟨c7⟩)] h5 λv8 h9=>yB v8 λb10=>aZ (!b10) (Q (.bool false) h9) (xP (ah SS.P 24 (pA (h.next)) 3) λp11=>xL (ag SS.P 22 h9 (.pointer (some p11))) λa12 n13 bV=>LL SS fj [1,1,0,1,0,0] (fD (h.next) a12 n13 bV 0) h9 (KK SS fj [1,1,0,1,0] [] (EE SS fj Q))))):FW SS 31 [(.agg ⟨mv⟩)] h Q:=fy fj Tryz.func31 (az hx)
theorem sf(mv:LV)(k:Nat)(a:OA)(n c:Nat)(Inv:Nat->Nat->aa->Prop)(Q:VH)(step:∀(mz:Nat) (i:Nat) (zz:Nat->Value) (h:aa),Inv mz i h->aZ (decide (((i:Int):Int)<(n:Int))) (xP (af SS.P 22 (.slice a n c) (iA i)) λp15=>xA (ag SS.P 38 h (.pointer (some p15))) λc16=>xN (bN SS.P 38) h λB17 g18=>xU (an SS.P 38 (pA (h.next)) (.agg ⟨c16⟩) g18) g18 λu19 g20=>∃B21:bt,ue SS.P 83=some (B21,λk=> .map (some k))/\xP (ah SS.P 38 (pA (h.next)) 1) λp22=>xL (ag SS.P 36 (g20.push B21) (.pointer (some p22))) λa23 n24 c25=>LL SS fj [1,1,0,1,0,0,1,1,0,0,1,1,0,1,0,0] (iX k a n c (h.next) (g20.next) a23 n24 c25 i 0) (g20.push B21) (KK SS fj [1,1,0,0,1,1,0,1,0] [1,1,0,1,0,0] (RR fj [1,1,0,1,0,0] (lZ (fD k a n c) Inv) mz (KK SS fj [1,1,0,1,0] [] (EE SS fj Q))))) (Q (.bool true) h))(mz:Nat){i:Nat}{h:aa}(hi:Inv mz i h):LL SS fj [1,1,0,1,0,0] (fD k a n c i) h (KK SS fj [1,1,0,1,0] [] (EE SS fj Q)):=
 gH (fD k a n c) Inv (λmz i zz h hi=>az (step mz i zz h hi)) mz hi
theorem sg(mv:LV)(k:Nat)(a:OA)(n c k2 k3:Nat)(b:OA)(m d:Nat)(Inv:Nat->Nat->aa->Prop)(mz i:Nat)(Inv2:Nat->Nat->aa->Prop)(Q:VH)(step:∀(mz2:Nat) (j:Nat) (zz:Nat->Value) (h:aa),Inv2 mz2 j h->aZ (decide (((j:Int):Int)<(m:Int))) (xP (af SS.P 36 (.slice b m d) (iA j)) λp26=>xA (ag SS.P 34 h (.pointer (some p26))) λc27=>xN (bN SS.P 34) h λB28 g29=>xU (an SS.P 34 (pA (h.next)) (.agg ⟨c27⟩) g29) g29 λu30 g31=>xP (ah SS.P 34 (pA (h.next)) 0) λp32=>xI .i64 (ag SS.P 3 g31 (.pointer (some p32))) λn33=>xU (kY SS.P 83 (.map (some k3)) (.int .i64 n33) (.bool true) g31) g31 λu34 g35=>ba (lZ (iX k a n c k2 k3 b m d i) Inv2) mz2 [(pA k),(.bool false),(pA k2),(.map (some k3)),(.slice a n c),(iA n),(iA i),(.slice b m d),(iA m),(.int .i64 (wrap .i64 ((j:Int)+1)))] g35) (xI .i64 (A6 SS.P 83 (.map (some k3)) h) λn36=>xP (ah SS.P 38 (pA k2) 1) λp37=>xL (ag SS.P 36 h (.pointer (some p37))) λa38 n39 c40=>aZ (((n36:Int) !=(n39:Int))) (Q (.bool false) h) (ba (lZ (fD k a n c) Inv) mz [(pA k),(.bool false),(.slice a n c),(iA n),(.int .i64 (wrap .i64 ((i:Int)+1)))] h)))(mz2:Nat){j:Nat}{h:aa}(hi:Inv2 mz2 j h):LL SS fj [1,1,0,1,0,0,1,1,0,0,1,1,0,1,0,0] (iX k a n c k2 k3 b m d i j) h (KK SS fj [1,1,0,0,1,1,0,1,0] [1,1,0,1,0,0] (RR fj [1,1,0,1,0,0] (lZ (fD k a n c) Inv) mz (KK SS fj [1,1,0,1,0] [] (EE SS fj Q)))):=
 gH (iX k a n c k2 k3 b m d i) Inv2 (λmz2 j zz h hi=>az (step mz2 j zz h hi)) mz2 hi
section
theorem xy{kind:Int}{N:Nat}:∀{l:List iM}{acc:Int},pZ kind N acc l=true->∀s∈l,(s.f==[]||cO kind s.f)=true/\∀q∈s.bD,lQ kind N q=true
 |[],_,_,s,hs=>by cases hs
 |x::l,acc,h,s,hs=>by
  unfold pZ at h;simp only[and_eq_true]at h;obtain⟨⟨⟨h1,h2⟩,h3⟩,h4⟩:=h;rcases List.mem_cons.1 hs with rfl|hs
  ·exact⟨h2,λq hq=>List.all_eq_true.1 h3 q hq⟩
  ·exact xy h4 s hs
structure Mz(N:Nat)(q:dj):Prop where
 i0:0<=q.i
 i1:q.i<=500
 o0:0<=q.o
 o1:q.o<=500
 t0:0<=q.t
 t1:q.t<N
theorem HC{kind:Int}{N:Nat}{q:dj}(h:lQ kind N q=true):Mz N q:=by
 unfold lQ xz at h;simp only[and_eq_true,decide_eq_true_eq]at h;obtain⟨⟨⟨⟨⟨h1,h2⟩,h3,h4⟩,h5⟩,h6⟩,h7⟩:=h;exact⟨h1,h2,h3,h4,h5,h6⟩
structure Good(M:cb):Prop where
 Tp:0<=M.start
 Tq:M.start<M.aA.length
 bD:∀s∈M.aA,∀q∈s.bD,Mz M.aA.length q
theorem rN{M:cb}(h:eN M=true):Good M:=by
 unfold eN at h;simp only[and_eq_true,decide_eq_true_eq]at h;obtain⟨⟨⟨⟨⟨⟨⟨h1,h2⟩,h3⟩,h4⟩,h5⟩,h6⟩,h7⟩,h8⟩:=h;exact⟨h5,h6,λs hs q hq=>HC ((xy h8 s hs).2 q hq)⟩
theorem NQ(a b:Int):rA SS.P 3 (.int .i64 a) (.int .i64 b)=some (decide (a=b)):=by
 by_cases h:a=b
 ·subst h;have e:fX SS.P 3 3 (.int .i64 a) (.int .i64 a)=some (a==a):=by kernel_rfl
  unfold rA;rw[if_pos (show qL (Value.int .i64 a)=true from rfl),e];simp[E8,BL]
 ·have e:fX SS.P 3 3 (.int .i64 a) (.int .i64 b)=some (a==b):=by kernel_rfl
  unfold rA;rw[if_pos (show qL (Value.int .i64 b)=true from rfl),e,show(a==b)=false by simpa using h];simp[h]
def oD(l:List Int)(k:Int):List Int:=if k∈l then l else l++[k]
def vU(x:Int):Value×Value:=(.int .i64 x,.bool true)
theorem AY(k:Int):∀l:List Int,iQ SS.P 3 (.int .i64 k) (.bool true) (l.map vU)=some ((oD l k).map vU)
 |[]=>rfl
 | x::l=>by
  show(match rA SS.P 3 (.int .i64 k) (.int .i64 x)with|some true=>some ((Value.int .i64 k,Value.bool true)::l.map vU)|some false=>(iQ SS.P 3 (.int .i64 k) (.bool true) (l.map vU)).map (vU x::·)|none=>none)=_;rw[NQ];by_cases h:k=x
  ·subst h;simp[oD,vU]
  ·rw[show decide (k=x)=false by simpa using h];dsimp only;rw[AY k l];unfold oD;by_cases h2:k∈l
   ·rw[if_pos h2,if_pos (List.mem_cons_of_mem _ h2)];rfl
   ·rw[if_neg h2,if_neg (λe=>by rcases List.mem_cons.1 e with e|e;exact h e;exact h2 e)];rfl
theorem tM:∀(l acc:List Int),acc.Nodup->((l.foldl oD acc).length=acc.length+l.length↔(acc++l).Nodup)/\(l.foldl oD acc).length<=acc.length+l.length
 |[],acc,h=>by simp[h]
 | x::l,acc,h=>by
  rw[List.foldl_cons];by_cases hx:x∈acc
  ·have e:oD acc x=acc:=by unfold oD;rw[if_pos hx]
   rw[e];obtain⟨h1,h2⟩:=tM l acc h;refine⟨⟨λh3=>by simp at h3;omega,λh3=>?_⟩,by simp;omega⟩;rw[List.nodup_append]at h3;exact absurd rfl (h3.2.2 x hx x (List.mem_cons_self ..))
  ·have e:oD acc x=acc++[x]:=by unfold oD;rw[if_neg hx]
   rw[e];have hn:(acc++[x]).Nodup:=by
    rw[List.nodup_append];refine⟨h,by simp,λa ha b hb=>?_⟩;rw[mem_singleton]at hb;rintro rfl;exact hx (hb▸ha)
   obtain⟨h1,h2⟩:=tM l (acc++[x]) hn;rw[append_assoc]at h1;simp only[length_append,List.length_cons,length_nil,List.singleton_append]at h1 h2⊢;refine⟨⟨λh3=>h1.1 (by omega),λh3=>?_⟩,by omega⟩;have:=h1.2 h3;omega
theorem QN:SS.P.underlying 83=some (.map 3 4):=by kernel_rfl
theorem RV{h:aa}{k:Nat}{l:List Int}(hk:h.get k=some (.map (l.map vU)))(x:Int):kY SS.P 83 (.map (some k)) (.int .i64 x) (.bool true) h=some (undef,.set k (.map ((oD l x).map vU))):=by
 unfold kY;rw[QN];dsimp only;rw[hk];dsimp only;rw[show lU SS.P 3 (.int .i64 x)=true by kernel_rfl,if_pos rfl,AY];rfl
theorem QF{h:aa}{k:Nat}{es:List (Value×Value)}(hk:h.get k=some (.map es)):A6 SS.P 83 (.map (some k)) h=some (.int .i64 (es.length:Int)):=by
 unfold A6;rw[QN];dsimp only;rw[hk]
theorem QL:ue SS.P 83=some (.map [],λk=> .map (some k)):=by kernel_rfl
def jP(s:iM):List Int:=s.bD.map (·.i)
def Ao(s:iM):Bool:=decide (jP s).Nodup
def yn(M:cb):Bool:=Ng M&&DC M&&M.aA.all Ao
section
variable {h:aa} {k:Nat} {M:cb} {a:Option Addr} {n c:Nat}
def Qe(h:aa)(k:Nat)(M:cb)(a:Option Addr)(n c:Nat)(V:Bool)(mz i:Nat)(g:aa):Prop:=i<=n/\mz=n-i/\MB g k M a n c/\Ok h g/\(M.aA.drop i).all Ao=V
set_option linter.defProp false in
def IV{hb:aa}(w:Wf hb)(okb:Ok h hb)(sm:Small M)(V:Bool){s:iM}{b:Option Addr}{m d i k2 k3:Nat}(hs:M.aA[i]?=some s)(hi:i<n)(mb0:MB hb k M a n c)(hv:(Ao s&&(M.aA.drop (i+1)).all Ao)=V)(hk3:hb.next<=k3)(mv:List Value)(mz:Nat)(hmz:mz=n-i):=
 sg mv k a n c k2 k3 b m d (Qe h k M a n c V) mz i (λmz2 j g=>j<=m/\mz2=m-j/\Ok hb g/\fQ g (.slice b m d) s.bD/\g.get k2=some (.cells [strOf s.f,.slice b m d] 38 0 true)/\k3≠k2/\hb.next<=k2/\g.get k3=some (.map ((((jP s).take j).foldl oD []).map vU))) (bQ h V) (by
  intro mz2 j;intros;rename_i g hin;obtain⟨f1,f2,ok,ar,sb,hne,hk2,hm⟩:=hin;have mb:=mb0.ok ok;have hn:n<=300:=by rw[mb.len];exact sm.Pb
  obtain⟨l1,l2,l3⟩:=sN sm hs;have hml:=ar.len;refine ae (λg1=>?_) (λg1=>?_)
  ·have g1:=dT g1;obtain⟨q,hq⟩:∃q,s.bD[j]?=some q:=⟨_,gE (by omega)⟩
   obtain⟨bb,o,e1,e2,e3⟩:=ar.at_ hq;obtain⟨u,p1,p2,p3⟩:=xb ok.wf q;have hm2:=p2.ext _ _ hm;refine⟨_,e1,_,e2,_,Fu,u,p1,_,mD _ _,_,p3.l0,_,RV hm2 q.i,?_⟩;have okg:=ok.trans p2;have sb2:=p2.ext _ _ sb;have ar2:=ar.ok p2;generalize u.app (g.push Hm)=g2 at*;rw[bW (i:=j) (n:=m) (by omega) (by omega)];have ok3:Ok hb ((cL.set k3 (.map ((oD (((jP s).take j).foldl oD []) q.i).map vU))).app g2):=okg.set _ hk3 (okg.wf _ _ hm2) w;have hq':(jP s)[j]?=some q.i:=by unfold jP;rw[getElem?_map,hq];rfl
   have ht:(jP s).take (j+1)=(jP s).take j++[q.i]:=by rw[List.take_add_one,hq'];rfl
   refine eH (mz2-1) (by omega) ⟨by omega,by omega,ok3,?_,?_,hne,hk2,?_⟩
   ·
    obtain⟨bb',oo',xx,yy,zz,_,_,_,w4,ar0⟩:=(mb0.ok ok3).row.at_ hs;obtain⟨bb2,oo2,xx2,yy2,zz2,v1,_,_,v4,ar02⟩:=(mb0.ok okg).row.at_ hs;obtain⟨r1,⟨r2,r3⟩|⟨kk,off,cs,e',z',cc,wr,r2,r3,r4,r5⟩⟩:=ar2
    ·exact⟨r1,.inl ⟨r2,r3⟩⟩
    ·refine⟨r1,.inr ⟨kk,off,cs,e',z',cc,wr,r2,?_,r4,r5⟩⟩;show(g2.set k3 _).get kk=_;rw[aa.aR,if_neg (λe=>by rw[e,hm2]at r3;cases r3)];exact r3
   ·show(g2.set k3 _).get k2=_;rw[aa.aR,if_neg (λe=>hne e.symm)];exact sb2
   ·show(g2.set k3 _).get k3=_;rw[aa.aR,if_pos rfl,ht,List.foldl_append];rfl
  ·have g1:=dF g1;obtain rfl:m=j:=by omega
   have sbl:SB g k2 s.f b m d:=sb;refine⟨_,QF hm,_,kQ _ _,_,_,_,sbl.l1,?_⟩;have hlen:(jP s).length=m:=by unfold jP;rw[lM];exact hml.symm
   obtain⟨q1,q2⟩:=tM (jP s) [] List.nodup_nil;rw[nil_append,length_nil,zero_add,hlen]at q1;rw[lM,take_of_length_le (by omega)];refine ae (λt=>⟨?_,okb.trans ok⟩) (λt=>?_)
   ·have t:¬(((jP s).foldl oD []).length:Int)=(m:Int):=by simpa using t
    rw[<-hv,show Ao s=false from decide_eq_false λe=>t (by rw[q1.2 e])];rfl
   ·have t:(((jP s).foldl oD []).length:Int)=(m:Int):=by simpa using t
    rw[show Ao s=true from decide_eq_true (q1.1 (by omega)),Bool.true_and]at hv;rw[bW hi (by omega)];exact eH (n-(i+1)) (by omega) ⟨by omega,rfl,mb,okb.trans ok,hv⟩)
theorem LD(tb:mn h)(w:Wf h)(sm:Small M)(r:gr h (.slice a n c) M.aA):FW SS 31 [.agg ⟨iC M a n c⟩] h (λv h'=>v = .bool (yn M)/\Ok h h'):=by
 obtain⟨mb,ok⟩:=mu w r;refine LC (iC M a n c) h _ ⟨_,rj M a n c,_,mb.all,(Lx (tb.ok ok) ok.wf sm mb.row).mono ?_⟩;generalize h.push (Bm M a n c)=g at*;rintro _ g2 ⟨rfl,o2⟩;have ok2:=ok.trans o2;have mb2:=mb.ok o2;have hn:n<=300:=by rw[mb.len];exact sm.Pb
 refine⟨_,rfl,ae (λq=>⟨?_,ok2⟩) (λq=>?_)⟩
 ·rw[not_eq_true']at q;unfold yn;rw[q];rfl
 rw[not_eq_false']at q;refine⟨_,mb2.all,(Gh (tb.ok ok2) ok2.wf sm mb2.row).mono ?_⟩;rintro _ g3 ⟨rfl,o3⟩;have ok3:=ok2.trans o3;have mb3:=mb2.ok o3;refine⟨_,rfl,ae (λt=>⟨?_,ok3⟩) (λt=>?_)⟩
 ·rw[not_eq_true']at t;unfold yn;rw[t,Bool.and_false];rfl
 rw[not_eq_false']at t;obtain⟨V,hV⟩:∃V,V=M.aA.all Ao:=⟨_,rfl⟩
 have:yn M=V:=by unfold yn;rw[q,t,hV];rfl
 rw[this];refine⟨_,iG _,_,_,_,mb3.l3,?_⟩;refine sf (iC M a n c) h.next a n c (Qe h h.next M a n c V) (bQ h V) (λmz i=>?_) n (i:=0) ⟨by omega,rfl,mb3,ok3,hV.symm⟩;intros;rename_i gg hi;obtain⟨f1,f2,mb4,ok4,f5⟩:=hi;have hl:=mb4.len;refine ae (λq1=>?_) (λq1=>?_)
 ·have q1:=dT q1;obtain⟨s,hs⟩:∃s,M.aA[i]?=some s:=⟨_,gE (by omega)⟩
  obtain⟨b,o,x',y,z,e1,e2,e3,e4,ar⟩:=mb4.row.at_ hs;rw[je hs,all_cons]at f5;obtain⟨u,p1,p2,p3⟩:=BC ok4.wf s.f x' y z;have p4:=(Ok.refl p2.wf).push (.map []);have hk3:=bm (u.app (gg.push Ek)) (.map []);have hlt:gg.next<(u.app (gg.push Ek)).next:=p2.wf _ _ p3;refine⟨_,e1,_,e2,_,Hw,u,p1,_,QL,_,kQ _ _,_,_,_,(p3.ok p4).l1,?_⟩;generalize u.app (gg.push Ek)=g5 at*;exact IV ok4.wf ok4 sm V hs (by omega) mb4 f5 (by omega) [] mz f2 y (j:=0) ⟨by omega,rfl,p2.trans p4,(ar.ok p2).ok p4,p3.ok p4,by omega,Nat.le_refl _,hk3⟩
 ·have q1:=dF q1;rw[drop_eq_nil_of_le (by omega)]at f5;exact⟨by rw[<-f5];rfl,ok4⟩
end
end
section
theorem JM{h0 g:aa}(w0:Wf h0)(ok:Ok h0 g){v:Value}{vs:List Value}(o:dX h0 g 3 v vs){z:Int}{kx:Nat}(hkx:g.get kx=some (.cells [.int .i64 z] 3 1 true))(hl:vs.length<=100000):
  ∃(b:Option Addr)(n c:Nat)(u:cL),aY SS.P 32 32 v (.slice (some ⟨kx,0,none⟩) 1 1) g=some (.slice b n c,u)/\n=vs.length+1/\dX h0 (u.app g) 3 (.slice b n c) (vs++[.int .i64 z])/\Ok h0 (u.app g)/\
   (∀j B,g.get j=some B->bc v≠some j->(u.app g).get j=some B)/\
   (∀j,bc (.slice b n c)=some j->g.next<=j\/bc v=some j)/\g.next<=(u.app g).next:=
 dX.snoc oT O6 Js w0 ok o rfl hkx (by rw[GP];omega) (by omega)
theorem xD:aw SS.P 32=some 1:=by kernel_rfl
theorem vE:Go.Ab.isAgg SS.P 32=false:=by kernel_rfl
theorem JI:SS.P.underlying 27=some (.slice 32):=by kernel_rfl
theorem jA(a:Option Addr)(n c:Nat):cH (.slice a n c)=true:=by cases a<;>rfl
def qe(g:aa)(k:Nat)(t:TypeId)(v:Value):Prop:=g.get k=some (.cells [v] t 0 true)
theorem qe.ok{g g':aa}{k:Nat}{t:TypeId}{v:Value}(b:qe g k t v)(o:Ok g g'):qe g' k t v:=o.ext _ _ b
theorem qe.ld{g:aa}{k:Nat}{t:TypeId}{v:Value}{d:TypeDesc}(hU:SS.P.underlying t=some d)(ha:Go.Ab.isAgg SS.P t=false)(b:qe g k t v):ag SS.P t g (.pointer (some ⟨k,0,none⟩))=some v:=eI hU ha b (by simp)
theorem qe.st{g:aa}{k:Nat}{t:TypeId}{v:Value}(hs:aw SS.P t=some 1)(b:qe g k t v){v':Value}(hv:cH v'=true)(hc:v'.cells = #[v']):an SS.P t (.pointer (some ⟨k,0,none⟩)) v' g=some (undef,.set k (.cells [v'] t 0 true)):=zq hs b (by simp) hv hc
section
variable {h:aa} {k7 k8 kt N:Nat} {L:List Bool} {T:List Nat} {g:aa}
def xT(g:aa)(a:Option Addr)(N c:Nat)(A:List (List Nat)):Prop:=A.length=N/\∃vs:List Value,Rd g 32 (.slice a N c) vs/\vs.length=N/\∀(i:Nat)(l:List Nat),A[i]?=some l->∃(b:Option Addr)(m d:Nat),vs[i]?=some (.slice b m d)/\Rd g 3 (.slice b m d) (l.map iv)
theorem xT.ok{g g':aa}{a:Option Addr}{N c:Nat}{A:List (List Nat)}(r:xT g a N c A)(o:Ok g g'):xT g' a N c A:=by
 obtain⟨h1,vs,h2,h3,h4⟩:=r;exact⟨h1,vs,h2.ok o,h3,λi l hl=>let⟨b,m,d,e1,e2⟩:=h4 i l hl;⟨b,m,d,e1,e2.ok o⟩⟩
theorem xT.at_{g:aa}{a:Option Addr}{N c:Nat}{A:List (List Nat)}(r:xT g a N c A){i:Nat}{l:List Nat}(hl:A[i]?=some l):
  ∃(p:Addr)(b:Option Addr)(m d:Nat),af SS.P 27 (.slice a N c) (.int .i64 (i:Int))=some (.pointer (some p))/\ag SS.P 32 g (.pointer (some p))=some (.slice b m d)/\Rd g 3 (.slice b m d) (l.map iv):=by
 obtain⟨h1,vs,h2,h3,h4⟩:=r;obtain⟨b,m,d,e1,e2⟩:=h4 i l hl;have hi:=(List.getElem?_eq_some_iff.1 hl).1;obtain⟨p,q1,q2⟩:=h2.at_ JI xD oT vE (k:= .i64) (i:=(i:Int)) (by omega) (by omega);rw[toNat_natCast,gD,e1]at q2;exact⟨p,b,m,d,q1,q2,e2⟩
end
end
theorem R3{h:aa}{a:Option Addr}{n c:Nat}{l:List Nat}(r:Rd h 3 (.slice a n c) (l.map iv)){i:Nat}{x:Nat}(hx:l[i]?=some x):∃p:Addr,af SS.P 32 (.slice a n c) (.int .i64 (i:Int))=some (.pointer (some p))/\ag SS.P 3 h (.pointer (some p))=some (.int .i64 (x:Int)):=by
 have hi:=(List.getElem?_eq_some_iff.1 hx).1;obtain⟨p,h2,h3⟩:=r.at_ oT R8 J1 Ht (k:= .i64) (i:=(i:Int)) (by omega) (by rw[lM];omega);rw[toNat_natCast,gD,getElem?_map,hx]at h3;exact⟨p,h2,h3⟩
theorem Jq{h:aa}{a:Option Addr}{n c:Nat}{l:List Nat}(r:Rd h 3 (.slice a n c) (l.map iv)):n=l.length:=by have:=r.len;rwa[lM]at this
section
theorem dd{α:Type}{l:List α}{i j:Nat}{x y:α}(h:(l.set i x)[j]?=some y):(j=i/\y=x)\/(j≠i/\l[j]?=some y):=by
 rw[List.getElem?_set]at h;split at h
 ·next e=>
  split at h
  ·exact .inl ⟨e.symm,(oI h).symm⟩
  ·cases h
 ·next e=>exact .inr ⟨λc=>e c.symm,h⟩
structure Cp(hb g:aa)(X:Nat->Prop)(vs:List Value)(F:List (List Nat)):Prop where
 len:vs.length=F.length
 own:∀(i:Nat)(v:Value)(l:List Nat),vs[i]?=some v->F[i]?=some l->dX hb g 3 v (l.map iv)
 H8:∀(i j:Nat)(v v':Value),i≠j->vs[i]?=some v->vs[j]?=some v'->∀k,bc v=some k->bc v'≠some k
 out:∀(i:Nat)(v:Value),vs[i]?=some v->∀k,bc v=some k->¬X k
section
variable {hb g:aa} {X:Nat->Prop} {vs:List Value} {F:List (List Nat)}
theorem Cp.dQ(f:Cp hb g X vs F){g':aa}(h:∀(k:Nat) (B:bt),¬X k->g.get k=some B->g'.get k=some B):Cp hb g' X vs F:=
 ⟨f.len,λi v l hv hl=>(f.own i v l hv hl).dQ λk B hk hB=>h k B (f.out i v hv k hk) hB,f.H8,f.out⟩
theorem Cp.ok(f:Cp hb g X vs F){g':aa}(o:Ok g g'):Cp hb g' X vs F:=f.dQ λk B _ hB=>o.ext k B hB
theorem Cp.at_(f:Cp hb g X vs F){i:Nat}{l:List Nat}(hl:F[i]?=some l):∃(a:Option Addr)(c:Nat),vs[i]?=some (.slice a l.length c)/\dX hb g 3 (.slice a l.length c) (l.map iv):=by
 have hi:=(List.getElem?_eq_some_iff.1 hl).1;obtain⟨v,hv⟩:∃v,vs[i]?=some v:=⟨_,gE (by rw[f.len];exact hi)⟩
 have o:=f.own i v l hv hl;obtain⟨a,c,rfl⟩:=o.Mc;rw[lM]at*;exact⟨a,c,hv,o⟩
theorem Cp.snoc(w:Wf hb)(ok:Ok hb g)(f:Cp hb g X vs F)(hX:∀k,X k->k<g.next){idx:Nat}{v:Value}{l:List Nat}(hv:vs[idx]?=some v)(hl:F[idx]?=some l){x:Nat}{kx:Nat}(hkx:g.get kx=some (.cells [.int .i64 (x:Int)] 3 1 true))(hll:l.length<=100000):
  ∃(b:Option Addr)(n c:Nat)(u:cL),aY SS.P 32 32 v (.slice (some ⟨kx,0,none⟩) 1 1) g=some (.slice b n c,u)/\n=l.length+1/\Cp hb (u.app g) X (vs.set idx (.slice b n c)) (F.set idx (l++[x]))/\Ok hb (u.app g)/\
   (∀j B,g.get j=some B->bc v≠some j->(u.app g).get j=some B)/\g.next<=(u.app g).next:=by
 have ov:=f.own idx v l hv hl;obtain⟨b,n,c,u,a1,a2,a3,a4,a5,a6,a7⟩:=JM w ok ov hkx (by rw[lM];exact hll);rw[lM]at a2;refine⟨b,n,c,u,a1,a2,⟨by rw[length_set,length_set];exact f.len,λi v' l' hv' hl'=>?_,λi j v1 v2 hij h1 h2 k hk1 hk2=>?_,λi v' hv' k hk hXk=>?_⟩,a4,a5,a7⟩
 ·rcases dd hv' with⟨e1,rfl⟩|⟨e1,h1⟩
  ·rcases dd hl' with⟨_,rfl⟩|⟨e2,_⟩
   ·rw[map_append];exact a3
   ·exact absurd e1 e2
  ·rcases dd hl' with⟨e2,_⟩|⟨_,h2⟩
   ·exact absurd e2 e1
   ·exact(f.own i v' l' h1 h2).dQ λk B hk hB=>a5 k B hB λc=>f.H8 i idx v' v e1 h1 hv k hk c
 ·have lt:∀(j:Nat)(v2:Value),vs[j]?=some v2->bc v2=some k->k<g.next:=λj v2 h2 hk2=>by
   obtain⟨l2,hl2⟩:∃l2,F[j]?=some l2:=⟨_,gE (by rw[<-f.len];exact(List.getElem?_eq_some_iff.1 h2).1)⟩
   exact((f.own j v2 l2 h2 hl2).lt ok.wf hk2).1
  rcases dd h1 with⟨e1,rfl⟩|⟨e1,h1⟩
  ·rcases dd h2 with⟨e2,_⟩|⟨e2,h2⟩
   ·exact hij (by rw[e1,e2])
   ·rcases a6 k hk1 with h3|h3
    ·have:=lt j v2 h2 hk2;omega
    ·exact f.H8 idx j v v2 (λc=>e2 c.symm) hv h2 k h3 hk2
  ·rcases dd h2 with⟨e2,rfl⟩|⟨e2,h2⟩
   ·rcases a6 k hk2 with h3|h3
    ·have:=lt i v1 h1 hk1;omega
    ·exact f.H8 idx i v v1 (λc=>e1 c.symm) hv h1 k h3 hk1
   ·exact f.H8 i j v1 v2 hij h1 h2 k hk1 hk2
 ·rcases dd hv' with⟨e1,rfl⟩|⟨e1,h1⟩
  ·rcases a6 k hk with h3|h3
   ·have:=hX k hXk;omega
   ·exact f.out idx v hv k h3 hXk
  ·exact f.out i v' h1 k hk hXk
end
structure Us(hb:aa)(R:Nat)(kt:Nat->Nat)(N:Nat)(X:Nat->Prop)(vs:List Value)(F:List (List Nat))(g:aa):Prop where
 cc:∀r,r<R->g.get (kt r)=some (.cells ((vs.drop (r*N)).take N) 32 1 true)
 Hi:Cp hb g X vs F
 ok:Ok hb g
 len:F.length=R*N+1
 xt:∀r,r<R->X (kt r)/\hb.next<=kt r
 inj:∀r r',r<R->r'<R->r≠r'->kt r≠kt r'
 RZ:∀k,X k->k<g.next
section
variable {hb g:aa} {R:Nat} {kt:Nat->Nat} {N:Nat} {X:Nat->Prop} {vs:List Value} {F:List (List Nat)}
theorem Us.ext(s:Us hb R kt N X vs F g){g':aa}(o:Ok g g'):Us hb R kt N X vs F g':=
 ⟨λr hr=>o.ext _ _ (s.cc r hr),s.Hi.ok o,s.ok.trans o,s.len,s.xt,s.inj,λk hk=>lt_of_lt_of_le (s.RZ k hk) o.nx⟩
theorem JF{r i:Nat}(hr:r<R)(hi:i<N):r*N+i<R*N+1:=by
 have:(r+1)*N<=R*N:=Nat.mul_le_mul_right _ hr;rw[add_mul,one_mul]at this;omega
theorem Us.ld(s:Us hb R kt N X vs F g){r i:Nat}(hr:r<R)(hi:i<N):∃(l:List Nat)(a:Option Addr)(c:Nat),F[r*N+i]?=some l/\vs[r*N+i]?=some (.slice a l.length c)/\af SS.P 27 (.slice (some ⟨kt r,0,none⟩) N N) (.int .i64 (i:Int))=some (.pointer (some ⟨kt r,i,none⟩))/\∀g',Us hb R kt N X vs F g'->ag SS.P 32 g' (.pointer (some ⟨kt r,i,none⟩))=some (.slice a l.length c)/\Rd g' 3 (.slice a l.length c) (l.map iv):=by
 have hlt:=JF hr hi;obtain⟨l,hl⟩:∃l,F[r*N+i]?=some l:=⟨_,gE (by rw[s.len];exact hlt)⟩
 obtain⟨a,c,hv,_⟩:=s.Hi.at_ hl;refine⟨l,a,c,hl,hv,?_,λg' s'=>⟨?_,?_⟩⟩
 ·have:=F5 (P:=SS.P) JI xD (k:=kt r) (off:=0) (n:=N) (c:=N) (ik:= .i64) (i:=(i:Int)) (by omega) (by omega);rw[this,toNat_natCast,zero_add,mul_one]
 ·have h1:((vs.drop (r*N)).take N)[i]?=some (.slice a l.length c):=by rw[getElem?_take,if_pos hi,List.getElem?_drop];exact hv
  rw[eI oT vE (s'.cc r hr) (List.getElem?_eq_some_iff.1 h1).1,gD,h1];rfl
 ·exact(s'.Hi.own _ _ _ hv hl).rd
theorem vJ{α:Type}(vs:List α)(o N i:Nat)(x:α)(hi:i<N):((vs.set (o+i) x).drop o).take N=((vs.drop o).take N).set i x:=by
 rw[List.drop_set,if_neg (by omega),show o+i-o=i by omega,List.take_set]
theorem yr{α:Type}(vs:List α)(o N j:Nat)(x:α)(h:j<o\/o+N<=j):((vs.set j x).drop o).take N=(vs.drop o).take N:=by
 apply List.ext_getElem?;intro i;rw[getElem?_take,getElem?_take,List.getElem?_drop,List.getElem?_drop];split
 ·rw[List.getElem?_set,if_neg (by omega)]
 ·rfl
theorem Us.put(w:Wf hb)(s:Us hb R kt N X vs F g){r i:Nat}(hr:r<R)(hi:i<N){vs':List Value}{F':List (List Nat)}{b:Option Addr}{n c:Nat}{l':List Nat}(ev:vs'=vs.set (r*N+i) (.slice b n c))(eF:F'=F.set (r*N+i) l'){g2:aa}(fm:Cp hb g2 X vs' F')(ok2:Ok hb g2)(hk:∀j B,g.get j=some B->X j->g2.get j=some B)(hn:g.next<=g2.next):
  ∃u:cL,an SS.P 32 (.pointer (some ⟨kt r,i,none⟩)) (.slice b n c) g2=some (undef,u)/\Us hb R kt N X vs' F' (u.app g2)/\(∀j B,g2.get j=some B->j≠kt r->(u.app g2).get j=some B):=by
 have hc:=hk _ _ (s.cc r hr) (s.xt r hr).1;have hlt:=JF hr hi;have hl:i<((vs.drop (r*N)).take N).length:=by
  have h1:(R*N+1)=vs.length:=by rw[s.Hi.len,s.len]
  have h2:(r+1)*N<=R*N:=Nat.mul_le_mul_right _ hr;rw[add_mul,one_mul]at h2;rw[length_take,length_drop];omega
 refine⟨_,zq xD hc hl (jA _ _ _) rfl,?_,λj B hj hne=>?_⟩
 ·have hset:∀j,j≠kt r->((cL.set (kt r) (.cells (((vs.drop (r*N)).take N).set i (.slice b n c)) 32 1 true)).app g2).get j=g2.get j:=λj hj=>by
   show(g2.set (kt r) _).get j=_;rw[aa.aR,if_neg hj]
  refine⟨λr' hr'=>?_,fm.dQ λk B hX hB=>?_,ok2.set _ (s.xt r hr).2 (ok2.wf _ _ hc) w,by rw[eF,length_set];exact s.len,s.xt,s.inj,λk hX=>lt_of_lt_of_le (s.RZ k hX) hn⟩
  ·by_cases e:r'=r
   ·subst e;show(g2.set (kt r') _).get (kt r')=_;rw[aa.aR,if_pos rfl,ev,vJ _ _ _ _ _ hi]
   ·rw[hset _ (s.inj r' r hr' hr e),hk _ _ (s.cc r' hr') (s.xt r' hr').1,ev,yr];rcases lt_or_ge r r' with h1|h1
    ·have:=Nat.mul_le_mul_right N (show r+1<=r' from h1);rw[add_mul,one_mul]at this;exact .inl (by omega)
    ·have:=Nat.mul_le_mul_right N (show r'+1<=r by omega);rw[add_mul,one_mul]at this;exact .inr (by omega)
  ·rw[hset k (λc=>hX (c▸(s.xt r hr).1))];exact hB
 ·show(g2.set (kt r) _).get j=_;rw[aa.aR,if_neg hne];exact hj
end
theorem LQ{g:aa}(w:Wf g){n j:Nat}(hj:j<n)(B:bt):Ok g (aV (Go.Ab.room g n) g.next [(j,B)])/\(aV (Go.Ab.room g n) g.next [(j,B)]).get (g.next+j)=some B:=by
 refine⟨((Ok.refl w).room n).set B (Nat.le_add_right _ _) (Nat.add_lt_add_left hj _) w,?_⟩;show((Go.Ab.room g n).set (g.next+j) B).get (g.next+j)=_;rw[aa.aR,if_pos rfl]
end
theorem ES{P:Program}{t:TypeId}{g g':aa}(o:Ok g g'){a v:Value}(h:ag P t g a=some v):ag P t g' a=some v:=by
 unfold ag at h⊢;split at h
 ·next d k i hd=>
  split at h
  ·next cs e sz wr hk=>
   rw[o.ext _ _ hk];exact h
  ·cases h
 ·cases h
noncomputable def Pl:TypeInfo:=(SS.P.info? 32).getD default
theorem Mo:SS.P.info? 32=some Pl:=by kernel_rfl
theorem G7:Pl.size=1:=by kernel_rfl
theorem D2:Pl.bytes=24:=by kernel_rfl
def Br:Value:= .slice none 0 0
theorem Pu:zeroOf SS.P 32=some Br:=by kernel_rfl
theorem SU(n:Nat)(hn:n<=100000):bM SS.P 27 (.int .i64 (n:Int)) (.int .i64 (n:Int))=some (.cells (List.replicate n Br) 32 1 true,jE n n):=by
 unfold bM aJ;dsimp only;rw[JI]
 try dsimp only
 change (match SS.P.info? 32,zeroOf SS.P 32 with
  |some i,some z=>(if z.cells.size=i.size/\0<i.size/\(0:Int)<=(n:Int)/\(n:Int)<=(n:Int)/\(n:Int)*i.bytes<=140737488355328/\(n:Int)<=1099511627776 then some (bt.cells (bC z.cells.toList (n:Int).toNat) 32 i.size true,λk=>Value.slice (some ⟨k,0,none⟩) (n:Int).toNat (n:Int).toNat)else none)
  |_,_=>none)=_
 rw[Mo,Pu];dsimp only;rw[G7,D2,if_pos ⟨rfl,by omega,by omega,Int.le_refl _,by omega,by omega⟩];have e:((n:Int)).toNat=n:=by omega
 rw[e,show(Br).cells.toList=[Br]from rfl,rR];rfl
def rK(s:iM):List Nat:=s.bD.map λq=>q.t.toNat
def rJ(M:cb)(y x:Nat):Prop:=∃s,M.aA[y]?=some s/\x∈rK s
def MF(M:cb)(i j y x:Nat):Prop:=(y<i/\rJ M y x)\/(y=i/\∃s,M.aA[i]?=some s/\x∈(rK s).take j)
theorem uB{M:cb}{i y x:Nat}:MF M i 0 y x↔y<i/\rJ M y x:=by
 unfold MF;constructor
 ·rintro(h|⟨_,s,_,h⟩)
  ·exact h
  ·rw[take_zero]at h;cases h
 ·exact .inl
theorem Ji{M:cb}{i j y x:Nat}{s:iM}(hs:M.aA[i]?=some s)(hj:s.bD.length<=j):MF M i j y x↔y<i+1/\rJ M y x:=by
 unfold MF;constructor
 ·rintro(⟨h1,h2⟩|⟨rfl,s',h1,h2⟩)
  ·exact⟨by omega,h2⟩
  ·exact⟨by omega,s',h1,List.mem_of_mem_take h2⟩
 ·rintro⟨h1,h2⟩;rcases lt_or_ge y i with h3|h3
  ·exact .inl ⟨h3,h2⟩
  ·obtain rfl:y=i:=by omega
   obtain⟨s',h4,h5⟩:=h2;refine .inr ⟨rfl,s',h4,?_⟩;rw[hs]at h4;obtain rfl:=oI h4;rw[take_of_length_le (by unfold rK;rw[lM];exact hj)];exact h5
theorem Jj{M:cb}{i j y x:Nat}{s:iM}{q:dj}(hs:M.aA[i]?=some s)(hq:s.bD[j]?=some q):MF M i (j+1) y x↔MF M i j y x\/(y=i/\x=q.t.toNat):=by
 have hq':(rK s)[j]?=some q.t.toNat:=by unfold rK;rw[getElem?_map,hq];rfl
 have ht:(rK s).take (j+1)=(rK s).take j++[q.t.toNat]:=by rw[List.take_add_one,hq'];rfl
 unfold MF;constructor
 ·rintro(h|⟨h1,s',h2,h3⟩)
  ·exact .inl (.inl h)
  ·rw[hs]at h2;obtain rfl:=oI h2;rw[ht,mem_append,mem_singleton]at h3;rcases h3 with h3|h3
   ·exact .inl (.inr ⟨h1,s,hs,h3⟩)
   ·exact .inr ⟨h1,h3⟩
 ·rintro((h|⟨h1,s',h2,h3⟩)|⟨h1,h2⟩)
  ·exact .inl h
  ·rw[hs]at h2;obtain rfl:=oI h2;exact .inr ⟨h1,s,hs,by rw[ht];exact mem_append.2 (.inl h3)⟩
  ·exact .inr ⟨h1,s,hs,by rw[ht,h2];exact mem_append.2 (.inr (mem_singleton.2 rfl))⟩
theorem Cp.lt{hb g:aa}{X:Nat->Prop}{vs:List Value}{F:List (List Nat)}(f:Cp hb g X vs F)(w:Wf g){i:Nat}{v:Value}(hv:vs[i]?=some v){k:Nat}(hk:bc v=some k):k<g.next:=by
 obtain⟨l2,hl2⟩:∃l2,F[i]?=some l2:=⟨_,gE (by rw[<-f.len];exact(List.getElem?_eq_some_iff.1 hv).1)⟩
 exact((f.own i v l2 hv hl2).lt w hk).1
end Go.Proofs.YtaheifbogkjpdaaGreatDoor
end
