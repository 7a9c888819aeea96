/- Laws and walks that the proof leans on (part 4): P8; P9; P10; P11; P12; P13 and others. No condition. -/
import Derived.Test.YtaaichlgdgjgjaaGreatDoorPart3
import Derived.Test.YtaaichlgdgjgjaaGreatDoorPart2
set_option linter.unusedVariables false
set_option linter.unusedSimpArgs false
set_option maxRecDepth 100000
open List (append_assoc drop_zero getElem?_eq_none getElem?_map length_append length_drop length_replicate length_set length_take map_append map_take nil_append take_length take_of_length_le take_zero)
open Nat (le_max_left le_max_right le_of_lt lt_of_lt_of_le lt_or_ge max_le min_eq_left mod_lt mul_le_mul mul_pos pow_add pow_le_pow_right pow_succ)
open Bool (and_eq_true)
open Int (natCast_ediv natCast_emod toNat_natCast)
open Go.IntKind (wrap wrap_i64)
section
namespace Go.Proofs.YtaaichlgdgjgjaaGreatDoor
open Go Go.Ab Go.Num
variable{z:Int}{n:Nat}{h:ae}{k:Nat}{m:Nat}{y:List Nat}{l:Nat}
theorem Dd{a:Nat}:ax SS.P .rem 150 (.int .u64 (a:Int)) (.int .u64 1000000000)=some (.int .u64 ((a%BB:Nat):Int)):=by
 have:=gG (P:=SS.P) (t:=150) (k:= .u64) (a:=(a:Int)) (b:=BB) (by omega) (by decide);rw[<-natCast_emod]at this;exact this
theorem Fq{a:Nat}(h:a<18446744073709551616):ax SS.P .quo 150 (.int .u64 (a:Int)) (.int .u64 1000000000)=some (.int .u64 ((a/BB:Nat):Int)):=by
 have:=pM (P:=SS.P) (t:=150) (a:=(a:Int)) (b:=BB) (by omega) (by omega) (by decide);rw[<-natCast_ediv]at this;exact this
theorem YX{a b:Nat}(c:0<b):ax SS.P .rem 150 (.int .u64 (a:Int)) (.int .u64 (b:Int))=some (.int .u64 ((a%b:Nat):Int)):=by
 have:=gG (P:=SS.P) (t:=150) (k:= .u64) (a:=(a:Int)) (b:=b) (by omega) c;rw[<-natCast_emod]at this;exact this
theorem Ty{a b:Nat}(h:a<18446744073709551616)(c:0<b):ax SS.P .quo 150 (.int .u64 (a:Int)) (.int .u64 (b:Int))=some (.int .u64 ((a/b:Nat):Int)):=by
 have:=pM (P:=SS.P) (t:=150) (a:=(a:Int)) (b:=b) (by omega) (by omega) c;rw[<-natCast_ediv]at this;exact this
theorem wU(h:z=(n:Int))(a:n<18446744073709551616):wrap .u64 z=(n:Int):=by rw[h];exact gH (by omega) (by omega)
structure Yr(h:ae)(k off c m:Nat)(cs:List Value)(U V:List Nat)(b:Option Addr)(d:Nat):Prop where
 w:Wf h
 get:h.get k=some (.cells (cA cs off U) 150 1 true)
 fit:off+U.length<=cs.length
 ul:U.length=m+1
 vl:V.length=m
 mp:0<m
 mle:m<=10000
 ult:∀x∈U,x<BB
 vlt:∀x∈V,x<BB
 v1:0<V.getD (m-1) 0
 lt:Num.bv BB U<BB*Num.bv BB V
 rd:∀g,Ih h k g->Rd g 150 (.slice b m d) (V.map uv)
def F5(h:ae)(k a:Nat)(cs:List Value)(m:Nat)(U V:List Nat):VH:=λv b=>∃W:List Nat,W.length=m+1/\(∀x∈W,x<BB)/\Num.bv BB W=Num.bv BB U%Num.bv BB V/\v=uv (Num.bv BB U/Num.bv BB V)/\b.get k=some (.cells (cA cs a W) 150 1 true)/\Ih h k b
theorem Ji{c:Nat}{cs:List Value}{V:List Nat}{b:Option Addr}(D:Yr h k n c m cs y V b l):
  FW SS 203 [.slice (some ⟨k,n,none⟩) (m+1) c,.slice b m l] h (F5 h k n cs m y V):=by
 have y2:BB=1000000000:=rfl;have w2:=D.ul;have v8:=D.vl;have x6:=D.mp;have u8:=D.mle;have I:0<BB:=by decide
 have ug:∀i,y.getD i 0<BB:=λi=>aZ I D.ult i;have vg:∀i,V.getD i 0<BB:=λi=>aZ I D.vlt i;have y6:wrap .i64 ((m:Int)-1)=((m-1:Nat):Int):=by rw[aB (by omega) (by omega)];omega
 have z6:1<m->wrap .i64 ((m:Int)-2)=((m-2:Nat):Int):=λhm=>by rw[aB (by omega) (by omega)];omega
 have P:wrap .i64 ((m:Int)+1)=(m:Int)+1:=aB (by omega) (by omega);have wi:∀i:Nat,i<=m->wrap .i64 ((i:Int)+1)=((i+1:Nat):Int):=λi hi=>by rw[aB (by omega) (by omega)];omega
 have L3:=λ(d:Nat) (W:List Nat) (y5:0<d) (C:d<BB) (w1:W.length=m+1) (w:∀x∈W,x<BB) (hq:d-1=Num.bv BB y/Num.bv BB V) (z4:Num.bv BB (bk (aP BB) W V 0 (m+1) 0)=Num.bv BB y%Num.bv BB V)=>
  uK (some ⟨k,n,none⟩) (m+1) c b m l (d:Int) ((m:Int)+1) (λa i cy g=>i<=m+1/\a=m+1-i/\cy=(eF (aP BB) W V 0 0 i:Nat)/\g.get k=some (.cells (cA cs n (bk (aP BB) W V 0 i 0++W.drop i)) 150 1 true)/\Ih h k g) (F5 h k n cs m y V) (by
  intro a i cy;intros;rename_i g hi;obtain⟨h1,h2,rfl,B,H⟩:=hi;have r:(bk (aP BB) W V 0 i 0).length=i:=eQ _ _ _ _ _ _;have L:=hJ (aP BB) W V i 0 0;rw[Nat.zero_add]at L;have x0:eF (aP BB) W V 0 0 (i+1)=(aP BB (W.getD i 0) (V.getD i 0) (eF (aP BB) W V 0 0 i)).2:=by
   show(aP BB (W.getD (0+i) 0) (V.getD (0+i) 0) _).2=_;rw[Nat.zero_add]
  have wg:W.getD i 0<BB:=aZ I w i;have v4:eF (aP BB) W V 0 0 i<=1:=by
   clear x0 L r B h2 h1
   induction i with
   |zero=>exact Nat.zero_le _
   |succ j ih=>
    have a1:=aZ (b:=BB) I w (0+j);have a2:=vg (0+j);have a3:=ih (aZ I w j);show(W.getD (0+j) 0+V.getD (0+j) 0+eF (aP BB) W V 0 0 j)/BB<=1;have:(W.getD (0+j) 0+V.getD (0+j) 0+eF (aP BB) W V 0 0 j)/BB<2:=Nat.div_lt_of_lt_mul (by omega);omega
  have u5:=vg i;have o:(bk (aP BB) W V 0 i 0++W.drop i).length=m+1:=by rw[length_append,r,length_drop];omega
  have J:=D.fit;refine aa (λA=>?_) (λA=>?_)
  ·have A:=dT A;have M:=CM B (by rw[o];omega) (i:=i) (by rw[o];omega);rw[wB _ _ r]at M;have X:=H.wf _ _ B;have step:∀(s:Nat),s=W.getD i 0+V.getD i 0+eF (aP BB) W V 0 0 i->
     ah SS.P 150 (.pointer (some ⟨k,n+i,none⟩)) (.int .u64 ((s%BB:Nat):Int)) g=some (undef,.set k (.cells (cA cs n (bk (aP BB) W V 0 (i+1) 0++W.drop (i+1))) 150 1 true)):=λs Y=>by
    rw[Dp B (by rw[o];omega) (by rw[o];omega),Ah _ _ r (by omega),L,Y];rfl
   refine⟨_,wX (by omega) (by omega),_,by rw[toNat_natCast];exact M,?_⟩;have e1:wrap .u64 (((W.getD i 0:Nat):Int)+((eF (aP BB) W V 0 0 i:Nat):Int))=((W.getD i 0+eF (aP BB) W V 0 0 i:Nat):Int):=wU (by omega) (by omega);dsimp only;rw[e1,wi i (by omega)];refine aa (λf=>?_) (λf=>?_)
   ·have f:=dT f;obtain⟨p,Q,K⟩:=EP (D.rd g H) (i:=(i:Int)) (by omega) (by omega);rw[toNat_natCast]at K;refine⟨p,Q,_,K,?_⟩;have e2:wrap .u64 (((W.getD i 0+eF (aP BB) W V 0 0 i:Nat):Int)+((V.getD i 0:Nat):Int))=((W.getD i 0+V.getD i 0+eF (aP BB) W V 0 0 i:Nat):Int):=wU (by omega) (by omega);dsimp only;rw[e2];refine⟨_,Dd,_,Fq (by omega),_,wX (by omega) (by omega),_,by rw[toNat_natCast];exact step _ rfl,?_⟩;refine iT (a-1) (by omega) ⟨by omega,by omega,by rw[x0];rfl,?_,H.set X _⟩;show(g.set k _).get k=_;rw[ae.aw,if_pos rfl]
   ·have f:=dF f;have x8:V.getD i 0=0:=by rw[gD,getElem?_eq_none (by omega)];rfl
    refine⟨_,Dd,_,Fq (by omega),_,wX (by omega) (by omega),_,by rw[toNat_natCast];exact step _ (by omega),?_⟩;refine iT (a-1) (by omega) ⟨by omega,by omega,?_,?_,H.set X _⟩
    ·rw[x0];show _=(((W.getD i 0+V.getD i 0+eF (aP BB) W V 0 0 i)/BB:Nat):Int);rw[x8,Nat.add_zero]
    ·show(g.set k _).get k=_;rw[ae.aw,if_pos rfl]
  ·have A:=dF A;obtain rfl:i=m+1:=by omega
   have e3:wrap .u64 ((d:Int)-1)=((d-1:Nat):Int):=wU (by omega) (by omega);rw[e3];rw[List.drop_of_length_le (by omega),List.append_nil]at B;exact⟨_,r,jk (λp q c=>mod_lt _ I) _ _ _ _ _,z4,by rw[hq];rfl,B,H⟩)
 have L2:=λ(d:Nat) (C:d<BB) (u4:Num.bv BB y<(d+1)*Num.bv BB V) (u1:d*Num.bv BB V<Num.bv BB y+Num.bv BB V)=>
  uJ (some ⟨k,n,none⟩) (m+1) c b m l (d:Int) ((m:Int)+1) (λa i F cy g=>i<=m+1/\a=m+1-i/\F=((bS BB d y V 0 i 0 0).2.1:Nat)/\cy=((bS BB d y V 0 i 0 0).2.2:Nat)/\g.get k=some (.cells (cA cs n ((bS BB d y V 0 i 0 0).1++y.drop i)) 150 1 true)/\Ih h k g) (F5 h k n cs m y V) (by
  intro a i F cy;intros;rename_i g hi;obtain⟨h1,h2,rfl,rfl,B,H⟩:=hi;have r:(bS BB d y V 0 i 0 0).1.length=i:=qX _ _ _ _ _ _ _ _;have L:=sW BB d y V i 0 0 0;rw[Nat.zero_add]at L;have z5:=D0 (q:=d) (v:=V) gA D.ult i;have z9:=sC gA C (u:=y) D.vlt i;generalize u2:bS BB d y V 0 i 0 0=st at*;obtain⟨Wl,F,cy⟩:=st;dsimp only at r B z5 z9 L⊢;have o:(Wl++y.drop i).length=m+1:=by rw[length_append,r,length_drop];omega
  have J:=D.fit;have v7:=ug i;have u5:=vg i;have y4:d*V.getD i 0<=999999999*999999999:=mul_le_mul (by omega) (by omega);refine aa (λA=>?_) (λA=>?_)
  ·have A:=dT A;have M:=CM B (by rw[o];omega) (i:=i) (by rw[o];omega);rw[wB _ _ r]at M;have X:=H.wf _ _ B;have step:∀(s:Nat),s=d*V.getD i 0+cy->
     ah SS.P 150 (.pointer (some ⟨k,n+i,none⟩)) (.int .u64 (((y.getD i 0+BB-s%BB-F)%BB:Nat):Int)) g=some (undef,.set k (.cells (cA cs n ((bS BB d y V 0 (i+1) 0 0).1++y.drop (i+1))) 150 1 true)):=λs Y=>by
    rw[Dp B (by rw[o];omega) (by rw[o];omega),Ah _ _ r (by omega),L,Y];rfl
   have Z:∀(s:Nat),s=d*V.getD i 0+cy->∀(u0:Addr),u0=⟨k,n+i,none⟩->
     ∃y8:Int,ax SS.P .rem 150 (.int .u64 (s:Int)) (.int .u64 1000000000)=some (.int .u64 y8)/\y8=((s%BB:Nat):Int):=λs _ _ _=>⟨_,Dd,rfl⟩
   rw[wi i (by omega)];have x4:∀(s:Nat),s=d*V.getD i 0+cy->((1-(y.getD i 0+BB-s%BB-F)/BB:Nat):Int)=((bS BB d y V 0 (i+1) 0 0).2.1:Nat)/\((s/BB:Nat):Int)=((bS BB d y V 0 (i+1) 0 0).2.2:Nat):=λs Y=>by
    rw[L,Y];exact⟨rfl,rfl⟩
   have ed:∀s:Nat,wrap .u64 (wrap .u64 (wrap .u64 (((y.getD i 0:Nat):Int)+1000000000)-((s%BB:Nat):Int))-(F:Int))=((y.getD i 0+BB-s%BB-F:Nat):Int):=λs=>by
    have hm:=mod_lt s I;generalize s%BB=z at hm;have a1:wrap .u64 (((y.getD i 0:Nat):Int)+1000000000)=((y.getD i 0+BB:Nat):Int):=wU (by omega) (by omega);have a2:wrap .u64 (((y.getD i 0+BB:Nat):Int)-(z:Int))=((y.getD i 0+BB-z:Nat):Int):=wU (by omega) (by omega);have a3:wrap .u64 (((y.getD i 0+BB-z:Nat):Int)-(F:Int))=((y.getD i 0+BB-z-F:Nat):Int):=wU (by omega) (by omega);rw[a1,a2,a3]
   have z1:∀s:Nat,wrap .u64 (1-(((y.getD i 0+BB-s%BB-F)/BB:Nat):Int))=((1-(y.getD i 0+BB-s%BB-F)/BB:Nat):Int):=λs=>by
    have h9:(y.getD i 0+BB-s%BB-F)/BB<2:=Nat.div_lt_of_lt_mul (by omega);generalize (y.getD i 0+BB-s%BB-F)/BB=z at h9⊢;exact wU (by omega) (by omega)
   refine aa (λf=>?_) (λf=>?_)
   ·have f:=dT f;obtain⟨p,Q,K⟩:=EP (D.rd g H) (i:=(i:Int)) (by omega) (by omega);rw[toNat_natCast]at K;refine⟨p,Q,_,K,_,wX (by omega) (by omega),_,by rw[toNat_natCast];exact M,?_⟩;have e2:wrap .u64 ((cy:Int)+wrap .u64 ((d:Int)*((V.getD i 0:Nat):Int)))=((d*V.getD i 0+cy:Nat):Int):=by
     have e0:wrap .u64 ((d:Int)*((V.getD i 0:Nat):Int))=((d*V.getD i 0:Nat):Int):=wU (by rw[Int.natCast_mul]) (by omega);rw[e0];exact wU (by omega) (by omega)
    rw[e2];refine⟨_,Dd,?_⟩;dsimp only;rw[ed];have hm:=mod_lt (d*V.getD i 0+cy) I;refine⟨_,Dd,_,Fq (by omega),_,Fq (by omega),_,wX (by omega) (by omega),_,by rw[toNat_natCast];exact step _ rfl,?_⟩;rw[z1];refine I0 (a-1) (by omega) ⟨by omega,by omega,(x4 _ rfl).1,(x4 _ rfl).2,?_,H.set X _⟩;show(g.set k _).get k=_;rw[ae.aw,if_pos rfl]
   ·have f:=dF f;have x8:V.getD i 0=0:=by rw[gD,getElem?_eq_none (by omega)];rfl
    have x5:cy=d*V.getD i 0+cy:=by rw[x8,Nat.mul_zero,Nat.zero_add]
    refine⟨_,wX (by omega) (by omega),_,by rw[toNat_natCast];exact M,_,Dd,?_⟩;dsimp only;rw[ed];have hm:=mod_lt cy I;refine⟨_,Dd,_,Fq (by omega),_,Fq (by omega),_,wX (by omega) (by omega),_,by rw[toNat_natCast];exact step _ x5,?_⟩;rw[z1];refine I0 (a-1) (by omega) ⟨by omega,by omega,(x4 _ x5).1,(x4 _ x5).2,?_,H.set X _⟩;show(g.set k _).get k=_;rw[ae.aw,if_pos rfl]
  ·have A:=dF A;obtain rfl:i=m+1:=by omega
   obtain⟨d0,d1,d2⟩:=Gc gA D.ult D.vlt D.ul D.vl C u4 u1;have w:=tU (q:=d) gA y V (m+1) 0 0 0;rw[u2]at d0 d1 d2 w;dsimp only at d0 d1 d2 w;rw[List.drop_of_length_le (by omega),List.append_nil]at B;refine aa (λf=>?_) (λf=>?_)
   ·have f:(F:Int)=0:=by simpa using f
    obtain⟨e1,e2⟩:=d1 (by omega);exact⟨Wl,r,w,e2,by rw[e1];rfl,B,H⟩
   ·have f:¬(F:Int)=0:=by simpa using f
    obtain⟨e0,e1,e2⟩:=d2 (by omega);rw[P];exact L3 d Wl e0 C r w e1 e2 (m+1) (i:=0) ⟨by omega,by omega,rfl,by simpa[bk]using B,H⟩)
 have O:=D.v1;have y1:y.getD m 0*BB+y.getD (m-1) 0<1000000000000000000:=by
  have a1:=ug m;have a2:=ug (m-1);have a3:y.getD m 0*BB=1000000000*y.getD m 0:=by rw[y2,Nat.mul_comm]
  omega
 have L1:=uI (some ⟨k,n,none⟩) (m+1) c b m l (λa q Z g=>∃d G:Nat,q=(d:Int)/\Z=(G:Int)/\a=d/\hI BB m y V d G/\g.get k=some (.cells (cA cs n y) 150 1 true)/\Ih h k g) (F5 h k n cs m y V) (by
  intro a q Z;intros;rename_i g hi;obtain⟨d,G,rfl,rfl,rfl,T,B,H⟩:=hi;have hT:=T.eq;have J:=D.fit;have v9:G<1000000000000000000:=Nat.lt_of_le_of_lt (by rw[<-hT];omega) y1;have v6:a<1000000000000000000:=by
   refine Nat.lt_of_le_of_lt ?_ y1;rw[<-hT];have:=Nat.le_mul_of_pos_right a O;omega
  have t:=H.room 28;have E:(room g 28).get k=some (.cells (cA cs n y) 150 1 true):=B;have v2:=vg (m-1);have hj:((m-1:Nat):Int).toNat=m-1:=by omega
  obtain⟨p1,Q,K⟩:=EP (D.rd _ t) (i:=((m-1:Nat):Int)) (by omega) (by omega);rw[hj]at K;have er:wrap .u64 ((G:Int)+((V.getD (m-1) 0:Nat):Int))=((G+V.getD (m-1) 0:Nat):Int):=wU (by omega) (by omega);have u7:∀(S:Nat),S<BB->Num.bv BB y<(S+1)*Num.bv BB V->S*Num.bv BB V<Num.bv BB y+Num.bv BB V->_:=λS h1 h2 h3=>L2 S h1 h2 h3;have y3:Num.bv BB y<a*Num.bv BB V->0<a/\hI BB m y V (a-1) (G+V.getD (m-1) 0):=λM=>⟨by
   rcases Nat.eq_zero_or_pos a with e|e
   ·subst e;rw[Nat.zero_mul]at M;omega
   ·exact e,T.lower M⟩
  have x3:a-1<BB->BB<=G+V.getD (m-1) 0->hI BB m y V (a-1) (G+V.getD (m-1) 0)->(a-1)*Num.bv BB V<Num.bv BB y+Num.bv BB V:=λh1 h2 N=>
   N.last gA D.ul D.vl x6 D.vlt O h1 λ_=>uU h1 (vg (m-2)) h2
  have v0:Num.bv BB y<a*Num.bv BB V->True:=λ_=>trivial;rw[y6];refine aa (λA=>?_) (λA=>?_)
  ·have A:=dT A;obtain⟨y5,N⟩:=y3 (hI.abG D.lt (by omega));have x9:wrap .u64 ((a:Int)-1)=((a-1:Nat):Int):=wU (by omega) (by omega);rw[x9];refine⟨p1,Q,_,K,?_⟩;dsimp only;rw[er];generalize x2:decide (((a-1:Nat):Int)<1000000000)=bz;refine aa (λf=>aa (λR=>?_) (λR=>?_)) (λf=>?_)
   ·subst x2;have f:=dT f;have R:=dT R;rw[P];exact L2 (a-1) (by omega) N.hi (x3 (by omega) (by omega) N) (m+1) (i:=0) ⟨by omega,by omega,rfl,rfl,by simpa[bS]using E,t⟩
   ·exact iT (a-1) (by omega) ⟨a-1,_,rfl,rfl,rfl,N,E,t⟩
   ·exact iT (a-1) (by omega) ⟨a-1,_,rfl,rfl,rfl,N,E,t⟩
  ·have A:=dF A;have C:a<BB:=by omega
   have x1:(1<m->a*V.getD (m-2) 0<=G*BB+y.getD (m-2) 0)->a*Num.bv BB V<Num.bv BB y+Num.bv BB V:=λY=>T.last gA D.ul D.vl x6 D.vlt O C Y;refine aa (λf=>?_) (λf=>?_)
   ·have f:=dT f;have y9:1<m:=by omega
    rw[z6 y9];generalize x2:decide ((G:Int)<1000000000)=bz;refine aa (λR=>?_) (λR=>?_)
    ·subst x2;have R:=dT R;have z3:((m-2:Nat):Int).toNat=m-2:=by omega
     obtain⟨p2,g4,g5⟩:=EP (D.rd _ t) (i:=((m-2:Nat):Int)) (by omega) (by omega);rw[z3]at g5;have M:=CM E J (i:=m-2) (by omega);refine⟨p2,g4,_,g5,_,wX (by omega) (by omega),_,by rw[z3];exact M,?_⟩;have v3:=vg (m-2);have w0:=ug (m-2);have y4:a*V.getD (m-2) 0<=999999999*999999999:=mul_le_mul (by omega) (by omega);have ea:wrap .u64 ((a:Int)*((V.getD (m-2) 0:Nat):Int))=((a*V.getD (m-2) 0:Nat):Int):=wU (by rw[Int.natCast_mul]) (by omega);obtain⟨RB,y0⟩:∃x,x=G*BB:=⟨_,rfl⟩
     have u9:RB=1000000000*G:=by rw[y0,y2,Nat.mul_comm]
     obtain⟨MV,x7⟩:∃x,x=a*V.getD (m-2) 0:=⟨_,rfl⟩
     rw[<-x7]at y4 ea;have eb:wrap .u64 ((G:Int)*1000000000)=(RB:Int):=wU (by omega) (by omega);have ec:wrap .u64 ((RB:Int)+((y.getD (m-2) 0:Nat):Int))=((RB+y.getD (m-2) 0:Nat):Int):=wU (by omega) (by omega);dsimp only;rw[ea,eb,ec];generalize z0:decide ((MV:Int)>((RB+y.getD (m-2) 0:Nat):Int))=v5;refine aa (λh8=>?_) (λh8=>?_)
     ·subst z0;have h8:=dT h8;obtain⟨y5,N⟩:=y3 (T.second D.ul D.vl y9 D.ult (by rw[<-y0,<-x7];omega));have x9:wrap .u64 ((a:Int)-1)=((a-1:Nat):Int):=wU (by omega) (by omega);rw[x9];refine⟨p1,Q,_,K,?_⟩;dsimp only;rw[er];generalize w3:decide (((a-1:Nat):Int)<1000000000)=bx;refine aa (λh9=>aa (λu6=>?_) (λu6=>?_)) (λh9=>?_)
      ·have h9:=dT h9;rw[P];exact L2 (a-1) (by omega) N.hi (x3 (by omega) (by omega) N) (m+1) (i:=0) ⟨by omega,by omega,rfl,rfl,by simpa[bS]using E,t⟩
      ·exact iT (a-1) (by omega) ⟨a-1,_,rfl,rfl,rfl,N,E,t⟩
      ·exact iT (a-1) (by omega) ⟨a-1,_,rfl,rfl,rfl,N,E,t⟩
     ·subst z0;have h8:=dF h8;rw[P];exact L2 a C T.hi (x1 λ_=>by rw[<-y0,<-x7];omega) (m+1) (i:=0) ⟨by omega,by omega,rfl,rfl,by simpa[bS]using E,t⟩
    ·subst x2;have R:=dF R;rw[P];exact L2 a C T.hi (x1 λ_=>uU C (vg (m-2)) (by omega)) (m+1) (i:=0) ⟨by omega,by omega,rfl,rfl,by simpa[bS]using E,t⟩
   ·have f:=dF f;rw[P];exact L2 a C T.hi (x1 λhm=>by omega) (m+1) (i:=0) ⟨by omega,by omega,rfl,rfl,by simpa[bS]using E,t⟩)
 have z8:=(Ih.refl (k:=k) D.w).room 12;have z2:=z8.room 16;have J:=D.fit;have hj:((m-1:Nat):Int).toNat=m-1:=by omega
 have z7:=CM (g:=room h 12) D.get J (i:=m) (by omega);have u3:=CM (g:=room h 12) D.get J (i:=m-1) (by omega);obtain⟨p1,Q,K⟩:=EP (D.rd _ z2) (i:=((m-1:Nat):Int)) (by omega) (by omega);rw[hj]at K;have a1:=ug m;have a2:=ug (m-1);refine Jh _ _ _ _ _ _ h _ ⟨_,wX (by omega) (by omega),_,by rw[toNat_natCast];exact z7,?_⟩;rw[y6];refine⟨_,wX (by omega) (by omega),_,by rw[hj];exact u3,p1,Q,_,K,?_⟩;obtain⟨TB,y7⟩:∃x,x=y.getD m 0*BB:=⟨_,rfl⟩
 have v1:TB=1000000000*y.getD m 0:=by rw[y7,y2,Nat.mul_comm]
 have ea:wrap .u64 (((y.getD m 0:Nat):Int)*1000000000)=(TB:Int):=wU (by omega) (by omega);have eb:wrap .u64 ((TB:Int)+((y.getD (m-1) 0:Nat):Int))=((TB+y.getD (m-1) 0:Nat):Int):=wU (by omega) (by omega);rw[ea,eb];have U:=hI.start gA D.ul D.vl x6 D.ult O;rw[<-y7]at U;refine⟨_,Ty (by omega) O,p1,Q,_,K,_,YX O,?_⟩;exact L1 _ ⟨_,_,rfl,rfl,rfl,U,D.get,z2⟩
variable{g:ae}{T:TypeId}{v:Value}{c:List Value}{a:Option Addr}{x:List Nat}
theorem eh.acw{b:ae}(d:g.next<=b.next)(o:eh b h T v c):eh g h T v c:=by
 rcases o with o|⟨k,cs,a,f,e,i,j⟩
 ·exact .inl o
 ·exact .inr ⟨k,cs,a,Nat.le_trans d f,e,i,j⟩
theorem ZA(k:Int):eV SS.P 150 (.int .u64 k)=some (.cells [.int .u64 k] 150 0 true,kZ):=by kernel_rfl
theorem xl{c:Nat}(p:Rd h 150 (.slice a n c) (x.map uv))(m:∀d∈x,d<BB)(b:x.length<=10000){k:Nat}(g:0<k)(q:k<=BB)(w:Wf h):
  FW SS 202 [.slice a n c,.int .u64 (k:Int)] h (iO h 150 (bl (Num.bv BB x*k))):=by
 have e:=(Ok.refl w).push (.cells [.int .u64 (k:Int)] 150 0 true);refine GY a n c _ h _ ⟨_,ZA _,?_⟩;have r:aj SS.P 150 (h.push (.cells [.int .u64 (k:Int)] 150 0 true)) (.pointer (some ⟨h.next,0,none⟩))=some (.int .u64 (k:Int)):=by
  unfold aj;rw[NI];dsimp only;rw[ae.br,if_pos rfl];dsimp only;rw[MS];rfl
 refine(Ed (p.ok e) m b r g q e.wf).mono ?_;rintro _ s ⟨j,f,l,rfl,o,i⟩;exact⟨j,f,l,rfl,j,f,l,rfl,eh.acw (Nat.le_succ _) o,e.trans i⟩
def B9(h:ae)(k a n c:Nat)(l:List Nat):Prop:=∃cs b,h.get k=some (.cells cs 150 1 b)/\n=l.length/\(cs.drop a).take n=l.map uv/\n<=bN c
theorem B9.rd{c:Nat}(r:B9 h k n m c x):Rd h 150 (.slice (some ⟨k,n,none⟩) m c) (x.map uv):=by
 obtain⟨cs,d,b,rfl,a,e⟩:=r;exact .inr ⟨k,n,cs,c,d,by rw[lM],b,by rw[lM];exact a⟩
theorem B9.take{c:Nat}(r:B9 h k n m c x){j:Nat}(g:j<=m):bO SS.P 177 (.slice (some ⟨k,n,none⟩) m c) none (some (.int .i64 (j:Int))) none h=some (.slice (some ⟨k,n,none⟩) j c)/\B9 h k n j c (x.take j):=by
 obtain⟨cs,d,a,rfl,b,i⟩:=r;refine⟨?_,cs,d,a,by rw[length_take];omega,?_,by omega⟩
 ·unfold bO;dsimp only;rw[AD];dsimp only[fh];rw[DV,a];dsimp only;have e:((j:Int)-((0:Nat):Int)).toNat=j:=by omega
  have f:((0:Nat):Int).toNat=0:=rfl;rw[if_pos (by simp),if_pos (by omega),e,f];rfl
 ·have:=congrArg (List.take j) b;rwa[List.take_take,min_eq_left g,<-map_take]at this
theorem pK{c:Nat}(r:B9 h k n m c x)(y:x.length<=100000):
  FW SS 174 [.slice (some ⟨k,n,none⟩) m c] h (λv l=>v = .slice (some ⟨k,n,none⟩) (dL x).length c/\l=h):=by
 have s:m=x.length:=by obtain⟨_,_,_,D,_⟩:=r;exact D
 have L:=oV (some ⟨k,n,none⟩) m c (λa r q d g=>q<=x.length/\a=q/\r=some ⟨k,n,none⟩/\d=c/\B9 h k n q c (x.take q)/\dL x=dL (x.take q)/\g=h) (λv l=>v = .slice (some ⟨k,n,none⟩) (dL x).length c/\l=h) (by
  intro a r q d;intros;rename_i g F;obtain⟨C,rfl,rfl,rfl,t,o,rfl⟩:=F;have E:wrap .i64 ((a:Int)-1)=(a:Int)-1:=aB (by omega) (by omega);rw[E];have f:a≠0->x.take a=x.take (a-1)++[x.getD (a-1) 0]:=λf=>by
   obtain⟨j,rfl⟩:∃j,a=j+1:=⟨a-1,by omega⟩
   rw[List.take_succ_eq_append_getElem (by omega),Nat.add_sub_cancel,gD,gE (by omega)];rfl
  refine aa (λe=>?_) (λe=>?_)
  ·have e:=dT e;obtain⟨p,A,w⟩:=EP t.rd (i:=(a:Int)-1) (by omega) (by rw[length_take];omega);have z:(x.take a).getD ((a:Int)-1).toNat 0=x.getD (a-1) 0:=by
    rw[show((a:Int)-1).toNat=a-1 by omega,gD,List.getElem?_take,if_pos (by omega),gD]
   rw[z]at w;refine⟨p,A,_,w,aa (λb=>?_) (λb=>?_)⟩
   ·have b:((x.getD (a-1) 0:Nat):Int)=0:=by simpa using b
    have b:x.getD (a-1) 0=0:=by omega
    obtain⟨B,u⟩:=t.take (j:=a-1) (by omega);rw[show((a:Int)-1)=((a-1:Nat):Int) by omega];refine⟨_,_,_,B,I0 (a-1) (by omega) ⟨by omega,rfl,rfl,rfl,?_,?_,rfl⟩⟩
    ·rw[List.take_take,min_eq_left (by omega)]at u;exact u
    ·rw[o,f (by omega),b,iR]
   ·have b:¬((x.getD (a-1) 0:Nat):Int)=0:=by simpa using b
    refine⟨?_,rfl⟩;rw[o,f (by omega),jL _ (by omega),<-f (by omega),length_take,min_eq_left C]
  ·have e:=dF e;obtain rfl:a=0:=by omega
   refine⟨?_,rfl⟩;rw[o];rfl)
 exact CQ _ m c h _ (L m ⟨by omega,rfl,rfl,rfl,by rw[show x.take m=x by rw[s,take_length]];exact r,by rw[show x.take m=x by rw[s,take_length]],rfl⟩)
theorem DU:∀n,cX [uv 0] n=(List.replicate n 0).map uv
 |0=>rfl
 |n+1=>by rw[cX,DU n];rfl
noncomputable def US:TypeInfo:=(SS.P.info? 150).getD default
theorem UT:SS.P.info? 150=some US:=by kernel_rfl
theorem Mt:US.size=1:=by kernel_rfl
theorem Kg:US.bytes=8:=by kernel_rfl
theorem Yq:zeroOf SS.P 150=some (uv 0):=by kernel_rfl
theorem YT(n:Nat)(a:n<=100000):bZ SS.P 177 (.int .i64 (n:Int)) (.int .i64 (n:Int))=some (.cells ((List.replicate n 0).map uv) 150 1 true,my n n):=by
 unfold bZ bU;dsimp only;rw[AD]
 try dsimp only
 change (match SS.P.info? 150,zeroOf SS.P 150 with
  |some i,some z=>(if z.cells.size=i.size/\0<i.size/\(0:Int)<=(n:Int)/\(n:Int)<=(n:Int)/\(n:Int)*i.bytes<=140737488355328/\(n:Int)<=1099511627776 then some (dN.cells (cX z.cells.toList (n:Int).toNat) 150 i.size true,λk=>Value.slice (some ⟨k,0,none⟩) (n:Int).toNat (n:Int).toNat)else none)
  |_,_=>none)=_
 rw[UT,Yq];dsimp only;rw[Mt,Kg,if_pos ⟨rfl,by omega,by omega,Int.le_refl _,by omega,by omega⟩];have e:((n:Int)).toNat=n:=by omega
 rw[e,show(uv 0).cells.toList=[uv 0]from rfl,DU];rfl
theorem m3(h:(c.drop n).take x.length=x.map uv):cA c n x=c:=by
 unfold cA;rw[<-h,append_assoc,<-List.drop_drop,List.take_append_drop,List.take_append_drop]
theorem Eb{W:List Nat}(h:n+y.length<=x.length)(e:x.length<=c.length)(g:y.length=W.length)(f:(x.drop n).take W.length=W):
  cA (cA c 0 x) n y=cA c 0 (x.take n++y++x.drop (n+y.length)):=by
 unfold cA;have b:(c.take 0++x.map uv++c.drop (0+x.length)).take n=(x.take n).map uv:=by
  rw[take_zero,nil_append,List.take_append_of_le_length (by rw[lM];omega),map_take]
 have d:(c.take 0++x.map uv++c.drop (0+x.length)).drop (n+y.length)=(x.drop (n+y.length)).map uv++c.drop (0+x.length):=by
  rw[take_zero,nil_append,List.drop_append_of_le_length (by rw[lM];omega),List.map_drop]
 have a:(x.take n++y++x.drop (n+y.length)).length=x.length:=by
  simp only[length_append,length_take,length_drop];omega
 rw[b,d,a,map_append,map_append,take_zero,nil_append,append_assoc,append_assoc,append_assoc]
theorem qf(a:n+m<=x.length):((cA c 0 x).drop n).take m=((x.drop n).take m).map uv:=by
 unfold cA;rw[take_zero,nil_append,List.drop_append_of_le_length (by rw[lM];omega),List.take_append_of_le_length (by rw[length_drop,lM];omega),<-List.map_drop,<-map_take]
theorem CJ(h:n+x.length<=c.length):(cA c n x).length=c.length:=by
 unfold cA;simp only[length_append,length_take,lM,length_drop];omega
theorem B9.HF{c:Nat}(r:B9 h k n m c x){lo hi:Nat}(f:lo<=hi)(i:hi<=m):bO SS.P 177 (.slice (some ⟨k,n,none⟩) m c) (some (.int .i64 (lo:Int))) (some (.int .i64 (hi:Int))) none h=some (.slice (some ⟨k,n+lo,none⟩) (hi-lo) (c-lo)):=by
 obtain⟨cs,g,a,rfl,e,j⟩:=r;unfold bO;dsimp only;rw[AD];dsimp only[fh];rw[DV,a];dsimp only;have b:((hi:Int)-(lo:Int)).toNat=hi-lo:=by omega
 have d:((lo:Nat):Int).toNat=lo:=by omega
 rw[if_pos (by simp),if_pos (by omega),b,d,Nat.mul_one]
structure Y5(h2 G:ae)(ku kv kq:Nat)(cu:List Value)(cv:List Value)(U Ql:List Nat)(N m XK V j:Nat):Prop where
 ok:Ok h2 G
 w2:Wf h2
 u2:h2.next<=ku
 q2:h2.next<=kq
 gu:G.get ku=some (.cells (cA cu 0 U) 150 1 true)
 gv:G.get kv=some (.cells cv 150 1 true)
 gq:G.get kq=some (.cells (cA ((List.replicate (N+1-m) 0).map uv) 0 Ql) 150 1 true)
 uv':ku≠kv
 uq:ku≠kq
 vq:kv≠kq
 ul:U.length=N+1
 cl:N+1<=cu.length
 aaa:Ql.length=N+1-m
 Ya:(cv.take (aW BB V).length)=bl V
 inv:iz BB m V XK U Ql j
end Go.Proofs.YtaaichlgdgjgjaaGreatDoor
end
section
set_option linter.defProp false
namespace Go.Proofs.YtaaichlgdgjgjaaGreatDoor
open Go Go.Ab Go.Num
variable{h:ae}{k:Nat}{n:Nat}{d:List Value}{x:List Nat}{g:ae}
def F6(h:ae)(X Y:Nat):VH:=λv a=>∃(g:Option Addr)(b e:Nat)(d:Option Addr)(c f:Nat),v = .tuple ⟨[.slice g b e,.slice d c f]⟩/\Rd a 150 (.slice g b e) (bl (X/Y))/\Rd a 150 (.slice d c f) (bl (X%Y))/\Ok h a
theorem By{c:Nat}(b:h.get k=some (.cells (cA d 0 x) 150 1 true))(a:n=x.length)(e:n<=bN c):B9 h k 0 n c x:=by
 refine⟨_,_,b,a,?_,e⟩;subst a;rw[qf (by omega),drop_zero,take_length]
theorem zy{c:Nat}(r:B9 g k 0 n c x)(b:∀d∈x,d<BB):Rd g 150 (.slice (some ⟨k,0,none⟩) (dL x).length c) (bl (Num.bv BB x)):=by
 obtain⟨e,i⟩:=wF x;have f:n=x.length:=by obtain⟨_,_,_,h,_⟩:=r;exact h
 have a:=(r.take (j:=(dL x).length) (by omega)).2.rd;rw[e,kV gA b]at a;rw[kV gA b];exact a
def Wx{h:ae}(w:Wf h){X Y ku kq f rc L k R:Nat}{C Zq:List Value}{Ql:List Nat}(G:h.next<=ku)(x3:h.next<=kq)(N:ku≠kq)(x6:f<=C.length)(x0:f<=10000)(V:L=Ql.length)(x4:L<=10000)(E:f<=bN rc)(u:L<=bN L)(v:0<k)(kB:k<=BB)
  (hQ:∀d∈Ql,d<BB) (Z:Num.bv BB Ql=X/Y) (hr:R/k=X%Y) (a:Option Addr) (n c:Nat) (b:Option Addr) (m d:Nat):=
 tn a n c b m d (k:Int) (some ⟨kq,0,none⟩) L L (some ⟨ku,0,none⟩) f rc (f:Int)
  (λD i left g=>i<=f/\D=f-i/\(∃(r:List Nat)(q:Nat),r.length=f/\left=(q:Int)/\kR BB k R r (f-i) q/\g.get ku=some (.cells (cA C 0 r) 150 1 true))/\g.get kq=some (.cells (cA Zq 0 Ql) 150 1 true)/\Ok h g) (F6 h X Y) (by
  intro D i left;intros;rename_i g hi;obtain⟨h1,h2,⟨r,q,j,rfl,l,y⟩,B,S⟩:=hi;have P:BB=1000000000:=rfl;have J:wrap .i64 ((f:Int)-1)=(f:Int)-1:=aB (by omega) (by omega);have F:wrap .i64 ((f:Int)-1-(i:Int))=(f:Int)-1-(i:Int):=aB (by omega) (by omega);have H:wrap .i64 ((i:Int)+1)=((i+1:Nat):Int):=by rw[aB (by omega) (by omega)];omega
  rw[J,F,H];refine aa (λs=>?_) (λs=>?_)
  ·have s:=dT s;have Q:((f:Int)-1-(i:Int)).toNat=f-1-i:=by omega
   have W:=CM y (by rw[j];omega) (i:=f-1-i) (by rw[j];omega);have x2:=l.lt;have x5:r.getD (f-1-i) 0<BB:=aZ (by decide) l.rl _;obtain⟨o,A⟩:∃x,x=q*BB:=⟨_,rfl⟩
   have x1:o=1000000000*q:=by rw[A,P,Nat.mul_comm]
   have T:wrap .u64 ((q:Int)*1000000000)=(o:Int):=wU (by omega) (by omega);have U:wrap .u64 ((o:Int)+((r.getD (f-1-i) 0:Nat):Int))=((o+r.getD (f-1-i) 0:Nat):Int):=wU (by omega) (by omega);refine⟨_,wX (by omega) (by omega),_,by rw[Q];exact W,?_⟩;dsimp only;rw[T,U];refine⟨_,Ty (by omega) v,_,YX v,_,wX (by omega) (by omega),?_⟩;have K:=Dp (g:=room g 11) y (by rw[j];omega) (i:=f-1-i) (by rw[j];omega) ((o+r.getD (f-1-i) 0)/k);have z:=S.room 11;have O:=z.wf _ _ (show(room g 11).get ku=_ from y);refine⟨_,by rw[Q];exact K,?_⟩;have p:=kR.step (at':=f-1-i) v (by rw[show f-1-i+1=f-i by omega];exact l);rw[<-A]at p;refine iT (D-1) (by omega) ⟨by omega,by omega,⟨r.set (f-1-i) ((o+r.getD (f-1-i) 0)/k),(o+r.getD (f-1-i) 0)%k,by rw[length_set,j],rfl,by rw[show f-(i+1)=f-1-i by omega];exact p,?_⟩,?_,z.set _ G O w⟩
   ·show((room g 11).set ku _).get ku=_;rw[ae.aw,if_pos rfl]
   ·show((room g 11).set ku _).get kq=_;rw[ae.aw,if_neg (λe=>N e.symm)];exact B
  ·have s:=dF s;obtain rfl:i=f:=by omega
   rw[Nat.sub_self]at l;have t:=l.done v;have I:=By B V u;have M:=By y j.symm E;refine(pK I (by omega)).mono ?_;rintro _ _ ⟨rfl,rfl⟩;refine⟨_,_,_,rfl,(pK M (by omega)).mono ?_⟩;rintro _ _ ⟨rfl,rfl⟩;refine⟨_,_,_,rfl,_,_,_,_,_,_,rfl,?_,?_,S⟩
   ·have:=zy I hQ;rw[Z]at this;exact this
   ·have:=zy M l.rl;rw[t,hr]at this;exact this)
theorem Ok.but{b:ae}(o:Ok h g)(w:Wf h)(x:Ih g k b)(c:h.next<=k):Ok h b:=
 ⟨x.wf,λj B a=>x.kA j B (λe=>by have:=w _ _ a;omega) (o.ext j B a),Nat.le_trans o.nx x.nx⟩
def Wy{h2:ae}{X Y N m L k ku kv kq ec:Nat}{cu cv:List Value}(hY:0<Y)(hm:0<m)(y4:m<=N)(hN:N<=5000)(hL:L=N+1-m)(u:0<k)(kB:k<=BB)(o:(aW BB (Y*k)).length=m)(H:Y*k<=BB^m)(a:Option Addr)(n c:Nat)(b:Option Addr)(d:Nat):=
 tl a n c b m d (k:Int) (some ⟨kq,0,none⟩) L L (some ⟨ku,0,none⟩) (N+1) (di+cu.length) (some ⟨kv,0,none⟩) m ec (L:Int)
  (λO i G=>i<=L/\O=L-i/\∃U j:List Nat,Y5 h2 G ku kv kq cu cv U j N m (X*k) (Y*k) (L-i)) (F6 h2 X Y) (by
  intro O i;intros;rename_i G hi;obtain⟨h1,y2,U,j,D⟩:=hi;have M:0<Y*k:=mul_pos hY u;have x4:wrap .i64 ((L:Int)-1)=(L:Int)-1:=aB (by omega) (by omega);have x2:wrap .i64 ((i:Int)+1)=((i+1:Nat):Int):=by rw[aB (by omega) (by omega)];omega
  have s:bN (di+cu.length)=cu.length:=by unfold bN;rw[if_pos (by omega)];omega
  have y1:=D.ul;have K:=D.cl;have F:=D.aaa;have ru:=By (c:=di+cu.length) D.gu y1.symm (by rw[s];exact K);rw[x4];refine aa (λv=>?_) (λv=>?_)
  ·have v:=dT v;obtain⟨f,y3⟩:∃x,x=L-1-i:=⟨_,rfl⟩
   have Z:wrap .i64 ((L:Int)-1-(i:Int))=(f:Int):=by rw[aB (by omega) (by omega)];omega
   have x9:wrap .i64 ((f:Int)+(m:Int))=((f+m:Nat):Int):=by rw[aB (by omega) (by omega)];omega
   have x1:wrap .i64 (((f+m:Nat):Int)+1)=((f+m+1:Nat):Int):=by rw[aB (by omega) (by omega)];omega
   rw[Z,x9,x1,x2];have h:iz BB m (Y*k) (X*k) U j (f+1):=by rw[show f+1=L-i by omega];exact D.inv
   obtain⟨w1,w2,t⟩:=h.HF gA H;have r:=ru.HF (lo:=f) (hi:=f+m+1) (by omega) (by omega);rw[show f+m+1-f=m+1 by omega,Nat.zero_add]at r;refine⟨_,_,_,r,?_⟩;have P:(cA cu 0 U).length=cu.length:=CJ (by omega);have DI:Yr G ku f (di+cu.length-f) m (cA cu 0 U) ((U.drop f).take (m+1)) (aW BB (Y*k)) (some ⟨kv,0,none⟩) ec:={
    w:=D.ok.wf
    get:=by
     rw[m3 (by rw[t];exact qf (by omega))];exact D.gu
    fit:=by rw[t,P];omega
    ul:=t
    vl:=o
    mp:=hm
    mle:=by omega
    ult:=λx A=>h.ul x (List.mem_of_mem_drop (List.mem_of_mem_take A))
    vlt:=dh gA _
    v1:=by have:=EK gA M;rwa[o]at this
    lt:=by rw[cg gA];exact w2
    rd:=λg og=> .inr ⟨kv,0,cv,ec,true,by rw[lM,o],og.kA _ _ (λe=>D.uv' e.symm) D.gv,by rw[drop_zero,lM];exact D.Ya⟩ }
   refine(Ji DI).mono ?_;rintro _ V ⟨W',z,x8,l,rfl,S,p⟩;rw[cg gA]at l;have x6:Num.bv BB ((U.drop f).take (m+1))/Num.bv BB (aW BB (Y*k))=Num.bv BB ((U.drop f).take (m+1))/(Y*k):=by rw[cg gA]
   rw[x6];have y0:Num.bv BB ((U.drop f).take (m+1))/(Y*k)<BB:=Nat.div_lt_of_lt_mul (by rw[Nat.mul_comm];exact w2);have J:=p.kA _ _ (λe=>D.uq e.symm) D.gq;have x3:=p.kA _ _ (λe=>D.uv' e.symm) D.gv;have I:=Ok.but D.ok D.w2 p D.u2;have x0:((List.replicate (N+1-m) 0).map uv).length=N+1-m:=by rw[lM,length_replicate]
   have x5:=Dp J (by rw[x0];omega) (i:=f) (by omega) (Num.bv BB ((U.drop f).take (m+1))/(Y*k));have x7:=I.wf _ _ J;have E:=wX (k:=kq) (off:=0) (n:=L) (c:=L) (i:=(f:Int)) (by omega) (by omega);rw[toNat_natCast]at E;refine⟨_,rfl,_,E,_,x5,?_⟩;have y:Num.bv BB ((U.drop f).take (m+1))=Num.bv BB W'+Num.bv BB ((U.drop f).take (m+1))/(Y*k)*(Y*k):=by
    have h9:=Nat.mod_add_div (Num.bv BB ((U.drop f).take (m+1))) (Y*k);rw[Nat.mul_comm (Y*k)]at h9;rw[l];exact h9.symm
   have T:=h.step gA H x8 z y0 y (by rw[l];exact mod_lt _ M);refine bW (O-1) (by omega) ⟨by omega,by omega,U.take f++W'++U.drop (f+(m+1)),j.set f (Num.bv BB ((U.drop f).take (m+1))/(Y*k)),{
    ok:=I.set _ D.q2 x7 D.w2
    w2:=D.w2
    u2:=D.u2
    q2:=D.q2
    gu:= ?_
    gv:= ?_
    gq:= ?_
    uv':=D.uv'
    uq:=D.uq
    vq:=D.vq
    ul:= ?_
    cl:=K
    aaa:=by rw[length_set];exact F
    Ya:=D.Ya
    inv:=by rw[show L-(i+1)=f by omega];exact T }⟩
   ·show(V.set kq _).get ku=_;rw[ae.aw,if_neg D.uq,S,Eb (W:=(U.drop f).take (m+1)) (by omega) (by omega) (by rw[z,t]) (by rw[t]),z]
   ·show(V.set kq _).get kv=_;rw[ae.aw,if_neg D.vq];exact x3
   ·show(V.set kq _).get kq=_;rw[ae.aw,if_pos rfl]
   ·simp only[length_append,length_take,length_drop,z];omega
  ·have v:=dF v;obtain rfl:i=L:=by omega
   have h:=D.inv;rw[Nat.sub_self]at h;obtain⟨d1,d2⟩:=h.done;obtain⟨e1,e2⟩:=AL (X:=X) (Y:=Y) u;rw[e1]at d1;rw[e2]at d2;have q:=h.ul;obtain⟨t1,t2⟩:=wF U;refine(pK ru (by omega)).mono ?_;rintro _ _ ⟨rfl,rfl⟩;refine⟨_,_,_,rfl,?_⟩;have P:(cA cu 0 U).length=cu.length:=CJ (by omega);have B:bN (N+1-m)=N+1-m:=by unfold bN;rw[if_neg (by unfold di;omega)]
   have Q:Num.bv BB (dL U)=X%Y*k:=by rw[kV gA q,cg gA,d2]
   subst hL;rename_i G';refine Wx D.w2 (X:=X) (Y:=Y) (ku:=ku) (kq:=kq) (rc:=di+cu.length) (k:=k) (R:=X%Y*k) (C:=cA cu 0 U) (Zq:=(List.replicate (N+1-m) 0).map uv) (Ql:=j) D.u2 D.q2 D.uq (by rw[P];omega) (by omega) F.symm (by omega) (by rw[s];omega) (by rw[B];exact Nat.le_refl _) u kB h.ql d1 (Nat.mul_div_cancel _ u) a n c b m d _ (i:=0)
    ⟨Nat.zero_le _,rfl,⟨dL U,0,rfl,rfl,⟨λx A=>q x (by rw[<-t1]at A;exact List.mem_of_mem_take A),by omega,u,?_⟩,?_⟩,D.gq,D.ok⟩
   ·rw[Nat.sub_zero,List.drop_length,take_length,Q];simp[Num.bv]
   ·rw[m3 (by rw[qf (by omega),drop_zero,t1])];exact D.gu)
end Go.Proofs.YtaaichlgdgjgjaaGreatDoor
end
section
namespace Go.Proofs.YtaaichlgdgjgjaaGreatDoor
open Go Go.Ab Go.Num
variable{h:ae}{a:Option Addr}{n:Nat}{j:Nat}{l:Nat}
theorem xg{b:Option Addr}{c:Nat}{X Y:Nat}(V:Rd h 150 (.slice a n c) (bl X))(T:Rd h 150 (.slice b j l) (bl Y))(hY:0<Y)(hN:(aW BB X).length<=5000)(hM:(aW BB Y).length<=5000)(w:Wf h):
  FW SS 189 [.slice a n c,.slice b j l] h (F6 h X Y):=by
 have z7:BB=1000000000:=rfl;have hn:n=(aW BB X).length:=by have:=V.len;rwa[lM]at this
 have y0:j=(aW BB Y).length:=by have:=T.len;rwa[lM]at this
 obtain⟨f1,f2,s,C,f5,G⟩:=Q4 gA hY;rw[<-y0]at f1 f2 s C f5 G;generalize x6:(aW BB Y).getD (j-1) 0=v at f2 s C G;generalize y2:BB/(v+1)=k at s C G;refine GW a n c b j l h _ ((qj V T (by omega) w).mono ?_);rintro _ h2 ⟨rfl,f⟩;refine⟨_,rfl,aa (λz=>?_) (λz=>?_)⟩
 ·have z:=vy.1 (dT z);refine⟨_,_,_,_,_,_,rfl,.inl ⟨rfl,?_⟩,?_,f⟩
  ·rw[Nat.div_eq_of_lt z];show(aW BB 0).map uv=[];rw[fD];rfl
  ·rw[Nat.mod_eq_of_lt z];exact V.ok f
 ·have z5:Y<=X:=by
   rcases lt_or_ge X Y with h|h
   ·exact absurd (vy.2 h) (dF z)
   ·exact h
  have hX:0<X:=by omega
  have x4:j<=n:=by
   rcases lt_or_ge n j with h|h
   ·have:=lG gA (m:=X) (n:=Y) (by omega);omega
   ·exact h
  have y1:wrap .i64 ((j:Int)-1)=((j-1:Nat):Int):=by rw[aB (by omega) (by omega)];omega
  have hj:((j-1:Nat):Int).toNat=j-1:=by omega
  obtain⟨p,g2,g3⟩:=EP (T.ok f) (i:=((j-1:Nat):Int)) (by omega) (by omega);rw[hj,x6]at g3;have et:wrap .u64 ((v:Int)+1)=((v+1:Nat):Int):=wU (by omega) (by omega);have x5:ax SS.P .quo 150 (.int .u64 1000000000) (.int .u64 ((v+1:Nat):Int))=some (.int .u64 (k:Int)):=by
   have:=Ty (a:=BB) (b:=v+1) (by decide) (by omega);rw[y2]at this;exact this
  rw[y1];refine⟨p,g2,_,g3,?_⟩;dsimp only;rw[et];refine⟨_,x5,?_⟩;refine(xl (V.ok f) (dh gA X) (by omega) s C f.wf).mono ?_;rintro _ h8 ⟨a9,I,y7,rfl,R,E⟩;rw[cg gA]at R;refine⟨a9,I,y7,rfl,(xl ((T.ok f).ok E) (dh gA Y) (by omega) s C E.wf).mono ?_⟩;rintro _ z8 ⟨x8,d,O,rfl,ov,H⟩;rw[cg gA]at ov;refine⟨x8,d,O,rfl,?_⟩;have z6:0<Y*k:=mul_pos hY s;have J:(aW BB (Y*k)).length=j:=Gg gA G (Nat.le_trans f5 (Nat.le_mul_of_pos_right Y s)) f1;have q:(bl (Y*k)).length=j:=by rw[lM];exact J
  rcases ov with⟨_,e⟩|⟨A,cv,e,x7,gv,tv,lv⟩
  ·rw[e]at q;simp at q;omega
  injection e with e1 e2 e3
  subst e1;obtain rfl:d=j:=by rw[e2,q]
  rw[q]at tv;have B:=fk (dh gA X);rw[cg gA,<-hn]at B;have z3:0<X*k:=mul_pos hX s;have L1:=tk a n c b d l (k:Int) (some ⟨A,0,none⟩) d O
   (λmz r y rc g=>y<=n+1/\mz=n+1-y/\0<y/\∃U:List Nat,U.length=y/\eh h g 150 (.slice r y rc) (U.map uv)/\Ok h g/\(∀x∈U,x<BB)/\Num.bv BB U=X*k/\g.get A=some (.cells cv 150 1 true)/\(∀o n c,Value.slice r y rc≠ .slice (some ⟨A,o,none⟩) n c)) (F6 h X Y) (by
   intro mz r y rc;intros;rename_i g hi;obtain⟨z,z4,h3,U,D,o,ok,x1,x3,F,M⟩:=hi;refine aa (λQ=>?_) (λQ=>?_)
   ·have Q:=dT Q;refine⟨_,_,_,sE _,?_⟩;obtain⟨b',m',d',u,g6,g7,g8,g9,y6,y5⟩:=eh.ab9 (P:=SS.P) (t:=177) (x:= .int .u64 0) AD JG C8 w ok o rfl (by rw[Au,lM];omega) (by rw[lM];omega);rw[lM,D]at g7;subst g7;refine⟨b',_,d',u,g6,I0 (mz-1) (by omega) ⟨by omega,by omega,by omega,U++[0],by simp[D],?_,g9,?_,?_,y6 _ _ F M,?_⟩⟩
    ·rw[map_append];exact g8
    ·intro x K;rcases List.mem_append.1 K with K|K
     ·exact x1 x K
     ·rw[List.mem_singleton.1 K];decide
    ·rw[qq,x3];simp
    ·intro o' n' c' e;rcases y5 _ _ _ _ e with h7|⟨o2,n2,c2,h7⟩
     ·have:=ok.wf _ _ F;omega
     ·exact M _ _ _ h7
   ·have Q:=dF Q;obtain rfl:y=n+1:=by omega
    rcases o with⟨_,e⟩|⟨Z,W,e,x2,gu,tu,lu⟩
    ·have:=congrArg List.length e;rw[lM,D]at this;have h9:n+1=0:=this;omega
    rw[lM,D]at e tu lu;injection e with e1 _ e3
    subst e1;subst e3;have y4:wrap .i64 (((n+1:Nat):Int)-(d:Int))=((n+1-d:Nat):Int):=by rw[aB (by omega) (by omega)];omega
    rw[y4];refine⟨_,_,_,YT _ (by omega),?_⟩;have z2:=ok.wf _ _ gu;have z1:=ok.wf _ _ F;have x9:Z≠A:=λe=>M 0 (n+1) (di+W.length) (by rw[e]);have S:((List.replicate (n+1-d) 0).map uv).length=n+1-d:=by rw[lM,length_replicate]
    exact Wy (h2:=h) (X:=X) (Y:=Y) (N:=n) (m:=d) (L:=n+1-d) (k:=k) (ku:=Z) (kv:=A) (kq:=g.next) (ec:=O) (cu:=W) (cv:=cv) hY f1 x4 (by omega) rfl s C J (le_of_lt G) a n c b l (n+1-d) (i:=0)
     ⟨Nat.zero_le _,rfl,U,List.replicate (n+1-d) 0,{
      ok:=ok.push _
      w2:=w
      u2:=x2
      q2:=ok.nx
      gu:=by
       rw[ae.br,if_neg (by omega),m3 (by rw[drop_zero,D];exact tu)];exact gu
      gv:=by rw[ae.br,if_neg (by omega)];exact F
      gq:=by
       rw[ae.br,if_pos rfl,m3 (by rw[drop_zero,length_replicate,take_of_length_le (by rw[S];exact Nat.le_refl _)])]
      uv':=x9
      uq:=by omega
      vq:=by omega
      ul:=D
      cl:=lu
      aaa:=by rw[length_replicate]
      Ya:=by rw[J];exact tv
      inv:=iz.start gA x1 D x4 B f5 f1 s x3 }⟩)
  have y3:=eh.acw f.nx R;have x0:I=(aW BB (X*k)).length:=by have:=R.len;rwa[lM]at this
  have y8:h8.next<=A:=x7;have z0:(aW BB (X*k)).length<=n+1:=by
   refine lF gA ?_;rw[pow_succ];exact lt_of_lt_of_le (Nat.mul_lt_mul_of_pos_right B s) (Nat.mul_le_mul_left _ C)
  have y9:0<(aW BB (X*k)).length:=List.length_pos_iff.2 λe=>by have:=(hO gA).1 e;omega
  refine L1 (n+1-I) ⟨by omega,rfl,by omega,aW BB (X*k),x0.symm,y3.ok H,(f.trans E).trans H,dh gA _,cg gA _,gv,?_⟩;intro o n' c' e;rcases R with⟨e',_⟩|⟨Z,W,e',x2,gu,_,_⟩
  ·rw[e']at e;injection e with e;cases e
  ·rw[e']at e;injection e with e _ _
   injection e with e
   injection e with e
   have:=E.wf _ _ gu;omega
abbrev gY:LB:=[0,1,2,2,3,3,3,3,4,4,4,4,4,4,4,4,5,5,5,5,5,5,5,5,5,5,5,5,5,5,5,5,6,6,6,6,6,6,6,6,6,6,6,6,6,6,6,6,6,6,6,6,6,6,6,6,6,6,6,6,6,6,6,6,7,7,7,7,7,7,7,7,7,7,7,7,7,7,7,7,7,7,7,7,7,7,7,7,7,7,7,7,7,7,7,7,7,7,7,7,7,7,7,7,7,7,7,7,7,7,7,7,7,7,7,7,7,7,7,7,7,7,7,7,7,7,7,7,8,8,8,8,8,8,8,8,8,8,8,8,8,8,8,8,8,8,8,8,8,8,8,8,8,8,8,8,8,8,8,8,8,8,8,8,8,8,8,8,8,8,8,8,8,8,8,8,8,8,8,8,8,8,8,8,8,8,8,8,8,8,8,8,8,8,8,8,8,8,8,8,8,8,8,8,8,8,8,8,8,8,8,8,8,8,8,8,8,8,8,8,8,8,8,8,8,8,8,8,8,8,8,8,8,8,8,8,8,8,8,8,8,8,8,8,8,8,8,8,8,8,8,8,8,8,8,8]
noncomputable def WW:FD:=cF Tryz.f135 []
theorem S3(u:Int)(h:ae)(Q:VH)(e:au (decide ((u:Int)>=4294967296)) (xI .u64 (ax SS.P .shr 150 (.int .u64 u) (.int .u64 32)) λd=>au (decide ((d:Int)>=65536)) (xI .u64 (ax SS.P .shr 150 (.int .u64 d) (.int .u64 16)) λc=>au (decide ((c:Int)>=256)) (xI .u64 (ax SS.P .shr 150 (.int .u64 c) (.int .u64 8)) λb=>xI .u8 (bL SS.P 9 (strOf gY) (.int .u8 (wrap .u8 b))) λa=>Q (.int .i64 (wrap .i64 (wrap .i64 (wrap .i64 (32+16)+8)+wrap .i64 a))) h) (xI .u8 (bL SS.P 9 (strOf gY) (.int .u8 (wrap .u8 c))) λa=>Q (.int .i64 (wrap .i64 (wrap .i64 (32+16)+wrap .i64 a))) h)) (au (decide ((d:Int)>=256)) (xI .u64 (ax SS.P .shr 150 (.int .u64 d) (.int .u64 8)) λb=>xI .u8 (bL SS.P 9 (strOf gY) (.int .u8 (wrap .u8 b))) λa=>Q (.int .i64 (wrap .i64 (wrap .i64 (32+8)+wrap .i64 a))) h) (xI .u8 (bL SS.P 9 (strOf gY) (.int .u8 (wrap .u8 d))) λa=>Q (.int .i64 (wrap .i64 (32+wrap .i64 a))) h))) (au (decide ((u:Int)>=65536)) (xI .u64 (ax SS.P .shr 150 (.int .u64 u) (.int .u64 16)) λc=>au (decide ((c:Int)>=256)) (xI .u64 (ax SS.P .shr 150 (.int .u64 c) (.int .u64 8)) λb=>xI .u8 (bL SS.P 9 (strOf gY) (.int .u8 (wrap .u8 b))) λa=>Q (.int .i64 (wrap .i64 (wrap .i64 (wrap .i64 (0+16)+8)+wrap .i64 a))) h) (xI .u8 (bL SS.P 9 (strOf gY) (.int .u8 (wrap .u8 c))) λa=>Q (.int .i64 (wrap .i64 (wrap .i64 (0+16)+wrap .i64 a))) h)) (au (decide ((u:Int)>=256)) (xI .u64 (ax SS.P .shr 150 (.int .u64 u) (.int .u64 8)) λb=>xI .u8 (bL SS.P 9 (strOf gY) (.int .u8 (wrap .u8 b))) λa=>Q (.int .i64 (wrap .i64 (wrap .i64 (0+8)+wrap .i64 a))) h) (xI .u8 (bL SS.P 9 (strOf gY) (.int .u8 (wrap .u8 u))) λa=>Q (.int .i64 (wrap .i64 (0+wrap .i64 a))) h)))):FW SS 135 [(.int .u64 u)] h Q:=cJ WW Tryz.func135 (ai e)
noncomputable def Je:FD:=cF Tryz.f228 []
theorem GP(n:Int)(h:ae)(Q:VH)(b:xI .i64 (ax SS.P .shr 3 (.int .i64 (wrap .i64 (n*78913))) (.int .u64 18)) λa=>Q (.int .i64 a) h):FW SS 228 [(.int .i64 n)] h Q:=cJ Je Tryz.func228 (ai b)
noncomputable def Wh:FD:=cF Tryz.f229 []
theorem RX(b:Bool)(h:ae)(Q:VH)(a:au b (Q (.int .i64 1) h) (Q (.int .i64 0) h)):FW SS 229 [(.bool b)] h Q:=cJ Wh Tryz.func229 (ai a)
noncomputable def Jq:FD:=cF Tryz.f219 []
theorem G2(u:Int)(h:ae)(Q:VH)(l:FW SS 135 [(.int .u64 u)] h λj k=>yI .i64 j λi=>FW SS 228 [(.int .i64 i)] k λg h=>yI .i64 g λf=>iP 230 (pA 1) (.int .i64 f) λe=>xI .u64 (aj SS.P 150 h (.pointer (some e))) λd=>FW SS 229 [(.bool (decide ((u:Int)>=d)))] h λb c=>yI .i64 b λa=>Q (.int .i64 (wrap .i64 (f+a))) c):FW SS 219 [(.int .u64 u)] h Q:=cJ Jq Tryz.func219 (ai l)
abbrev cj:LB:=[48,48,48,49,48,50,48,51,48,52,48,53,48,54,48,55,48,56,48,57,49,48,49,49,49,50,49,51,49,52,49,53,49,54,49,55,49,56,49,57,50,48,50,49,50,50,50,51,50,52,50,53,50,54,50,55,50,56,50,57,51,48,51,49,51,50,51,51,51,52,51,53,51,54,51,55,51,56,51,57,52,48,52,49,52,50,52,51,52,52,52,53,52,54,52,55,52,56,52,57,53,48,53,49,53,50,53,51,53,52,53,53,53,54,53,55,53,56,53,57,54,48,54,49,54,50,54,51,54,52,54,53,54,54,54,55,54,56,54,57,55,48,55,49,55,50,55,51,55,52,55,53,55,54,55,55,55,56,55,57,56,48,56,49,56,50,56,51,56,52,56,53,56,54,56,55,56,56,56,57,57,48,57,49,57,50,57,51,57,52,57,53,57,54,57,55,57,56,57,57]
noncomputable def XP:FD:=cF Tryz.f218 []
theorem Uw(n:Int)(h:ae)(Q:VH)(b:au (decide ((n:Int)<10)) (xS (bO SS.P 9 (strOf [48,49,50,51,52,53,54,55,56,57,97,98,99,100,101,102,103,104,105,106,107,108,109,110,111,112,113,114,115,116,117,118,119,120,121,122]) (some (.int .i64 n)) (some (.int .i64 (wrap .i64 (n+1)))) none h) λa=>Q (strOf a) h) (xS (bO SS.P 9 (strOf cj) (some (.int .i64 (wrap .i64 (n*2)))) (some (.int .i64 (wrap .i64 (wrap .i64 (n*2)+2)))) none h) λa=>Q (strOf a) h)):FW SS 218 [(.int .i64 n)] h Q:=cJ XP Tryz.func218 (ai b)
noncomputable def rG:FD:=cF Tryz.f220 [([1,0,0,0],[0,1,4])]
abbrev mP(a:OA)(n c:Nat)(i:Nat)(v:Int):LV:=[(.slice a n c),(.int .u64 v),(iA i)]
theorem St(a:OA)(n c:Nat)(u:Int)(h:ae)(Q:VH)(b:LL SS rG [1,0,0,0] (mP a n c n u) h (KK SS rG [1,0,0] [] (EE SS rG Q))):FW SS 220 [(.slice a n c),(.int .u64 u)] h Q:=cJ rG Tryz.func220 (ai b)
theorem zj(a:OA)(n c:Nat)(u:Int)  (B:Nat->Nat->Int->ae->Prop) (Q:VH) (step:∀(A:Nat)(i:Nat)(v:Int)(K:Nat->Value)(h:ae),B A i v h->au (decide (((i:Int):Int)>=8)) (xI .u64 (ax SS.P .rem 150 (.int .u64 v) (.int .u64 100000000)) λH=>xI .u64 (ax SS.P .quo 150 (.int .u64 v) (.int .u64 100000000)) λP=>xI .u32 (ax SS.P .quo 148 (.int .u32 (wrap .u32 H)) (.int .u32 10000)) λG=>xI .u32 (ax SS.P .rem 148 (.int .u32 (wrap .u32 H)) (.int .u32 10000)) λN=>xI .u32 (ax SS.P .quo 148 (.int .u32 N) (.int .u32 100)) λF=>xI .u32 (ax SS.P .rem 148 (.int .u32 N) (.int .u32 100)) λJ=>xI .u32 (ax SS.P .quo 148 (.int .u32 G) (.int .u32 100)) λL=>xI .u32 (ax SS.P .rem 148 (.int .u32 G) (.int .u32 100)) λM=>xI .u8 (bL SS.P 9 (strOf cj) (.int .u32 (wrap .u32 (wrap .u32 (J*2)+1)))) λO=>xI .u8 (bL SS.P 9 (strOf cj) (.int .u32 (wrap .u32 (J*2)))) λC=>iP 172 (.slice a n c) (.int .i64 (wrap .i64 ((i:Int)-1))) λz=>xU (ah SS.P 5 (.pointer (some z)) (.int .u8 O) (room h 15)) (room h 15) λ_ y=>iP 172 (.slice a n c) (.int .i64 (wrap .i64 ((i:Int)-2))) λx=>xU (ah SS.P 5 (.pointer (some x)) (.int .u8 C) y) y λ_ w=>xI .u8 (bL SS.P 9 (strOf cj) (.int .u32 (wrap .u32 (wrap .u32 (F*2)+1)))) λv=>xI .u8 (bL SS.P 9 (strOf cj) (.int .u32 (wrap .u32 (F*2)))) λu=>iP 172 (.slice a n c) (.int .i64 (wrap .i64 ((i:Int)-3))) λt=>xU (ah SS.P 5 (.pointer (some t)) (.int .u8 v) (room w 15)) (room w 15) λ_ s=>iP 172 (.slice a n c) (.int .i64 (wrap .i64 ((i:Int)-4))) λr=>xU (ah SS.P 5 (.pointer (some r)) (.int .u8 u) s) s λ_ q=>xI .u8 (bL SS.P 9 (strOf cj) (.int .u32 (wrap .u32 (wrap .u32 (M*2)+1)))) λp=>xI .u8 (bL SS.P 9 (strOf cj) (.int .u32 (wrap .u32 (M*2)))) λo=>iP 172 (.slice a n c) (.int .i64 (wrap .i64 ((i:Int)-5))) λm=>xU (ah SS.P 5 (.pointer (some m)) (.int .u8 p) (room q 15)) (room q 15) λ_ l=>iP 172 (.slice a n c) (.int .i64 (wrap .i64 ((i:Int)-6))) λk=>xU (ah SS.P 5 (.pointer (some k)) (.int .u8 o) l) l λ_ j=>xI .u8 (bL SS.P 9 (strOf cj) (.int .u32 (wrap .u32 (wrap .u32 (L*2)+1)))) λh=>xI .u8 (bL SS.P 9 (strOf cj) (.int .u32 (wrap .u32 (L*2)))) λg=>iP 172 (.slice a n c) (.int .i64 (wrap .i64 ((i:Int)-7))) λf=>xU (ah SS.P 5 (.pointer (some f)) (.int .u8 h) (room j 15)) (room j 15) λ_ e=>iP 172 (.slice a n c) (.int .i64 (wrap .i64 ((i:Int)-8))) λd=>xU (ah SS.P 5 (.pointer (some d)) (.int .u8 g) e) e λ_ b=>aJ (qR (mP a n c) B) A [(.slice a n c),(.int .u64 P),(.int .i64 (wrap .i64 ((i:Int)-8)))] b) (au (decide (((i:Int):Int)>=4)) (xI .u32 (ax SS.P .rem 148 (.int .u32 (wrap .u32 v)) (.int .u32 10000)) λI=>xI .u32 (ax SS.P .quo 148 (.int .u32 (wrap .u32 v)) (.int .u32 10000)) λE=>xI .u32 (ax SS.P .quo 148 (.int .u32 I) (.int .u32 100)) λC=>xI .u32 (ax SS.P .rem 148 (.int .u32 I) (.int .u32 100)) λz=>xI .u8 (bL SS.P 9 (strOf cj) (.int .u32 (wrap .u32 (wrap .u32 (z*2)+1)))) λy=>xI .u8 (bL SS.P 9 (strOf cj) (.int .u32 (wrap .u32 (z*2)))) λx=>iP 172 (.slice a n c) (.int .i64 (wrap .i64 ((i:Int)-1))) λw=>xU (ah SS.P 5 (.pointer (some w)) (.int .u8 y) (room h 15)) (room h 15) λ_ v=>iP 172 (.slice a n c) (.int .i64 (wrap .i64 ((i:Int)-2))) λu=>xU (ah SS.P 5 (.pointer (some u)) (.int .u8 x) v) v λ_ t=>xI .u8 (bL SS.P 9 (strOf cj) (.int .u32 (wrap .u32 (wrap .u32 (C*2)+1)))) λs=>xI .u8 (bL SS.P 9 (strOf cj) (.int .u32 (wrap .u32 (C*2)))) λr=>iP 172 (.slice a n c) (.int .i64 (wrap .i64 ((i:Int)-3))) λq=>xU (ah SS.P 5 (.pointer (some q)) (.int .u8 s) (room t 15)) (room t 15) λ_ p=>iP 172 (.slice a n c) (.int .i64 (wrap .i64 ((i:Int)-4))) λo=>xU (ah SS.P 5 (.pointer (some o)) (.int .u8 r) p) p λ_ m=>au (decide ((wrap .i64 ((i:Int)-4):Int)>=2)) (xI .u32 (ax SS.P .rem 148 (.int .u32 E) (.int .u32 100)) λl=>xI .u32 (ax SS.P .quo 148 (.int .u32 E) (.int .u32 100)) λk=>xI .u8 (bL SS.P 9 (strOf cj) (.int .u32 (wrap .u32 (wrap .u32 (l*2)+1)))) λj=>xI .u8 (bL SS.P 9 (strOf cj) (.int .u32 (wrap .u32 (l*2)))) λh=>xP (aA SS.P 172 (.slice a n c) (.int .i64 (wrap .i64 (wrap .i64 ((i:Int)-4)-1)))) λg=>xU (ah SS.P 5 (.pointer (some g)) (.int .u8 j) (room m 15)) (room m 15) λ_ f=>xP (aA SS.P 172 (.slice a n c) (.int .i64 (wrap .i64 (wrap .i64 ((i:Int)-4)-2)))) λe=>xU (ah SS.P 5 (.pointer (some e)) (.int .u8 h) f) f λ_ d=>au (decide ((wrap .i64 (wrap .i64 ((i:Int)-4)-2):Int)>0)) (iP 172 (.slice a n c) (.int .i64 0) λb=>xU (ah SS.P 5 (.pointer (some b)) (.int .u8 (wrap .u8 (wrap .u32 (48+k)))) d) d λ_ a=>Q (.tuple ⟨[]⟩) a) (Q (.tuple ⟨[]⟩) d)) (au (decide ((wrap .i64 ((i:Int)-4):Int)>0)) (iP 172 (.slice a n c) (.int .i64 0) λb=>xU (ah SS.P 5 (.pointer (some b)) (.int .u8 (wrap .u8 (wrap .u32 (48+E)))) m) m λ_ a=>Q (.tuple ⟨[]⟩) a) (Q (.tuple ⟨[]⟩) m))) (au (decide (((i:Int):Int)>=2)) (xI .u32 (ax SS.P .rem 148 (.int .u32 (wrap .u32 v)) (.int .u32 100)) λm=>xI .u32 (ax SS.P .quo 148 (.int .u32 (wrap .u32 v)) (.int .u32 100)) λl=>xI .u8 (bL SS.P 9 (strOf cj) (.int .u32 (wrap .u32 (wrap .u32 (m*2)+1)))) λk=>xI .u8 (bL SS.P 9 (strOf cj) (.int .u32 (wrap .u32 (m*2)))) λj=>iP 172 (.slice a n c) (.int .i64 (wrap .i64 ((i:Int)-1))) λg=>xU (ah SS.P 5 (.pointer (some g)) (.int .u8 k) (room h 15)) (room h 15) λ_ f=>iP 172 (.slice a n c) (.int .i64 (wrap .i64 ((i:Int)-2))) λe=>xU (ah SS.P 5 (.pointer (some e)) (.int .u8 j) f) f λ_ d=>au (decide ((wrap .i64 ((i:Int)-2):Int)>0)) (iP 172 (.slice a n c) (.int .i64 0) λb=>xU (ah SS.P 5 (.pointer (some b)) (.int .u8 (wrap .u8 (wrap .u32 (48+l)))) d) d λ_ a=>Q (.tuple ⟨[]⟩) a) (Q (.tuple ⟨[]⟩) d)) (au (decide (((i:Int):Int)>0)) (iP 172 (.slice a n c) (.int .i64 0) λb=>xU (ah SS.P 5 (.pointer (some b)) (.int .u8 (wrap .u8 (wrap .u32 (48+wrap .u32 v)))) h) h λ_ a=>Q (.tuple ⟨[]⟩) a) (Q (.tuple ⟨[]⟩) h))))) (A:Nat) {i:Nat} {v:Int} {h:ae} (D:B A i v h):LL SS rG [1,0,0,0] (mP a n c i v) h (KK SS rG [1,0,0] [] (EE SS rG Q)):=
 nB (mP a n c) B (λA i v K h D=>ai (step A i v K h D)) A D
noncomputable def Lc:FD:=cF Tryz.f207 []
theorem IV(u:Int)(h:ae)(Q:VH)(r:au (((10:Int)==10)) (au (decide ((u:Int)<100)) (FW SS 218 [(.int .i64 (wrap .i64 u))] h λb c=>yS b λa=>Q (strOf a) c) (xN (bq SS.P 219) h λ_ n=>FW SS 219 [(.int .u64 u)] n λl m=>yI .i64 l λk=>xL (bO SS.P 219 (pA (h.next)) none (some (.int .i64 k)) none m) λg i j=>FW SS 220 [(.slice g i j),(.int .u64 u)] m λe f=>e=(.tuple ⟨[]⟩)/\xL (bO SS.P 219 (pA (h.next)) none (some (.int .i64 k)) none f) λb c d=>xS (A3 SS.P 172 9 (.slice b c d) f) λa=>Q (strOf a) f)) (FW SS 221 [nA,(.int .u64 u),(.int .i64 10),(.bool false),(.bool false)] h λb c=>∃(q:OA) (p o:Nat),∃a:LB,b=(.tuple ⟨[(.slice q p o),(strOf a)]⟩)/\Q (strOf a) c)):FW SS 207 [(.int .u64 u),(.int .i64 10)] h Q:=cJ Lc Tryz.func207 (ai r)
noncomputable def OL:FD:=cF Tryz.f197 []
theorem Ld(u:Int)(h:ae)(Q:VH)(d:FW SS 207 [(.int .u64 u),(.int .i64 10)] h λb c=>yS b λa=>Q (strOf a) c):FW SS 197 [(.int .u64 u),(.int .i64 10)] h Q:=cJ OL Tryz.func197 (ai d)
variable{P:Program}{g:ae}{m:Nat}
theorem Mk{t:TypeId}{a:Int}(h:0<=a){s:Nat}(b:s<=64):ax P .shr t (.int .u64 a) (.int .u64 (s:Int))=some (.int .u64 (a/2^s)):=by
 show(if 0<=(s:Int)then some (Value.int .u64 (a.fdiv (2^(min (s:Int).toNat 64))))else none)=_;rw[if_pos (by omega),toNat_natCast,min_eq_left b,Int.fdiv_eq_ediv_of_nonneg _ (Int.le_of_lt (Int.pow_pos (by decide)))]
theorem XN{t:TypeId}{a:Int}(h:0<=a){s:Nat}(b:s<=64):ax P .shr t (.int .i64 a) (.int .u64 (s:Int))=some (.int .i64 (a/2^s)):=by
 show(if 0<=(s:Int)then some (Value.int .i64 (a.fdiv (2^(min (s:Int).toNat 64))))else none)=_;rw[if_pos (by omega),toNat_natCast,min_eq_left b,Int.fdiv_eq_ediv_of_nonneg _ (Int.le_of_lt (Int.pow_pos (by decide)))]
def Vw:List UInt8:=[0,1,2,2,3,3,3,3,4,4,4,4,4,4,4,4,5,5,5,5,5,5,5,5,5,5,5,5,5,5,5,5,6,6,6,6,6,6,6,6,6,6,6,6,6,6,6,6,6,6,6,6,6,6,6,6,6,6,6,6,6,6,6,6,7,7,7,7,7,7,7,7,7,7,7,7,7,7,7,7,7,7,7,7,7,7,7,7,7,7,7,7,7,7,7,7,7,7,7,7,7,7,7,7,7,7,7,7,7,7,7,7,7,7,7,7,7,7,7,7,7,7,7,7,7,7,7,7,8,8,8,8,8,8,8,8,8,8,8,8,8,8,8,8,8,8,8,8,8,8,8,8,8,8,8,8,8,8,8,8,8,8,8,8,8,8,8,8,8,8,8,8,8,8,8,8,8,8,8,8,8,8,8,8,8,8,8,8,8,8,8,8,8,8,8,8,8,8,8,8,8,8,8,8,8,8,8,8,8,8,8,8,8,8,8,8,8,8,8,8,8,8,8,8,8,8,8,8,8,8,8,8,8,8,8,8,8,8,8,8,8,8,8,8,8,8,8,8,8,8,8,8,8,8,8,8]
def SM:List UInt8:=[48,48,48,49,48,50,48,51,48,52,48,53,48,54,48,55,48,56,48,57,49,48,49,49,49,50,49,51,49,52,49,53,49,54,49,55,49,56,49,57,50,48,50,49,50,50,50,51,50,52,50,53,50,54,50,55,50,56,50,57,51,48,51,49,51,50,51,51,51,52,51,53,51,54,51,55,51,56,51,57,52,48,52,49,52,50,52,51,52,52,52,53,52,54,52,55,52,56,52,57,53,48,53,49,53,50,53,51,53,52,53,53,53,54,53,55,53,56,53,57,54,48,54,49,54,50,54,51,54,52,54,53,54,54,54,55,54,56,54,57,55,48,55,49,55,50,55,51,55,52,55,53,55,54,55,55,55,56,55,57,56,48,56,49,56,50,56,51,56,52,56,53,56,54,56,55,56,56,56,57,57,48,57,49,57,50,57,51,57,52,57,53,57,54,57,55,57,56,57,57]
theorem WY:((List.range 256).all λx=>(x==0&&(Vw.getD x 0).toNat==0)||(Nat.ble 1 (Vw.getD x 0).toNat&&Nat.ble (Vw.getD x 0).toNat 8&&Nat.ble (2^((Vw.getD x 0).toNat-1)) x&&Nat.blt x (2^(Vw.getD x 0).toNat)))=true:=by kernel_rfl
theorem lt8{x:Nat}(h:x<256)(g:0<x):∃t,(Vw.getD x 0).toNat=t+1/\t<8/\2^t<=x/\x<2^(t+1):=by
 have e:=List.all_eq_true.1 WY x (List.mem_range.2 h);have f:(x==0)=false:=by simp;omega
 rw[f]at e;simp only[Bool.false_and,Bool.false_or,and_eq_true,Nat.ble_eq,Nat.blt_eq]at e;obtain⟨⟨⟨a,b⟩,c⟩,d⟩:=e;refine⟨(Vw.getD x 0).toNat-1,by omega,by omega,c,?_⟩;rwa[Nat.sub_add_cancel a]
theorem Bp{x:Int}(a:0<=x)(b:x<256):bL SS.P 9 (strOf Vw) (.int .u8 (wrap .u8 x))=some (.int .u8 ((Vw.getD x.toNat 0).toNat:Nat)):=by
 rw[sr a b];exact oh (by kernel_rfl) Vw .u8 a (by show x<((256:Nat):Int);omega)
theorem aak:((List.range 100).all λx=>Nat.beq (SM.getD (2*x) 0).toNat (48+x/10)&&Nat.beq (SM.getD (2*x+1) 0).toNat (48+x%10))=true:=by kernel_rfl
theorem Uv{x:Nat}(h:x<100):(SM.getD (2*x) 0).toNat=48+x/10/\(SM.getD (2*x+1) 0).toNat=48+x%10:=by
 have a:=List.all_eq_true.1 aak x (List.mem_range.2 h);simp only[and_eq_true,Nat.beq_eq]at a;exact a
theorem S4(k:0<n)(j:n<4294967296)(h:ae):FW SS 135 [.int .u64 (n:Int)] h (λv i=>i=h/\∃f:Nat,v = .int .i64 (f+1:Nat)/\f<32/\2^f<=n/\n<2^(f+1)):=by
 refine S3 _ h _ (aa (λg=>absurd (dT g) (by omega)) λ_=>aa (λg=>?_) (λg=>?_))
 ·have g:=dT g;refine⟨_,Mk (s:=16) (by omega) (by omega),aa (λa=>?_) (λa=>?_)⟩
  ·have a:=dT a;refine⟨_,Mk (s:=8) (by omega) (by omega),_,Bp (by omega) (by omega),rfl,?_⟩;obtain⟨t,e,c,b,d⟩:=lt8 (x:=((n:Int)/2^16/2^8).toNat) (by omega) (by omega);rw[e];refine⟨t+24,?_,by omega,?_,?_⟩
   ·refine congrArg (Value.int .i64) ?_;simp only[wrap_i64];omega
   ·rw[pow_add];omega
   ·rw[show t+24+1=(t+1)+24 by omega,pow_add];omega
  ·have a:=dF a;refine⟨_,Bp (by omega) (by omega),rfl,?_⟩;obtain⟨t,e,c,b,d⟩:=lt8 (x:=((n:Int)/2^16).toNat) (by omega) (by omega);rw[e];refine⟨t+16,?_,by omega,?_,?_⟩
   ·refine congrArg (Value.int .i64) ?_;simp only[wrap_i64];omega
   ·rw[pow_add];omega
   ·rw[show t+16+1=(t+1)+16 by omega,pow_add];omega
 ·have g:=dF g;refine aa (λa=>?_) (λa=>?_)
  ·have a:=dT a;refine⟨_,Mk (s:=8) (by omega) (by omega),_,Bp (by omega) (by omega),rfl,?_⟩;obtain⟨t,e,c,b,d⟩:=lt8 (x:=((n:Int)/2^8).toNat) (by omega) (by omega);rw[e];refine⟨t+8,?_,by omega,?_,?_⟩
   ·refine congrArg (Value.int .i64) ?_;simp only[wrap_i64];omega
   ·rw[pow_add];omega
   ·rw[show t+8+1=(t+1)+8 by omega,pow_add];omega
  ·have a:=dF a;refine⟨_,Bp (by omega) (by omega),rfl,?_⟩;obtain⟨t,e,c,b,d⟩:=lt8 (x:=((n:Int)).toNat) (by omega) (by omega);rw[e];refine⟨t,?_,by omega,by omega,by omega⟩;refine congrArg (Value.int .i64) ?_;simp only[wrap_i64];omega
def Kc:List Value:=(List.range 20).map λi=>uv (10^i)
def nz(h:ae):Prop:=∃t a,h.get 1=some (.cells Kc t 0 a)
theorem nz.ok(t:nz h)(o:Ok h g):nz g:=let⟨k,a,e⟩:=t;⟨k,a,o.ext _ _ e⟩
theorem aaY:SS.P.underlying 230=some (.array 20 150):=by kernel_rfl
theorem aan(t:nz h){i:Int}(b:0<=i)(a:i<20):aA SS.P 230 (.pointer (some ⟨1,0,none⟩)) (.int .i64 i)=some (.pointer (some ⟨1,0+i.toNat*1,none⟩))/\aj SS.P 150 h (.pointer (some ⟨1,0+i.toNat*1,none⟩))=some (.int .u64 ((10^i.toNat:Nat):Int)):=by
 obtain⟨_,c,e⟩:=t;constructor
 ·unfold aA;rw[aaY];dsimp only;rw[DV];dsimp only;rw[if_pos ⟨b,a⟩,dt,Nat.zero_add]
 ·unfold aj;rw[NI];dsimp only;rw[e];dsimp only;rw[MS];simp only[Bool.false_eq_true,if_false];unfold Kc;rw[Nat.zero_add,Nat.mul_one,getElem?_map,List.getElem?_range (by omega)];rfl
theorem G3(B:100<=n)(x:n<1000000000){h:ae}(t:nz h):FW SS 219 [.int .u64 (n:Int)] h (λv o=>o=h/\∃a:Nat,v = .int .i64 (a+1:Nat)/\a<9/\10^a<=n/\n<10^(a+1)):=by
 refine G2 _ h _ ((S4 (by omega) (by omega) h).mono ?_);rintro _ g ⟨e,a,rfl,y,u,z⟩;have t:=e▸t;refine⟨_,rfl,GP _ _ _ ⟨_,XN (s:=18) ?_ (by omega),_,rfl,?_⟩⟩
 ·rw[aB (by omega) (by omega)];omega
 rw[aB (by omega) (by omega)];have D:a<30:=by
  rcases lt_or_ge a 30 with h|h
  ·exact h
  ·have:2^30<=2^a:=pow_le_pow_right (by omega) h;omega
 have C:6<=a:=by
  rcases lt_or_ge a 6 with h|h
  ·have:2^(a+1)<=2^6:=pow_le_pow_right (by omega) h;omega
  ·exact h
 obtain⟨p,k⟩:=aan t (i:=((a+1:Nat):Int)*78913/2^18) (by omega) (by omega);refine⟨_,p,_,k,RX _ _ _ ?_⟩;have b:∀q:Nat,2<=q->q<=9->10^(q-1)<=n->n<10^(q+1)->((a+1:Nat):Int)*78913/2^18=(q:Int)->au (decide (((n:Nat):Int)>=((10^(((a+1:Nat):Int)*78913/2^18).toNat:Nat):Int))) (∃c:Int,Value.int .i64 1 = .int .i64 c/\(g=h/\∃m:Nat,Value.int .i64 (wrap .i64 (((a+1:Nat):Int)*78913/2^18+c)) = .int .i64 (m+1:Nat)/\m<9/\10^m<=n/\n<10^(m+1))) (∃c:Int,Value.int .i64 0 = .int .i64 c/\(g=h/\∃m:Nat,Value.int .i64 (wrap .i64 (((a+1:Nat):Int)*78913/2^18+c)) = .int .i64 (m+1:Nat)/\m<9/\10^m<=n/\n<10^(m+1))):=by
  intro q A w f l r;rw[r,toNat_natCast];refine aa (λd=>?_) (λd=>?_)
  ·have d:=dT d;refine⟨1,rfl,e,q,?_,?_,by omega,l⟩
   ·rw[aB (by omega) (by omega)];rfl
   ·rcases lt_or_ge q 9 with h|h
    ·exact h
    ·have:q=9:=by omega
     subst this;omega
  ·have d:=dF d;refine⟨0,rfl,e,q-1,?_,by omega,f,by rw[Nat.sub_add_cancel (by omega)];omega⟩;rw[aB (by omega) (by omega),Nat.sub_add_cancel (by omega),Int.add_zero]
 have j:a=6\/a=7\/a=8\/a=9\/a=10\/a=11\/a=12\/a=13\/a=14\/a=15\/a=16\/a=17\/a=18\/a=19\/a=20\/a=21\/a=22\/a=23\/a=24\/a=25\/a=26\/a=27\/a=28\/a=29:=by omega
 rcases j with rfl|rfl|rfl|rfl|rfl|rfl|rfl|rfl|rfl|rfl|rfl|rfl|rfl|rfl|rfl|rfl|rfl|rfl|rfl|rfl|rfl|rfl|rfl|rfl
 all_goals first
  |exact b 2 (by omega) (by omega) (by omega) (by omega) (by omega)
  |exact b 3 (by omega) (by omega) (by omega) (by omega) (by omega)
  |exact b 4 (by omega) (by omega) (by omega) (by omega) (by omega)
  |exact b 5 (by omega) (by omega) (by omega) (by omega) (by omega)
  |exact b 6 (by omega) (by omega) (by omega) (by omega) (by omega)
  |exact b 7 (by omega) (by omega) (by omega) (by omega) (by omega)
  |exact b 8 (by omega) (by omega) (by omega) (by omega) (by omega)
  |exact b 9 (by omega) (by omega) (by omega) (by omega) (by omega)
theorem Ux(e:m<100)(h:ae):FW SS 218 [.int .i64 (m:Int)] h (λv f=>f=h/\v=strOf (ag m)):=by
 refine Uw _ h _ (aa (λg=>?_) (λg=>?_))
 ·have g:=dT g;rw[aB (by omega) (by omega)];refine⟨_,oi (by kernel_rfl) _ (a:=m) (b:=m+1) rfl rfl (by omega) (by simp;omega),rfl,?_⟩;rw[dx (by omega)];have:m=0\/m=1\/m=2\/m=3\/m=4\/m=5\/m=6\/m=7\/m=8\/m=9:=by omega
  rcases this with rfl|rfl|rfl|rfl|rfl|rfl|rfl|rfl|rfl|rfl<;>rfl
 ·have g:=dF g;rw[aB (n:=(m:Int)*2) (by omega) (by omega),aB (by omega) (by omega)];refine⟨_,oi (l:=SM) (by kernel_rfl) (a:=2*m) (b:=2*m+2) (by show some _=some _;congr 1;omega) (by show some _=some _;congr 1;omega) (by omega) (by show _<=200;omega),rfl,?_⟩;have c:=Uv e;rw[hP (by omega),dx (by omega),show 2*m+2-2*m=2 by omega];have j:SM.length=200:=rfl;rw[List.drop_eq_getElem_cons (by omega),List.drop_eq_getElem_cons (by omega)];have d:SM[2*m]'(by omega)=eP (m/10):=by
   apply UInt8.toNat_inj.1;have:=c.1;rw[gD,gE (by omega)]at this;rw[show(SM[2*m]'(by omega)).toNat=_ from this];unfold eP;rw[UInt8.toNat_ofNat',Nat.mod_eq_of_lt (by omega)]
  have i:SM[2*m+1]'(by omega)=eP (m%10):=by
   apply UInt8.toNat_inj.1;have:=c.2;rw[gD,gE (by omega)]at this;rw[show(SM[2*m+1]'(by omega)).toNat=_ from this];unfold eP;rw[UInt8.toNat_ofNat',Nat.mod_eq_of_lt (a:=48+m%10) (b:=2^8) (by omega)]
  rw[d,i];rfl
variable{z:Int}
section
theorem mX{n:Int}(a:0<=n)(b:n<4294967296):wrap .u32 n=n:=by
 simp only[wrap,IntKind.bits,IntKind.signed,Bool.false_and,Bool.false_eq_true,if_false];omega
theorem CY{t:TypeId}{a:Int}{b:Nat}(h0:0<=a)(c:a<4294967296)(d:0<b):ax P .quo t (.int .u32 a) (.int .u32 (b:Int))=some (.int .u32 (a/(b:Int))):=by
 rw[Gw P t .u32 _ _ (by omega),Int.tdiv_eq_ediv_of_nonneg h0,mX (Int.ediv_nonneg h0 (by omega)) (Int.lt_of_le_of_lt (Int.ediv_le_self _ h0) c)]
theorem Wj(h:m<10):sI (eP m) = .int .u8 (48+(m:Int)):=by
 unfold sI eP;rw[UInt8.toNat_ofNat',Nat.mod_eq_of_lt (a:=48+m) (b:=2^8) (by omega)];rfl
structure FB(h0:ae)(k n u j w:Nat)(h:ae):Prop where
 blk:∃cs,h.get k=some (.cells cs 219 0 true)/\cs.length=24/\(cs.drop j).take (n-j)=(Num.wid (n-j) u).map sI
 hw:w=u/10^(n-j)
 lt:w<10^j
 jn:j<=n
 n24:n<=9
 ok:Ih h0 k h
section
variable {h0 h:ae} {k n u j w:Nat}
theorem FB.room(f:FB h0 k n u j w h)(r:Nat):FB h0 k n u j w (room h r):=⟨f.blk,f.hw,f.lt,f.jn,f.n24,f.ok.room r⟩
theorem FB.step(f:FB h0 k n u (j+1) w h){c:Nat}{x i:Int}(m:x=48+(w:Int)%10)(q:i=(j:Int)):
  ∃p:Addr,aA SS.P 172 (.slice (some ⟨k,0,none⟩) n c) (.int .i64 i)=some (.pointer (some p))/\∃d:dJ,ah SS.P 5 (.pointer (some p)) (.int .u8 x) h=some (undef,d)/\FB h0 k n u j (w/10) (d.app h):=by
 subst m q;obtain⟨cs,b,o,l⟩:=f.blk;have s:=f.jn;have g:=f.n24;refine⟨⟨k,0+j,none⟩,?_,.set k (.cells (cs.set j (sI (eP (w%10)))) 219 0 true),?_,?_⟩
 ·unfold aA;rw[AA];dsimp only;rw[zz5];dsimp only;rw[if_pos ⟨by omega,by omega⟩,Nat.mul_one,dt,toNat_natCast]
 ·rw[show(48+((w:Nat):Int)%10)=48+((w%10:Nat):Int) by omega,<-Wj (mod_lt _ (by omega))];show(if aE SS.P 5=some 1 then(storeAt h k (0+j) [sI (eP (w%10))]).map λu=>(undef,u)else none)=_;rw[if_pos zz5];unfold storeAt;rw[b];dsimp only;rw[Nat.zero_add,if_pos ⟨by simp;omega,rfl⟩];have e:cs.take j++[sI (eP (w%10))]++cs.drop (j+[sI (eP (w%10))].length)=cs.set j (sI (eP (w%10))):=by
   rw[List.set_eq_take_append_cons_drop,if_pos (by omega),append_assoc];rfl
  rw[e];rfl
 ·have r:=f.ok.wf _ _ b;have a:n-j=(n-(j+1))+1:=by omega
  refine⟨⟨cs.set j (sI (eP (w%10))),?_,by rw[length_set];exact o,?_⟩,?_,?_,by omega,g,f.ok.set r _⟩
  ·show(h.set k _).get k=_;rw[ae.aw,if_pos rfl]
  ·rw[List.drop_eq_getElem_cons (by simp only[length_set];omega),a,List.take_succ_cons,List.getElem_set_self,List.drop_set_of_lt (by omega),l,vI,List.map_cons,<-f.hw]
  ·rw[a,pow_succ,<-Nat.div_div_eq_div_mul,<-f.hw]
  ·have:=f.lt;rw[pow_succ]at this;omega
theorem ab7{x:Nat}(b:z=(x:Int))(a:x<100):bL SS.P 9 (strOf SM) (.int .u32 (wrap .u32 (wrap .u32 (z*2)+1)))=some (.int .u8 (48+(x:Int)%10)):=by
 rw[mX (n:=z*2) (by omega) (by omega),mX (by omega) (by omega),oh (by kernel_rfl) SM .u32 (by omega) (by show _<((200:Nat):Int);omega),show(z*2+1).toNat=2*x+1 by omega,(Uv a).2];rfl
theorem ab6{x:Nat}(b:z=(x:Int))(a:x<100):bL SS.P 9 (strOf SM) (.int .u32 (wrap .u32 (z*2)))=some (.int .u8 (48+(x:Int)/10)):=by
 rw[mX (n:=z*2) (by omega) (by omega),oh (by kernel_rfl) SM .u32 (by omega) (by show _<((200:Nat):Int);omega),show(z*2).toNat=2*x by omega,(Uv a).1];rfl
theorem FB.pair(f:FB h0 k n u (j+2) w h){c:Nat}{y i1 i2:Int}(E:y=(w:Int)%100)(C:i1=(j:Int)+1)(D:i2=(j:Int)):
  ∃m:Int,bL SS.P 9 (strOf SM) (.int .u32 (wrap .u32 (wrap .u32 (y*2)+1)))=some (.int .u8 m)/\
  ∃d:Int,bL SS.P 9 (strOf SM) (.int .u32 (wrap .u32 (y*2)))=some (.int .u8 d)/\
  ∃g:Addr,aA SS.P 172 (.slice (some ⟨k,0,none⟩) n c) (.int .i64 i1)=some (.pointer (some g))/\
  ∃a:dJ,ah SS.P 5 (.pointer (some g)) (.int .u8 m) (Go.Ab.room h 15)=some (undef,a)/\
  ∃l:Addr,aA SS.P 172 (.slice (some ⟨k,0,none⟩) n c) (.int .i64 i2)=some (.pointer (some l))/\
  ∃b:dJ,ah SS.P 5 (.pointer (some l)) (.int .u8 d) (a.app (Go.Ab.room h 15))=some (undef,b)/\
  FB h0 k n u j (w/100) (b.app (a.app (Go.Ab.room h 15))):=by
 have e:y=((w%100:Nat):Int):=by omega
 obtain⟨p,A,t,s,B⟩:=(f.room 15).step (j:=j+1) (c:=c) (x:=48+((w%100:Nat):Int)%10) (i:=i1) (by omega) (by omega);obtain⟨q,v,r,z,o⟩:=B.step (c:=c) (x:=48+((w%100:Nat):Int)/10) (i:=i2) (by omega) (by omega);refine⟨_,ab7 e (by omega),_,ab6 e (by omega),p,A,t,s,q,v,r,z,?_⟩;rw[Nat.div_div_eq_div_mul]at o;exact o
end
theorem Su{h0 h:ae}{k n c u:Nat}(f:FB h0 k n u n u h):FW SS 220 [.slice (some ⟨k,0,none⟩) n c,.int .u64 (u:Int)] h (λv O=>v = .tuple ⟨[]⟩/\∃w,FB h0 k n u 0 w O):=by
 have V:=f.n24;have L:=zj (some ⟨k,0,none⟩) n c (u:Int) (λD i v g=>∃w:Nat,v=(w:Int)/\D=i/\FB h0 k n u i w g) (λv O=>v = .tuple ⟨[]⟩/\∃w,FB h0 k n u 0 w O) (by
  intro D i v;intros;rename_i g R;obtain⟨w,rfl,rfl,f⟩:=R;have S:=f.jn;have W:w<1000000000:=lt_of_lt_of_le f.lt (show 10^D<=10^9 from pow_le_pow_right (by omega) (by omega));refine aa (λK=>?_) (λK=>?_)
  ·have K:=dT K;obtain⟨j,rfl⟩:∃j,D=j+8:=⟨D-8,by omega⟩
   refine⟨_,gG (b:=100000000) (by omega) (by omega),_,pM (b:=100000000) (by omega) (by omega) (by omega),?_⟩;rw[mX (n:=((w:Nat):Int)%((100000000:Nat):Int)) (by omega) (by omega)];refine⟨_,CY (b:=10000) (by omega) (by omega) (by omega),_,gG (b:=10000) (by omega) (by omega),_,CY (b:=100) (by omega) (by omega) (by omega),_,gG (b:=100) (by omega) (by omega),_,CY (b:=100) (by omega) (by omega) (by omega),_,gG (b:=100) (by omega) (by omega),?_⟩;obtain⟨C,d,q,e,t,m,z,s,B,A,r,o,Q⟩:=FB.pair (j:=j+6) (c:=c) (y:=((w:Nat):Int)%((100000000:Nat):Int)%((10000:Nat):Int)%((100:Nat):Int)) (i1:=wrap .i64 (((j+8:Nat):Int)-1)) (i2:=wrap .i64 (((j+8:Nat):Int)-2)) f (by omega) (by rw[aB (by omega) (by omega)];omega) (by rw[aB (by omega) (by omega)];omega);refine⟨C,d,q,e,t,m,z,s,B,A,r,o,?_⟩;obtain⟨C,d,q,e,t,m,z,s,B,A,r,o,I⟩:=FB.pair (j:=j+4) (c:=c) (y:=((w:Nat):Int)%((100000000:Nat):Int)%((10000:Nat):Int)/((100:Nat):Int)) (i1:=wrap .i64 (((j+8:Nat):Int)-3)) (i2:=wrap .i64 (((j+8:Nat):Int)-4)) Q (by omega) (by rw[aB (by omega) (by omega)];omega) (by rw[aB (by omega) (by omega)];omega);refine⟨C,d,q,e,t,m,z,s,B,A,r,o,?_⟩;obtain⟨C,d,q,e,t,m,z,s,B,A,r,o,G⟩:=FB.pair (j:=j+2) (c:=c) (y:=((w:Nat):Int)%((100000000:Nat):Int)/((10000:Nat):Int)%((100:Nat):Int)) (i1:=wrap .i64 (((j+8:Nat):Int)-5)) (i2:=wrap .i64 (((j+8:Nat):Int)-6)) I (by omega) (by rw[aB (by omega) (by omega)];omega) (by rw[aB (by omega) (by omega)];omega);refine⟨C,d,q,e,t,m,z,s,B,A,r,o,?_⟩;obtain⟨C,d,q,e,t,m,z,s,B,A,r,o,F⟩:=FB.pair (j:=j) (c:=c) (y:=((w:Nat):Int)%((100000000:Nat):Int)/((10000:Nat):Int)/((100:Nat):Int)) (i1:=wrap .i64 (((j+8:Nat):Int)-7)) (i2:=wrap .i64 (((j+8:Nat):Int)-8)) G (by omega) (by rw[aB (by omega) (by omega)];omega) (by rw[aB (by omega) (by omega)];omega);refine⟨C,d,q,e,t,m,z,s,B,A,r,o,?_⟩;have N:wrap .i64 (((j+8:Nat):Int)-8)=(j:Int):=by rw[aB (by omega) (by omega)];omega
   rw[N];exact iT j (by omega) ⟨w/100000000,by omega,rfl,by
    have:=F;simp only[Nat.div_div_eq_div_mul]at this;exact this⟩
  ·have K:=dF K;have T:w<100000000:=lt_of_lt_of_le f.lt (show 10^D<=10^8 from pow_le_pow_right (by omega) (by omega));rw[mX (n:=((w:Nat):Int)) (by omega) (by omega)];refine aa (λJ=>?_) (λJ=>?_)
   ·have J:=dT J;obtain⟨j,rfl⟩:∃j,D=j+4:=⟨D-4,by omega⟩
    refine⟨_,gG (b:=10000) (by omega) (by omega),_,CY (b:=10000) (by omega) (by omega) (by omega),_,CY (b:=100) (by omega) (by omega) (by omega),_,gG (b:=100) (by omega) (by omega),?_⟩;obtain⟨C,d,q,e,t,m,z,s,B,A,r,o,Q⟩:=FB.pair (j:=j+2) (c:=c) (y:=((w:Nat):Int)%((10000:Nat):Int)%((100:Nat):Int)) (i1:=wrap .i64 (((j+4:Nat):Int)-1)) (i2:=wrap .i64 (((j+4:Nat):Int)-2)) f (by omega) (by rw[aB (by omega) (by omega)];omega) (by rw[aB (by omega) (by omega)];omega);refine⟨C,d,q,e,t,m,z,s,B,A,r,o,?_⟩;obtain⟨C,d,q,e,t,m,z,s,B,A,r,o,I⟩:=FB.pair (j:=j) (c:=c) (y:=((w:Nat):Int)%((10000:Nat):Int)/((100:Nat):Int)) (i1:=wrap .i64 (((j+4:Nat):Int)-3)) (i2:=wrap .i64 (((j+4:Nat):Int)-4)) Q (by omega) (by rw[aB (by omega) (by omega)];omega) (by rw[aB (by omega) (by omega)];omega);refine⟨C,d,q,e,t,m,z,s,B,A,r,o,?_⟩;have N:wrap .i64 (((j+4:Nat):Int)-4)=(j:Int):=by rw[aB (by omega) (by omega)];omega
    rw[N];have U:=I.lt;refine aa (λE=>?_) (λE=>?_)
    ·have E:=dT E;obtain⟨l,rfl⟩:∃l,j=l+2:=⟨j-2,by omega⟩
     refine⟨_,gG (b:=100) (by omega) (by omega),_,CY (b:=100) (by omega) (by omega) (by omega),?_⟩;obtain⟨C,d,q,e,t,m,z,s,B,A,r,o,G⟩:=FB.pair (j:=l) (c:=c) (y:=((w:Nat):Int)/((10000:Nat):Int)%((100:Nat):Int)) (i1:=wrap .i64 (((l+2:Nat):Int)-1)) (i2:=wrap .i64 (((l+2:Nat):Int)-2)) I (by omega) (by rw[aB (by omega) (by omega)];omega) (by rw[aB (by omega) (by omega)];omega);refine⟨C,d,q,e,t,m,z,s,B,A,r,o,?_⟩;have P:wrap .i64 (((l+2:Nat):Int)-2)=(l:Int):=by rw[aB (by omega) (by omega)];omega
     rw[P];refine aa (λa=>?_) (λa=>?_)
     ·have a:=dT a;obtain rfl:l=1:=by omega
      have M:=G.lt;rw[mX (n:=48+_) (by omega) (by omega),sr (n:=48+_) (by omega) (by omega)];obtain⟨p,d,H,e,F⟩:=G.step (c:=c) (x:=48+((w:Nat):Int)/((10000:Nat):Int)/((100:Nat):Int)) (i:=0) (by omega) rfl;exact⟨p,d,H,e,rfl,_,F⟩
     ·have a:=dF a;obtain rfl:l=0:=by omega
      exact⟨rfl,_,G⟩
    ·have E:=dF E;refine aa (λa=>?_) (λa=>?_)
     ·have a:=dT a;obtain rfl:j=1:=by omega
      rw[mX (n:=48+_) (by omega) (by omega),sr (n:=48+_) (by omega) (by omega)];obtain⟨p,d,H,e,F⟩:=I.step (c:=c) (x:=48+((w:Nat):Int)/((10000:Nat):Int)) (i:=0) (by omega) rfl;exact⟨p,d,H,e,rfl,_,F⟩
     ·have a:=dF a;obtain rfl:j=0:=by omega
      exact⟨rfl,_,I⟩
   ·have J:=dF J;refine aa (λE=>?_) (λE=>?_)
    ·have E:=dT E;obtain⟨l,rfl⟩:∃l,D=l+2:=⟨D-2,by omega⟩
     refine⟨_,gG (b:=100) (by omega) (by omega),_,CY (b:=100) (by omega) (by omega) (by omega),?_⟩;obtain⟨C,d,q,e,t,m,z,s,B,A,r,o,G⟩:=FB.pair (j:=l) (c:=c) (y:=((w:Nat):Int)%((100:Nat):Int)) (i1:=wrap .i64 (((l+2:Nat):Int)-1)) (i2:=wrap .i64 (((l+2:Nat):Int)-2)) f (by omega) (by rw[aB (by omega) (by omega)];omega) (by rw[aB (by omega) (by omega)];omega);refine⟨C,d,q,e,t,m,z,s,B,A,r,o,?_⟩;have P:wrap .i64 (((l+2:Nat):Int)-2)=(l:Int):=by rw[aB (by omega) (by omega)];omega
     rw[P];have M:=G.lt;refine aa (λa=>?_) (λa=>?_)
     ·have a:=dT a;obtain rfl:l=1:=by omega
      rw[mX (n:=48+_) (by omega) (by omega),sr (n:=48+_) (by omega) (by omega)];obtain⟨p,d,H,e,F⟩:=G.step (c:=c) (x:=48+((w:Nat):Int)/((100:Nat):Int)) (i:=0) (by omega) rfl;exact⟨p,d,H,e,rfl,_,F⟩
     ·have a:=dF a;obtain rfl:l=0:=by omega
      exact⟨rfl,_,G⟩
    ·have E:=dF E;have M:=f.lt;refine aa (λa=>?_) (λa=>?_)
     ·have a:=dT a;obtain rfl:D=1:=by omega
      rw[mX (n:=48+_) (by omega) (by omega),sr (n:=48+_) (by omega) (by omega)];obtain⟨p,d,H,e,F⟩:=f.step (c:=c) (x:=48+((w:Nat):Int)) (i:=0) (by omega) rfl;exact⟨p,d,H,e,rfl,_,F⟩
     ·have a:=dF a;obtain rfl:D=0:=by omega
      exact⟨rfl,_,f⟩)
 exact St _ n c _ h _ (L n ⟨u,rfl,rfl,f⟩)
end
variable{k:Nat}{b:Bool}{i:Nat}
noncomputable def Q1:dN:= .cells (List.replicate 24 (.int .u8 0)) 219 0 true
theorem aaW:bq SS.P 219=some (Q1,kZ):=by kernel_rfl
theorem aaX:SS.P.underlying 219=some (.array 24 5):=by kernel_rfl
theorem EO{cs:List Value}(c:h.get k=some (.cells cs 219 0 b)){n:Nat}(f:n<=24):bO SS.P 219 (.pointer (some ⟨k,0,none⟩)) none (some (.int .i64 (n:Int))) none h=some (.slice (some ⟨k,0,none⟩) n 24):=by
 unfold bO;dsimp only;rw[aaX];dsimp only[fh];rw[zz5,c];show(if 0<=((0:Nat):Int)/\((0:Nat):Int)<=(n:Int)/\(n:Int)<=((24:Nat):Int)/\24<di then some (Value.slice (some ⟨k,0+((0:Nat):Int).toNat*1,none⟩) ((n:Int)-((0:Nat):Int)).toNat (24-((0:Nat):Int).toNat))else none)=_;have a:24<di:=by unfold di;omega
 rw[if_pos ⟨by omega,by omega,by omega,a⟩];have d:((n:Int)-((0:Nat):Int)).toNat=n:=by omega
 have e:((0:Nat):Int).toNat=0:=rfl;rw[d,e]
theorem Mq{c:Nat}{cs:List Value}(e:h.get k=some (.cells cs i j b)){l:List UInt8}(d:(cs.drop n).take m=l.map sI)(a:l.length=m):A3 SS.P 172 9 (.slice (some ⟨k,n,none⟩) m c) h=some (strOf l):=by
 unfold A3 cG;dsimp only;rw[AA,show SS.P.underlying 9=some .string by kernel_rfl];dsimp only;rw[show SS.P.underlying 5=some (.int .u8) by kernel_rfl];dsimp only;rw[e];dsimp only;rw[d,if_pos (by rw[lM];exact a),pz];rfl
theorem IW(p:n<1000000000){h:ae}(t:nz h)(w:Wf h):FW SS 207 [.int .u64 (n:Int),.int .i64 10] h (λv q=>v=strOf (ag n)/\Ok h q):=by
 refine IV _ h _ (aa (λ_=>?_) (λg=>by simp at g));refine aa (λg=>?_) (λg=>?_)
 ·have g:=dT g;rw[aB (by omega) (by omega)];refine(Ux (by omega) h).mono ?_;rintro _ _ ⟨rfl,rfl⟩;exact⟨_,rfl,rfl,Ok.refl w⟩
 ·have g:=dF g;have b:=(Ok.refl w).push Q1;refine⟨_,aaW,(G3 (by omega) p (t.ok b)).mono ?_⟩;rintro _ y ⟨r,d,rfl,u,i,c⟩;subst r;have l:(h.push Q1).get h.next=some (.cells (List.replicate 24 (.int .u8 0)) 219 0 true):=by rw[ae.br,if_pos rfl];rfl
  refine⟨_,rfl,_,_,_,EO l (n:=d+1) (by omega),?_⟩;have f:FB (h.push Q1) h.next (d+1) n (d+1) n (h.push Q1):=⟨⟨_,l,by simp,by simp[Num.wid]⟩,by simp,c,Nat.le_refl _,by omega,Ih.refl b.wf⟩
  refine(Su f).mono ?_;rintro _ s ⟨rfl,x,a⟩;obtain⟨cs,m,z,k⟩:=a.blk;rw[drop_zero,Nat.sub_zero]at k;refine⟨rfl,_,_,_,EO m (n:=d+1) (by omega),ag n,Mq m ?_ ?_,rfl,?_⟩
  ·rw[drop_zero,k,yE c (.inr i)]
  ·rw[<-yE c (.inr i),yG]
  ·refine⟨a.ok.wf,λj B o=>a.ok.kA j B (λe=>by have:=w _ _ o;omega) (b.ext _ _ o),Nat.le_trans b.nx a.ok.nx⟩
theorem Le(a:n<1000000000){h:ae}(t:nz h)(w:Wf h):FW SS 197 [.int .u64 (n:Int),.int .i64 10] h (λv b=>v=strOf (ag n)/\Ok h b):=by
 refine Ld _ h _ ((IW a t w).mono ?_);rintro _ c ⟨rfl,o⟩;exact⟨_,rfl,rfl,o⟩
noncomputable def ri:FD:=cF Tryz.f208 []
theorem D9(p:Addr)(h:ae)(Q:VH)(m:fP 201 (.pointer (some p)) 0 λl=>xO (aj SS.P 199 h (.pointer (some l))) λk=>xB (ax SS.P .eql 199 (.pointer k) (.pointer none)) λj=>au j (xG (dQ SS.P je (ev SS.gl (uN [(.pointer (some p)),undef,(.pointer (some p)),(.pointer (some p)),(.pointer (some l)),(.pointer k),(.bool j),(.pointer (some p)),(.pointer (some p))] 11)) (JM (fB [1,0] ri.body) 2) h) h λh _ i=>FW SS 222 [h] i λf g=>yV f λe=>xG (dQ SS.P je (ev SS.gl (uN [(.pointer (some p)),undef,(.pointer (some p)),(.pointer (some p)),(.pointer (some l)),(.pointer k),(.bool j),(.pointer (some p)),(.pointer (some p)),h,e] 9)) (JM (fB [1,0] ri.body) 4) g) g λc _ d=>fP 201 (.pointer (some p)) 0 λb=>xU (ah SS.P 199 (.pointer (some b)) c d) d λ_ a=>Q (.tuple ⟨[]⟩) a) (fP 201 (.pointer (some p)) 0 λc=>xO (aj SS.P 199 h (.pointer (some c))) λb=>xB (ax SS.P .neq 199 (.pointer b) (.pointer (some p))) λa=>au a (False) (Q (.tuple ⟨[]⟩) h))):FW SS 208 [(.pointer (some p))] h Q:=cJ ri Tryz.func208 (ai m)
noncomputable def RS:FD:=cF Tryz.f198 []
theorem Oq(p:Addr)(l:LB)(h:ae)(Q:VH)(n:FW SS 208 [(.pointer (some p))] h λk m=>k=(.tuple ⟨[]⟩)/\fP 201 (.pointer (some p)) 1 λj=>lL 172 m j λg h i=>xE (bF SS.P 172 9 (.slice g h i) (strOf l) m) m λc d e _ f=>fP 201 (.pointer (some p)) 1 λb=>xU (ah SS.P 172 (.pointer (some b)) (.slice c d e) f) f λ_ a=>Q (.tuple ⟨[(.int .i64 ((l:LB).length:Int)),.nilIface]⟩) a):FW SS 198 [(.pointer (some p)),(strOf l)] h Q:=cJ RS Tryz.func198 (ai n)
noncomputable def yT:FD:=cF Tryz.f200 []
theorem K0(p:Addr)(h:ae)(Q:VH)(n:fP 201 (.pointer (some p)) 1 λm=>lL 172 (room h 12) m λj k l=>xG (dQ SS.P je (ev SS.gl (uN [(.pointer (some p)),undef,(strOf []),(.pointer (some p)),(.pointer (some p)),(.pointer (some m)),(.slice j k l)] 7)) (JM (fB [1,0] yT.body) 4) (room h 12)) (room h 12) λg _ i=>fP 201 (.pointer (some p)) 1 λf=>lL 172 i f λc d e=>xG (dQ SS.P je (ev SS.gl [(.pointer (some p)),undef,(strOf []),(.pointer (some p)),(.pointer (some p)),(.pointer (some m)),(.slice j k l),g,(.pointer (some p)),(.pointer (some p)),(.pointer (some f)),(.slice c d e),(iA d),undef]) (JM (fB [1,0] yT.body) 10) i) i λa _ b=>(aj SS.P 172 (room h 12) (.pointer (some f))=some (.slice c d e)/\dA 4 (.slice c d e) (.slice c d e)=true)/\(S5 SS.P 172 (.slice c d e) (room h 12)=some (iA d)/\dA 4 (iA d) (iA d)=true)/\Q a b):FW SS 200 [(.pointer (some p))] h Q:=cJ yT Tryz.func200 (ai n)
variable{T:TypeId}{v:Value}{c:List Value}{s:List UInt8}{t:List UInt8}
theorem vu:SS.P.underlying 199=some (.pointer 201):=by kernel_rfl
theorem AF:SS.P.underlying 223=some .unsafePointer:=by kernel_rfl
theorem U0:aE SS.P 201=some 2:=by kernel_rfl
theorem Ws{ρ:Operand->Value}{o:Oper}{x:Operand}(q:o.op = .convert 199 223 x){h:ae}{k:Nat}{a b:Value}{m:Bool}(g:ρ x = .pointer (some ⟨k,0,none⟩))(p:h.get k=some (.cells [a,b] 201 0 m)):dQ SS.P je ρ o h=some (.pointer (some ⟨k,0,none⟩),.no):=by
 obtain⟨f,s,i,e,d,c⟩:=o;subst q;unfold dQ;have l:dj SS.P ρ ⟨f,.convert 199 223 x,i,e,d,c⟩=none:=by
  show gJ SS.P 199 223 (ρ x)=none;rw[g];unfold gJ;rw[vu,AF]
 have n:cG SS.P ρ ⟨f,.convert 199 223 x,i,e,d,c⟩ h=none:=by
  unfold cG;dsimp only;rw[vu,AF,g]
 have j:bU SS.P ρ ⟨f,.convert 199 223 x,i,e,d,c⟩=none:=by
  unfold bU;dsimp only;rw[vu,AF,g]
 rw[l];dsimp only;rw[n];dsimp only;rw[j];dsimp only;unfold ga;dsimp only;rw[vu,AF,g];show(match h.get k with|some (.cells cs r 0 _)=>if 201=r/\aE SS.P 201=some cs.length/\0<cs.length then some (Value.pointer (some ⟨k,0,none⟩),dJ.no)else none|_=>none)=_;rw[p];show(if 201=201/\aE SS.P 201=some [a,b].length/\0<[a,b].length then some (Value.pointer (some ⟨k,0,none⟩),dJ.no)else none)=_;rw[if_pos ⟨rfl,U0,by simp⟩]
theorem OD{ρ:Operand->Value}{o:Oper}{x:Operand}(q:o.op = .convert 223 199 x){h:ae}{k:Nat}{a b:Value}{m:Bool}(g:ρ x = .pointer (some ⟨k,0,none⟩))(p:h.get k=some (.cells [a,b] 201 0 m)):dQ SS.P je ρ o h=some (.pointer (some ⟨k,0,none⟩),.no):=by
 obtain⟨f,s,i,e,d,c⟩:=o;subst q;unfold dQ;have l:dj SS.P ρ ⟨f,.convert 223 199 x,i,e,d,c⟩=none:=by
  show gJ SS.P 223 199 (ρ x)=none;rw[g];unfold gJ;rw[vu,AF]
 have n:cG SS.P ρ ⟨f,.convert 223 199 x,i,e,d,c⟩ h=none:=by
  unfold cG;dsimp only;rw[vu,AF,g]
 have j:bU SS.P ρ ⟨f,.convert 223 199 x,i,e,d,c⟩=none:=by
  unfold bU;dsimp only;rw[vu,AF,g]
 rw[l];dsimp only;rw[n];dsimp only;rw[j];dsimp only;unfold ga;dsimp only;rw[vu,AF,g];show(match h.get k with|some (.cells cs r 0 _)=>if 201=r/\aE SS.P 201=some cs.length/\0<cs.length then some (Value.pointer (some ⟨k,0,none⟩),dJ.no)else none|_=>none)=_;rw[p];show(if 201=201/\aE SS.P 201=some [a,b].length/\0<[a,b].length then some (Value.pointer (some ⟨k,0,none⟩),dJ.no)else none)=_;rw[if_pos ⟨rfl,U0,by simp⟩]
def self(k:Nat):Value:= .pointer (some ⟨k,0,none⟩)
theorem ZR(k:Nat):aD SS.P 201 (.pointer (some ⟨k,0,none⟩)) 0=some (.pointer (some ⟨k,0,none⟩)):=by kernel_rfl
theorem WJ(k:Nat):aD SS.P 201 (.pointer (some ⟨k,0,none⟩)) 1=some (.pointer (some ⟨k,1,none⟩)):=by kernel_rfl
theorem ld0{a b:Value}{c:Bool}(d:h.get k=some (.cells [a,b] 201 0 c)):aj SS.P 199 h (.pointer (some ⟨k,0,none⟩))=some a:=by
 unfold aj;rw[vu];dsimp only;rw[d];dsimp only;rw[show Go.Ab.isAgg SS.P 199=false by kernel_rfl];rfl
theorem ld1{a b:Value}{c:Bool}(d:h.get k=some (.cells [a,b] 201 0 c)):aj SS.P 172 h (.pointer (some ⟨k,1,none⟩))=some b:=by
 unfold aj;rw[AA];dsimp only;rw[d];dsimp only;rw[show Go.Ab.isAgg SS.P 172=false by kernel_rfl];rfl
theorem st0{a b x:Value}(d:h.get k=some (.cells [a,b] 201 0 true))(c:dI x=true)(e:x.cells = #[x]):ah SS.P 199 (.pointer (some ⟨k,0,none⟩)) x h=some (undef,.set k (.cells [x,b] 201 0 true)):=by
 show(if aE SS.P 199=some x.cells.size then(storeAt h k 0 x.cells.toList).map λu=>(undef,u)else none)=_;rw[e,show aE SS.P 199=some 1 by kernel_rfl,if_pos (show some 1=some #[x].size from rfl)];unfold storeAt;rw[d];dsimp only;rw[if_pos ⟨by simp,by simp[c]⟩];rfl
theorem st1{a b x:Value}(d:h.get k=some (.cells [a,b] 201 0 true))(c:dI x=true)(e:x.cells = #[x]):ah SS.P 172 (.pointer (some ⟨k,1,none⟩)) x h=some (undef,.set k (.cells [a,x] 201 0 true)):=by
 show(if aE SS.P 172=some x.cells.size then(storeAt h k 1 x.cells.toList).map λu=>(undef,u)else none)=_;rw[e,show aE SS.P 172=some 1 by kernel_rfl,if_pos (show some 1=some #[x].size from rfl)];unfold storeAt;rw[d];dsimp only;rw[if_pos ⟨by simp,by simp[c]⟩];rfl
theorem Gy{a b:Value}(c:h.get k=some (.cells [a,b] 201 0 true))(f:a = .pointer none\/a=self k):
  FW SS 208 [self k] h (λv d=>v = .tuple ⟨[]⟩/\d.get k=some (.cells [self k,b] 201 0 true)/\(∀j,j≠k->d.get j=h.get j)/\d.next=h.next):=by
 refine D9 ⟨k,0,none⟩ h _ ⟨_,ZR k,?_⟩;rcases f with rfl|rfl
 ·refine⟨_,ld0 c,true,by kernel_rfl,?_⟩;refine aa (λ_=>?_) (λg=>by cases g);refine⟨_,_,Ws (k:=k) (x:= .tmp 8) (by kernel_rfl) (by kernel_rfl) c,Bk (p:=qI) (v:=self k) (by kernel_rfl) (by kernel_rfl) (λ_=>rfl) ⟨_,rfl,_,_,OD (k:=k) (x:= .tmp 10) (by kernel_rfl) (by kernel_rfl) c,_,ZR k,_,st0 c rfl rfl,rfl,?_,?_,rfl⟩⟩
  ·show(h.set k _).get k=_;rw[ae.aw,if_pos rfl];rfl
  ·intro j i;show(h.set k _).get j=_;rw[ae.aw,if_neg i]
 ·refine⟨_,ld0 c,false,by kernel_rfl,?_⟩;refine aa (λg=>by cases g) (λ_=>?_);have e:ax SS.P .neq 199 (self k) (self k)=some (.bool false):=by
   show((rC SS.P 199 (.pointer (some ⟨k,0,none⟩)) (.pointer (some ⟨k,0,none⟩))).map λb=>Value.bool !b)=_;unfold rC;dsimp only;rw[vu];dsimp only;rw[if_pos ⟨rfl,by rw[U0];rfl⟩];rfl
  refine⟨_,ZR k,_,ld0 c,false,e,aa (λg=>by cases g) (λ_=>⟨rfl,c,λ_ _=>rfl,rfl⟩)⟩
def Bd(b h:ae)(k:Nat)(l:List UInt8):Prop:=∃a v,h.get k=some (.cells [a,v] 201 0 true)/\(a = .pointer none\/a=self k)/\AM b h 5 v (l.map sI)/\b.next<=k
theorem rw5:eN SS.P 5=some ((SS.P.info? 5).getD default):=by kernel_rfl
theorem adr:((SS.P.info? 5).getD default).size=1:=by kernel_rfl
theorem adq:((SS.P.info? 5).getD default).bytes=1:=by kernel_rfl
theorem tl9:dU SS.P 9=true:=by kernel_rfl
theorem aal(h:ae)(l:List UInt8):fI h 1 (strOf l)=some (l.map sI,(l.map sI).length):=by
 show(if 1=1 then some (l.map (λb=>Value.int .u8 b.toNat),l.length)else none)=_;rw[if_pos rfl,lM];rfl
theorem MX:∀l:List UInt8,(l.map sI).all dI=true
 |[]=>rfl
 |c::l=>by rw[List.map_cons,List.all_cons,MX l];rfl
theorem G8{i:ae}(o:AM g h T v c)(f:∀j B,h.get j=some B->(∃cs d,B = .cells cs T 1 d)->i.get j=some B):AM g i T v c:=by
 rcases o with o|⟨k,b,e,a⟩
 ·exact .inl o
 ·exact .inr ⟨k,b,e,f _ _ a ⟨_,_,rfl⟩⟩
theorem yW(u:Wf g)(p:Ok g h)(b:Bd g h k s)(T:s.length+t.length<=1000000):
  FW SS 198 [self k,strOf t] h (λv G=>v = .tuple ⟨[.int .i64 (t.length:Int),.nilIface]⟩/\Ok g G/\Bd g G k (s++t)):=by
 obtain⟨a,v,y,R,o,D⟩:=b;refine Oq ⟨k,0,none⟩ t h _ ((Gy y R).mono ?_);rintro _ C ⟨rfl,A,z,F⟩;have H:Ok g C:=by
  refine⟨λj B d=>?_,λj B d=>?_,by rw[F];exact p.nx⟩
  ·rw[F];by_cases e:j=k
   ·rw[e];exact p.wf _ _ y
   ·rw[z j e]at d;exact p.wf _ _ d
  ·have:=u _ _ d;rw[z j (by omega)];exact p.ext _ _ d
 have r:AM g C 5 v (s.map sI):=G8 o λj B d x=>by
  obtain⟨cs,P,rfl⟩:=x;by_cases e:j=k
  ·subst e;rw[y]at d;injection d with d;injection d;omega
  ·rw[z j e];exact d
 have M:∃a n c,v = .slice a n c:=by
  rcases r with⟨rfl,_⟩|⟨_,rfl,_⟩<;>exact⟨_,_,_,rfl⟩
 obtain⟨Q,L,S,rfl⟩:=M;obtain⟨I,K,E,f,N,J,q,w⟩:=r.acJ AA rw5 adr tl9 u H (aal C t) (MX t) (by rw[adq,lM,lM];omega) (by rw[lM,lM];omega);have l:(f.app C).get k=some (.cells [self k,.slice Q L S] 201 0 true):=w k _ A (by
  intro o n c e;rcases r with⟨i,_⟩|⟨O,i,_,m⟩
  ·rw[i]at e;cases e
  ·rw[i]at e;injection e with e
   injection e with e
   injection e with e
   subst e;rw[A]at m;injection m with m;injection m;omega)
 refine⟨rfl,_,WJ k,_,_,_,ld1 A,I,K,E,f,N,_,WJ k,_,st1 l ?_ ?_,rfl,?_,?_⟩
 ·rcases J with⟨i,_⟩|⟨O,i,_,m⟩<;>rw[i]<;>rfl
 ·rfl
 ·exact q.set _ D (q.wf _ _ l) u
 ·refine⟨self k,.slice I K E,?_,.inr rfl,?_,D⟩
  ·show((f.app C).set k _).get k=_;rw[ae.aw,if_pos rfl]
  ·rw[map_append];refine G8 J λj B d x=>?_;obtain⟨cs,P,rfl⟩:=x;show((f.app C).set k _).get j=_;rw[ae.aw,if_neg]
   ·exact d
   intro e;subst e;rw[l]at d;injection d with d;injection d;omega
theorem ab2{ρ:Operand->Value}{o:Oper}{x:Operand}{ts:Array TypeId}(f:o.op = .call ⟨.builtin .unsafeSliceData,#[x],ts⟩){h:ae}{a:Addr}{n c:Nat}(e:ρ x = .slice (some a) n c)(g:0<bN c):dQ SS.P je ρ o h=some (.pointer (some a),.no):=by
 obtain⟨j,l,k,i,d,b⟩:=o;subst f;show(match [x].map ρ with
  |[.slice none _ _]=>some (Value.pointer none,dJ.no)
  |[.slice (some a) _ c]=>if 0<bN c then some (Value.pointer (some a),dJ.no)else none
  |_=>none)=_
 rw[List.map_cons,List.map_nil,e];show(if 0<bN c then some (Value.pointer (some a),dJ.no)else none)=_;rw[if_pos g]
theorem acg:SS.P.underlying 217=some (.pointer 5):=by kernel_rfl
theorem XS{ρ:Operand->Value}{o:Oper}{x y:Operand}{t2:TypeId}(j:o.op = .call ⟨.builtin .unsafeString,#[x,y],#[217,t2]⟩){h:ae}{k:Nat}{l:List UInt8}(d:ρ x = .pointer (some ⟨k,0,none⟩))(q:ρ y = .int .i64 (l.length:Int))(g:h.get k=some (.cells (l.map sI) 5 1 true))(m:l≠[])(u:l.length<9223372036854775807):dQ SS.P je ρ o h=some (strOf l,.set k (.cells (l.map sI) 5 1 false)):=by
 obtain⟨s,v,t,r,c,b⟩:=o;subst j;show(match [x,y].map ρ,(#[217,t2]:Array TypeId)[0]? with
  |[.pointer none,.int _ 0],some _=>some (strOf [],dJ.no)
  | [.pointer (some ⟨k,i,none⟩),.int _ n],some p=>(match h.get k,SS.P.underlying p with
   | some (.cells cs e 1 true),some (.pointer a)=>
    if e=a/\aE SS.P e=some 1/\0<n/\n<9223372036854775807/\((cs.drop i).take n.toNat).length=n.toNat then
     (match bytesOf ((cs.drop i).take n.toNat)with
     |some l=>some (strOf l,dJ.set k (.cells cs e 1 false))
     |none=>none)
    else none
   |_,_=>none)
  |_,_=>none)=_
 rw[List.map_cons,List.map_cons,List.map_nil,d,q];show(match h.get k,SS.P.underlying 217 with
   | some (.cells cs e 1 true),some (.pointer a)=>
    if e=a/\aE SS.P e=some 1/\0<(l.length:Int)/\(l.length:Int)<9223372036854775807/\((cs.drop 0).take (l.length:Int).toNat).length=(l.length:Int).toNat then
     (match bytesOf ((cs.drop 0).take (l.length:Int).toNat)with
     |some l=>some (strOf l,dJ.set k (.cells cs e 1 false))
     |none=>none)
    else none
   |_,_=>none)=_
 rw[g,acg];have w:=List.length_pos_iff.2 m;show(if 5=5/\aE SS.P 5=some 1/\0<(l.length:Int)/\(l.length:Int)<9223372036854775807/\(((l.map sI).drop 0).take (l.length:Int).toNat).length=(l.length:Int).toNat then
     (match bytesOf (((l.map sI).drop 0).take (l.length:Int).toNat)with
     |some f=>some (strOf f,dJ.set k (.cells (l.map sI) 5 1 false))
     |none=>none)
    else none)=_
 rw[toNat_natCast,drop_zero,take_of_length_le (by simp),if_pos ⟨rfl,zz5,by omega,by omega,by simp⟩,pz]
theorem K1(l:Wf g)(j:Ok g h)(b:Bd g h k s)(e:s≠[])(z:s.length<=1000000):
  FW SS 200 [self k] h (λv q=>v=strOf s/\Ok g q):=by
 obtain⟨a,v,r,A,o,w⟩:=b;rcases o with⟨_,m⟩|⟨f,rfl,p,i⟩
 ·exact absurd (List.map_eq_nil_iff.1 m) e
 have d:(room h 12).get k=_:=r;have t:=List.length_pos_iff.2 e;have u:bN (di+(s.map sI).length)=s.length:=by unfold bN;rw[if_pos (by omega),lM];omega
 rw[lM]at*;refine K0 ⟨k,0,none⟩ h _ ⟨_,WJ k,_,_,_,ld1 d,_,_,ab2 (x:= .tmp 6) (ts:= #[172]) (a:=⟨f,0,none⟩) (n:=s.length) (c:=di+s.length) (by kernel_rfl) (by kernel_rfl) (by rw[u];exact t),_,WJ k,_,_,_,ld1 d,_,_,XS (x:= .tmp 7) (y:= .tmp 12) (k:=f) (l:=s) (t2:=3) (by kernel_rfl) (by kernel_rfl) (by kernel_rfl) i e (by omega),⟨ld1 d,by simp[dA]⟩,⟨rfl,by simp[dA]⟩,rfl,?_⟩;exact(j.room 12).set _ p ((j.room 12).wf _ _ i) l
theorem adb(m:Nat)(h:ae):bV SS.P SS.gl SS.pr (m+8) 199 [strOf [48],.int .i64 0] h=some (strOf [],h):=by kernel_rfl
theorem ade(m:Nat)(h:ae):bV SS.P SS.gl SS.pr (m+8) 199 [strOf [48],.int .i64 1] h=some (strOf [48],h):=by kernel_rfl
theorem adf(m:Nat)(h:ae):bV SS.P SS.gl SS.pr (m+8) 199 [strOf [48],.int .i64 2] h=some (strOf [48,48],h):=by kernel_rfl
theorem adg(m:Nat)(h:ae):bV SS.P SS.gl SS.pr (m+8) 199 [strOf [48],.int .i64 3] h=some (strOf [48,48,48],h):=by kernel_rfl
theorem adh(m:Nat)(h:ae):bV SS.P SS.gl SS.pr (m+8) 199 [strOf [48],.int .i64 4] h=some (strOf [48,48,48,48],h):=by kernel_rfl
theorem adi(m:Nat)(h:ae):bV SS.P SS.gl SS.pr (m+8) 199 [strOf [48],.int .i64 5] h=some (strOf [48,48,48,48,48],h):=by kernel_rfl
theorem adj(m:Nat)(h:ae):bV SS.P SS.gl SS.pr (m+8) 199 [strOf [48],.int .i64 6] h=some (strOf [48,48,48,48,48,48],h):=by kernel_rfl
theorem adk(m:Nat)(h:ae):bV SS.P SS.gl SS.pr (m+8) 199 [strOf [48],.int .i64 7] h=some (strOf [48,48,48,48,48,48,48],h):=by kernel_rfl
theorem adl(m:Nat)(h:ae):bV SS.P SS.gl SS.pr (m+8) 199 [strOf [48],.int .i64 8] h=some (strOf [48,48,48,48,48,48,48,48],h):=by kernel_rfl
theorem Qi(d:n<=8)(h:ae):FW SS 199 [strOf [48],.int .i64 (n:Int)] h (λv b=>v=strOf (List.replicate n 48)/\b=h):=by
 have a:∀(z:Int)(l:List UInt8),(∀m,bV SS.P SS.gl SS.pr (m+8) 199 [strOf [48],.int .i64 z] h=some (strOf l,h))->FW SS 199 [strOf [48],.int .i64 z] h (λv b=>v=strOf l/\b=h):=λz l c=>
  ⟨_,_,⟨8,λN e=>by obtain⟨m,rfl⟩:∃m,N=m+8:=⟨N-8,by omega⟩;exact c m⟩,rfl,rfl⟩
 have:n=0\/n=1\/n=2\/n=3\/n=4\/n=5\/n=6\/n=7\/n=8:=by omega
 rcases this with rfl|rfl|rfl|rfl|rfl|rfl|rfl|rfl|rfl
 ·exact a 0 _ λm=>adb m h
 ·exact a 1 _ λm=>ade m h
 ·exact a 2 _ λm=>adf m h
 ·exact a 3 _ λm=>adg m h
 ·exact a 4 _ λm=>adh m h
 ·exact a 5 _ λm=>adi m h
 ·exact a 6 _ λm=>adj m h
 ·exact a 7 _ λm=>adk m h
 ·exact a 8 _ λm=>adl m h
noncomputable def mn:FD:=cF Tryz.f187 [([1,1,1,0,1,0,0],[0,3,10,11])]
abbrev kP(a:OA)(n c:Nat)(p:Addr)(b:Int)(i:Nat):LV:=[(.slice a n c),(.pointer (some p)),(.int .i64 b),(iA i)]
theorem Lu(a:OA)(n c:Nat)(h:ae)(Q:VH)(d:au ((((n:Int):Int)==0)) (Q (strOf [48]) h) (xN (bq SS.P 201) h λ_ b=>LL SS mn [1,1,1,0,1,0,0] [(.slice a n c),(pA (h.next)),(iA n),(.int .i64 0)] b (KK SS mn [1,1,1,0,1,0] [] (EE SS mn Q)))):FW SS 187 [(.slice a n c)] h Q:=cJ mn Tryz.func187 (ai d)
theorem vQ(a:OA)(n c:Nat)(p:Addr)(v:Int)(w:Nat->Nat->ae->Prop)(Q:VH)(step:∀(x:Nat) (i:Nat) (z:Nat->Value) (h:ae),w x i h->au (decide (((i:Int):Int)<v)) (xP (aA SS.P 177 (.slice a n c) (.int .i64 (wrap .i64 (wrap .i64 ((n:Int)-1)-(i:Int))))) λu=>xI .u64 (aj SS.P 150 h (.pointer (some u))) λt=>FW SS 197 [(.int .u64 t),(.int .i64 10)] h λr s=>yS r λq=>au (decide (((i:Int):Int)>0)) (FW SS 199 [(strOf [48]),(.int .i64 (wrap .i64 (9-((q:LB).length:Int))))] s λm o=>yS m λl=>FW SS 198 [(.pointer (some p)),(strOf l)] o λj k=>∃h:Int,∃g:Value,j=(.tuple ⟨[(.int .i64 h),g]⟩)/\FW SS 198 [(.pointer (some p)),(strOf q)] k λe f=>∃d:Int,∃b:Value,e=(.tuple ⟨[(.int .i64 d),b]⟩)/\aJ (fj (kP a n c p v) w) x [(.slice a n c),(.pointer (some p)),(.int .i64 v),(.int .i64 (wrap .i64 ((i:Int)+1)))] f) (FW SS 198 [(.pointer (some p)),(strOf q)] s λe f=>∃d:Int,∃b:Value,e=(.tuple ⟨[(.int .i64 d),b]⟩)/\aJ (fj (kP a n c p v) w) x [(.slice a n c),(.pointer (some p)),(.int .i64 v),(.int .i64 (wrap .i64 ((i:Int)+1)))] f)) (FW SS 200 [(.pointer (some p))] h λb c=>yS b λa=>Q (strOf a) c))(x:Nat){i:Nat}{h:ae}(y:w x i h):LL SS mn [1,1,1,0,1,0,0] (kP a n c p v i) h (KK SS mn [1,1,1,0,1,0] [] (EE SS mn Q)):=
 db (kP a n c p v) w (λx i z h y=>ai (step x i z h y)) x y
noncomputable def oT:FD:=cF Tryz.f175 [([1,1,1,0,0,0],[6,7])]
abbrev lN  (a:OA) (n c:Nat) (b:OA) (k d:Nat):LV:=[(.slice a n c),(.slice b k d)]
theorem Pf(l m:LB)(h:ae)(Q:VH)(s:FW SS 171 [(strOf l)] h λq r=>yB q λp=>au (!p) (Q (.tuple ⟨[(strOf []),(.int .i64 1)]⟩) r) (FW SS 171 [(strOf m)] r λn o=>yB n λk=>au (!k) (Q (.tuple ⟨[(strOf []),(.int .i64 1)]⟩) o) (FW SS 172 [(strOf l)] o λi j=>yL i λf g h=>FW SS 172 [(strOf m)] j λd e=>yL d λa b c=>LL SS oT [1,1,1,0,0,0] (lN f g h a b c) e (KK SS oT [1,1,1,0,0] [] (EE SS oT Q))))):FW SS 175 [(strOf l),(strOf m)] h Q:=cJ oT Tryz.func175 (ai s)
theorem xh(l m:LB)  (f:Nat->OA->Nat->Nat->OA->Nat->Nat->ae->Prop) (Q:VH) (step:∀(e:Nat)(a:OA)(n c:Nat)(b:OA)(k d:Nat)(q:Nat->Value)(h:ae),f e a n c b k d h->au (decide (((k:Int):Int)>0)) (FW SS 189 [(.slice a n c),(.slice b k d)] h λa c=>∃(r:OA)(s p:Nat),∃(g:OA)(i j:Nat),a=(.tuple ⟨[(.slice r s p),(.slice g i j)]⟩)/\aJ (LA6 lN f) e [(.slice b k d),(.slice g i j)] c) (FW SS 187 [(.slice a n c)] h λb c=>yS b λa=>Q (.tuple ⟨[(strOf a),(.int .i64 0)]⟩) c)) (e:Nat) {a:OA} {n c:Nat} {b:OA} {k d:Nat} {h:ae} (o:f e a n c b k d h):LL SS oT [1,1,1,0,0,0] (lN  a n c b k d) h (KK SS oT [1,1,1,0,0] [] (EE SS oT Q)):=
 ab1 lN f (λe a n c b k d q h o=>ai (step e a n c b k d q h o)) e o
noncomputable def aaG:dN:= .cells [.pointer none,.slice none 0 0] 201 0 true
theorem aaV:bq SS.P 201=some (aaG,kZ):=by kernel_rfl
theorem abo{l:ae}(b:Bd g h k s)(o:Ok h l):Bd g l k s:=by
 obtain⟨a,v,d,e,c,f⟩:=b;exact⟨a,v,o.ext _ _ d,e,G8 c λj B i _=>o.ext _ _ i,f⟩
theorem oU{c:Nat}(A:Rd h 150 (.slice a n c) (bl m))(S:(aW BB m).length<=10000)(t:nz h)(w:Wf h):
  FW SS 187 [.slice a n c] h (λv D=>v=strOf (ag m)/\Ok h D):=by
 have y:n=(aW BB m).length:=by have:=A.len;rwa[lM]at this
 refine Lu a n c h _ (aa (λg=>?_) (λg=>?_))
 ·have g:(n:Int)=0:=by simpa using g
  have Y:(aW BB m).length=0:=by omega
  have:m=0:=by have:=(hO gA).1 (List.eq_nil_of_length_eq_zero Y);omega
  subst this;refine⟨?_,Ok.refl w⟩;rw[dx (by omega)];rfl
 ·have g:¬(n:Int)=0:=by simpa using g
  have W:0<m:=by
   rcases Nat.eq_zero_or_pos m with h|h
   ·subst h;rw[(hO gA).2 rfl]at y;simp at y;omega
   ·exact h
  have F:=EK gA W;have I:=dh gA m;have M:=cg gA m;have A:Rd h 150 (.slice a n c) ((aW BB m).map uv):=A;generalize hx:aW BB m=x at*;have L:=vQ a n c ⟨h.next,0,none⟩ (n:Int) (λK i g=>i<=n/\K=n-i/\Ok h g/\∃l,Bd h g h.next l/\l.length<=9*i/\(i=0->l=[])/\(0<i->0<Num.bv BB (x.drop (n-i))/\l=ag (Num.bv BB (x.drop (n-i))))) (λv D=>v=strOf (ag m)/\Ok h D) (by
   intro K i;intros;rename_i g X;obtain⟨h1,rfl,s,l,O,x2,Z,Q⟩:=X;refine aa (λq=>?_) (λq=>?_)
   ·have q:=dT q;have T:wrap .i64 (wrap .i64 ((n:Int)-1)-(i:Int))=((n-1-i:Nat):Int):=by
     rw[aB (n:=(n:Int)-1) (by omega) (by omega),aB (by omega) (by omega)];omega
    obtain⟨p,e2,P⟩:=EP (A.ok s) (i:=((n-1-i:Nat):Int)) (by omega) (by rw[<-y];omega);rw[T];rw[toNat_natCast]at P;have R:x.getD (n-1-i) 0<BB:=aZ (by decide) I _;have f:Num.bv BB (x.drop (n-1-i))=x.getD (n-1-i) 0+BB*Num.bv BB (x.drop (n-i)):=by
     rw[fS,show n-1-i+1=n-i by omega]
    have e5:wrap .i64 ((i:Int)+1)=((i+1:Nat):Int):=by rw[aB (by omega) (by omega)];omega
    rw[e5];have u:i=0->0<x.getD (n-1-i) 0:=λe=>by subst e;rw[y];exact F
    generalize x.getD (n-1-i) 0=b at*;have o:b<1000000000:=R;have x1:=D2 o;refine⟨p,e2,_,P,(Le o (t.ok s) s.wf).mono ?_⟩;rintro _ h5 ⟨rfl,j⟩;have C:=abo O j;have j:=s.trans j;refine⟨_,rfl,aa (λr=>?_) (λr=>?_)⟩
    ·have r:=dT r;obtain⟨H,z⟩:=Q (by omega);have V:wrap .i64 (9-((ag b).length:Int))=((9-(ag b).length:Nat):Int):=by rw[aB (by omega) (by omega)];omega
     rw[V];have U:=nq b;refine(Qi (by omega) h5).mono ?_;rintro _ h8 ⟨rfl,rfl⟩;refine⟨_,rfl,(yW w j C (by rw[length_replicate];omega)).mono ?_⟩;rintro _ x0 ⟨rfl,E,G⟩;refine⟨_,_,rfl,(yW w E G (by rw[length_append,length_replicate];omega)).mono ?_⟩;rintro _ B ⟨rfl,d,k⟩;refine⟨_,_,rfl,bW (n-(i+1)) (by omega) ⟨by omega,rfl,d,_,k,?_,λh=>by omega,λ_=>?_⟩⟩
     ·rw[length_append,length_append,length_replicate];omega
     ·rw[show n-(i+1)=n-1-i by omega,f];refine⟨Nat.add_pos_right _ (mul_pos (by decide) H),?_⟩;have:=D1 H o;rw[z];exact this.symm
    ·have r:=dF r;obtain rfl:i=0:=by omega
     obtain rfl:=Z rfl;refine(yW w j C (by rw[List.length_nil];omega)).mono ?_;rintro _ B ⟨rfl,d,k⟩;refine⟨_,_,rfl,bW (n-1) (by omega) ⟨by omega,rfl,d,_,k,?_,λh=>by omega,λ_=>?_⟩⟩
     ·rw[nil_append];omega
     ·have N:Num.bv BB (x.drop n)=0:=by rw[List.drop_of_length_le (by omega)];rfl
      rw[show n-1-0=n-1 by omega,show n-0=n by omega,N,Nat.mul_zero,Nat.add_zero]at f;rw[Nat.zero_add,f,nil_append];refine⟨?_,rfl⟩;exact u rfl
   ·have q:=dF q;obtain rfl:i=n:=by omega
    obtain⟨H,z⟩:=Q (by omega);rw[Nat.sub_self,drop_zero,M]at z;subst z;refine(K1 w s O (qZ m) (by omega)).mono ?_;rintro _ B ⟨rfl,d⟩;exact⟨_,rfl,rfl,d⟩)
  have J:=(Ok.refl w).push aaG;refine⟨_,aaV,L n (i:=0) ⟨by omega,rfl,J,[],⟨_,_,?_,.inl rfl,.inl ⟨rfl,rfl⟩,Nat.le_refl _⟩,by simp,λ_=>rfl,λh=>by omega⟩⟩;rw[ae.br,if_pos rfl];rfl
theorem Z9(h:k<=9*m):10^k<=BB^m:=by
 show 10^k<=(10^9)^m;rw[<-Nat.pow_mul];exact pow_le_pow_right (by decide) h
theorem hH(h:n<10^1000):(aW BB n).length<=112:=by
 refine lF gA (lt_of_lt_of_le h (Z9 (k:=1000) (m:=112) (by decide)))
def GF(h:ae)(X Y:Nat)(e:Nat)(a:Option Addr)(n c:Nat)(b:Option Addr)(k d:Nat)(g:ae):Prop:=∃p:Nat,Rd g 150 (.slice a n c) (bl p)/\Rd g 150 (.slice b k d) (bl e)/\(aW BB p).length<=112/\(aW BB e).length<=112/\Nat.gcd p e=Nat.gcd X Y/\Ok h g
theorem Sz{c:Nat}{b:Option Addr}(t:nz h)(N:GF h n m i a j c b k l g){K:Nat->Option Addr->Nat->Nat->Option Addr->Nat->Nat->ae->Prop}{Q:VH}
  (J:∀(u:Option Addr)(r s:Nat)(f:Option Addr)(d q x:Nat)(g:ae),x<i->GF h n m x b k l f d q g->K x u r s f d q g):
  (0<k->FW SS 189 [.slice a j c,.slice b k l] g (λv C=>∃(u:Option Addr)(r s:Nat)(f:Option Addr)(d q x:Nat),v = .tuple ⟨[.slice u r s,.slice f d q]⟩/\K x u r s f d q C))/\
  (k=0->FW SS 187 [.slice a j c] g (λv C=>v=strOf (ag (Nat.gcd n m))/\Ok h C)):=by
 obtain⟨p,G,A,F,B,E,w⟩:=N;have D:k=(aW BB i).length:=by have:=A.len;rwa[lM]at this
 constructor
 ·intro y;have o:0<i:=by
   rcases Nat.eq_zero_or_pos i with e|e
   ·subst e;rw[(hO gA).2 rfl]at D;simp at D;omega
   ·exact e
  refine(xg G A o (Nat.le_trans F (by omega)) (Nat.le_trans B (by omega)) w.wf).mono ?_;rintro _ I ⟨u,r,s,f,d,q,rfl,O,L,z⟩;refine⟨u,r,s,f,d,q,p%i,rfl,J u r s f d q (p%i) I (mod_lt _ o) ⟨i,A.ok z,L,B,?_,?_,w.trans z⟩⟩
  ·exact Nat.le_trans (Nat.le_of_not_lt λh=>by have M:=lG gA h;have y:=mod_lt p o;exact absurd M (Nat.not_lt.2 (le_of_lt y))) B
  ·rw[<-E,Nat.gcd_comm i,<-Nat.gcd_rec,Nat.gcd_comm]
 ·intro y;have o:i=0:=(hO gA).1 (List.eq_nil_of_length_eq_zero (by rw[<-D,y]));subst o;rw[Nat.gcd_zero_right]at E;subst E;refine(oU G (Nat.le_trans F (by omega)) (t.ok w) w.wf).mono ?_;rintro _ P ⟨rfl,H⟩;exact⟨rfl,w.trans H⟩
theorem Fi(a b:List UInt8){h:ae}(t:nz h)(w:Wf h):FW SS 175 [strOf a,strOf b] h (λv u=>v=AT a b/\Ok h u):=by
 refine Pf a b h _ ((dC a h).mono ?_);rintro _ A ⟨rfl,y⟩;obtain rfl:h=A:=y.symm;refine⟨_,rfl,aa (λg=>?_) (λg=>?_)⟩
 ·have g:Num.valid a=false:=by simpa using g
  refine⟨?_,Ok.refl w⟩;unfold AT;rw[if_neg (λe=>by rw[e.1]at g;cases g)];rfl
 have g:Num.valid a=true:=by simpa using g
 refine(dC b h).mono ?_;rintro _ A ⟨rfl,y⟩;obtain rfl:h=A:=y.symm;refine⟨_,rfl,aa (λf=>?_) (λf=>?_)⟩
 ·have f:Num.valid b=false:=by simpa using f
  refine⟨?_,Ok.refl w⟩;unfold AT;rw[if_neg (λe=>by rw[e.2]at f;cases f)];rfl
 have f:Num.valid b=true:=by simpa using f
 obtain⟨X,U,D,F⟩:=cn g;obtain⟨Y,V,C,I⟩:=cn f;have H:=(fV.1 g)
 have J:=(fV.1 f)
 have T:=hH D;have O:=hH C;clear D C;refine(rP a H.1.2.1 (Nat.le_trans H.2 (by omega)) h w).mono ?_;rintro _ s ⟨z,r,x,rfl,B,p⟩;refine⟨_,_,_,rfl,(rP b J.1.2.1 (Nat.le_trans J.2 (by omega)) s p.wf).mono ?_⟩;rintro _ i ⟨m,l,o,rfl,E,q⟩;refine⟨_,_,_,rfl,?_⟩;have R:AT a b=two (ag (Nat.gcd X Y)) 0:=by unfold AT;rw[if_pos ⟨g,f⟩,F,I]
 rw[R];rw[F]at B;rw[I]at E;refine xh a b (GF h X Y) (λv u=>v=two (ag (Nat.gcd X Y)) 0/\Ok h u) (λL a n c b k d=>?_) Y ⟨X,B.rd.ok q,E.rd,T,O,rfl,p.trans q⟩;intros;rename_i g P;have S:=Sz t P (K:=λj z r x m l o g=>j<L/\GF h X Y j b k d m l o g) (λz r x m l o j g s i=>⟨s,i⟩) (Q:=λ_ _=>True);refine aa (λi=>?_) (λi=>?_)
 ·have i:=dT i;refine(S.1 (by omega)).mono ?_;rintro _ W ⟨z,r,x,m,l,o,j,rfl,M,N⟩;exact⟨_,_,_,_,_,_,rfl,abF j M N⟩
 ·have i:=dF i;refine(S.2 (by omega)).mono ?_;rintro _ Z ⟨rfl,G⟩;exact⟨_,rfl,rfl,G⟩
noncomputable def Xk:FD:=cF Tryz.f194 []
theorem Ts(x y z:Int)(h:ae)(Q:VH)(c:xI .u64 (ax SS.P .rem 150 (.int .u64 (wrap .u64 (wrap .u64 (x+y)+z))) (.int .u64 1000000000)) λb=>xI .u64 (ax SS.P .quo 150 (.int .u64 (wrap .u64 (wrap .u64 (x+y)+z))) (.int .u64 1000000000)) λa=>Q (.tuple ⟨[(.int .u64 b),(.int .u64 a)]⟩) h):FW SS 194 [(.int .u64 x),(.int .u64 y),(.int .u64 z)] h Q:=cJ Xk Tryz.func194 (ai c)
noncomputable def Td:FD:=cF Tryz.f201 []
theorem O4(x y z:Int)(h:ae)(Q:VH)(c:xI .u64 (ax SS.P .rem 150 (.int .u64 (wrap .u64 (wrap .u64 (wrap .u64 (x+1000000000)-y)-z))) (.int .u64 1000000000)) λb=>xI .u64 (ax SS.P .quo 150 (.int .u64 (wrap .u64 (wrap .u64 (wrap .u64 (x+1000000000)-y)-z))) (.int .u64 1000000000)) λa=>Q (.tuple ⟨[(.int .u64 b),(.int .u64 (wrap .u64 (1-a)))]⟩) h):FW SS 201 [(.int .u64 x),(.int .u64 y),(.int .u64 z)] h Q:=cJ Td Tryz.func201 (ai c)
noncomputable def kX:FD:=cF Tryz.f193 [([1,1,1,0,1,0,0],[0,1,2,7,8,18,19])]
abbrev eH(a:OA)(n c:Nat)(b:OA)(m d:Nat)(e:Int)(i:Nat)(cy:Int)(r:OA)(f g:Nat):LV:=[(.slice a n c),(.slice b m d),(.func (.func 194) ⟨[]⟩ ⟨[]⟩),(.slice r f g),(.int .u64 cy),(.int .i64 e),(iA i)]
theorem IG(a:OA)(n c:Nat)(b:OA)(m d:Nat)(h:ae)(Q:VH)(f:xI .i64 (oS true [(iA n),(iA m)]) λe=>LL SS kX [1,1,1,0,1,0,0] (eH a n c b m d (wrap .i64 (e+1)) 0 0 none 0 0) h (KK SS kX [1,1,1,0,1,0] [] (EE SS kX Q))):FW SS 193 [(.slice a n c),(.slice b m d),(.func (.func 194) ⟨[]⟩ ⟨[]⟩)] h Q:=cJ kX Tryz.func193 (ai f)
theorem uH(a:OA)(n c:Nat)(b:OA)(m d:Nat)(x:Int)(y:Nat->Nat->Int->OA->Nat->Nat->ae->Prop)(Q:VH)(step:∀(B:Nat) (i:Nat) (cy:Int) (r:OA) (z A:Nat) (D:Nat->Value) (h:ae),y B i cy r z A h->au (decide (((i:Int):Int)<x)) (au (decide (((i:Int):Int)<(n:Int))) (iP 177 (.slice a n c) (iA i) λw=>xI .u64 (aj SS.P 150 h (.pointer (some w))) λv=>au (decide (((i:Int):Int)<(m:Int))) (iP 177 (.slice b m d) (iA i) λu=>xI .u64 (aj SS.P 150 h (.pointer (some u))) λt=>FW SS 194 [(.int .u64 v),(.int .u64 t),(.int .u64 cy)] h λq s=>∃p:Int,∃o:Int,q=(.tuple ⟨[(.int .u64 p),(.int .u64 o)]⟩)/\xR (aF SS.P 177 1 [(0,(.int .u64 p))]) s λ_ j k l=>xE (bF SS.P 177 177 (.slice r z A) (sA (s.next) j k) l) l λe f g _ h=>aJ (BF (eH a n c b m d x) y) B [(.slice a n c),(.slice b m d),(.func (.func 194) ⟨[]⟩ ⟨[]⟩),(.slice e f g),(.int .u64 o),(.int .i64 x),(.int .i64 (wrap .i64 ((i:Int)+1)))] h) (FW SS 194 [(.int .u64 v),(.int .u64 0),(.int .u64 cy)] h λq s=>∃p:Int,∃o:Int,q=(.tuple ⟨[(.int .u64 p),(.int .u64 o)]⟩)/\xR (aF SS.P 177 1 [(0,(.int .u64 p))]) s λ_ j k l=>xE (bF SS.P 177 177 (.slice r z A) (sA (s.next) j k) l) l λe f g _ h=>aJ (BF (eH a n c b m d x) y) B [(.slice a n c),(.slice b m d),(.func (.func 194) ⟨[]⟩ ⟨[]⟩),(.slice e f g),(.int .u64 o),(.int .i64 x),(.int .i64 (wrap .i64 ((i:Int)+1)))] h)) (au (decide (((i:Int):Int)<(m:Int))) (iP 177 (.slice b m d) (iA i) λu=>xI .u64 (aj SS.P 150 h (.pointer (some u))) λt=>FW SS 194 [(.int .u64 0),(.int .u64 t),(.int .u64 cy)] h λq s=>∃p:Int,∃o:Int,q=(.tuple ⟨[(.int .u64 p),(.int .u64 o)]⟩)/\xR (aF SS.P 177 1 [(0,(.int .u64 p))]) s λ_ j k l=>xE (bF SS.P 177 177 (.slice r z A) (sA (s.next) j k) l) l λe f g _ h=>aJ (BF (eH a n c b m d x) y) B [(.slice a n c),(.slice b m d),(.func (.func 194) ⟨[]⟩ ⟨[]⟩),(.slice e f g),(.int .u64 o),(.int .i64 x),(.int .i64 (wrap .i64 ((i:Int)+1)))] h) (FW SS 194 [(.int .u64 0),(.int .u64 0),(.int .u64 cy)] h λq s=>∃p:Int,∃o:Int,q=(.tuple ⟨[(.int .u64 p),(.int .u64 o)]⟩)/\xR (aF SS.P 177 1 [(0,(.int .u64 p))]) s λ_ j k l=>xE (bF SS.P 177 177 (.slice r z A) (sA (s.next) j k) l) l λe f g _ h=>aJ (BF (eH a n c b m d x) y) B [(.slice a n c),(.slice b m d),(.func (.func 194) ⟨[]⟩ ⟨[]⟩),(.slice e f g),(.int .u64 o),(.int .i64 x),(.int .i64 (wrap .i64 ((i:Int)+1)))] h))) (FW SS 174 [(.slice r z A)] h λd e=>yL d λa b c=>Q (.slice a b c) e))(B:Nat){i:Nat}{cy:Int}{r:OA}{z A:Nat}{h:ae}(C:y B i cy r z A h):LL SS kX [1,1,1,0,1,0,0] (eH a n c b m d x i cy r z A) h (KK SS kX [1,1,1,0,1,0] [] (EE SS kX Q)):=
 FE (eH a n c b m d x) y (λB i cy r z A D h C=>ai (step B i cy r z A D h C)) B C
noncomputable def jo:FD:=cF Tryz.f193 [([1,1,1,0,1,0,0],[0,1,2,7,8,18,19])]
abbrev eo(a:OA)(n c:Nat)(b:OA)(m d:Nat)(e:Int)(i:Nat)(cy:Int)(r:OA)(f g:Nat):LV:=[(.slice a n c),(.slice b m d),(.func (.func 201) ⟨[]⟩ ⟨[]⟩),(.slice r f g),(.int .u64 cy),(.int .i64 e),(iA i)]
theorem GB(a:OA)(n c:Nat)(b:OA)(m d:Nat)(h:ae)(Q:VH)(f:xI .i64 (oS true [(iA n),(iA m)]) λe=>LL SS jo [1,1,1,0,1,0,0] (eo a n c b m d (wrap .i64 (e+1)) 0 0 none 0 0) h (KK SS jo [1,1,1,0,1,0] [] (EE SS jo Q))):FW SS 193 [(.slice a n c),(.slice b m d),(.func (.func 201) ⟨[]⟩ ⟨[]⟩)] h Q:=cJ jo Tryz.func193 (ai f)
theorem ta(a:OA)(n c:Nat)(b:OA)(m d:Nat)(x:Int)(y:Nat->Nat->Int->OA->Nat->Nat->ae->Prop)(Q:VH)(step:∀(B:Nat) (i:Nat) (cy:Int) (r:OA) (z A:Nat) (D:Nat->Value) (h:ae),y B i cy r z A h->au (decide (((i:Int):Int)<x)) (au (decide (((i:Int):Int)<(n:Int))) (iP 177 (.slice a n c) (iA i) λw=>xI .u64 (aj SS.P 150 h (.pointer (some w))) λv=>au (decide (((i:Int):Int)<(m:Int))) (iP 177 (.slice b m d) (iA i) λu=>xI .u64 (aj SS.P 150 h (.pointer (some u))) λt=>FW SS 201 [(.int .u64 v),(.int .u64 t),(.int .u64 cy)] h λq s=>∃p:Int,∃o:Int,q=(.tuple ⟨[(.int .u64 p),(.int .u64 o)]⟩)/\xR (aF SS.P 177 1 [(0,(.int .u64 p))]) s λ_ j k l=>xE (bF SS.P 177 177 (.slice r z A) (sA (s.next) j k) l) l λe f g _ h=>aJ (BF (eo a n c b m d x) y) B [(.slice a n c),(.slice b m d),(.func (.func 201) ⟨[]⟩ ⟨[]⟩),(.slice e f g),(.int .u64 o),(.int .i64 x),(.int .i64 (wrap .i64 ((i:Int)+1)))] h) (FW SS 201 [(.int .u64 v),(.int .u64 0),(.int .u64 cy)] h λq s=>∃p:Int,∃o:Int,q=(.tuple ⟨[(.int .u64 p),(.int .u64 o)]⟩)/\xR (aF SS.P 177 1 [(0,(.int .u64 p))]) s λ_ j k l=>xE (bF SS.P 177 177 (.slice r z A) (sA (s.next) j k) l) l λe f g _ h=>aJ (BF (eo a n c b m d x) y) B [(.slice a n c),(.slice b m d),(.func (.func 201) ⟨[]⟩ ⟨[]⟩),(.slice e f g),(.int .u64 o),(.int .i64 x),(.int .i64 (wrap .i64 ((i:Int)+1)))] h)) (au (decide (((i:Int):Int)<(m:Int))) (iP 177 (.slice b m d) (iA i) λu=>xI .u64 (aj SS.P 150 h (.pointer (some u))) λt=>FW SS 201 [(.int .u64 0),(.int .u64 t),(.int .u64 cy)] h λq s=>∃p:Int,∃o:Int,q=(.tuple ⟨[(.int .u64 p),(.int .u64 o)]⟩)/\xR (aF SS.P 177 1 [(0,(.int .u64 p))]) s λ_ j k l=>xE (bF SS.P 177 177 (.slice r z A) (sA (s.next) j k) l) l λe f g _ h=>aJ (BF (eo a n c b m d x) y) B [(.slice a n c),(.slice b m d),(.func (.func 201) ⟨[]⟩ ⟨[]⟩),(.slice e f g),(.int .u64 o),(.int .i64 x),(.int .i64 (wrap .i64 ((i:Int)+1)))] h) (FW SS 201 [(.int .u64 0),(.int .u64 0),(.int .u64 cy)] h λq s=>∃p:Int,∃o:Int,q=(.tuple ⟨[(.int .u64 p),(.int .u64 o)]⟩)/\xR (aF SS.P 177 1 [(0,(.int .u64 p))]) s λ_ j k l=>xE (bF SS.P 177 177 (.slice r z A) (sA (s.next) j k) l) l λe f g _ h=>aJ (BF (eo a n c b m d x) y) B [(.slice a n c),(.slice b m d),(.func (.func 201) ⟨[]⟩ ⟨[]⟩),(.slice e f g),(.int .u64 o),(.int .i64 x),(.int .i64 (wrap .i64 ((i:Int)+1)))] h))) (FW SS 174 [(.slice r z A)] h λd e=>yL d λa b c=>Q (.slice a b c) e))(B:Nat){i:Nat}{cy:Int}{r:OA}{z A:Nat}{h:ae}(C:y B i cy r z A h):LL SS jo [1,1,1,0,1,0,0] (eo a n c b m d x i cy r z A) h (KK SS jo [1,1,1,0,1,0] [] (EE SS jo Q)):=
 FE (eo a n c b m d x) y (λB i cy r z A D h C=>ai (step B i cy r z A D h C)) B C
noncomputable def Ph:FD:=cF Tryz.f185 []
theorem Ls(a:OA)(n c:Nat)(b:OA)(m d:Nat)(h:ae)(Q:VH)(f:FW SS 193 [(.slice a n c),(.slice b m d),(.func (.func 194) ⟨[]⟩ ⟨[]⟩)] h λd e=>yL d λa b c=>Q (.slice a b c) e):FW SS 185 [(.slice a n c),(.slice b m d)] h Q:=cJ Ph Tryz.func185 (ai f)
noncomputable def Lr:FD:=cF Tryz.f188 []
theorem Jj(a:OA)(n c:Nat)(b:OA)(m d:Nat)(h:ae)(Q:VH)(f:FW SS 193 [(.slice a n c),(.slice b m d),(.func (.func 201) ⟨[]⟩ ⟨[]⟩)] h λd e=>yL d λa b c=>Q (.slice a b c) e):FW SS 188 [(.slice a n c),(.slice b m d)] h Q:=cJ Lr Tryz.func188 (ai f)
noncomputable def GX:FD:=cF Tryz.f173 []
theorem El(a:OA)(n c:Nat)(h:ae)(Q:VH)(d:FW SS 187 [(.slice a n c)] h λb c=>yS b λa=>au (decide ((((a:LB).length:Int):Int)>1000)) (Q (.tuple ⟨[(strOf []),(.int .i64 2)]⟩) c) (Q (.tuple ⟨[(strOf a),(.int .i64 0)]⟩) c)):FW SS 173 [(.slice a n c)] h Q:=cJ GX Tryz.func173 (ai d)
noncomputable def Tj:FD:=cF Tryz.f169 []
theorem Pb(l m:LB)(h:ae)(Q:VH)(u:FW SS 171 [(strOf l)] h λs t=>yB s λr=>au (!r) (Q (.int .i64 0) t) (FW SS 171 [(strOf m)] t λp q=>yB p λo=>au (!o) (Q (.int .i64 0) q) (FW SS 172 [(strOf l)] q λl n=>yL l λi j k=>FW SS 172 [(strOf m)] n λg h=>yL g λd e f=>FW SS 186 [(.slice i j k),(.slice d e f)] h λb c=>yI .i64 b λa=>Q (.int .i64 a) c))):FW SS 169 [(strOf l),(strOf m)] h Q:=cJ Tj Tryz.func169 (ai u)
noncomputable def Ti:FD:=cF Tryz.f168 []
theorem O9(l m:LB)(h:ae)(Q:VH)(z:FW SS 171 [(strOf l)] h λx y=>yB x λw=>au (!w) (Q (.tuple ⟨[(strOf []),(.int .i64 1)]⟩) y) (FW SS 171 [(strOf m)] y λu v=>yB u λt=>au (!t) (Q (.tuple ⟨[(strOf []),(.int .i64 1)]⟩) v) (FW SS 172 [(strOf l)] v λr s=>yL r λo p q=>FW SS 172 [(strOf m)] s λm n=>yL m λj k l=>FW SS 185 [(.slice o p q),(.slice j k l)] n λh i=>yL h λe f g=>FW SS 173 [(.slice e f g)] i λc d=>∃b:LB,∃a:Int,c=(.tuple ⟨[(strOf b),(.int .i64 a)]⟩)/\Q (.tuple ⟨[(strOf b),(.int .i64 a)]⟩) d))):FW SS 168 [(strOf l),(strOf m)] h Q:=cJ Ti Tryz.func168 (ai z)
noncomputable def Tl:FD:=cF Tryz.f170 []
theorem Pj(l m:LB)(h:ae)(Q:VH)(B:FW SS 171 [(strOf l)] h λz A=>yB z λy=>au (!y) (Q (.tuple ⟨[(strOf []),(.int .i64 1)]⟩) A) (FW SS 171 [(strOf m)] A λw x=>yB w λv=>au (!v) (Q (.tuple ⟨[(strOf []),(.int .i64 1)]⟩) x) (FW SS 172 [(strOf l)] x λt u=>yL t λq r s=>FW SS 172 [(strOf m)] u λo p=>yL o λl m n=>FW SS 186 [(.slice q r s),(.slice l m n)] p λj k=>yI .i64 j λi=>au (decide ((i:Int)<0)) (Q (.tuple ⟨[(strOf []),(.int .i64 4)]⟩) k) (FW SS 188 [(.slice q r s),(.slice l m n)] k λg h=>yL g λd e f=>FW SS 187 [(.slice d e f)] h λb c=>yS b λa=>Q (.tuple ⟨[(strOf a),(.int .i64 0)]⟩) c)))):FW SS 170 [(strOf l),(strOf m)] h Q:=cJ Tl Tryz.func170 (ai B)
noncomputable def eW:FD:=cF Tryz.f143 [([1,1,1,1,0,1,0,0],[6,7,8,33,34]),([1,1,1,1,0,1,0,0,1,1,0,0,1,1,1,0,0],[6,7,8,9,10,33,34,39,40])]
abbrev gN(a:OA)(n c:Nat)(b:OA)(k d:Nat)(t:OA)(g f:Nat)(e:Int)(i:Nat):LV:=[(.slice a n c),(.slice b k d),(.slice t g f),(.int .i64 e),(iA i)]
abbrev jt(a:OA)(n c:Nat)(b:OA)(k d:Nat)(t:OA)(h g:Nat)(f:Int)(i:Nat)(e:Int)(j:Nat)(cy:Int):LV:=[(.slice a n c),(.slice b k d),(.slice t h g),(iA i),(.int .u64 cy),(.int .i64 f),(iA i),(.int .i64 e),(iA j)]
theorem Pg(l m:LB)(h:ae)(Q:VH)(u:FW SS 171 [(strOf l)] h λs t=>yB s λr=>au (!r) (Q (.tuple ⟨[(strOf []),(.int .i64 1)]⟩) t) (FW SS 171 [(strOf m)] t λp q=>yB p λo=>au (!o) (Q (.tuple ⟨[(strOf []),(.int .i64 1)]⟩) q) (FW SS 172 [(strOf l)] q λl n=>yL l λi j k=>FW SS 172 [(strOf m)] n λg h=>yL g λd e f=>xR (bZ SS.P 177 (.int .i64 (wrap .i64 (wrap .i64 ((j:Int)+(e:Int))+1))) (.int .i64 (wrap .i64 (wrap .i64 ((j:Int)+(e:Int))+1)))) h λ_ a b c=>LL SS eW [1,1,1,1,0,1,0,0] (gN i j k d e f (some ⟨h.next,0,none⟩) a b (j:Int) 0) c (KK SS eW [1,1,1,1,0,1,0] [] (EE SS eW Q))))):FW SS 143 [(strOf l),(strOf m)] h Q:=cJ eW Tryz.func143 (ai u)
theorem xj(l m:LB)(a:OA)(n c:Nat)(b:OA)(k d:Nat)(t:OA)(r q:Nat)(j:Int)(p:Nat->Nat->ae->Prop)(Q:VH)(step:∀(o:Nat) (i:Nat) (u:Nat->Value) (h:ae),p o i h->au (decide (((i:Int):Int)<j)) (LL SS eW [1,1,1,1,0,1,0,0,1,1,0,0,1,1,1,0,0] (jt a n c b k d t r q j i (wrap .i64 ((k:Int)+1)) 0 0) h (KK SS eW [1,1,0,0,1,1,1,0] [1,1,1,1,0,1,0,0] (RR eW [1,1,1,1,0,1,0,0] (fj (gN a n c b k d t r q j) p) o (KK SS eW [1,1,1,1,0,1,0] [] (EE SS eW Q))))) (FW SS 174 [(.slice t r q)] h λh i=>yL h λe f g=>FW SS 173 [(.slice e f g)] i λc d=>∃b:LB,∃a:Int,c=(.tuple ⟨[(strOf b),(.int .i64 a)]⟩)/\Q (.tuple ⟨[(strOf b),(.int .i64 a)]⟩) d))(o:Nat){i:Nat}{h:ae}(s:p o i h):LL SS eW [1,1,1,1,0,1,0,0] (gN a n c b k d t r q j i) h (KK SS eW [1,1,1,1,0,1,0] [] (EE SS eW Q)):=
 db (gN a n c b k d t r q j) p (λo i u h s=>ai (step o i u h s)) o s
theorem xk(l m:LB)(a:OA)(n c:Nat)(b:OA)(k d:Nat)(t:OA)(y x:Nat)(v:Int)(A:Nat->Nat->ae->Prop)(C i:Nat)(u:Int)(z:Nat->Nat->Int->ae->Prop)(Q:VH)(step:∀(w:Nat) (j:Nat) (cy:Int) (D:Nat->Value) (h:ae),z w j cy h->au (decide (((j:Int):Int)<u)) (iP 177 (.slice t y x) (.int .i64 (wrap .i64 ((i:Int)+(j:Int)))) λs=>xI .u64 (aj SS.P 150 h (.pointer (some s))) λr=>au (decide (((j:Int):Int)<(k:Int))) (iP 177 (.slice a n c) (iA i) λq=>xI .u64 (aj SS.P 150 (room h 12) (.pointer (some q))) λp=>iP 177 (.slice b k d) (iA j) λo=>xI .u64 (aj SS.P 150 (room h 12) (.pointer (some o))) λm=>xI .u64 (ax SS.P .rem 150 (.int .u64 (wrap .u64 (wrap .u64 (r+cy)+wrap .u64 (p*m)))) (.int .u64 1000000000)) λl=>xI .u64 (ax SS.P .quo 150 (.int .u64 (wrap .u64 (wrap .u64 (r+cy)+wrap .u64 (p*m)))) (.int .u64 1000000000)) λg=>iP 177 (.slice t y x) (.int .i64 (wrap .i64 ((i:Int)+(j:Int)))) λf=>xU (ah SS.P 150 (.pointer (some f)) (.int .u64 l) (room h 12)) (room h 12) λ_ e=>aJ (qR (jt a n c b k d t y x v i u) z) w [(.slice a n c),(.slice b k d),(.slice t y x),(iA i),(.int .u64 g),(.int .i64 v),(iA i),(.int .i64 u),(.int .i64 (wrap .i64 ((j:Int)+1)))] e) (xI .u64 (ax SS.P .rem 150 (.int .u64 (wrap .u64 (r+cy))) (.int .u64 1000000000)) λl=>xI .u64 (ax SS.P .quo 150 (.int .u64 (wrap .u64 (r+cy))) (.int .u64 1000000000)) λg=>iP 177 (.slice t y x) (.int .i64 (wrap .i64 ((i:Int)+(j:Int)))) λf=>xU (ah SS.P 150 (.pointer (some f)) (.int .u64 l) h) h λ_ e=>aJ (qR (jt a n c b k d t y x v i u) z) w [(.slice a n c),(.slice b k d),(.slice t y x),(iA i),(.int .u64 g),(.int .i64 v),(iA i),(.int .i64 u),(.int .i64 (wrap .i64 ((j:Int)+1)))] e)) (aJ (fj (gN a n c b k d t y x v) A) C [(.slice a n c),(.slice b k d),(.slice t y x),(.int .i64 v),(.int .i64 (wrap .i64 ((i:Int)+1)))] h))(w:Nat){j:Nat}{cy:Int}{h:ae}(B:z w j cy h):LL SS eW [1,1,1,1,0,1,0,0,1,1,0,0,1,1,1,0,0] (jt a n c b k d t y x v i u j cy) h (KK SS eW [1,1,0,0,1,1,1,0] [1,1,1,1,0,1,0,0] (RR eW [1,1,1,1,0,1,0,0] (fj (gN a n c b k d t y x v) A) C (KK SS eW [1,1,1,1,0,1,0] [] (EE SS eW Q)))):=
 nB (jt a n c b k d t y x v i u) z (λw j cy D h B=>ai (step w j cy D h B)) w B
variable{x:List Nat}{y:List Nat}
theorem Tt(x y z:Nat)(f:x<BB)(i:y<BB)(g:z<=1)(h:ae):FW SS 194 [.int .u64 (x:Int),.int .u64 (y:Int),.int .u64 (z:Int)] h (λv c=>v = .tuple ⟨[uv (aP BB x y z).1,uv (aP BB x y z).2]⟩/\c=h):=by
 have e:BB=1000000000:=rfl;have a:wrap .u64 ((x:Int)+(y:Int))=((x+y:Nat):Int):=by rw[<-Int.natCast_add];exact gH (by omega) (by omega)
 have d:wrap .u64 (((x+y:Nat):Int)+(z:Int))=((x+y+z:Nat):Int):=by rw[<-Int.natCast_add];exact gH (by omega) (by omega)
 refine Ts _ _ _ h _ ?_;rw[a,d];refine⟨_,gG (b:=BB) (by omega) (by decide),_,pM (b:=BB) (by omega) (by omega) (by decide),?_,rfl⟩;unfold uv aP;rw[natCast_emod,natCast_ediv]
theorem O5(x y z:Nat)(j:x<BB)(m:y<BB)(l:z<=1)(h:ae):FW SS 201 [.int .u64 (x:Int),.int .u64 (y:Int),.int .u64 (z:Int)] h (λv f=>v = .tuple ⟨[uv (bR BB x y z).1,uv (bR BB x y z).2]⟩/\f=h):=by
 have i:BB=1000000000:=rfl;have a:x+BB-y-z<2*BB:=by omega
 have c:wrap .u64 ((x:Int)+1000000000)=((x+BB:Nat):Int):=by rw[gH (by omega) (by omega)];omega
 have e:wrap .u64 (((x+BB:Nat):Int)-(y:Int))=((x+BB-y:Nat):Int):=by rw[gH (by omega) (by omega)];omega
 have d:wrap .u64 (((x+BB-y:Nat):Int)-(z:Int))=((x+BB-y-z:Nat):Int):=by rw[gH (by omega) (by omega)];omega
 refine O4 _ _ _ h _ ?_;rw[c,e,d];refine⟨_,gG (b:=BB) (by omega) (by decide),_,pM (b:=BB) (by omega) (by omega) (by decide),?_,rfl⟩;unfold uv bR;dsimp only;generalize x+BB-y-z=q at*;have k:q/BB<=1:=by
  have:q/BB<2:=Nat.div_lt_of_lt_mul (by omega);omega
 have g:wrap .u64 (1-(q:Int)/(BB:Int))=((1-q/BB:Nat):Int):=by
  rw[<-natCast_ediv];clear a c e d;generalize q/BB=r at*;rw[gH (by omega) (by omega)];omega
 rw[g,natCast_emod]
theorem Xl{p q c:Nat}(b:p<BB)(a:q<BB)(d:c<=1):(aP BB p q c).2<=1:=by
 show(p+q+c)/BB<=1;have:(p+q+c)/BB<2:=Nat.div_lt_of_lt_mul (by omega);omega
theorem Te{p q c:Nat}(b:p<BB)(a:q<BB)(d:c<=1):(bR BB p q c).2<=1:=(nI gA b a d).2
theorem IH{b:Option Addr}{c:Nat}(W:Rd h 150 (.slice a n c) (x.map uv))(J:Rd h 150 (.slice b m k) (y.map uv))(S:∀k∈x,k<BB)(hy:∀k∈y,k<BB)(x2:x.length<=10000)(x4:y.length<=10000)(w:Wf h){R:Nat}(E:dL (bk (aP BB) x y 0 (max x.length y.length+1) 0)=aW BB R):
  FW SS 193 [.slice a n c,.slice b m k,.func (.func 194) ⟨[]⟩ ⟨[]⟩] h (iO h 150 (bl R)):=by
 have hn:n=x.length:=by have:=W.len;rwa[lM]at this
 have hm:m=y.length:=by have:=J.len;rwa[lM]at this
 rw[<-hn,<-hm]at E;have X:∀j,eF (aP BB) x y 0 0 j<=1:=by
  intro j
  induction j with
  |zero=>exact Nat.zero_le _
  |succ j ih=>exact Xl (aZ (by decide) S _) (aZ (by decide) hy _) ih
 have x3:n<=max n m/\m<=max n m:=⟨le_max_left _ _,le_max_right _ _⟩
 have x1:max n m<=10000:=max_le.2 ⟨by omega,by omega⟩;have K:(if(m:Int)>(n:Int)then(m:Int)else(n:Int))=((max n m:Nat):Int):=by split<;>omega
 generalize max n m=N at*;have L:=uH a n c b m k ((N:Int)+1) (λz i cy r Q T g=>i<=N+1/\z=N+1-i/\cy=(eF (aP BB) x y 0 0 i:Nat)/\eh h g 150 (.slice r Q T) ((bk (aP BB) x y 0 i 0).map uv)/\Ok h g) (iO h 150 (bl R)) (by
  intro z i cy r Q T;intros;rename_i g hi;obtain⟨h1,h2,rfl,A,o⟩:=hi;have P:wrap .i64 ((i:Int)+1)=((i+1:Nat):Int):=by rw[aB (by omega) (by omega)];omega
  rw[P];have l:(bk (aP BB) x y 0 i 0).length=i:=eQ _ _ _ _ _ _;have e:=hJ (aP BB) x y i 0 0;rw[Nat.zero_add]at e;have d:eF (aP BB) x y 0 0 (i+1)=(aP BB (x.getD i 0) (y.getD i 0) (eF (aP BB) x y 0 0 i)).2:=by
   show(aP BB (x.getD (0+i) 0) (y.getD (0+i) 0) _).2=_;rw[Nat.zero_add]
  have Y:=X i;have t:=Tt (x.getD i 0) (y.getD i 0) (eF (aP BB) x y 0 0 i) (aZ (by decide) S _) (aZ (by decide) hy _) Y g;refine aa (λD=>?_) (λD=>?_)
  ·have D:=dT D;refine aa (λC=>?_) (λC=>?_)
   ·have C:=dT C;obtain⟨q,O,g3⟩:=EP (W.ok o) (i:=(i:Int)) (by omega) (by omega);rw[toNat_natCast]at g3;refine⟨q,O,_,g3,aa (λf=>?_) (λf=>?_)⟩
    ·have f:=dT f;obtain⟨I,F,B⟩:=EP (J.ok o) (i:=(i:Int)) (by omega) (by omega);rw[toNat_natCast]at B;refine⟨I,F,_,B,t.mono ?_⟩;rintro _ _ ⟨rfl,rfl⟩;refine⟨_,_,rfl,_,_,_,sE _,?_⟩;obtain⟨b,m,k,u,s,G,p,v⟩:=lY w o A ((aP BB (x.getD i 0) (y.getD i 0) (eF (aP BB) x y 0 0 i)).1:Nat) (by rw[lM,l];omega);refine⟨b,m,k,u,s,oN (z-1) (by omega) ⟨by omega,by omega,by rw[d],?_,v⟩⟩;rw[e,map_append];exact p
    ·have f:=dF f;have H:y.getD i 0=0:=by rw[gD,getElem?_eq_none (by omega)];rfl
     rw[H]at t e d;refine t.mono ?_;rintro _ _ ⟨rfl,rfl⟩;refine⟨_,_,rfl,_,_,_,sE _,?_⟩;obtain⟨b,m,k,u,s,G,p,v⟩:=lY w o A ((aP BB (x.getD i 0) 0 (eF (aP BB) x y 0 0 i)).1:Nat) (by rw[lM,l];omega);refine⟨b,m,k,u,s,oN (z-1) (by omega) ⟨by omega,by omega,by rw[d],?_,v⟩⟩;rw[e,map_append];exact p
   ·have C:=dF C;have x0:x.getD i 0=0:=by rw[gD,getElem?_eq_none (by omega)];rfl
    rw[x0]at t e d;refine aa (λf=>?_) (λf=>?_)
    ·have f:=dT f;obtain⟨I,F,B⟩:=EP (J.ok o) (i:=(i:Int)) (by omega) (by omega);rw[toNat_natCast]at B;refine⟨I,F,_,B,t.mono ?_⟩;rintro _ _ ⟨rfl,rfl⟩;refine⟨_,_,rfl,_,_,_,sE _,?_⟩;obtain⟨b,m,k,u,s,G,p,v⟩:=lY w o A ((aP BB 0 (y.getD i 0) (eF (aP BB) x y 0 0 i)).1:Nat) (by rw[lM,l];omega);refine⟨b,m,k,u,s,oN (z-1) (by omega) ⟨by omega,by omega,by rw[d],?_,v⟩⟩;rw[e,map_append];exact p
    ·have f:=dF f;have H:y.getD i 0=0:=by rw[gD,getElem?_eq_none (by omega)];rfl
     rw[H]at t e d;refine t.mono ?_;rintro _ _ ⟨rfl,rfl⟩;refine⟨_,_,rfl,_,_,_,sE _,?_⟩;obtain⟨b,m,k,u,s,G,p,v⟩:=lY w o A ((aP BB 0 0 (eF (aP BB) x y 0 0 i)).1:Nat) (by rw[lM,l];omega);refine⟨b,m,k,u,s,oN (z-1) (by omega) ⟨by omega,by omega,by rw[d],?_,v⟩⟩;rw[e,map_append];exact p
  ·have D:=dF D;obtain rfl:i=N+1:=by omega
   refine(rQ A (by rw[l];omega)).mono ?_;rintro _ O ⟨V,U,M,rfl,Z,rfl⟩;rw[E]at Z;exact⟨V,U,M,rfl,V,U,M,rfl,Z,o⟩)
 refine IG a n c b m k h _ ⟨_,qE _ _ _,?_⟩;have hw:wrap .i64 ((N:Int)+1)=(N:Int)+1:=aB (by omega) (by omega);dsimp only;rw[K,hw];exact L (N+1) (i:=0) ⟨by omega,by omega,rfl,.inl ⟨rfl,rfl⟩,Ok.refl w⟩
theorem GC{b:Option Addr}{c:Nat}(W:Rd h 150 (.slice a n c) (x.map uv))(J:Rd h 150 (.slice b m k) (y.map uv))(S:∀k∈x,k<BB)(hy:∀k∈y,k<BB)(x2:x.length<=10000)(x4:y.length<=10000)(w:Wf h){R:Nat}(E:dL (bk (bR BB) x y 0 (max x.length y.length+1) 0)=aW BB R):
  FW SS 193 [.slice a n c,.slice b m k,.func (.func 201) ⟨[]⟩ ⟨[]⟩] h (iO h 150 (bl R)):=by
 have hn:n=x.length:=by have:=W.len;rwa[lM]at this
 have hm:m=y.length:=by have:=J.len;rwa[lM]at this
 rw[<-hn,<-hm]at E;have X:∀j,eF (bR BB) x y 0 0 j<=1:=by
  intro j
  induction j with
  |zero=>exact Nat.zero_le _
  |succ j ih=>exact Te (aZ (by decide) S _) (aZ (by decide) hy _) ih
 have x3:n<=max n m/\m<=max n m:=⟨le_max_left _ _,le_max_right _ _⟩
 have x1:max n m<=10000:=max_le.2 ⟨by omega,by omega⟩;have K:(if(m:Int)>(n:Int)then(m:Int)else(n:Int))=((max n m:Nat):Int):=by split<;>omega
 generalize max n m=N at*;have L:=ta a n c b m k ((N:Int)+1) (λz i cy r Q T g=>i<=N+1/\z=N+1-i/\cy=(eF (bR BB) x y 0 0 i:Nat)/\eh h g 150 (.slice r Q T) ((bk (bR BB) x y 0 i 0).map uv)/\Ok h g) (iO h 150 (bl R)) (by
  intro z i cy r Q T;intros;rename_i g hi;obtain⟨h1,h2,rfl,A,o⟩:=hi;have P:wrap .i64 ((i:Int)+1)=((i+1:Nat):Int):=by rw[aB (by omega) (by omega)];omega
  rw[P];have l:(bk (bR BB) x y 0 i 0).length=i:=eQ _ _ _ _ _ _;have e:=hJ (bR BB) x y i 0 0;rw[Nat.zero_add]at e;have d:eF (bR BB) x y 0 0 (i+1)=(bR BB (x.getD i 0) (y.getD i 0) (eF (bR BB) x y 0 0 i)).2:=by
   show(bR BB (x.getD (0+i) 0) (y.getD (0+i) 0) _).2=_;rw[Nat.zero_add]
  have Y:=X i;have t:=O5 (x.getD i 0) (y.getD i 0) (eF (bR BB) x y 0 0 i) (aZ (by decide) S _) (aZ (by decide) hy _) Y g;refine aa (λD=>?_) (λD=>?_)
  ·have D:=dT D;refine aa (λC=>?_) (λC=>?_)
   ·have C:=dT C;obtain⟨q,O,g3⟩:=EP (W.ok o) (i:=(i:Int)) (by omega) (by omega);rw[toNat_natCast]at g3;refine⟨q,O,_,g3,aa (λf=>?_) (λf=>?_)⟩
    ·have f:=dT f;obtain⟨I,F,B⟩:=EP (J.ok o) (i:=(i:Int)) (by omega) (by omega);rw[toNat_natCast]at B;refine⟨I,F,_,B,t.mono ?_⟩;rintro _ _ ⟨rfl,rfl⟩;refine⟨_,_,rfl,_,_,_,sE _,?_⟩;obtain⟨b,m,k,u,s,G,p,v⟩:=lY w o A ((bR BB (x.getD i 0) (y.getD i 0) (eF (bR BB) x y 0 0 i)).1:Nat) (by rw[lM,l];omega);refine⟨b,m,k,u,s,oN (z-1) (by omega) ⟨by omega,by omega,by rw[d],?_,v⟩⟩;rw[e,map_append];exact p
    ·have f:=dF f;have H:y.getD i 0=0:=by rw[gD,getElem?_eq_none (by omega)];rfl
     rw[H]at t e d;refine t.mono ?_;rintro _ _ ⟨rfl,rfl⟩;refine⟨_,_,rfl,_,_,_,sE _,?_⟩;obtain⟨b,m,k,u,s,G,p,v⟩:=lY w o A ((bR BB (x.getD i 0) 0 (eF (bR BB) x y 0 0 i)).1:Nat) (by rw[lM,l];omega);refine⟨b,m,k,u,s,oN (z-1) (by omega) ⟨by omega,by omega,by rw[d],?_,v⟩⟩;rw[e,map_append];exact p
   ·have C:=dF C;have x0:x.getD i 0=0:=by rw[gD,getElem?_eq_none (by omega)];rfl
    rw[x0]at t e d;refine aa (λf=>?_) (λf=>?_)
    ·have f:=dT f;obtain⟨I,F,B⟩:=EP (J.ok o) (i:=(i:Int)) (by omega) (by omega);rw[toNat_natCast]at B;refine⟨I,F,_,B,t.mono ?_⟩;rintro _ _ ⟨rfl,rfl⟩;refine⟨_,_,rfl,_,_,_,sE _,?_⟩;obtain⟨b,m,k,u,s,G,p,v⟩:=lY w o A ((bR BB 0 (y.getD i 0) (eF (bR BB) x y 0 0 i)).1:Nat) (by rw[lM,l];omega);refine⟨b,m,k,u,s,oN (z-1) (by omega) ⟨by omega,by omega,by rw[d],?_,v⟩⟩;rw[e,map_append];exact p
    ·have f:=dF f;have H:y.getD i 0=0:=by rw[gD,getElem?_eq_none (by omega)];rfl
     rw[H]at t e d;refine t.mono ?_;rintro _ _ ⟨rfl,rfl⟩;refine⟨_,_,rfl,_,_,_,sE _,?_⟩;obtain⟨b,m,k,u,s,G,p,v⟩:=lY w o A ((bR BB 0 0 (eF (bR BB) x y 0 0 i)).1:Nat) (by rw[lM,l];omega);refine⟨b,m,k,u,s,oN (z-1) (by omega) ⟨by omega,by omega,by rw[d],?_,v⟩⟩;rw[e,map_append];exact p
  ·have D:=dF D;obtain rfl:i=N+1:=by omega
   refine(rQ A (by rw[l];omega)).mono ?_;rintro _ O ⟨V,U,M,rfl,Z,rfl⟩;rw[E]at Z;exact⟨V,U,M,rfl,V,U,M,rfl,Z,o⟩)
 refine GB a n c b m k h _ ⟨_,qE _ _ _,?_⟩;have hw:wrap .i64 ((N:Int)+1)=(N:Int)+1:=aB (by omega) (by omega);dsimp only;rw[K,hw];exact L (N+1) (i:=0) ⟨by omega,by omega,rfl,.inl ⟨rfl,rfl⟩,Ok.refl w⟩
theorem Lt{b:Option Addr}{c:Nat}(v:Rd h 150 (.slice a n c) (bl i))(s:Rd h 150 (.slice b m k) (bl j))(d:(aW BB i).length<=10000)(l:(aW BB j).length<=10000)(w:Wf h):FW SS 185 [.slice a n c,.slice b m k] h (iO h 150 (bl (i+j))):=by
 have f:=dh gA i;have e:=dh gA j;refine Ls a n c b m k h _ ((IH v s f e d l w (R:=i+j) ?_).mono ?_)
 ·have y:=le_max_left (aW BB i).length (aW BB j).length;have z:=le_max_right (aW BB i).length (aW BB j).length;rw[kV gA (jk (λp q c=>mod_lt _ (by decide)) _ _ _ 0 0),yy gA f e _ 0 0 (by omega) (by omega) (by omega) (by omega),drop_zero,drop_zero,cg gA,cg gA];rfl
 ·rintro _ g ⟨u,t,r,rfl,o,x⟩;exact⟨_,_,_,rfl,u,t,r,rfl,o,x⟩
theorem Jk{b:Option Addr}{c:Nat}(y:Rd h 150 (.slice a n c) (bl i))(u:Rd h 150 (.slice b m k) (bl j))(d:j<=i)(e:(aW BB i).length<=10000)(r:(aW BB j).length<=10000)(w:Wf h):FW SS 188 [.slice a n c,.slice b m k] h (iO h 150 (bl (i-j))):=by
 have l:=dh gA i;have f:=dh gA j;refine Jj a n c b m k h _ ((GC y u l f e r w (R:=i-j) ?_).mono ?_)
 ·have A:=le_max_left (aW BB i).length (aW BB j).length;have B:=le_max_right (aW BB i).length (aW BB j).length;rw[kV gA (jk (λp q c=>mod_lt _ (by decide)) _ _ _ 0 0)];have t:=BX gA l f (max (aW BB i).length (aW BB j).length+1) 0 0 (by omega) (by omega) (by omega) (by rw[drop_zero,drop_zero,cg gA,cg gA];exact d);rw[drop_zero,drop_zero,cg gA,cg gA]at t;congr 1;omega
 ·rintro _ g ⟨x,v,s,rfl,o,z⟩;exact⟨_,_,_,rfl,x,v,s,rfl,o,z⟩
def oR(X:Nat):Value:=if 1000<(ag X).length then two [] 2 else two (ag X) 0
def AP(a b:List UInt8):Value:=if Num.valid a=true/\Num.valid b=true then oR (Num.val a+Num.val b)else two [] 1
def AX(a b:List UInt8):Value:=if Num.valid a=true/\Num.valid b=true then oR (Num.val a*Num.val b)else two [] 1
def A4(a b:List UInt8):Value:=if Num.valid a=true/\Num.valid b=true then(if Num.val a<Num.val b then two [] 4 else two (ag (Num.val a-Num.val b)) 0)else two [] 1
def AS(a b:List UInt8):Value:=if Num.valid a=true/\Num.valid b=true then .int .i64 (eE (Num.val a) (Num.val b))else .int .i64 0
theorem vd{c:Nat}(f:Rd h 150 (.slice a n c) (bl m))(d:(aW BB m).length<=10000)(t:nz h)(w:Wf h):FW SS 173 [.slice a n c] h (λv i=>v=oR m/\Ok h i):=by
 refine El a n c h _ ((oU f d t w).mono ?_);rintro _ g ⟨rfl,e⟩;refine⟨_,rfl,aa (λb=>?_) (λb=>?_)⟩
 ·have b:=dT b;refine⟨?_,e⟩;unfold oR;rw[if_pos (by omega)];rfl
 ·have b:=dF b;refine⟨?_,e⟩;unfold oR;rw[if_neg (by omega)];rfl
structure acH(a b:List UInt8)(X Y:Nat):Prop where
 va:Num.valid a=true
 vb:Num.valid b=true
 ea:Num.val a=X
 eb:Num.val b=Y
 lx:(aW BB X).length<=112
 ly:(aW BB Y).length<=112
theorem XY{a b:List UInt8}(c:Num.valid a=true)(d:Num.valid b=true):acH a b (Num.val a) (Num.val b):=by
 obtain⟨X,_,f,g⟩:=cn c;obtain⟨Y,_,e,h⟩:=cn d;exact⟨c,d,rfl,rfl,by rw[g];exact hH f,by rw[h];exact hH e⟩
theorem ki{a:List UInt8}(c:Num.valid a=true){h:ae}(w:Wf h):FW SS 172 [strOf a] h (iO h 150 (bl (Num.val a))):=by
 have b:=(fV.1 c)
 exact rP a b.1.2.1 (Nat.le_trans b.2 (by omega)) h w
theorem XX(c:(aW BB n).length<=112)(d:(aW BB m).length<=112):(aW BB (n+m)).length<=10000:=by
 have a:=fk (dh gA n);have b:=fk (dh gA m);rw[cg gA]at a b;have e:=lt_of_lt_of_le a (pow_le_pow_right (show 0<BB by decide) c);have f:=lt_of_lt_of_le b (pow_le_pow_right (show 0<BB by decide) d);refine Nat.le_trans (lF gA (k:=113) ?_) (by omega);rw[pow_succ];have g:2*BB^112<=BB^112*BB:=by rw[Nat.mul_comm];exact Nat.mul_le_mul_left _ (by decide)
 generalize BB^112=M at*;omega
theorem UX(h:n<=m):(aW BB n).length<=(aW BB m).length:=Nat.le_of_not_lt λg=>absurd (lG gA g) (Nat.not_lt.2 h)
theorem xd(X:Nat):∃l n,oR X=two l n:=by
 unfold oR;split<;>exact⟨_,_,rfl⟩
theorem yi(a:∃l n,v=two l n){K:Value->Prop}(b:K v):∃(l:List UInt8)(n:Int),v = .tuple ⟨[strOf l,.int .i64 n]⟩/\K (.tuple ⟨[strOf l,.int .i64 n]⟩):=by
 obtain⟨l,n,rfl⟩:=a;exact⟨l,n,rfl,b⟩
theorem M1{x:Nat}(h:eE x n<0):x<n:=by
 unfold eE at h;split at h<;>omega
theorem M0{x:Nat}(h:¬eE x n<0):n<=x:=by
 unfold eE at h;split at h<;>omega
theorem Pa(a b:List UInt8){h:ae}(t:nz h)(w:Wf h):FW SS 168 [strOf a,strOf b] h (λv r=>v=AP a b/\Ok h r):=by
 refine O9 a b h _ ((dC a h).mono ?_);rintro _ l ⟨rfl,j⟩;obtain rfl:h=l:=j.symm;refine⟨_,rfl,aa (λg=>?_) (λg=>?_)⟩
 ·have g:Num.valid a=false:=by simpa using g
  refine⟨?_,Ok.refl w⟩;unfold AP;rw[if_neg (λe=>by rw[e.1]at g;cases g)];rfl
 have g:Num.valid a=true:=by simpa using g
 refine(dC b h).mono ?_;rintro _ l ⟨rfl,j⟩;obtain rfl:h=l:=j.symm;refine⟨_,rfl,aa (λc=>?_) (λc=>?_)⟩
 ·have c:Num.valid b=false:=by simpa using c
  refine⟨?_,Ok.refl w⟩;unfold AP;rw[if_neg (λe=>by rw[e.2]at c;cases c)];rfl
 have c:Num.valid b=true:=by simpa using c
 have m:=XY g c;have A:=m.lx;have z:=m.ly;refine(ki g w).mono ?_;rintro _ G ⟨N,C,J,rfl,o,f⟩;refine⟨_,_,_,rfl,(ki c f.wf).mono ?_⟩;rintro _ H ⟨E,D,M,rfl,y,i⟩;refine⟨_,_,_,rfl,?_⟩;have x:AP a b=oR (Num.val a+Num.val b):=by unfold AP;rw[if_pos ⟨g,c⟩]
 rw[x];have p:=o.rd.ok i;have q:=y.rd;have k:=f.trans i;refine(Lt p q (by omega) (by omega) k.wf).mono ?_;rintro _ F ⟨I,B,L,rfl,s,d⟩;refine⟨_,_,_,rfl,(vd s.rd (XX A z) (t.ok (k.trans d)) d.wf).mono ?_⟩;rintro _ u ⟨rfl,n⟩;exact yi (K:=λv=>v=oR (Num.val a+Num.val b)/\Ok h u) (xd _) ⟨rfl,(k.trans d).trans n⟩
theorem Fj(a b:List UInt8){h:ae}(t:nz h)(w:Wf h):FW SS 170 [strOf a,strOf b] h (λv x=>v=A4 a b/\Ok h x):=by
 refine Pj a b h _ ((dC a h).mono ?_);rintro _ o ⟨rfl,n⟩;obtain rfl:h=o:=n.symm;refine⟨_,rfl,aa (λg=>?_) (λg=>?_)⟩
 ·have g:Num.valid a=false:=by simpa using g
  refine⟨?_,Ok.refl w⟩;unfold A4;rw[if_neg (λe=>by rw[e.1]at g;cases g)];rfl
 have g:Num.valid a=true:=by simpa using g
 refine(dC b h).mono ?_;rintro _ o ⟨rfl,n⟩;obtain rfl:h=o:=n.symm;refine⟨_,rfl,aa (λc=>?_) (λc=>?_)⟩
 ·have c:Num.valid b=false:=by simpa using c
  refine⟨?_,Ok.refl w⟩;unfold A4;rw[if_neg (λe=>by rw[e.2]at c;cases c)];rfl
 have c:Num.valid b=true:=by simpa using c
 have r:=XY g c;have P:=r.lx;have N:=r.ly;refine(ki g w).mono ?_;rintro _ G ⟨O,C,J,rfl,u,k⟩;refine⟨_,_,_,rfl,(ki c k.wf).mono ?_⟩;rintro _ H ⟨E,D,M,rfl,A,l⟩;refine⟨_,_,_,rfl,?_⟩;have z:A4 a b=(if Num.val a<Num.val b then two [] 4 else two (ag (Num.val a-Num.val b)) 0):=by unfold A4;rw[if_pos ⟨g,c⟩]
 rw[z];have p:=u.rd.ok l;have q:=A.rd;have j:=k.trans l;refine(qj p q (by omega) j.wf).mono ?_;rintro _ F ⟨rfl,d⟩;refine⟨_,rfl,aa (λf=>?_) (λf=>?_)⟩
 ·have f:=dT f;rw[if_pos (M1 f)];exact⟨rfl,j.trans d⟩
 ·have f:=dF f;have m:=M0 f;rw[if_neg (Nat.not_lt.2 m)];refine(Jk (p.ok d) (q.ok d) m (by omega) (by omega) d.wf).mono ?_;rintro _ L ⟨I,B,K,rfl,y,i⟩;refine⟨_,_,_,rfl,(oU y.rd (Nat.le_trans (UX (Nat.sub_le _ _)) (by omega)) (t.ok ((j.trans d).trans i)) i.wf).mono ?_⟩;rintro _ Q ⟨rfl,s⟩;exact⟨_,rfl,rfl,((j.trans d).trans i).trans s⟩
theorem Pc(a b:List UInt8){h:ae}(t:nz h)(w:Wf h):FW SS 169 [strOf a,strOf b] h (λv q=>v=AS a b/\Ok h q):=by
 refine Pb a b h _ ((dC a h).mono ?_);rintro _ j ⟨rfl,i⟩;obtain rfl:h=j:=i.symm;refine⟨_,rfl,aa (λg=>?_) (λg=>?_)⟩
 ·have g:Num.valid a=false:=by simpa using g
  refine⟨?_,Ok.refl w⟩;unfold AS;rw[if_neg (λe=>by rw[e.1]at g;cases g)]
 have g:Num.valid a=true:=by simpa using g
 refine(dC b h).mono ?_;rintro _ j ⟨rfl,i⟩;obtain rfl:h=j:=i.symm;refine⟨_,rfl,aa (λc=>?_) (λc=>?_)⟩
 ·have c:Num.valid b=false:=by simpa using c
  refine⟨?_,Ok.refl w⟩;unfold AS;rw[if_neg (λe=>by rw[e.2]at c;cases c)]
 have c:Num.valid b=true:=by simpa using c
 have l:=XY g c;have G:=l.lx;have E:=l.ly;refine(ki g w).mono ?_;rintro _ A ⟨F,u,C,rfl,n,d⟩;refine⟨_,_,_,rfl,(ki c d.wf).mono ?_⟩;rintro _ B ⟨y,x,D,rfl,s,f⟩;refine⟨_,_,_,rfl,?_⟩;have r:AS a b = .int .i64 (eE (Num.val a) (Num.val b)):=by unfold AS;rw[if_pos ⟨g,c⟩]
 rw[r];have o:=n.rd.ok f;have p:=s.rd;have m:=d.trans f;refine(qj o p (by omega) m.wf).mono ?_;rintro _ z ⟨rfl,k⟩;exact⟨_,rfl,rfl,m.trans k⟩
theorem Kv:SS.P.underlying 9=some .string:=Tryz.underlying9
theorem Hu(l:List UInt8)(h:ae){b:Nat}(c:b<=l.length):bO SS.P 9 (strOf l) none (some (.int .i64 (b:Int))) none h=some (strOf (l.take b)):=by
 have:=oi (h:=h) Kv l (lo:=none) (hi:=some (.int .i64 (b:Int))) (a:=0) (b:=b) rfl rfl (by omega) c;simpa using this
theorem uz(l:List UInt8)(h:ae){a:Nat}(c:a<=l.length):bO SS.P 9 (strOf l) (some (.int .i64 (a:Int))) none none h=some (strOf (l.drop a)):=by
 have:=oi (h:=h) Kv l (lo:=some (.int .i64 (a:Int))) (hi:=none) (a:=a) (b:=l.length) rfl rfl c (Nat.le_refl _);rw[this,take_of_length_le (by simp)]
theorem OO(l:List UInt8)(h:ae):FW SS 204 [strOf l,strOf [45]] h (λv e=>v = .bool (Num.isNeg l)/\e=h):=by
 refine ON l [45] h _ (aa (λa=>?_) (λa=>?_))
 ·have a:=dT a;have d:1<=l.length:=by simp only[List.length_cons,List.length_nil]at a;omega
  refine⟨_,Hu l h (b:=1) d,?_,rfl⟩
  cases l with
  |nil=>simp at d
  |cons c l=>
   unfold Num.isNeg;simp only[List.take_succ_cons,take_zero,List.head?_cons];congr 1
   cases f:c==45<;>simp_all
 ·have a:=dF a;have d:l=[]:=List.eq_nil_of_length_eq_zero (by simp at a;omega);subst d;exact⟨rfl,rfl⟩
theorem K4(l:List UInt8)(h:ae):FW SS 191 [strOf l,strOf [45]] h (λv c=>v = .tuple ⟨[strOf (bm l),.bool (Num.isNeg l)]⟩/\c=h):=by
 refine K3 l [45] h _ ((OO l h).mono ?_);rintro _ e ⟨rfl,d⟩;obtain rfl:h=e:=d.symm;refine⟨_,rfl,aa (λg=>?_) (λg=>?_)⟩
 ·have g:Num.isNeg l=false:=by simpa using g
  unfold bm;rw[g];exact⟨rfl,rfl⟩
 ·have g:Num.isNeg l=true:=by simpa using g
  have b:1<=l.length:=by
   cases l with
   |nil=>cases g
   |cons=>simp
  refine⟨_,uz l h (a:=1) b,?_,rfl⟩;unfold bm;rw[g];rfl
theorem OG(l:List UInt8)(h:ae):FW SS 177 [strOf l,strOf [45]] h (λv a=>v = .tuple ⟨[strOf (bm l),.bool (Num.isNeg l)]⟩/\a=h):=by
 refine OF l [45] h _ ((K4 l h).mono ?_);rintro _ c ⟨rfl,b⟩;exact⟨_,_,rfl,rfl,b⟩
theorem La(l:List UInt8):∀i:Nat,findAt 47 l i=if cx 47 l<l.length then((i+cx 47 l:Nat):Int)else -1:=by
 induction l with
 |nil=>intro i;rfl
 | cons c l b=>
  intro i;unfold findAt cx;have a:c.toNat=47↔c=47:=by rw[<-UInt8.toNat_inj];rfl
  by_cases h:c=47
  ·rw[if_pos (a.2 h),if_pos h,if_pos (by simp)];rfl
  ·rw[if_neg (λe=>h (a.1 e)),if_neg h,b (i+1)];have:(cx 47 l+1<(c::l).length)↔cx 47 l<l.length:=by simp
   simp only[this];split
   ·congr 1;omega
   ·rfl
def Eg(l:List UInt8):Int:=if cx 47 l<l.length then(cx 47 l:Int)else -1
theorem I6(l:List UInt8)(h:ae):FW SS 214 [strOf l,.int .u8 47] h (λv a=>v = .int .i64 (Eg l)/\a=h):=by
 refine I1 l 47 h _ (Bk (p:=pj) (v:= .int .i64 (Eg l)) (h':=h) (by decide +kernel) (by kernel_rfl) (λb=>?_) ⟨_,rfl,rfl,rfl⟩);show(if(0:Int)<=47/\(47:Int)<256 then some (Value.int .i64 (findAt 47 l 0),h)else none)=_;rw[if_pos (by decide),La,Nat.zero_add];rfl
theorem OS(l:List UInt8)(h:ae):FW SS 205 [strOf l,strOf [47]] h (λv b=>v = .int .i64 (Eg l)/\b=h):=by
 refine OR l h _ (aa (λa=>?_) (λa=>?_))
 ·have a:([47]:List UInt8)=l:=by simpa using a
  subst a;exact⟨rfl,rfl⟩
 ·refine⟨47,rfl,(I6 l h).mono ?_⟩;rintro _ d ⟨rfl,c⟩;exact⟨_,rfl,rfl,c⟩
def OH(l:List UInt8):Value:=if cx 47 l<l.length then .tuple ⟨[strOf (l.take (cx 47 l)),strOf (l.drop (cx 47 l+1)),.bool true]⟩else .tuple ⟨[strOf l,strOf [],.bool false]⟩
theorem Wv(l:List UInt8)(f:l.length<=1000000000){h:ae}(w:Wf h):FW SS 192 [strOf l,strOf [47]] h (λv b=>v=OH l/\Ok h b):=by
 refine Wu l h _ ((OS l h).mono ?_);rintro _ e ⟨rfl,d⟩;obtain rfl:h=e:=d.symm;refine⟨_,rfl,aa (λg=>?_) (λg=>?_)⟩
 ·have g:=dT g;unfold Eg OH at*;by_cases a:cx 47 l<l.length
  ·rw[if_pos a,if_pos a];have c:wrap .i64 ((cx 47 l:Int)+1)=((cx 47 l+1:Nat):Int):=by rw[aB (by omega) (by omega)];omega
   rw[c];exact⟨_,Hu l _ (le_of_lt a),_,uz l _ a,rfl,(Ok.refl w).room 12⟩
  ·rw[if_neg a]at g;omega
 ·have g:=dF g;unfold Eg OH at*;by_cases a:cx 47 l<l.length
  ·rw[if_pos a]at g;omega
  ·rw[if_neg a];exact⟨rfl,Ok.refl w⟩
theorem ZL(l:List UInt8)(b:l.length<=1000000000){h:ae}(w:Wf h):FW SS 178 [strOf l,strOf [47]] h (λv c=>v=OH l/\Ok h c):=by
 refine ZK l h _ ((Wv l b w).mono ?_);rintro _ d ⟨rfl,a⟩;unfold OH;split
 ·exact⟨_,_,_,rfl,rfl,a⟩
 ·exact⟨_,_,_,rfl,rfl,a⟩
theorem Hf(l:List UInt8)(s:l.length<=1000000000)(h:ae):FW SS 116 [strOf l,.int .u8 47] h (λv n=>v = .int .i64 (Eg l)/\n=h):=by
 refine He l 47 h _ (tx l 47 (λd i g=>g=h/\i<=l.length/\d=l.length-i/\∀j,j<i->l.getD j 0≠47) _ (λd i=>?_) l.length (i:=0) ⟨rfl,by omega,rfl,λj q=>by omega⟩);intros;rename_i g p;obtain⟨rfl,k,u,f⟩:=p;refine aa (λb=>?_) (λb=>?_)
 ·have b:=dT b;have e:bL SS.P 9 (strOf l) (.int .i64 (i:Int))=some (.int .u8 (((l.getD i 0).toNat:Nat):Int)):=by
   have:=oh Kv l .i64 (i:=(i:Int)) (by omega) b;simpa using this
  refine⟨_,e,aa (λa=>?_) (λa=>?_)⟩
  ·have a:(l.getD i 0).toNat=47:=by have:=dT a;omega
   have r:l.getD i 0=47:=by rw[<-UInt8.toNat_inj];exact a
   have:=vE 47 l i k f (λ_=>r);refine⟨?_,rfl⟩;unfold Eg;rw[this,if_pos (by omega)]
  ·have a:((l.getD i 0).toNat:Int)≠47:=by simpa using a
   have o:wrap .i64 ((i:Int)+1)=((i+1:Nat):Int):=by rw[aB (by omega) (by omega)];omega
   rw[o];refine bW (d-1) (by omega) ⟨rfl,by omega,by omega,λj q=>?_⟩;rcases lt_or_ge j i with c|c
   ·exact f j c
   ·obtain rfl:j=i:=by omega
    intro m;rw[m]at a;exact a rfl
 ·have b:=dF b;obtain rfl:i=l.length:=by omega
  have:=vE 47 l l.length (Nat.le_refl _) f (λt=>by omega);refine⟨?_,rfl⟩;unfold Eg;rw[this,if_neg (by omega)]
noncomputable def Hn:FD:=cF Tryz.f152 []
theorem Er(l:LB)(h:ae)(Q:VH)(a:au (decide ((((l:LB).length:Int):Int)>1000)) (Q (.tuple ⟨[(strOf []),(.int .i64 2)]⟩) h) (Q (.tuple ⟨[(strOf l),(.int .i64 0)]⟩) h)):FW SS 152 [(strOf l)] h Q:=cJ Hn Tryz.func152 (ai a)
noncomputable def T7:FD:=cF Tryz.f120 []
theorem PZ(l m:LB)(h:ae)(Q:VH)(j:FW SS 136 [(strOf l)] h λh i=>yB h λg=>au (!g) (Q (.int .i64 0) i) (FW SS 136 [(strOf m)] i λe f=>yB e λd=>au (!d) (Q (.int .i64 0) f) (FW SS 154 [(strOf l),(strOf m)] f λb c=>yI .i64 b λa=>Q (.int .i64 a) c))):FW SS 120 [(strOf l),(strOf m)] h Q:=cJ T7 Tryz.func120 (ai j)
noncomputable def T8:FD:=cF Tryz.f121 []
theorem Qe(l m:LB)(h:ae)(Q:VH)(B:FW SS 136 [(strOf l)] h λz A=>yB z λy=>au (!y) (Q (.tuple ⟨[(strOf []),(.int .i64 1)]⟩) A) (FW SS 136 [(strOf m)] A λw x=>yB w λv=>au (!v) (Q (.tuple ⟨[(strOf []),(.int .i64 1)]⟩) x) (FW SS 154 [(strOf l),(strOf m)] x λt u=>yI .i64 t λs=>au (decide ((s:Int)<0)) (Q (.tuple ⟨[(strOf []),(.int .i64 4)]⟩) u) (FW SS 150 [(strOf l)] u λq r=>yL q λn o p=>FW SS 150 [(strOf m)] r λl m=>yL l λi j k=>FW SS 155 [(.slice n o p),(.slice i j k)] m λg h=>yL g λd e f=>FW SS 153 [(.slice d e f)] h λb c=>yS b λa=>Q (.tuple ⟨[(strOf a),(.int .i64 0)]⟩) c)))):FW SS 121 [(strOf l),(strOf m)] h Q:=cJ T8 Tryz.func121 (ai B)
noncomputable def o0:FD:=cF Tryz.f119 [([1,1,1,1,1,0,1,0,0],[6,7,8,9,10])]
abbrev jz(a:OA)(n c:Nat)(b:OA)(k d:Nat)(i:Nat)(cy:Int)(r:OA)(e f:Nat):LV:=[(.slice a n c),(.slice b k d),(.slice r e f),(.int .i64 cy),(iA i)]
theorem PX(l m:LB)(h:ae)(Q:VH)(s:FW SS 136 [(strOf l)] h λq r=>yB q λp=>au (!p) (Q (.tuple ⟨[(strOf []),(.int .i64 1)]⟩) r) (FW SS 136 [(strOf m)] r λn o=>yB n λk=>au (!k) (Q (.tuple ⟨[(strOf []),(.int .i64 1)]⟩) o) (FW SS 150 [(strOf l)] o λi j=>yL i λf g h=>FW SS 150 [(strOf m)] j λd e=>yL d λa b c=>LL SS o0 [1,1,1,1,1,0,1,0,0] (jz f g h a b c 0 0 none 0 0) e (KK SS o0 [1,1,1,1,1,0,1,0] [] (EE SS o0 Q))))):FW SS 119 [(strOf l),(strOf m)] h Q:=cJ o0 Tryz.func119 (ai s)
theorem xw(l m:LB)(a:OA)(n c:Nat)(b:OA)(k d:Nat)(z:Nat->Nat->Int->OA->Nat->Nat->ae->Prop)(Q:VH)(step:∀(A:Nat) (i:Nat) (cy:Int) (r:OA) (x y:Nat) (C:Nat->Value) (h:ae),z A i cy r x y h->au (decide (((i:Int):Int)<=(n:Int))) (FW SS 151 [(.slice a n c),(iA i)] h λv w=>yI .i64 v λu=>FW SS 151 [(.slice b k d),(iA i)] w λs t=>yI .i64 s λq=>xI .i64 (ax SS.P .rem 3 (.int .i64 (wrap .i64 (wrap .i64 (u+q)+cy))) (.int .i64 10)) λp=>xR (aF SS.P 22 1 [(0,(.int .i64 p))]) t λ_ l m o=>xE (bF SS.P 22 22 (.slice r x y) (sA (t.next) l m) o) o λf g h _ j=>xI .i64 (ax SS.P .quo 3 (.int .i64 (wrap .i64 (wrap .i64 (u+q)+cy))) (.int .i64 10)) λe=>aJ (BF (jz a n c b k d) z) A [(.slice a n c),(.slice b k d),(.slice f g h),(.int .i64 e),(.int .i64 (wrap .i64 ((i:Int)+1)))] j) (au (decide (((i:Int):Int)<=(k:Int))) (FW SS 151 [(.slice a n c),(iA i)] h λv w=>yI .i64 v λu=>FW SS 151 [(.slice b k d),(iA i)] w λs t=>yI .i64 s λq=>xI .i64 (ax SS.P .rem 3 (.int .i64 (wrap .i64 (wrap .i64 (u+q)+cy))) (.int .i64 10)) λp=>xR (aF SS.P 22 1 [(0,(.int .i64 p))]) t λ_ l m o=>xE (bF SS.P 22 22 (.slice r x y) (sA (t.next) l m) o) o λf g h _ j=>xI .i64 (ax SS.P .quo 3 (.int .i64 (wrap .i64 (wrap .i64 (u+q)+cy))) (.int .i64 10)) λe=>aJ (BF (jz a n c b k d) z) A [(.slice a n c),(.slice b k d),(.slice f g h),(.int .i64 e),(.int .i64 (wrap .i64 ((i:Int)+1)))] j) (FW SS 153 [(.slice r x y)] h λf g=>yS f λe=>FW SS 152 [(strOf e)] g λc d=>∃b:LB,∃a:Int,c=(.tuple ⟨[(strOf b),(.int .i64 a)]⟩)/\Q (.tuple ⟨[(strOf b),(.int .i64 a)]⟩) d)))(A:Nat){i:Nat}{cy:Int}{r:OA}{x y:Nat}{h:ae}(B:z A i cy r x y h):LL SS o0 [1,1,1,1,1,0,1,0,0] (jz a n c b k d i cy r x y) h (KK SS o0 [1,1,1,1,1,0,1,0] [] (EE SS o0 Q)):=
 FE (jz a n c b k d) z (λA i cy r x y C h B=>ai (step A i cy r x y C h B)) A B
noncomputable def eX:FD:=cF Tryz.f122 [([1,1,1,1,0,1,0,0],[6,7,8,9]),([1,1,1,1,0,1,0,0,1,0,0,1,1,0,0],[6,7,8,9,10,11])]
abbrev gP(a:OA)(n c:Nat)(b:OA)(k d:Nat)(t:OA)(f e:Nat)(i:Nat):LV:=[(.slice a n c),(.slice b k d),(.slice t f e),(iA i)]
abbrev lV(a:OA)(n c:Nat)(b:OA)(k d:Nat)(t:OA)(f e i:Nat)(j:Nat)(cy:Int):LV:=[(.slice a n c),(.slice b k d),(.slice t f e),(iA i),(.int .i64 cy),(iA j)]
theorem Qc(l m:LB)(h:ae)(Q:VH)(u:FW SS 136 [(strOf l)] h λs t=>yB s λr=>au (!r) (Q (.tuple ⟨[(strOf []),(.int .i64 1)]⟩) t) (FW SS 136 [(strOf m)] t λp q=>yB p λo=>au (!o) (Q (.tuple ⟨[(strOf []),(.int .i64 1)]⟩) q) (FW SS 150 [(strOf l)] q λl n=>yL l λi j k=>FW SS 150 [(strOf m)] n λg h=>yL g λd e f=>xR (bZ SS.P 22 (.int .i64 (wrap .i64 (wrap .i64 ((j:Int)+(e:Int))+1))) (.int .i64 (wrap .i64 (wrap .i64 ((j:Int)+(e:Int))+1)))) h λ_ a b c=>LL SS eX [1,1,1,1,0,1,0,0] (gP i j k d e f (some ⟨h.next,0,none⟩) a b 0) c (KK SS eX [1,1,1,1,0,1,0] [] (EE SS eX Q))))):FW SS 122 [(strOf l),(strOf m)] h Q:=cJ eX Tryz.func122 (ai u)
theorem xH(l m:LB)(a:OA)(n c:Nat)(b:OA)(k d:Nat)(t:OA)(q p:Nat)(o:Nat->Nat->ae->Prop)(Q:VH)(step:∀(j:Nat) (i:Nat) (s:Nat->Value) (h:ae),o j i h->au (decide (((i:Int):Int)<(n:Int))) (LL SS eX [1,1,1,1,0,1,0,0,1,0,0,1,1,0,0] (lV a n c b k d t q p i 0 0) h (KK SS eX [1,0,0,1,1,0] [1,1,1,1,0,1,0,0] (RR eX [1,1,1,1,0,1,0,0] (fj (gP a n c b k d t q p) o) j (KK SS eX [1,1,1,1,0,1,0] [] (EE SS eX Q))))) (FW SS 153 [(.slice t q p)] h λf g=>yS f λe=>FW SS 152 [(strOf e)] g λc d=>∃b:LB,∃a:Int,c=(.tuple ⟨[(strOf b),(.int .i64 a)]⟩)/\Q (.tuple ⟨[(strOf b),(.int .i64 a)]⟩) d))(j:Nat){i:Nat}{h:ae}(r:o j i h):LL SS eX [1,1,1,1,0,1,0,0] (gP a n c b k d t q p i) h (KK SS eX [1,1,1,1,0,1,0] [] (EE SS eX Q)):=
 db (gP a n c b k d t q p) o (λj i s h r=>ai (step j i s h r)) j r
theorem xJ(l m:LB)(a:OA)(n c:Nat)(b:OA)(k d:Nat)(t:OA)(w v:Nat)(y:Nat->Nat->ae->Prop)(A i:Nat)(x:Nat->Nat->Int->ae->Prop)(Q:VH)(step:∀(u:Nat) (j:Nat) (cy:Int) (B:Nat->Value) (h:ae),x u j cy h->au (decide (((j:Int):Int)<=(k:Int))) (iP 22 (.slice t w v) (.int .i64 (wrap .i64 ((i:Int)+(j:Int)))) λs=>lI (room h 18) s λr=>iP 22 (.slice a n c) (iA i) λq=>lI (room h 18) q λp=>FW SS 151 [(.slice b k d),(iA j)] (room h 18) λm o=>yI .i64 m λl=>(aj SS.P 3 o (.pointer (some s))=some (.int .i64 r)/\dA 4 (.int .i64 r) (.int .i64 r)=true)/\(aj SS.P 3 o (.pointer (some q))=some (.int .i64 p)/\dA 4 (.int .i64 p) (.int .i64 p)=true)/\xI .i64 (ax SS.P .rem 3 (.int .i64 (wrap .i64 (wrap .i64 (r+wrap .i64 (p*l))+cy))) (.int .i64 10)) λh=>iP 22 (.slice t w v) (.int .i64 (wrap .i64 ((i:Int)+(j:Int)))) λg=>xU (ah SS.P 3 (.pointer (some g)) (.int .i64 h) o) o λ_ f=>xI .i64 (ax SS.P .quo 3 (.int .i64 (wrap .i64 (wrap .i64 (r+wrap .i64 (p*l))+cy))) (.int .i64 10)) λe=>aJ (qR (lV a n c b k d t w v i) x) u [(.slice a n c),(.slice b k d),(.slice t w v),(iA i),(.int .i64 e),(.int .i64 (wrap .i64 ((j:Int)+1)))] f) (aJ (fj (gP a n c b k d t w v) y) A [(.slice a n c),(.slice b k d),(.slice t w v),(.int .i64 (wrap .i64 ((i:Int)+1)))] h))(u:Nat){j:Nat}{cy:Int}{h:ae}(z:x u j cy h):LL SS eX [1,1,1,1,0,1,0,0,1,0,0,1,1,0,0] (lV a n c b k d t w v i j cy) h (KK SS eX [1,0,0,1,1,0] [1,1,1,1,0,1,0,0] (RR eX [1,1,1,1,0,1,0,0] (fj (gP a n c b k d t w v) y) A (KK SS eX [1,1,1,1,0,1,0] [] (EE SS eX Q)))):=
 nB (lV a n c b k d t w v i) x (λu j cy B h z=>ai (step u j cy B h z)) u z
theorem vo(X:Nat)(h:ae):FW SS 152 [strOf (ag X)] h (λv b=>v=oR X/\b=h):=by
 refine Er _ h _ (aa (λa=>?_) (λa=>?_))
 ·have a:=dT a;refine⟨?_,rfl⟩;unfold oR;rw[if_pos (by omega)];rfl
 ·have a:=dF a;refine⟨?_,rfl⟩;unfold oR;rw[if_neg (by omega)];rfl
theorem P0(a b:List UInt8){h:ae}(w:Wf h):FW SS 120 [strOf a,strOf b] h (λv o=>v=AS a b/\Ok h o):=by
 refine PZ a b h _ ((dm a h).mono ?_);rintro _ f ⟨rfl,d⟩;obtain rfl:h=f:=d.symm;refine⟨_,rfl,aa (λg=>?_) (λg=>?_)⟩
 ·have g:Num.valid a=false:=by simpa using g
  refine⟨?_,Ok.refl w⟩;unfold AS;rw[if_neg (λe=>by rw[e.1]at g;cases g)]
 have g:Num.valid a=true:=by simpa using g
 refine(dm b h).mono ?_;rintro _ f ⟨rfl,d⟩;obtain rfl:h=f:=d.symm;refine⟨_,rfl,aa (λc=>?_) (λc=>?_)⟩
 ·have c:Num.valid b=false:=by simpa using c
  refine⟨?_,Ok.refl w⟩;unfold AS;rw[if_neg (λe=>by rw[e.2]at c;cases c)]
 have c:Num.valid b=true:=by simpa using c
 have p:AS a b = .int .i64 (eE (Num.val a) (Num.val b)):=by unfold AS;rw[if_pos ⟨g,c⟩]
 rw[p];obtain⟨m,rfl,j,l⟩:=cn g;obtain⟨n,rfl,i,k⟩:=cn c;have s:=fJ j;have r:=fJ i;rw[l,k];refine(qm m n (by omega) (by omega) h w).mono ?_;rintro _ g ⟨rfl,q⟩;exact⟨_,rfl,rfl,q⟩
theorem qB{a:List UInt8}(c:Num.valid a=true){h:ae}(w:Wf h):FW SS 150 [strOf a] h (iO h 3 ((fm a).map iv)):=by
 have b:=(fV.1 c)
 exact r4 a b.1.2.1 (Nat.le_trans b.2 (by omega)) h w
theorem ko{a:List UInt8}(b:Num.valid a=true):∀d∈fm a,d<10:=l9 (fV.1 b).1.2.1
theorem oe{a:List UInt8}(b:Num.valid a=true):(fm a).length<=1000:=by
 rw[kT];exact(fV.1 b).2
theorem Ei{a b:List UInt8}(c:Num.valid a=true)(d:Num.valid b=true)(h:Num.val b<=Num.val a):b.length<=a.length:=by
 obtain⟨m,rfl,_,f⟩:=cn c;obtain⟨n,rfl,_,e⟩:=cn d;exact Nat.le_of_not_lt λg=>by have:=lH g;omega
theorem Fz(a b:List UInt8){h:ae}(w:Wf h):FW SS 121 [strOf a,strOf b] h (λv o=>v=A4 a b/\Ok h o):=by
 refine Qe a b h _ ((dm a h).mono ?_);rintro _ q ⟨rfl,p⟩;obtain rfl:h=q:=p.symm;refine⟨_,rfl,aa (λg=>?_) (λg=>?_)⟩
 ·have g:Num.valid a=false:=by simpa using g
  refine⟨?_,Ok.refl w⟩;unfold A4;rw[if_neg (λe=>by rw[e.1]at g;cases g)];rfl
 have g:Num.valid a=true:=by simpa using g
 refine(dm b h).mono ?_;rintro _ q ⟨rfl,p⟩;obtain rfl:h=q:=p.symm;refine⟨_,rfl,aa (λc=>?_) (λc=>?_)⟩
 ·have c:Num.valid b=false:=by simpa using c
  refine⟨?_,Ok.refl w⟩;unfold A4;rw[if_neg (λe=>by rw[e.2]at c;cases c)];rfl
 have c:Num.valid b=true:=by simpa using c
 have A:A4 a b=(if Num.val a<Num.val b then two [] 4 else two (ag (Num.val a-Num.val b)) 0):=by unfold A4;rw[if_pos ⟨g,c⟩]
 rw[A];have C:FW SS 154 [strOf a,strOf b] h (λv o=>v = .int .i64 (eE (Num.val a) (Num.val b))/\Ok h o):=by
  obtain⟨m,rfl,t,x⟩:=cn g;obtain⟨n,rfl,s,u⟩:=cn c;have P:=fJ t;have G:=fJ s;rw[x,u];exact qm m n (by omega) (by omega) h w
 refine C.mono ?_;rintro _ J ⟨rfl,f⟩;refine⟨_,rfl,aa (λd=>?_) (λd=>?_)⟩
 ·have d:=dT d;rw[if_pos (M1 d)];exact⟨rfl,f⟩
 have d:=dF d;have j:=M0 d;rw[if_neg (Nat.not_lt.2 j)];refine(qB g f.wf).mono ?_;rintro _ K ⟨F,E,Q,rfl,B,k⟩;refine⟨_,_,_,rfl,(qB c k.wf).mono ?_⟩;rintro _ H ⟨L,D,N,rfl,z,i⟩;refine⟨_,_,_,rfl,(Dc (B.rd.ok i) z.rd (ko g) (ko c) (Nat.le_trans (oe g) (by omega)) i.wf).mono ?_⟩;rintro _ O ⟨M,R,I,rfl,y,l⟩;refine⟨_,_,_,rfl,(r5 y.rd (EF (ko g) (ko c) _ _ _ (by omega)) (by rw[eQ];exact Nat.le_trans (oe g) (by omega)) l.wf).mono ?_⟩;rintro _ S ⟨rfl,r⟩;refine⟨_,rfl,?_,(((f.trans k).trans i).trans l).trans r⟩;rw[ED (ko g) (ko c) (by rw[kT,kT];exact Ei g c j) (by rw[fR,fR];exact j),fR,fR];rfl
theorem T9:ax SS.P .rem 3 (.int .i64 (n:Int)) (.int .i64 10)=some (.int .i64 ((n%10:Nat):Int)):=by
 rw[show(10:Int)=((10:Nat):Int)from rfl,gG (by omega) (by decide),natCast_emod]
theorem Tx(h:n<1000000):ax SS.P .quo 3 (.int .i64 (n:Int)) (.int .i64 10)=some (.int .i64 ((n/10:Nat):Int)):=by
 have a:(n:Int).tdiv 10=((n/10:Nat):Int):=by
  rw[Int.tdiv_eq_ediv_of_nonneg (by omega)];rfl
 rw[Gw SS.P 3 .i64 _ _ (by omega),a,aB (by omega) (by omega)]
theorem Pq{p q c:Nat}(b:p<10)(a:q<10)(d:c<=1):(aP 10 p q c).2<=1:=by
 show(p+q+c)/10<=1;omega
theorem PY(a b:List UInt8){h:ae}(w:Wf h):FW SS 119 [strOf a,strOf b] h (λv m=>v=AP a b/\Ok h m):=by
 refine PX a b h _ ((dm a h).mono ?_);rintro _ X ⟨rfl,U⟩;obtain rfl:h=X:=U.symm;refine⟨_,rfl,aa (λg=>?_) (λg=>?_)⟩
 ·have g:Num.valid a=false:=by simpa using g
  refine⟨?_,Ok.refl w⟩;unfold AP;rw[if_neg (λe=>by rw[e.1]at g;cases g)];rfl
 have g:Num.valid a=true:=by simpa using g
 refine(dm b h).mono ?_;rintro _ X ⟨rfl,U⟩;obtain rfl:h=X:=U.symm;refine⟨_,rfl,aa (λd=>?_) (λd=>?_)⟩
 ·have d:Num.valid b=false:=by simpa using d
  refine⟨?_,Ok.refl w⟩;unfold AP;rw[if_neg (λe=>by rw[e.2]at d;cases d)];rfl
 have d:Num.valid b=true:=by simpa using d
 have hS:AP a b=oR (Num.val a+Num.val b):=by unfold AP;rw[if_pos ⟨g,d⟩]
 rw[hS];refine(qB g w).mono ?_;rintro _ h2 ⟨a2,k,c2,rfl,o2,I⟩;refine⟨_,_,_,rfl,(qB d I.wf).mono ?_⟩;rintro _ h3 ⟨a3,f,c3,rfl,o3,B⟩;refine⟨_,_,_,rfl,?_⟩;have r1:=o2.rd.ok B;have r2:=o3.rd;have ok:=I.trans B;have W:=B.wf;have x1:k=(fm a).length:=by have:=r1.len;rwa[lM]at this
 have Z:f=(fm b).length:=by have:=r2.len;rwa[lM]at this
 have l1:=oe g;have l2:=oe d;have M:=ko g;have Y:=ko d;have e1:=fR a;have e2:=fR b;generalize fm a=x at*;generalize fm b=y at*;have x2:∀j,eF (aP 10) x y 0 0 j<=1:=by
  intro j
  induction j with
  |zero=>exact Nat.zero_le _
  |succ j ih=>exact Pq (aZ (by decide) M _) (aZ (by decide) Y _) ih
 have s:=yy (b:=10) (by decide) M Y (max x.length y.length+1) 0 0 (by omega) (by omega) (by omega) (by omega);rw[drop_zero,drop_zero,e1,e2,Nat.add_zero]at s;rw[<-x1,<-Z]at s;have x7:=le_max_left k f;have x6:=le_max_right k f;have x4:max k f<=1000:=max_le.2 ⟨by omega,by omega⟩;have x5:k=max k f\/f=max k f:=by omega
 generalize max k f=N at*;refine xw a b a2 k c2 a3 f c3 (λE i cy r rn rc g=>i<=N+1/\E=N+1-i/\cy=(eF (aP 10) x y 0 0 i:Nat)/\eh h3 g 3 (.slice r rn rc) ((bk (aP 10) x y 0 i 0).map iv)/\Ok h3 g) (λv m=>v=oR (Num.val a+Num.val b)/\Ok h m) (by
  intro E i cy r rn rc;intros;rename_i o hi;obtain⟨f1,f2,rfl,S,l⟩:=hi;have x0:wrap .i64 ((i:Int)+1)=((i+1:Nat):Int):=by rw[aB (by omega) (by omega)];omega
  rw[x0];have z:(bk (aP 10) x y 0 i 0).length=i:=eQ _ _ _ _ _ _;have t:=hJ (aP 10) x y i 0 0;rw[Nat.zero_add]at t;have A:eF (aP 10) x y 0 0 (i+1)=(aP 10 (x.getD i 0) (y.getD i 0) (eF (aP 10) x y 0 0 i)).2:=by
   show(aP 10 (x.getD (0+i) 0) (y.getD (0+i) 0) _).2=_;rw[Nat.zero_add]
  have x8:=x2 i;have hp:=aZ (by omega) M i;have hq:=aZ (by omega) Y i;generalize eF (aP 10) x y 0 0 i=F at*;have n:∀hg:i<N+1,FW SS 151 [(.slice a2 k c2),(.int .i64 (i:Int))] o (λv m=>v = .int .i64 (x.getD i 0:Nat)/\m=o)/\FW SS 151 [(.slice a3 f c3),(.int .i64 (i:Int))] o (λv m=>v = .int .i64 (y.getD i 0:Nat)/\m=o):=λ_=>⟨tA (r1.ok l) i,tA (r2.ok l) i⟩
  have H:wrap .i64 (((x.getD i 0:Nat):Int)+((y.getD i 0:Nat):Int))=((x.getD i 0+y.getD i 0:Nat):Int):=by rw[aB (by omega) (by omega)];omega
  have G:wrap .i64 (((x.getD i 0+y.getD i 0:Nat):Int)+(F:Int))=((x.getD i 0+y.getD i 0+F:Nat):Int):=by rw[aB (by omega) (by omega)];omega
  refine aa (λD=>?_) (λD=>aa (λC=>?_) (λC=>?_))
  ·have D:=dT D;obtain⟨T,O⟩:=n (by omega);refine T.mono ?_;rintro _ _ ⟨rfl,rfl⟩;refine⟨_,rfl,O.mono ?_⟩;rintro _ _ ⟨rfl,rfl⟩;rename_i o;refine⟨_,rfl,?_⟩;dsimp only;rw[H,G];obtain⟨R,P,L,u,Q,g7,J,V⟩:=Dl W l S (((x.getD i 0+y.getD i 0+F)%10:Nat):Int) (by rw[lM,z];omega);refine⟨_,T9,_,_,_,Ow _,R,P,L,u,Q,_,Tx (by omega),oN (E-1) (by omega) ⟨by omega,by omega,by rw[A];rfl,?_,V⟩⟩;rw[t,map_append];exact J
  ·have C:=dT C;obtain⟨T,O⟩:=n (by omega);refine T.mono ?_;rintro _ _ ⟨rfl,rfl⟩;refine⟨_,rfl,O.mono ?_⟩;rintro _ _ ⟨rfl,rfl⟩;rename_i o;refine⟨_,rfl,?_⟩;dsimp only;rw[H,G];obtain⟨R,P,L,u,Q,g7,J,V⟩:=Dl W l S (((x.getD i 0+y.getD i 0+F)%10:Nat):Int) (by rw[lM,z];omega);refine⟨_,T9,_,_,_,Ow _,R,P,L,u,Q,_,Tx (by omega),oN (E-1) (by omega) ⟨by omega,by omega,by rw[A];rfl,?_,V⟩⟩;rw[t,map_append];exact J
  ·have D:=dF D;have C:=dF C;obtain rfl:i=N+1:=by omega
   refine(r5 S.rd (jk (λp q c=>mod_lt _ (by decide)) _ _ _ 0 0) (by rw[z];omega) l.wf).mono ?_;rintro _ h4 ⟨rfl,x3⟩;refine⟨_,rfl,?_⟩;rw[s];refine(vo _ h4).mono ?_;rintro _ _ ⟨rfl,rfl⟩;exact yi (K:=λv=>v=oR (Num.val a+Num.val b)/\Ok h _) (xd _) ⟨rfl,(ok.trans l).trans x3⟩)
  (N+1) (i:=0) ⟨by omega,by omega,rfl,.inl ⟨rfl,rfl⟩,Ok.refl W⟩
end Go.Proofs.YtaaichlgdgjgjaaGreatDoor
end
section
set_option linter.defProp false
namespace Go.Proofs.YtaaichlgdgjgjaaGreatDoor
open Go Go.Ab Go.Num
variable{k:Nat}{n:Nat}{m:Nat}{h:ae}{a:Option Addr}{x:List Nat}{g:ae}
noncomputable def ti3:TypeInfo:=(SS.P.info? 3).getD default
theorem aao:SS.P.info? 3=some ti3:=by kernel_rfl
theorem UU:ti3.size=1:=by kernel_rfl
theorem QG:ti3.bytes=8:=by kernel_rfl
theorem Y3:zeroOf SS.P 3=some (iv 0):=by kernel_rfl
theorem ac8(n:Nat)(a:n<=100000):bZ SS.P 22 (.int .i64 (n:Int)) (.int .i64 (n:Int))=some (.cells ((List.replicate n 0).map iv) 3 1 true,my n n):=by
 unfold bZ bU;dsimp only;rw[sc]
 try dsimp only
 change (match SS.P.info? 3,zeroOf SS.P 3 with
  |some i,some z=>(if z.cells.size=i.size/\0<i.size/\(0:Int)<=(n:Int)/\(n:Int)<=(n:Int)/\(n:Int)*i.bytes<=140737488355328/\(n:Int)<=1099511627776 then some (dN.cells (cX z.cells.toList (n:Int).toNat) 3 i.size true,λk=>Value.slice (some ⟨k,0,none⟩) (n:Int).toNat (n:Int).toNat)else none)
  |_,_=>none)=_
 rw[aao,Y3];dsimp only;rw[UU,QG,if_pos ⟨rfl,by omega,by omega,Int.le_refl _,by omega,by omega⟩];have e:((n:Int)).toNat=n:=by omega
 rw[e,show(iv 0).cells.toList=[iv 0]from rfl,ni,List.map_replicate];rfl
theorem abI{c:Nat}{i:Int}(b:0<=i)(a:i<m):aA SS.P 22 (.slice (some ⟨k,n,none⟩) m c) (.int .i64 i)=some (.pointer (some ⟨k,n+i.toNat*1,none⟩)):=OQ sc Vv b a
theorem atI{c:Nat}(r:Rd h 3 (.slice a n c) (x.map iv)){i:Int}(e:0<=i)(f:i<x.length):∃p:Addr,aA SS.P 22 (.slice a n c) (.int .i64 i)=some (.pointer (some p))/\aj SS.P 3 h (.pointer (some p))=some (.int .i64 (x.getD i.toNat 0:Nat)):=by
 obtain⟨p,d,b⟩:=r.at_ sc Vv Hz Gu (k:= .i64) (i:=i) e (by rw[lM];omega);rw[tg x i.toNat (by omega)]at b;exact⟨p,d,b⟩
theorem NJ(n:Int):dA 4 (.int .i64 n) (.int .i64 n)=true:=by simp[dA]
structure RP(hb:ae)(kt N:Nat)(L:List Nat)(g:ae):Prop where
 len:L.length=N
 lt:∀d∈L,d<10
 row:HO hb kt 3 (L.map iv) g
theorem RP.get{c:Nat}{f:ae}(a:RP g n m x f){jn:Nat}(b:jn<m):aA SS.P 22 (.slice (some ⟨n,0,none⟩) m c) (.int .i64 (jn:Int))=some (.pointer (some ⟨n,0+(jn:Int).toNat*1,none⟩))/\aj SS.P 3 f (.pointer (some ⟨n,0+(jn:Int).toNat*1,none⟩))=some (.int .i64 (x.getD jn 0:Nat))/\
  ∀d:Nat,d<10->Wf g->∃u:dJ,ah SS.P 3 (.pointer (some ⟨n,0+(jn:Int).toNat*1,none⟩)) (.int .i64 (d:Int)) f=some (undef,u)/\RP g n m (x.set jn d) (u.app f):=by
 have e:0+(jn:Int).toNat*1=jn:=by omega
 refine⟨abI (by omega) (by omega),?_,?_⟩
 ·rw[e,cq Hz Gu a.row.row (by rw[lM,a.len];exact b),tg x jn (by rw[a.len];exact b)]
 ·intro d j w;rw[e];refine⟨_,jD Vv a.row.row (by rw[lM,a.len];exact b) rfl rfl,by rw[length_set];exact a.len,λe i=>?_,?_⟩
  ·rcases List.mem_or_eq_of_mem_set i with h|h
   ·exact a.lt e h
   ·rw[h];exact j
  ·have:=a.row.set w jn (.int .i64 (d:Int));rw[show(Value.int .i64 (d:Int))=iv d from rfl,Nz iv x jn d]at this;rw[show(Value.int .i64 (d:Int))=iv d from rfl,Nz iv x jn d];exact this
def YY(a:ae)(c N n:Nat)(x y:List Nat)(b i:Nat)(g:ae):Prop:=i<=n/\b=n-i/\∃L,RP a c N L g/\Num.bv 10 L=Num.bv 10 (x.take i)*Num.bv 10 y
def adn(b:ae)(d N k:Nat)(x y:List Nat)(i c j:Nat)(cy:Int)(g:ae):Prop:=j<=k+1/\c=k+1-j/\∃(L:List Nat)(a:Nat),cy=(a:Int)/\a<10/\RP b d N L g/\Num.bv 10 L+a*10^(i+j)=Num.bv 10 (x.take i)*Num.bv 10 y+x.getD i 0*Num.bv 10 (y.take j)*10^i
def Ud{f:ae}(w:Wf f){a:Option Addr}{n c:Nat}{b:Option Addr}{k d:Nat}{s N C:Nat}{x y:List Nat}(W:Rd f 3 (.slice a n c) (x.map iv))(V:Rd f 3 (.slice b k d) (y.map iv))(I:∀d∈x,d<10)(M:∀d∈y,d<10){i:Nat}(hi:i<n)(hn:n=x.length)(hk:k=y.length)(hN:N=n+k+1)(x0:N<=10000)(l m:List UInt8)(Q:VH)(E:Nat)(x2:E=n-i):=
 xJ l m a n c b k d (some ⟨s,0,none⟩) N C (YY f s N n x y) E i (adn f s N k x y i) Q (by
  intro H j cy;intros;rename_i g D;obtain⟨h1,h2,L,o,rfl,S,e,J⟩:=D;have O:wrap .i64 ((i:Int)+(j:Int))=((i+j:Nat):Int):=by rw[aB (by omega) (by omega)];omega
  have e2:wrap .i64 ((j:Int)+1)=((j+1:Nat):Int):=by rw[aB (by omega) (by omega)];omega
  have X:wrap .i64 ((i:Int)+1)=((i+1:Nat):Int):=by rw[aB (by omega) (by omega)];omega
  rw[O,e2,X];refine aa (λr=>?_) (λr=>?_)
  ·have r:=dT r;have h:RP f s N L (Go.Ab.room g 18):=⟨e.len,e.lt,⟨e.row.row,e.row.new,e.row.ok.room 18⟩⟩
   obtain⟨K,F,g3⟩:=h.get (c:=C) (jn:=i+j) (by omega);obtain⟨R,f1,A⟩:=atI (W.ok h.row.ok) (i:=(i:Int)) (by omega) (by omega);rw[toNat_natCast]at A;refine⟨_,K,_,F,R,f1,_,A,(tA (V.ok h.row.ok) j).mono ?_⟩;rintro _ _ ⟨rfl,rfl⟩;refine⟨_,rfl,⟨F,NJ _⟩,⟨A,NJ _⟩,?_⟩;have v:=aZ (b:=10) (by decide) I i;have t:=aZ (b:=10) (by decide) M j;have x1:=aZ (b:=10) (by decide) e.lt (i+j);obtain⟨q,z⟩:∃q,q=x.getD i 0*y.getD j 0:=⟨_,rfl⟩
   have x3:q<=81:=by rw[z];exact Nat.le_trans (mul_le_mul (Nat.le_of_lt_succ v) (Nat.le_of_lt_succ t)) (by decide)
   have G:=vF (B:=10) (by decide) (L:=L) (y:=y) (i:=i) (k:=j) (cy:=o) (xi:=x.getD i 0) (P:=Num.bv 10 (x.take i)*Num.bv 10 y) (p:=L.getD (i+j) 0+o+q) e.lt (by rw[e.len];omega) S v t (by rw[z]) J;have Y:wrap .i64 (((x.getD i 0:Nat):Int)*((y.getD j 0:Nat):Int))=(q:Int):=by rw[<-Int.natCast_mul,<-z];exact aB (by omega) (by omega)
   rw[Y];have e5:wrap .i64 (((L.getD (i+j) 0:Nat):Int)+(q:Int))=((L.getD (i+j) 0+q:Nat):Int):=by rw[aB (by omega) (by omega)];omega
   rw[e5];have e6:wrap .i64 (((L.getD (i+j) 0+q:Nat):Int)+(o:Int))=((L.getD (i+j) 0+o+q:Nat):Int):=by rw[aB (by omega) (by omega)];omega
   rw[e6];generalize L.getD (i+j) 0+o+q=U at*;obtain⟨u,Z,T⟩:=g3 (U%10) (mod_lt _ (by decide)) w;refine⟨_,T9,_,K,u,Z,_,Tx (by omega),iT (H-1) (by omega) ⟨by omega,by omega,_,_,rfl,G.2.1,T,G.2.2⟩⟩
  ·have r:=dF r;obtain rfl:j=k+1:=by omega
   refine bW (n-(i+1)) (by omega) ⟨by omega,rfl,L,e,?_⟩;exact EG (by decide) I M (by omega) e.lt (by rw[<-hk];exact J))
theorem Qd(a b:List UInt8){h:ae}(w:Wf h):FW SS 122 [strOf a,strOf b] h (λv r=>v=AX a b/\Ok h r):=by
 refine Qc a b h _ ((dm a h).mono ?_);rintro _ t ⟨rfl,s⟩;obtain rfl:h=t:=s.symm;refine⟨_,rfl,aa (λg=>?_) (λg=>?_)⟩
 ·have g:Num.valid a=false:=by simpa using g
  refine⟨?_,Ok.refl w⟩;unfold AX;rw[if_neg (λe=>by rw[e.1]at g;cases g)];rfl
 have g:Num.valid a=true:=by simpa using g
 refine(dm b h).mono ?_;rintro _ t ⟨rfl,s⟩;obtain rfl:h=t:=s.symm;refine⟨_,rfl,aa (λk=>?_) (λk=>?_)⟩
 ·have k:Num.valid b=false:=by simpa using k
  refine⟨?_,Ok.refl w⟩;unfold AX;rw[if_neg (λe=>by rw[e.2]at k;cases k)];rfl
 have k:Num.valid b=true:=by simpa using k
 have T:AX a b=oR (Num.val a*Num.val b):=by unfold AX;rw[if_pos ⟨g,k⟩]
 rw[T];refine(qB g w).mono ?_;rintro _ h2 ⟨I,c,V,rfl,W,q⟩;refine⟨_,_,_,rfl,(qB k q.wf).mono ?_⟩;rintro _ m ⟨O,f,Q,rfl,P,o⟩;refine⟨_,_,_,rfl,?_⟩;have A:=W.rd.ok o;have C:=P.rd;have ok:=q.trans o;have E:=o.wf;have D:c=(fm a).length:=by have:=A.len;rwa[lM]at this
 have z:f=(fm b).length:=by have:=C.len;rwa[lM]at this
 have l1:=oe g;have l2:=oe k;have M:=ko g;have hy:=ko k;have N:=fR a;have J:=fR b;generalize fm a=x at*;generalize fm b=y at*;generalize Num.val a=X at*;generalize Num.val b=Y at*;have H:wrap .i64 (wrap .i64 ((c:Int)+(f:Int))+1)=((c+f+1:Nat):Int):=by
  rw[aB (n:=(c:Int)+(f:Int)) (by omega) (by omega),aB (by omega) (by omega)];omega
 dsimp only;rw[H];refine⟨_,_,_,ac8 _ (by omega),?_⟩;have U:RP m m.next (c+f+1) (List.replicate (c+f+1) 0) (m.push (.cells ((List.replicate (c+f+1) 0).map iv) 3 1 true)):=by
  refine⟨length_replicate,λd hd=>by rw[(List.mem_replicate.1 hd).2];decide,?_,Nat.le_refl _,(Ok.refl E).push _⟩;rw[ae.br,if_pos rfl]
 refine xH a b I c V O f Q (some ⟨m.next,0,none⟩) (c+f+1) (c+f+1) (YY m m.next (c+f+1) c x y) (λv r=>v=oR (X*Y)/\Ok h r) (λG i=>?_) c (i:=0) ⟨by omega,by omega,_,U,by rw[sP,take_zero];simp[Num.bv]⟩;intros;rename_i gg S;obtain⟨f1,R,L,l,u⟩:=S;refine aa (λp=>?_) (λp=>?_)
 ·have p:=dT p;exact Ud E A C M hy (i:=i) (by omega) D z rfl (by omega) a b _ G R (f+1) (j:=0) (cy:=0) ⟨by omega,by omega,L,0,rfl,by decide,l,by rw[u,take_zero];simp[Num.bv]⟩
 ·have p:=dF p;obtain rfl:c=i:=by omega
  rw[take_of_length_le (by omega),N,J]at u;have F:=l.row.rd (c+f+1);rw[lM,l.len]at F;refine(r5 F l.lt (by rw[l.len];omega) l.row.ok.wf).mono ?_;rintro _ Z ⟨rfl,B⟩;refine⟨_,rfl,?_⟩;rw[u];refine(vo _ Z).mono ?_;rintro _ _ ⟨rfl,rfl⟩;exact yi (K:=λv=>v=oR (X*Y)/\Ok h _) (xd _) ⟨rfl,(ok.trans l.row.ok).trans B⟩
end Go.Proofs.YtaaichlgdgjgjaaGreatDoor
end
section
namespace Go.Proofs.YtaaichlgdgjgjaaGreatDoor
open Go Go.Ab Go.Num
variable{h:ae}{g:ae}{v:Value}{w:Value}{s:List UInt8}{t:List UInt8}{n:Nat}{m:Nat}
theorem xr(l:List UInt8)(h:ae):FW SS 117 [strOf l] h (λv a=>v = .bool (decide (l.length<=400)&&Num.valid l)/\a=h):=by
 refine Hh l h _ (aa (λg=>?_) (λg=>?_))
 ·have g:=dT g;refine(dm l h).mono ?_;rintro _ c ⟨rfl,b⟩;refine⟨_,rfl,?_,b⟩;rw[decide_eq_true (show l.length<=400 by omega),Bool.true_and]
 ·have g:=dF g;refine⟨?_,rfl⟩;rw[decide_eq_false (show ¬l.length<=400 by omega),Bool.false_and]
def XA(n d:List UInt8)(neg a:Bool):Prop:=(Num.valid n=true/\n.length<=400)/\(Num.valid d=true/\d.length<=400)/\d≠[48]/\¬(n=[48]/\(neg=true\/a=true))/\¬(d=[49]/\a=true)/\(Nat.gcd (Num.val n) (Num.val d)=1\/d=[49])
def rR:Value:= .tuple ⟨[.bool false,strOf [],strOf [],.bool false]⟩
def mB(neg:Bool)(n d:List UInt8):Value:= .tuple ⟨[.bool neg,strOf n,strOf d,.bool true]⟩
def oX(h:ae)(C:Prop)(G B:Value):VH:=λv a=>Ok h a/\(C->v=G)/\(¬C->v=B)
theorem jP{C:Prop}(o:Ok h g)(a:¬C):oX h C v w w g:=⟨o,λc=>absurd c a,λ_=>rfl⟩
theorem vV{C:Prop}(o:Ok h g)(a:C):oX h C v w v g:=⟨o,λ_=>rfl,λc=>absurd a c⟩
theorem FM{n:List UInt8}(g:(decide (n.length<=400)&&Num.valid n)=true):Num.valid n=true/\n.length<=400:=by
 rw[and_eq_true,decide_eq_true_eq]at g;exact⟨g.2,g.1⟩
theorem wV(a:Num.valid s=true)(b:Num.valid t=true):AT s t=two (ag (Nat.gcd (Num.val s) (Num.val t))) 0:=by unfold AT;rw[if_pos ⟨a,b⟩]
theorem qG(n d:List UInt8)(neg:Bool)(m:Int)(a:Bool)(v3:a=decide (m>=0)){h:ae}(w:Wf h){x0 x1 x2 x3 x4 x5 z4 z6 I z0 Y u2 u9 y9 u1 z8 J E B X x6 v2 z3 y0 R z2 y4 N u7 s A r M v0 u6 L D z H x7 y u z7 v1 u4 y1 u3 y3 G t z5 o z9 y5 y7 K z1 F U x8 Q C O S y2 P T x9 u8 y6 y8 Z p q W u0 u5:Value}:
  TT SS av [1,1,1,1,1,1] [x0,x1,x2,x3,x4,x5,strOf n,strOf d,.bool neg,.int .i64 m,z4,z6,I,z0,Y,u2,u9,y9,u1,z8,J,E,B,X,x6,v2,z3,y0,R,z2,y4,N,u7,s,A,r,M,v0,u6,L,D,z,H,x7,y,u,z7,v1,u4,y1,u3,y3,G,t,z5,o,z9,y5,y7,K,z1,F,U,x8,Q,C,O,S,y2,P,T,x9,u8,y6,y8,Z,p,q,W,u0,u5] h (EE SS av (oX h (XA n d neg a) (mB neg n d) rR)):=by
 refine A0 ((xr n h).mono ?_);rintro _ g0 ⟨rfl,e0⟩;obtain rfl:h=g0:=e0.symm;refine⟨_,rfl,aa (λg=>jP (Ok.refl w) λc=>?_) (λg=>?_)⟩
 ·obtain⟨⟨c1,c2⟩,_⟩:=c;rw[c1,decide_eq_true c2]at g;cases g
 have hn:=FM (n:=n) (by simpa using g);refine(xr d h).mono ?_;rintro _ g0 ⟨rfl,e0⟩;obtain rfl:h=g0:=e0.symm;refine⟨_,rfl,aa (λg=>jP (Ok.refl w) λc=>?_) (λg=>?_)⟩
 ·obtain⟨_,⟨c1,c2⟩,_⟩:=c;rw[c1,decide_eq_true c2]at g;cases g
 have hd:=FM (n:=d) (by simpa using g);have l:d≠[48]->¬(n=[48]/\(neg=true\/a=true))->¬(d=[49]/\a=true)->∀{x0 x1 x2 x3 x4 x5 z4 z6 I z0 Y u2 u9 y9 u1 z8 J E B X x6 v2 z3 y0 R z2 y4 N u7 s A r M v0 u6 L D z H x7 y u z7 v1 u4 y1 u3 y3 G t z5 o z9 y5 y7 K z1 F U x8 Q C O S y2 P T x9 u8 y6 y8 Z p q W u0 u5:Value},
   TT SS av [1,1,1,1,1,1,1] [x0,x1,x2,x3,x4,x5,strOf n,strOf d,.bool neg,.int .i64 m,z4,z6,I,z0,Y,u2,u9,y9,u1,z8,J,E,B,X,x6,v2,z3,y0,R,z2,y4,N,u7,s,A,r,M,v0,u6,L,D,z,H,x7,y,u,z7,v1,u4,y1,u3,y3,G,t,z5,o,z9,y5,y7,K,z1,F,U,x8,Q,C,O,S,y2,P,T,x9,u8,y6,y8,Z,p,q,W,u0,u5] h (EE SS av (oX h (XA n d neg a) (mB neg n d) rR)):=by
  intro c3 c4 c5;intros;refine A1 ((Fy n d h w).mono ?_);rintro _ h1 ⟨rfl,o1⟩;rw[wV hn.1 hd.1];refine⟨_,_,rfl,?_⟩;have e1:ag (Nat.gcd (Num.val n) (Num.val d))=[49]↔Nat.gcd (Num.val n) (Num.val d)=1:=ef;refine aa (λb=>aa (λi=>jP o1 λc=>?_) (λi=>vV o1 ?_)) (λb=>vV o1 ?_)
  ·have b:¬ag (Nat.gcd (Num.val n) (Num.val d))=[49]:=by simpa using b
   have i:¬d=[49]:=by simpa using i
   rcases c.2.2.2.2.2 with c|c
   ·exact b (e1.2 c)
   ·exact i c
  ·have i:d=[49]:=by simpa using i
   exact⟨hn,hd,c3,c4,c5,.inr i⟩
  ·have b:ag (Nat.gcd (Num.val n) (Num.val d))=[49]:=by simpa using b
   exact⟨hn,hd,c3,c4,c5,.inl (e1.1 b)⟩
 refine aa (λb=>jP (Ok.refl w) λc=>?_) (λb=>?_)
 ·exact c.2.2.1 (by simpa using b)
 have b:d≠[48]:=by simpa using b
 have v4:∀{x:Bool},(x=true->m>=0)->True:=λ_=>trivial;have V:decide (m>=0)=false->¬a=true:=λe f=>by rw[v3]at f;rw[f]at e;cases e
 have v:decide (m>=0)=true->a=true:=λe=>by rw[v3,e]
 refine aa (λi=>?_) (λi=>?_)
 ·have i:n=[48]:=by simpa using i
  refine aa (λg3=>jP (Ok.refl w) λc=>c.2.2.2.1 ⟨i,.inl g3⟩) (λg3=>?_);have g3:¬neg=true:=by rw[g3];simp
  refine aa (λg4=>jP (Ok.refl w) λc=>c.2.2.2.1 ⟨i,.inr (v g4)⟩) (λg4=>?_);have f4:¬(n=[48]/\(neg=true\/a=true)):=λc=>c.2.elim g3 (V g4);refine aa (λk=>?_) (λk=>?_)
  ·refine aa (λj=>jP (Ok.refl w) λc=>c.2.2.2.2.1 ⟨by simpa using k,v j⟩) (λj=>?_);exact l b f4 (λc=>V j c.2)
  ·exact l b f4 (λc=>(by
    have:¬d=[49]:=by simpa using k
    exact this c.1))
 ·have f4:¬(n=[48]/\(neg=true\/a=true)):=λc=>by
   have:¬n=[48]:=by simpa using i
   exact this c.1
  refine aa (λk=>?_) (λk=>?_)
  ·refine aa (λj=>jP (Ok.refl w) λc=>c.2.2.2.2.1 ⟨by simpa using k,v j⟩) (λj=>?_);exact l b f4 (λc=>V j c.2)
  ·exact l b f4 (λc=>(by
    have:¬d=[49]:=by simpa using k
    exact this c.1))
def ke(l:List UInt8):Value:=if ay l=true then mB (Num.isNeg l) (Num.numOf l) (ak l)else rR
theorem Ha(q:oX h (XA (Num.numOf s) (ak s) (Num.isNeg s) (bo s)) (mB (Num.isNeg s) (Num.numOf s) (ak s)) rR v g):v=ke s/\Ok h g:=by
 obtain⟨o,d,b⟩:=q;refine⟨?_,o⟩;unfold ke;by_cases a:ay s=true
 ·rw[if_pos a];exact d (Af.1 (aY.1 a))
 ·rw[if_neg a];exact b λc=>a (aY.2 (Af.2 c))
theorem eu(l:List UInt8)(z:l.length<=1000000000){h:ae}(w:Wf h):FW SS 94 [strOf l] h (λv I=>v=ke l/\Ok h I):=by
 refine FW.mono (Q:=oX h (XA (Num.numOf l) (ak l) (Num.isNeg l) (bo l)) (mB (Num.isNeg l) (Num.numOf l) (ak l)) rR) ?_ (λ_ _ q=>Ha q);have A:∀m:List UInt8,m.length<=1000000000->∀(K:VH),(∀(b:Int),b=Eg m->(if b>=0 then ∃i:Nat,b=(i:Int)/\wrap .i64 (b+1)=((i+1:Nat):Int)/\i=cx 47 m/\i<m.length else ¬cx 47 m<m.length)  ->K (.int .i64 b) h)->FW SS 116 [strOf m,.int .u8 47] h K:=by
  intro m D K H;refine(Hf m D h).mono ?_;rintro _ L ⟨rfl,J⟩;obtain rfl:h=L:=J.symm;refine H _ rfl ?_;unfold Eg;by_cases g:cx 47 m<m.length
  ·rw[if_pos g,if_pos (by omega)];exact⟨_,rfl,by rw[aB (by omega) (by omega)];omega,rfl,g⟩
  ·rw[if_neg g,if_neg (by omega)];exact g
 have t:∀(m:List UInt8),m=bm l->m.length<=1000000000->∀(b:Int),(if b>=0 then ∃i:Nat,b=(i:Int)/\wrap .i64 (b+1)=((i+1:Nat):Int)/\i=cx 47 m/\i<m.length else ¬cx 47 m<m.length)->
   (decide (b>=0)=true->bo l=true/\bO SS.P 9 (strOf m) (some (.int .i64 (wrap .i64 (b+1)))) none none h=some (strOf (ak l))/\bO SS.P 9 (strOf m) none (some (.int .i64 b)) none h=some (strOf (Num.numOf l)))/\
   (decide (b>=0)=false->bo l=false/\m=Num.numOf l/\ak l=[49]):=by
  intro m d D b r;refine⟨λg=>?_,λg=>?_⟩
  ·rw[if_pos (dT g)]at r;obtain⟨i,rfl,G,rfl,B⟩:=r;have s:bo l=true:=by unfold bo;rw[<-d];exact decide_eq_true B
   refine⟨s,?_,?_⟩
   ·rw[G,uz m h B];unfold ak;rw[if_pos s,d]
   ·rw[Hu m h (le_of_lt B)];unfold Num.numOf;rw[d]
  ·rw[if_neg (dF g)]at r;have s:bo l=false:=by unfold bo;rw[<-d];exact decide_eq_false r
   refine⟨s,?_,?_⟩
   ·unfold Num.numOf;rw[<-d,take_of_length_le (by omega)]
   ·unfold ak;rw[s];rfl
 have u:∀(m:List UInt8),m=bm l->m.length<=1000000000:=λm d=>by
  rw[d];unfold bm;split
  ·rw[length_drop];omega
  ·exact z
 refine Hg l h _ (aa (λg=>?_) (λg=>?_))
 ·have g:=dT g
  cases l with
  |nil=>simp at g
  | cons c f=>
   have e:bL SS.P 9 (strOf (c::f)) (.int .i64 0)=some (.int .u8 ((c.toNat:Nat):Int)):=by
    have:=oh Kv (c::f) .i64 (i:=0) (by omega) g;simpa using this
   refine⟨_,e,aa (λp=>?_) (λp=>?_)⟩
   ·have p:c=45:=by
     have:((c.toNat:Nat):Int)=45:=by simpa using p
     rw[<-UInt8.toNat_inj];show c.toNat=45;omega
    have o:Num.isNeg (c::f)=true:=by unfold Num.isNeg;rw[p];rfl
    have d:f=bm (c::f):=by unfold bm;rw[if_pos o];rfl
    have E:bO SS.P 9 (strOf (c::f)) (some (.int .i64 1)) none none h=some (strOf f):=uz (c::f) h (a:=1) (by simp);refine⟨_,E,A f (u _ d) _ (λb F r=>⟨b,rfl,?_⟩)⟩;obtain⟨x,y⟩:=t f d (u _ d) b r;have C:(((c.toNat:Nat):Int)==45)=true:=p▸rfl;rw[o,C];refine aa (λg=>?_) (λg=>?_)
    ·obtain⟨n,k,j⟩:=x g;exact⟨_,k,_,j,qG _ _ true b _ (by rw[n,g]) w⟩
    ·obtain⟨n,k,j⟩:=y g;rw[j,<-k];exact qG _ _ true b _ (by rw[n,g]) w
   ·have p:¬c=45:=λe=>by rw[e]at p;cases p
    have o:Num.isNeg (c::f)=false:=by
     unfold Num.isNeg;simp[p]
    have d:c::f=bm (c::f):=by unfold bm;rw[o];rfl
    have C:(((c.toNat:Nat):Int)==45)=false:=by
     have:((c.toNat:Nat):Int)≠45:=λe=>p (by rw[<-UInt8.toNat_inj];show c.toNat=45;omega);simpa using this
    refine A (c::f) z _ (λb F r=>⟨b,rfl,?_⟩);obtain⟨x,y⟩:=t _ d z b r;rw[o,C];refine aa (λg=>?_) (λg=>?_)
    ·obtain⟨n,k,j⟩:=x g;exact⟨_,k,_,j,qG _ _ false b _ (by rw[n,g]) w⟩
    ·obtain⟨n,k,j⟩:=y g;rw[j,<-k];exact qG _ _ false b _ (by rw[n,g]) w
 ·have g:=dF g;obtain rfl:l=[]:=List.eq_nil_of_length_eq_zero (by omega);have d:[]=bm []:=rfl;refine A [] (by simp) _ (λb F r=>⟨b,rfl,?_⟩);obtain⟨x,y⟩:=t _ d (by simp) b r;refine aa (λg=>?_) (λg=>?_)
  ·obtain⟨n,k,j⟩:=x g;exact⟨_,k,_,j,qG _ _ false b _ (by rw[n,g]) w⟩
  ·obtain⟨n,k,j⟩:=y g;rw[j,<-k];exact qG _ _ false b _ (by rw[n,g]) w
theorem Fo{l:List UInt8}{K:Value->Prop}(a:K (ke l)):∃(c:Bool)(d e:List UInt8)(b:Bool),ke l=(.tuple ⟨[.bool c,strOf d,strOf e,.bool b]⟩)/\K (.tuple ⟨[.bool c,strOf d,strOf e,.bool b]⟩)/\b=ay l:=by
 unfold ke at*
 cases g:ay l with
 |true=>rw[g]at a;exact⟨_,_,_,_,rfl,a,rfl⟩
 |false=>rw[g]at a;exact⟨_,_,_,_,rfl,a,rfl⟩
theorem xu(l:List UInt8)(d:l.length<=1000000000){h:ae}(w:Wf h):FW SS 71 [strOf l] h (λv f=>v = .bool (ay l)/\Ok h f):=by
 refine Hj l h _ ((eu l d w).mono ?_);rintro _ k ⟨rfl,a⟩;obtain⟨b,i,j,c,e,_,g⟩:=Fo (l:=l) (K:=λ_=>True) trivial;exact⟨b,i,j,c,e,by rw[g],a⟩
theorem ot(h:n<10^800):Num.valid (ag n)=true:=ee.2 (lt_of_lt_of_le h (jI (k:=800) (m:=1000) (by decide)))
theorem Nc(h:m<10^1000):oR m=two (ag m) 0:=by
 unfold oR;rw[if_neg];have:=(dH (n:=m) (k:=1000) (by decide)).2 h;omega
theorem Ij(b:n<10^800)(a:m<10^800):AP (ag n) (ag m)=two (ag (n+m)) 0:=by
 unfold AP;rw[if_pos ⟨ot b,ot a⟩,bt,bt];exact Nc (lt_of_lt_of_le (Nat.add_lt_add b a) EH)
theorem ye(b:n<10^800)(a:m<10^800)(h:m<=n):A4 (ag n) (ag m)=two (ag (n-m)) 0:=by
 unfold A4;rw[if_pos ⟨ot b,ot a⟩,bt,bt,if_neg (Nat.not_lt.2 h)]
theorem Iz(b:n<10^800)(a:m<10^800):AS (ag n) (ag m) = .int .i64 (eE n m):=by
 unfold AS;rw[if_pos ⟨ot b,ot a⟩,bt,bt]
theorem cZ{a b:List UInt8}(d:Num.valid a=true)(c:Num.valid b=true)(e:a.length<=400)(f:b.length<=400):AX a b=two (ag (Num.val a*Num.val b)) 0/\Num.val a*Num.val b<10^800:=by
 have h:=DX (q8 (k:=400) d (by decide) e) (q8 (k:=400) c (by decide) f);refine⟨?_,h⟩;unfold AX;rw[if_pos ⟨d,c⟩];exact Nc (lt_of_lt_of_le h (jI (k:=800) (m:=1000) (by decide)))
def As(s:Bool)(A:Nat)(t:Bool)(B:Nat):Value:= .tuple ⟨[.bool (dB s A t B).1,strOf (ag (dB s A t B).2)]⟩
theorem wO:eE n m<0↔n<m:=vy
theorem Db(s:Bool)(A:Nat)(t:Bool)(B:Nat)(f:A<10^800)(e:B<10^800){h:ae}(w:Wf h):FW SS 95 [.bool s,strOf (ag A),.bool t,strOf (ag B)] h (λv l=>v=As s A t B/\Ok h l):=by
 refine L5 s _ t _ h _ (aa (λg=>?_) (λg=>?_))
 ·have g:s=t:=by simpa using g
  refine(PY _ _ w).mono ?_;rintro _ j ⟨rfl,a⟩;rw[Ij f e];refine⟨_,_,rfl,?_,a⟩;unfold As dB;rw[if_pos g]
 ·have g:¬s=t:=by simpa using g
  refine(P0 _ _ w).mono ?_;rintro _ j ⟨rfl,a⟩;rw[Iz f e];refine⟨_,rfl,aa (λd=>?_) (λd=>?_)⟩
  ·have d:=dT d;have b:¬A<B:=λc=>by have:=wO.2 c;omega
   refine(Fz _ _ a.wf).mono ?_;rintro _ k ⟨rfl,i⟩;rw[ye f e (Nat.not_lt.1 b)];refine⟨_,_,rfl,?_,a.trans i⟩;unfold As dB;rw[if_neg g,if_neg b]
  ·have d:=dF d;have b:A<B:=wO.1 (by omega);refine(Fz _ _ a.wf).mono ?_;rintro _ k ⟨rfl,i⟩;rw[ye e f (le_of_lt b)];refine⟨_,_,rfl,?_,a.trans i⟩;unfold As dB;rw[if_neg g,if_pos b]
theorem fu{a b:List UInt8}(f:Num.valid a=true)(c:Num.valid b=true)(g:a.length<=400)(i:b.length<=400){h:ae}(w:Wf h):FW SS 96 [strOf a,strOf b] h (λv e=>v=strOf (ag (Num.val a*Num.val b))/\Ok h e):=by
 refine Hi a b h _ ((Qd a b w).mono ?_);rintro _ j ⟨rfl,d⟩;rw[(cZ f c g i).1];exact⟨_,_,rfl,rfl,d⟩
theorem Da(l m:List UInt8)(u:l.length<=1000000000)(p:m.length<=1000000000){h:ae}(w:Wf h):FW SS 72 [strOf l,strOf m] h (λv A=>v = .int .i64 (cW l m)/\Ok h A):=by
 refine L4 l m h _ ((eu l u w).mono ?_);rintro _ E ⟨rfl,i⟩
 cases g:ay l with
 |false=>
  have e:ke l=rR:=by unfold ke;rw[g];rfl
  refine⟨_,_,_,_,e,(eu m p i.wf).mono ?_⟩;rintro _ y ⟨rfl,j⟩;obtain⟨s,B,C,t,k,_,G⟩:=Fo (l:=m) (K:=λ_=>True) trivial;refine⟨s,B,C,t,k,?_,i.trans j⟩;unfold cW;rw[if_neg (λc=>by rw[c.1]at g;cases g)]
 | true=>
  have e:ke l=mB (Num.isNeg l) (Num.numOf l) (ak l):=by unfold ke;rw[g];rfl
  refine⟨_,_,_,_,e,(eu m p i.wf).mono ?_⟩;rintro _ y ⟨rfl,j⟩
  cases f:ay m with
  |false=>
   have k:ke m=rR:=by unfold ke;rw[f];rfl
   refine⟨_,_,_,_,k,?_,i.trans j⟩;unfold cW;rw[if_neg (λc=>by rw[c.2]at f;cases f)]
  | true=>
   have k:ke m=mB (Num.isNeg m) (Num.numOf m) (ak m):=by unfold ke;rw[f];rfl
   have a:=aY.1 g;have b:=aY.1 f;refine⟨_,_,_,_,k,(fu a.num b.den a.ln b.ld j.wf).mono ?_⟩;rintro _ D ⟨rfl,r⟩;refine⟨_,rfl,(fu b.num a.den b.ln a.ld r.wf).mono ?_⟩;rintro _ F ⟨rfl,q⟩;refine⟨_,rfl,(Db _ _ _ _ (cZ a.num b.den a.ln b.ld).2 (cZ b.num a.den b.ln a.ld).2 q.wf).mono ?_⟩;rintro _ H ⟨rfl,x⟩;have o:=(((i.trans j).trans r).trans q).trans x;refine⟨_,_,rfl,?_⟩;unfold cW;rw[if_pos ⟨g,f⟩];generalize dB _ _ _ _=z;refine aa (λd=>⟨?_,o⟩) (λd=>?_)
   ·have d:ag z.2=[48]:=by simpa using d
    rw[if_pos (bI.1 d)]
   ·have d:¬ag z.2=[48]:=by simpa using d
    rw[if_neg (λc=>d (bI.2 c))];refine aa (λn=>⟨?_,o⟩) (λn=>⟨?_,o⟩)
    ·rw[if_pos n]
    ·rw[if_neg (by rw[n];simp)]
end Go.Proofs.YtaaichlgdgjgjaaGreatDoor
end
section
set_option linter.defProp false
namespace Go.Proofs.YtaaichlgdgjgjaaGreatDoor
open Go Go.Ab Go.Num
variable{h:ae}{n:Nat}{m:Nat}{x:List Nat}{g:ae}
structure MR(hb:ae)(kt N:Nat)(L:List Nat)(g:ae):Prop where
 len:L.length=N
 lt:∀d∈L,d<BB
 row:g.get kt=some (.cells (cA ((List.replicate N 0).map uv) 0 L) 150 1 true)
 ok:Ok hb g
theorem MR.room(a:MR h n m x g)(r:Nat):MR h n m x (Go.Ab.room g r):=⟨a.len,a.lt,a.row,a.ok.room r⟩
theorem MR.get{c:Nat}{b:ae}(a:MR g n m x b){j:Int}{jn:Nat}(r:j=(jn:Int))(f:jn<m):∃p:Addr,aA SS.P 177 (.slice (some ⟨n,0,none⟩) m c) (.int .i64 j)=some (.pointer (some p))/\aj SS.P 150 b (.pointer (some p))=some (.int .u64 (x.getD jn 0:Nat))/\
  ∀d:Nat,d<BB->n<b.next->g.next<=n->Wf g->∃u:dJ,ah SS.P 150 (.pointer (some p)) (.int .u64 (d:Int)) b=some (undef,u)/\MR g n m (x.set jn d) (u.app b):=by
 subst r;have i:(0:Nat)+x.length<=((List.replicate m 0).map uv).length:=by rw[lM,length_replicate,a.len];omega
 refine⟨⟨n,0+(jn:Int).toNat,none⟩,wX (by omega) (by omega),?_,?_⟩
 ·rw[toNat_natCast];exact CM a.row i (by rw[a.len];exact f)
 ·intro d q o k w;rw[toNat_natCast];refine⟨_,Dp a.row i (by rw[a.len];exact f) d,by rw[length_set];exact a.len,λe l=>?_,?_,a.ok.set _ k o w⟩
  ·rcases List.mem_or_eq_of_mem_set l with h|h
   ·exact a.lt e h
   ·rw[h];exact q
  ·show(b.set n _).get n=_;rw[ae.aw,if_pos rfl]
def Tg(a:ae)(c N n:Nat)(x y:List Nat)(b i:Nat)(g:ae):Prop:=i<=n/\b=n-i/\∃L,MR a c N L g/\Num.bv BB L=Num.bv BB (x.take i)*Num.bv BB y
def YU(b:ae)(d N k:Nat)(x y:List Nat)(i c j:Nat)(cy:Int)(g:ae):Prop:=j<=k+1/\c=k+1-j/\∃(L:List Nat)(a:Nat),cy=(a:Int)/\a<BB/\MR b d N L g/\Num.bv BB L+a*BB^(i+j)=Num.bv BB (x.take i)*Num.bv BB y+x.getD i 0*Num.bv BB (y.take j)*BB^i
theorem Lo(w:Wf h){c N k:Nat}{x y:List Nat}(A:h.next<=c)(u:∀d∈x,d<BB)(z:∀d∈y,d<BB){i l j:Nat}{f:Nat}{L:List Nat}{g:ae}(C:j<k+1)(o:i+j<N)(B:l=k+1-j)(n:f<BB)(m:MR h c N L g)(s:Num.bv BB L+f*BB^(i+j)=Num.bv BB (x.take i)*Num.bv BB y+x.getD i 0*Num.bv BB (y.take j)*BB^i){q:Nat}(r:q=x.getD i 0*y.getD j 0):
  q<=999999998000000001/\L.getD (i+j) 0<BB/\(∀p,MR h c N (L.set (i+j) ((L.getD (i+j) 0+f+q)%BB)) p->l-1<l/\YU h c N k x y i (l-1) (j+1) (((L.getD (i+j) 0+f+q)/BB:Nat):Int) p)/\(L.getD (i+j) 0+f+q)%BB<BB/\c<g.next:=by
 have e:=aZ (b:=BB) (by decide) u i;have a:=aZ (b:=BB) (by decide) z j;have t:=aZ (b:=BB) (by decide) m.lt (i+j);refine⟨?_,t,λp v=>⟨by omega,by omega,by omega,_,_,rfl,?_,v,?_⟩,mod_lt _ (by decide),m.ok.wf _ _ m.row⟩
 ·rw[r];exact Nat.le_trans (mul_le_mul (Nat.le_of_lt_succ e) (Nat.le_of_lt_succ a)) (by decide)
 ·exact(vF gA m.lt (by rw[m.len];exact o) n e a (by rw[r]) s).2.1
 ·exact(vF gA m.lt (by rw[m.len];exact o) n e a (by rw[r]) s).2.2
def O7{f:ae}(w:Wf f){a:Option Addr}{n c:Nat}{b:Option Addr}{k d:Nat}{v N t:Nat}{x y:List Nat}(ra:Rd f 150 (.slice a n c) (x.map uv))(rb:Rd f 150 (.slice b k d) (y.map uv))(R:∀d∈x,d<BB)(W:∀d∈y,d<BB)(o:f.next<=v){i:Nat}(hi:i<n)(hn:n=x.length)(hk:k=y.length)(hN:N=n+k+1)(x0:N<=1000)(l m:List UInt8)(Q:VH)(M:Nat)(x2:M=n-i):=
 xk l m a n c b k d (some ⟨v,0,none⟩) N t (n:Int) (Tg f v N n x y) M i ((k:Int)+1) (YU f v N k x y i) Q (by
  intro A j cy;intros;rename_i g K;obtain⟨h1,h2,L,z,rfl,h3,e,T⟩:=K;have x1:BB=1000000000:=rfl;have X:wrap .i64 ((i:Int)+(j:Int))=((i+j:Nat):Int):=by rw[aB (by omega) (by omega)];omega
  have e2:wrap .i64 ((j:Int)+1)=((j+1:Nat):Int):=by rw[aB (by omega) (by omega)];omega
  have e3:wrap .i64 ((i:Int)+1)=((i+1:Nat):Int):=by rw[aB (by omega) (by omega)];omega
  rw[X,e2,e3];refine aa (λs=>?_) (λs=>?_)
  ·have s:=dT s;obtain⟨q,E⟩:∃q,q=x.getD i 0*y.getD j 0:=⟨_,rfl⟩
   obtain⟨s1,s2,B,D,O⟩:=Lo w o R W (by omega) (by omega) h2 h3 e T E;obtain⟨p,g1,Y,_⟩:=e.get (c:=t) (j:=((i+j:Nat):Int)) rfl (by omega);have S:wrap .u64 (((L.getD (i+j) 0:Nat):Int)+(z:Int))=((L.getD (i+j) 0+z:Nat):Int):=by rw[gH (by omega) (by omega)];omega
   refine⟨p,g1,_,Y,aa (λr=>?_) (λr=>?_)⟩
   ·have r:=dT r;obtain⟨p1,f1,U⟩:=EP (ra.ok (e.room 12).ok) (i:=(i:Int)) (by omega) (by omega);obtain⟨Z,f3,V⟩:=EP (rb.ok (e.room 12).ok) (i:=(j:Int)) (by omega) (by omega);rw[toNat_natCast]at U V;have e5:wrap .u64 (((x.getD i 0:Nat):Int)*((y.getD j 0:Nat):Int))=(q:Int):=by rw[<-Int.natCast_mul,<-E];exact gH (by omega) (by omega)
    have e6:wrap .u64 (((L.getD (i+j) 0+z:Nat):Int)+(q:Int))=((L.getD (i+j) 0+z+q:Nat):Int):=by rw[gH (by omega) (by omega)];omega
    rw[S];refine⟨p1,f1,_,U,Z,f3,_,V,?_⟩;dsimp only;rw[e5,e6];obtain⟨I,J,_,G⟩:=(e.room 12).get (c:=t) (j:=((i+j:Nat):Int)) rfl (by omega);obtain⟨u,F,C⟩:=G _ D (lt_of_lt_of_le O (Nat.le_add_right _ _)) o w;obtain⟨H,h⟩:=B _ C;refine⟨_,gG (b:=BB) (by omega) (by decide),_,pM (b:=BB) (by omega) (by omega) (by decide),I,J,u,F,iT (A-1) H ?_⟩;rw[natCast_ediv]at h;exact h
   ·have r:=dF r;have y0:y.getD j 0=0:=by rw[gD,getElem?_eq_none (by omega)];rfl
    have P:q=0:=by rw[E,y0,Nat.mul_zero]
    rw[S];obtain⟨I,J,_,G⟩:=e.get (c:=t) (j:=((i+j:Nat):Int)) rfl (by omega);rw[P,Nat.add_zero]at B D;obtain⟨u,F,C⟩:=G _ D O o w;obtain⟨H,h⟩:=B _ C;refine⟨_,gG (b:=BB) (by omega) (by decide),_,pM (b:=BB) (by omega) (by omega) (by decide),I,J,u,F,iT (A-1) H ?_⟩;rw[natCast_ediv]at h;exact h
  ·have s:=dF s;obtain rfl:j=k+1:=by omega
   refine bW (n-(i+1)) (by omega) ⟨by omega,rfl,L,e,?_⟩;exact EG gA R W (by omega) e.lt (by rw[<-hk];exact T))
theorem UY(d:(aW BB n).length<=112)(f:(aW BB m).length<=112):(aW BB (n*m)).length<=10000:=by
 have a:=fk (dh gA n);have b:=fk (dh gA m);rw[cg gA]at a b;have c:=lt_of_lt_of_le a (pow_le_pow_right (show 0<BB by decide) d);have e:=lt_of_lt_of_le b (pow_le_pow_right (show 0<BB by decide) f);refine Nat.le_trans (lF gA (k:=224) ?_) (by omega);rw[show 224=112+112 from rfl,pow_add];exact Nat.mul_lt_mul'' c e
theorem ml(a b:List UInt8){h:ae}(t:nz h)(w:Wf h):FW SS 143 [strOf a,strOf b] h (λv A=>v=AX a b/\Ok h A):=by
 refine Pg a b h _ ((dC a h).mono ?_);rintro _ D ⟨rfl,B⟩;obtain rfl:h=D:=B.symm;refine⟨_,rfl,aa (λg=>?_) (λg=>?_)⟩
 ·have g:Num.valid a=false:=by simpa using g
  refine⟨?_,Ok.refl w⟩;unfold AX;rw[if_neg (λe=>by rw[e.1]at g;cases g)];rfl
 have g:Num.valid a=true:=by simpa using g
 refine(dC b h).mono ?_;rintro _ D ⟨rfl,B⟩;obtain rfl:h=D:=B.symm;refine⟨_,rfl,aa (λl=>?_) (λl=>?_)⟩
 ·have l:Num.valid b=false:=by simpa using l
  refine⟨?_,Ok.refl w⟩;unfold AX;rw[if_neg (λe=>by rw[e.2]at l;cases l)];rfl
 have l:Num.valid b=true:=by simpa using l
 have P:=XY g l;have lx:=P.lx;have ly:=P.ly;refine(ki g w).mono ?_;rintro _ h1 ⟨S,f,O,rfl,T,u⟩;refine⟨_,_,_,rfl,(ki l u.wf).mono ?_⟩;rintro _ m ⟨G,k,Q,rfl,o2,z⟩;refine⟨_,_,_,rfl,?_⟩;have hS:AX a b=oR (Num.val a*Num.val b):=by unfold AX;rw[if_pos ⟨g,l⟩]
 rw[hS];have q:=T.rd.ok z;have r:=o2.rd;have s:=u.trans z;have N:f=(aW BB (Num.val a)).length:=by have:=q.len;rwa[lM]at this
 have F:k=(aW BB (Num.val b)).length:=by have:=r.len;rwa[lM]at this
 have hX:=dh gA (Num.val a);have Z:=dh gA (Num.val b);have bX:=cg gA (Num.val a);have W:=cg gA (Num.val b);have q:Rd m 150 (.slice S f O) ((aW BB (Num.val a)).map uv):=q;have r:Rd m 150 (.slice G k Q) ((aW BB (Num.val b)).map uv):=r;have J:(aW BB (Num.val a*Num.val b)).length<=10000:=UY lx ly;generalize Num.val a=X at*;generalize Num.val b=Y at*;generalize aW BB X=x at*;generalize aW BB Y=y at*;have V:wrap .i64 (wrap .i64 ((f:Int)+(k:Int))+1)=((f+k+1:Nat):Int):=by
  rw[aB (n:=(f:Int)+(k:Int)) (by omega) (by omega),aB (by omega) (by omega)];omega
 dsimp only;rw[V];refine⟨_,_,_,YT _ (by omega),?_⟩;have I:=(Ok.refl s.wf).push (.cells ((List.replicate (f+k+1) 0).map uv) 150 1 true);have m0:MR m m.next (f+k+1) (List.replicate (f+k+1) 0) (m.push (.cells ((List.replicate (f+k+1) 0).map uv) 150 1 true)):=by
  refine⟨length_replicate,λd hd=>by rw[(List.mem_replicate.1 hd).2];decide,?_,I⟩;rw[ae.br,if_pos rfl,m3 (by rw[drop_zero,length_replicate,take_of_length_le (by rw[lM,length_replicate];omega)])]
 refine xj a b S f O G k Q (some ⟨m.next,0,none⟩) (f+k+1) (f+k+1) (f:Int) (Tg m m.next (f+k+1) f x y) (λv A=>v=oR (X*Y)/\Ok h A) (λU i=>?_) f (i:=0) ⟨by omega,by omega,_,m0,by rw[sP,take_zero];simp[Num.bv]⟩;intros;rename_i g hi;obtain⟨f1,f2,L,o,E⟩:=hi;refine aa (λp=>?_) (λp=>?_)
 ·have p:=dT p;have e2:wrap .i64 ((k:Int)+1)=(k:Int)+1:=aB (by omega) (by omega);rw[e2];exact O7 s.wf q r hX Z (Nat.le_refl _) (i:=i) (by omega) N F rfl (by omega) a b _ U f2 (k+1) (j:=0) (cy:=0) ⟨by omega,by omega,L,0,rfl,by decide,o,by rw[E,take_zero];simp[Num.bv]⟩
 ·have p:=dF p;obtain rfl:f=i:=by omega
  rw[take_of_length_le (by omega),bX,W]at E;have C:f+k+1<=bN (f+k+1):=by unfold bN;rw[if_neg (by unfold di;omega)];omega
  have M:=By o.row (n:=f+k+1) (c:=f+k+1) o.len.symm C;refine(pK M (by rw[o.len];omega)).mono ?_;rintro _ h6 ⟨rfl,e6⟩;subst e6;have H:=zy M o.lt;rw[E]at H;refine⟨_,_,_,rfl,(vd H J (t.ok (s.trans o.ok)) o.ok.wf).mono ?_⟩;rintro _ h7 ⟨rfl,R⟩;exact yi (K:=λv=>v=oR (X*Y)/\Ok h h7) (xd _) ⟨rfl,(s.trans o.ok).trans R⟩
end Go.Proofs.YtaaichlgdgjgjaaGreatDoor
end
section
namespace Go.Proofs.YtaaichlgdgjgjaaGreatDoor
open Go Go.Ab Go.Num
variable{h:ae}{k:Nat}{b:Bool}{s:List UInt8}{t:List UInt8}{g:ae}{v:Value}
def qQ:dN:= .cells [.bool false,strOf [],strOf []] 155 0 true
theorem uV:bq SS.P 155=some (qQ,kZ):=by kernel_rfl
theorem YE(neg:Bool)(n d:List UInt8):bg SS.P 155 [(0,(.bool neg)),(1,(strOf n)),(2,(strOf d))]=some (.agg ⟨[.bool neg,strOf n,strOf d]⟩):=by kernel_rfl
theorem qd:bg SS.P 155 []=some (.agg ⟨[.bool false,strOf [],strOf []]⟩):=by kernel_rfl
theorem UK:aE SS.P 155=some 3:=by kernel_rfl
theorem aaN:Go.Ab.isAgg SS.P 155=true:=by kernel_rfl
noncomputable def aas:TypeDesc:=(SS.P.underlying 155).getD .bool
theorem ace:SS.P.underlying 155=some aas:=by kernel_rfl
theorem UB{cs0:List Value}(a:cs0.length=3)(e:h.get k=some (.cells cs0 155 0 true))(b:Bool)(n d:List UInt8):ah SS.P 155 (.pointer (some ⟨k,0,none⟩)) (.agg ⟨[.bool b,strOf n,strOf d]⟩) h=some (undef,.set k (.cells [.bool b,strOf n,strOf d] 155 0 true)):=by
 unfold ah;dsimp only;rw[if_pos (show aE SS.P 155=some ((Value.agg ⟨[.bool b,strOf n,strOf d]⟩).cells).size from UK)];unfold storeAt;rw[e];dsimp only;have c:([.bool b,strOf n,strOf d]:List Value).all dI=true:=rfl;rw[show(Value.agg ⟨[.bool b,strOf n,strOf d]⟩).cells.toList=[.bool b,strOf n,strOf d]from rfl,if_pos ⟨by simp[a],c⟩,List.drop_eq_nil_of_le (by simp[a])];rfl
theorem Ja(a:h.get k=some (.cells [.bool b,strOf s,strOf t] 155 0 true)):aj SS.P 155 h (.pointer (some ⟨k,0,none⟩))=some (.agg ⟨[.bool b,strOf s,strOf t]⟩):=pH ace aaN UK a (by simp)
theorem fi(l:List UInt8)(h:ae):FW SS 142 [strOf l,.int .i64 0] h (λv a=>v=strOf l/\a=h):=
 LW l 0 h _ (aa (λg=>by cases g) (λ_=>⟨rfl,rfl⟩))
theorem C6(s:Bool)(A:Nat)(t:Bool)(B:Nat)(i:A<10^800)(e:B<10^800){h:ae}(f:nz h)(w:Wf h):FW SS 141 [.bool s,strOf (ag A),.bool t,strOf (ag B)] h (λv m=>v=As s A t B/\Ok h m):=by
 refine LX s _ t _ h _ (aa (λg=>?_) (λg=>?_))
 ·have g:s=t:=by simpa using g
  refine(Pa _ _ f w).mono ?_;rintro _ k ⟨rfl,a⟩;rw[Ij i e];refine⟨_,_,rfl,(fi _ _).mono ?_⟩;rintro _ _ ⟨rfl,rfl⟩;refine⟨_,rfl,?_,a⟩;unfold As dB;rw[if_pos g]
 ·have g:¬s=t:=by simpa using g
  refine(Pc _ _ f w).mono ?_;rintro _ k ⟨rfl,a⟩;rw[Iz i e];refine⟨_,rfl,aa (λd=>?_) (λd=>?_)⟩
  ·have d:=dT d;have b:A<B:=wO.1 (by omega);refine(Fj _ _ (f.ok a) a.wf).mono ?_;rintro _ l ⟨rfl,j⟩;rw[ye e i (le_of_lt b)];refine⟨_,_,rfl,(fi _ _).mono ?_⟩;rintro _ _ ⟨rfl,rfl⟩;refine⟨_,rfl,?_,a.trans j⟩;unfold As dB;rw[if_neg g,if_pos b]
  ·have d:=dF d;have b:¬A<B:=λc=>by have:=wO.2 c;omega
   refine(Fj _ _ (f.ok a) a.wf).mono ?_;rintro _ l ⟨rfl,j⟩;rw[ye i e (Nat.not_lt.1 b)];refine⟨_,_,rfl,(fi _ _).mono ?_⟩;rintro _ _ ⟨rfl,rfl⟩;refine⟨_,rfl,?_,a.trans j⟩;unfold As dB;rw[if_neg g,if_neg b]
def rS(b:Bool)(n d:List UInt8):Value:= .agg ⟨[.bool b,strOf n,strOf d]⟩
def rY(l:List UInt8):Value:=if ay l=true then .tuple ⟨[rS (Num.isNeg l) (Num.numOf l) (ak l),.bool true]⟩else .tuple ⟨[rS false [] [],.bool false]⟩
def uk(b:Bool)(n d:List UInt8):Value:= .tuple ⟨[rS b n d,.bool true]⟩
def tr:Value:= .tuple ⟨[rS false [] [],.bool false]⟩
structure Kz(h0:ae)(k:Nat)(g:ae):Prop where
 row:∃cs0:List Value,cs0.length=3/\g.get k=some (.cells cs0 155 0 true)
 new:h0.next<=k
 ok:Ok h0 g
theorem Kz.trans{a:ae}(m:Kz h k g)(o:Ok g a):Kz h k a:=by
 obtain⟨⟨cs,c,d⟩,b,e⟩:=m;exact⟨⟨cs,c,o.ext _ _ d⟩,b,e.trans o⟩
theorem Jm(w:Wf h){k:Nat}{g:ae}(m:Kz h k g)(b:Bool)(n d:List UInt8)(a:Bool){Q:VH}(j:∀c,Ok h c->Q (.tuple ⟨[rS b n d,.bool a]⟩) c):
  ∃u:dJ,ah SS.P 155 (.pointer (some ⟨k,0,none⟩)) (.agg ⟨[.bool b,strOf n,strOf d]⟩) g=some (undef,u)/\dX SS [(.pointer (some ⟨k,0,none⟩),some 155),(.bool a,none)] (u.app g) Q:=by
 obtain⟨⟨cs,i,e⟩,l,f⟩:=m;refine⟨_,UB i e b n d,?_⟩;have o:Ok h ((dJ.set k (.cells [.bool b,strOf n,strOf d] 155 0 true)).app g):=f.set _ l (f.wf _ _ e) w;have p:((dJ.set k (.cells [.bool b,strOf n,strOf d] 155 0 true)).app g).get k=some (.cells [.bool b,strOf n,strOf d] 155 0 true):=by
  show(g.set k _).get k=_;rw[ae.aw,if_pos rfl]
 refine wR (v:=rS b n d) (Ja p) ?_;exact j _ o
def Xw(n d:List UInt8)(neg a:Bool):Prop:=Num.valid n=true/\Num.valid d=true/\n.length<=400/\d.length<=400/\¬(neg=true/\n=[48])/\¬(a=true/\(d=[48]\/d=[49]))/\Nat.gcd (Num.val n) (Num.val d)=1
theorem mT(w:Wf h){k:Nat}{g:ae}(m:Kz h k g){C:Prop}(a:¬C){G:Value}:
  ∃u:dJ,ah SS.P 155 (.pointer (some ⟨k,0,none⟩)) (.agg ⟨[.bool false,strOf [],strOf []]⟩) g=some (undef,u)/\dX SS [(.pointer (some ⟨k,0,none⟩),some 155),(.bool false,none)] (u.app g) (oX h C G tr):=
 Jm w m false [] [] false (λ_ o=>jP o a)
theorem Nu(n d:List UInt8)(neg h:Bool)(k:Nat){h0 g:ae}(w:Wf h0)(m:Kz h0 k g)(tb:nz g){x0 x1 x3 x4 x9 z2 z4 J y8 X z9 u5 y7 z8 z6 K F C W Z u8 z1 x7 S z0 y2 O u3 v B u N u6 u2 M E A I x2 z y z5 u7 u1 x8 u0 y1 H x z3 s z7 y3 y5 L y9 G V x5 R D P T y0 Q U x6 u4 y4 y6 Y t:Value}:
  TT SS al [1,1,1,1] [x0,x1,.pointer (some ⟨k,0,none⟩),x3,x4,.bool neg,strOf n,strOf d,.bool h,x9,z2,z4,J,y8,X,z9,u5,y7,z8,z6,K,F,C,W,Z,u8,z1,x7,S,z0,y2,O,u3,v,B,u,N,u6,u2,M,E,A,I,x2,z,y,z5,u7,u1,x8,u0,y1,H,x,z3,s,z7,y3,y5,L,y9,G,V,x5,R,D,P,T,y0,Q,U,x6,u4,y4,y6,Y,t] g (EE SS al (oX h0 (Xw n d neg h) (uk neg n d) tr)):=by
 refine C2 ((dC n g).mono ?_);rintro _ g0 ⟨rfl,e0⟩;obtain rfl:g=g0:=e0.symm;refine⟨_,rfl,aa (λl=>⟨_,qd,mT w m (λc=>?_)⟩) (λl=>?_)⟩
 ·rw[c.1]at l;cases l
 have l:Num.valid n=true:=by simpa using l
 refine(dC d g).mono ?_;rintro _ g0 ⟨rfl,e0⟩;obtain rfl:g=g0:=e0.symm;refine⟨_,rfl,aa (λi=>⟨_,qd,mT w m (λc=>?_)⟩) (λi=>?_)⟩
 ·rw[c.2.1]at i;cases i
 have i:Num.valid d=true:=by simpa using i
 refine aa (λq=>⟨_,qd,mT w m (λc=>?_)⟩) (λq=>?_)
 ·have:=c.2.2.1;have q:=dT q;omega
 have q:n.length<=400:=by have q:=dF q;omega
 refine aa (λj=>⟨_,qd,mT w m (λc=>?_)⟩) (λj=>?_)
 ·have:=c.2.2.2.1;have j:=dT j;omega
 have j:d.length<=400:=by have j:=dF j;omega
 have r:¬(neg=true/\n=[48])->¬(h=true/\(d=[48]\/d=[49]))->∀{x0 x1 x3 x4 x9 z2 z4 J y8 X z9 u5 y7 z8 z6 K F C W Z u8 z1 x7 S z0 y2 O u3 v B u N u6 u2 M E A I x2 z y z5 u7 u1 x8 u0 y1 H x z3 s z7 y3 y5 L y9 G V x5 R D P T y0 Q U x6 u4 y4 y6 Y t:Value},TT SS al [1,1,1,1,1,1] [x0,x1,.pointer (some ⟨k,0,none⟩),x3,x4,.bool neg,strOf n,strOf d,.bool h,x9,z2,z4,J,y8,X,z9,u5,y7,z8,z6,K,F,C,W,Z,u8,z1,x7,S,z0,y2,O,u3,v,B,u,N,u6,u2,M,E,A,I,x2,z,y,z5,u7,u1,x8,u0,y1,H,x,z3,s,z7,y3,y5,L,y9,G,V,x5,R,D,P,T,y0,Q,U,x6,u4,y4,y6,Y,t] g (EE SS al (oX h0 (Xw n d neg h) (uk neg n d) tr)):=by
  intro p c6;intros;refine C4 ((Fi n d tb m.ok.wf).mono ?_);rintro _ h1 ⟨rfl,o1⟩;have m1:=m.trans o1;rw[wV l i];refine⟨_,_,rfl,aa (λe=>by cases e) (λ_=>?_)⟩;refine aa (λe=>⟨_,qd,mT w m1 (λc=>?_)⟩) (λe=>?_)
  ·have e:¬ag (Nat.gcd (Num.val n) (Num.val d))=[49]:=by simpa using e
   exact e (ef.2 c.2.2.2.2.2.2)
  ·have e:ag (Nat.gcd (Num.val n) (Num.val d))=[49]:=by simpa using e
   refine C5 ⟨_,YE neg n d,Jm w m1 neg n d true (λ_ o=>vV o ?_)⟩;exact⟨l,i,q,j,p,c6,ef.1 e⟩
 refine C3 (aa (λg5=>aa (λg6=>⟨_,qd,mT w m (λc=>?_)⟩) (λg6=>?_)) (λg5=>?_))
 ·exact c.2.2.2.2.1 ⟨g5,by simpa using g6⟩
 ·have p:¬(neg=true/\n=[48]):=λc=>by
   have:¬n=[48]:=by simpa using g6
   exact this c.2
  refine aa (λb=>aa (λa=>⟨_,qd,mT w m (λc=>?_)⟩) (λa=>aa (λf=>⟨_,qd,mT w m (λc=>?_)⟩) (λf=>?_))) (λb=>?_)
  ·exact c.2.2.2.2.2.1 ⟨b,.inl (by simpa using a)⟩
  ·exact c.2.2.2.2.2.1 ⟨b,.inr (by simpa using f)⟩
  ·refine r p (λc=>?_);have a:¬d=[48]:=by simpa using a
   have f:¬d=[49]:=by simpa using f
   exact c.2.elim a f
  ·exact r p (λc=>by rw[c.1]at b;cases b)
 ·have p:¬(neg=true/\n=[48]):=λc=>by rw[c.1]at g5;cases g5
  refine aa (λb=>aa (λa=>⟨_,qd,mT w m (λc=>?_)⟩) (λa=>aa (λf=>⟨_,qd,mT w m (λc=>?_)⟩) (λf=>?_))) (λb=>?_)
  ·exact c.2.2.2.2.2.1 ⟨b,.inl (by simpa using a)⟩
  ·exact c.2.2.2.2.2.1 ⟨b,.inr (by simpa using f)⟩
  ·refine r p (λc=>?_);have a:¬d=[48]:=by simpa using a
   have f:¬d=[49]:=by simpa using f
   exact c.2.elim a f
  ·exact r p (λc=>by rw[c.1]at b;cases b)
theorem G9(q:oX h (Xw (Num.numOf s) (ak s) (Num.isNeg s) (bo s)) (uk (Num.isNeg s) (Num.numOf s) (ak s)) tr v g):v=rY s/\Ok h g:=by
 obtain⟨o,d,b⟩:=q;refine⟨?_,o⟩;unfold rY;by_cases a:ay s=true
 ·rw[if_pos a];have r:=aY.1 a;exact d ⟨r.num,r.den,r.ln,r.ld,r.neg,r.fr,r.one⟩
 ·rw[if_neg a];exact b λc=>a (aY.2 ⟨c.1,c.2.1,c.2.2.1,c.2.2.2.1,c.2.2.2.2.1,c.2.2.2.2.2.1,c.2.2.2.2.2.2⟩)
theorem m8(l:List UInt8)(m:l.length<=1000000000){h:ae}(o:nz h)(w:Wf h):FW SS 145 [strOf l] h (λv n=>v=rY l/\Ok h n):=by
 refine FW.mono (Q:=oX h (Xw (Num.numOf l) (ak l) (Num.isNeg l) (bo l)) (uk (Num.isNeg l) (Num.numOf l) (ak l)) tr) ?_ (λ_ _ q=>G9 q);have f:Kz h h.next (h.push qQ):=⟨⟨_,rfl,by rw[ae.br,if_pos rfl];rfl⟩,Nat.le_refl _,(Ok.refl w).push _⟩
 refine JE l h _ ⟨_,uV,(OG l _).mono ?_⟩;rintro _ r ⟨rfl,rfl⟩;have j:(bm l).length<=1000000000:=by
  unfold bm;split
  ·rw[length_drop];omega
  ·exact m
 refine⟨_,_,rfl,(ZL _ j f.ok.wf).mono ?_⟩;rintro _ p ⟨rfl,i⟩;have c:=f.trans i;have g:=o.ok c.ok;unfold OH;by_cases b:cx 47 (bm l)<(bm l).length
 ·rw[if_pos b];have a:bo l=true:=decide_eq_true b;have d:ak l=(bm l).drop (cx 47 (bm l)+1):=by unfold ak;rw[if_pos a]
  rw[a];refine⟨_,_,_,rfl,aa (λe=>by cases e) (λ_=>?_)⟩;rw[<-d];exact Nu _ _ _ true _ w c g
 ·rw[if_neg b];have a:bo l=false:=decide_eq_false b;have d:ak l=[49]:=by unfold ak;rw[a];rfl
  have k:Num.numOf l=bm l:=by unfold Num.numOf;rw[take_of_length_le (by omega)]
  rw[a,k,d];refine⟨_,_,_,rfl,aa (λ_=>?_) (λe=>by cases e)⟩;exact Nu _ _ _ false _ w c g
theorem LG(l:List UInt8):∃(cs:List Value)(b:Bool),rY l = .tuple ⟨[.agg ⟨cs⟩,.bool b]⟩/\b=ay l:=by
 unfold rY
 cases g:ay l with
 |true=>exact⟨_,_,rfl,rfl⟩
 |false=>exact⟨_,_,rfl,rfl⟩
theorem pN(l:List UInt8)(c:l.length<=1000000000){h:ae}(f:nz h)(w:Wf h):FW SS 109 [strOf l] h (λv d=>v = .bool (ay l)/\Ok h d):=by
 refine JF l h _ ((m8 l c f w).mono ?_);rintro _ i ⟨rfl,a⟩;obtain⟨cs,b,e,g⟩:=LG l;exact⟨cs,b,e,by rw[g],a⟩
theorem rE(k:Nat):aD SS.P 155 (.pointer (some ⟨k,0,none⟩)) 0=some (.pointer (some ⟨k,0,none⟩)):=by kernel_rfl
theorem pD(k:Nat):aD SS.P 155 (.pointer (some ⟨k,0,none⟩)) 1=some (.pointer (some ⟨k,1,none⟩)):=by kernel_rfl
theorem lK(k:Nat):aD SS.P 155 (.pointer (some ⟨k,0,none⟩)) 2=some (.pointer (some ⟨k,2,none⟩)):=by kernel_rfl
theorem un4:SS.P.underlying 4=some .bool:=Tryz.underlying4
theorem ag4:Go.Ab.isAgg SS.P 4=false:=by kernel_rfl
theorem QY:Go.Ab.isAgg SS.P 9=false:=by kernel_rfl
def jf(g:ae)(k:Nat)(b:Bool)(n d:List UInt8):Prop:=g.get k=some (.cells [.bool b,strOf n,strOf d] 155 0 true)
theorem jf.ok(x:jf h k b s t)(o:Ok h g):jf g k b s t:=o.ext _ _ x
theorem jf.l0(x:jf h k b s t):aj SS.P 4 h (.pointer (some ⟨k,0,none⟩))=some (.bool b):=cq un4 ag4 x (by simp)
theorem jf.l1(x:jf h k b s t):aj SS.P 9 h (.pointer (some ⟨k,1,none⟩))=some (strOf s):=cq Kv QY x (by simp)
theorem jf.l2(x:jf h k b s t):aj SS.P 9 h (.pointer (some ⟨k,2,none⟩))=some (strOf t):=cq Kv QY x (by simp)
theorem CX(w:Wf h)(b:Bool)(n d:List UInt8):∃u:dJ,ah SS.P 155 (.pointer (some ⟨h.next,0,none⟩)) (.agg ⟨[.bool b,strOf n,strOf d]⟩) (h.push qQ)=some (undef,u)/\Ok h (u.app (h.push qQ))/\jf (u.app (h.push qQ)) h.next b n d:=by
 have a:(h.push qQ).get h.next=some qQ:=by rw[ae.br,if_pos rfl]
 refine⟨_,UB (cs0:=[.bool false,strOf [],strOf []]) rfl a b n d,?_,?_⟩
 ·exact((Ok.refl w).push _).set _ (Nat.le_refl _) (Nat.lt_succ_self _) w
 ·show((h.push qQ).set h.next _).get h.next=_;rw[ae.aw,if_pos rfl]
theorem Fm(l:List UInt8):∃(b:Bool)(n d:List UInt8),rY l = .tuple ⟨[.agg ⟨[.bool b,strOf n,strOf d]⟩,.bool (ay l)]⟩/\(ay l=true->b=Num.isNeg l/\n=Num.numOf l/\d=ak l):=by
 unfold rY
 cases g:ay l with
 |true=>exact⟨_,_,_,rfl,λ_=>⟨rfl,rfl,rfl⟩⟩
 |false=>exact⟨_,_,_,rfl,λe=>by cases e⟩
theorem jb(b:Bool):dA 4 (.bool b) (.bool b)=true:=by simp[dA]
theorem kF(l:List UInt8):dA 4 (strOf l) (strOf l)=true:=by simp[dA,strOf]
theorem Fs(l m:List UInt8)(S:l.length<=1000000000)(N:m.length<=1000000000){h:ae}(s:nz h)(w:Wf h):FW SS 149 [strOf l,strOf m] h (λv X=>v = .int .i64 (cW l m)/\Ok h X):=by
 refine PG l m h _ ((m8 l S s w).mono ?_);rintro _ K ⟨rfl,F⟩;obtain⟨b,n,d,O,f1⟩:=Fm l;obtain⟨I,s1,Y,Q⟩:=CX F.wf b n d;refine⟨_,_,O,_,uV,I,s1,?_⟩;have r:=F.trans Y;generalize I.app (K.push qQ)=g1 at*;refine(m8 m N (s.ok r) r.wf).mono ?_;rintro _ L ⟨rfl,C⟩;obtain⟨Z,W,U,e2,f2⟩:=Fm m;obtain⟨E,P,J,g⟩:=CX C.wf Z W U;refine⟨_,_,e2,_,uV,E,P,?_⟩;have f:=(r.trans C).trans J;have i:=(Q.ok C).ok J;generalize E.app (L.push qQ)=H at*;generalize K.next=k1 at*;generalize L.next=k2 at*;refine aa (λq=>⟨?_,f⟩) (λq=>aa (λa=>⟨?_,f⟩) (λa=>?_))
 ·have q:ay l=false:=by simpa using q
  unfold cW;rw[if_neg (λc=>by rw[c.1]at q;cases q)]
 ·have a:ay m=false:=by simpa using a
  unfold cW;rw[if_neg (λc=>by rw[c.2]at a;cases a)]
 have q:ay l=true:=by simpa using q
 have a:ay m=true:=by simpa using a
 obtain⟨rfl,rfl,rfl⟩:=f1 q;obtain⟨rfl,rfl,rfl⟩:=f2 a;have j:=aY.1 q;have k:=aY.1 a;have o:Ok H (Go.Ab.room H 27):=(Ok.refl f.wf).room 27;refine⟨_,rE _,_,(i.ok o).l0,_,pD _,_,(i.ok o).l1,_,lK _,_,(g.ok o).l2,?_⟩;have y:=f.trans o;refine(ml _ _ (s.ok y) y.wf).mono ?_;rintro _ R ⟨rfl,o3⟩;rw[(cZ j.num k.den j.ln k.ld).1];refine⟨_,_,rfl,(fi _ _).mono ?_⟩;rintro _ G ⟨rfl,D⟩;obtain rfl:R=G:=D.symm;have e:=o.trans o3;refine⟨_,rfl,_,rE _,_,(g.ok e).l0,_,pD _,_,(g.ok e).l1,_,lK _,_,(i.ok e).l2,?_⟩;have A:=f.trans e;refine(ml _ _ (s.ok A) A.wf).mono ?_;rintro _ h4 ⟨rfl,T⟩;rw[(cZ k.num j.den k.ln j.ld).1];refine⟨_,_,rfl,(fi _ _).mono ?_⟩;rintro _ M ⟨rfl,D⟩;obtain rfl:h4=M:=D.symm;have t:=e.trans T;have x:=f.trans t;refine⟨_,rfl,(C6 _ _ _ _ (cZ j.num k.den j.ln k.ld).2 (cZ k.num j.den k.ln j.ld).2 (s.ok x) x.wf).mono ?_⟩;rintro _ h5 ⟨rfl,V⟩;have u:=x.trans V;refine⟨_,_,rfl,⟨(i.ok e).l0,jb _⟩,⟨(i.ok e).l0,jb _⟩,⟨(i.ok t).l0,jb _⟩,⟨(i.ok t).l0,jb _⟩,⟨(g.ok o).l0,jb _⟩,⟨(g.ok e).l0,jb _⟩,⟨(g.ok t).l0,jb _⟩,⟨(g.ok t).l0,jb _⟩,⟨(g.ok o).l1,kF _⟩,⟨(g.ok e).l1,kF _⟩,⟨(i.ok o).l2,kF _⟩,⟨(i.ok e).l2,kF _⟩,?_⟩;unfold cW;rw[if_pos ⟨q,a⟩];generalize dB _ _ _ _=z;refine aa (λp=>⟨?_,u⟩) (λp=>?_)
 ·have p:ag z.2=[48]:=by simpa using p
  rw[if_pos (bI.1 p)]
 ·have p:¬ag z.2=[48]:=by simpa using p
  rw[if_neg (λc=>p (bI.2 c))];refine aa (λB=>⟨?_,u⟩) (λB=>⟨?_,u⟩)
  ·rw[if_pos B]
  ·rw[if_neg (by rw[B];simp)]
noncomputable def Mg:FD:=cF Tryz.f93 []
theorem JX  (h:ae) (Q:VH) (g:xN (bq SS.P 119) h λ_ f=>xA (bg SS.P 99 [(0,(strOf [105,110,102])),(1,(strOf [48])),(2,(.bool true)),(3,(.func (.func 106) ⟨[]⟩ ⟨[]⟩)),(4,(.func (.func 107) ⟨[]⟩ ⟨[]⟩)),(5,(.func (.func 108) ⟨[]⟩ ⟨[]⟩)),(6,(.func (.func 109) ⟨[]⟩ ⟨[]⟩)),(7,(.func (.func 109) ⟨[]⟩ ⟨[]⟩))]) λe=>xA (bg SS.P 99 [(0,(strOf [48])),(1,(strOf [49])),(2,(.bool false)),(3,(.func (.func 110) ⟨[]⟩ ⟨[]⟩)),(4,(.func (.func 111) ⟨[]⟩ ⟨[]⟩)),(5,(.func (.func 112) ⟨[]⟩ ⟨[]⟩)),(6,(.func (.func 113) ⟨[]⟩ ⟨[]⟩)),(7,(.func (.func 114) ⟨[]⟩ ⟨[]⟩))]) λd=>xA (bg SS.P 99 [(0,(strOf [48])),(1,(strOf [49])),(2,(.bool false)),(3,(.func (.func 106) ⟨[]⟩ ⟨[]⟩)),(4,(.func (.func 111) ⟨[]⟩ ⟨[]⟩)),(5,(.func (.func 115) ⟨[]⟩ ⟨[]⟩)),(6,(.func (.func 113) ⟨[]⟩ ⟨[]⟩)),(7,(.func (.func 114) ⟨[]⟩ ⟨[]⟩))]) λc=>xA (bg SS.P 119 [(1,(.agg ⟨e⟩)),(2,(.agg ⟨d⟩)),(3,(.agg ⟨c⟩))]) λb=>xU (ah SS.P 119 (pA (h.next)) (.agg ⟨b⟩) f) f λ_ a=>dX SS [((pA (h.next)),some 119)] a Q):FW SS 93 [] h Q:=cJ Mg Tryz.func93 (ai g)
noncomputable def XL:FD:=cF Tryz.f69 []
theorem Ur(g:Int)(h:ae)(Q:VH)(i:xN (bq SS.P 99) h λ_ f=>au (decide ((g:Int)<1)) (xA (bg SS.P 99 []) λb=>xU (ah SS.P 99 (pA (h.next)) (.agg ⟨b⟩) f) f λ_ a=>dX SS [((pA (h.next)),some 99),((.bool false),none)] a Q) (au (decide ((g:Int)>3)) (xA (bg SS.P 99 []) λb=>xU (ah SS.P 99 (pA (h.next)) (.agg ⟨b⟩) f) f λ_ a=>dX SS [((pA (h.next)),some 99),((.bool false),none)] a Q) (FW SS 93 [] f λd e=>yA d λc=>xA (bL SS.P 119 (.agg ⟨c⟩) (.int .i64 g)) λb=>xU (ah SS.P 99 (pA (h.next)) (.agg ⟨b⟩) e) e λ_ a=>dX SS [((pA (h.next)),some 99),((.bool true),none)] a Q))):FW SS 69 [(.int .i64 g)] h Q:=cJ XL Tryz.func69 (ai i)
noncomputable def Eu:FD:=cF Tryz.f114 []
theorem Dh(l:LB)(h:ae)(Q:VH)(g:FW SS 109 [(strOf l)] h λe f=>yB e λd=>au d (FW SS 149 [(strOf l),(strOf [48])] f λb c=>yI .i64 b λa=>Q (.bool (decide ((a:Int)>0))) c) (Q (.bool false) f)):FW SS 114 [(strOf l)] h Q:=cJ Eu Tryz.func114 (ai g)
noncomputable def J1:FD:=cF Tryz.f41 []
theorem Hr(o:Int)(l:LB)(h:ae)(Q:VH)(p:FW SS 69 [(.int .i64 o)] h λm n=>∃k:LV,∃j:Bool,m=(.tuple ⟨[(.agg ⟨k⟩),(.bool j)]⟩)/\xN (bq SS.P 99) n λ_ i=>xU (ah SS.P 99 (pA (n.next)) (.agg ⟨k⟩) i) i λ_ h=>au j (fP 99 (pA (n.next)) 7 λg=>xF (aj SS.P 97 h (.pointer (some g))) λd e f=>au (Nat.blt d YB) (FW SS d (e++[(strOf l)]++f) h λb c=>yB b λa=>Q (.bool a) c) False) (Q (.bool false) h)):FW SS 41 [(.int .i64 o),(strOf l)] h Q:=cJ J1 Tryz.func41 (ai p)
noncomputable def L6:FD:=cF Tryz.f14 []
theorem Aw(a:Int)(h:ae)(Q:VH)(b:au (decide ((a:Int)>=1)) (Q (.bool (decide ((a:Int)<=3))) h) (Q (.bool false) h)):FW SS 14 [(.int .i64 a)] h Q:=cJ L6 Tryz.func14 (ai b)
noncomputable def JL:FD:=cF Tryz.f47 []
theorem Hk(j:Int)(l:LB)(h:ae)(Q:VH)(k:FW SS 14 [(.int .i64 j)] h λh i=>yB h λg=>au (!g) (Q (.bool false) i) (au ((l:LB)==[105,110,102]) (au ((l:LB)==[105,110,102]) (Q (.bool true) i) (Q (.bool (((j:Int)==1))) i)) (au ((l:LB)==[45,105,110,102]) (au ((l:LB)==[105,110,102]) (Q (.bool true) i) (Q (.bool (((j:Int)==1))) i)) (FW SS 71 [(strOf l)] i λe f=>yB e λd=>au d (au (((j:Int)==1)) (Q (.bool true) f) (FW SS 72 [(strOf l),(strOf [48])] f λb c=>yI .i64 b λa=>Q (.bool (decide ((a:Int)>=0))) c)) (Q (.bool false) f))))):FW SS 47 [(.int .i64 j),(strOf l)] h Q:=cJ JL Tryz.func47 (ai k)
noncomputable def Hl:FD:=cF Tryz.f16 []
theorem Eo(d:Int)(l:LB)(h:ae)(Q:VH)(e:FW SS 47 [(.int .i64 d),(strOf l)] h λb c=>yB b λa=>au a (au (!((l:LB)==[105,110,102])) (au (!((l:LB)==[45,105,110,102])) (au (((d:Int)==1)) (Q (.bool true) c) (Q (.bool (!((l:LB)==[48]))) c)) (Q (.bool false) c)) (Q (.bool false) c)) (Q (.bool false) c)):FW SS 16 [(.int .i64 d),(strOf l)] h Q:=cJ Hl Tryz.func16 (ai e)
variable{P:Program}{n:Nat}{c:List Value}
theorem kQ{t:TypeId}(c:aE P t=some n){h:ae}{k:Nat}{cs0:List Value}(g:cs0.length=n)(d:h.get k=some (.cells cs0 t 0 true)){cs:List Value}(f:cs.length=n)(a:cs.all dI=true):ah P t (.pointer (some ⟨k,0,none⟩)) (.agg ⟨cs⟩) h=some (undef,.set k (.cells cs t 0 true)):=by
 unfold ah;dsimp only;have b:(Value.agg ⟨cs⟩).cells.size=n:=by show cs.toArray.size=n;simpa using f
 have e:(Value.agg ⟨cs⟩).cells.toList=cs:=rfl;rw[if_pos (by rw[b,c])];unfold storeAt;rw[d,e];dsimp only;rw[if_pos ⟨by omega,a⟩,List.drop_eq_nil_of_le (by omega)];simp
theorem oZ(w:Wf g)(o:Ok g h){k:Nat}{t:TypeId}{a cs:List Value}(c:h.get k=some (.cells a t 0 true))(b:g.next<=k):Ok g ((dJ.set k (.cells cs t 0 true)).app h)/\((dJ.set k (.cells cs t 0 true)).app h).get k=some (.cells cs t 0 true):=by
 refine⟨o.set _ b (o.wf _ _ c) w,?_⟩;show(h.set k _).get k=_;rw[ae.aw,if_pos rfl]
theorem aI(h:ae)(B:dN):(h.push B).get h.next=some B:=by rw[ae.br,if_pos rfl]
def oL(i:Nat):Value:= .func (.func i) ⟨[]⟩ ⟨[]⟩
def nf:List Value:=[strOf [],strOf [],.bool false,.nilFunc,.nilFunc,.nilFunc,.nilFunc,.nilFunc]
def xM:List Value:=[strOf [105,110,102],strOf [48],.bool true,oL 106,oL 107,oL 108,oL 109,oL 109]
def xQ:List Value:=[strOf [48],strOf [49],.bool false,oL 110,oL 111,oL 112,oL 113,oL 114]
def xT:List Value:=[strOf [48],strOf [49],.bool false,oL 106,oL 111,oL 115,oL 113,oL 114]
def zx:List Value:=nf++xM++xQ++xT
def VD:dN:= .cells (nf++nf++nf++nf) 119 0 true
def Kr:dN:= .cells nf 99 0 true
theorem aaU:bq SS.P 119=some (VD,kZ):=by kernel_rfl
theorem Rn:bq SS.P 99=some (Kr,kZ):=by kernel_rfl
theorem UJ:aE SS.P 119=some 32:=by kernel_rfl
theorem Dv:aE SS.P 99=some 8:=by kernel_rfl
theorem aaM:Go.Ab.isAgg SS.P 119=true:=by kernel_rfl
theorem aaT:Go.Ab.isAgg SS.P 99=true:=by kernel_rfl
noncomputable def aar:TypeDesc:=(SS.P.underlying 119).getD .bool
theorem acd:SS.P.underlying 119=some aar:=by kernel_rfl
noncomputable def acu:TypeDesc:=(SS.P.underlying 99).getD .bool
theorem acs:SS.P.underlying 99=some acu:=by kernel_rfl
noncomputable def acr:TypeDesc:=(SS.P.underlying 97).getD .bool
theorem acq:SS.P.underlying 97=some acr:=by kernel_rfl
theorem aaS:Go.Ab.isAgg SS.P 97=false:=by kernel_rfl
theorem ZB:bg SS.P 99 [(0,(strOf [105,110,102])),(1,(strOf [48])),(2,(.bool true)),(3,(.func (.func 106) ⟨[]⟩ ⟨[]⟩)),(4,(.func (.func 107) ⟨[]⟩ ⟨[]⟩)),(5,(.func (.func 108) ⟨[]⟩ ⟨[]⟩)),(6,(.func (.func 109) ⟨[]⟩ ⟨[]⟩)),(7,(.func (.func 109) ⟨[]⟩ ⟨[]⟩))]=some (.agg ⟨xM⟩):=by kernel_rfl
theorem ZC:bg SS.P 99 [(0,(strOf [48])),(1,(strOf [49])),(2,(.bool false)),(3,(.func (.func 110) ⟨[]⟩ ⟨[]⟩)),(4,(.func (.func 111) ⟨[]⟩ ⟨[]⟩)),(5,(.func (.func 112) ⟨[]⟩ ⟨[]⟩)),(6,(.func (.func 113) ⟨[]⟩ ⟨[]⟩)),(7,(.func (.func 114) ⟨[]⟩ ⟨[]⟩))]=some (.agg ⟨xQ⟩):=by kernel_rfl
theorem ZD:bg SS.P 99 [(0,(strOf [48])),(1,(strOf [49])),(2,(.bool false)),(3,(.func (.func 106) ⟨[]⟩ ⟨[]⟩)),(4,(.func (.func 111) ⟨[]⟩ ⟨[]⟩)),(5,(.func (.func 115) ⟨[]⟩ ⟨[]⟩)),(6,(.func (.func 113) ⟨[]⟩ ⟨[]⟩)),(7,(.func (.func 114) ⟨[]⟩ ⟨[]⟩))]=some (.agg ⟨xT⟩):=by kernel_rfl
theorem RY:bg SS.P 99 []=some (.agg ⟨nf⟩):=by kernel_rfl
theorem abr:bg SS.P 119 [(1,(.agg ⟨xM⟩)),(2,(.agg ⟨xQ⟩)),(3,(.agg ⟨xT⟩))]=some (.agg ⟨zx⟩):=by kernel_rfl
theorem JY(w:Wf h):FW SS 93 [] h (λv b=>v = .agg ⟨zx⟩/\Ok h b):=by
 have a:(h.push VD).get h.next=some (.cells (nf++nf++nf++nf) 119 0 true):=aI h VD;refine JX h _ ⟨_,aaU,_,ZB,_,ZC,_,ZD,_,abr,_,kQ UJ (by rfl) a (cs:=zx) (by rfl) (by rfl),?_⟩;obtain⟨o,g⟩:=oZ (cs:=zx) w ((Ok.refl w).push VD) a (Nat.le_refl _);refine IJ (v:= .agg ⟨zx⟩) (pH acd aaM UJ g (by simp[zx,nf,xM,xQ,xT])) ?_;exact⟨rfl,o⟩
def Xe(a:Int):Value:=if a=1 then .tuple ⟨[.agg ⟨xM⟩,.bool true]⟩else if a=2 then .tuple ⟨[.agg ⟨xQ⟩,.bool true]⟩else if a=3 then .tuple ⟨[.agg ⟨xT⟩,.bool true]⟩else .tuple ⟨[.agg ⟨nf⟩,.bool false]⟩
theorem CT(w:Wf h){g:ae}(o:Ok h g){k:Nat}{a:List Value}(i:a.length=8)(d:g.get k=some (.cells a 99 0 true))(e:h.next<=k){cs:List Value}(l:cs.length=8)(f:cs.all dI=true)(b:Bool){Q:VH}(j:∀c,Ok h c->Q (.tuple ⟨[.agg ⟨cs⟩,.bool b]⟩) c):
  ∃u:dJ,ah SS.P 99 (.pointer (some ⟨k,0,none⟩)) (.agg ⟨cs⟩) g=some (undef,u)/\dX SS [(.pointer (some ⟨k,0,none⟩),some 99),(.bool b,none)] (u.app g) Q:=by
 refine⟨_,kQ Dv i d l f,?_⟩;obtain⟨o,g⟩:=oZ (cs:=cs) w o d e;refine wR (v:= .agg ⟨cs⟩) (by rw[pH acs aaT Dv g (by omega),drop_zero,take_of_length_le (by omega)]) ?_;exact j _ o
theorem Dg(a:Int){h:ae}(w:Wf h):FW SS 69 [.int .i64 a] h (λv j=>v=Xe a/\Ok h j):=by
 have c:=(Ok.refl w).push Kr;have f:=aI h Kr;refine Ur a h _ ⟨_,Rn,aa (λg=>?_) (λg=>aa (λb=>?_) (λb=>?_))⟩
 ·have g:=dT g;refine⟨_,RY,CT w c rfl f (Nat.le_refl _) rfl rfl false (λ_ o=>⟨?_,o⟩)⟩;unfold Xe;rw[if_neg (by omega),if_neg (by omega),if_neg (by omega)]
 ·have b:=dT b;refine⟨_,RY,CT w c rfl f (Nat.le_refl _) rfl rfl false (λ_ o=>⟨?_,o⟩)⟩;unfold Xe;rw[if_neg (by omega),if_neg (by omega),if_neg (by omega)]
 ·have g:=dF g;have b:=dF b;refine(JY c.wf).mono ?_;rintro _ k ⟨rfl,i⟩;have d:=i.ext _ _ f;have e:=c.trans i;obtain rfl|rfl|rfl:a=1\/a=2\/a=3:=by omega
  ·exact⟨_,rfl,xM,by kernel_rfl,CT w e rfl d (Nat.le_refl _) rfl rfl true (λ_ o=>⟨rfl,o⟩)⟩
  ·exact⟨_,rfl,xQ,by kernel_rfl,CT w e rfl d (Nat.le_refl _) rfl rfl true (λ_ o=>⟨rfl,o⟩)⟩
  ·exact⟨_,rfl,xT,by kernel_rfl,CT w e rfl d (Nat.le_refl _) rfl rfl true (λ_ o=>⟨rfl,o⟩)⟩
theorem tG(l:List UInt8)(b:l.length<=1000000000){h:ae}(c:nz h)(w:Wf h):FW SS 114 [strOf l] h (λv d=>v = .bool (ay l&&decide (0<cW l [48]))/\Ok h d):=by
 refine Dh l h _ ((pN l b c w).mono ?_);rintro _ f ⟨rfl,a⟩;refine⟨_,rfl,aa (λg=>?_) (λg=>?_)⟩
 ·refine(Fs l [48] b (by simp) (c.ok a) a.wf).mono ?_;rintro _ i ⟨rfl,e⟩;refine⟨_,rfl,?_,a.trans e⟩;rw[g,Bool.true_and]
 ·refine⟨?_,a⟩;rw[g,Bool.false_and]
theorem ady{A B:Prop}(c:b=true)(a:A):au b A B:=aa (λ_=>a) (λe=>by rw[c]at e;cases e)
theorem Oy{K:VH}(d:Nat.blt n YB=true)(e:FW SS n c h λv a=>∃b:Bool,v = .bool b/\K (.bool b) a):au (Nat.blt n YB) (FW SS n ([]++c++[]) h λv a=>∃b:Bool,v = .bool b/\K (.bool b) a) False:=
 ady d (by rw[nil_append,List.append_nil];exact e)
theorem lX(a:Int)(l:List UInt8)(u:l.length<=1000000000){h:ae}(z:nz h)(w:Wf h):FW SS 41 [.int .i64 a,strOf l] h (λv y=>v = .bool (bj a l)/\Ok h y):=by
 refine Hr a l h _ ((Dg a w).mono ?_);rintro _ b ⟨rfl,c⟩;have j:∀(cs:List Value)(f:Nat),cs.length=8->cs.all dI=true->cs.getD 7 undef=oL f->Nat.blt f YB=true->(∀g,Ok h g->FW SS f [strOf l] g (λv y=>v = .bool (bj a l)/\Ok g y))->Xe a = .tuple ⟨[.agg ⟨cs⟩,.bool true]⟩->∃p:List Value,∃D:Bool,Xe a=(.tuple ⟨[(.agg ⟨p⟩),(.bool D)]⟩)/\∃m:dN,bq SS.P 99=some (m,kZ)/\∃n:dJ,ah SS.P 99 (.pointer (some ⟨b.next,0,none⟩)) (.agg ⟨p⟩) (b.push m)=some (undef,n)/\au D (∃E:Addr,aD SS.P 99 (.pointer (some ⟨b.next,0,none⟩)) 7=some (.pointer (some E))/\∃(t:Nat)(B r:List Value),aj SS.P 97 (n.app (b.push m)) (.pointer (some E))=some (.func (.func t) ⟨B⟩ ⟨r⟩)/\au (Nat.blt t YB) (FW SS t (B++[(strOf l)]++r) (n.app (b.push m)) λA k=>∃s:Bool,A=(.bool s)/\(Value.bool s = .bool (bj a l)/\Ok h k)) False) (Value.bool false = .bool (bj a l)/\Ok h (n.app (b.push m))):=by
  intro cs f M I H J L e;refine⟨_,_,e,_,Rn,_,kQ Dv rfl (aI b Kr) M I,aa (λ_=>?_) (λg=>by cases g)⟩;obtain⟨o,g⟩:=oZ (cs:=cs) c.wf ((Ok.refl c.wf).push Kr) (aI b Kr) (Nat.le_refl _);have q:=cq acq aaS g (i:=7) (by omega);rw[H]at q;refine⟨⟨b.next,7,none⟩,by kernel_rfl,f,[],[],q,?_⟩;refine Oy (K:=λv k=>v = .bool (bj a l)/\Ok h k) J ((L _ (c.trans o)).mono ?_);rintro _ x ⟨rfl,d⟩;exact⟨_,rfl,rfl,(c.trans o).trans d⟩
 by_cases F:a=1
 ·subst F;refine j xM 109 rfl rfl rfl (by decide +kernel) (λg o=>?_) rfl;refine(pN l u (z.ok o) o.wf).mono ?_;rintro _ x ⟨rfl,d⟩;refine⟨?_,d⟩;unfold bj;simp
 by_cases C:a=2
 ·subst C;refine j xQ 114 rfl rfl rfl (by decide +kernel) (λg o=>?_) rfl;refine(tG l u (z.ok o) o.wf).mono ?_;rintro _ x ⟨rfl,d⟩;refine⟨?_,d⟩;unfold bj;simp
 by_cases G:a=3
 ·subst G;refine j xT 114 rfl rfl rfl (by decide +kernel) (λg o=>?_) rfl;refine(tG l u (z.ok o) o.wf).mono ?_;rintro _ x ⟨rfl,d⟩;refine⟨?_,d⟩;unfold bj;simp
 ·have e:Xe a = .tuple ⟨[.agg ⟨nf⟩,.bool false]⟩:=by unfold Xe;rw[if_neg F,if_neg C,if_neg G]
  refine⟨_,_,e,_,Rn,_,kQ Dv rfl (aI b Kr) (cs:=nf) rfl rfl,aa (λg=>by cases g) (λ_=>?_)⟩;obtain⟨o,g⟩:=oZ (cs:=nf) c.wf ((Ok.refl c.wf).push Kr) (aI b Kr) (Nat.le_refl _);refine⟨?_,c.trans o⟩;unfold bj;rw[decide_eq_false (by omega)];rfl
theorem xv(a:Int)(l:List UInt8)(k:l.length<=1000000000){h:ae}(w:Wf h):FW SS 47 [.int .i64 a,strOf l] h (λv j=>v = .bool (decide (1<=a/\a<=3)&&(l==[105,110,102]||l==[45,105,110,102]&&a==1||ay l&&(a==1||decide (0<=cW l [48]))))/\Ok h j):=by
 have m:FW SS 14 [.int .i64 a] h (λv j=>v = .bool (decide (1<=a/\a<=3))/\j=h):=by
  refine Aw a h _ (aa (λg=>⟨?_,rfl⟩) (λg=>⟨?_,rfl⟩))
  ·have g:=dT g;congr 1;exact decide_eq_decide.2 ⟨λc=>⟨g,c⟩,λc=>c.2⟩
  ·have g:=dF g;rw[decide_eq_false (by omega)]
 refine Hk a l h _ (m.mono ?_);rintro _ p ⟨rfl,o⟩;obtain rfl:h=p:=o.symm;refine⟨_,rfl,aa (λg=>⟨?_,Ok.refl w⟩) (λg=>?_)⟩
 ·rw[Bool.not_eq_true']at g;rw[g];rfl
 rw[Bool.not_eq_false']at g;rw[g,Bool.true_and];refine aa (λe=>aa (λ_=>⟨?_,Ok.refl w⟩) (λb=>by rw[e]at b;cases b)) (λe=>aa (λb=>aa (λd=>by rw[e]at d;cases d) (λ_=>⟨?_,Ok.refl w⟩)) (λb=>?_))
 ·rw[e];rfl
 ·rw[e,b];rw[show l=[45,105,110,102] by simpa using b,uT];simp
 ·rw[e,b];refine(xu l k w).mono ?_;rintro _ q ⟨rfl,f⟩;refine⟨_,rfl,aa (λd=>aa (λi=>⟨?_,f⟩) (λi=>?_)) (λd=>⟨?_,f⟩)⟩
  ·rw[d,i];rfl
  ·refine(Da l [48] k (by simp) f.wf).mono ?_;rintro _ r ⟨rfl,n⟩;refine⟨_,rfl,?_,f.trans n⟩;rw[d,i];simp
  ·rw[d];rfl
theorem mU(a:Int)(l:List UInt8)(r:l.length<=1000000000){h:ae}(w:Wf h):FW SS 16 [.int .i64 a,strOf l] h (λv s=>v = .bool (bj a l)/\Ok h s):=by
 refine Eo a l h _ ((xv a l r w).mono ?_);rintro _ m ⟨rfl,d⟩;have q:(l==[105,110,102])=true->ay l=false:=λe=>by rw[show l=[105,110,102] by simpa using e];exact HZ
 have t:(l==[45,105,110,102])=true->ay l=false:=λe=>by rw[show l=[45,105,110,102] by simpa using e];exact uT
 unfold bj;generalize decide (1<=a/\a<=3)=K;refine⟨_,rfl,aa (λg=>?_) (λg=>⟨?_,d⟩)⟩
 ·refine aa (λi=>aa (λf=>?_) (λf=>⟨?_,d⟩)) (λi=>⟨?_,d⟩)
  ·have i:(l==[105,110,102])=false:=by simpa using i
   have f:(l==[45,105,110,102])=false:=by simpa using f
   rw[i,f]at g;simp only[Bool.false_or,Bool.false_and,and_eq_true]at g;obtain⟨p,k,b⟩:=g;rw[p,k];refine aa (λn=>⟨?_,d⟩) (λn=>⟨?_,d⟩)
   ·rw[n];rfl
   ·rw[n]at b⊢;simp only[Bool.false_or,decide_eq_true_eq]at b;have:=DW k;congr 1;by_cases j:l=[48]
    ·have m:=this.2 j;rw[m,j];rfl
    ·have m:¬cW l [48]=0:=λc=>j (this.1 c);rw[decide_eq_true (by omega:0<cW l [48])];simpa using j
  ·rw[t (by simpa using f)];simp
  ·rw[q (by simpa using i)];simp
 ·congr 1
  cases K with
  |false=>rfl
  |true=>
   rw[Bool.true_and]at g⊢;simp only[Bool.or_eq_false_iff,Bool.and_eq_false_iff]at g;obtain⟨⟨p,k⟩,b⟩:=g;rcases b with b|⟨b,o⟩
   ·rw[b];rfl
   ·have o:=dF o;rw[b,decide_eq_false (by omega)];simp
variable{m:Nat}
section
def pW(h:ae)(v:Value)(l:List iN):Prop:=HL h 70 4 v (l.map gn)
def AE(p:dW×Value):List Value:=[strOf p.1.f,p.2]
def ei(h:ae)(v:Value)(l:List dW):Prop:=∃a:List (dW×Value),a.map (·.1)=l/\HL h 73 2 v (a.map AE)/\(∀p∈a,pW h p.2 p.1.arcs)/\v≠EX
theorem ei.ok{a:ae}{l:List dW}(r:ei h v l)(o:Ok h a):ei a v l:=by
 obtain⟨f,c,d,b,e⟩:=r;exact⟨f,c,d.ok o,λp g=>HL.ok (b p g) o,e⟩
theorem ei.len{a:Option Addr}{n c:Nat}{l:List dW}(r:ei h (.slice a n c) l):n=l.length:=by
 obtain⟨f,b,d,e,_⟩:=r;rw[d.len,lM,<-b,lM]
theorem zC:SS.P.underlying 27=some (.slice 73):=by kernel_rfl
theorem Us:SS.P.underlying 71=some (.slice 70):=by kernel_rfl
theorem UL:aE SS.P 73=some 2:=by kernel_rfl
theorem NF:aE SS.P 70=some 4:=by kernel_rfl
theorem vt:aE SS.P 29=some 4:=by kernel_rfl
theorem aaR:Go.Ab.isAgg SS.P 73=true:=by kernel_rfl
theorem Zg:Go.Ab.isAgg SS.P 70=true:=by kernel_rfl
theorem N4:Go.Ab.isAgg SS.P 29=true:=by kernel_rfl
theorem D5:Go.Ab.isAgg SS.P 27=false:=by kernel_rfl
theorem Zh:Go.Ab.isAgg SS.P 71=false:=by kernel_rfl
noncomputable def aco:TypeDesc:=(SS.P.underlying 73).getD .bool
theorem acn:SS.P.underlying 73=some aco:=by kernel_rfl
noncomputable def acm:TypeDesc:=(SS.P.underlying 70).getD .bool
theorem aau:SS.P.underlying 70=some acm:=by kernel_rfl
noncomputable def ach:TypeDesc:=(SS.P.underlying 29).getD .bool
theorem QK:SS.P.underlying 29=some ach:=by kernel_rfl
theorem dY(k:Nat):aD SS.P 29 (.pointer (some ⟨k,0,none⟩)) 0=some (.pointer (some ⟨k,0,none⟩)):=by kernel_rfl
theorem tc(k:Nat):aD SS.P 29 (.pointer (some ⟨k,0,none⟩)) 1=some (.pointer (some ⟨k,1,none⟩)):=by kernel_rfl
theorem nr(k:Nat):aD SS.P 29 (.pointer (some ⟨k,0,none⟩)) 2=some (.pointer (some ⟨k,2,none⟩)):=by kernel_rfl
theorem dy(k:Nat):aD SS.P 29 (.pointer (some ⟨k,0,none⟩)) 3=some (.pointer (some ⟨k,3,none⟩)):=by kernel_rfl
theorem oK(k o:Nat):aD SS.P 73 (.pointer (some ⟨k,o,none⟩)) 0=some (.pointer (some ⟨k,o+0,none⟩)):=by kernel_rfl
theorem kd(k o:Nat):aD SS.P 73 (.pointer (some ⟨k,o,none⟩)) 1=some (.pointer (some ⟨k,o+1,none⟩)):=by kernel_rfl
theorem zh(k o:Nat):aD SS.P 70 (.pointer (some ⟨k,o,none⟩)) 0=some (.pointer (some ⟨k,o+0,none⟩)):=by kernel_rfl
theorem zi(k o:Nat):aD SS.P 70 (.pointer (some ⟨k,o,none⟩)) 1=some (.pointer (some ⟨k,o+1,none⟩)):=by kernel_rfl
theorem GD(k o:Nat):aD SS.P 70 (.pointer (some ⟨k,o,none⟩)) 2=some (.pointer (some ⟨k,o+2,none⟩)):=by kernel_rfl
theorem rF(k o:Nat):aD SS.P 70 (.pointer (some ⟨k,o,none⟩)) 3=some (.pointer (some ⟨k,o+3,none⟩)):=by kernel_rfl
structure MB(g:ae)(k:Nat)(M:bC)(a:Option Addr)(n c:Nat):Prop where
 box:g.get k=some (.cells [.int .i64 M.kind,.int .i64 M.start,strOf M.lead,.slice a n c] 29 0 true)
 row:ei g (.slice a n c) M.af
section
variable {g g':ae} {k:Nat} {M:bC} {a:Option Addr} {n c:Nat}
theorem MB.ok(m:MB g k M a n c)(o:Ok g g'):MB g' k M a n c:=⟨o.ext _ _ m.box,m.row.ok o⟩
theorem MB.l0(m:MB g k M a n c):aj SS.P 3 g (.pointer (some ⟨k,0,none⟩))=some (.int .i64 M.kind):=cq Hz Gu m.box (by simp)
theorem MB.l1(m:MB g k M a n c):aj SS.P 3 g (.pointer (some ⟨k,1,none⟩))=some (.int .i64 M.start):=cq Hz Gu m.box (by simp)
theorem MB.l2(m:MB g k M a n c):aj SS.P 9 g (.pointer (some ⟨k,2,none⟩))=some (strOf M.lead):=cq Kv QY m.box (by simp)
theorem MB.l3(m:MB g k M a n c):aj SS.P 27 g (.pointer (some ⟨k,3,none⟩))=some (.slice a n c):=cq zC D5 m.box (by simp)
theorem MB.all(m:MB g k M a n c):aj SS.P 29 g (.pointer (some ⟨k,0,none⟩))=some (.agg ⟨[.int .i64 M.kind,.int .i64 M.start,strOf M.lead,.slice a n c]⟩):=pH QK N4 vt m.box (by simp)
theorem MB.len(m:MB g k M a n c):n=M.af.length:=m.row.len
end
theorem ei.at_{g:ae}{a:Option Addr}{n c:Nat}{l:List dW}(r:ei g (.slice a n c) l){i:Nat}{s:dW}(k:l[i]?=some s):
  ∃(b o:Nat)(x:Option Addr)(y z:Nat),aA SS.P 27 (.slice a n c) (.int .i64 (i:Int))=some (.pointer (some ⟨b,o,none⟩))/\aj SS.P 73 g (.pointer (some ⟨b,o,none⟩))=some (.agg ⟨[strOf s.f,.slice x y z]⟩)/\
   aj SS.P 9 g (.pointer (some ⟨b,o+0,none⟩))=some (strOf s.f)/\aj SS.P 71 g (.pointer (some ⟨b,o+1,none⟩))=some (.slice x y z)/\pW g (.slice x y z) s.arcs:=by
 obtain⟨B,v,w,t,_⟩:=r;rw[<-v,getElem?_map]at k;obtain⟨p,j,rfl⟩:=Option.map_eq_some_iff.1 k;have C:=(List.getElem?_eq_some_iff.1 j).1;obtain⟨b,o,q,d,e⟩:=w.at_ zC UL acn aaR (ik:= .i64) (i:=(i:Int)) (by omega) (by rw[lM];omega);have A:(B.map AE).getD (i:Int).toNat []=AE p:=by
  rw[toNat_natCast,gD,getElem?_map,j];rfl
 rw[A]at d e;have f:=t p (List.mem_of_getElem? j);obtain⟨x,z,u⟩:=HL.XO f;have m:=e 9 _ 0 Kv QY (by omega);have h:=e 71 _ 1 Us Zh (by omega);unfold AE at d m h;rw[u]at d h f;exact⟨b,o,x,_,z,q,d,m,h,f⟩
theorem pW.len{g:ae}{x:Option Addr}{z:Nat}{l:List iN}(r:pW g (.slice x m z) l):m=l.length:=by
 have:=HL.len r;rwa[lM]at this
theorem pW.ok{a:ae}{l:List iN}(r:pW h v l)(o:Ok h a):pW a v l:=HL.ok r o
theorem pW.at_{g:ae}{x:Option Addr}{z:Nat}{l:List iN}(r:pW g (.slice x m z) l){j:Nat}{q:iN}(c:l[j]?=some q):
  ∃(b o:Nat),aA SS.P 71 (.slice x m z) (.int .i64 (j:Int))=some (.pointer (some ⟨b,o,none⟩))/\aj SS.P 70 g (.pointer (some ⟨b,o,none⟩))=some (.agg ⟨gn q⟩)/\
   aj SS.P 3 g (.pointer (some ⟨b,o+0,none⟩))=some (.int .i64 q.i)/\aj SS.P 3 g (.pointer (some ⟨b,o+1,none⟩))=some (.int .i64 q.o)/\aj SS.P 9 g (.pointer (some ⟨b,o+2,none⟩))=some (strOf q.w)/\aj SS.P 3 g (.pointer (some ⟨b,o+3,none⟩))=some (.int .i64 q.t):=by
 have h:=(List.getElem?_eq_some_iff.1 c).1;obtain⟨b,o,e,d,a⟩:=HL.at_ Us NF aau Zg r (ik:= .i64) (i:=(j:Int)) (by omega) (by rw[lM];omega);have f:(l.map gn).getD (j:Int).toNat []=gn q:=by
  rw[toNat_natCast,gD,getElem?_map,c];rfl
 rw[f]at d a;exact⟨b,o,e,d,a 3 _ 0 Hz Gu (by omega),a 3 _ 1 Hz Gu (by omega),a 9 _ 2 Kv QY (by omega),a 3 _ 3 Hz Gu (by omega)⟩
def SB(g:ae)(k:Nat)(f:List UInt8)(x:Option Addr)(y z:Nat):Prop:=g.get k=some (.cells [strOf f,.slice x y z] 73 0 true)
theorem SB.ok{g g':ae}{k:Nat}{x:Option Addr}{z:Nat}(s:SB g k t x m z)(o:Ok g g'):SB g' k t x m z:=o.ext _ _ s
theorem SB.l0{g:ae}{k:Nat}{x:Option Addr}{z:Nat}(s:SB g k t x m z):aj SS.P 9 g (.pointer (some ⟨k,0+0,none⟩))=some (strOf t):=cq Kv QY s (by simp)
theorem SB.l1{g:ae}{k:Nat}{x:Option Addr}{z:Nat}(s:SB g k t x m z):aj SS.P 71 g (.pointer (some ⟨k,0+1,none⟩))=some (.slice x m z):=cq Us Zh s (by simp)
def AB(g:ae)(k:Nat)(q:iN):Prop:=g.get k=some (.cells (gn q) 70 0 true)
theorem AB.ok{g g':ae}{k:Nat}{q:iN}(s:AB g k q)(o:Ok g g'):AB g' k q:=o.ext _ _ s
theorem AB.l0{g:ae}{k:Nat}{q:iN}(s:AB g k q):aj SS.P 3 g (.pointer (some ⟨k,0+0,none⟩))=some (.int .i64 q.i):=cq Hz Gu s (by simp[gn])
theorem AB.l1{g:ae}{k:Nat}{q:iN}(s:AB g k q):aj SS.P 3 g (.pointer (some ⟨k,0+1,none⟩))=some (.int .i64 q.o):=cq Hz Gu s (by simp[gn])
theorem AB.l2{g:ae}{k:Nat}{q:iN}(s:AB g k q):aj SS.P 9 g (.pointer (some ⟨k,0+2,none⟩))=some (strOf q.w):=cq Kv QY s (by simp[gn])
theorem AB.l3{g:ae}{k:Nat}{q:iN}(s:AB g k q):aj SS.P 3 g (.pointer (some ⟨k,0+3,none⟩))=some (.int .i64 q.t):=cq Hz Gu s (by simp[gn])
def Q2:dN:= .cells [strOf [],.slice none 0 0] 73 0 true
theorem VN:bq SS.P 73=some (Q2,kZ):=by kernel_rfl
def NN:dN:= .cells [.int .i64 0,.int .i64 0,strOf [],.int .i64 0] 70 0 true
theorem Rm:bq SS.P 70=some (NN,kZ):=by kernel_rfl
theorem Nr(w:Wf h)(f:List UInt8)(x:Option Addr)(y z:Nat):∃u:dJ,ah SS.P 73 (.pointer (some ⟨h.next,0,none⟩)) (.agg ⟨[strOf f,.slice x y z]⟩) (h.push Q2)=some (undef,u)/\Ok h (u.app (h.push Q2))/\SB (u.app (h.push Q2)) h.next f x y z:=by
 obtain⟨o,e⟩:=oZ (cs:=[strOf f,.slice x y z]) w ((Ok.refl w).push Q2) (aI h Q2) (Nat.le_refl _);exact⟨_,kQ UL rfl (aI h Q2) rfl rfl,o,e⟩
theorem Jz(w:Wf h)(q:iN):∃u:dJ,ah SS.P 70 (.pointer (some ⟨h.next,0,none⟩)) (.agg ⟨gn q⟩) (h.push NN)=some (undef,u)/\Ok h (u.app (h.push NN))/\AB (u.app (h.push NN)) h.next q:=by
 obtain⟨o,e⟩:=oZ (cs:=gn q) w ((Ok.refl w).push NN) (aI h NN) (Nat.le_refl _);exact⟨_,kQ NF rfl (aI h NN) rfl rfl,o,e⟩
def bT(M:bC)(a:Option Addr)(n c:Nat):List Value:=[.int .i64 M.kind,.int .i64 M.start,strOf M.lead,.slice a n c]
def Bm(M:bC)(a:Option Addr)(n c:Nat):dN:= .cells (bT M a n c) 29 0 true
theorem jU(M:bC)(a:Option Addr)(n c:Nat):eV SS.P 29 (.agg ⟨bT M a n c⟩)=some (Bm M a n c,kZ):=by kernel_rfl
theorem fQ(w:Wf h){M:bC}{a:Option Addr}{n c:Nat}(r:ei h (.slice a n c) M.af):MB (h.push (Bm M a n c)) h.next M a n c/\Ok h (h.push (Bm M a n c)):=
 ⟨⟨aI h _,r.ok ((Ok.refl w).push _)⟩,(Ok.refl w).push _⟩
def pR(s:Int):Bool:=decide (0<=s)&&decide (s<=500)
def iS(b:Int)(N:Nat)(a:iN):Bool:=pR a.i&&pR a.o&&decide (0<=a.t)&&decide (a.t<N)&&bj b a.w
def nE(a:Int)(N:Nat):Int->List dW->Bool
 |_,[]=>true
 |b,s::r=>decide (b+s.arcs.length<=30000)&&(s.f==[]||bj a s.f)&&s.arcs.all (iS a N)&&nE a N (b+s.arcs.length) r
def cI(M:bC):Bool:=decide (1<=M.kind)&&decide (M.kind<=3)&&decide (1<=M.af.length)&&decide (M.af.length<=3000)&&decide (0<=M.start)&&decide (M.start<M.af.length)&&bj M.kind M.lead&&nE M.kind M.af.length 0 M.af
def dc(l:List dW):Nat:=(l.map λs=>s.arcs.length).sum
structure Small(M:bC):Prop where
 lead:M.lead.length<=900
 bH:M.af.length<=300
 fin:∀s∈M.af,s.f.length<=900
 arcs:∀s∈M.af,s.arcs.length<=2000
 w:∀s∈M.af,∀q∈s.arcs,q.w.length<=900
 tot:dc M.af<=2000
end
end Go.Proofs.YtaaichlgdgjgjaaGreatDoor
end
