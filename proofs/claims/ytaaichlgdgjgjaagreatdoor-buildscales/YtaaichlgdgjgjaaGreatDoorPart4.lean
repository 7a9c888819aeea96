/- Laws and walks that the proof leans on (part 4): P8; P9; P10; P11; P12; P13 and others. No condition. -/
import Derived.Test.YtaaichlgdgjgjaaGreatDoorPart3
import Derived.Test.YtaaichlgdgjgjaaGreatDoorPart2
set_option linter.unusedVariables false
set_option linter.unusedSimpArgs false
set_option maxRecDepth 100000
open List (append_assoc drop_zero getElem?_eq_none getElem?_map length_append length_drop length_replicate length_set length_take map_append map_take nil_append take_length take_of_length_le take_zero)
open Nat (le_max_left le_max_right le_of_lt lt_of_lt_of_le lt_or_ge max_le min_eq_left mod_lt mul_le_mul mul_pos pow_add pow_le_pow_right pow_succ)
open Bool (and_eq_true)
open Int (natCast_ediv natCast_emod toNat_natCast)
open Go.IntKind (wrap wrap_i64)
section
namespace Go.Proofs.YtaaichlgdgjgjaaGreatDoor
open Go Go.Ab Go.Num
variable{z:Int}{n:Nat}{h:ae}{k:Nat}{m:Nat}{y:List Nat}{l:Nat}
theorem Ds{a:Nat}:ay SS.P .rem 150 (.int .u64 (a:Int)) (.int .u64 1000000000)=some (.int .u64 ((a%BB:Nat):Int)):=by
 have:=gK (P:=SS.P) (t:=150) (k:= .u64) (a:=(a:Int)) (b:=BB) (by omega) (by decide);rw[<-natCast_emod]at this;exact this
theorem FM{a:Nat}(h:a<18446744073709551616):ay SS.P .quo 150 (.int .u64 (a:Int)) (.int .u64 1000000000)=some (.int .u64 ((a/BB:Nat):Int)):=by
 have:=pS (P:=SS.P) (t:=150) (a:=(a:Int)) (b:=BB) (by omega) (by omega) (by decide);rw[<-natCast_ediv]at this;exact this
theorem ZK{a b:Nat}(c:0<b):ay SS.P .rem 150 (.int .u64 (a:Int)) (.int .u64 (b:Int))=some (.int .u64 ((a%b:Nat):Int)):=by
 have:=gK (P:=SS.P) (t:=150) (k:= .u64) (a:=(a:Int)) (b:=b) (by omega) c;rw[<-natCast_emod]at this;exact this
theorem Ui{a b:Nat}(h:a<18446744073709551616)(c:0<b):ay SS.P .quo 150 (.int .u64 (a:Int)) (.int .u64 (b:Int))=some (.int .u64 ((a/b:Nat):Int)):=by
 have:=pS (P:=SS.P) (t:=150) (a:=(a:Int)) (b:=b) (by omega) (by omega) c;rw[<-natCast_ediv]at this;exact this
theorem wU(h:z=(n:Int))(a:n<18446744073709551616):wrap .u64 z=(n:Int):=by rw[h];exact gL (by omega) (by omega)
structure Zf(h:ae)(k off c m:Nat)(cs:List Value)(U V:List Nat)(b:Option Addr)(d:Nat):Prop where
 w:Wf h
 get:h.get k=some (.cells (cO cs off U) 150 1 true)
 fit:off+U.length<=cs.length
 ul:U.length=m+1
 vl:V.length=m
 mp:0<m
 mle:m<=10000
 ult:∀x∈U,x<BB
 vlt:∀x∈V,x<BB
 v1:0<V.getD (m-1) 0
 lt:Num.bv BB U<BB*Num.bv BB V
 rd:∀g,IB h k g->Rd g 150 (.slice b m d) (V.map uv)
def Gs(h:ae)(k a:Nat)(cs:List Value)(m:Nat)(U V:List Nat):VH:=λv b=>∃W:List Nat,W.length=m+1/\(∀x∈W,x<BB)/\Num.bv BB W=Num.bv BB U%Num.bv BB V/\v=uv (Num.bv BB U/Num.bv BB V)/\b.get k=some (.cells (cO cs a W) 150 1 true)/\IB h k b
theorem JD{c:Nat}{cs:List Value}{V:List Nat}{b:Option Addr}(D:Zf h k n c m cs y V b l):
  FW SS 203 [.slice (some ⟨k,n,none⟩) (m+1) c,.slice b m l] h (Gs h k n cs m y V):=by
 have y2:BB=1000000000:=rfl;have w2:=D.ul;have v8:=D.vl;have x6:=D.mp;have u8:=D.mle;have I:0<BB:=by decide
 have ug:∀i,y.getD i 0<BB:=λi=>aZ I D.ult i;have vg:∀i,V.getD i 0<BB:=λi=>aZ I D.vlt i;have y6:wrap .i64 ((m:Int)-1)=((m-1:Nat):Int):=by rw[aB (by omega) (by omega)];omega
 have z6:1<m->wrap .i64 ((m:Int)-2)=((m-2:Nat):Int):=λhm=>by rw[aB (by omega) (by omega)];omega
 have P:wrap .i64 ((m:Int)+1)=(m:Int)+1:=aB (by omega) (by omega);have wi:∀i:Nat,i<=m->wrap .i64 ((i:Int)+1)=((i+1:Nat):Int):=λi hi=>by rw[aB (by omega) (by omega)];omega
 have L3:=λ(d:Nat) (W:List Nat) (y5:0<d) (C:d<BB) (w1:W.length=m+1) (w:∀x∈W,x<BB) (hq:d-1=Num.bv BB y/Num.bv BB V) (z4:Num.bv BB (bk (aO BB) W V 0 (m+1) 0)=Num.bv BB y%Num.bv BB V)=>
  uZ (some ⟨k,n,none⟩) (m+1) c b m l (d:Int) ((m:Int)+1) (λa i cy g=>i<=m+1/\a=m+1-i/\cy=(eJ (aO BB) W V 0 0 i:Nat)/\g.get k=some (.cells (cO cs n (bk (aO BB) W V 0 i 0++W.drop i)) 150 1 true)/\IB h k g) (Gs h k n cs m y V) (by
  intro a i cy;intros;rename_i g hi;obtain⟨h1,h2,rfl,B,H⟩:=hi;have r:(bk (aO BB) W V 0 i 0).length=i:=eV _ _ _ _ _ _;have L:=hW (aO BB) W V i 0 0;rw[Nat.zero_add]at L;have x0:eJ (aO BB) W V 0 0 (i+1)=(aO BB (W.getD i 0) (V.getD i 0) (eJ (aO BB) W V 0 0 i)).2:=by
   show(aO BB (W.getD (0+i) 0) (V.getD (0+i) 0) _).2=_;rw[Nat.zero_add]
  have wg:W.getD i 0<BB:=aZ I w i;have v4:eJ (aO BB) W V 0 0 i<=1:=by
   clear x0 L r B h2 h1
   induction i with
   |zero=>exact Nat.zero_le _
   |succ j ih=>
    have a1:=aZ (b:=BB) I w (0+j);have a2:=vg (0+j);have a3:=ih (aZ I w j);show(W.getD (0+j) 0+V.getD (0+j) 0+eJ (aO BB) W V 0 0 j)/BB<=1;have:(W.getD (0+j) 0+V.getD (0+j) 0+eJ (aO BB) W V 0 0 j)/BB<2:=Nat.div_lt_of_lt_mul (by omega);omega
  have u5:=vg i;have o:(bk (aO BB) W V 0 i 0++W.drop i).length=m+1:=by rw[length_append,r,length_drop];omega
  have J:=D.fit;refine aa (λA=>?_) (λA=>?_)
  ·have A:=dT A;have M:=C0 B (by rw[o];omega) (i:=i) (by rw[o];omega);rw[wQ _ _ r]at M;have X:=H.wf _ _ B;have step:∀(s:Nat),s=W.getD i 0+V.getD i 0+eJ (aO BB) W V 0 0 i->
     ah SS.P 150 (.pointer (some ⟨k,n+i,none⟩)) (.int .u64 ((s%BB:Nat):Int)) g=some (undef,.set k (.cells (cO cs n (bk (aO BB) W V 0 (i+1) 0++W.drop (i+1))) 150 1 true)):=λs Y=>by
    rw[DC B (by rw[o];omega) (by rw[o];omega),AD _ _ r (by omega),L,Y];rfl
   refine⟨_,xp (by omega) (by omega),_,by rw[toNat_natCast];exact M,?_⟩;have e1:wrap .u64 (((W.getD i 0:Nat):Int)+((eJ (aO BB) W V 0 0 i:Nat):Int))=((W.getD i 0+eJ (aO BB) W V 0 0 i:Nat):Int):=wU (by omega) (by omega);dsimp only;rw[e1,wi i (by omega)];refine aa (λf=>?_) (λf=>?_)
   ·have f:=dT f;obtain⟨p,Q,K⟩:=Fc (D.rd g H) (i:=(i:Int)) (by omega) (by omega);rw[toNat_natCast]at K;refine⟨p,Q,_,K,?_⟩;have e2:wrap .u64 (((W.getD i 0+eJ (aO BB) W V 0 0 i:Nat):Int)+((V.getD i 0:Nat):Int))=((W.getD i 0+V.getD i 0+eJ (aO BB) W V 0 0 i:Nat):Int):=wU (by omega) (by omega);dsimp only;rw[e2];refine⟨_,Ds,_,FM (by omega),_,xp (by omega) (by omega),_,by rw[toNat_natCast];exact step _ rfl,?_⟩;refine iI (a-1) (by omega) ⟨by omega,by omega,by rw[x0];rfl,?_,H.set X _⟩;show(g.set k _).get k=_;rw[ae.aw,if_pos rfl]
   ·have f:=dF f;have x8:V.getD i 0=0:=by rw[gD,getElem?_eq_none (by omega)];rfl
    refine⟨_,Ds,_,FM (by omega),_,xp (by omega) (by omega),_,by rw[toNat_natCast];exact step _ (by omega),?_⟩;refine iI (a-1) (by omega) ⟨by omega,by omega,?_,?_,H.set X _⟩
    ·rw[x0];show _=(((W.getD i 0+V.getD i 0+eJ (aO BB) W V 0 0 i)/BB:Nat):Int);rw[x8,Nat.add_zero]
    ·show(g.set k _).get k=_;rw[ae.aw,if_pos rfl]
  ·have A:=dF A;obtain rfl:i=m+1:=by omega
   have e3:wrap .u64 ((d:Int)-1)=((d-1:Nat):Int):=wU (by omega) (by omega);rw[e3];rw[List.drop_of_length_le (by omega),List.append_nil]at B;exact⟨_,r,jq (λp q c=>mod_lt _ I) _ _ _ _ _,z4,by rw[hq];rfl,B,H⟩)
 have L2:=λ(d:Nat) (C:d<BB) (u4:Num.bv BB y<(d+1)*Num.bv BB V) (u1:d*Num.bv BB V<Num.bv BB y+Num.bv BB V)=>
  uY (some ⟨k,n,none⟩) (m+1) c b m l (d:Int) ((m:Int)+1) (λa i F cy g=>i<=m+1/\a=m+1-i/\F=((bU BB d y V 0 i 0 0).2.1:Nat)/\cy=((bU BB d y V 0 i 0 0).2.2:Nat)/\g.get k=some (.cells (cO cs n ((bU BB d y V 0 i 0 0).1++y.drop i)) 150 1 true)/\IB h k g) (Gs h k n cs m y V) (by
  intro a i F cy;intros;rename_i g hi;obtain⟨h1,h2,rfl,rfl,B,H⟩:=hi;have r:(bU BB d y V 0 i 0 0).1.length=i:=qZ _ _ _ _ _ _ _ _;have L:=td BB d y V i 0 0 0;rw[Nat.zero_add]at L;have z5:=Eg (q:=d) (v:=V) gH D.ult i;have z9:=sI gH C (u:=y) D.vlt i;generalize u2:bU BB d y V 0 i 0 0=st at*;obtain⟨Wl,F,cy⟩:=st;dsimp only at r B z5 z9 L⊢;have o:(Wl++y.drop i).length=m+1:=by rw[length_append,r,length_drop];omega
  have J:=D.fit;have v7:=ug i;have u5:=vg i;have y4:d*V.getD i 0<=999999999*999999999:=mul_le_mul (by omega) (by omega);refine aa (λA=>?_) (λA=>?_)
  ·have A:=dT A;have M:=C0 B (by rw[o];omega) (i:=i) (by rw[o];omega);rw[wQ _ _ r]at M;have X:=H.wf _ _ B;have step:∀(s:Nat),s=d*V.getD i 0+cy->
     ah SS.P 150 (.pointer (some ⟨k,n+i,none⟩)) (.int .u64 (((y.getD i 0+BB-s%BB-F)%BB:Nat):Int)) g=some (undef,.set k (.cells (cO cs n ((bU BB d y V 0 (i+1) 0 0).1++y.drop (i+1))) 150 1 true)):=λs Y=>by
    rw[DC B (by rw[o];omega) (by rw[o];omega),AD _ _ r (by omega),L,Y];rfl
   have Z:∀(s:Nat),s=d*V.getD i 0+cy->∀(u0:Addr),u0=⟨k,n+i,none⟩->
     ∃y8:Int,ay SS.P .rem 150 (.int .u64 (s:Int)) (.int .u64 1000000000)=some (.int .u64 y8)/\y8=((s%BB:Nat):Int):=λs _ _ _=>⟨_,Ds,rfl⟩
   rw[wi i (by omega)];have x4:∀(s:Nat),s=d*V.getD i 0+cy->((1-(y.getD i 0+BB-s%BB-F)/BB:Nat):Int)=((bU BB d y V 0 (i+1) 0 0).2.1:Nat)/\((s/BB:Nat):Int)=((bU BB d y V 0 (i+1) 0 0).2.2:Nat):=λs Y=>by
    rw[L,Y];exact⟨rfl,rfl⟩
   have ed:∀s:Nat,wrap .u64 (wrap .u64 (wrap .u64 (((y.getD i 0:Nat):Int)+1000000000)-((s%BB:Nat):Int))-(F:Int))=((y.getD i 0+BB-s%BB-F:Nat):Int):=λs=>by
    have hm:=mod_lt s I;generalize s%BB=z at hm;have a1:wrap .u64 (((y.getD i 0:Nat):Int)+1000000000)=((y.getD i 0+BB:Nat):Int):=wU (by omega) (by omega);have a2:wrap .u64 (((y.getD i 0+BB:Nat):Int)-(z:Int))=((y.getD i 0+BB-z:Nat):Int):=wU (by omega) (by omega);have a3:wrap .u64 (((y.getD i 0+BB-z:Nat):Int)-(F:Int))=((y.getD i 0+BB-z-F:Nat):Int):=wU (by omega) (by omega);rw[a1,a2,a3]
   have z1:∀s:Nat,wrap .u64 (1-(((y.getD i 0+BB-s%BB-F)/BB:Nat):Int))=((1-(y.getD i 0+BB-s%BB-F)/BB:Nat):Int):=λs=>by
    have h9:(y.getD i 0+BB-s%BB-F)/BB<2:=Nat.div_lt_of_lt_mul (by omega);generalize (y.getD i 0+BB-s%BB-F)/BB=z at h9⊢;exact wU (by omega) (by omega)
   refine aa (λf=>?_) (λf=>?_)
   ·have f:=dT f;obtain⟨p,Q,K⟩:=Fc (D.rd g H) (i:=(i:Int)) (by omega) (by omega);rw[toNat_natCast]at K;refine⟨p,Q,_,K,_,xp (by omega) (by omega),_,by rw[toNat_natCast];exact M,?_⟩;have e2:wrap .u64 ((cy:Int)+wrap .u64 ((d:Int)*((V.getD i 0:Nat):Int)))=((d*V.getD i 0+cy:Nat):Int):=by
     have e0:wrap .u64 ((d:Int)*((V.getD i 0:Nat):Int))=((d*V.getD i 0:Nat):Int):=wU (by rw[Int.natCast_mul]) (by omega);rw[e0];exact wU (by omega) (by omega)
    rw[e2];refine⟨_,Ds,?_⟩;dsimp only;rw[ed];have hm:=mod_lt (d*V.getD i 0+cy) I;refine⟨_,Ds,_,FM (by omega),_,FM (by omega),_,xp (by omega) (by omega),_,by rw[toNat_natCast];exact step _ rfl,?_⟩;rw[z1];refine Jo (a-1) (by omega) ⟨by omega,by omega,(x4 _ rfl).1,(x4 _ rfl).2,?_,H.set X _⟩;show(g.set k _).get k=_;rw[ae.aw,if_pos rfl]
   ·have f:=dF f;have x8:V.getD i 0=0:=by rw[gD,getElem?_eq_none (by omega)];rfl
    have x5:cy=d*V.getD i 0+cy:=by rw[x8,Nat.mul_zero,Nat.zero_add]
    refine⟨_,xp (by omega) (by omega),_,by rw[toNat_natCast];exact M,_,Ds,?_⟩;dsimp only;rw[ed];have hm:=mod_lt cy I;refine⟨_,Ds,_,FM (by omega),_,FM (by omega),_,xp (by omega) (by omega),_,by rw[toNat_natCast];exact step _ x5,?_⟩;rw[z1];refine Jo (a-1) (by omega) ⟨by omega,by omega,(x4 _ x5).1,(x4 _ x5).2,?_,H.set X _⟩;show(g.set k _).get k=_;rw[ae.aw,if_pos rfl]
  ·have A:=dF A;obtain rfl:i=m+1:=by omega
   obtain⟨d0,d1,d2⟩:=Gz gH D.ult D.vlt D.ul D.vl C u4 u1;have w:=uj (q:=d) gH y V (m+1) 0 0 0;rw[u2]at d0 d1 d2 w;dsimp only at d0 d1 d2 w;rw[List.drop_of_length_le (by omega),List.append_nil]at B;refine aa (λf=>?_) (λf=>?_)
   ·have f:(F:Int)=0:=by simpa using f
    obtain⟨e1,e2⟩:=d1 (by omega);exact⟨Wl,r,w,e2,by rw[e1];rfl,B,H⟩
   ·have f:¬(F:Int)=0:=by simpa using f
    obtain⟨e0,e1,e2⟩:=d2 (by omega);rw[P];exact L3 d Wl e0 C r w e1 e2 (m+1) (i:=0) ⟨by omega,by omega,rfl,by simpa[bk]using B,H⟩)
 have O:=D.v1;have y1:y.getD m 0*BB+y.getD (m-1) 0<1000000000000000000:=by
  have a1:=ug m;have a2:=ug (m-1);have a3:y.getD m 0*BB=1000000000*y.getD m 0:=by rw[y2,Nat.mul_comm]
  omega
 have L1:=uX (some ⟨k,n,none⟩) (m+1) c b m l (λa q Z g=>∃d G:Nat,q=(d:Int)/\Z=(G:Int)/\a=d/\hP BB m y V d G/\g.get k=some (.cells (cO cs n y) 150 1 true)/\IB h k g) (Gs h k n cs m y V) (by
  intro a q Z;intros;rename_i g hi;obtain⟨d,G,rfl,rfl,rfl,T,B,H⟩:=hi;have hT:=T.eq;have J:=D.fit;have v9:G<1000000000000000000:=Nat.lt_of_le_of_lt (by rw[<-hT];omega) y1;have v6:a<1000000000000000000:=by
   refine Nat.lt_of_le_of_lt ?_ y1;rw[<-hT];have:=Nat.le_mul_of_pos_right a O;omega
  have t:=H.room 28;have E:(room g 28).get k=some (.cells (cO cs n y) 150 1 true):=B;have v2:=vg (m-1);have hj:((m-1:Nat):Int).toNat=m-1:=by omega
  obtain⟨p1,Q,K⟩:=Fc (D.rd _ t) (i:=((m-1:Nat):Int)) (by omega) (by omega);rw[hj]at K;have er:wrap .u64 ((G:Int)+((V.getD (m-1) 0:Nat):Int))=((G+V.getD (m-1) 0:Nat):Int):=wU (by omega) (by omega);have u7:∀(S:Nat),S<BB->Num.bv BB y<(S+1)*Num.bv BB V->S*Num.bv BB V<Num.bv BB y+Num.bv BB V->_:=λS h1 h2 h3=>L2 S h1 h2 h3;have y3:Num.bv BB y<a*Num.bv BB V->0<a/\hP BB m y V (a-1) (G+V.getD (m-1) 0):=λM=>⟨by
   rcases Nat.eq_zero_or_pos a with e|e
   ·subst e;rw[Nat.zero_mul]at M;omega
   ·exact e,T.lower M⟩
  have x3:a-1<BB->BB<=G+V.getD (m-1) 0->hP BB m y V (a-1) (G+V.getD (m-1) 0)->(a-1)*Num.bv BB V<Num.bv BB y+Num.bv BB V:=λh1 h2 N=>
   N.last gH D.ul D.vl x6 D.vlt O h1 λ_=>vp h1 (vg (m-2)) h2
  have v0:Num.bv BB y<a*Num.bv BB V->True:=λ_=>trivial;rw[y6];refine aa (λA=>?_) (λA=>?_)
  ·have A:=dT A;obtain⟨y5,N⟩:=y3 (hP.acA D.lt (by omega));have x9:wrap .u64 ((a:Int)-1)=((a-1:Nat):Int):=wU (by omega) (by omega);rw[x9];refine⟨p1,Q,_,K,?_⟩;dsimp only;rw[er];generalize x2:decide (((a-1:Nat):Int)<1000000000)=bz;refine aa (λf=>aa (λR=>?_) (λR=>?_)) (λf=>?_)
   ·subst x2;have f:=dT f;have R:=dT R;rw[P];exact L2 (a-1) (by omega) N.hi (x3 (by omega) (by omega) N) (m+1) (i:=0) ⟨by omega,by omega,rfl,rfl,by simpa[bU]using E,t⟩
   ·exact iI (a-1) (by omega) ⟨a-1,_,rfl,rfl,rfl,N,E,t⟩
   ·exact iI (a-1) (by omega) ⟨a-1,_,rfl,rfl,rfl,N,E,t⟩
  ·have A:=dF A;have C:a<BB:=by omega
   have x1:(1<m->a*V.getD (m-2) 0<=G*BB+y.getD (m-2) 0)->a*Num.bv BB V<Num.bv BB y+Num.bv BB V:=λY=>T.last gH D.ul D.vl x6 D.vlt O C Y;refine aa (λf=>?_) (λf=>?_)
   ·have f:=dT f;have y9:1<m:=by omega
    rw[z6 y9];generalize x2:decide ((G:Int)<1000000000)=bz;refine aa (λR=>?_) (λR=>?_)
    ·subst x2;have R:=dT R;have z3:((m-2:Nat):Int).toNat=m-2:=by omega
     obtain⟨p2,g4,g5⟩:=Fc (D.rd _ t) (i:=((m-2:Nat):Int)) (by omega) (by omega);rw[z3]at g5;have M:=C0 E J (i:=m-2) (by omega);refine⟨p2,g4,_,g5,_,xp (by omega) (by omega),_,by rw[z3];exact M,?_⟩;have v3:=vg (m-2);have w0:=ug (m-2);have y4:a*V.getD (m-2) 0<=999999999*999999999:=mul_le_mul (by omega) (by omega);have ea:wrap .u64 ((a:Int)*((V.getD (m-2) 0:Nat):Int))=((a*V.getD (m-2) 0:Nat):Int):=wU (by rw[Int.natCast_mul]) (by omega);obtain⟨RB,y0⟩:∃x,x=G*BB:=⟨_,rfl⟩
     have u9:RB=1000000000*G:=by rw[y0,y2,Nat.mul_comm]
     obtain⟨MV,x7⟩:∃x,x=a*V.getD (m-2) 0:=⟨_,rfl⟩
     rw[<-x7]at y4 ea;have eb:wrap .u64 ((G:Int)*1000000000)=(RB:Int):=wU (by omega) (by omega);have ec:wrap .u64 ((RB:Int)+((y.getD (m-2) 0:Nat):Int))=((RB+y.getD (m-2) 0:Nat):Int):=wU (by omega) (by omega);dsimp only;rw[ea,eb,ec];generalize z0:decide ((MV:Int)>((RB+y.getD (m-2) 0:Nat):Int))=v5;refine aa (λh8=>?_) (λh8=>?_)
     ·subst z0;have h8:=dT h8;obtain⟨y5,N⟩:=y3 (T.second D.ul D.vl y9 D.ult (by rw[<-y0,<-x7];omega));have x9:wrap .u64 ((a:Int)-1)=((a-1:Nat):Int):=wU (by omega) (by omega);rw[x9];refine⟨p1,Q,_,K,?_⟩;dsimp only;rw[er];generalize w3:decide (((a-1:Nat):Int)<1000000000)=bx;refine aa (λh9=>aa (λu6=>?_) (λu6=>?_)) (λh9=>?_)
      ·have h9:=dT h9;rw[P];exact L2 (a-1) (by omega) N.hi (x3 (by omega) (by omega) N) (m+1) (i:=0) ⟨by omega,by omega,rfl,rfl,by simpa[bU]using E,t⟩
      ·exact iI (a-1) (by omega) ⟨a-1,_,rfl,rfl,rfl,N,E,t⟩
      ·exact iI (a-1) (by omega) ⟨a-1,_,rfl,rfl,rfl,N,E,t⟩
     ·subst z0;have h8:=dF h8;rw[P];exact L2 a C T.hi (x1 λ_=>by rw[<-y0,<-x7];omega) (m+1) (i:=0) ⟨by omega,by omega,rfl,rfl,by simpa[bU]using E,t⟩
    ·subst x2;have R:=dF R;rw[P];exact L2 a C T.hi (x1 λ_=>vp C (vg (m-2)) (by omega)) (m+1) (i:=0) ⟨by omega,by omega,rfl,rfl,by simpa[bU]using E,t⟩
   ·have f:=dF f;rw[P];exact L2 a C T.hi (x1 λhm=>by omega) (m+1) (i:=0) ⟨by omega,by omega,rfl,rfl,by simpa[bU]using E,t⟩)
 have z8:=(IB.refl (k:=k) D.w).room 12;have z2:=z8.room 16;have J:=D.fit;have hj:((m-1:Nat):Int).toNat=m-1:=by omega
 have z7:=C0 (g:=room h 12) D.get J (i:=m) (by omega);have u3:=C0 (g:=room h 12) D.get J (i:=m-1) (by omega);obtain⟨p1,Q,K⟩:=Fc (D.rd _ z2) (i:=((m-1:Nat):Int)) (by omega) (by omega);rw[hj]at K;have a1:=ug m;have a2:=ug (m-1);refine JC _ _ _ _ _ _ h _ ⟨_,xp (by omega) (by omega),_,by rw[toNat_natCast];exact z7,?_⟩;rw[y6];refine⟨_,xp (by omega) (by omega),_,by rw[hj];exact u3,p1,Q,_,K,?_⟩;obtain⟨TB,y7⟩:∃x,x=y.getD m 0*BB:=⟨_,rfl⟩
 have v1:TB=1000000000*y.getD m 0:=by rw[y7,y2,Nat.mul_comm]
 have ea:wrap .u64 (((y.getD m 0:Nat):Int)*1000000000)=(TB:Int):=wU (by omega) (by omega);have eb:wrap .u64 ((TB:Int)+((y.getD (m-1) 0:Nat):Int))=((TB+y.getD (m-1) 0:Nat):Int):=wU (by omega) (by omega);rw[ea,eb];have U:=hP.start gH D.ul D.vl x6 D.ult O;rw[<-y7]at U;refine⟨_,Ui (by omega) O,p1,Q,_,K,_,ZK O,?_⟩;exact L1 _ ⟨_,_,rfl,rfl,rfl,U,D.get,z2⟩
variable{g:ae}{T:TypeId}{v:Value}{c:List Value}{a:Option Addr}{x:List Nat}
theorem ej.adr{b:ae}(d:g.next<=b.next)(o:ej b h T v c):ej g h T v c:=by
 rcases o with o|⟨k,cs,a,f,e,i,j⟩
 ·exact .inl o
 ·exact .inr ⟨k,cs,a,Nat.le_trans d f,e,i,j⟩
theorem aan(k:Int):eK SS.P 150 (.int .u64 k)=some (.cells [.int .u64 k] 150 0 true,k6):=by kernel_rfl
theorem xJ{c:Nat}(p:Rd h 150 (.slice a n c) (x.map uv))(m:∀d∈x,d<BB)(b:x.length<=10000){k:Nat}(g:0<k)(q:k<=BB)(w:Wf h):
  FW SS 202 [.slice a n c,.int .u64 (k:Int)] h (iV h 150 (bl (Num.bv BB x*k))):=by
 have e:=(Ok.refl w).push (.cells [.int .u64 (k:Int)] 150 0 true);refine Hl a n c _ h _ ⟨_,aan _,?_⟩;have r:aj SS.P 150 (h.push (.cells [.int .u64 (k:Int)] 150 0 true)) (.pointer (some ⟨h.next,0,none⟩))=some (.int .u64 (k:Int)):=by
  unfold aj;rw[Oi];dsimp only;rw[ae.bt,if_pos rfl];dsimp only;rw[Nq];rfl
 refine(Ev (p.ok e) m b r g q e.wf).mono ?_;rintro _ s ⟨j,f,l,rfl,o,i⟩;exact⟨j,f,l,rfl,j,f,l,rfl,ej.adr (Nat.le_succ _) o,e.trans i⟩
def Ck(h:ae)(k a n c:Nat)(l:List Nat):Prop:=∃cs b,h.get k=some (.cells cs 150 1 b)/\n=l.length/\(cs.drop a).take n=l.map uv/\n<=bH c
theorem Ck.rd{c:Nat}(r:Ck h k n m c x):Rd h 150 (.slice (some ⟨k,n,none⟩) m c) (x.map uv):=by
 obtain⟨cs,d,b,rfl,a,e⟩:=r;exact .inr ⟨k,n,cs,c,d,by rw[lM],b,by rw[lM];exact a⟩
theorem Ck.take{c:Nat}(r:Ck h k n m c x){j:Nat}(g:j<=m):bG SS.P 177 (.slice (some ⟨k,n,none⟩) m c) none (some (.int .i64 (j:Int))) none h=some (.slice (some ⟨k,n,none⟩) j c)/\Ck h k n j c (x.take j):=by
 obtain⟨cs,d,a,rfl,b,i⟩:=r;refine⟨?_,cs,d,a,by rw[length_take];omega,?_,by omega⟩
 ·unfold bG;dsimp only;rw[AX];dsimp only[eP];rw[Ea,a];dsimp only;have e:((j:Int)-((0:Nat):Int)).toNat=j:=by omega
  have f:((0:Nat):Int).toNat=0:=rfl;rw[if_pos (by simp),if_pos (by omega),e,f];rfl
 ·have:=congrArg (List.take j) b;rwa[List.take_take,min_eq_left g,<-map_take]at this
theorem pQ{c:Nat}(r:Ck h k n m c x)(y:x.length<=100000):
  FW SS 174 [.slice (some ⟨k,n,none⟩) m c] h (λv l=>v = .slice (some ⟨k,n,none⟩) (dQ x).length c/\l=h):=by
 have s:m=x.length:=by obtain⟨_,_,_,D,_⟩:=r;exact D
 have L:=pe (some ⟨k,n,none⟩) m c (λa r q d g=>q<=x.length/\a=q/\r=some ⟨k,n,none⟩/\d=c/\Ck h k n q c (x.take q)/\dQ x=dQ (x.take q)/\g=h) (λv l=>v = .slice (some ⟨k,n,none⟩) (dQ x).length c/\l=h) (by
  intro a r q d;intros;rename_i g F;obtain⟨C,rfl,rfl,rfl,t,o,rfl⟩:=F;have E:wrap .i64 ((a:Int)-1)=(a:Int)-1:=aB (by omega) (by omega);rw[E];have f:a≠0->x.take a=x.take (a-1)++[x.getD (a-1) 0]:=λf=>by
   obtain⟨j,rfl⟩:∃j,a=j+1:=⟨a-1,by omega⟩
   rw[List.take_succ_eq_append_getElem (by omega),Nat.add_sub_cancel,gD,gE (by omega)];rfl
  refine aa (λe=>?_) (λe=>?_)
  ·have e:=dT e;obtain⟨p,A,w⟩:=Fc t.rd (i:=(a:Int)-1) (by omega) (by rw[length_take];omega);have z:(x.take a).getD ((a:Int)-1).toNat 0=x.getD (a-1) 0:=by
    rw[show((a:Int)-1).toNat=a-1 by omega,gD,List.getElem?_take,if_pos (by omega),gD]
   rw[z]at w;refine⟨p,A,_,w,aa (λb=>?_) (λb=>?_)⟩
   ·have b:((x.getD (a-1) 0:Nat):Int)=0:=by simpa using b
    have b:x.getD (a-1) 0=0:=by omega
    obtain⟨B,u⟩:=t.take (j:=a-1) (by omega);rw[show((a:Int)-1)=((a-1:Nat):Int) by omega];refine⟨_,_,_,B,Jo (a-1) (by omega) ⟨by omega,rfl,rfl,rfl,?_,?_,rfl⟩⟩
    ·rw[List.take_take,min_eq_left (by omega)]at u;exact u
    ·rw[o,f (by omega),b,iZ]
   ·have b:¬((x.getD (a-1) 0:Nat):Int)=0:=by simpa using b
    refine⟨?_,rfl⟩;rw[o,f (by omega),jN _ (by omega),<-f (by omega),length_take,min_eq_left C]
  ·have e:=dF e;obtain rfl:a=0:=by omega
   refine⟨?_,rfl⟩;rw[o];rfl)
 exact C5 _ m c h _ (L m ⟨by omega,rfl,rfl,rfl,by rw[show x.take m=x by rw[s,take_length]];exact r,by rw[show x.take m=x by rw[s,take_length]],rfl⟩)
theorem D9:∀n,df [uv 0] n=(List.replicate n 0).map uv
 |0=>rfl
 |n+1=>by rw[df,D9 n];rfl
noncomputable def VD:TypeInfo:=(SS.P.info? 150).getD default
theorem VE:SS.P.info? 150=some VD:=by kernel_rfl
theorem M1:VD.size=1:=by kernel_rfl
theorem KD:VD.bytes=8:=by kernel_rfl
theorem Ze:zeroOf SS.P 150=some (uv 0):=by kernel_rfl
theorem ZG(n:Nat)(a:n<=100000):ch SS.P 177 (.int .i64 (n:Int)) (.int .i64 (n:Int))=some (.cells ((List.replicate n 0).map uv) 150 1 true,mL n n):=by
 unfold ch bV;dsimp only;rw[AX]
 try dsimp only
 change (match SS.P.info? 150,zeroOf SS.P 150 with
  |some i,some z=>(if z.cells.size=i.size/\0<i.size/\(0:Int)<=(n:Int)/\(n:Int)<=(n:Int)/\(n:Int)*i.bytes<=140737488355328/\(n:Int)<=1099511627776 then some (dS.cells (df z.cells.toList (n:Int).toNat) 150 i.size true,λk=>Value.slice (some ⟨k,0,none⟩) (n:Int).toNat (n:Int).toNat)else none)
  |_,_=>none)=_
 rw[VE,Ze];dsimp only;rw[M1,KD,if_pos ⟨rfl,by omega,by omega,Int.le_refl _,by omega,by omega⟩];have e:((n:Int)).toNat=n:=by omega
 rw[e,show(uv 0).cells.toList=[uv 0]from rfl,D9];rfl
theorem ni(h:(c.drop n).take x.length=x.map uv):cO c n x=c:=by
 unfold cO;rw[<-h,append_assoc,<-List.drop_drop,List.take_append_drop,List.take_append_drop]
theorem Et{W:List Nat}(h:n+y.length<=x.length)(e:x.length<=c.length)(g:y.length=W.length)(f:(x.drop n).take W.length=W):
  cO (cO c 0 x) n y=cO c 0 (x.take n++y++x.drop (n+y.length)):=by
 unfold cO;have b:(c.take 0++x.map uv++c.drop (0+x.length)).take n=(x.take n).map uv:=by
  rw[take_zero,nil_append,List.take_append_of_le_length (by rw[lM];omega),map_take]
 have d:(c.take 0++x.map uv++c.drop (0+x.length)).drop (n+y.length)=(x.drop (n+y.length)).map uv++c.drop (0+x.length):=by
  rw[take_zero,nil_append,List.drop_append_of_le_length (by rw[lM];omega),List.map_drop]
 have a:(x.take n++y++x.drop (n+y.length)).length=x.length:=by
  simp only[length_append,length_take,length_drop];omega
 rw[b,d,a,map_append,map_append,take_zero,nil_append,append_assoc,append_assoc,append_assoc]
theorem qj(a:n+m<=x.length):((cO c 0 x).drop n).take m=((x.drop n).take m).map uv:=by
 unfold cO;rw[take_zero,nil_append,List.drop_append_of_le_length (by rw[lM];omega),List.take_append_of_le_length (by rw[length_drop,lM];omega),<-List.map_drop,<-map_take]
theorem CX(h:n+x.length<=c.length):(cO c n x).length=c.length:=by
 unfold cO;simp only[length_append,length_take,lM,length_drop];omega
theorem Ck.H2{c:Nat}(r:Ck h k n m c x){lo hi:Nat}(f:lo<=hi)(i:hi<=m):bG SS.P 177 (.slice (some ⟨k,n,none⟩) m c) (some (.int .i64 (lo:Int))) (some (.int .i64 (hi:Int))) none h=some (.slice (some ⟨k,n+lo,none⟩) (hi-lo) (c-lo)):=by
 obtain⟨cs,g,a,rfl,e,j⟩:=r;unfold bG;dsimp only;rw[AX];dsimp only[eP];rw[Ea,a];dsimp only;have b:((hi:Int)-(lo:Int)).toNat=hi-lo:=by omega
 have d:((lo:Nat):Int).toNat=lo:=by omega
 rw[if_pos (by simp),if_pos (by omega),b,d,Nat.mul_one]
structure ZR(h2 G:ae)(ku kv kq:Nat)(cu:List Value)(cv:List Value)(U Ql:List Nat)(N m XK V j:Nat):Prop where
 ok:Ok h2 G
 w2:Wf h2
 u2:h2.next<=ku
 q2:h2.next<=kq
 gu:G.get ku=some (.cells (cO cu 0 U) 150 1 true)
 gv:G.get kv=some (.cells cv 150 1 true)
 gq:G.get kq=some (.cells (cO ((List.replicate (N+1-m) 0).map uv) 0 Ql) 150 1 true)
 uv':ku≠kv
 uq:ku≠kq
 vq:kv≠kq
 ul:U.length=N+1
 cl:N+1<=cu.length
 aaS:Ql.length=N+1-m
 YY:(cv.take (aW BB V).length)=bl V
 inv:iF BB m V XK U Ql j
end Go.Proofs.YtaaichlgdgjgjaaGreatDoor
end
section
set_option linter.defProp false
namespace Go.Proofs.YtaaichlgdgjgjaaGreatDoor
open Go Go.Ab Go.Num
variable{h:ae}{k:Nat}{n:Nat}{d:List Value}{x:List Nat}{g:ae}
def Gt(h:ae)(X Y:Nat):VH:=λv a=>∃(g:Option Addr)(b e:Nat)(d:Option Addr)(c f:Nat),v = .tuple ⟨[.slice g b e,.slice d c f]⟩/\Rd a 150 (.slice g b e) (bl (X/Y))/\Rd a 150 (.slice d c f) (bl (X%Y))/\Ok h a
theorem BP{c:Nat}(b:h.get k=some (.cells (cO d 0 x) 150 1 true))(a:n=x.length)(e:n<=bH c):Ck h k 0 n c x:=by
 refine⟨_,_,b,a,?_,e⟩;subst a;rw[qj (by omega),drop_zero,take_length]
theorem zU{c:Nat}(r:Ck g k 0 n c x)(b:∀d∈x,d<BB):Rd g 150 (.slice (some ⟨k,0,none⟩) (dQ x).length c) (bl (Num.bv BB x)):=by
 obtain⟨e,i⟩:=wV x;have f:n=x.length:=by obtain⟨_,_,_,h,_⟩:=r;exact h
 have a:=(r.take (j:=(dQ x).length) (by omega)).2.rd;rw[e,kX gH b]at a;rw[kX gH b];exact a
def Xv{h:ae}(w:Wf h){X Y ku kq f rc L k R:Nat}{C Zq:List Value}{Ql:List Nat}(G:h.next<=ku)(x3:h.next<=kq)(N:ku≠kq)(x6:f<=C.length)(x0:f<=10000)(V:L=Ql.length)(x4:L<=10000)(E:f<=bH rc)(u:L<=bH L)(v:0<k)(kB:k<=BB)
  (hQ:∀d∈Ql,d<BB) (Z:Num.bv BB Ql=X/Y) (hr:R/k=X%Y) (a:Option Addr) (n c:Nat) (b:Option Addr) (m d:Nat):=
 tE a n c b m d (k:Int) (some ⟨kq,0,none⟩) L L (some ⟨ku,0,none⟩) f rc (f:Int)
  (λD i left g=>i<=f/\D=f-i/\(∃(r:List Nat)(q:Nat),r.length=f/\left=(q:Int)/\kT BB k R r (f-i) q/\g.get ku=some (.cells (cO C 0 r) 150 1 true))/\g.get kq=some (.cells (cO Zq 0 Ql) 150 1 true)/\Ok h g) (Gt h X Y) (by
  intro D i left;intros;rename_i g hi;obtain⟨h1,h2,⟨r,q,j,rfl,l,y⟩,B,S⟩:=hi;have P:BB=1000000000:=rfl;have J:wrap .i64 ((f:Int)-1)=(f:Int)-1:=aB (by omega) (by omega);have F:wrap .i64 ((f:Int)-1-(i:Int))=(f:Int)-1-(i:Int):=aB (by omega) (by omega);have H:wrap .i64 ((i:Int)+1)=((i+1:Nat):Int):=by rw[aB (by omega) (by omega)];omega
  rw[J,F,H];refine aa (λs=>?_) (λs=>?_)
  ·have s:=dT s;have Q:((f:Int)-1-(i:Int)).toNat=f-1-i:=by omega
   have W:=C0 y (by rw[j];omega) (i:=f-1-i) (by rw[j];omega);have x2:=l.lt;have x5:r.getD (f-1-i) 0<BB:=aZ (by decide) l.rl _;obtain⟨o,A⟩:∃x,x=q*BB:=⟨_,rfl⟩
   have x1:o=1000000000*q:=by rw[A,P,Nat.mul_comm]
   have T:wrap .u64 ((q:Int)*1000000000)=(o:Int):=wU (by omega) (by omega);have U:wrap .u64 ((o:Int)+((r.getD (f-1-i) 0:Nat):Int))=((o+r.getD (f-1-i) 0:Nat):Int):=wU (by omega) (by omega);refine⟨_,xp (by omega) (by omega),_,by rw[Q];exact W,?_⟩;dsimp only;rw[T,U];refine⟨_,Ui (by omega) v,_,ZK v,_,xp (by omega) (by omega),?_⟩;have K:=DC (g:=room g 11) y (by rw[j];omega) (i:=f-1-i) (by rw[j];omega) ((o+r.getD (f-1-i) 0)/k);have z:=S.room 11;have O:=z.wf _ _ (show(room g 11).get ku=_ from y);refine⟨_,by rw[Q];exact K,?_⟩;have p:=kT.step (at':=f-1-i) v (by rw[show f-1-i+1=f-i by omega];exact l);rw[<-A]at p;refine iI (D-1) (by omega) ⟨by omega,by omega,⟨r.set (f-1-i) ((o+r.getD (f-1-i) 0)/k),(o+r.getD (f-1-i) 0)%k,by rw[length_set,j],rfl,by rw[show f-(i+1)=f-1-i by omega];exact p,?_⟩,?_,z.set _ G O w⟩
   ·show((room g 11).set ku _).get ku=_;rw[ae.aw,if_pos rfl]
   ·show((room g 11).set ku _).get kq=_;rw[ae.aw,if_neg (λe=>N e.symm)];exact B
  ·have s:=dF s;obtain rfl:i=f:=by omega
   rw[Nat.sub_self]at l;have t:=l.done v;have I:=BP B V u;have M:=BP y j.symm E;refine(pQ I (by omega)).mono ?_;rintro _ _ ⟨rfl,rfl⟩;refine⟨_,_,_,rfl,(pQ M (by omega)).mono ?_⟩;rintro _ _ ⟨rfl,rfl⟩;refine⟨_,_,_,rfl,_,_,_,_,_,_,rfl,?_,?_,S⟩
   ·have:=zU I hQ;rw[Z]at this;exact this
   ·have:=zU M l.rl;rw[t,hr]at this;exact this)
theorem Ok.but{b:ae}(o:Ok h g)(w:Wf h)(x:IB g k b)(c:h.next<=k):Ok h b:=
 ⟨x.wf,λj B a=>x.kF j B (λe=>by have:=w _ _ a;omega) (o.ext j B a),Nat.le_trans o.nx x.nx⟩
def Xw{h2:ae}{X Y N m L k ku kv kq ec:Nat}{cu cv:List Value}(hY:0<Y)(hm:0<m)(y4:m<=N)(hN:N<=5000)(hL:L=N+1-m)(u:0<k)(kB:k<=BB)(o:(aW BB (Y*k)).length=m)(H:Y*k<=BB^m)(a:Option Addr)(n c:Nat)(b:Option Addr)(d:Nat):=
 tD a n c b m d (k:Int) (some ⟨kq,0,none⟩) L L (some ⟨ku,0,none⟩) (N+1) (dn+cu.length) (some ⟨kv,0,none⟩) m ec (L:Int)
  (λO i G=>i<=L/\O=L-i/\∃U j:List Nat,ZR h2 G ku kv kq cu cv U j N m (X*k) (Y*k) (L-i)) (Gt h2 X Y) (by
  intro O i;intros;rename_i G hi;obtain⟨h1,y2,U,j,D⟩:=hi;have M:0<Y*k:=mul_pos hY u;have x4:wrap .i64 ((L:Int)-1)=(L:Int)-1:=aB (by omega) (by omega);have x2:wrap .i64 ((i:Int)+1)=((i+1:Nat):Int):=by rw[aB (by omega) (by omega)];omega
  have s:bH (dn+cu.length)=cu.length:=by unfold bH;rw[if_pos (by omega)];omega
  have y1:=D.ul;have K:=D.cl;have F:=D.aaS;have ru:=BP (c:=dn+cu.length) D.gu y1.symm (by rw[s];exact K);rw[x4];refine aa (λv=>?_) (λv=>?_)
  ·have v:=dT v;obtain⟨f,y3⟩:∃x,x=L-1-i:=⟨_,rfl⟩
   have Z:wrap .i64 ((L:Int)-1-(i:Int))=(f:Int):=by rw[aB (by omega) (by omega)];omega
   have x9:wrap .i64 ((f:Int)+(m:Int))=((f+m:Nat):Int):=by rw[aB (by omega) (by omega)];omega
   have x1:wrap .i64 (((f+m:Nat):Int)+1)=((f+m+1:Nat):Int):=by rw[aB (by omega) (by omega)];omega
   rw[Z,x9,x1,x2];have h:iF BB m (Y*k) (X*k) U j (f+1):=by rw[show f+1=L-i by omega];exact D.inv
   obtain⟨w1,w2,t⟩:=h.H2 gH H;have r:=ru.H2 (lo:=f) (hi:=f+m+1) (by omega) (by omega);rw[show f+m+1-f=m+1 by omega,Nat.zero_add]at r;refine⟨_,_,_,r,?_⟩;have P:(cO cu 0 U).length=cu.length:=CX (by omega);have DI:Zf G ku f (dn+cu.length-f) m (cO cu 0 U) ((U.drop f).take (m+1)) (aW BB (Y*k)) (some ⟨kv,0,none⟩) ec:={
    w:=D.ok.wf
    get:=by
     rw[ni (by rw[t];exact qj (by omega))];exact D.gu
    fit:=by rw[t,P];omega
    ul:=t
    vl:=o
    mp:=hm
    mle:=by omega
    ult:=λx A=>h.ul x (List.mem_of_mem_drop (List.mem_of_mem_take A))
    vlt:=dq gH _
    v1:=by have:=E6 gH M;rwa[o]at this
    lt:=by rw[cm gH];exact w2
    rd:=λg og=> .inr ⟨kv,0,cv,ec,true,by rw[lM,o],og.kF _ _ (λe=>D.uv' e.symm) D.gv,by rw[drop_zero,lM];exact D.YY⟩ }
   refine(JD DI).mono ?_;rintro _ V ⟨W',z,x8,l,rfl,S,p⟩;rw[cm gH]at l;have x6:Num.bv BB ((U.drop f).take (m+1))/Num.bv BB (aW BB (Y*k))=Num.bv BB ((U.drop f).take (m+1))/(Y*k):=by rw[cm gH]
   rw[x6];have y0:Num.bv BB ((U.drop f).take (m+1))/(Y*k)<BB:=Nat.div_lt_of_lt_mul (by rw[Nat.mul_comm];exact w2);have J:=p.kF _ _ (λe=>D.uq e.symm) D.gq;have x3:=p.kF _ _ (λe=>D.uv' e.symm) D.gv;have I:=Ok.but D.ok D.w2 p D.u2;have x0:((List.replicate (N+1-m) 0).map uv).length=N+1-m:=by rw[lM,length_replicate]
   have x5:=DC J (by rw[x0];omega) (i:=f) (by omega) (Num.bv BB ((U.drop f).take (m+1))/(Y*k));have x7:=I.wf _ _ J;have E:=xp (k:=kq) (off:=0) (n:=L) (c:=L) (i:=(f:Int)) (by omega) (by omega);rw[toNat_natCast]at E;refine⟨_,rfl,_,E,_,x5,?_⟩;have y:Num.bv BB ((U.drop f).take (m+1))=Num.bv BB W'+Num.bv BB ((U.drop f).take (m+1))/(Y*k)*(Y*k):=by
    have h9:=Nat.mod_add_div (Num.bv BB ((U.drop f).take (m+1))) (Y*k);rw[Nat.mul_comm (Y*k)]at h9;rw[l];exact h9.symm
   have T:=h.step gH H x8 z y0 y (by rw[l];exact mod_lt _ M);refine bZ (O-1) (by omega) ⟨by omega,by omega,U.take f++W'++U.drop (f+(m+1)),j.set f (Num.bv BB ((U.drop f).take (m+1))/(Y*k)),{
    ok:=I.set _ D.q2 x7 D.w2
    w2:=D.w2
    u2:=D.u2
    q2:=D.q2
    gu:= ?_
    gv:= ?_
    gq:= ?_
    uv':=D.uv'
    uq:=D.uq
    vq:=D.vq
    ul:= ?_
    cl:=K
    aaS:=by rw[length_set];exact F
    YY:=D.YY
    inv:=by rw[show L-(i+1)=f by omega];exact T }⟩
   ·show(V.set kq _).get ku=_;rw[ae.aw,if_neg D.uq,S,Et (W:=(U.drop f).take (m+1)) (by omega) (by omega) (by rw[z,t]) (by rw[t]),z]
   ·show(V.set kq _).get kv=_;rw[ae.aw,if_neg D.vq];exact x3
   ·show(V.set kq _).get kq=_;rw[ae.aw,if_pos rfl]
   ·simp only[length_append,length_take,length_drop,z];omega
  ·have v:=dF v;obtain rfl:i=L:=by omega
   have h:=D.inv;rw[Nat.sub_self]at h;obtain⟨d1,d2⟩:=h.done;obtain⟨e1,e2⟩:=A5 (X:=X) (Y:=Y) u;rw[e1]at d1;rw[e2]at d2;have q:=h.ul;obtain⟨t1,t2⟩:=wV U;refine(pQ ru (by omega)).mono ?_;rintro _ _ ⟨rfl,rfl⟩;refine⟨_,_,_,rfl,?_⟩;have P:(cO cu 0 U).length=cu.length:=CX (by omega);have B:bH (N+1-m)=N+1-m:=by unfold bH;rw[if_neg (by unfold dn;omega)]
   have Q:Num.bv BB (dQ U)=X%Y*k:=by rw[kX gH q,cm gH,d2]
   subst hL;rename_i G';refine Xv D.w2 (X:=X) (Y:=Y) (ku:=ku) (kq:=kq) (rc:=dn+cu.length) (k:=k) (R:=X%Y*k) (C:=cO cu 0 U) (Zq:=(List.replicate (N+1-m) 0).map uv) (Ql:=j) D.u2 D.q2 D.uq (by rw[P];omega) (by omega) F.symm (by omega) (by rw[s];omega) (by rw[B];exact Nat.le_refl _) u kB h.ql d1 (Nat.mul_div_cancel _ u) a n c b m d _ (i:=0)
    ⟨Nat.zero_le _,rfl,⟨dQ U,0,rfl,rfl,⟨λx A=>q x (by rw[<-t1]at A;exact List.mem_of_mem_take A),by omega,u,?_⟩,?_⟩,D.gq,D.ok⟩
   ·rw[Nat.sub_zero,List.drop_length,take_length,Q];simp[Num.bv]
   ·rw[ni (by rw[qj (by omega),drop_zero,t1])];exact D.gu)
end Go.Proofs.YtaaichlgdgjgjaaGreatDoor
end
section
namespace Go.Proofs.YtaaichlgdgjgjaaGreatDoor
open Go Go.Ab Go.Num
variable{h:ae}{a:Option Addr}{n:Nat}{j:Nat}{l:Nat}
theorem xy{b:Option Addr}{c:Nat}{X Y:Nat}(V:Rd h 150 (.slice a n c) (bl X))(T:Rd h 150 (.slice b j l) (bl Y))(hY:0<Y)(hN:(aW BB X).length<=5000)(hM:(aW BB Y).length<=5000)(w:Wf h):
  FW SS 189 [.slice a n c,.slice b j l] h (Gt h X Y):=by
 have z7:BB=1000000000:=rfl;have hn:n=(aW BB X).length:=by have:=V.len;rwa[lM]at this
 have y0:j=(aW BB Y).length:=by have:=T.len;rwa[lM]at this
 obtain⟨f1,f2,s,C,f5,G⟩:=RE gH hY;rw[<-y0]at f1 f2 s C f5 G;generalize x6:(aW BB Y).getD (j-1) 0=v at f2 s C G;generalize y2:BB/(v+1)=k at s C G;refine Hj a n c b j l h _ ((qm V T (by omega) w).mono ?_);rintro _ h2 ⟨rfl,f⟩;refine⟨_,rfl,aa (λz=>?_) (λz=>?_)⟩
 ·have z:=vQ.1 (dT z);refine⟨_,_,_,_,_,_,rfl,.inl ⟨rfl,?_⟩,?_,f⟩
  ·rw[Nat.div_eq_of_lt z];show(aW BB 0).map uv=[];rw[fK];rfl
  ·rw[Nat.mod_eq_of_lt z];exact V.ok f
 ·have z5:Y<=X:=by
   rcases lt_or_ge X Y with h|h
   ·exact absurd (vQ.2 h) (dF z)
   ·exact h
  have hX:0<X:=by omega
  have x4:j<=n:=by
   rcases lt_or_ge n j with h|h
   ·have:=lN gH (m:=X) (n:=Y) (by omega);omega
   ·exact h
  have y1:wrap .i64 ((j:Int)-1)=((j-1:Nat):Int):=by rw[aB (by omega) (by omega)];omega
  have hj:((j-1:Nat):Int).toNat=j-1:=by omega
  obtain⟨p,g2,g3⟩:=Fc (T.ok f) (i:=((j-1:Nat):Int)) (by omega) (by omega);rw[hj,x6]at g3;have et:wrap .u64 ((v:Int)+1)=((v+1:Nat):Int):=wU (by omega) (by omega);have x5:ay SS.P .quo 150 (.int .u64 1000000000) (.int .u64 ((v+1:Nat):Int))=some (.int .u64 (k:Int)):=by
   have:=Ui (a:=BB) (b:=v+1) (by decide) (by omega);rw[y2]at this;exact this
  rw[y1];refine⟨p,g2,_,g3,?_⟩;dsimp only;rw[et];refine⟨_,x5,?_⟩;refine(xJ (V.ok f) (dq gH X) (by omega) s C f.wf).mono ?_;rintro _ h8 ⟨a9,I,y7,rfl,R,E⟩;rw[cm gH]at R;refine⟨a9,I,y7,rfl,(xJ ((T.ok f).ok E) (dq gH Y) (by omega) s C E.wf).mono ?_⟩;rintro _ z8 ⟨x8,d,O,rfl,ov,H⟩;rw[cm gH]at ov;refine⟨x8,d,O,rfl,?_⟩;have z6:0<Y*k:=mul_pos hY s;have J:(aW BB (Y*k)).length=j:=GD gH G (Nat.le_trans f5 (Nat.le_mul_of_pos_right Y s)) f1;have q:(bl (Y*k)).length=j:=by rw[lM];exact J
  rcases ov with⟨_,e⟩|⟨A,cv,e,x7,gv,tv,lv⟩
  ·rw[e]at q;simp at q;omega
  injection e with e1 e2 e3
  subst e1;obtain rfl:d=j:=by rw[e2,q]
  rw[q]at tv;have B:=fq (dq gH X);rw[cm gH,<-hn]at B;have z3:0<X*k:=mul_pos hX s;have L1:=tC a n c b d l (k:Int) (some ⟨A,0,none⟩) d O
   (λmz r y rc g=>y<=n+1/\mz=n+1-y/\0<y/\∃U:List Nat,U.length=y/\ej h g 150 (.slice r y rc) (U.map uv)/\Ok h g/\(∀x∈U,x<BB)/\Num.bv BB U=X*k/\g.get A=some (.cells cv 150 1 true)/\(∀o n c,Value.slice r y rc≠ .slice (some ⟨A,o,none⟩) n c)) (Gt h X Y) (by
   intro mz r y rc;intros;rename_i g hi;obtain⟨z,z4,h3,U,D,o,ok,x1,x3,F,M⟩:=hi;refine aa (λQ=>?_) (λQ=>?_)
   ·have Q:=dT Q;refine⟨_,_,_,sK _,?_⟩;obtain⟨b',m',d',u,g6,g7,g8,g9,y6,y5⟩:=ej.ac3 (P:=SS.P) (t:=177) (x:= .int .u64 0) AX J0 Dm w ok o rfl (by rw[AQ,lM];omega) (by rw[lM];omega);rw[lM,D]at g7;subst g7;refine⟨b',_,d',u,g6,Jo (mz-1) (by omega) ⟨by omega,by omega,by omega,U++[0],by simp[D],?_,g9,?_,?_,y6 _ _ F M,?_⟩⟩
    ·rw[map_append];exact g8
    ·intro x K;rcases List.mem_append.1 K with K|K
     ·exact x1 x K
     ·rw[List.mem_singleton.1 K];decide
    ·rw[qv,x3];simp
    ·intro o' n' c' e;rcases y5 _ _ _ _ e with h7|⟨o2,n2,c2,h7⟩
     ·have:=ok.wf _ _ F;omega
     ·exact M _ _ _ h7
   ·have Q:=dF Q;obtain rfl:y=n+1:=by omega
    rcases o with⟨_,e⟩|⟨Z,W,e,x2,gu,tu,lu⟩
    ·have:=congrArg List.length e;rw[lM,D]at this;have h9:n+1=0:=this;omega
    rw[lM,D]at e tu lu;injection e with e1 _ e3
    subst e1;subst e3;have y4:wrap .i64 (((n+1:Nat):Int)-(d:Int))=((n+1-d:Nat):Int):=by rw[aB (by omega) (by omega)];omega
    rw[y4];refine⟨_,_,_,ZG _ (by omega),?_⟩;have z2:=ok.wf _ _ gu;have z1:=ok.wf _ _ F;have x9:Z≠A:=λe=>M 0 (n+1) (dn+W.length) (by rw[e]);have S:((List.replicate (n+1-d) 0).map uv).length=n+1-d:=by rw[lM,length_replicate]
    exact Xw (h2:=h) (X:=X) (Y:=Y) (N:=n) (m:=d) (L:=n+1-d) (k:=k) (ku:=Z) (kv:=A) (kq:=g.next) (ec:=O) (cu:=W) (cv:=cv) hY f1 x4 (by omega) rfl s C J (le_of_lt G) a n c b l (n+1-d) (i:=0)
     ⟨Nat.zero_le _,rfl,U,List.replicate (n+1-d) 0,{
      ok:=ok.push _
      w2:=w
      u2:=x2
      q2:=ok.nx
      gu:=by
       rw[ae.bt,if_neg (by omega),ni (by rw[drop_zero,D];exact tu)];exact gu
      gv:=by rw[ae.bt,if_neg (by omega)];exact F
      gq:=by
       rw[ae.bt,if_pos rfl,ni (by rw[drop_zero,length_replicate,take_of_length_le (by rw[S];exact Nat.le_refl _)])]
      uv':=x9
      uq:=by omega
      vq:=by omega
      ul:=D
      cl:=lu
      aaS:=by rw[length_replicate]
      YY:=by rw[J];exact tv
      inv:=iF.start gH x1 D x4 B f5 f1 s x3 }⟩)
  have y3:=ej.adr f.nx R;have x0:I=(aW BB (X*k)).length:=by have:=R.len;rwa[lM]at this
  have y8:h8.next<=A:=x7;have z0:(aW BB (X*k)).length<=n+1:=by
   refine lK gH ?_;rw[pow_succ];exact lt_of_lt_of_le (Nat.mul_lt_mul_of_pos_right B s) (Nat.mul_le_mul_left _ C)
  have y9:0<(aW BB (X*k)).length:=List.length_pos_iff.2 λe=>by have:=(ia gH).1 e;omega
  refine L1 (n+1-I) ⟨by omega,rfl,by omega,aW BB (X*k),x0.symm,y3.ok H,(f.trans E).trans H,dq gH _,cm gH _,gv,?_⟩;intro o n' c' e;rcases R with⟨e',_⟩|⟨Z,W,e',x2,gu,_,_⟩
  ·rw[e']at e;injection e with e;cases e
  ·rw[e']at e;injection e with e _ _
   injection e with e
   injection e with e
   have:=E.wf _ _ gu;omega
abbrev hJ:LB:=[0,1,2,2,3,3,3,3,4,4,4,4,4,4,4,4,5,5,5,5,5,5,5,5,5,5,5,5,5,5,5,5,6,6,6,6,6,6,6,6,6,6,6,6,6,6,6,6,6,6,6,6,6,6,6,6,6,6,6,6,6,6,6,6,7,7,7,7,7,7,7,7,7,7,7,7,7,7,7,7,7,7,7,7,7,7,7,7,7,7,7,7,7,7,7,7,7,7,7,7,7,7,7,7,7,7,7,7,7,7,7,7,7,7,7,7,7,7,7,7,7,7,7,7,7,7,7,7,8,8,8,8,8,8,8,8,8,8,8,8,8,8,8,8,8,8,8,8,8,8,8,8,8,8,8,8,8,8,8,8,8,8,8,8,8,8,8,8,8,8,8,8,8,8,8,8,8,8,8,8,8,8,8,8,8,8,8,8,8,8,8,8,8,8,8,8,8,8,8,8,8,8,8,8,8,8,8,8,8,8,8,8,8,8,8,8,8,8,8,8,8,8,8,8,8,8,8,8,8,8,8,8,8,8,8,8,8,8,8,8,8,8,8,8,8,8,8,8,8,8,8,8,8,8,8,8]
noncomputable def XT:FD:=cG Tryz.f135 []
theorem TA(u:Int)(h:ae)(Q:VH)(e:au (decide ((u:Int)>=4294967296)) (xI .u64 (ay SS.P .shr 150 (.int .u64 u) (.int .u64 32)) λd=>au (decide ((d:Int)>=65536)) (xI .u64 (ay SS.P .shr 150 (.int .u64 d) (.int .u64 16)) λc=>au (decide ((c:Int)>=256)) (xI .u64 (ay SS.P .shr 150 (.int .u64 c) (.int .u64 8)) λb=>xI .u8 (bP SS.P 9 (strOf hJ) (.int .u8 (wrap .u8 b))) λa=>Q (.int .i64 (wrap .i64 (wrap .i64 (wrap .i64 (32+16)+8)+wrap .i64 a))) h) (xI .u8 (bP SS.P 9 (strOf hJ) (.int .u8 (wrap .u8 c))) λa=>Q (.int .i64 (wrap .i64 (wrap .i64 (32+16)+wrap .i64 a))) h)) (au (decide ((d:Int)>=256)) (xI .u64 (ay SS.P .shr 150 (.int .u64 d) (.int .u64 8)) λb=>xI .u8 (bP SS.P 9 (strOf hJ) (.int .u8 (wrap .u8 b))) λa=>Q (.int .i64 (wrap .i64 (wrap .i64 (32+8)+wrap .i64 a))) h) (xI .u8 (bP SS.P 9 (strOf hJ) (.int .u8 (wrap .u8 d))) λa=>Q (.int .i64 (wrap .i64 (32+wrap .i64 a))) h))) (au (decide ((u:Int)>=65536)) (xI .u64 (ay SS.P .shr 150 (.int .u64 u) (.int .u64 16)) λc=>au (decide ((c:Int)>=256)) (xI .u64 (ay SS.P .shr 150 (.int .u64 c) (.int .u64 8)) λb=>xI .u8 (bP SS.P 9 (strOf hJ) (.int .u8 (wrap .u8 b))) λa=>Q (.int .i64 (wrap .i64 (wrap .i64 (wrap .i64 (0+16)+8)+wrap .i64 a))) h) (xI .u8 (bP SS.P 9 (strOf hJ) (.int .u8 (wrap .u8 c))) λa=>Q (.int .i64 (wrap .i64 (wrap .i64 (0+16)+wrap .i64 a))) h)) (au (decide ((u:Int)>=256)) (xI .u64 (ay SS.P .shr 150 (.int .u64 u) (.int .u64 8)) λb=>xI .u8 (bP SS.P 9 (strOf hJ) (.int .u8 (wrap .u8 b))) λa=>Q (.int .i64 (wrap .i64 (wrap .i64 (0+8)+wrap .i64 a))) h) (xI .u8 (bP SS.P 9 (strOf hJ) (.int .u8 (wrap .u8 u))) λa=>Q (.int .i64 (wrap .i64 (0+wrap .i64 a))) h)))):FW SS 135 [(.int .u64 u)] h Q:=cQ XT Tryz.func135 (ai e)
noncomputable def Jz:FD:=cG Tryz.f228 []
theorem Ha(n:Int)(h:ae)(Q:VH)(b:xI .i64 (ay SS.P .shr 3 (.int .i64 (wrap .i64 (n*78913))) (.int .u64 18)) λa=>Q (.int .i64 a) h):FW SS 228 [(.int .i64 n)] h Q:=cQ Jz Tryz.func228 (ai b)
noncomputable def Xf:FD:=cG Tryz.f229 []
theorem Sz(b:Bool)(h:ae)(Q:VH)(a:au b (Q (.int .i64 1) h) (Q (.int .i64 0) h)):FW SS 229 [(.bool b)] h Q:=cQ Xf Tryz.func229 (ai a)
noncomputable def JK:FD:=cG Tryz.f219 []
theorem Hp(u:Int)(h:ae)(Q:VH)(l:FW SS 135 [(.int .u64 u)] h λj k=>yI .i64 j λi=>FW SS 228 [(.int .i64 i)] k λg h=>yI .i64 g λf=>iP 230 (pA 1) (.int .i64 f) λe=>xI .u64 (aj SS.P 150 h (.pointer (some e))) λd=>FW SS 229 [(.bool (decide ((u:Int)>=d)))] h λb c=>yI .i64 b λa=>Q (.int .i64 (wrap .i64 (f+a))) c):FW SS 219 [(.int .u64 u)] h Q:=cQ JK Tryz.func219 (ai l)
abbrev cp:LB:=[48,48,48,49,48,50,48,51,48,52,48,53,48,54,48,55,48,56,48,57,49,48,49,49,49,50,49,51,49,52,49,53,49,54,49,55,49,56,49,57,50,48,50,49,50,50,50,51,50,52,50,53,50,54,50,55,50,56,50,57,51,48,51,49,51,50,51,51,51,52,51,53,51,54,51,55,51,56,51,57,52,48,52,49,52,50,52,51,52,52,52,53,52,54,52,55,52,56,52,57,53,48,53,49,53,50,53,51,53,52,53,53,53,54,53,55,53,56,53,57,54,48,54,49,54,50,54,51,54,52,54,53,54,54,54,55,54,56,54,57,55,48,55,49,55,50,55,51,55,52,55,53,55,54,55,55,55,56,55,57,56,48,56,49,56,50,56,51,56,52,56,53,56,54,56,55,56,56,56,57,57,48,57,49,57,50,57,51,57,52,57,53,57,54,57,55,57,56,57,57]
noncomputable def YH:FD:=cG Tryz.f218 []
theorem Ve(n:Int)(h:ae)(Q:VH)(b:au (decide ((n:Int)<10)) (xS (bG SS.P 9 (strOf [48,49,50,51,52,53,54,55,56,57,97,98,99,100,101,102,103,104,105,106,107,108,109,110,111,112,113,114,115,116,117,118,119,120,121,122]) (some (.int .i64 n)) (some (.int .i64 (wrap .i64 (n+1)))) none h) λa=>Q (strOf a) h) (xS (bG SS.P 9 (strOf cp) (some (.int .i64 (wrap .i64 (n*2)))) (some (.int .i64 (wrap .i64 (wrap .i64 (n*2)+2)))) none h) λa=>Q (strOf a) h)):FW SS 218 [(.int .i64 n)] h Q:=cQ YH Tryz.func218 (ai b)
noncomputable def rH:FD:=cG Tryz.f220 [([1,0,0,0],[0,1,4])]
abbrev mV(a:OA)(n c:Nat)(i:Nat)(v:Int):LV:=[(.slice a n c),(.int .u64 v),(iA i)]
theorem S3(a:OA)(n c:Nat)(u:Int)(h:ae)(Q:VH)(b:LL SS rH [1,0,0,0] (mV a n c n u) h (KK SS rH [1,0,0] [] (EE SS rH Q))):FW SS 220 [(.slice a n c),(.int .u64 u)] h Q:=cQ rH Tryz.func220 (ai b)
theorem zC(a:OA)(n c:Nat)(u:Int)  (B:Nat->Nat->Int->ae->Prop) (Q:VH) (step:∀(A:Nat)(i:Nat)(v:Int)(K:Nat->Value)(h:ae),B A i v h->au (decide (((i:Int):Int)>=8)) (xI .u64 (ay SS.P .rem 150 (.int .u64 v) (.int .u64 100000000)) λH=>xI .u64 (ay SS.P .quo 150 (.int .u64 v) (.int .u64 100000000)) λP=>xI .u32 (ay SS.P .quo 148 (.int .u32 (wrap .u32 H)) (.int .u32 10000)) λG=>xI .u32 (ay SS.P .rem 148 (.int .u32 (wrap .u32 H)) (.int .u32 10000)) λN=>xI .u32 (ay SS.P .quo 148 (.int .u32 N) (.int .u32 100)) λF=>xI .u32 (ay SS.P .rem 148 (.int .u32 N) (.int .u32 100)) λJ=>xI .u32 (ay SS.P .quo 148 (.int .u32 G) (.int .u32 100)) λL=>xI .u32 (ay SS.P .rem 148 (.int .u32 G) (.int .u32 100)) λM=>xI .u8 (bP SS.P 9 (strOf cp) (.int .u32 (wrap .u32 (wrap .u32 (J*2)+1)))) λO=>xI .u8 (bP SS.P 9 (strOf cp) (.int .u32 (wrap .u32 (J*2)))) λC=>iP 172 (.slice a n c) (.int .i64 (wrap .i64 ((i:Int)-1))) λz=>xU (ah SS.P 5 (.pointer (some z)) (.int .u8 O) (room h 15)) (room h 15) λ_ y=>iP 172 (.slice a n c) (.int .i64 (wrap .i64 ((i:Int)-2))) λx=>xU (ah SS.P 5 (.pointer (some x)) (.int .u8 C) y) y λ_ w=>xI .u8 (bP SS.P 9 (strOf cp) (.int .u32 (wrap .u32 (wrap .u32 (F*2)+1)))) λv=>xI .u8 (bP SS.P 9 (strOf cp) (.int .u32 (wrap .u32 (F*2)))) λu=>iP 172 (.slice a n c) (.int .i64 (wrap .i64 ((i:Int)-3))) λt=>xU (ah SS.P 5 (.pointer (some t)) (.int .u8 v) (room w 15)) (room w 15) λ_ s=>iP 172 (.slice a n c) (.int .i64 (wrap .i64 ((i:Int)-4))) λr=>xU (ah SS.P 5 (.pointer (some r)) (.int .u8 u) s) s λ_ q=>xI .u8 (bP SS.P 9 (strOf cp) (.int .u32 (wrap .u32 (wrap .u32 (M*2)+1)))) λp=>xI .u8 (bP SS.P 9 (strOf cp) (.int .u32 (wrap .u32 (M*2)))) λo=>iP 172 (.slice a n c) (.int .i64 (wrap .i64 ((i:Int)-5))) λm=>xU (ah SS.P 5 (.pointer (some m)) (.int .u8 p) (room q 15)) (room q 15) λ_ l=>iP 172 (.slice a n c) (.int .i64 (wrap .i64 ((i:Int)-6))) λk=>xU (ah SS.P 5 (.pointer (some k)) (.int .u8 o) l) l λ_ j=>xI .u8 (bP SS.P 9 (strOf cp) (.int .u32 (wrap .u32 (wrap .u32 (L*2)+1)))) λh=>xI .u8 (bP SS.P 9 (strOf cp) (.int .u32 (wrap .u32 (L*2)))) λg=>iP 172 (.slice a n c) (.int .i64 (wrap .i64 ((i:Int)-7))) λf=>xU (ah SS.P 5 (.pointer (some f)) (.int .u8 h) (room j 15)) (room j 15) λ_ e=>iP 172 (.slice a n c) (.int .i64 (wrap .i64 ((i:Int)-8))) λd=>xU (ah SS.P 5 (.pointer (some d)) (.int .u8 g) e) e λ_ b=>aI (qP (mV a n c) B) A [(.slice a n c),(.int .u64 P),(.int .i64 (wrap .i64 ((i:Int)-8)))] b) (au (decide (((i:Int):Int)>=4)) (xI .u32 (ay SS.P .rem 148 (.int .u32 (wrap .u32 v)) (.int .u32 10000)) λI=>xI .u32 (ay SS.P .quo 148 (.int .u32 (wrap .u32 v)) (.int .u32 10000)) λE=>xI .u32 (ay SS.P .quo 148 (.int .u32 I) (.int .u32 100)) λC=>xI .u32 (ay SS.P .rem 148 (.int .u32 I) (.int .u32 100)) λz=>xI .u8 (bP SS.P 9 (strOf cp) (.int .u32 (wrap .u32 (wrap .u32 (z*2)+1)))) λy=>xI .u8 (bP SS.P 9 (strOf cp) (.int .u32 (wrap .u32 (z*2)))) λx=>iP 172 (.slice a n c) (.int .i64 (wrap .i64 ((i:Int)-1))) λw=>xU (ah SS.P 5 (.pointer (some w)) (.int .u8 y) (room h 15)) (room h 15) λ_ v=>iP 172 (.slice a n c) (.int .i64 (wrap .i64 ((i:Int)-2))) λu=>xU (ah SS.P 5 (.pointer (some u)) (.int .u8 x) v) v λ_ t=>xI .u8 (bP SS.P 9 (strOf cp) (.int .u32 (wrap .u32 (wrap .u32 (C*2)+1)))) λs=>xI .u8 (bP SS.P 9 (strOf cp) (.int .u32 (wrap .u32 (C*2)))) λr=>iP 172 (.slice a n c) (.int .i64 (wrap .i64 ((i:Int)-3))) λq=>xU (ah SS.P 5 (.pointer (some q)) (.int .u8 s) (room t 15)) (room t 15) λ_ p=>iP 172 (.slice a n c) (.int .i64 (wrap .i64 ((i:Int)-4))) λo=>xU (ah SS.P 5 (.pointer (some o)) (.int .u8 r) p) p λ_ m=>au (decide ((wrap .i64 ((i:Int)-4):Int)>=2)) (xI .u32 (ay SS.P .rem 148 (.int .u32 E) (.int .u32 100)) λl=>xI .u32 (ay SS.P .quo 148 (.int .u32 E) (.int .u32 100)) λk=>xI .u8 (bP SS.P 9 (strOf cp) (.int .u32 (wrap .u32 (wrap .u32 (l*2)+1)))) λj=>xI .u8 (bP SS.P 9 (strOf cp) (.int .u32 (wrap .u32 (l*2)))) λh=>xP (aA SS.P 172 (.slice a n c) (.int .i64 (wrap .i64 (wrap .i64 ((i:Int)-4)-1)))) λg=>xU (ah SS.P 5 (.pointer (some g)) (.int .u8 j) (room m 15)) (room m 15) λ_ f=>xP (aA SS.P 172 (.slice a n c) (.int .i64 (wrap .i64 (wrap .i64 ((i:Int)-4)-2)))) λe=>xU (ah SS.P 5 (.pointer (some e)) (.int .u8 h) f) f λ_ d=>au (decide ((wrap .i64 (wrap .i64 ((i:Int)-4)-2):Int)>0)) (iP 172 (.slice a n c) (.int .i64 0) λb=>xU (ah SS.P 5 (.pointer (some b)) (.int .u8 (wrap .u8 (wrap .u32 (48+k)))) d) d λ_ a=>Q (.tuple ⟨[]⟩) a) (Q (.tuple ⟨[]⟩) d)) (au (decide ((wrap .i64 ((i:Int)-4):Int)>0)) (iP 172 (.slice a n c) (.int .i64 0) λb=>xU (ah SS.P 5 (.pointer (some b)) (.int .u8 (wrap .u8 (wrap .u32 (48+E)))) m) m λ_ a=>Q (.tuple ⟨[]⟩) a) (Q (.tuple ⟨[]⟩) m))) (au (decide (((i:Int):Int)>=2)) (xI .u32 (ay SS.P .rem 148 (.int .u32 (wrap .u32 v)) (.int .u32 100)) λm=>xI .u32 (ay SS.P .quo 148 (.int .u32 (wrap .u32 v)) (.int .u32 100)) λl=>xI .u8 (bP SS.P 9 (strOf cp) (.int .u32 (wrap .u32 (wrap .u32 (m*2)+1)))) λk=>xI .u8 (bP SS.P 9 (strOf cp) (.int .u32 (wrap .u32 (m*2)))) λj=>iP 172 (.slice a n c) (.int .i64 (wrap .i64 ((i:Int)-1))) λg=>xU (ah SS.P 5 (.pointer (some g)) (.int .u8 k) (room h 15)) (room h 15) λ_ f=>iP 172 (.slice a n c) (.int .i64 (wrap .i64 ((i:Int)-2))) λe=>xU (ah SS.P 5 (.pointer (some e)) (.int .u8 j) f) f λ_ d=>au (decide ((wrap .i64 ((i:Int)-2):Int)>0)) (iP 172 (.slice a n c) (.int .i64 0) λb=>xU (ah SS.P 5 (.pointer (some b)) (.int .u8 (wrap .u8 (wrap .u32 (48+l)))) d) d λ_ a=>Q (.tuple ⟨[]⟩) a) (Q (.tuple ⟨[]⟩) d)) (au (decide (((i:Int):Int)>0)) (iP 172 (.slice a n c) (.int .i64 0) λb=>xU (ah SS.P 5 (.pointer (some b)) (.int .u8 (wrap .u8 (wrap .u32 (48+wrap .u32 v)))) h) h λ_ a=>Q (.tuple ⟨[]⟩) a) (Q (.tuple ⟨[]⟩) h))))) (A:Nat) {i:Nat} {v:Int} {h:ae} (D:B A i v h):LL SS rH [1,0,0,0] (mV a n c i v) h (KK SS rH [1,0,0] [] (EE SS rH Q)):=
 nu (mV a n c) B (λA i v K h D=>ai (step A i v K h D)) A D
noncomputable def LH:FD:=cG Tryz.f207 []
theorem Jj(u:Int)(h:ae)(Q:VH)(r:au (((10:Int)==10)) (au (decide ((u:Int)<100)) (FW SS 218 [(.int .i64 (wrap .i64 u))] h λb c=>yS b λa=>Q (strOf a) c) (xN (br SS.P 219) h λ_ n=>FW SS 219 [(.int .u64 u)] n λl m=>yI .i64 l λk=>xL (bG SS.P 219 (pA (h.next)) none (some (.int .i64 k)) none m) λg i j=>FW SS 220 [(.slice g i j),(.int .u64 u)] m λe f=>e=(.tuple ⟨[]⟩)/\xL (bG SS.P 219 (pA (h.next)) none (some (.int .i64 k)) none f) λb c d=>xS (Bo SS.P 172 9 (.slice b c d) f) λa=>Q (strOf a) f)) (FW SS 221 [nA,(.int .u64 u),(.int .i64 10),(.bool false),(.bool false)] h λb c=>∃(q:OA) (p o:Nat),∃a:LB,b=(.tuple ⟨[(.slice q p o),(strOf a)]⟩)/\Q (strOf a) c)):FW SS 207 [(.int .u64 u),(.int .i64 10)] h Q:=cQ LH Tryz.func207 (ai r)
noncomputable def Ph:FD:=cG Tryz.f197 []
theorem LI(u:Int)(h:ae)(Q:VH)(d:FW SS 207 [(.int .u64 u),(.int .i64 10)] h λb c=>yS b λa=>Q (strOf a) c):FW SS 197 [(.int .u64 u),(.int .i64 10)] h Q:=cQ Ph Tryz.func197 (ai d)
variable{P:Program}{g:ae}{m:Nat}
theorem MN{t:TypeId}{a:Int}(h:0<=a){s:Nat}(b:s<=64):ay P .shr t (.int .u64 a) (.int .u64 (s:Int))=some (.int .u64 (a/2^s)):=by
 show(if 0<=(s:Int)then some (Value.int .u64 (a.fdiv (2^(min (s:Int).toNat 64))))else none)=_;rw[if_pos (by omega),toNat_natCast,min_eq_left b,Int.fdiv_eq_ediv_of_nonneg _ (Int.le_of_lt (Int.pow_pos (by decide)))]
theorem YG{t:TypeId}{a:Int}(h:0<=a){s:Nat}(b:s<=64):ay P .shr t (.int .i64 a) (.int .u64 (s:Int))=some (.int .i64 (a/2^s)):=by
 show(if 0<=(s:Int)then some (Value.int .i64 (a.fdiv (2^(min (s:Int).toNat 64))))else none)=_;rw[if_pos (by omega),toNat_natCast,min_eq_left b,Int.fdiv_eq_ediv_of_nonneg _ (Int.le_of_lt (Int.pow_pos (by decide)))]
def Ws:List UInt8:=[0,1,2,2,3,3,3,3,4,4,4,4,4,4,4,4,5,5,5,5,5,5,5,5,5,5,5,5,5,5,5,5,6,6,6,6,6,6,6,6,6,6,6,6,6,6,6,6,6,6,6,6,6,6,6,6,6,6,6,6,6,6,6,6,7,7,7,7,7,7,7,7,7,7,7,7,7,7,7,7,7,7,7,7,7,7,7,7,7,7,7,7,7,7,7,7,7,7,7,7,7,7,7,7,7,7,7,7,7,7,7,7,7,7,7,7,7,7,7,7,7,7,7,7,7,7,7,7,8,8,8,8,8,8,8,8,8,8,8,8,8,8,8,8,8,8,8,8,8,8,8,8,8,8,8,8,8,8,8,8,8,8,8,8,8,8,8,8,8,8,8,8,8,8,8,8,8,8,8,8,8,8,8,8,8,8,8,8,8,8,8,8,8,8,8,8,8,8,8,8,8,8,8,8,8,8,8,8,8,8,8,8,8,8,8,8,8,8,8,8,8,8,8,8,8,8,8,8,8,8,8,8,8,8,8,8,8,8,8,8,8,8,8,8,8,8,8,8,8,8,8,8,8,8,8,8]
def SM:List UInt8:=[48,48,48,49,48,50,48,51,48,52,48,53,48,54,48,55,48,56,48,57,49,48,49,49,49,50,49,51,49,52,49,53,49,54,49,55,49,56,49,57,50,48,50,49,50,50,50,51,50,52,50,53,50,54,50,55,50,56,50,57,51,48,51,49,51,50,51,51,51,52,51,53,51,54,51,55,51,56,51,57,52,48,52,49,52,50,52,51,52,52,52,53,52,54,52,55,52,56,52,57,53,48,53,49,53,50,53,51,53,52,53,53,53,54,53,55,53,56,53,57,54,48,54,49,54,50,54,51,54,52,54,53,54,54,54,55,54,56,54,57,55,48,55,49,55,50,55,51,55,52,55,53,55,54,55,55,55,56,55,57,56,48,56,49,56,50,56,51,56,52,56,53,56,54,56,55,56,56,56,57,57,48,57,49,57,50,57,51,57,52,57,53,57,54,57,55,57,56,57,57]
theorem XV:((List.range 256).all λx=>(x==0&&(Ws.getD x 0).toNat==0)||(Nat.ble 1 (Ws.getD x 0).toNat&&Nat.ble (Ws.getD x 0).toNat 8&&Nat.ble (2^((Ws.getD x 0).toNat-1)) x&&Nat.blt x (2^(Ws.getD x 0).toNat)))=true:=by kernel_rfl
theorem lt8{x:Nat}(h:x<256)(g:0<x):∃t,(Ws.getD x 0).toNat=t+1/\t<8/\2^t<=x/\x<2^(t+1):=by
 have e:=List.all_eq_true.1 XV x (List.mem_range.2 h);have f:(x==0)=false:=by simp;omega
 rw[f]at e;simp only[Bool.false_and,Bool.false_or,and_eq_true,Nat.ble_eq,Nat.blt_eq]at e;obtain⟨⟨⟨a,b⟩,c⟩,d⟩:=e;refine⟨(Ws.getD x 0).toNat-1,by omega,by omega,c,?_⟩;rwa[Nat.sub_add_cancel a]
theorem BH{x:Int}(a:0<=x)(b:x<256):bP SS.P 9 (strOf Ws) (.int .u8 (wrap .u8 x))=some (.int .u8 ((Ws.getD x.toNat 0).toNat:Nat)):=by
 rw[sy a b];exact oz (by kernel_rfl) Ws .u8 a (by show x<((256:Nat):Int);omega)
theorem aa2:((List.range 100).all λx=>Nat.beq (SM.getD (2*x) 0).toNat (48+x/10)&&Nat.beq (SM.getD (2*x+1) 0).toNat (48+x%10))=true:=by kernel_rfl
theorem Vd{x:Nat}(h:x<100):(SM.getD (2*x) 0).toNat=48+x/10/\(SM.getD (2*x+1) 0).toNat=48+x%10:=by
 have a:=List.all_eq_true.1 aa2 x (List.mem_range.2 h);simp only[and_eq_true,Nat.beq_eq]at a;exact a
theorem TC(k:0<n)(j:n<4294967296)(h:ae):FW SS 135 [.int .u64 (n:Int)] h (λv i=>i=h/\∃f:Nat,v = .int .i64 (f+1:Nat)/\f<32/\2^f<=n/\n<2^(f+1)):=by
 refine TA _ h _ (aa (λg=>absurd (dT g) (by omega)) λ_=>aa (λg=>?_) (λg=>?_))
 ·have g:=dT g;refine⟨_,MN (s:=16) (by omega) (by omega),aa (λa=>?_) (λa=>?_)⟩
  ·have a:=dT a;refine⟨_,MN (s:=8) (by omega) (by omega),_,BH (by omega) (by omega),rfl,?_⟩;obtain⟨t,e,c,b,d⟩:=lt8 (x:=((n:Int)/2^16/2^8).toNat) (by omega) (by omega);rw[e];refine⟨t+24,?_,by omega,?_,?_⟩
   ·refine congrArg (Value.int .i64) ?_;simp only[wrap_i64];omega
   ·rw[pow_add];omega
   ·rw[show t+24+1=(t+1)+24 by omega,pow_add];omega
  ·have a:=dF a;refine⟨_,BH (by omega) (by omega),rfl,?_⟩;obtain⟨t,e,c,b,d⟩:=lt8 (x:=((n:Int)/2^16).toNat) (by omega) (by omega);rw[e];refine⟨t+16,?_,by omega,?_,?_⟩
   ·refine congrArg (Value.int .i64) ?_;simp only[wrap_i64];omega
   ·rw[pow_add];omega
   ·rw[show t+16+1=(t+1)+16 by omega,pow_add];omega
 ·have g:=dF g;refine aa (λa=>?_) (λa=>?_)
  ·have a:=dT a;refine⟨_,MN (s:=8) (by omega) (by omega),_,BH (by omega) (by omega),rfl,?_⟩;obtain⟨t,e,c,b,d⟩:=lt8 (x:=((n:Int)/2^8).toNat) (by omega) (by omega);rw[e];refine⟨t+8,?_,by omega,?_,?_⟩
   ·refine congrArg (Value.int .i64) ?_;simp only[wrap_i64];omega
   ·rw[pow_add];omega
   ·rw[show t+8+1=(t+1)+8 by omega,pow_add];omega
  ·have a:=dF a;refine⟨_,BH (by omega) (by omega),rfl,?_⟩;obtain⟨t,e,c,b,d⟩:=lt8 (x:=((n:Int)).toNat) (by omega) (by omega);rw[e];refine⟨t,?_,by omega,by omega,by omega⟩;refine congrArg (Value.int .i64) ?_;simp only[wrap_i64];omega
def Kz:List Value:=(List.range 20).map λi=>uv (10^i)
def nO(h:ae):Prop:=∃t a,h.get 1=some (.cells Kz t 0 a)
theorem nO.ok(t:nO h)(o:Ok h g):nO g:=let⟨k,a,e⟩:=t;⟨k,a,o.ext _ _ e⟩
theorem abL:SS.P.underlying 230=some (.array 20 150):=by kernel_rfl
theorem aa7(t:nO h){i:Int}(b:0<=i)(a:i<20):aA SS.P 230 (.pointer (some ⟨1,0,none⟩)) (.int .i64 i)=some (.pointer (some ⟨1,0+i.toNat*1,none⟩))/\aj SS.P 150 h (.pointer (some ⟨1,0+i.toNat*1,none⟩))=some (.int .u64 ((10^i.toNat:Nat):Int)):=by
 obtain⟨_,c,e⟩:=t;constructor
 ·unfold aA;rw[abL];dsimp only;rw[Ea];dsimp only;rw[if_pos ⟨b,a⟩,dy,Nat.zero_add]
 ·unfold aj;rw[Oi];dsimp only;rw[e];dsimp only;rw[Nq];simp only[Bool.false_eq_true,if_false];unfold Kz;rw[Nat.zero_add,Nat.mul_one,getElem?_map,List.getElem?_range (by omega)];rfl
theorem Hq(B:100<=n)(x:n<1000000000){h:ae}(t:nO h):FW SS 219 [.int .u64 (n:Int)] h (λv o=>o=h/\∃a:Nat,v = .int .i64 (a+1:Nat)/\a<9/\10^a<=n/\n<10^(a+1)):=by
 refine Hp _ h _ ((TC (by omega) (by omega) h).mono ?_);rintro _ g ⟨e,a,rfl,y,u,z⟩;have t:=e▸t;refine⟨_,rfl,Ha _ _ _ ⟨_,YG (s:=18) ?_ (by omega),_,rfl,?_⟩⟩
 ·rw[aB (by omega) (by omega)];omega
 rw[aB (by omega) (by omega)];have D:a<30:=by
  rcases lt_or_ge a 30 with h|h
  ·exact h
  ·have:2^30<=2^a:=pow_le_pow_right (by omega) h;omega
 have C:6<=a:=by
  rcases lt_or_ge a 6 with h|h
  ·have:2^(a+1)<=2^6:=pow_le_pow_right (by omega) h;omega
  ·exact h
 obtain⟨p,k⟩:=aa7 t (i:=((a+1:Nat):Int)*78913/2^18) (by omega) (by omega);refine⟨_,p,_,k,Sz _ _ _ ?_⟩;have b:∀q:Nat,2<=q->q<=9->10^(q-1)<=n->n<10^(q+1)->((a+1:Nat):Int)*78913/2^18=(q:Int)->au (decide (((n:Nat):Int)>=((10^(((a+1:Nat):Int)*78913/2^18).toNat:Nat):Int))) (∃c:Int,Value.int .i64 1 = .int .i64 c/\(g=h/\∃m:Nat,Value.int .i64 (wrap .i64 (((a+1:Nat):Int)*78913/2^18+c)) = .int .i64 (m+1:Nat)/\m<9/\10^m<=n/\n<10^(m+1))) (∃c:Int,Value.int .i64 0 = .int .i64 c/\(g=h/\∃m:Nat,Value.int .i64 (wrap .i64 (((a+1:Nat):Int)*78913/2^18+c)) = .int .i64 (m+1:Nat)/\m<9/\10^m<=n/\n<10^(m+1))):=by
  intro q A w f l r;rw[r,toNat_natCast];refine aa (λd=>?_) (λd=>?_)
  ·have d:=dT d;refine⟨1,rfl,e,q,?_,?_,by omega,l⟩
   ·rw[aB (by omega) (by omega)];rfl
   ·rcases lt_or_ge q 9 with h|h
    ·exact h
    ·have:q=9:=by omega
     subst this;omega
  ·have d:=dF d;refine⟨0,rfl,e,q-1,?_,by omega,f,by rw[Nat.sub_add_cancel (by omega)];omega⟩;rw[aB (by omega) (by omega),Nat.sub_add_cancel (by omega),Int.add_zero]
 have j:a=6\/a=7\/a=8\/a=9\/a=10\/a=11\/a=12\/a=13\/a=14\/a=15\/a=16\/a=17\/a=18\/a=19\/a=20\/a=21\/a=22\/a=23\/a=24\/a=25\/a=26\/a=27\/a=28\/a=29:=by omega
 rcases j with rfl|rfl|rfl|rfl|rfl|rfl|rfl|rfl|rfl|rfl|rfl|rfl|rfl|rfl|rfl|rfl|rfl|rfl|rfl|rfl|rfl|rfl|rfl|rfl
 all_goals first
  |exact b 2 (by omega) (by omega) (by omega) (by omega) (by omega)
  |exact b 3 (by omega) (by omega) (by omega) (by omega) (by omega)
  |exact b 4 (by omega) (by omega) (by omega) (by omega) (by omega)
  |exact b 5 (by omega) (by omega) (by omega) (by omega) (by omega)
  |exact b 6 (by omega) (by omega) (by omega) (by omega) (by omega)
  |exact b 7 (by omega) (by omega) (by omega) (by omega) (by omega)
  |exact b 8 (by omega) (by omega) (by omega) (by omega) (by omega)
  |exact b 9 (by omega) (by omega) (by omega) (by omega) (by omega)
theorem Vf(e:m<100)(h:ae):FW SS 218 [.int .i64 (m:Int)] h (λv f=>f=h/\v=strOf (ag m)):=by
 refine Ve _ h _ (aa (λg=>?_) (λg=>?_))
 ·have g:=dT g;rw[aB (by omega) (by omega)];refine⟨_,oA (by kernel_rfl) _ (a:=m) (b:=m+1) rfl rfl (by omega) (by simp;omega),rfl,?_⟩;rw[dC (by omega)];have:m=0\/m=1\/m=2\/m=3\/m=4\/m=5\/m=6\/m=7\/m=8\/m=9:=by omega
  rcases this with rfl|rfl|rfl|rfl|rfl|rfl|rfl|rfl|rfl|rfl<;>rfl
 ·have g:=dF g;rw[aB (n:=(m:Int)*2) (by omega) (by omega),aB (by omega) (by omega)];refine⟨_,oA (l:=SM) (by kernel_rfl) (a:=2*m) (b:=2*m+2) (by show some _=some _;congr 1;omega) (by show some _=some _;congr 1;omega) (by omega) (by show _<=200;omega),rfl,?_⟩;have c:=Vd e;rw[ib (by omega),dC (by omega),show 2*m+2-2*m=2 by omega];have j:SM.length=200:=rfl;rw[List.drop_eq_getElem_cons (by omega),List.drop_eq_getElem_cons (by omega)];have d:SM[2*m]'(by omega)=eU (m/10):=by
   apply UInt8.toNat_inj.1;have:=c.1;rw[gD,gE (by omega)]at this;rw[show(SM[2*m]'(by omega)).toNat=_ from this];unfold eU;rw[UInt8.toNat_ofNat',Nat.mod_eq_of_lt (by omega)]
  have i:SM[2*m+1]'(by omega)=eU (m%10):=by
   apply UInt8.toNat_inj.1;have:=c.2;rw[gD,gE (by omega)]at this;rw[show(SM[2*m+1]'(by omega)).toNat=_ from this];unfold eU;rw[UInt8.toNat_ofNat',Nat.mod_eq_of_lt (a:=48+m%10) (b:=2^8) (by omega)]
  rw[d,i];rfl
variable{z:Int}
section
theorem m8{n:Int}(a:0<=n)(b:n<4294967296):wrap .u32 n=n:=by
 simp only[wrap,IntKind.bits,IntKind.signed,Bool.false_and,Bool.false_eq_true,if_false];omega
theorem Dd{t:TypeId}{a:Int}{b:Nat}(h0:0<=a)(c:a<4294967296)(d:0<b):ay P .quo t (.int .u32 a) (.int .u32 (b:Int))=some (.int .u32 (a/(b:Int))):=by
 rw[GP P t .u32 _ _ (by omega),Int.tdiv_eq_ediv_of_nonneg h0,m8 (Int.ediv_nonneg h0 (by omega)) (Int.lt_of_le_of_lt (Int.ediv_le_self _ h0) c)]
theorem Xh(h:m<10):sR (eU m) = .int .u8 (48+(m:Int)):=by
 unfold sR eU;rw[UInt8.toNat_ofNat',Nat.mod_eq_of_lt (a:=48+m) (b:=2^8) (by omega)];rfl
structure FB(h0:ae)(k n u j w:Nat)(h:ae):Prop where
 blk:∃cs,h.get k=some (.cells cs 219 0 true)/\cs.length=24/\(cs.drop j).take (n-j)=(Num.wid (n-j) u).map sR
 hw:w=u/10^(n-j)
 lt:w<10^j
 jn:j<=n
 n24:n<=9
 ok:IB h0 k h
section
variable {h0 h:ae} {k n u j w:Nat}
theorem FB.room(f:FB h0 k n u j w h)(r:Nat):FB h0 k n u j w (room h r):=⟨f.blk,f.hw,f.lt,f.jn,f.n24,f.ok.room r⟩
theorem FB.step(f:FB h0 k n u (j+1) w h){c:Nat}{x i:Int}(m:x=48+(w:Int)%10)(q:i=(j:Int)):
  ∃p:Addr,aA SS.P 172 (.slice (some ⟨k,0,none⟩) n c) (.int .i64 i)=some (.pointer (some p))/\∃d:dM,ah SS.P 5 (.pointer (some p)) (.int .u8 x) h=some (undef,d)/\FB h0 k n u j (w/10) (d.app h):=by
 subst m q;obtain⟨cs,b,o,l⟩:=f.blk;have s:=f.jn;have g:=f.n24;refine⟨⟨k,0+j,none⟩,?_,.set k (.cells (cs.set j (sR (eU (w%10)))) 219 0 true),?_,?_⟩
 ·unfold aA;rw[AW];dsimp only;rw[zz5];dsimp only;rw[if_pos ⟨by omega,by omega⟩,Nat.mul_one,dy,toNat_natCast]
 ·rw[show(48+((w:Nat):Int)%10)=48+((w%10:Nat):Int) by omega,<-Xh (mod_lt _ (by omega))];show(if aE SS.P 5=some 1 then(storeAt h k (0+j) [sR (eU (w%10))]).map λu=>(undef,u)else none)=_;rw[if_pos zz5];unfold storeAt;rw[b];dsimp only;rw[Nat.zero_add,if_pos ⟨by simp;omega,rfl⟩];have e:cs.take j++[sR (eU (w%10))]++cs.drop (j+[sR (eU (w%10))].length)=cs.set j (sR (eU (w%10))):=by
   rw[List.set_eq_take_append_cons_drop,if_pos (by omega),append_assoc];rfl
  rw[e];rfl
 ·have r:=f.ok.wf _ _ b;have a:n-j=(n-(j+1))+1:=by omega
  refine⟨⟨cs.set j (sR (eU (w%10))),?_,by rw[length_set];exact o,?_⟩,?_,?_,by omega,g,f.ok.set r _⟩
  ·show(h.set k _).get k=_;rw[ae.aw,if_pos rfl]
  ·rw[List.drop_eq_getElem_cons (by simp only[length_set];omega),a,List.take_succ_cons,List.getElem_set_self,List.drop_set_of_lt (by omega),l,vX,List.map_cons,<-f.hw]
  ·rw[a,pow_succ,<-Nat.div_div_eq_div_mul,<-f.hw]
  ·have:=f.lt;rw[pow_succ]at this;omega
theorem ac1{x:Nat}(b:z=(x:Int))(a:x<100):bP SS.P 9 (strOf SM) (.int .u32 (wrap .u32 (wrap .u32 (z*2)+1)))=some (.int .u8 (48+(x:Int)%10)):=by
 rw[m8 (n:=z*2) (by omega) (by omega),m8 (by omega) (by omega),oz (by kernel_rfl) SM .u32 (by omega) (by show _<((200:Nat):Int);omega),show(z*2+1).toNat=2*x+1 by omega,(Vd a).2];rfl
theorem ac0{x:Nat}(b:z=(x:Int))(a:x<100):bP SS.P 9 (strOf SM) (.int .u32 (wrap .u32 (z*2)))=some (.int .u8 (48+(x:Int)/10)):=by
 rw[m8 (n:=z*2) (by omega) (by omega),oz (by kernel_rfl) SM .u32 (by omega) (by show _<((200:Nat):Int);omega),show(z*2).toNat=2*x by omega,(Vd a).1];rfl
theorem FB.pair(f:FB h0 k n u (j+2) w h){c:Nat}{y i1 i2:Int}(E:y=(w:Int)%100)(C:i1=(j:Int)+1)(D:i2=(j:Int)):
  ∃m:Int,bP SS.P 9 (strOf SM) (.int .u32 (wrap .u32 (wrap .u32 (y*2)+1)))=some (.int .u8 m)/\
  ∃d:Int,bP SS.P 9 (strOf SM) (.int .u32 (wrap .u32 (y*2)))=some (.int .u8 d)/\
  ∃g:Addr,aA SS.P 172 (.slice (some ⟨k,0,none⟩) n c) (.int .i64 i1)=some (.pointer (some g))/\
  ∃a:dM,ah SS.P 5 (.pointer (some g)) (.int .u8 m) (Go.Ab.room h 15)=some (undef,a)/\
  ∃l:Addr,aA SS.P 172 (.slice (some ⟨k,0,none⟩) n c) (.int .i64 i2)=some (.pointer (some l))/\
  ∃b:dM,ah SS.P 5 (.pointer (some l)) (.int .u8 d) (a.app (Go.Ab.room h 15))=some (undef,b)/\
  FB h0 k n u j (w/100) (b.app (a.app (Go.Ab.room h 15))):=by
 have e:y=((w%100:Nat):Int):=by omega
 obtain⟨p,A,t,s,B⟩:=(f.room 15).step (j:=j+1) (c:=c) (x:=48+((w%100:Nat):Int)%10) (i:=i1) (by omega) (by omega);obtain⟨q,v,r,z,o⟩:=B.step (c:=c) (x:=48+((w%100:Nat):Int)/10) (i:=i2) (by omega) (by omega);refine⟨_,ac1 e (by omega),_,ac0 e (by omega),p,A,t,s,q,v,r,z,?_⟩;rw[Nat.div_div_eq_div_mul]at o;exact o
end
theorem S4{h0 h:ae}{k n c u:Nat}(f:FB h0 k n u n u h):FW SS 220 [.slice (some ⟨k,0,none⟩) n c,.int .u64 (u:Int)] h (λv O=>v = .tuple ⟨[]⟩/\∃w,FB h0 k n u 0 w O):=by
 have V:=f.n24;have L:=zC (some ⟨k,0,none⟩) n c (u:Int) (λD i v g=>∃w:Nat,v=(w:Int)/\D=i/\FB h0 k n u i w g) (λv O=>v = .tuple ⟨[]⟩/\∃w,FB h0 k n u 0 w O) (by
  intro D i v;intros;rename_i g R;obtain⟨w,rfl,rfl,f⟩:=R;have S:=f.jn;have W:w<1000000000:=lt_of_lt_of_le f.lt (show 10^D<=10^9 from pow_le_pow_right (by omega) (by omega));refine aa (λK=>?_) (λK=>?_)
  ·have K:=dT K;obtain⟨j,rfl⟩:∃j,D=j+8:=⟨D-8,by omega⟩
   refine⟨_,gK (b:=100000000) (by omega) (by omega),_,pS (b:=100000000) (by omega) (by omega) (by omega),?_⟩;rw[m8 (n:=((w:Nat):Int)%((100000000:Nat):Int)) (by omega) (by omega)];refine⟨_,Dd (b:=10000) (by omega) (by omega) (by omega),_,gK (b:=10000) (by omega) (by omega),_,Dd (b:=100) (by omega) (by omega) (by omega),_,gK (b:=100) (by omega) (by omega),_,Dd (b:=100) (by omega) (by omega) (by omega),_,gK (b:=100) (by omega) (by omega),?_⟩;obtain⟨C,d,q,e,t,m,z,s,B,A,r,o,Q⟩:=FB.pair (j:=j+6) (c:=c) (y:=((w:Nat):Int)%((100000000:Nat):Int)%((10000:Nat):Int)%((100:Nat):Int)) (i1:=wrap .i64 (((j+8:Nat):Int)-1)) (i2:=wrap .i64 (((j+8:Nat):Int)-2)) f (by omega) (by rw[aB (by omega) (by omega)];omega) (by rw[aB (by omega) (by omega)];omega);refine⟨C,d,q,e,t,m,z,s,B,A,r,o,?_⟩;obtain⟨C,d,q,e,t,m,z,s,B,A,r,o,I⟩:=FB.pair (j:=j+4) (c:=c) (y:=((w:Nat):Int)%((100000000:Nat):Int)%((10000:Nat):Int)/((100:Nat):Int)) (i1:=wrap .i64 (((j+8:Nat):Int)-3)) (i2:=wrap .i64 (((j+8:Nat):Int)-4)) Q (by omega) (by rw[aB (by omega) (by omega)];omega) (by rw[aB (by omega) (by omega)];omega);refine⟨C,d,q,e,t,m,z,s,B,A,r,o,?_⟩;obtain⟨C,d,q,e,t,m,z,s,B,A,r,o,G⟩:=FB.pair (j:=j+2) (c:=c) (y:=((w:Nat):Int)%((100000000:Nat):Int)/((10000:Nat):Int)%((100:Nat):Int)) (i1:=wrap .i64 (((j+8:Nat):Int)-5)) (i2:=wrap .i64 (((j+8:Nat):Int)-6)) I (by omega) (by rw[aB (by omega) (by omega)];omega) (by rw[aB (by omega) (by omega)];omega);refine⟨C,d,q,e,t,m,z,s,B,A,r,o,?_⟩;obtain⟨C,d,q,e,t,m,z,s,B,A,r,o,F⟩:=FB.pair (j:=j) (c:=c) (y:=((w:Nat):Int)%((100000000:Nat):Int)/((10000:Nat):Int)/((100:Nat):Int)) (i1:=wrap .i64 (((j+8:Nat):Int)-7)) (i2:=wrap .i64 (((j+8:Nat):Int)-8)) G (by omega) (by rw[aB (by omega) (by omega)];omega) (by rw[aB (by omega) (by omega)];omega);refine⟨C,d,q,e,t,m,z,s,B,A,r,o,?_⟩;have N:wrap .i64 (((j+8:Nat):Int)-8)=(j:Int):=by rw[aB (by omega) (by omega)];omega
   rw[N];exact iI j (by omega) ⟨w/100000000,by omega,rfl,by
    have:=F;simp only[Nat.div_div_eq_div_mul]at this;exact this⟩
  ·have K:=dF K;have T:w<100000000:=lt_of_lt_of_le f.lt (show 10^D<=10^8 from pow_le_pow_right (by omega) (by omega));rw[m8 (n:=((w:Nat):Int)) (by omega) (by omega)];refine aa (λJ=>?_) (λJ=>?_)
   ·have J:=dT J;obtain⟨j,rfl⟩:∃j,D=j+4:=⟨D-4,by omega⟩
    refine⟨_,gK (b:=10000) (by omega) (by omega),_,Dd (b:=10000) (by omega) (by omega) (by omega),_,Dd (b:=100) (by omega) (by omega) (by omega),_,gK (b:=100) (by omega) (by omega),?_⟩;obtain⟨C,d,q,e,t,m,z,s,B,A,r,o,Q⟩:=FB.pair (j:=j+2) (c:=c) (y:=((w:Nat):Int)%((10000:Nat):Int)%((100:Nat):Int)) (i1:=wrap .i64 (((j+4:Nat):Int)-1)) (i2:=wrap .i64 (((j+4:Nat):Int)-2)) f (by omega) (by rw[aB (by omega) (by omega)];omega) (by rw[aB (by omega) (by omega)];omega);refine⟨C,d,q,e,t,m,z,s,B,A,r,o,?_⟩;obtain⟨C,d,q,e,t,m,z,s,B,A,r,o,I⟩:=FB.pair (j:=j) (c:=c) (y:=((w:Nat):Int)%((10000:Nat):Int)/((100:Nat):Int)) (i1:=wrap .i64 (((j+4:Nat):Int)-3)) (i2:=wrap .i64 (((j+4:Nat):Int)-4)) Q (by omega) (by rw[aB (by omega) (by omega)];omega) (by rw[aB (by omega) (by omega)];omega);refine⟨C,d,q,e,t,m,z,s,B,A,r,o,?_⟩;have N:wrap .i64 (((j+4:Nat):Int)-4)=(j:Int):=by rw[aB (by omega) (by omega)];omega
    rw[N];have U:=I.lt;refine aa (λE=>?_) (λE=>?_)
    ·have E:=dT E;obtain⟨l,rfl⟩:∃l,j=l+2:=⟨j-2,by omega⟩
     refine⟨_,gK (b:=100) (by omega) (by omega),_,Dd (b:=100) (by omega) (by omega) (by omega),?_⟩;obtain⟨C,d,q,e,t,m,z,s,B,A,r,o,G⟩:=FB.pair (j:=l) (c:=c) (y:=((w:Nat):Int)/((10000:Nat):Int)%((100:Nat):Int)) (i1:=wrap .i64 (((l+2:Nat):Int)-1)) (i2:=wrap .i64 (((l+2:Nat):Int)-2)) I (by omega) (by rw[aB (by omega) (by omega)];omega) (by rw[aB (by omega) (by omega)];omega);refine⟨C,d,q,e,t,m,z,s,B,A,r,o,?_⟩;have P:wrap .i64 (((l+2:Nat):Int)-2)=(l:Int):=by rw[aB (by omega) (by omega)];omega
     rw[P];refine aa (λa=>?_) (λa=>?_)
     ·have a:=dT a;obtain rfl:l=1:=by omega
      have M:=G.lt;rw[m8 (n:=48+_) (by omega) (by omega),sy (n:=48+_) (by omega) (by omega)];obtain⟨p,d,H,e,F⟩:=G.step (c:=c) (x:=48+((w:Nat):Int)/((10000:Nat):Int)/((100:Nat):Int)) (i:=0) (by omega) rfl;exact⟨p,d,H,e,rfl,_,F⟩
     ·have a:=dF a;obtain rfl:l=0:=by omega
      exact⟨rfl,_,G⟩
    ·have E:=dF E;refine aa (λa=>?_) (λa=>?_)
     ·have a:=dT a;obtain rfl:j=1:=by omega
      rw[m8 (n:=48+_) (by omega) (by omega),sy (n:=48+_) (by omega) (by omega)];obtain⟨p,d,H,e,F⟩:=I.step (c:=c) (x:=48+((w:Nat):Int)/((10000:Nat):Int)) (i:=0) (by omega) rfl;exact⟨p,d,H,e,rfl,_,F⟩
     ·have a:=dF a;obtain rfl:j=0:=by omega
      exact⟨rfl,_,I⟩
   ·have J:=dF J;refine aa (λE=>?_) (λE=>?_)
    ·have E:=dT E;obtain⟨l,rfl⟩:∃l,D=l+2:=⟨D-2,by omega⟩
     refine⟨_,gK (b:=100) (by omega) (by omega),_,Dd (b:=100) (by omega) (by omega) (by omega),?_⟩;obtain⟨C,d,q,e,t,m,z,s,B,A,r,o,G⟩:=FB.pair (j:=l) (c:=c) (y:=((w:Nat):Int)%((100:Nat):Int)) (i1:=wrap .i64 (((l+2:Nat):Int)-1)) (i2:=wrap .i64 (((l+2:Nat):Int)-2)) f (by omega) (by rw[aB (by omega) (by omega)];omega) (by rw[aB (by omega) (by omega)];omega);refine⟨C,d,q,e,t,m,z,s,B,A,r,o,?_⟩;have P:wrap .i64 (((l+2:Nat):Int)-2)=(l:Int):=by rw[aB (by omega) (by omega)];omega
     rw[P];have M:=G.lt;refine aa (λa=>?_) (λa=>?_)
     ·have a:=dT a;obtain rfl:l=1:=by omega
      rw[m8 (n:=48+_) (by omega) (by omega),sy (n:=48+_) (by omega) (by omega)];obtain⟨p,d,H,e,F⟩:=G.step (c:=c) (x:=48+((w:Nat):Int)/((100:Nat):Int)) (i:=0) (by omega) rfl;exact⟨p,d,H,e,rfl,_,F⟩
     ·have a:=dF a;obtain rfl:l=0:=by omega
      exact⟨rfl,_,G⟩
    ·have E:=dF E;have M:=f.lt;refine aa (λa=>?_) (λa=>?_)
     ·have a:=dT a;obtain rfl:D=1:=by omega
      rw[m8 (n:=48+_) (by omega) (by omega),sy (n:=48+_) (by omega) (by omega)];obtain⟨p,d,H,e,F⟩:=f.step (c:=c) (x:=48+((w:Nat):Int)) (i:=0) (by omega) rfl;exact⟨p,d,H,e,rfl,_,F⟩
     ·have a:=dF a;obtain rfl:D=0:=by omega
      exact⟨rfl,_,f⟩)
 exact S3 _ n c _ h _ (L n ⟨u,rfl,rfl,f⟩)
end
variable{k:Nat}{b:Bool}{i:Nat}
noncomputable def RA:dS:= .cells (List.replicate 24 (.int .u8 0)) 219 0 true
theorem abJ:br SS.P 219=some (RA,k6):=by kernel_rfl
theorem abK:SS.P.underlying 219=some (.array 24 5):=by kernel_rfl
theorem Fb{cs:List Value}(c:h.get k=some (.cells cs 219 0 b)){n:Nat}(f:n<=24):bG SS.P 219 (.pointer (some ⟨k,0,none⟩)) none (some (.int .i64 (n:Int))) none h=some (.slice (some ⟨k,0,none⟩) n 24):=by
 unfold bG;dsimp only;rw[abK];dsimp only[eP];rw[zz5,c];show(if 0<=((0:Nat):Int)/\((0:Nat):Int)<=(n:Int)/\(n:Int)<=((24:Nat):Int)/\24<dn then some (Value.slice (some ⟨k,0+((0:Nat):Int).toNat*1,none⟩) ((n:Int)-((0:Nat):Int)).toNat (24-((0:Nat):Int).toNat))else none)=_;have a:24<dn:=by unfold dn;omega
 rw[if_pos ⟨by omega,by omega,by omega,a⟩];have d:((n:Int)-((0:Nat):Int)).toNat=n:=by omega
 have e:((0:Nat):Int).toNat=0:=rfl;rw[d,e]
theorem MX{c:Nat}{cs:List Value}(e:h.get k=some (.cells cs i j b)){l:List UInt8}(d:(cs.drop n).take m=l.map sR)(a:l.length=m):Bo SS.P 172 9 (.slice (some ⟨k,n,none⟩) m c) h=some (strOf l):=by
 unfold Bo cW;dsimp only;rw[AW,show SS.P.underlying 9=some .string by kernel_rfl];dsimp only;rw[show SS.P.underlying 5=some (.int .u8) by kernel_rfl];dsimp only;rw[e];dsimp only;rw[d,if_pos (by rw[lM];exact a),pG];rfl
theorem Jk(p:n<1000000000){h:ae}(t:nO h)(w:Wf h):FW SS 207 [.int .u64 (n:Int),.int .i64 10] h (λv q=>v=strOf (ag n)/\Ok h q):=by
 refine Jj _ h _ (aa (λ_=>?_) (λg=>by simp at g));refine aa (λg=>?_) (λg=>?_)
 ·have g:=dT g;rw[aB (by omega) (by omega)];refine(Vf (by omega) h).mono ?_;rintro _ _ ⟨rfl,rfl⟩;exact⟨_,rfl,rfl,Ok.refl w⟩
 ·have g:=dF g;have b:=(Ok.refl w).push RA;refine⟨_,abJ,(Hq (by omega) p (t.ok b)).mono ?_⟩;rintro _ y ⟨r,d,rfl,u,i,c⟩;subst r;have l:(h.push RA).get h.next=some (.cells (List.replicate 24 (.int .u8 0)) 219 0 true):=by rw[ae.bt,if_pos rfl];rfl
  refine⟨_,rfl,_,_,_,Fb l (n:=d+1) (by omega),?_⟩;have f:FB (h.push RA) h.next (d+1) n (d+1) n (h.push RA):=⟨⟨_,l,by simp,by simp[Num.wid]⟩,by simp,c,Nat.le_refl _,by omega,IB.refl b.wf⟩
  refine(S4 f).mono ?_;rintro _ s ⟨rfl,x,a⟩;obtain⟨cs,m,z,k⟩:=a.blk;rw[drop_zero,Nat.sub_zero]at k;refine⟨rfl,_,_,_,Fb m (n:=d+1) (by omega),ag n,MX m ?_ ?_,rfl,?_⟩
  ·rw[drop_zero,k,yZ c (.inr i)]
  ·rw[<-yZ c (.inr i),zb]
  ·refine⟨a.ok.wf,λj B o=>a.ok.kF j B (λe=>by have:=w _ _ o;omega) (b.ext _ _ o),Nat.le_trans b.nx a.ok.nx⟩
theorem LJ(a:n<1000000000){h:ae}(t:nO h)(w:Wf h):FW SS 197 [.int .u64 (n:Int),.int .i64 10] h (λv b=>v=strOf (ag n)/\Ok h b):=by
 refine LI _ h _ ((Jk a t w).mono ?_);rintro _ c ⟨rfl,o⟩;exact⟨_,rfl,rfl,o⟩
noncomputable def rk:FD:=cG Tryz.f208 []
theorem Er(p:Addr)(h:ae)(Q:VH)(m:fP 201 (.pointer (some p)) 0 λl=>xO (aj SS.P 199 h (.pointer (some l))) λk=>xB (ay SS.P .eql 199 (.pointer k) (.pointer none)) λj=>au j (xG (dV SS.P ji (ev SS.gl (uN [(.pointer (some p)),undef,(.pointer (some p)),(.pointer (some p)),(.pointer (some l)),(.pointer k),(.bool j),(.pointer (some p)),(.pointer (some p))] 11)) (J6 (fI [1,0] rk.body) 2) h) h λh _ i=>FW SS 222 [h] i λf g=>yV f λe=>xG (dV SS.P ji (ev SS.gl (uN [(.pointer (some p)),undef,(.pointer (some p)),(.pointer (some p)),(.pointer (some l)),(.pointer k),(.bool j),(.pointer (some p)),(.pointer (some p)),h,e] 9)) (J6 (fI [1,0] rk.body) 4) g) g λc _ d=>fP 201 (.pointer (some p)) 0 λb=>xU (ah SS.P 199 (.pointer (some b)) c d) d λ_ a=>Q (.tuple ⟨[]⟩) a) (fP 201 (.pointer (some p)) 0 λc=>xO (aj SS.P 199 h (.pointer (some c))) λb=>xB (ay SS.P .neq 199 (.pointer b) (.pointer (some p))) λa=>au a (False) (Q (.tuple ⟨[]⟩) h))):FW SS 208 [(.pointer (some p))] h Q:=cQ rk Tryz.func208 (ai m)
noncomputable def Su:FD:=cG Tryz.f198 []
theorem OY(p:Addr)(l:LB)(h:ae)(Q:VH)(n:FW SS 208 [(.pointer (some p))] h λk m=>k=(.tuple ⟨[]⟩)/\fP 201 (.pointer (some p)) 1 λj=>lL 172 m j λg h i=>xE (bI SS.P 172 9 (.slice g h i) (strOf l) m) m λc d e _ f=>fP 201 (.pointer (some p)) 1 λb=>xU (ah SS.P 172 (.pointer (some b)) (.slice c d e) f) f λ_ a=>Q (.tuple ⟨[(.int .i64 ((l:LB).length:Int)),.nilIface]⟩) a):FW SS 198 [(.pointer (some p)),(strOf l)] h Q:=cQ Su Tryz.func198 (ai n)
noncomputable def zn:FD:=cG Tryz.f200 []
theorem Lt(p:Addr)(h:ae)(Q:VH)(n:fP 201 (.pointer (some p)) 1 λm=>lL 172 (room h 12) m λj k l=>xG (dV SS.P ji (ev SS.gl (uN [(.pointer (some p)),undef,(strOf []),(.pointer (some p)),(.pointer (some p)),(.pointer (some m)),(.slice j k l)] 7)) (J6 (fI [1,0] zn.body) 4) (room h 12)) (room h 12) λg _ i=>fP 201 (.pointer (some p)) 1 λf=>lL 172 i f λc d e=>xG (dV SS.P ji (ev SS.gl [(.pointer (some p)),undef,(strOf []),(.pointer (some p)),(.pointer (some p)),(.pointer (some m)),(.slice j k l),g,(.pointer (some p)),(.pointer (some p)),(.pointer (some f)),(.slice c d e),(iA d),undef]) (J6 (fI [1,0] zn.body) 10) i) i λa _ b=>(aj SS.P 172 (room h 12) (.pointer (some f))=some (.slice c d e)/\dG 4 (.slice c d e) (.slice c d e)=true)/\(TE SS.P 172 (.slice c d e) (room h 12)=some (iA d)/\dG 4 (iA d) (iA d)=true)/\Q a b):FW SS 200 [(.pointer (some p))] h Q:=cQ zn Tryz.func200 (ai n)
variable{T:TypeId}{v:Value}{c:List Value}{s:List UInt8}{t:List UInt8}
theorem vN:SS.P.underlying 199=some (.pointer 201):=by kernel_rfl
theorem AY:SS.P.underlying 223=some .unsafePointer:=by kernel_rfl
theorem VN:aE SS.P 201=some 2:=by kernel_rfl
theorem Xo{ρ:Operand->Value}{o:Oper}{x:Operand}(q:o.op = .convert 199 223 x){h:ae}{k:Nat}{a b:Value}{m:Bool}(g:ρ x = .pointer (some ⟨k,0,none⟩))(p:h.get k=some (.cells [a,b] 201 0 m)):dV SS.P ji ρ o h=some (.pointer (some ⟨k,0,none⟩),.no):=by
 obtain⟨f,s,i,e,d,c⟩:=o;subst q;unfold dV;have l:dr SS.P ρ ⟨f,.convert 199 223 x,i,e,d,c⟩=none:=by
  show gN SS.P 199 223 (ρ x)=none;rw[g];unfold gN;rw[vN,AY]
 have n:cW SS.P ρ ⟨f,.convert 199 223 x,i,e,d,c⟩ h=none:=by
  unfold cW;dsimp only;rw[vN,AY,g]
 have j:bV SS.P ρ ⟨f,.convert 199 223 x,i,e,d,c⟩=none:=by
  unfold bV;dsimp only;rw[vN,AY,g]
 rw[l];dsimp only;rw[n];dsimp only;rw[j];dsimp only;unfold gp;dsimp only;rw[vN,AY,g];show(match h.get k with|some (.cells cs r 0 _)=>if 201=r/\aE SS.P 201=some cs.length/\0<cs.length then some (Value.pointer (some ⟨k,0,none⟩),dM.no)else none|_=>none)=_;rw[p];show(if 201=201/\aE SS.P 201=some [a,b].length/\0<[a,b].length then some (Value.pointer (some ⟨k,0,none⟩),dM.no)else none)=_;rw[if_pos ⟨rfl,VN,by simp⟩]
theorem O8{ρ:Operand->Value}{o:Oper}{x:Operand}(q:o.op = .convert 223 199 x){h:ae}{k:Nat}{a b:Value}{m:Bool}(g:ρ x = .pointer (some ⟨k,0,none⟩))(p:h.get k=some (.cells [a,b] 201 0 m)):dV SS.P ji ρ o h=some (.pointer (some ⟨k,0,none⟩),.no):=by
 obtain⟨f,s,i,e,d,c⟩:=o;subst q;unfold dV;have l:dr SS.P ρ ⟨f,.convert 223 199 x,i,e,d,c⟩=none:=by
  show gN SS.P 223 199 (ρ x)=none;rw[g];unfold gN;rw[vN,AY]
 have n:cW SS.P ρ ⟨f,.convert 223 199 x,i,e,d,c⟩ h=none:=by
  unfold cW;dsimp only;rw[vN,AY,g]
 have j:bV SS.P ρ ⟨f,.convert 223 199 x,i,e,d,c⟩=none:=by
  unfold bV;dsimp only;rw[vN,AY,g]
 rw[l];dsimp only;rw[n];dsimp only;rw[j];dsimp only;unfold gp;dsimp only;rw[vN,AY,g];show(match h.get k with|some (.cells cs r 0 _)=>if 201=r/\aE SS.P 201=some cs.length/\0<cs.length then some (Value.pointer (some ⟨k,0,none⟩),dM.no)else none|_=>none)=_;rw[p];show(if 201=201/\aE SS.P 201=some [a,b].length/\0<[a,b].length then some (Value.pointer (some ⟨k,0,none⟩),dM.no)else none)=_;rw[if_pos ⟨rfl,VN,by simp⟩]
def self(k:Nat):Value:= .pointer (some ⟨k,0,none⟩)
theorem aaC(k:Nat):aG SS.P 201 (.pointer (some ⟨k,0,none⟩)) 0=some (.pointer (some ⟨k,0,none⟩)):=by kernel_rfl
theorem XF(k:Nat):aG SS.P 201 (.pointer (some ⟨k,0,none⟩)) 1=some (.pointer (some ⟨k,1,none⟩)):=by kernel_rfl
theorem ld0{a b:Value}{c:Bool}(d:h.get k=some (.cells [a,b] 201 0 c)):aj SS.P 199 h (.pointer (some ⟨k,0,none⟩))=some a:=by
 unfold aj;rw[vN];dsimp only;rw[d];dsimp only;rw[show Go.Ab.isAgg SS.P 199=false by kernel_rfl];rfl
theorem ld1{a b:Value}{c:Bool}(d:h.get k=some (.cells [a,b] 201 0 c)):aj SS.P 172 h (.pointer (some ⟨k,1,none⟩))=some b:=by
 unfold aj;rw[AW];dsimp only;rw[d];dsimp only;rw[show Go.Ab.isAgg SS.P 172=false by kernel_rfl];rfl
theorem st0{a b x:Value}(d:h.get k=some (.cells [a,b] 201 0 true))(c:dO x=true)(e:x.cells = #[x]):ah SS.P 199 (.pointer (some ⟨k,0,none⟩)) x h=some (undef,.set k (.cells [x,b] 201 0 true)):=by
 show(if aE SS.P 199=some x.cells.size then(storeAt h k 0 x.cells.toList).map λu=>(undef,u)else none)=_;rw[e,show aE SS.P 199=some 1 by kernel_rfl,if_pos (show some 1=some #[x].size from rfl)];unfold storeAt;rw[d];dsimp only;rw[if_pos ⟨by simp,by simp[c]⟩];rfl
theorem st1{a b x:Value}(d:h.get k=some (.cells [a,b] 201 0 true))(c:dO x=true)(e:x.cells = #[x]):ah SS.P 172 (.pointer (some ⟨k,1,none⟩)) x h=some (undef,.set k (.cells [a,x] 201 0 true)):=by
 show(if aE SS.P 172=some x.cells.size then(storeAt h k 1 x.cells.toList).map λu=>(undef,u)else none)=_;rw[e,show aE SS.P 172=some 1 by kernel_rfl,if_pos (show some 1=some #[x].size from rfl)];unfold storeAt;rw[d];dsimp only;rw[if_pos ⟨by simp,by simp[c]⟩];rfl
theorem GR{a b:Value}(c:h.get k=some (.cells [a,b] 201 0 true))(f:a = .pointer none\/a=self k):
  FW SS 208 [self k] h (λv d=>v = .tuple ⟨[]⟩/\d.get k=some (.cells [self k,b] 201 0 true)/\(∀j,j≠k->d.get j=h.get j)/\d.next=h.next):=by
 refine Er ⟨k,0,none⟩ h _ ⟨_,aaC k,?_⟩;rcases f with rfl|rfl
 ·refine⟨_,ld0 c,true,by kernel_rfl,?_⟩;refine aa (λ_=>?_) (λg=>by cases g);refine⟨_,_,Xo (k:=k) (x:= .tmp 8) (by kernel_rfl) (by kernel_rfl) c,BF (p:=qL) (v:=self k) (by kernel_rfl) (by kernel_rfl) (λ_=>rfl) ⟨_,rfl,_,_,O8 (k:=k) (x:= .tmp 10) (by kernel_rfl) (by kernel_rfl) c,_,aaC k,_,st0 c rfl rfl,rfl,?_,?_,rfl⟩⟩
  ·show(h.set k _).get k=_;rw[ae.aw,if_pos rfl];rfl
  ·intro j i;show(h.set k _).get j=_;rw[ae.aw,if_neg i]
 ·refine⟨_,ld0 c,false,by kernel_rfl,?_⟩;refine aa (λg=>by cases g) (λ_=>?_);have e:ay SS.P .neq 199 (self k) (self k)=some (.bool false):=by
   show((rD SS.P 199 (.pointer (some ⟨k,0,none⟩)) (.pointer (some ⟨k,0,none⟩))).map λb=>Value.bool !b)=_;unfold rD;dsimp only;rw[vN];dsimp only;rw[if_pos ⟨rfl,by rw[VN];rfl⟩];rfl
  refine⟨_,aaC k,_,ld0 c,false,e,aa (λg=>by cases g) (λ_=>⟨rfl,c,λ_ _=>rfl,rfl⟩)⟩
def Bd(b h:ae)(k:Nat)(l:List UInt8):Prop:=∃a v,h.get k=some (.cells [a,v] 201 0 true)/\(a = .pointer none\/a=self k)/\A6 b h 5 v (l.map sR)/\b.next<=k
theorem rw5:eS SS.P 5=some ((SS.P.info? 5).getD default):=by kernel_rfl
theorem ael:((SS.P.info? 5).getD default).size=1:=by kernel_rfl
theorem aek:((SS.P.info? 5).getD default).bytes=1:=by kernel_rfl
theorem tl9:dW SS.P 9=true:=by kernel_rfl
theorem aa3(h:ae)(l:List UInt8):fQ h 1 (strOf l)=some (l.map sR,(l.map sR).length):=by
 show(if 1=1 then some (l.map (λb=>Value.int .u8 b.toNat),l.length)else none)=_;rw[if_pos rfl,lM];rfl
theorem Nv:∀l:List UInt8,(l.map sR).all dO=true
 |[]=>rfl
 |c::l=>by rw[List.map_cons,List.all_cons,Nv l];rfl
theorem Hu{i:ae}(o:A6 g h T v c)(f:∀j B,h.get j=some B->(∃cs d,B = .cells cs T 1 d)->i.get j=some B):A6 g i T v c:=by
 rcases o with o|⟨k,b,e,a⟩
 ·exact .inl o
 ·exact .inr ⟨k,b,e,f _ _ a ⟨_,_,rfl⟩⟩
theorem zp(u:Wf g)(p:Ok g h)(b:Bd g h k s)(T:s.length+t.length<=1000000):
  FW SS 198 [self k,strOf t] h (λv G=>v = .tuple ⟨[.int .i64 (t.length:Int),.nilIface]⟩/\Ok g G/\Bd g G k (s++t)):=by
 obtain⟨a,v,y,R,o,D⟩:=b;refine OY ⟨k,0,none⟩ t h _ ((GR y R).mono ?_);rintro _ C ⟨rfl,A,z,F⟩;have H:Ok g C:=by
  refine⟨λj B d=>?_,λj B d=>?_,by rw[F];exact p.nx⟩
  ·rw[F];by_cases e:j=k
   ·rw[e];exact p.wf _ _ y
   ·rw[z j e]at d;exact p.wf _ _ d
  ·have:=u _ _ d;rw[z j (by omega)];exact p.ext _ _ d
 have r:A6 g C 5 v (s.map sR):=Hu o λj B d x=>by
  obtain⟨cs,P,rfl⟩:=x;by_cases e:j=k
  ·subst e;rw[y]at d;injection d with d;injection d;omega
  ·rw[z j e];exact d
 have M:∃a n c,v = .slice a n c:=by
  rcases r with⟨rfl,_⟩|⟨_,rfl,_⟩<;>exact⟨_,_,_,rfl⟩
 obtain⟨Q,L,S,rfl⟩:=M;obtain⟨I,K,E,f,N,J,q,w⟩:=r.adC AW rw5 ael tl9 u H (aa3 C t) (Nv t) (by rw[aek,lM,lM];omega) (by rw[lM,lM];omega);have l:(f.app C).get k=some (.cells [self k,.slice Q L S] 201 0 true):=w k _ A (by
  intro o n c e;rcases r with⟨i,_⟩|⟨O,i,_,m⟩
  ·rw[i]at e;cases e
  ·rw[i]at e;injection e with e
   injection e with e
   injection e with e
   subst e;rw[A]at m;injection m with m;injection m;omega)
 refine⟨rfl,_,XF k,_,_,_,ld1 A,I,K,E,f,N,_,XF k,_,st1 l ?_ ?_,rfl,?_,?_⟩
 ·rcases J with⟨i,_⟩|⟨O,i,_,m⟩<;>rw[i]<;>rfl
 ·rfl
 ·exact q.set _ D (q.wf _ _ l) u
 ·refine⟨self k,.slice I K E,?_,.inr rfl,?_,D⟩
  ·show((f.app C).set k _).get k=_;rw[ae.aw,if_pos rfl]
  ·rw[map_append];refine Hu J λj B d x=>?_;obtain⟨cs,P,rfl⟩:=x;show((f.app C).set k _).get j=_;rw[ae.aw,if_neg]
   ·exact d
   intro e;subst e;rw[l]at d;injection d with d;injection d;omega
theorem acW{ρ:Operand->Value}{o:Oper}{x:Operand}{ts:Array TypeId}(f:o.op = .call ⟨.builtin .unsafeSliceData,#[x],ts⟩){h:ae}{a:Addr}{n c:Nat}(e:ρ x = .slice (some a) n c)(g:0<bH c):dV SS.P ji ρ o h=some (.pointer (some a),.no):=by
 obtain⟨j,l,k,i,d,b⟩:=o;subst f;show(match [x].map ρ with
  |[.slice none _ _]=>some (Value.pointer none,dM.no)
  |[.slice (some a) _ c]=>if 0<bH c then some (Value.pointer (some a),dM.no)else none
  |_=>none)=_
 rw[List.map_cons,List.map_nil,e];show(if 0<bH c then some (Value.pointer (some a),dM.no)else none)=_;rw[if_pos g]
theorem adb:SS.P.underlying 217=some (.pointer 5):=by kernel_rfl
theorem YL{ρ:Operand->Value}{o:Oper}{x y:Operand}{t2:TypeId}(j:o.op = .call ⟨.builtin .unsafeString,#[x,y],#[217,t2]⟩){h:ae}{k:Nat}{l:List UInt8}(d:ρ x = .pointer (some ⟨k,0,none⟩))(q:ρ y = .int .i64 (l.length:Int))(g:h.get k=some (.cells (l.map sR) 5 1 true))(m:l≠[])(u:l.length<9223372036854775807):dV SS.P ji ρ o h=some (strOf l,.set k (.cells (l.map sR) 5 1 false)):=by
 obtain⟨s,v,t,r,c,b⟩:=o;subst j;show(match [x,y].map ρ,(#[217,t2]:Array TypeId)[0]? with
  |[.pointer none,.int _ 0],some _=>some (strOf [],dM.no)
  | [.pointer (some ⟨k,i,none⟩),.int _ n],some p=>(match h.get k,SS.P.underlying p with
   | some (.cells cs e 1 true),some (.pointer a)=>
    if e=a/\aE SS.P e=some 1/\0<n/\n<9223372036854775807/\((cs.drop i).take n.toNat).length=n.toNat then
     (match bytesOf ((cs.drop i).take n.toNat)with
     |some l=>some (strOf l,dM.set k (.cells cs e 1 false))
     |none=>none)
    else none
   |_,_=>none)
  |_,_=>none)=_
 rw[List.map_cons,List.map_cons,List.map_nil,d,q];show(match h.get k,SS.P.underlying 217 with
   | some (.cells cs e 1 true),some (.pointer a)=>
    if e=a/\aE SS.P e=some 1/\0<(l.length:Int)/\(l.length:Int)<9223372036854775807/\((cs.drop 0).take (l.length:Int).toNat).length=(l.length:Int).toNat then
     (match bytesOf ((cs.drop 0).take (l.length:Int).toNat)with
     |some l=>some (strOf l,dM.set k (.cells cs e 1 false))
     |none=>none)
    else none
   |_,_=>none)=_
 rw[g,adb];have w:=List.length_pos_iff.2 m;show(if 5=5/\aE SS.P 5=some 1/\0<(l.length:Int)/\(l.length:Int)<9223372036854775807/\(((l.map sR).drop 0).take (l.length:Int).toNat).length=(l.length:Int).toNat then
     (match bytesOf (((l.map sR).drop 0).take (l.length:Int).toNat)with
     |some f=>some (strOf f,dM.set k (.cells (l.map sR) 5 1 false))
     |none=>none)
    else none)=_
 rw[toNat_natCast,drop_zero,take_of_length_le (by simp),if_pos ⟨rfl,zz5,by omega,by omega,by simp⟩,pG]
theorem Lu(l:Wf g)(j:Ok g h)(b:Bd g h k s)(e:s≠[])(z:s.length<=1000000):
  FW SS 200 [self k] h (λv q=>v=strOf s/\Ok g q):=by
 obtain⟨a,v,r,A,o,w⟩:=b;rcases o with⟨_,m⟩|⟨f,rfl,p,i⟩
 ·exact absurd (List.map_eq_nil_iff.1 m) e
 have d:(room h 12).get k=_:=r;have t:=List.length_pos_iff.2 e;have u:bH (dn+(s.map sR).length)=s.length:=by unfold bH;rw[if_pos (by omega),lM];omega
 rw[lM]at*;refine Lt ⟨k,0,none⟩ h _ ⟨_,XF k,_,_,_,ld1 d,_,_,acW (x:= .tmp 6) (ts:= #[172]) (a:=⟨f,0,none⟩) (n:=s.length) (c:=dn+s.length) (by kernel_rfl) (by kernel_rfl) (by rw[u];exact t),_,XF k,_,_,_,ld1 d,_,_,YL (x:= .tmp 7) (y:= .tmp 12) (k:=f) (l:=s) (t2:=3) (by kernel_rfl) (by kernel_rfl) (by kernel_rfl) i e (by omega),⟨ld1 d,by simp[dG]⟩,⟨rfl,by simp[dG]⟩,rfl,?_⟩;exact(j.room 12).set _ p ((j.room 12).wf _ _ i) l
theorem ad7(m:Nat)(h:ae):bY SS.P SS.gl SS.pr (m+8) 199 [strOf [48],.int .i64 0] h=some (strOf [],h):=by kernel_rfl
theorem ad8(m:Nat)(h:ae):bY SS.P SS.gl SS.pr (m+8) 199 [strOf [48],.int .i64 1] h=some (strOf [48],h):=by kernel_rfl
theorem ad9(m:Nat)(h:ae):bY SS.P SS.gl SS.pr (m+8) 199 [strOf [48],.int .i64 2] h=some (strOf [48,48],h):=by kernel_rfl
theorem aea(m:Nat)(h:ae):bY SS.P SS.gl SS.pr (m+8) 199 [strOf [48],.int .i64 3] h=some (strOf [48,48,48],h):=by kernel_rfl
theorem aeb(m:Nat)(h:ae):bY SS.P SS.gl SS.pr (m+8) 199 [strOf [48],.int .i64 4] h=some (strOf [48,48,48,48],h):=by kernel_rfl
theorem aec(m:Nat)(h:ae):bY SS.P SS.gl SS.pr (m+8) 199 [strOf [48],.int .i64 5] h=some (strOf [48,48,48,48,48],h):=by kernel_rfl
theorem aed(m:Nat)(h:ae):bY SS.P SS.gl SS.pr (m+8) 199 [strOf [48],.int .i64 6] h=some (strOf [48,48,48,48,48,48],h):=by kernel_rfl
theorem aee(m:Nat)(h:ae):bY SS.P SS.gl SS.pr (m+8) 199 [strOf [48],.int .i64 7] h=some (strOf [48,48,48,48,48,48,48],h):=by kernel_rfl
theorem aef(m:Nat)(h:ae):bY SS.P SS.gl SS.pr (m+8) 199 [strOf [48],.int .i64 8] h=some (strOf [48,48,48,48,48,48,48,48],h):=by kernel_rfl
theorem QS(d:n<=8)(h:ae):FW SS 199 [strOf [48],.int .i64 (n:Int)] h (λv b=>v=strOf (List.replicate n 48)/\b=h):=by
 have a:∀(z:Int)(l:List UInt8),(∀m,bY SS.P SS.gl SS.pr (m+8) 199 [strOf [48],.int .i64 z] h=some (strOf l,h))->FW SS 199 [strOf [48],.int .i64 z] h (λv b=>v=strOf l/\b=h):=λz l c=>
  ⟨_,_,⟨8,λN e=>by obtain⟨m,rfl⟩:∃m,N=m+8:=⟨N-8,by omega⟩;exact c m⟩,rfl,rfl⟩
 have:n=0\/n=1\/n=2\/n=3\/n=4\/n=5\/n=6\/n=7\/n=8:=by omega
 rcases this with rfl|rfl|rfl|rfl|rfl|rfl|rfl|rfl|rfl
 ·exact a 0 _ λm=>ad7 m h
 ·exact a 1 _ λm=>ad8 m h
 ·exact a 2 _ λm=>ad9 m h
 ·exact a 3 _ λm=>aea m h
 ·exact a 4 _ λm=>aeb m h
 ·exact a 5 _ λm=>aec m h
 ·exact a 6 _ λm=>aed m h
 ·exact a 7 _ λm=>aee m h
 ·exact a 8 _ λm=>aef m h
noncomputable def mE:FD:=cG Tryz.f187 [([1,1,1,0,1,0,0],[0,3,10,11])]
abbrev kR(a:OA)(n c:Nat)(p:Addr)(b:Int)(i:Nat):LV:=[(.slice a n c),(.pointer (some p)),(.int .i64 b),(iA i)]
theorem L6(a:OA)(n c:Nat)(h:ae)(Q:VH)(d:au ((((n:Int):Int)==0)) (Q (strOf [48]) h) (xN (br SS.P 201) h λ_ b=>LL SS mE [1,1,1,0,1,0,0] [(.slice a n c),(pA (h.next)),(iA n),(.int .i64 0)] b (KK SS mE [1,1,1,0,1,0] [] (EE SS mE Q)))):FW SS 187 [(.slice a n c)] h Q:=cQ mE Tryz.func187 (ai d)
theorem wo(a:OA)(n c:Nat)(p:Addr)(v:Int)(w:Nat->Nat->ae->Prop)(Q:VH)(step:∀(x:Nat) (i:Nat) (z:Nat->Value) (h:ae),w x i h->au (decide (((i:Int):Int)<v)) (xP (aA SS.P 177 (.slice a n c) (.int .i64 (wrap .i64 (wrap .i64 ((n:Int)-1)-(i:Int))))) λu=>xI .u64 (aj SS.P 150 h (.pointer (some u))) λt=>FW SS 197 [(.int .u64 t),(.int .i64 10)] h λr s=>yS r λq=>au (decide (((i:Int):Int)>0)) (FW SS 199 [(strOf [48]),(.int .i64 (wrap .i64 (9-((q:LB).length:Int))))] s λm o=>yS m λl=>FW SS 198 [(.pointer (some p)),(strOf l)] o λj k=>∃h:Int,∃g:Value,j=(.tuple ⟨[(.int .i64 h),g]⟩)/\FW SS 198 [(.pointer (some p)),(strOf q)] k λe f=>∃d:Int,∃b:Value,e=(.tuple ⟨[(.int .i64 d),b]⟩)/\aI (fj (kR a n c p v) w) x [(.slice a n c),(.pointer (some p)),(.int .i64 v),(.int .i64 (wrap .i64 ((i:Int)+1)))] f) (FW SS 198 [(.pointer (some p)),(strOf q)] s λe f=>∃d:Int,∃b:Value,e=(.tuple ⟨[(.int .i64 d),b]⟩)/\aI (fj (kR a n c p v) w) x [(.slice a n c),(.pointer (some p)),(.int .i64 v),(.int .i64 (wrap .i64 ((i:Int)+1)))] f)) (FW SS 200 [(.pointer (some p))] h λb c=>yS b λa=>Q (strOf a) c))(x:Nat){i:Nat}{h:ae}(y:w x i h):LL SS mE [1,1,1,0,1,0,0] (kR a n c p v i) h (KK SS mE [1,1,1,0,1,0] [] (EE SS mE Q)):=
 dg (kR a n c p v) w (λx i z h y=>ai (step x i z h y)) x y
noncomputable def o9:FD:=cG Tryz.f175 [([1,1,1,0,0,0],[6,7])]
abbrev lT  (a:OA) (n c:Nat) (b:OA) (k d:Nat):LV:=[(.slice a n c),(.slice b k d)]
theorem PQ(l m:LB)(h:ae)(Q:VH)(s:FW SS 171 [(strOf l)] h λq r=>yB q λp=>au (!p) (Q (.tuple ⟨[(strOf []),(.int .i64 1)]⟩) r) (FW SS 171 [(strOf m)] r λn o=>yB n λk=>au (!k) (Q (.tuple ⟨[(strOf []),(.int .i64 1)]⟩) o) (FW SS 172 [(strOf l)] o λi j=>yL i λf g h=>FW SS 172 [(strOf m)] j λd e=>yL d λa b c=>LL SS o9 [1,1,1,0,0,0] (lT f g h a b c) e (KK SS o9 [1,1,1,0,0] [] (EE SS o9 Q))))):FW SS 175 [(strOf l),(strOf m)] h Q:=cQ o9 Tryz.func175 (ai s)
theorem xz(l m:LB)  (f:Nat->OA->Nat->Nat->OA->Nat->Nat->ae->Prop) (Q:VH) (step:∀(e:Nat)(a:OA)(n c:Nat)(b:OA)(k d:Nat)(q:Nat->Value)(h:ae),f e a n c b k d h->au (decide (((k:Int):Int)>0)) (FW SS 189 [(.slice a n c),(.slice b k d)] h λa c=>∃(r:OA)(s p:Nat),∃(g:OA)(i j:Nat),a=(.tuple ⟨[(.slice r s p),(.slice g i j)]⟩)/\aI (LA6 lT f) e [(.slice b k d),(.slice g i j)] c) (FW SS 187 [(.slice a n c)] h λb c=>yS b λa=>Q (.tuple ⟨[(strOf a),(.int .i64 0)]⟩) c)) (e:Nat) {a:OA} {n c:Nat} {b:OA} {k d:Nat} {h:ae} (o:f e a n c b k d h):LL SS o9 [1,1,1,0,0,0] (lT  a n c b k d) h (KK SS o9 [1,1,1,0,0] [] (EE SS o9 Q)):=
 acV lT f (λe a n c b k d q h o=>ai (step e a n c b k d q h o)) e o
noncomputable def abt:dS:= .cells [.pointer none,.slice none 0 0] 201 0 true
theorem abI:br SS.P 201=some (abt,k6):=by kernel_rfl
theorem acb{l:ae}(b:Bd g h k s)(o:Ok h l):Bd g l k s:=by
 obtain⟨a,v,d,e,c,f⟩:=b;exact⟨a,v,o.ext _ _ d,e,Hu c λj B i _=>o.ext _ _ i,f⟩
theorem pa{c:Nat}(A:Rd h 150 (.slice a n c) (bl m))(S:(aW BB m).length<=10000)(t:nO h)(w:Wf h):
  FW SS 187 [.slice a n c] h (λv D=>v=strOf (ag m)/\Ok h D):=by
 have y:n=(aW BB m).length:=by have:=A.len;rwa[lM]at this
 refine L6 a n c h _ (aa (λg=>?_) (λg=>?_))
 ·have g:(n:Int)=0:=by simpa using g
  have Y:(aW BB m).length=0:=by omega
  have:m=0:=by have:=(ia gH).1 (List.eq_nil_of_length_eq_zero Y);omega
  subst this;refine⟨?_,Ok.refl w⟩;rw[dC (by omega)];rfl
 ·have g:¬(n:Int)=0:=by simpa using g
  have W:0<m:=by
   rcases Nat.eq_zero_or_pos m with h|h
   ·subst h;rw[(ia gH).2 rfl]at y;simp at y;omega
   ·exact h
  have F:=E6 gH W;have I:=dq gH m;have M:=cm gH m;have A:Rd h 150 (.slice a n c) ((aW BB m).map uv):=A;generalize hx:aW BB m=x at*;have L:=wo a n c ⟨h.next,0,none⟩ (n:Int) (λK i g=>i<=n/\K=n-i/\Ok h g/\∃l,Bd h g h.next l/\l.length<=9*i/\(i=0->l=[])/\(0<i->0<Num.bv BB (x.drop (n-i))/\l=ag (Num.bv BB (x.drop (n-i))))) (λv D=>v=strOf (ag m)/\Ok h D) (by
   intro K i;intros;rename_i g X;obtain⟨h1,rfl,s,l,O,x2,Z,Q⟩:=X;refine aa (λq=>?_) (λq=>?_)
   ·have q:=dT q;have T:wrap .i64 (wrap .i64 ((n:Int)-1)-(i:Int))=((n-1-i:Nat):Int):=by
     rw[aB (n:=(n:Int)-1) (by omega) (by omega),aB (by omega) (by omega)];omega
    obtain⟨p,e2,P⟩:=Fc (A.ok s) (i:=((n-1-i:Nat):Int)) (by omega) (by rw[<-y];omega);rw[T];rw[toNat_natCast]at P;have R:x.getD (n-1-i) 0<BB:=aZ (by decide) I _;have f:Num.bv BB (x.drop (n-1-i))=x.getD (n-1-i) 0+BB*Num.bv BB (x.drop (n-i)):=by
     rw[fZ,show n-1-i+1=n-i by omega]
    have e5:wrap .i64 ((i:Int)+1)=((i+1:Nat):Int):=by rw[aB (by omega) (by omega)];omega
    rw[e5];have u:i=0->0<x.getD (n-1-i) 0:=λe=>by subst e;rw[y];exact F
    generalize x.getD (n-1-i) 0=b at*;have o:b<1000000000:=R;have x1:=Ei o;refine⟨p,e2,_,P,(LJ o (t.ok s) s.wf).mono ?_⟩;rintro _ h5 ⟨rfl,j⟩;have C:=acb O j;have j:=s.trans j;refine⟨_,rfl,aa (λr=>?_) (λr=>?_)⟩
    ·have r:=dT r;obtain⟨H,z⟩:=Q (by omega);have V:wrap .i64 (9-((ag b).length:Int))=((9-(ag b).length:Nat):Int):=by rw[aB (by omega) (by omega)];omega
     rw[V];have U:=nD b;refine(QS (by omega) h5).mono ?_;rintro _ h8 ⟨rfl,rfl⟩;refine⟨_,rfl,(zp w j C (by rw[length_replicate];omega)).mono ?_⟩;rintro _ x0 ⟨rfl,E,G⟩;refine⟨_,_,rfl,(zp w E G (by rw[length_append,length_replicate];omega)).mono ?_⟩;rintro _ B ⟨rfl,d,k⟩;refine⟨_,_,rfl,bZ (n-(i+1)) (by omega) ⟨by omega,rfl,d,_,k,?_,λh=>by omega,λ_=>?_⟩⟩
     ·rw[length_append,length_append,length_replicate];omega
     ·rw[show n-(i+1)=n-1-i by omega,f];refine⟨Nat.add_pos_right _ (mul_pos (by decide) H),?_⟩;have:=Eh H o;rw[z];exact this.symm
    ·have r:=dF r;obtain rfl:i=0:=by omega
     obtain rfl:=Z rfl;refine(zp w j C (by rw[List.length_nil];omega)).mono ?_;rintro _ B ⟨rfl,d,k⟩;refine⟨_,_,rfl,bZ (n-1) (by omega) ⟨by omega,rfl,d,_,k,?_,λh=>by omega,λ_=>?_⟩⟩
     ·rw[nil_append];omega
     ·have N:Num.bv BB (x.drop n)=0:=by rw[List.drop_of_length_le (by omega)];rfl
      rw[show n-1-0=n-1 by omega,show n-0=n by omega,N,Nat.mul_zero,Nat.add_zero]at f;rw[Nat.zero_add,f,nil_append];refine⟨?_,rfl⟩;exact u rfl
   ·have q:=dF q;obtain rfl:i=n:=by omega
    obtain⟨H,z⟩:=Q (by omega);rw[Nat.sub_self,drop_zero,M]at z;subst z;refine(Lu w s O (q8 m) (by omega)).mono ?_;rintro _ B ⟨rfl,d⟩;exact⟨_,rfl,rfl,d⟩)
  have J:=(Ok.refl w).push abt;refine⟨_,abI,L n (i:=0) ⟨by omega,rfl,J,[],⟨_,_,?_,.inl rfl,.inl ⟨rfl,rfl⟩,Nat.le_refl _⟩,by simp,λ_=>rfl,λh=>by omega⟩⟩;rw[ae.bt,if_pos rfl];rfl
theorem aaR(h:k<=9*m):10^k<=BB^m:=by
 show 10^k<=(10^9)^m;rw[<-Nat.pow_mul];exact pow_le_pow_right (by decide) h
theorem hO(h:n<10^1000):(aW BB n).length<=112:=by
 refine lK gH (lt_of_lt_of_le h (aaR (k:=1000) (m:=112) (by decide)))
def GZ(h:ae)(X Y:Nat)(e:Nat)(a:Option Addr)(n c:Nat)(b:Option Addr)(k d:Nat)(g:ae):Prop:=∃p:Nat,Rd g 150 (.slice a n c) (bl p)/\Rd g 150 (.slice b k d) (bl e)/\(aW BB p).length<=112/\(aW BB e).length<=112/\Nat.gcd p e=Nat.gcd X Y/\Ok h g
theorem S8{c:Nat}{b:Option Addr}(t:nO h)(N:GZ h n m i a j c b k l g){K:Nat->Option Addr->Nat->Nat->Option Addr->Nat->Nat->ae->Prop}{Q:VH}
  (J:∀(u:Option Addr)(r s:Nat)(f:Option Addr)(d q x:Nat)(g:ae),x<i->GZ h n m x b k l f d q g->K x u r s f d q g):
  (0<k->FW SS 189 [.slice a j c,.slice b k l] g (λv C=>∃(u:Option Addr)(r s:Nat)(f:Option Addr)(d q x:Nat),v = .tuple ⟨[.slice u r s,.slice f d q]⟩/\K x u r s f d q C))/\
  (k=0->FW SS 187 [.slice a j c] g (λv C=>v=strOf (ag (Nat.gcd n m))/\Ok h C)):=by
 obtain⟨p,G,A,F,B,E,w⟩:=N;have D:k=(aW BB i).length:=by have:=A.len;rwa[lM]at this
 constructor
 ·intro y;have o:0<i:=by
   rcases Nat.eq_zero_or_pos i with e|e
   ·subst e;rw[(ia gH).2 rfl]at D;simp at D;omega
   ·exact e
  refine(xy G A o (Nat.le_trans F (by omega)) (Nat.le_trans B (by omega)) w.wf).mono ?_;rintro _ I ⟨u,r,s,f,d,q,rfl,O,L,z⟩;refine⟨u,r,s,f,d,q,p%i,rfl,J u r s f d q (p%i) I (mod_lt _ o) ⟨i,A.ok z,L,B,?_,?_,w.trans z⟩⟩
  ·exact Nat.le_trans (Nat.le_of_not_lt λh=>by have M:=lN gH h;have y:=mod_lt p o;exact absurd M (Nat.not_lt.2 (le_of_lt y))) B
  ·rw[<-E,Nat.gcd_comm i,<-Nat.gcd_rec,Nat.gcd_comm]
 ·intro y;have o:i=0:=(ia gH).1 (List.eq_nil_of_length_eq_zero (by rw[<-D,y]));subst o;rw[Nat.gcd_zero_right]at E;subst E;refine(pa G (Nat.le_trans F (by omega)) (t.ok w) w.wf).mono ?_;rintro _ P ⟨rfl,H⟩;exact⟨rfl,w.trans H⟩
theorem FE(a b:List UInt8){h:ae}(t:nO h)(w:Wf h):FW SS 175 [strOf a,strOf b] h (λv u=>v=Bc a b/\Ok h u):=by
 refine PQ a b h _ ((dI a h).mono ?_);rintro _ A ⟨rfl,y⟩;obtain rfl:h=A:=y.symm;refine⟨_,rfl,aa (λg=>?_) (λg=>?_)⟩
 ·have g:Num.valid a=false:=by simpa using g
  refine⟨?_,Ok.refl w⟩;unfold Bc;rw[if_neg (λe=>by rw[e.1]at g;cases g)];rfl
 have g:Num.valid a=true:=by simpa using g
 refine(dI b h).mono ?_;rintro _ A ⟨rfl,y⟩;obtain rfl:h=A:=y.symm;refine⟨_,rfl,aa (λf=>?_) (λf=>?_)⟩
 ·have f:Num.valid b=false:=by simpa using f
  refine⟨?_,Ok.refl w⟩;unfold Bc;rw[if_neg (λe=>by rw[e.2]at f;cases f)];rfl
 have f:Num.valid b=true:=by simpa using f
 obtain⟨X,U,D,F⟩:=cx g;obtain⟨Y,V,C,I⟩:=cx f;have H:=(gh.1 g)
 have J:=(gh.1 f)
 have T:=hO D;have O:=hO C;clear D C;refine(rR a H.1.2.1 (Nat.le_trans H.2 (by omega)) h w).mono ?_;rintro _ s ⟨z,r,x,rfl,B,p⟩;refine⟨_,_,_,rfl,(rR b J.1.2.1 (Nat.le_trans J.2 (by omega)) s p.wf).mono ?_⟩;rintro _ i ⟨m,l,o,rfl,E,q⟩;refine⟨_,_,_,rfl,?_⟩;have R:Bc a b=two (ag (Nat.gcd X Y)) 0:=by unfold Bc;rw[if_pos ⟨g,f⟩,F,I]
 rw[R];rw[F]at B;rw[I]at E;refine xz a b (GZ h X Y) (λv u=>v=two (ag (Nat.gcd X Y)) 0/\Ok h u) (λL a n c b k d=>?_) Y ⟨X,B.rd.ok q,E.rd,T,O,rfl,p.trans q⟩;intros;rename_i g P;have S:=S8 t P (K:=λj z r x m l o g=>j<L/\GZ h X Y j b k d m l o g) (λz r x m l o j g s i=>⟨s,i⟩) (Q:=λ_ _=>True);refine aa (λi=>?_) (λi=>?_)
 ·have i:=dT i;refine(S.1 (by omega)).mono ?_;rintro _ W ⟨z,r,x,m,l,o,j,rfl,M,N⟩;exact⟨_,_,_,_,_,_,rfl,acz j M N⟩
 ·have i:=dF i;refine(S.2 (by omega)).mono ?_;rintro _ Z ⟨rfl,G⟩;exact⟨_,rfl,rfl,G⟩
noncomputable def Yd:FD:=cG Tryz.f194 []
theorem Ub(x y z:Int)(h:ae)(Q:VH)(c:xI .u64 (ay SS.P .rem 150 (.int .u64 (wrap .u64 (wrap .u64 (x+y)+z))) (.int .u64 1000000000)) λb=>xI .u64 (ay SS.P .quo 150 (.int .u64 (wrap .u64 (wrap .u64 (x+y)+z))) (.int .u64 1000000000)) λa=>Q (.tuple ⟨[(.int .u64 b),(.int .u64 a)]⟩) h):FW SS 194 [(.int .u64 x),(.int .u64 y),(.int .u64 z)] h Q:=cQ Yd Tryz.func194 (ai c)
noncomputable def TM:FD:=cG Tryz.f201 []
theorem PE(x y z:Int)(h:ae)(Q:VH)(c:xI .u64 (ay SS.P .rem 150 (.int .u64 (wrap .u64 (wrap .u64 (wrap .u64 (x+1000000000)-y)-z))) (.int .u64 1000000000)) λb=>xI .u64 (ay SS.P .quo 150 (.int .u64 (wrap .u64 (wrap .u64 (wrap .u64 (x+1000000000)-y)-z))) (.int .u64 1000000000)) λa=>Q (.tuple ⟨[(.int .u64 b),(.int .u64 (wrap .u64 (1-a)))]⟩) h):FW SS 201 [(.int .u64 x),(.int .u64 y),(.int .u64 z)] h Q:=cQ TM Tryz.func201 (ai c)
noncomputable def kZ:FD:=cG Tryz.f193 [([1,1,1,0,1,0,0],[0,1,2,7,8,18,19])]
abbrev eL(a:OA)(n c:Nat)(b:OA)(m d:Nat)(e:Int)(i:Nat)(cy:Int)(r:OA)(f g:Nat):LV:=[(.slice a n c),(.slice b m d),(.func (.func 194) ⟨[]⟩ ⟨[]⟩),(.slice r f g),(.int .u64 cy),(.int .i64 e),(iA i)]
theorem I6(a:OA)(n c:Nat)(b:OA)(m d:Nat)(h:ae)(Q:VH)(f:xI .i64 (rQ true [(iA n),(iA m)]) λe=>LL SS kZ [1,1,1,0,1,0,0] (eL a n c b m d (wrap .i64 (e+1)) 0 0 none 0 0) h (KK SS kZ [1,1,1,0,1,0] [] (EE SS kZ Q))):FW SS 193 [(.slice a n c),(.slice b m d),(.func (.func 194) ⟨[]⟩ ⟨[]⟩)] h Q:=cQ kZ Tryz.func193 (ai f)
theorem uW(a:OA)(n c:Nat)(b:OA)(m d:Nat)(x:Int)(y:Nat->Nat->Int->OA->Nat->Nat->ae->Prop)(Q:VH)(step:∀(B:Nat) (i:Nat) (cy:Int) (r:OA) (z A:Nat) (D:Nat->Value) (h:ae),y B i cy r z A h->au (decide (((i:Int):Int)<x)) (au (decide (((i:Int):Int)<(n:Int))) (iP 177 (.slice a n c) (iA i) λw=>xI .u64 (aj SS.P 150 h (.pointer (some w))) λv=>au (decide (((i:Int):Int)<(m:Int))) (iP 177 (.slice b m d) (iA i) λu=>xI .u64 (aj SS.P 150 h (.pointer (some u))) λt=>FW SS 194 [(.int .u64 v),(.int .u64 t),(.int .u64 cy)] h λq s=>∃p:Int,∃o:Int,q=(.tuple ⟨[(.int .u64 p),(.int .u64 o)]⟩)/\xR (aF SS.P 177 1 [(0,(.int .u64 p))]) s λ_ j k l=>xE (bI SS.P 177 177 (.slice r z A) (sA (s.next) j k) l) l λe f g _ h=>aI (BW (eL a n c b m d x) y) B [(.slice a n c),(.slice b m d),(.func (.func 194) ⟨[]⟩ ⟨[]⟩),(.slice e f g),(.int .u64 o),(.int .i64 x),(.int .i64 (wrap .i64 ((i:Int)+1)))] h) (FW SS 194 [(.int .u64 v),(.int .u64 0),(.int .u64 cy)] h λq s=>∃p:Int,∃o:Int,q=(.tuple ⟨[(.int .u64 p),(.int .u64 o)]⟩)/\xR (aF SS.P 177 1 [(0,(.int .u64 p))]) s λ_ j k l=>xE (bI SS.P 177 177 (.slice r z A) (sA (s.next) j k) l) l λe f g _ h=>aI (BW (eL a n c b m d x) y) B [(.slice a n c),(.slice b m d),(.func (.func 194) ⟨[]⟩ ⟨[]⟩),(.slice e f g),(.int .u64 o),(.int .i64 x),(.int .i64 (wrap .i64 ((i:Int)+1)))] h)) (au (decide (((i:Int):Int)<(m:Int))) (iP 177 (.slice b m d) (iA i) λu=>xI .u64 (aj SS.P 150 h (.pointer (some u))) λt=>FW SS 194 [(.int .u64 0),(.int .u64 t),(.int .u64 cy)] h λq s=>∃p:Int,∃o:Int,q=(.tuple ⟨[(.int .u64 p),(.int .u64 o)]⟩)/\xR (aF SS.P 177 1 [(0,(.int .u64 p))]) s λ_ j k l=>xE (bI SS.P 177 177 (.slice r z A) (sA (s.next) j k) l) l λe f g _ h=>aI (BW (eL a n c b m d x) y) B [(.slice a n c),(.slice b m d),(.func (.func 194) ⟨[]⟩ ⟨[]⟩),(.slice e f g),(.int .u64 o),(.int .i64 x),(.int .i64 (wrap .i64 ((i:Int)+1)))] h) (FW SS 194 [(.int .u64 0),(.int .u64 0),(.int .u64 cy)] h λq s=>∃p:Int,∃o:Int,q=(.tuple ⟨[(.int .u64 p),(.int .u64 o)]⟩)/\xR (aF SS.P 177 1 [(0,(.int .u64 p))]) s λ_ j k l=>xE (bI SS.P 177 177 (.slice r z A) (sA (s.next) j k) l) l λe f g _ h=>aI (BW (eL a n c b m d x) y) B [(.slice a n c),(.slice b m d),(.func (.func 194) ⟨[]⟩ ⟨[]⟩),(.slice e f g),(.int .u64 o),(.int .i64 x),(.int .i64 (wrap .i64 ((i:Int)+1)))] h))) (FW SS 174 [(.slice r z A)] h λd e=>yL d λa b c=>Q (.slice a b c) e))(B:Nat){i:Nat}{cy:Int}{r:OA}{z A:Nat}{h:ae}(C:y B i cy r z A h):LL SS kZ [1,1,1,0,1,0,0] (eL a n c b m d x i cy r z A) h (KK SS kZ [1,1,1,0,1,0] [] (EE SS kZ Q)):=
 F0 (eL a n c b m d x) y (λB i cy r z A D h C=>ai (step B i cy r z A D h C)) B C
noncomputable def js:FD:=cG Tryz.f193 [([1,1,1,0,1,0,0],[0,1,2,7,8,18,19])]
abbrev ep(a:OA)(n c:Nat)(b:OA)(m d:Nat)(e:Int)(i:Nat)(cy:Int)(r:OA)(f g:Nat):LV:=[(.slice a n c),(.slice b m d),(.func (.func 201) ⟨[]⟩ ⟨[]⟩),(.slice r f g),(.int .u64 cy),(.int .i64 e),(iA i)]
theorem GW(a:OA)(n c:Nat)(b:OA)(m d:Nat)(h:ae)(Q:VH)(f:xI .i64 (rQ true [(iA n),(iA m)]) λe=>LL SS js [1,1,1,0,1,0,0] (ep a n c b m d (wrap .i64 (e+1)) 0 0 none 0 0) h (KK SS js [1,1,1,0,1,0] [] (EE SS js Q))):FW SS 193 [(.slice a n c),(.slice b m d),(.func (.func 201) ⟨[]⟩ ⟨[]⟩)] h Q:=cQ js Tryz.func193 (ai f)
theorem tl(a:OA)(n c:Nat)(b:OA)(m d:Nat)(x:Int)(y:Nat->Nat->Int->OA->Nat->Nat->ae->Prop)(Q:VH)(step:∀(B:Nat) (i:Nat) (cy:Int) (r:OA) (z A:Nat) (D:Nat->Value) (h:ae),y B i cy r z A h->au (decide (((i:Int):Int)<x)) (au (decide (((i:Int):Int)<(n:Int))) (iP 177 (.slice a n c) (iA i) λw=>xI .u64 (aj SS.P 150 h (.pointer (some w))) λv=>au (decide (((i:Int):Int)<(m:Int))) (iP 177 (.slice b m d) (iA i) λu=>xI .u64 (aj SS.P 150 h (.pointer (some u))) λt=>FW SS 201 [(.int .u64 v),(.int .u64 t),(.int .u64 cy)] h λq s=>∃p:Int,∃o:Int,q=(.tuple ⟨[(.int .u64 p),(.int .u64 o)]⟩)/\xR (aF SS.P 177 1 [(0,(.int .u64 p))]) s λ_ j k l=>xE (bI SS.P 177 177 (.slice r z A) (sA (s.next) j k) l) l λe f g _ h=>aI (BW (ep a n c b m d x) y) B [(.slice a n c),(.slice b m d),(.func (.func 201) ⟨[]⟩ ⟨[]⟩),(.slice e f g),(.int .u64 o),(.int .i64 x),(.int .i64 (wrap .i64 ((i:Int)+1)))] h) (FW SS 201 [(.int .u64 v),(.int .u64 0),(.int .u64 cy)] h λq s=>∃p:Int,∃o:Int,q=(.tuple ⟨[(.int .u64 p),(.int .u64 o)]⟩)/\xR (aF SS.P 177 1 [(0,(.int .u64 p))]) s λ_ j k l=>xE (bI SS.P 177 177 (.slice r z A) (sA (s.next) j k) l) l λe f g _ h=>aI (BW (ep a n c b m d x) y) B [(.slice a n c),(.slice b m d),(.func (.func 201) ⟨[]⟩ ⟨[]⟩),(.slice e f g),(.int .u64 o),(.int .i64 x),(.int .i64 (wrap .i64 ((i:Int)+1)))] h)) (au (decide (((i:Int):Int)<(m:Int))) (iP 177 (.slice b m d) (iA i) λu=>xI .u64 (aj SS.P 150 h (.pointer (some u))) λt=>FW SS 201 [(.int .u64 0),(.int .u64 t),(.int .u64 cy)] h λq s=>∃p:Int,∃o:Int,q=(.tuple ⟨[(.int .u64 p),(.int .u64 o)]⟩)/\xR (aF SS.P 177 1 [(0,(.int .u64 p))]) s λ_ j k l=>xE (bI SS.P 177 177 (.slice r z A) (sA (s.next) j k) l) l λe f g _ h=>aI (BW (ep a n c b m d x) y) B [(.slice a n c),(.slice b m d),(.func (.func 201) ⟨[]⟩ ⟨[]⟩),(.slice e f g),(.int .u64 o),(.int .i64 x),(.int .i64 (wrap .i64 ((i:Int)+1)))] h) (FW SS 201 [(.int .u64 0),(.int .u64 0),(.int .u64 cy)] h λq s=>∃p:Int,∃o:Int,q=(.tuple ⟨[(.int .u64 p),(.int .u64 o)]⟩)/\xR (aF SS.P 177 1 [(0,(.int .u64 p))]) s λ_ j k l=>xE (bI SS.P 177 177 (.slice r z A) (sA (s.next) j k) l) l λe f g _ h=>aI (BW (ep a n c b m d x) y) B [(.slice a n c),(.slice b m d),(.func (.func 201) ⟨[]⟩ ⟨[]⟩),(.slice e f g),(.int .u64 o),(.int .i64 x),(.int .i64 (wrap .i64 ((i:Int)+1)))] h))) (FW SS 174 [(.slice r z A)] h λd e=>yL d λa b c=>Q (.slice a b c) e))(B:Nat){i:Nat}{cy:Int}{r:OA}{z A:Nat}{h:ae}(C:y B i cy r z A h):LL SS js [1,1,1,0,1,0,0] (ep a n c b m d x i cy r z A) h (KK SS js [1,1,1,0,1,0] [] (EE SS js Q)):=
 F0 (ep a n c b m d x) y (λB i cy r z A D h C=>ai (step B i cy r z A D h C)) B C
noncomputable def PS:FD:=cG Tryz.f185 []
theorem L4(a:OA)(n c:Nat)(b:OA)(m d:Nat)(h:ae)(Q:VH)(f:FW SS 193 [(.slice a n c),(.slice b m d),(.func (.func 194) ⟨[]⟩ ⟨[]⟩)] h λd e=>yL d λa b c=>Q (.slice a b c) e):FW SS 185 [(.slice a n c),(.slice b m d)] h Q:=cQ PS Tryz.func185 (ai f)
noncomputable def L0:FD:=cG Tryz.f188 []
theorem JE(a:OA)(n c:Nat)(b:OA)(m d:Nat)(h:ae)(Q:VH)(f:FW SS 193 [(.slice a n c),(.slice b m d),(.func (.func 201) ⟨[]⟩ ⟨[]⟩)] h λd e=>yL d λa b c=>Q (.slice a b c) e):FW SS 188 [(.slice a n c),(.slice b m d)] h Q:=cQ L0 Tryz.func188 (ai f)
noncomputable def Hk:FD:=cG Tryz.f173 []
theorem EG(a:OA)(n c:Nat)(h:ae)(Q:VH)(d:FW SS 187 [(.slice a n c)] h λb c=>yS b λa=>au (decide ((((a:LB).length:Int):Int)>1000)) (Q (.tuple ⟨[(strOf []),(.int .i64 2)]⟩) c) (Q (.tuple ⟨[(strOf a),(.int .i64 0)]⟩) c)):FW SS 173 [(.slice a n c)] h Q:=cQ Hk Tryz.func173 (ai d)
noncomputable def TW:FD:=cG Tryz.f169 []
theorem PL(l m:LB)(h:ae)(Q:VH)(u:FW SS 171 [(strOf l)] h λs t=>yB s λr=>au (!r) (Q (.int .i64 0) t) (FW SS 171 [(strOf m)] t λp q=>yB p λo=>au (!o) (Q (.int .i64 0) q) (FW SS 172 [(strOf l)] q λl n=>yL l λi j k=>FW SS 172 [(strOf m)] n λg h=>yL g λd e f=>FW SS 186 [(.slice i j k),(.slice d e f)] h λb c=>yI .i64 b λa=>Q (.int .i64 a) c))):FW SS 169 [(strOf l),(strOf m)] h Q:=cQ TW Tryz.func169 (ai u)
noncomputable def TU:FD:=cG Tryz.f168 []
theorem PJ(l m:LB)(h:ae)(Q:VH)(z:FW SS 171 [(strOf l)] h λx y=>yB x λw=>au (!w) (Q (.tuple ⟨[(strOf []),(.int .i64 1)]⟩) y) (FW SS 171 [(strOf m)] y λu v=>yB u λt=>au (!t) (Q (.tuple ⟨[(strOf []),(.int .i64 1)]⟩) v) (FW SS 172 [(strOf l)] v λr s=>yL r λo p q=>FW SS 172 [(strOf m)] s λm n=>yL m λj k l=>FW SS 185 [(.slice o p q),(.slice j k l)] n λh i=>yL h λe f g=>FW SS 173 [(.slice e f g)] i λc d=>∃b:LB,∃a:Int,c=(.tuple ⟨[(strOf b),(.int .i64 a)]⟩)/\Q (.tuple ⟨[(strOf b),(.int .i64 a)]⟩) d))):FW SS 168 [(strOf l),(strOf m)] h Q:=cQ TU Tryz.func168 (ai z)
noncomputable def TY:FD:=cG Tryz.f170 []
theorem PT(l m:LB)(h:ae)(Q:VH)(B:FW SS 171 [(strOf l)] h λz A=>yB z λy=>au (!y) (Q (.tuple ⟨[(strOf []),(.int .i64 1)]⟩) A) (FW SS 171 [(strOf m)] A λw x=>yB w λv=>au (!v) (Q (.tuple ⟨[(strOf []),(.int .i64 1)]⟩) x) (FW SS 172 [(strOf l)] x λt u=>yL t λq r s=>FW SS 172 [(strOf m)] u λo p=>yL o λl m n=>FW SS 186 [(.slice q r s),(.slice l m n)] p λj k=>yI .i64 j λi=>au (decide ((i:Int)<0)) (Q (.tuple ⟨[(strOf []),(.int .i64 4)]⟩) k) (FW SS 188 [(.slice q r s),(.slice l m n)] k λg h=>yL g λd e f=>FW SS 187 [(.slice d e f)] h λb c=>yS b λa=>Q (.tuple ⟨[(strOf a),(.int .i64 0)]⟩) c)))):FW SS 170 [(strOf l),(strOf m)] h Q:=cQ TY Tryz.func170 (ai B)
noncomputable def fb:FD:=cG Tryz.f143 [([1,1,1,1,0,1,0,0],[6,7,8,33,34]),([1,1,1,1,0,1,0,0,1,1,0,0,1,1,1,0,0],[6,7,8,9,10,33,34,39,40])]
abbrev gR(a:OA)(n c:Nat)(b:OA)(k d:Nat)(t:OA)(g f:Nat)(e:Int)(i:Nat):LV:=[(.slice a n c),(.slice b k d),(.slice t g f),(.int .i64 e),(iA i)]
abbrev jw(a:OA)(n c:Nat)(b:OA)(k d:Nat)(t:OA)(h g:Nat)(f:Int)(i:Nat)(e:Int)(j:Nat)(cy:Int):LV:=[(.slice a n c),(.slice b k d),(.slice t h g),(iA i),(.int .u64 cy),(.int .i64 f),(iA i),(.int .i64 e),(iA j)]
theorem PR(l m:LB)(h:ae)(Q:VH)(u:FW SS 171 [(strOf l)] h λs t=>yB s λr=>au (!r) (Q (.tuple ⟨[(strOf []),(.int .i64 1)]⟩) t) (FW SS 171 [(strOf m)] t λp q=>yB p λo=>au (!o) (Q (.tuple ⟨[(strOf []),(.int .i64 1)]⟩) q) (FW SS 172 [(strOf l)] q λl n=>yL l λi j k=>FW SS 172 [(strOf m)] n λg h=>yL g λd e f=>xR (ch SS.P 177 (.int .i64 (wrap .i64 (wrap .i64 ((j:Int)+(e:Int))+1))) (.int .i64 (wrap .i64 (wrap .i64 ((j:Int)+(e:Int))+1)))) h λ_ a b c=>LL SS fb [1,1,1,1,0,1,0,0] (gR i j k d e f (some ⟨h.next,0,none⟩) a b (j:Int) 0) c (KK SS fb [1,1,1,1,0,1,0] [] (EE SS fb Q))))):FW SS 143 [(strOf l),(strOf m)] h Q:=cQ fb Tryz.func143 (ai u)
theorem xD(l m:LB)(a:OA)(n c:Nat)(b:OA)(k d:Nat)(t:OA)(r q:Nat)(j:Int)(p:Nat->Nat->ae->Prop)(Q:VH)(step:∀(o:Nat) (i:Nat) (u:Nat->Value) (h:ae),p o i h->au (decide (((i:Int):Int)<j)) (LL SS fb [1,1,1,1,0,1,0,0,1,1,0,0,1,1,1,0,0] (jw a n c b k d t r q j i (wrap .i64 ((k:Int)+1)) 0 0) h (KK SS fb [1,1,0,0,1,1,1,0] [1,1,1,1,0,1,0,0] (RR fb [1,1,1,1,0,1,0,0] (fj (gR a n c b k d t r q j) p) o (KK SS fb [1,1,1,1,0,1,0] [] (EE SS fb Q))))) (FW SS 174 [(.slice t r q)] h λh i=>yL h λe f g=>FW SS 173 [(.slice e f g)] i λc d=>∃b:LB,∃a:Int,c=(.tuple ⟨[(strOf b),(.int .i64 a)]⟩)/\Q (.tuple ⟨[(strOf b),(.int .i64 a)]⟩) d))(o:Nat){i:Nat}{h:ae}(s:p o i h):LL SS fb [1,1,1,1,0,1,0,0] (gR a n c b k d t r q j i) h (KK SS fb [1,1,1,1,0,1,0] [] (EE SS fb Q)):=
 dg (gR a n c b k d t r q j) p (λo i u h s=>ai (step o i u h s)) o s
theorem xH(l m:LB)(a:OA)(n c:Nat)(b:OA)(k d:Nat)(t:OA)(y x:Nat)(v:Int)(A:Nat->Nat->ae->Prop)(C i:Nat)(u:Int)(z:Nat->Nat->Int->ae->Prop)(Q:VH)(step:∀(w:Nat) (j:Nat) (cy:Int) (D:Nat->Value) (h:ae),z w j cy h->au (decide (((j:Int):Int)<u)) (iP 177 (.slice t y x) (.int .i64 (wrap .i64 ((i:Int)+(j:Int)))) λs=>xI .u64 (aj SS.P 150 h (.pointer (some s))) λr=>au (decide (((j:Int):Int)<(k:Int))) (iP 177 (.slice a n c) (iA i) λq=>xI .u64 (aj SS.P 150 (room h 12) (.pointer (some q))) λp=>iP 177 (.slice b k d) (iA j) λo=>xI .u64 (aj SS.P 150 (room h 12) (.pointer (some o))) λm=>xI .u64 (ay SS.P .rem 150 (.int .u64 (wrap .u64 (wrap .u64 (r+cy)+wrap .u64 (p*m)))) (.int .u64 1000000000)) λl=>xI .u64 (ay SS.P .quo 150 (.int .u64 (wrap .u64 (wrap .u64 (r+cy)+wrap .u64 (p*m)))) (.int .u64 1000000000)) λg=>iP 177 (.slice t y x) (.int .i64 (wrap .i64 ((i:Int)+(j:Int)))) λf=>xU (ah SS.P 150 (.pointer (some f)) (.int .u64 l) (room h 12)) (room h 12) λ_ e=>aI (qP (jw a n c b k d t y x v i u) z) w [(.slice a n c),(.slice b k d),(.slice t y x),(iA i),(.int .u64 g),(.int .i64 v),(iA i),(.int .i64 u),(.int .i64 (wrap .i64 ((j:Int)+1)))] e) (xI .u64 (ay SS.P .rem 150 (.int .u64 (wrap .u64 (r+cy))) (.int .u64 1000000000)) λl=>xI .u64 (ay SS.P .quo 150 (.int .u64 (wrap .u64 (r+cy))) (.int .u64 1000000000)) λg=>iP 177 (.slice t y x) (.int .i64 (wrap .i64 ((i:Int)+(j:Int)))) λf=>xU (ah SS.P 150 (.pointer (some f)) (.int .u64 l) h) h λ_ e=>aI (qP (jw a n c b k d t y x v i u) z) w [(.slice a n c),(.slice b k d),(.slice t y x),(iA i),(.int .u64 g),(.int .i64 v),(iA i),(.int .i64 u),(.int .i64 (wrap .i64 ((j:Int)+1)))] e)) (aI (fj (gR a n c b k d t y x v) A) C [(.slice a n c),(.slice b k d),(.slice t y x),(.int .i64 v),(.int .i64 (wrap .i64 ((i:Int)+1)))] h))(w:Nat){j:Nat}{cy:Int}{h:ae}(B:z w j cy h):LL SS fb [1,1,1,1,0,1,0,0,1,1,0,0,1,1,1,0,0] (jw a n c b k d t y x v i u j cy) h (KK SS fb [1,1,0,0,1,1,1,0] [1,1,1,1,0,1,0,0] (RR fb [1,1,1,1,0,1,0,0] (fj (gR a n c b k d t y x v) A) C (KK SS fb [1,1,1,1,0,1,0] [] (EE SS fb Q)))):=
 nu (jw a n c b k d t y x v i u) z (λw j cy D h B=>ai (step w j cy D h B)) w B
variable{x:List Nat}{y:List Nat}
theorem Uc(x y z:Nat)(f:x<BB)(i:y<BB)(g:z<=1)(h:ae):FW SS 194 [.int .u64 (x:Int),.int .u64 (y:Int),.int .u64 (z:Int)] h (λv c=>v = .tuple ⟨[uv (aO BB x y z).1,uv (aO BB x y z).2]⟩/\c=h):=by
 have e:BB=1000000000:=rfl;have a:wrap .u64 ((x:Int)+(y:Int))=((x+y:Nat):Int):=by rw[<-Int.natCast_add];exact gL (by omega) (by omega)
 have d:wrap .u64 (((x+y:Nat):Int)+(z:Int))=((x+y+z:Nat):Int):=by rw[<-Int.natCast_add];exact gL (by omega) (by omega)
 refine Ub _ _ _ h _ ?_;rw[a,d];refine⟨_,gK (b:=BB) (by omega) (by decide),_,pS (b:=BB) (by omega) (by omega) (by decide),?_,rfl⟩;unfold uv aO;rw[natCast_emod,natCast_ediv]
theorem PF(x y z:Nat)(j:x<BB)(m:y<BB)(l:z<=1)(h:ae):FW SS 201 [.int .u64 (x:Int),.int .u64 (y:Int),.int .u64 (z:Int)] h (λv f=>v = .tuple ⟨[uv (bT BB x y z).1,uv (bT BB x y z).2]⟩/\f=h):=by
 have i:BB=1000000000:=rfl;have a:x+BB-y-z<2*BB:=by omega
 have c:wrap .u64 ((x:Int)+1000000000)=((x+BB:Nat):Int):=by rw[gL (by omega) (by omega)];omega
 have e:wrap .u64 (((x+BB:Nat):Int)-(y:Int))=((x+BB-y:Nat):Int):=by rw[gL (by omega) (by omega)];omega
 have d:wrap .u64 (((x+BB-y:Nat):Int)-(z:Int))=((x+BB-y-z:Nat):Int):=by rw[gL (by omega) (by omega)];omega
 refine PE _ _ _ h _ ?_;rw[c,e,d];refine⟨_,gK (b:=BB) (by omega) (by decide),_,pS (b:=BB) (by omega) (by omega) (by decide),?_,rfl⟩;unfold uv bT;dsimp only;generalize x+BB-y-z=q at*;have k:q/BB<=1:=by
  have:q/BB<2:=Nat.div_lt_of_lt_mul (by omega);omega
 have g:wrap .u64 (1-(q:Int)/(BB:Int))=((1-q/BB:Nat):Int):=by
  rw[<-natCast_ediv];clear a c e d;generalize q/BB=r at*;rw[gL (by omega) (by omega)];omega
 rw[g,natCast_emod]
theorem Ye{p q c:Nat}(b:p<BB)(a:q<BB)(d:c<=1):(aO BB p q c).2<=1:=by
 show(p+q+c)/BB<=1;have:(p+q+c)/BB<2:=Nat.div_lt_of_lt_mul (by omega);omega
theorem TN{p q c:Nat}(b:p<BB)(a:q<BB)(d:c<=1):(bT BB p q c).2<=1:=(nX gH b a d).2
theorem I7{b:Option Addr}{c:Nat}(W:Rd h 150 (.slice a n c) (x.map uv))(J:Rd h 150 (.slice b m k) (y.map uv))(S:∀k∈x,k<BB)(hy:∀k∈y,k<BB)(x2:x.length<=10000)(x4:y.length<=10000)(w:Wf h){R:Nat}(E:dQ (bk (aO BB) x y 0 (max x.length y.length+1) 0)=aW BB R):
  FW SS 193 [.slice a n c,.slice b m k,.func (.func 194) ⟨[]⟩ ⟨[]⟩] h (iV h 150 (bl R)):=by
 have hn:n=x.length:=by have:=W.len;rwa[lM]at this
 have hm:m=y.length:=by have:=J.len;rwa[lM]at this
 rw[<-hn,<-hm]at E;have X:∀j,eJ (aO BB) x y 0 0 j<=1:=by
  intro j
  induction j with
  |zero=>exact Nat.zero_le _
  |succ j ih=>exact Ye (aZ (by decide) S _) (aZ (by decide) hy _) ih
 have x3:n<=max n m/\m<=max n m:=⟨le_max_left _ _,le_max_right _ _⟩
 have x1:max n m<=10000:=max_le.2 ⟨by omega,by omega⟩;have K:(if(m:Int)>(n:Int)then(m:Int)else(n:Int))=((max n m:Nat):Int):=by split<;>omega
 generalize max n m=N at*;have L:=uW a n c b m k ((N:Int)+1) (λz i cy r Q T g=>i<=N+1/\z=N+1-i/\cy=(eJ (aO BB) x y 0 0 i:Nat)/\ej h g 150 (.slice r Q T) ((bk (aO BB) x y 0 i 0).map uv)/\Ok h g) (iV h 150 (bl R)) (by
  intro z i cy r Q T;intros;rename_i g hi;obtain⟨h1,h2,rfl,A,o⟩:=hi;have P:wrap .i64 ((i:Int)+1)=((i+1:Nat):Int):=by rw[aB (by omega) (by omega)];omega
  rw[P];have l:(bk (aO BB) x y 0 i 0).length=i:=eV _ _ _ _ _ _;have e:=hW (aO BB) x y i 0 0;rw[Nat.zero_add]at e;have d:eJ (aO BB) x y 0 0 (i+1)=(aO BB (x.getD i 0) (y.getD i 0) (eJ (aO BB) x y 0 0 i)).2:=by
   show(aO BB (x.getD (0+i) 0) (y.getD (0+i) 0) _).2=_;rw[Nat.zero_add]
  have Y:=X i;have t:=Uc (x.getD i 0) (y.getD i 0) (eJ (aO BB) x y 0 0 i) (aZ (by decide) S _) (aZ (by decide) hy _) Y g;refine aa (λD=>?_) (λD=>?_)
  ·have D:=dT D;refine aa (λC=>?_) (λC=>?_)
   ·have C:=dT C;obtain⟨q,O,g3⟩:=Fc (W.ok o) (i:=(i:Int)) (by omega) (by omega);rw[toNat_natCast]at g3;refine⟨q,O,_,g3,aa (λf=>?_) (λf=>?_)⟩
    ·have f:=dT f;obtain⟨I,F,B⟩:=Fc (J.ok o) (i:=(i:Int)) (by omega) (by omega);rw[toNat_natCast]at B;refine⟨I,F,_,B,t.mono ?_⟩;rintro _ _ ⟨rfl,rfl⟩;refine⟨_,_,rfl,_,_,_,sK _,?_⟩;obtain⟨b,m,k,u,s,G,p,v⟩:=mc w o A ((aO BB (x.getD i 0) (y.getD i 0) (eJ (aO BB) x y 0 0 i)).1:Nat) (by rw[lM,l];omega);refine⟨b,m,k,u,s,oW (z-1) (by omega) ⟨by omega,by omega,by rw[d],?_,v⟩⟩;rw[e,map_append];exact p
    ·have f:=dF f;have H:y.getD i 0=0:=by rw[gD,getElem?_eq_none (by omega)];rfl
     rw[H]at t e d;refine t.mono ?_;rintro _ _ ⟨rfl,rfl⟩;refine⟨_,_,rfl,_,_,_,sK _,?_⟩;obtain⟨b,m,k,u,s,G,p,v⟩:=mc w o A ((aO BB (x.getD i 0) 0 (eJ (aO BB) x y 0 0 i)).1:Nat) (by rw[lM,l];omega);refine⟨b,m,k,u,s,oW (z-1) (by omega) ⟨by omega,by omega,by rw[d],?_,v⟩⟩;rw[e,map_append];exact p
   ·have C:=dF C;have x0:x.getD i 0=0:=by rw[gD,getElem?_eq_none (by omega)];rfl
    rw[x0]at t e d;refine aa (λf=>?_) (λf=>?_)
    ·have f:=dT f;obtain⟨I,F,B⟩:=Fc (J.ok o) (i:=(i:Int)) (by omega) (by omega);rw[toNat_natCast]at B;refine⟨I,F,_,B,t.mono ?_⟩;rintro _ _ ⟨rfl,rfl⟩;refine⟨_,_,rfl,_,_,_,sK _,?_⟩;obtain⟨b,m,k,u,s,G,p,v⟩:=mc w o A ((aO BB 0 (y.getD i 0) (eJ (aO BB) x y 0 0 i)).1:Nat) (by rw[lM,l];omega);refine⟨b,m,k,u,s,oW (z-1) (by omega) ⟨by omega,by omega,by rw[d],?_,v⟩⟩;rw[e,map_append];exact p
    ·have f:=dF f;have H:y.getD i 0=0:=by rw[gD,getElem?_eq_none (by omega)];rfl
     rw[H]at t e d;refine t.mono ?_;rintro _ _ ⟨rfl,rfl⟩;refine⟨_,_,rfl,_,_,_,sK _,?_⟩;obtain⟨b,m,k,u,s,G,p,v⟩:=mc w o A ((aO BB 0 0 (eJ (aO BB) x y 0 0 i)).1:Nat) (by rw[lM,l];omega);refine⟨b,m,k,u,s,oW (z-1) (by omega) ⟨by omega,by omega,by rw[d],?_,v⟩⟩;rw[e,map_append];exact p
  ·have D:=dF D;obtain rfl:i=N+1:=by omega
   refine(rS A (by rw[l];omega)).mono ?_;rintro _ O ⟨V,U,M,rfl,Z,rfl⟩;rw[E]at Z;exact⟨V,U,M,rfl,V,U,M,rfl,Z,o⟩)
 refine I6 a n c b m k h _ ⟨_,tx _ _ _,?_⟩;have hw:wrap .i64 ((N:Int)+1)=(N:Int)+1:=aB (by omega) (by omega);dsimp only;rw[K,hw];exact L (N+1) (i:=0) ⟨by omega,by omega,rfl,.inl ⟨rfl,rfl⟩,Ok.refl w⟩
theorem GX{b:Option Addr}{c:Nat}(W:Rd h 150 (.slice a n c) (x.map uv))(J:Rd h 150 (.slice b m k) (y.map uv))(S:∀k∈x,k<BB)(hy:∀k∈y,k<BB)(x2:x.length<=10000)(x4:y.length<=10000)(w:Wf h){R:Nat}(E:dQ (bk (bT BB) x y 0 (max x.length y.length+1) 0)=aW BB R):
  FW SS 193 [.slice a n c,.slice b m k,.func (.func 201) ⟨[]⟩ ⟨[]⟩] h (iV h 150 (bl R)):=by
 have hn:n=x.length:=by have:=W.len;rwa[lM]at this
 have hm:m=y.length:=by have:=J.len;rwa[lM]at this
 rw[<-hn,<-hm]at E;have X:∀j,eJ (bT BB) x y 0 0 j<=1:=by
  intro j
  induction j with
  |zero=>exact Nat.zero_le _
  |succ j ih=>exact TN (aZ (by decide) S _) (aZ (by decide) hy _) ih
 have x3:n<=max n m/\m<=max n m:=⟨le_max_left _ _,le_max_right _ _⟩
 have x1:max n m<=10000:=max_le.2 ⟨by omega,by omega⟩;have K:(if(m:Int)>(n:Int)then(m:Int)else(n:Int))=((max n m:Nat):Int):=by split<;>omega
 generalize max n m=N at*;have L:=tl a n c b m k ((N:Int)+1) (λz i cy r Q T g=>i<=N+1/\z=N+1-i/\cy=(eJ (bT BB) x y 0 0 i:Nat)/\ej h g 150 (.slice r Q T) ((bk (bT BB) x y 0 i 0).map uv)/\Ok h g) (iV h 150 (bl R)) (by
  intro z i cy r Q T;intros;rename_i g hi;obtain⟨h1,h2,rfl,A,o⟩:=hi;have P:wrap .i64 ((i:Int)+1)=((i+1:Nat):Int):=by rw[aB (by omega) (by omega)];omega
  rw[P];have l:(bk (bT BB) x y 0 i 0).length=i:=eV _ _ _ _ _ _;have e:=hW (bT BB) x y i 0 0;rw[Nat.zero_add]at e;have d:eJ (bT BB) x y 0 0 (i+1)=(bT BB (x.getD i 0) (y.getD i 0) (eJ (bT BB) x y 0 0 i)).2:=by
   show(bT BB (x.getD (0+i) 0) (y.getD (0+i) 0) _).2=_;rw[Nat.zero_add]
  have Y:=X i;have t:=PF (x.getD i 0) (y.getD i 0) (eJ (bT BB) x y 0 0 i) (aZ (by decide) S _) (aZ (by decide) hy _) Y g;refine aa (λD=>?_) (λD=>?_)
  ·have D:=dT D;refine aa (λC=>?_) (λC=>?_)
   ·have C:=dT C;obtain⟨q,O,g3⟩:=Fc (W.ok o) (i:=(i:Int)) (by omega) (by omega);rw[toNat_natCast]at g3;refine⟨q,O,_,g3,aa (λf=>?_) (λf=>?_)⟩
    ·have f:=dT f;obtain⟨I,F,B⟩:=Fc (J.ok o) (i:=(i:Int)) (by omega) (by omega);rw[toNat_natCast]at B;refine⟨I,F,_,B,t.mono ?_⟩;rintro _ _ ⟨rfl,rfl⟩;refine⟨_,_,rfl,_,_,_,sK _,?_⟩;obtain⟨b,m,k,u,s,G,p,v⟩:=mc w o A ((bT BB (x.getD i 0) (y.getD i 0) (eJ (bT BB) x y 0 0 i)).1:Nat) (by rw[lM,l];omega);refine⟨b,m,k,u,s,oW (z-1) (by omega) ⟨by omega,by omega,by rw[d],?_,v⟩⟩;rw[e,map_append];exact p
    ·have f:=dF f;have H:y.getD i 0=0:=by rw[gD,getElem?_eq_none (by omega)];rfl
     rw[H]at t e d;refine t.mono ?_;rintro _ _ ⟨rfl,rfl⟩;refine⟨_,_,rfl,_,_,_,sK _,?_⟩;obtain⟨b,m,k,u,s,G,p,v⟩:=mc w o A ((bT BB (x.getD i 0) 0 (eJ (bT BB) x y 0 0 i)).1:Nat) (by rw[lM,l];omega);refine⟨b,m,k,u,s,oW (z-1) (by omega) ⟨by omega,by omega,by rw[d],?_,v⟩⟩;rw[e,map_append];exact p
   ·have C:=dF C;have x0:x.getD i 0=0:=by rw[gD,getElem?_eq_none (by omega)];rfl
    rw[x0]at t e d;refine aa (λf=>?_) (λf=>?_)
    ·have f:=dT f;obtain⟨I,F,B⟩:=Fc (J.ok o) (i:=(i:Int)) (by omega) (by omega);rw[toNat_natCast]at B;refine⟨I,F,_,B,t.mono ?_⟩;rintro _ _ ⟨rfl,rfl⟩;refine⟨_,_,rfl,_,_,_,sK _,?_⟩;obtain⟨b,m,k,u,s,G,p,v⟩:=mc w o A ((bT BB 0 (y.getD i 0) (eJ (bT BB) x y 0 0 i)).1:Nat) (by rw[lM,l];omega);refine⟨b,m,k,u,s,oW (z-1) (by omega) ⟨by omega,by omega,by rw[d],?_,v⟩⟩;rw[e,map_append];exact p
    ·have f:=dF f;have H:y.getD i 0=0:=by rw[gD,getElem?_eq_none (by omega)];rfl
     rw[H]at t e d;refine t.mono ?_;rintro _ _ ⟨rfl,rfl⟩;refine⟨_,_,rfl,_,_,_,sK _,?_⟩;obtain⟨b,m,k,u,s,G,p,v⟩:=mc w o A ((bT BB 0 0 (eJ (bT BB) x y 0 0 i)).1:Nat) (by rw[lM,l];omega);refine⟨b,m,k,u,s,oW (z-1) (by omega) ⟨by omega,by omega,by rw[d],?_,v⟩⟩;rw[e,map_append];exact p
  ·have D:=dF D;obtain rfl:i=N+1:=by omega
   refine(rS A (by rw[l];omega)).mono ?_;rintro _ O ⟨V,U,M,rfl,Z,rfl⟩;rw[E]at Z;exact⟨V,U,M,rfl,V,U,M,rfl,Z,o⟩)
 refine GW a n c b m k h _ ⟨_,tx _ _ _,?_⟩;have hw:wrap .i64 ((N:Int)+1)=(N:Int)+1:=aB (by omega) (by omega);dsimp only;rw[K,hw];exact L (N+1) (i:=0) ⟨by omega,by omega,rfl,.inl ⟨rfl,rfl⟩,Ok.refl w⟩
theorem L5{b:Option Addr}{c:Nat}(v:Rd h 150 (.slice a n c) (bl i))(s:Rd h 150 (.slice b m k) (bl j))(d:(aW BB i).length<=10000)(l:(aW BB j).length<=10000)(w:Wf h):FW SS 185 [.slice a n c,.slice b m k] h (iV h 150 (bl (i+j))):=by
 have f:=dq gH i;have e:=dq gH j;refine L4 a n c b m k h _ ((I7 v s f e d l w (R:=i+j) ?_).mono ?_)
 ·have y:=le_max_left (aW BB i).length (aW BB j).length;have z:=le_max_right (aW BB i).length (aW BB j).length;rw[kX gH (jq (λp q c=>mod_lt _ (by decide)) _ _ _ 0 0),yU gH f e _ 0 0 (by omega) (by omega) (by omega) (by omega),drop_zero,drop_zero,cm gH,cm gH];rfl
 ·rintro _ g ⟨u,t,r,rfl,o,x⟩;exact⟨_,_,_,rfl,u,t,r,rfl,o,x⟩
theorem JF{b:Option Addr}{c:Nat}(y:Rd h 150 (.slice a n c) (bl i))(u:Rd h 150 (.slice b m k) (bl j))(d:j<=i)(e:(aW BB i).length<=10000)(r:(aW BB j).length<=10000)(w:Wf h):FW SS 188 [.slice a n c,.slice b m k] h (iV h 150 (bl (i-j))):=by
 have l:=dq gH i;have f:=dq gH j;refine JE a n c b m k h _ ((GX y u l f e r w (R:=i-j) ?_).mono ?_)
 ·have A:=le_max_left (aW BB i).length (aW BB j).length;have B:=le_max_right (aW BB i).length (aW BB j).length;rw[kX gH (jq (λp q c=>mod_lt _ (by decide)) _ _ _ 0 0)];have t:=Ca gH l f (max (aW BB i).length (aW BB j).length+1) 0 0 (by omega) (by omega) (by omega) (by rw[drop_zero,drop_zero,cm gH,cm gH];exact d);rw[drop_zero,drop_zero,cm gH,cm gH]at t;congr 1;omega
 ·rintro _ g ⟨x,v,s,rfl,o,z⟩;exact⟨_,_,_,rfl,x,v,s,rfl,o,z⟩
def oZ(X:Nat):Value:=if 1000<(ag X).length then two [] 2 else two (ag X) 0
def A9(a b:List UInt8):Value:=if Num.valid a=true/\Num.valid b=true then oZ (Num.val a+Num.val b)else two [] 1
def Bh(a b:List UInt8):Value:=if Num.valid a=true/\Num.valid b=true then oZ (Num.val a*Num.val b)else two [] 1
def Bp(a b:List UInt8):Value:=if Num.valid a=true/\Num.valid b=true then(if Num.val a<Num.val b then two [] 4 else two (ag (Num.val a-Num.val b)) 0)else two [] 1
def Bb(a b:List UInt8):Value:=if Num.valid a=true/\Num.valid b=true then .int .i64 (eG (Num.val a) (Num.val b))else .int .i64 0
theorem vC{c:Nat}(f:Rd h 150 (.slice a n c) (bl m))(d:(aW BB m).length<=10000)(t:nO h)(w:Wf h):FW SS 173 [.slice a n c] h (λv i=>v=oZ m/\Ok h i):=by
 refine EG a n c h _ ((pa f d t w).mono ?_);rintro _ g ⟨rfl,e⟩;refine⟨_,rfl,aa (λb=>?_) (λb=>?_)⟩
 ·have b:=dT b;refine⟨?_,e⟩;unfold oZ;rw[if_pos (by omega)];rfl
 ·have b:=dF b;refine⟨?_,e⟩;unfold oZ;rw[if_neg (by omega)];rfl
structure adA(a b:List UInt8)(X Y:Nat):Prop where
 va:Num.valid a=true
 vb:Num.valid b=true
 ea:Num.val a=X
 eb:Num.val b=Y
 lx:(aW BB X).length<=112
 ly:(aW BB Y).length<=112
theorem YS{a b:List UInt8}(c:Num.valid a=true)(d:Num.valid b=true):adA a b (Num.val a) (Num.val b):=by
 obtain⟨X,_,f,g⟩:=cx c;obtain⟨Y,_,e,h⟩:=cx d;exact⟨c,d,rfl,rfl,by rw[g];exact hO f,by rw[h];exact hO e⟩
theorem kx{a:List UInt8}(c:Num.valid a=true){h:ae}(w:Wf h):FW SS 172 [strOf a] h (iV h 150 (bl (Num.val a))):=by
 have b:=(gh.1 c)
 exact rR a b.1.2.1 (Nat.le_trans b.2 (by omega)) h w
theorem YR(c:(aW BB n).length<=112)(d:(aW BB m).length<=112):(aW BB (n+m)).length<=10000:=by
 have a:=fq (dq gH n);have b:=fq (dq gH m);rw[cm gH]at a b;have e:=lt_of_lt_of_le a (pow_le_pow_right (show 0<BB by decide) c);have f:=lt_of_lt_of_le b (pow_le_pow_right (show 0<BB by decide) d);refine Nat.le_trans (lK gH (k:=113) ?_) (by omega);rw[pow_succ];have g:2*BB^112<=BB^112*BB:=by rw[Nat.mul_comm];exact Nat.mul_le_mul_left _ (by decide)
 generalize BB^112=M at*;omega
theorem VJ(h:n<=m):(aW BB n).length<=(aW BB m).length:=Nat.le_of_not_lt λg=>absurd (lN gH g) (Nat.not_lt.2 h)
theorem xv(X:Nat):∃l n,oZ X=two l n:=by
 unfold oZ;split<;>exact⟨_,_,rfl⟩
theorem yC(a:∃l n,v=two l n){K:Value->Prop}(b:K v):∃(l:List UInt8)(n:Int),v = .tuple ⟨[strOf l,.int .i64 n]⟩/\K (.tuple ⟨[strOf l,.int .i64 n]⟩):=by
 obtain⟨l,n,rfl⟩:=a;exact⟨l,n,rfl,b⟩
theorem Nz{x:Nat}(h:eG x n<0):x<n:=by
 unfold eG at h;split at h<;>omega
theorem Ny{x:Nat}(h:¬eG x n<0):n<=x:=by
 unfold eG at h;split at h<;>omega
theorem PK(a b:List UInt8){h:ae}(t:nO h)(w:Wf h):FW SS 168 [strOf a,strOf b] h (λv r=>v=A9 a b/\Ok h r):=by
 refine PJ a b h _ ((dI a h).mono ?_);rintro _ l ⟨rfl,j⟩;obtain rfl:h=l:=j.symm;refine⟨_,rfl,aa (λg=>?_) (λg=>?_)⟩
 ·have g:Num.valid a=false:=by simpa using g
  refine⟨?_,Ok.refl w⟩;unfold A9;rw[if_neg (λe=>by rw[e.1]at g;cases g)];rfl
 have g:Num.valid a=true:=by simpa using g
 refine(dI b h).mono ?_;rintro _ l ⟨rfl,j⟩;obtain rfl:h=l:=j.symm;refine⟨_,rfl,aa (λc=>?_) (λc=>?_)⟩
 ·have c:Num.valid b=false:=by simpa using c
  refine⟨?_,Ok.refl w⟩;unfold A9;rw[if_neg (λe=>by rw[e.2]at c;cases c)];rfl
 have c:Num.valid b=true:=by simpa using c
 have m:=YS g c;have A:=m.lx;have z:=m.ly;refine(kx g w).mono ?_;rintro _ G ⟨N,C,J,rfl,o,f⟩;refine⟨_,_,_,rfl,(kx c f.wf).mono ?_⟩;rintro _ H ⟨E,D,M,rfl,y,i⟩;refine⟨_,_,_,rfl,?_⟩;have x:A9 a b=oZ (Num.val a+Num.val b):=by unfold A9;rw[if_pos ⟨g,c⟩]
 rw[x];have p:=o.rd.ok i;have q:=y.rd;have k:=f.trans i;refine(L5 p q (by omega) (by omega) k.wf).mono ?_;rintro _ F ⟨I,B,L,rfl,s,d⟩;refine⟨_,_,_,rfl,(vC s.rd (YR A z) (t.ok (k.trans d)) d.wf).mono ?_⟩;rintro _ u ⟨rfl,n⟩;exact yC (K:=λv=>v=oZ (Num.val a+Num.val b)/\Ok h u) (xv _) ⟨rfl,(k.trans d).trans n⟩
theorem FF(a b:List UInt8){h:ae}(t:nO h)(w:Wf h):FW SS 170 [strOf a,strOf b] h (λv x=>v=Bp a b/\Ok h x):=by
 refine PT a b h _ ((dI a h).mono ?_);rintro _ o ⟨rfl,n⟩;obtain rfl:h=o:=n.symm;refine⟨_,rfl,aa (λg=>?_) (λg=>?_)⟩
 ·have g:Num.valid a=false:=by simpa using g
  refine⟨?_,Ok.refl w⟩;unfold Bp;rw[if_neg (λe=>by rw[e.1]at g;cases g)];rfl
 have g:Num.valid a=true:=by simpa using g
 refine(dI b h).mono ?_;rintro _ o ⟨rfl,n⟩;obtain rfl:h=o:=n.symm;refine⟨_,rfl,aa (λc=>?_) (λc=>?_)⟩
 ·have c:Num.valid b=false:=by simpa using c
  refine⟨?_,Ok.refl w⟩;unfold Bp;rw[if_neg (λe=>by rw[e.2]at c;cases c)];rfl
 have c:Num.valid b=true:=by simpa using c
 have r:=YS g c;have P:=r.lx;have N:=r.ly;refine(kx g w).mono ?_;rintro _ G ⟨O,C,J,rfl,u,k⟩;refine⟨_,_,_,rfl,(kx c k.wf).mono ?_⟩;rintro _ H ⟨E,D,M,rfl,A,l⟩;refine⟨_,_,_,rfl,?_⟩;have z:Bp a b=(if Num.val a<Num.val b then two [] 4 else two (ag (Num.val a-Num.val b)) 0):=by unfold Bp;rw[if_pos ⟨g,c⟩]
 rw[z];have p:=u.rd.ok l;have q:=A.rd;have j:=k.trans l;refine(qm p q (by omega) j.wf).mono ?_;rintro _ F ⟨rfl,d⟩;refine⟨_,rfl,aa (λf=>?_) (λf=>?_)⟩
 ·have f:=dT f;rw[if_pos (Nz f)];exact⟨rfl,j.trans d⟩
 ·have f:=dF f;have m:=Ny f;rw[if_neg (Nat.not_lt.2 m)];refine(JF (p.ok d) (q.ok d) m (by omega) (by omega) d.wf).mono ?_;rintro _ L ⟨I,B,K,rfl,y,i⟩;refine⟨_,_,_,rfl,(pa y.rd (Nat.le_trans (VJ (Nat.sub_le _ _)) (by omega)) (t.ok ((j.trans d).trans i)) i.wf).mono ?_⟩;rintro _ Q ⟨rfl,s⟩;exact⟨_,rfl,rfl,((j.trans d).trans i).trans s⟩
theorem PM(a b:List UInt8){h:ae}(t:nO h)(w:Wf h):FW SS 169 [strOf a,strOf b] h (λv q=>v=Bb a b/\Ok h q):=by
 refine PL a b h _ ((dI a h).mono ?_);rintro _ j ⟨rfl,i⟩;obtain rfl:h=j:=i.symm;refine⟨_,rfl,aa (λg=>?_) (λg=>?_)⟩
 ·have g:Num.valid a=false:=by simpa using g
  refine⟨?_,Ok.refl w⟩;unfold Bb;rw[if_neg (λe=>by rw[e.1]at g;cases g)]
 have g:Num.valid a=true:=by simpa using g
 refine(dI b h).mono ?_;rintro _ j ⟨rfl,i⟩;obtain rfl:h=j:=i.symm;refine⟨_,rfl,aa (λc=>?_) (λc=>?_)⟩
 ·have c:Num.valid b=false:=by simpa using c
  refine⟨?_,Ok.refl w⟩;unfold Bb;rw[if_neg (λe=>by rw[e.2]at c;cases c)]
 have c:Num.valid b=true:=by simpa using c
 have l:=YS g c;have G:=l.lx;have E:=l.ly;refine(kx g w).mono ?_;rintro _ A ⟨F,u,C,rfl,n,d⟩;refine⟨_,_,_,rfl,(kx c d.wf).mono ?_⟩;rintro _ B ⟨y,x,D,rfl,s,f⟩;refine⟨_,_,_,rfl,?_⟩;have r:Bb a b = .int .i64 (eG (Num.val a) (Num.val b)):=by unfold Bb;rw[if_pos ⟨g,c⟩]
 rw[r];have o:=n.rd.ok f;have p:=s.rd;have m:=d.trans f;refine(qm o p (by omega) m.wf).mono ?_;rintro _ z ⟨rfl,k⟩;exact⟨_,rfl,rfl,m.trans k⟩
theorem KV:SS.P.underlying 9=some .string:=Tryz.underlying9
theorem HP(l:List UInt8)(h:ae){b:Nat}(c:b<=l.length):bG SS.P 9 (strOf l) none (some (.int .i64 (b:Int))) none h=some (strOf (l.take b)):=by
 have:=oA (h:=h) KV l (lo:=none) (hi:=some (.int .i64 (b:Int))) (a:=0) (b:=b) rfl rfl (by omega) c;simpa using this
theorem uJ(l:List UInt8)(h:ae){a:Nat}(c:a<=l.length):bG SS.P 9 (strOf l) (some (.int .i64 (a:Int))) none none h=some (strOf (l.drop a)):=by
 have:=oA (h:=h) KV l (lo:=some (.int .i64 (a:Int))) (hi:=none) (a:=a) (b:=l.length) rfl rfl c (Nat.le_refl _);rw[this,take_of_length_le (by simp)]
theorem Pl(l:List UInt8)(h:ae):FW SS 204 [strOf l,strOf [45]] h (λv e=>v = .bool (Num.isNeg l)/\e=h):=by
 refine Pk l [45] h _ (aa (λa=>?_) (λa=>?_))
 ·have a:=dT a;have d:1<=l.length:=by simp only[List.length_cons,List.length_nil]at a;omega
  refine⟨_,HP l h (b:=1) d,?_,rfl⟩
  cases l with
  |nil=>simp at d
  |cons c l=>
   unfold Num.isNeg;simp only[List.take_succ_cons,take_zero,List.head?_cons];congr 1
   cases f:c==45<;>simp_all
 ·have a:=dF a;have d:l=[]:=List.eq_nil_of_length_eq_zero (by simp at a;omega);subst d;exact⟨rfl,rfl⟩
theorem Lx(l:List UInt8)(h:ae):FW SS 191 [strOf l,strOf [45]] h (λv c=>v = .tuple ⟨[strOf (bj l),.bool (Num.isNeg l)]⟩/\c=h):=by
 refine Lw l [45] h _ ((Pl l h).mono ?_);rintro _ e ⟨rfl,d⟩;obtain rfl:h=e:=d.symm;refine⟨_,rfl,aa (λg=>?_) (λg=>?_)⟩
 ·have g:Num.isNeg l=false:=by simpa using g
  unfold bj;rw[g];exact⟨rfl,rfl⟩
 ·have g:Num.isNeg l=true:=by simpa using g
  have b:1<=l.length:=by
   cases l with
   |nil=>cases g
   |cons=>simp
  refine⟨_,uJ l h (a:=1) b,?_,rfl⟩;unfold bj;rw[g];rfl
theorem Pc(l:List UInt8)(h:ae):FW SS 177 [strOf l,strOf [45]] h (λv a=>v = .tuple ⟨[strOf (bj l),.bool (Num.isNeg l)]⟩/\a=h):=by
 refine Pb l [45] h _ ((Lx l h).mono ?_);rintro _ c ⟨rfl,b⟩;exact⟨_,_,rfl,rfl,b⟩
theorem LF(l:List UInt8):∀i:Nat,findAt 47 l i=if cJ 47 l<l.length then((i+cJ 47 l:Nat):Int)else -1:=by
 induction l with
 |nil=>intro i;rfl
 | cons c l b=>
  intro i;unfold findAt cJ;have a:c.toNat=47↔c=47:=by rw[<-UInt8.toNat_inj];rfl
  by_cases h:c=47
  ·rw[if_pos (a.2 h),if_pos h,if_pos (by simp)];rfl
  ·rw[if_neg (λe=>h (a.1 e)),if_neg h,b (i+1)];have:(cJ 47 l+1<(c::l).length)↔cJ 47 l<l.length:=by simp
   simp only[this];split
   ·congr 1;omega
   ·rfl
def EA(l:List UInt8):Int:=if cJ 47 l<l.length then(cJ 47 l:Int)else -1
theorem Jq(l:List UInt8)(h:ae):FW SS 214 [strOf l,.int .u8 47] h (λv a=>v = .int .i64 (EA l)/\a=h):=by
 refine Jp l 47 h _ (BF (p:=pw) (v:= .int .i64 (EA l)) (h':=h) (by decide +kernel) (by kernel_rfl) (λb=>?_) ⟨_,rfl,rfl,rfl⟩);show(if(0:Int)<=47/\(47:Int)<256 then some (Value.int .i64 (findAt 47 l 0),h)else none)=_;rw[if_pos (by decide),LF,Nat.zero_add];rfl
theorem Pp(l:List UInt8)(h:ae):FW SS 205 [strOf l,strOf [47]] h (λv b=>v = .int .i64 (EA l)/\b=h):=by
 refine Po l h _ (aa (λa=>?_) (λa=>?_))
 ·have a:([47]:List UInt8)=l:=by simpa using a
  subst a;exact⟨rfl,rfl⟩
 ·refine⟨47,rfl,(Jq l h).mono ?_⟩;rintro _ d ⟨rfl,c⟩;exact⟨_,rfl,rfl,c⟩
def Pd(l:List UInt8):Value:=if cJ 47 l<l.length then .tuple ⟨[strOf (l.take (cJ 47 l)),strOf (l.drop (cJ 47 l+1)),.bool true]⟩else .tuple ⟨[strOf l,strOf [],.bool false]⟩
theorem Xt(l:List UInt8)(f:l.length<=1000000000){h:ae}(w:Wf h):FW SS 192 [strOf l,strOf [47]] h (λv b=>v=Pd l/\Ok h b):=by
 refine Xs l h _ ((Pp l h).mono ?_);rintro _ e ⟨rfl,d⟩;obtain rfl:h=e:=d.symm;refine⟨_,rfl,aa (λg=>?_) (λg=>?_)⟩
 ·have g:=dT g;unfold EA Pd at*;by_cases a:cJ 47 l<l.length
  ·rw[if_pos a,if_pos a];have c:wrap .i64 ((cJ 47 l:Int)+1)=((cJ 47 l+1:Nat):Int):=by rw[aB (by omega) (by omega)];omega
   rw[c];exact⟨_,HP l _ (le_of_lt a),_,uJ l _ a,rfl,(Ok.refl w).room 12⟩
  ·rw[if_neg a]at g;omega
 ·have g:=dF g;unfold EA Pd at*;by_cases a:cJ 47 l<l.length
  ·rw[if_pos a]at g;omega
  ·rw[if_neg a];exact⟨rfl,Ok.refl w⟩
theorem aaw(l:List UInt8)(b:l.length<=1000000000){h:ae}(w:Wf h):FW SS 178 [strOf l,strOf [47]] h (λv c=>v=Pd l/\Ok h c):=by
 refine aav l h _ ((Xt l b w).mono ?_);rintro _ d ⟨rfl,a⟩;unfold Pd;split
 ·exact⟨_,_,_,rfl,rfl,a⟩
 ·exact⟨_,_,_,rfl,rfl,a⟩
theorem HB(l:List UInt8)(s:l.length<=1000000000)(h:ae):FW SS 116 [strOf l,.int .u8 47] h (λv n=>v = .int .i64 (EA l)/\n=h):=by
 refine HA l 47 h _ (tJ l 47 (λd i g=>g=h/\i<=l.length/\d=l.length-i/\∀j,j<i->l.getD j 0≠47) _ (λd i=>?_) l.length (i:=0) ⟨rfl,by omega,rfl,λj q=>by omega⟩);intros;rename_i g p;obtain⟨rfl,k,u,f⟩:=p;refine aa (λb=>?_) (λb=>?_)
 ·have b:=dT b;have e:bP SS.P 9 (strOf l) (.int .i64 (i:Int))=some (.int .u8 (((l.getD i 0).toNat:Nat):Int)):=by
   have:=oz KV l .i64 (i:=(i:Int)) (by omega) b;simpa using this
  refine⟨_,e,aa (λa=>?_) (λa=>?_)⟩
  ·have a:(l.getD i 0).toNat=47:=by have:=dT a;omega
   have r:l.getD i 0=47:=by rw[<-UInt8.toNat_inj];exact a
   have:=vT 47 l i k f (λ_=>r);refine⟨?_,rfl⟩;unfold EA;rw[this,if_pos (by omega)]
  ·have a:((l.getD i 0).toNat:Int)≠47:=by simpa using a
   have o:wrap .i64 ((i:Int)+1)=((i+1:Nat):Int):=by rw[aB (by omega) (by omega)];omega
   rw[o];refine bZ (d-1) (by omega) ⟨rfl,by omega,by omega,λj q=>?_⟩;rcases lt_or_ge j i with c|c
   ·exact f j c
   ·obtain rfl:j=i:=by omega
    intro m;rw[m]at a;exact a rfl
 ·have b:=dF b;obtain rfl:i=l.length:=by omega
  have:=vT 47 l l.length (Nat.le_refl _) f (λt=>by omega);refine⟨?_,rfl⟩;unfold EA;rw[this,if_neg (by omega)]
noncomputable def HJ:FD:=cG Tryz.f152 []
theorem EL(l:LB)(h:ae)(Q:VH)(a:au (decide ((((l:LB).length:Int):Int)>1000)) (Q (.tuple ⟨[(strOf []),(.int .i64 2)]⟩) h) (Q (.tuple ⟨[(strOf l),(.int .i64 0)]⟩) h)):FW SS 152 [(strOf l)] h Q:=cQ HJ Tryz.func152 (ai a)
noncomputable def UM:FD:=cG Tryz.f120 []
theorem QH(l m:LB)(h:ae)(Q:VH)(j:FW SS 136 [(strOf l)] h λh i=>yB h λg=>au (!g) (Q (.int .i64 0) i) (FW SS 136 [(strOf m)] i λe f=>yB e λd=>au (!d) (Q (.int .i64 0) f) (FW SS 154 [(strOf l),(strOf m)] f λb c=>yI .i64 b λa=>Q (.int .i64 a) c))):FW SS 120 [(strOf l),(strOf m)] h Q:=cQ UM Tryz.func120 (ai j)
noncomputable def UN:FD:=cG Tryz.f121 []
theorem QO(l m:LB)(h:ae)(Q:VH)(B:FW SS 136 [(strOf l)] h λz A=>yB z λy=>au (!y) (Q (.tuple ⟨[(strOf []),(.int .i64 1)]⟩) A) (FW SS 136 [(strOf m)] A λw x=>yB w λv=>au (!v) (Q (.tuple ⟨[(strOf []),(.int .i64 1)]⟩) x) (FW SS 154 [(strOf l),(strOf m)] x λt u=>yI .i64 t λs=>au (decide ((s:Int)<0)) (Q (.tuple ⟨[(strOf []),(.int .i64 4)]⟩) u) (FW SS 150 [(strOf l)] u λq r=>yL q λn o p=>FW SS 150 [(strOf m)] r λl m=>yL l λi j k=>FW SS 155 [(.slice n o p),(.slice i j k)] m λg h=>yL g λd e f=>FW SS 153 [(.slice d e f)] h λb c=>yS b λa=>Q (.tuple ⟨[(strOf a),(.int .i64 0)]⟩) c)))):FW SS 121 [(strOf l),(strOf m)] h Q:=cQ UN Tryz.func121 (ai B)
noncomputable def pj:FD:=cG Tryz.f119 [([1,1,1,1,1,0,1,0,0],[6,7,8,9,10])]
abbrev jC(a:OA)(n c:Nat)(b:OA)(k d:Nat)(i:Nat)(cy:Int)(r:OA)(e f:Nat):LV:=[(.slice a n c),(.slice b k d),(.slice r e f),(.int .i64 cy),(iA i)]
theorem QF(l m:LB)(h:ae)(Q:VH)(s:FW SS 136 [(strOf l)] h λq r=>yB q λp=>au (!p) (Q (.tuple ⟨[(strOf []),(.int .i64 1)]⟩) r) (FW SS 136 [(strOf m)] r λn o=>yB n λk=>au (!k) (Q (.tuple ⟨[(strOf []),(.int .i64 1)]⟩) o) (FW SS 150 [(strOf l)] o λi j=>yL i λf g h=>FW SS 150 [(strOf m)] j λd e=>yL d λa b c=>LL SS pj [1,1,1,1,1,0,1,0,0] (jC f g h a b c 0 0 none 0 0) e (KK SS pj [1,1,1,1,1,0,1,0] [] (EE SS pj Q))))):FW SS 119 [(strOf l),(strOf m)] h Q:=cQ pj Tryz.func119 (ai s)
theorem xZ(l m:LB)(a:OA)(n c:Nat)(b:OA)(k d:Nat)(z:Nat->Nat->Int->OA->Nat->Nat->ae->Prop)(Q:VH)(step:∀(A:Nat) (i:Nat) (cy:Int) (r:OA) (x y:Nat) (C:Nat->Value) (h:ae),z A i cy r x y h->au (decide (((i:Int):Int)<=(n:Int))) (FW SS 151 [(.slice a n c),(iA i)] h λv w=>yI .i64 v λu=>FW SS 151 [(.slice b k d),(iA i)] w λs t=>yI .i64 s λq=>xI .i64 (ay SS.P .rem 3 (.int .i64 (wrap .i64 (wrap .i64 (u+q)+cy))) (.int .i64 10)) λp=>xR (aF SS.P 22 1 [(0,(.int .i64 p))]) t λ_ l m o=>xE (bI SS.P 22 22 (.slice r x y) (sA (t.next) l m) o) o λf g h _ j=>xI .i64 (ay SS.P .quo 3 (.int .i64 (wrap .i64 (wrap .i64 (u+q)+cy))) (.int .i64 10)) λe=>aI (BW (jC a n c b k d) z) A [(.slice a n c),(.slice b k d),(.slice f g h),(.int .i64 e),(.int .i64 (wrap .i64 ((i:Int)+1)))] j) (au (decide (((i:Int):Int)<=(k:Int))) (FW SS 151 [(.slice a n c),(iA i)] h λv w=>yI .i64 v λu=>FW SS 151 [(.slice b k d),(iA i)] w λs t=>yI .i64 s λq=>xI .i64 (ay SS.P .rem 3 (.int .i64 (wrap .i64 (wrap .i64 (u+q)+cy))) (.int .i64 10)) λp=>xR (aF SS.P 22 1 [(0,(.int .i64 p))]) t λ_ l m o=>xE (bI SS.P 22 22 (.slice r x y) (sA (t.next) l m) o) o λf g h _ j=>xI .i64 (ay SS.P .quo 3 (.int .i64 (wrap .i64 (wrap .i64 (u+q)+cy))) (.int .i64 10)) λe=>aI (BW (jC a n c b k d) z) A [(.slice a n c),(.slice b k d),(.slice f g h),(.int .i64 e),(.int .i64 (wrap .i64 ((i:Int)+1)))] j) (FW SS 153 [(.slice r x y)] h λf g=>yS f λe=>FW SS 152 [(strOf e)] g λc d=>∃b:LB,∃a:Int,c=(.tuple ⟨[(strOf b),(.int .i64 a)]⟩)/\Q (.tuple ⟨[(strOf b),(.int .i64 a)]⟩) d)))(A:Nat){i:Nat}{cy:Int}{r:OA}{x y:Nat}{h:ae}(B:z A i cy r x y h):LL SS pj [1,1,1,1,1,0,1,0,0] (jC a n c b k d i cy r x y) h (KK SS pj [1,1,1,1,1,0,1,0] [] (EE SS pj Q)):=
 F0 (jC a n c b k d) z (λA i cy r x y C h B=>ai (step A i cy r x y C h B)) A B
noncomputable def fe:FD:=cG Tryz.f122 [([1,1,1,1,0,1,0,0],[6,7,8,9]),([1,1,1,1,0,1,0,0,1,0,0,1,1,0,0],[6,7,8,9,10,11])]
abbrev gU(a:OA)(n c:Nat)(b:OA)(k d:Nat)(t:OA)(f e:Nat)(i:Nat):LV:=[(.slice a n c),(.slice b k d),(.slice t f e),(iA i)]
abbrev l7(a:OA)(n c:Nat)(b:OA)(k d:Nat)(t:OA)(f e i:Nat)(j:Nat)(cy:Int):LV:=[(.slice a n c),(.slice b k d),(.slice t f e),(iA i),(.int .i64 cy),(iA j)]
theorem QM(l m:LB)(h:ae)(Q:VH)(u:FW SS 136 [(strOf l)] h λs t=>yB s λr=>au (!r) (Q (.tuple ⟨[(strOf []),(.int .i64 1)]⟩) t) (FW SS 136 [(strOf m)] t λp q=>yB p λo=>au (!o) (Q (.tuple ⟨[(strOf []),(.int .i64 1)]⟩) q) (FW SS 150 [(strOf l)] q λl n=>yL l λi j k=>FW SS 150 [(strOf m)] n λg h=>yL g λd e f=>xR (ch SS.P 22 (.int .i64 (wrap .i64 (wrap .i64 ((j:Int)+(e:Int))+1))) (.int .i64 (wrap .i64 (wrap .i64 ((j:Int)+(e:Int))+1)))) h λ_ a b c=>LL SS fe [1,1,1,1,0,1,0,0] (gU i j k d e f (some ⟨h.next,0,none⟩) a b 0) c (KK SS fe [1,1,1,1,0,1,0] [] (EE SS fe Q))))):FW SS 122 [(strOf l),(strOf m)] h Q:=cQ fe Tryz.func122 (ai u)
theorem yh(l m:LB)(a:OA)(n c:Nat)(b:OA)(k d:Nat)(t:OA)(q p:Nat)(o:Nat->Nat->ae->Prop)(Q:VH)(step:∀(j:Nat) (i:Nat) (s:Nat->Value) (h:ae),o j i h->au (decide (((i:Int):Int)<(n:Int))) (LL SS fe [1,1,1,1,0,1,0,0,1,0,0,1,1,0,0] (l7 a n c b k d t q p i 0 0) h (KK SS fe [1,0,0,1,1,0] [1,1,1,1,0,1,0,0] (RR fe [1,1,1,1,0,1,0,0] (fj (gU a n c b k d t q p) o) j (KK SS fe [1,1,1,1,0,1,0] [] (EE SS fe Q))))) (FW SS 153 [(.slice t q p)] h λf g=>yS f λe=>FW SS 152 [(strOf e)] g λc d=>∃b:LB,∃a:Int,c=(.tuple ⟨[(strOf b),(.int .i64 a)]⟩)/\Q (.tuple ⟨[(strOf b),(.int .i64 a)]⟩) d))(j:Nat){i:Nat}{h:ae}(r:o j i h):LL SS fe [1,1,1,1,0,1,0,0] (gU a n c b k d t q p i) h (KK SS fe [1,1,1,1,0,1,0] [] (EE SS fe Q)):=
 dg (gU a n c b k d t q p) o (λj i s h r=>ai (step j i s h r)) j r
theorem yi(l m:LB)(a:OA)(n c:Nat)(b:OA)(k d:Nat)(t:OA)(w v:Nat)(y:Nat->Nat->ae->Prop)(A i:Nat)(x:Nat->Nat->Int->ae->Prop)(Q:VH)(step:∀(u:Nat) (j:Nat) (cy:Int) (B:Nat->Value) (h:ae),x u j cy h->au (decide (((j:Int):Int)<=(k:Int))) (iP 22 (.slice t w v) (.int .i64 (wrap .i64 ((i:Int)+(j:Int)))) λs=>lI (room h 18) s λr=>iP 22 (.slice a n c) (iA i) λq=>lI (room h 18) q λp=>FW SS 151 [(.slice b k d),(iA j)] (room h 18) λm o=>yI .i64 m λl=>(aj SS.P 3 o (.pointer (some s))=some (.int .i64 r)/\dG 4 (.int .i64 r) (.int .i64 r)=true)/\(aj SS.P 3 o (.pointer (some q))=some (.int .i64 p)/\dG 4 (.int .i64 p) (.int .i64 p)=true)/\xI .i64 (ay SS.P .rem 3 (.int .i64 (wrap .i64 (wrap .i64 (r+wrap .i64 (p*l))+cy))) (.int .i64 10)) λh=>iP 22 (.slice t w v) (.int .i64 (wrap .i64 ((i:Int)+(j:Int)))) λg=>xU (ah SS.P 3 (.pointer (some g)) (.int .i64 h) o) o λ_ f=>xI .i64 (ay SS.P .quo 3 (.int .i64 (wrap .i64 (wrap .i64 (r+wrap .i64 (p*l))+cy))) (.int .i64 10)) λe=>aI (qP (l7 a n c b k d t w v i) x) u [(.slice a n c),(.slice b k d),(.slice t w v),(iA i),(.int .i64 e),(.int .i64 (wrap .i64 ((j:Int)+1)))] f) (aI (fj (gU a n c b k d t w v) y) A [(.slice a n c),(.slice b k d),(.slice t w v),(.int .i64 (wrap .i64 ((i:Int)+1)))] h))(u:Nat){j:Nat}{cy:Int}{h:ae}(z:x u j cy h):LL SS fe [1,1,1,1,0,1,0,0,1,0,0,1,1,0,0] (l7 a n c b k d t w v i j cy) h (KK SS fe [1,0,0,1,1,0] [1,1,1,1,0,1,0,0] (RR fe [1,1,1,1,0,1,0,0] (fj (gU a n c b k d t w v) y) A (KK SS fe [1,1,1,1,0,1,0] [] (EE SS fe Q)))):=
 nu (l7 a n c b k d t w v i) x (λu j cy B h z=>ai (step u j cy B h z)) u z
theorem vK(X:Nat)(h:ae):FW SS 152 [strOf (ag X)] h (λv b=>v=oZ X/\b=h):=by
 refine EL _ h _ (aa (λa=>?_) (λa=>?_))
 ·have a:=dT a;refine⟨?_,rfl⟩;unfold oZ;rw[if_pos (by omega)];rfl
 ·have a:=dF a;refine⟨?_,rfl⟩;unfold oZ;rw[if_neg (by omega)];rfl
theorem QJ(a b:List UInt8){h:ae}(w:Wf h):FW SS 120 [strOf a,strOf b] h (λv o=>v=Bb a b/\Ok h o):=by
 refine QH a b h _ ((dt a h).mono ?_);rintro _ f ⟨rfl,d⟩;obtain rfl:h=f:=d.symm;refine⟨_,rfl,aa (λg=>?_) (λg=>?_)⟩
 ·have g:Num.valid a=false:=by simpa using g
  refine⟨?_,Ok.refl w⟩;unfold Bb;rw[if_neg (λe=>by rw[e.1]at g;cases g)]
 have g:Num.valid a=true:=by simpa using g
 refine(dt b h).mono ?_;rintro _ f ⟨rfl,d⟩;obtain rfl:h=f:=d.symm;refine⟨_,rfl,aa (λc=>?_) (λc=>?_)⟩
 ·have c:Num.valid b=false:=by simpa using c
  refine⟨?_,Ok.refl w⟩;unfold Bb;rw[if_neg (λe=>by rw[e.2]at c;cases c)]
 have c:Num.valid b=true:=by simpa using c
 have p:Bb a b = .int .i64 (eG (Num.val a) (Num.val b)):=by unfold Bb;rw[if_pos ⟨g,c⟩]
 rw[p];obtain⟨m,rfl,j,l⟩:=cx g;obtain⟨n,rfl,i,k⟩:=cx c;have s:=fR j;have r:=fR i;rw[l,k];refine(qo m n (by omega) (by omega) h w).mono ?_;rintro _ g ⟨rfl,q⟩;exact⟨_,rfl,rfl,q⟩
theorem qE{a:List UInt8}(c:Num.valid a=true){h:ae}(w:Wf h):FW SS 150 [strOf a] h (iV h 3 ((fs a).map iv)):=by
 have b:=(gh.1 c)
 exact r7 a b.1.2.1 (Nat.le_trans b.2 (by omega)) h w
theorem kC{a:List UInt8}(b:Num.valid a=true):∀d∈fs a,d<10:=ml (gh.1 b).1.2.1
theorem oy{a:List UInt8}(b:Num.valid a=true):(fs a).length<=1000:=by
 rw[kV];exact(gh.1 b).2
theorem EC{a b:List UInt8}(c:Num.valid a=true)(d:Num.valid b=true)(h:Num.val b<=Num.val a):b.length<=a.length:=by
 obtain⟨m,rfl,_,f⟩:=cx c;obtain⟨n,rfl,_,e⟩:=cx d;exact Nat.le_of_not_lt λg=>by have:=lO g;omega
theorem FX(a b:List UInt8){h:ae}(w:Wf h):FW SS 121 [strOf a,strOf b] h (λv o=>v=Bp a b/\Ok h o):=by
 refine QO a b h _ ((dt a h).mono ?_);rintro _ q ⟨rfl,p⟩;obtain rfl:h=q:=p.symm;refine⟨_,rfl,aa (λg=>?_) (λg=>?_)⟩
 ·have g:Num.valid a=false:=by simpa using g
  refine⟨?_,Ok.refl w⟩;unfold Bp;rw[if_neg (λe=>by rw[e.1]at g;cases g)];rfl
 have g:Num.valid a=true:=by simpa using g
 refine(dt b h).mono ?_;rintro _ q ⟨rfl,p⟩;obtain rfl:h=q:=p.symm;refine⟨_,rfl,aa (λc=>?_) (λc=>?_)⟩
 ·have c:Num.valid b=false:=by simpa using c
  refine⟨?_,Ok.refl w⟩;unfold Bp;rw[if_neg (λe=>by rw[e.2]at c;cases c)];rfl
 have c:Num.valid b=true:=by simpa using c
 have A:Bp a b=(if Num.val a<Num.val b then two [] 4 else two (ag (Num.val a-Num.val b)) 0):=by unfold Bp;rw[if_pos ⟨g,c⟩]
 rw[A];have C:FW SS 154 [strOf a,strOf b] h (λv o=>v = .int .i64 (eG (Num.val a) (Num.val b))/\Ok h o):=by
  obtain⟨m,rfl,t,x⟩:=cx g;obtain⟨n,rfl,s,u⟩:=cx c;have P:=fR t;have G:=fR s;rw[x,u];exact qo m n (by omega) (by omega) h w
 refine C.mono ?_;rintro _ J ⟨rfl,f⟩;refine⟨_,rfl,aa (λd=>?_) (λd=>?_)⟩
 ·have d:=dT d;rw[if_pos (Nz d)];exact⟨rfl,f⟩
 have d:=dF d;have j:=Ny d;rw[if_neg (Nat.not_lt.2 j)];refine(qE g f.wf).mono ?_;rintro _ K ⟨F,E,Q,rfl,B,k⟩;refine⟨_,_,_,rfl,(qE c k.wf).mono ?_⟩;rintro _ H ⟨L,D,N,rfl,z,i⟩;refine⟨_,_,_,rfl,(Dr (B.rd.ok i) z.rd (kC g) (kC c) (Nat.le_trans (oy g) (by omega)) i.wf).mono ?_⟩;rintro _ O ⟨M,R,I,rfl,y,l⟩;refine⟨_,_,_,rfl,(r8 y.rd (EZ (kC g) (kC c) _ _ _ (by omega)) (by rw[eV];exact Nat.le_trans (oy g) (by omega)) l.wf).mono ?_⟩;rintro _ S ⟨rfl,r⟩;refine⟨_,rfl,?_,(((f.trans k).trans i).trans l).trans r⟩;rw[EY (kC g) (kC c) (by rw[kV,kV];exact EC g c j) (by rw[fY,fY];exact j),fY,fY];rfl
theorem UO:ay SS.P .rem 3 (.int .i64 (n:Int)) (.int .i64 10)=some (.int .i64 ((n%10:Nat):Int)):=by
 rw[show(10:Int)=((10:Nat):Int)from rfl,gK (by omega) (by decide),natCast_emod]
theorem Uh(h:n<1000000):ay SS.P .quo 3 (.int .i64 (n:Int)) (.int .i64 10)=some (.int .i64 ((n/10:Nat):Int)):=by
 have a:(n:Int).tdiv 10=((n/10:Nat):Int):=by
  rw[Int.tdiv_eq_ediv_of_nonneg (by omega)];rfl
 rw[GP SS.P 3 .i64 _ _ (by omega),a,aB (by omega) (by omega)]
theorem P0{p q c:Nat}(b:p<10)(a:q<10)(d:c<=1):(aO 10 p q c).2<=1:=by
 show(p+q+c)/10<=1;omega
theorem QG(a b:List UInt8){h:ae}(w:Wf h):FW SS 119 [strOf a,strOf b] h (λv m=>v=A9 a b/\Ok h m):=by
 refine QF a b h _ ((dt a h).mono ?_);rintro _ X ⟨rfl,U⟩;obtain rfl:h=X:=U.symm;refine⟨_,rfl,aa (λg=>?_) (λg=>?_)⟩
 ·have g:Num.valid a=false:=by simpa using g
  refine⟨?_,Ok.refl w⟩;unfold A9;rw[if_neg (λe=>by rw[e.1]at g;cases g)];rfl
 have g:Num.valid a=true:=by simpa using g
 refine(dt b h).mono ?_;rintro _ X ⟨rfl,U⟩;obtain rfl:h=X:=U.symm;refine⟨_,rfl,aa (λd=>?_) (λd=>?_)⟩
 ·have d:Num.valid b=false:=by simpa using d
  refine⟨?_,Ok.refl w⟩;unfold A9;rw[if_neg (λe=>by rw[e.2]at d;cases d)];rfl
 have d:Num.valid b=true:=by simpa using d
 have hS:A9 a b=oZ (Num.val a+Num.val b):=by unfold A9;rw[if_pos ⟨g,d⟩]
 rw[hS];refine(qE g w).mono ?_;rintro _ h2 ⟨a2,k,c2,rfl,o2,I⟩;refine⟨_,_,_,rfl,(qE d I.wf).mono ?_⟩;rintro _ h3 ⟨a3,f,c3,rfl,o3,B⟩;refine⟨_,_,_,rfl,?_⟩;have r1:=o2.rd.ok B;have r2:=o3.rd;have ok:=I.trans B;have W:=B.wf;have x1:k=(fs a).length:=by have:=r1.len;rwa[lM]at this
 have Z:f=(fs b).length:=by have:=r2.len;rwa[lM]at this
 have l1:=oy g;have l2:=oy d;have M:=kC g;have Y:=kC d;have e1:=fY a;have e2:=fY b;generalize fs a=x at*;generalize fs b=y at*;have x2:∀j,eJ (aO 10) x y 0 0 j<=1:=by
  intro j
  induction j with
  |zero=>exact Nat.zero_le _
  |succ j ih=>exact P0 (aZ (by decide) M _) (aZ (by decide) Y _) ih
 have s:=yU (b:=10) (by decide) M Y (max x.length y.length+1) 0 0 (by omega) (by omega) (by omega) (by omega);rw[drop_zero,drop_zero,e1,e2,Nat.add_zero]at s;rw[<-x1,<-Z]at s;have x7:=le_max_left k f;have x6:=le_max_right k f;have x4:max k f<=1000:=max_le.2 ⟨by omega,by omega⟩;have x5:k=max k f\/f=max k f:=by omega
 generalize max k f=N at*;refine xZ a b a2 k c2 a3 f c3 (λE i cy r rn rc g=>i<=N+1/\E=N+1-i/\cy=(eJ (aO 10) x y 0 0 i:Nat)/\ej h3 g 3 (.slice r rn rc) ((bk (aO 10) x y 0 i 0).map iv)/\Ok h3 g) (λv m=>v=oZ (Num.val a+Num.val b)/\Ok h m) (by
  intro E i cy r rn rc;intros;rename_i o hi;obtain⟨f1,f2,rfl,S,l⟩:=hi;have x0:wrap .i64 ((i:Int)+1)=((i+1:Nat):Int):=by rw[aB (by omega) (by omega)];omega
  rw[x0];have z:(bk (aO 10) x y 0 i 0).length=i:=eV _ _ _ _ _ _;have t:=hW (aO 10) x y i 0 0;rw[Nat.zero_add]at t;have A:eJ (aO 10) x y 0 0 (i+1)=(aO 10 (x.getD i 0) (y.getD i 0) (eJ (aO 10) x y 0 0 i)).2:=by
   show(aO 10 (x.getD (0+i) 0) (y.getD (0+i) 0) _).2=_;rw[Nat.zero_add]
  have x8:=x2 i;have hp:=aZ (by omega) M i;have hq:=aZ (by omega) Y i;generalize eJ (aO 10) x y 0 0 i=F at*;have n:∀hg:i<N+1,FW SS 151 [(.slice a2 k c2),(.int .i64 (i:Int))] o (λv m=>v = .int .i64 (x.getD i 0:Nat)/\m=o)/\FW SS 151 [(.slice a3 f c3),(.int .i64 (i:Int))] o (λv m=>v = .int .i64 (y.getD i 0:Nat)/\m=o):=λ_=>⟨tL (r1.ok l) i,tL (r2.ok l) i⟩
  have H:wrap .i64 (((x.getD i 0:Nat):Int)+((y.getD i 0:Nat):Int))=((x.getD i 0+y.getD i 0:Nat):Int):=by rw[aB (by omega) (by omega)];omega
  have G:wrap .i64 (((x.getD i 0+y.getD i 0:Nat):Int)+(F:Int))=((x.getD i 0+y.getD i 0+F:Nat):Int):=by rw[aB (by omega) (by omega)];omega
  refine aa (λD=>?_) (λD=>aa (λC=>?_) (λC=>?_))
  ·have D:=dT D;obtain⟨T,O⟩:=n (by omega);refine T.mono ?_;rintro _ _ ⟨rfl,rfl⟩;refine⟨_,rfl,O.mono ?_⟩;rintro _ _ ⟨rfl,rfl⟩;rename_i o;refine⟨_,rfl,?_⟩;dsimp only;rw[H,G];obtain⟨R,P,L,u,Q,g7,J,V⟩:=DA W l S (((x.getD i 0+y.getD i 0+F)%10:Nat):Int) (by rw[lM,z];omega);refine⟨_,UO,_,_,_,O2 _,R,P,L,u,Q,_,Uh (by omega),oW (E-1) (by omega) ⟨by omega,by omega,by rw[A];rfl,?_,V⟩⟩;rw[t,map_append];exact J
  ·have C:=dT C;obtain⟨T,O⟩:=n (by omega);refine T.mono ?_;rintro _ _ ⟨rfl,rfl⟩;refine⟨_,rfl,O.mono ?_⟩;rintro _ _ ⟨rfl,rfl⟩;rename_i o;refine⟨_,rfl,?_⟩;dsimp only;rw[H,G];obtain⟨R,P,L,u,Q,g7,J,V⟩:=DA W l S (((x.getD i 0+y.getD i 0+F)%10:Nat):Int) (by rw[lM,z];omega);refine⟨_,UO,_,_,_,O2 _,R,P,L,u,Q,_,Uh (by omega),oW (E-1) (by omega) ⟨by omega,by omega,by rw[A];rfl,?_,V⟩⟩;rw[t,map_append];exact J
  ·have D:=dF D;have C:=dF C;obtain rfl:i=N+1:=by omega
   refine(r8 S.rd (jq (λp q c=>mod_lt _ (by decide)) _ _ _ 0 0) (by rw[z];omega) l.wf).mono ?_;rintro _ h4 ⟨rfl,x3⟩;refine⟨_,rfl,?_⟩;rw[s];refine(vK _ h4).mono ?_;rintro _ _ ⟨rfl,rfl⟩;exact yC (K:=λv=>v=oZ (Num.val a+Num.val b)/\Ok h _) (xv _) ⟨rfl,(ok.trans l).trans x3⟩)
  (N+1) (i:=0) ⟨by omega,by omega,rfl,.inl ⟨rfl,rfl⟩,Ok.refl W⟩
end Go.Proofs.YtaaichlgdgjgjaaGreatDoor
end
section
set_option linter.defProp false
namespace Go.Proofs.YtaaichlgdgjgjaaGreatDoor
open Go Go.Ab Go.Num
variable{k:Nat}{n:Nat}{m:Nat}{h:ae}{a:Option Addr}{x:List Nat}{g:ae}
noncomputable def ti3:TypeInfo:=(SS.P.info? 3).getD default
theorem aa8:SS.P.info? 3=some ti3:=by kernel_rfl
theorem VF:ti3.size=1:=by kernel_rfl
theorem Rh:ti3.bytes=8:=by kernel_rfl
theorem ZP:zeroOf SS.P 3=some (iv 0):=by kernel_rfl
theorem ad4(n:Nat)(a:n<=100000):ch SS.P 22 (.int .i64 (n:Int)) (.int .i64 (n:Int))=some (.cells ((List.replicate n 0).map iv) 3 1 true,mL n n):=by
 unfold ch bV;dsimp only;rw[qp]
 try dsimp only
 change (match SS.P.info? 3,zeroOf SS.P 3 with
  |some i,some z=>(if z.cells.size=i.size/\0<i.size/\(0:Int)<=(n:Int)/\(n:Int)<=(n:Int)/\(n:Int)*i.bytes<=140737488355328/\(n:Int)<=1099511627776 then some (dS.cells (df z.cells.toList (n:Int).toNat) 3 i.size true,λk=>Value.slice (some ⟨k,0,none⟩) (n:Int).toNat (n:Int).toNat)else none)
  |_,_=>none)=_
 rw[aa8,ZP];dsimp only;rw[VF,Rh,if_pos ⟨rfl,by omega,by omega,Int.le_refl _,by omega,by omega⟩];have e:((n:Int)).toNat=n:=by omega
 rw[e,show(iv 0).cells.toList=[iv 0]from rfl,ny,List.map_replicate];rfl
theorem acC{c:Nat}{i:Int}(b:0<=i)(a:i<m):aA SS.P 22 (.slice (some ⟨k,n,none⟩) m c) (.int .i64 i)=some (.pointer (some ⟨k,n+i.toNat*1,none⟩)):=Pn qp Ru b a
theorem atI{c:Nat}(r:Rd h 3 (.slice a n c) (x.map iv)){i:Int}(e:0<=i)(f:i<x.length):∃p:Addr,aA SS.P 22 (.slice a n c) (.int .i64 i)=some (.pointer (some p))/\aj SS.P 3 h (.pointer (some p))=some (.int .i64 (x.getD i.toNat 0:Nat)):=by
 obtain⟨p,d,b⟩:=r.at_ qp Ru Gm Fa (k:= .i64) (i:=i) e (by rw[lM];omega);rw[tr x i.toNat (by omega)]at b;exact⟨p,d,b⟩
theorem Oj(n:Int):dG 4 (.int .i64 n) (.int .i64 n)=true:=by simp[dG]
structure RP(hb:ae)(kt N:Nat)(L:List Nat)(g:ae):Prop where
 len:L.length=N
 lt:∀d∈L,d<10
 row:Ia hb kt 3 (L.map iv) g
theorem RP.get{c:Nat}{f:ae}(a:RP g n m x f){jn:Nat}(b:jn<m):aA SS.P 22 (.slice (some ⟨n,0,none⟩) m c) (.int .i64 (jn:Int))=some (.pointer (some ⟨n,0+(jn:Int).toNat*1,none⟩))/\aj SS.P 3 f (.pointer (some ⟨n,0+(jn:Int).toNat*1,none⟩))=some (.int .i64 (x.getD jn 0:Nat))/\
  ∀d:Nat,d<10->Wf g->∃u:dM,ah SS.P 3 (.pointer (some ⟨n,0+(jn:Int).toNat*1,none⟩)) (.int .i64 (d:Int)) f=some (undef,u)/\RP g n m (x.set jn d) (u.app f):=by
 have e:0+(jn:Int).toNat*1=jn:=by omega
 refine⟨acC (by omega) (by omega),?_,?_⟩
 ·rw[e,cq Gm Fa a.row.row (by rw[lM,a.len];exact b),tr x jn (by rw[a.len];exact b)]
 ·intro d j w;rw[e];refine⟨_,iX Ru a.row.row (by rw[lM,a.len];exact b) rfl rfl,by rw[length_set];exact a.len,λe i=>?_,?_⟩
  ·rcases List.mem_or_eq_of_mem_set i with h|h
   ·exact a.lt e h
   ·rw[h];exact j
  ·have:=a.row.set w jn (.int .i64 (d:Int));rw[show(Value.int .i64 (d:Int))=iv d from rfl,N9 iv x jn d]at this;rw[show(Value.int .i64 (d:Int))=iv d from rfl,N9 iv x jn d];exact this
def ZL(a:ae)(c N n:Nat)(x y:List Nat)(b i:Nat)(g:ae):Prop:=i<=n/\b=n-i/\∃L,RP a c N L g/\Num.bv 10 L=Num.bv 10 (x.take i)*Num.bv 10 y
def aeh(b:ae)(d N k:Nat)(x y:List Nat)(i c j:Nat)(cy:Int)(g:ae):Prop:=j<=k+1/\c=k+1-j/\∃(L:List Nat)(a:Nat),cy=(a:Int)/\a<10/\RP b d N L g/\Num.bv 10 L+a*10^(i+j)=Num.bv 10 (x.take i)*Num.bv 10 y+x.getD i 0*Num.bv 10 (y.take j)*10^i
def US{f:ae}(w:Wf f){a:Option Addr}{n c:Nat}{b:Option Addr}{k d:Nat}{s N C:Nat}{x y:List Nat}(W:Rd f 3 (.slice a n c) (x.map iv))(V:Rd f 3 (.slice b k d) (y.map iv))(I:∀d∈x,d<10)(M:∀d∈y,d<10){i:Nat}(hi:i<n)(hn:n=x.length)(hk:k=y.length)(hN:N=n+k+1)(x0:N<=10000)(l m:List UInt8)(Q:VH)(E:Nat)(x2:E=n-i):=
 yi l m a n c b k d (some ⟨s,0,none⟩) N C (ZL f s N n x y) E i (aeh f s N k x y i) Q (by
  intro H j cy;intros;rename_i g D;obtain⟨h1,h2,L,o,rfl,S,e,J⟩:=D;have O:wrap .i64 ((i:Int)+(j:Int))=((i+j:Nat):Int):=by rw[aB (by omega) (by omega)];omega
  have e2:wrap .i64 ((j:Int)+1)=((j+1:Nat):Int):=by rw[aB (by omega) (by omega)];omega
  have X:wrap .i64 ((i:Int)+1)=((i+1:Nat):Int):=by rw[aB (by omega) (by omega)];omega
  rw[O,e2,X];refine aa (λr=>?_) (λr=>?_)
  ·have r:=dT r;have h:RP f s N L (Go.Ab.room g 18):=⟨e.len,e.lt,⟨e.row.row,e.row.new,e.row.ok.room 18⟩⟩
   obtain⟨K,F,g3⟩:=h.get (c:=C) (jn:=i+j) (by omega);obtain⟨R,f1,A⟩:=atI (W.ok h.row.ok) (i:=(i:Int)) (by omega) (by omega);rw[toNat_natCast]at A;refine⟨_,K,_,F,R,f1,_,A,(tL (V.ok h.row.ok) j).mono ?_⟩;rintro _ _ ⟨rfl,rfl⟩;refine⟨_,rfl,⟨F,Oj _⟩,⟨A,Oj _⟩,?_⟩;have v:=aZ (b:=10) (by decide) I i;have t:=aZ (b:=10) (by decide) M j;have x1:=aZ (b:=10) (by decide) e.lt (i+j);obtain⟨q,z⟩:∃q,q=x.getD i 0*y.getD j 0:=⟨_,rfl⟩
   have x3:q<=81:=by rw[z];exact Nat.le_trans (mul_le_mul (Nat.le_of_lt_succ v) (Nat.le_of_lt_succ t)) (by decide)
   have G:=vU (B:=10) (by decide) (L:=L) (y:=y) (i:=i) (k:=j) (cy:=o) (xi:=x.getD i 0) (P:=Num.bv 10 (x.take i)*Num.bv 10 y) (p:=L.getD (i+j) 0+o+q) e.lt (by rw[e.len];omega) S v t (by rw[z]) J;have Y:wrap .i64 (((x.getD i 0:Nat):Int)*((y.getD j 0:Nat):Int))=(q:Int):=by rw[<-Int.natCast_mul,<-z];exact aB (by omega) (by omega)
   rw[Y];have e5:wrap .i64 (((L.getD (i+j) 0:Nat):Int)+(q:Int))=((L.getD (i+j) 0+q:Nat):Int):=by rw[aB (by omega) (by omega)];omega
   rw[e5];have e6:wrap .i64 (((L.getD (i+j) 0+q:Nat):Int)+(o:Int))=((L.getD (i+j) 0+o+q:Nat):Int):=by rw[aB (by omega) (by omega)];omega
   rw[e6];generalize L.getD (i+j) 0+o+q=U at*;obtain⟨u,Z,T⟩:=g3 (U%10) (mod_lt _ (by decide)) w;refine⟨_,UO,_,K,u,Z,_,Uh (by omega),iI (H-1) (by omega) ⟨by omega,by omega,_,_,rfl,G.2.1,T,G.2.2⟩⟩
  ·have r:=dF r;obtain rfl:j=k+1:=by omega
   refine bZ (n-(i+1)) (by omega) ⟨by omega,rfl,L,e,?_⟩;exact E2 (by decide) I M (by omega) e.lt (by rw[<-hk];exact J))
theorem QN(a b:List UInt8){h:ae}(w:Wf h):FW SS 122 [strOf a,strOf b] h (λv r=>v=Bh a b/\Ok h r):=by
 refine QM a b h _ ((dt a h).mono ?_);rintro _ t ⟨rfl,s⟩;obtain rfl:h=t:=s.symm;refine⟨_,rfl,aa (λg=>?_) (λg=>?_)⟩
 ·have g:Num.valid a=false:=by simpa using g
  refine⟨?_,Ok.refl w⟩;unfold Bh;rw[if_neg (λe=>by rw[e.1]at g;cases g)];rfl
 have g:Num.valid a=true:=by simpa using g
 refine(dt b h).mono ?_;rintro _ t ⟨rfl,s⟩;obtain rfl:h=t:=s.symm;refine⟨_,rfl,aa (λk=>?_) (λk=>?_)⟩
 ·have k:Num.valid b=false:=by simpa using k
  refine⟨?_,Ok.refl w⟩;unfold Bh;rw[if_neg (λe=>by rw[e.2]at k;cases k)];rfl
 have k:Num.valid b=true:=by simpa using k
 have T:Bh a b=oZ (Num.val a*Num.val b):=by unfold Bh;rw[if_pos ⟨g,k⟩]
 rw[T];refine(qE g w).mono ?_;rintro _ h2 ⟨I,c,V,rfl,W,q⟩;refine⟨_,_,_,rfl,(qE k q.wf).mono ?_⟩;rintro _ m ⟨O,f,Q,rfl,P,o⟩;refine⟨_,_,_,rfl,?_⟩;have A:=W.rd.ok o;have C:=P.rd;have ok:=q.trans o;have E:=o.wf;have D:c=(fs a).length:=by have:=A.len;rwa[lM]at this
 have z:f=(fs b).length:=by have:=C.len;rwa[lM]at this
 have l1:=oy g;have l2:=oy k;have M:=kC g;have hy:=kC k;have N:=fY a;have J:=fY b;generalize fs a=x at*;generalize fs b=y at*;generalize Num.val a=X at*;generalize Num.val b=Y at*;have H:wrap .i64 (wrap .i64 ((c:Int)+(f:Int))+1)=((c+f+1:Nat):Int):=by
  rw[aB (n:=(c:Int)+(f:Int)) (by omega) (by omega),aB (by omega) (by omega)];omega
 dsimp only;rw[H];refine⟨_,_,_,ad4 _ (by omega),?_⟩;have U:RP m m.next (c+f+1) (List.replicate (c+f+1) 0) (m.push (.cells ((List.replicate (c+f+1) 0).map iv) 3 1 true)):=by
  refine⟨length_replicate,λd hd=>by rw[(List.mem_replicate.1 hd).2];decide,?_,Nat.le_refl _,(Ok.refl E).push _⟩;rw[ae.bt,if_pos rfl]
 refine yh a b I c V O f Q (some ⟨m.next,0,none⟩) (c+f+1) (c+f+1) (ZL m m.next (c+f+1) c x y) (λv r=>v=oZ (X*Y)/\Ok h r) (λG i=>?_) c (i:=0) ⟨by omega,by omega,_,U,by rw[sZ,take_zero];simp[Num.bv]⟩;intros;rename_i gg S;obtain⟨f1,R,L,l,u⟩:=S;refine aa (λp=>?_) (λp=>?_)
 ·have p:=dT p;exact US E A C M hy (i:=i) (by omega) D z rfl (by omega) a b _ G R (f+1) (j:=0) (cy:=0) ⟨by omega,by omega,L,0,rfl,by decide,l,by rw[u,take_zero];simp[Num.bv]⟩
 ·have p:=dF p;obtain rfl:c=i:=by omega
  rw[take_of_length_le (by omega),N,J]at u;have F:=l.row.rd (c+f+1);rw[lM,l.len]at F;refine(r8 F l.lt (by rw[l.len];omega) l.row.ok.wf).mono ?_;rintro _ Z ⟨rfl,B⟩;refine⟨_,rfl,?_⟩;rw[u];refine(vK _ Z).mono ?_;rintro _ _ ⟨rfl,rfl⟩;exact yC (K:=λv=>v=oZ (X*Y)/\Ok h _) (xv _) ⟨rfl,(ok.trans l.row.ok).trans B⟩
end Go.Proofs.YtaaichlgdgjgjaaGreatDoor
end
section
namespace Go.Proofs.YtaaichlgdgjgjaaGreatDoor
open Go Go.Ab Go.Num
variable{h:ae}{g:ae}{v:Value}{w:Value}{s:List UInt8}{t:List UInt8}{n:Nat}{m:Nat}
theorem xW(l:List UInt8)(h:ae):FW SS 117 [strOf l] h (λv a=>v = .bool (decide (l.length<=400)&&Num.valid l)/\a=h):=by
 refine HD l h _ (aa (λg=>?_) (λg=>?_))
 ·have g:=dT g;refine(dt l h).mono ?_;rintro _ c ⟨rfl,b⟩;refine⟨_,rfl,?_,b⟩;rw[decide_eq_true (show l.length<=400 by omega),Bool.true_and]
 ·have g:=dF g;refine⟨?_,rfl⟩;rw[decide_eq_false (show ¬l.length<=400 by omega),Bool.false_and]
def Ys(n d:List UInt8)(neg a:Bool):Prop:=(Num.valid n=true/\n.length<=400)/\(Num.valid d=true/\d.length<=400)/\d≠[48]/\¬(n=[48]/\(neg=true\/a=true))/\¬(d=[49]/\a=true)/\(Nat.gcd (Num.val n) (Num.val d)=1\/d=[49])
def rT:Value:= .tuple ⟨[.bool false,strOf [],strOf [],.bool false]⟩
def mN(neg:Bool)(n d:List UInt8):Value:= .tuple ⟨[.bool neg,strOf n,strOf d,.bool true]⟩
def pf(h:ae)(C:Prop)(G B:Value):VH:=λv a=>Ok h a/\(C->v=G)/\(¬C->v=B)
theorem jR{C:Prop}(o:Ok h g)(a:¬C):pf h C v w w g:=⟨o,λc=>absurd c a,λ_=>rfl⟩
theorem wz{C:Prop}(o:Ok h g)(a:C):pf h C v w v g:=⟨o,λ_=>rfl,λc=>absurd a c⟩
theorem F7{n:List UInt8}(g:(decide (n.length<=400)&&Num.valid n)=true):Num.valid n=true/\n.length<=400:=by
 rw[and_eq_true,decide_eq_true_eq]at g;exact⟨g.2,g.1⟩
theorem xm(a:Num.valid s=true)(b:Num.valid t=true):Bc s t=two (ag (Nat.gcd (Num.val s) (Num.val t))) 0:=by unfold Bc;rw[if_pos ⟨a,b⟩]
theorem qJ(n d:List UInt8)(neg:Bool)(m:Int)(a:Bool)(v3:a=decide (m>=0)){h:ae}(w:Wf h){x0 x1 x2 x3 x4 x5 z4 z6 I z0 Y u2 u9 y9 u1 z8 J E B X x6 v2 z3 y0 R z2 y4 N u7 s A r M v0 u6 L D z H x7 y u z7 v1 u4 y1 u3 y3 G t z5 o z9 y5 y7 K z1 F U x8 Q C O S y2 P T x9 u8 y6 y8 Z p q W u0 u5:Value}:
  TT SS av [1,1,1,1,1,1] [x0,x1,x2,x3,x4,x5,strOf n,strOf d,.bool neg,.int .i64 m,z4,z6,I,z0,Y,u2,u9,y9,u1,z8,J,E,B,X,x6,v2,z3,y0,R,z2,y4,N,u7,s,A,r,M,v0,u6,L,D,z,H,x7,y,u,z7,v1,u4,y1,u3,y3,G,t,z5,o,z9,y5,y7,K,z1,F,U,x8,Q,C,O,S,y2,P,T,x9,u8,y6,y8,Z,p,q,W,u0,u5] h (EE SS av (pf h (Ys n d neg a) (mN neg n d) rT)):=by
 refine Bk ((xW n h).mono ?_);rintro _ g0 ⟨rfl,e0⟩;obtain rfl:h=g0:=e0.symm;refine⟨_,rfl,aa (λg=>jR (Ok.refl w) λc=>?_) (λg=>?_)⟩
 ·obtain⟨⟨c1,c2⟩,_⟩:=c;rw[c1,decide_eq_true c2]at g;cases g
 have hn:=F7 (n:=n) (by simpa using g);refine(xW d h).mono ?_;rintro _ g0 ⟨rfl,e0⟩;obtain rfl:h=g0:=e0.symm;refine⟨_,rfl,aa (λg=>jR (Ok.refl w) λc=>?_) (λg=>?_)⟩
 ·obtain⟨_,⟨c1,c2⟩,_⟩:=c;rw[c1,decide_eq_true c2]at g;cases g
 have hd:=F7 (n:=d) (by simpa using g);have l:d≠[48]->¬(n=[48]/\(neg=true\/a=true))->¬(d=[49]/\a=true)->∀{x0 x1 x2 x3 x4 x5 z4 z6 I z0 Y u2 u9 y9 u1 z8 J E B X x6 v2 z3 y0 R z2 y4 N u7 s A r M v0 u6 L D z H x7 y u z7 v1 u4 y1 u3 y3 G t z5 o z9 y5 y7 K z1 F U x8 Q C O S y2 P T x9 u8 y6 y8 Z p q W u0 u5:Value},
   TT SS av [1,1,1,1,1,1,1] [x0,x1,x2,x3,x4,x5,strOf n,strOf d,.bool neg,.int .i64 m,z4,z6,I,z0,Y,u2,u9,y9,u1,z8,J,E,B,X,x6,v2,z3,y0,R,z2,y4,N,u7,s,A,r,M,v0,u6,L,D,z,H,x7,y,u,z7,v1,u4,y1,u3,y3,G,t,z5,o,z9,y5,y7,K,z1,F,U,x8,Q,C,O,S,y2,P,T,x9,u8,y6,y8,Z,p,q,W,u0,u5] h (EE SS av (pf h (Ys n d neg a) (mN neg n d) rT)):=by
  intro c3 c4 c5;intros;refine Bl ((FV n d h w).mono ?_);rintro _ h1 ⟨rfl,o1⟩;rw[xm hn.1 hd.1];refine⟨_,_,rfl,?_⟩;have e1:ag (Nat.gcd (Num.val n) (Num.val d))=[49]↔Nat.gcd (Num.val n) (Num.val d)=1:=ei;refine aa (λb=>aa (λi=>jR o1 λc=>?_) (λi=>wz o1 ?_)) (λb=>wz o1 ?_)
  ·have b:¬ag (Nat.gcd (Num.val n) (Num.val d))=[49]:=by simpa using b
   have i:¬d=[49]:=by simpa using i
   rcases c.2.2.2.2.2 with c|c
   ·exact b (e1.2 c)
   ·exact i c
  ·have i:d=[49]:=by simpa using i
   exact⟨hn,hd,c3,c4,c5,.inr i⟩
  ·have b:ag (Nat.gcd (Num.val n) (Num.val d))=[49]:=by simpa using b
   exact⟨hn,hd,c3,c4,c5,.inl (e1.1 b)⟩
 refine aa (λb=>jR (Ok.refl w) λc=>?_) (λb=>?_)
 ·exact c.2.2.1 (by simpa using b)
 have b:d≠[48]:=by simpa using b
 have v4:∀{x:Bool},(x=true->m>=0)->True:=λ_=>trivial;have V:decide (m>=0)=false->¬a=true:=λe f=>by rw[v3]at f;rw[f]at e;cases e
 have v:decide (m>=0)=true->a=true:=λe=>by rw[v3,e]
 refine aa (λi=>?_) (λi=>?_)
 ·have i:n=[48]:=by simpa using i
  refine aa (λg3=>jR (Ok.refl w) λc=>c.2.2.2.1 ⟨i,.inl g3⟩) (λg3=>?_);have g3:¬neg=true:=by rw[g3];simp
  refine aa (λg4=>jR (Ok.refl w) λc=>c.2.2.2.1 ⟨i,.inr (v g4)⟩) (λg4=>?_);have f4:¬(n=[48]/\(neg=true\/a=true)):=λc=>c.2.elim g3 (V g4);refine aa (λk=>?_) (λk=>?_)
  ·refine aa (λj=>jR (Ok.refl w) λc=>c.2.2.2.2.1 ⟨by simpa using k,v j⟩) (λj=>?_);exact l b f4 (λc=>V j c.2)
  ·exact l b f4 (λc=>(by
    have:¬d=[49]:=by simpa using k
    exact this c.1))
 ·have f4:¬(n=[48]/\(neg=true\/a=true)):=λc=>by
   have:¬n=[48]:=by simpa using i
   exact this c.1
  refine aa (λk=>?_) (λk=>?_)
  ·refine aa (λj=>jR (Ok.refl w) λc=>c.2.2.2.2.1 ⟨by simpa using k,v j⟩) (λj=>?_);exact l b f4 (λc=>V j c.2)
  ·exact l b f4 (λc=>(by
    have:¬d=[49]:=by simpa using k
    exact this c.1))
def kh(l:List UInt8):Value:=if ax l=true then mN (Num.isNeg l) (Num.numOf l) (ak l)else rT
theorem Hw(q:pf h (Ys (Num.numOf s) (ak s) (Num.isNeg s) (bo s)) (mN (Num.isNeg s) (Num.numOf s) (ak s)) rT v g):v=kh s/\Ok h g:=by
 obtain⟨o,d,b⟩:=q;refine⟨?_,o⟩;unfold kh;by_cases a:ax s=true
 ·rw[if_pos a];exact d (Ay.1 (aP.1 a))
 ·rw[if_neg a];exact b λc=>a (aP.2 (Ay.2 c))
theorem ew(l:List UInt8)(z:l.length<=1000000000){h:ae}(w:Wf h):FW SS 94 [strOf l] h (λv I=>v=kh l/\Ok h I):=by
 refine FW.mono (Q:=pf h (Ys (Num.numOf l) (ak l) (Num.isNeg l) (bo l)) (mN (Num.isNeg l) (Num.numOf l) (ak l)) rT) ?_ (λ_ _ q=>Hw q);have A:∀m:List UInt8,m.length<=1000000000->∀(K:VH),(∀(b:Int),b=EA m->(if b>=0 then ∃i:Nat,b=(i:Int)/\wrap .i64 (b+1)=((i+1:Nat):Int)/\i=cJ 47 m/\i<m.length else ¬cJ 47 m<m.length)  ->K (.int .i64 b) h)->FW SS 116 [strOf m,.int .u8 47] h K:=by
  intro m D K H;refine(HB m D h).mono ?_;rintro _ L ⟨rfl,J⟩;obtain rfl:h=L:=J.symm;refine H _ rfl ?_;unfold EA;by_cases g:cJ 47 m<m.length
  ·rw[if_pos g,if_pos (by omega)];exact⟨_,rfl,by rw[aB (by omega) (by omega)];omega,rfl,g⟩
  ·rw[if_neg g,if_neg (by omega)];exact g
 have t:∀(m:List UInt8),m=bj l->m.length<=1000000000->∀(b:Int),(if b>=0 then ∃i:Nat,b=(i:Int)/\wrap .i64 (b+1)=((i+1:Nat):Int)/\i=cJ 47 m/\i<m.length else ¬cJ 47 m<m.length)->
   (decide (b>=0)=true->bo l=true/\bG SS.P 9 (strOf m) (some (.int .i64 (wrap .i64 (b+1)))) none none h=some (strOf (ak l))/\bG SS.P 9 (strOf m) none (some (.int .i64 b)) none h=some (strOf (Num.numOf l)))/\
   (decide (b>=0)=false->bo l=false/\m=Num.numOf l/\ak l=[49]):=by
  intro m d D b r;refine⟨λg=>?_,λg=>?_⟩
  ·rw[if_pos (dT g)]at r;obtain⟨i,rfl,G,rfl,B⟩:=r;have s:bo l=true:=by unfold bo;rw[<-d];exact decide_eq_true B
   refine⟨s,?_,?_⟩
   ·rw[G,uJ m h B];unfold ak;rw[if_pos s,d]
   ·rw[HP m h (le_of_lt B)];unfold Num.numOf;rw[d]
  ·rw[if_neg (dF g)]at r;have s:bo l=false:=by unfold bo;rw[<-d];exact decide_eq_false r
   refine⟨s,?_,?_⟩
   ·unfold Num.numOf;rw[<-d,take_of_length_le (by omega)]
   ·unfold ak;rw[s];rfl
 have u:∀(m:List UInt8),m=bj l->m.length<=1000000000:=λm d=>by
  rw[d];unfold bj;split
  ·rw[length_drop];omega
  ·exact z
 refine HC l h _ (aa (λg=>?_) (λg=>?_))
 ·have g:=dT g
  cases l with
  |nil=>simp at g
  | cons c f=>
   have e:bP SS.P 9 (strOf (c::f)) (.int .i64 0)=some (.int .u8 ((c.toNat:Nat):Int)):=by
    have:=oz KV (c::f) .i64 (i:=0) (by omega) g;simpa using this
   refine⟨_,e,aa (λp=>?_) (λp=>?_)⟩
   ·have p:c=45:=by
     have:((c.toNat:Nat):Int)=45:=by simpa using p
     rw[<-UInt8.toNat_inj];show c.toNat=45;omega
    have o:Num.isNeg (c::f)=true:=by unfold Num.isNeg;rw[p];rfl
    have d:f=bj (c::f):=by unfold bj;rw[if_pos o];rfl
    have E:bG SS.P 9 (strOf (c::f)) (some (.int .i64 1)) none none h=some (strOf f):=uJ (c::f) h (a:=1) (by simp);refine⟨_,E,A f (u _ d) _ (λb F r=>⟨b,rfl,?_⟩)⟩;obtain⟨x,y⟩:=t f d (u _ d) b r;have C:(((c.toNat:Nat):Int)==45)=true:=p▸rfl;rw[o,C];refine aa (λg=>?_) (λg=>?_)
    ·obtain⟨n,k,j⟩:=x g;exact⟨_,k,_,j,qJ _ _ true b _ (by rw[n,g]) w⟩
    ·obtain⟨n,k,j⟩:=y g;rw[j,<-k];exact qJ _ _ true b _ (by rw[n,g]) w
   ·have p:¬c=45:=λe=>by rw[e]at p;cases p
    have o:Num.isNeg (c::f)=false:=by
     unfold Num.isNeg;simp[p]
    have d:c::f=bj (c::f):=by unfold bj;rw[o];rfl
    have C:(((c.toNat:Nat):Int)==45)=false:=by
     have:((c.toNat:Nat):Int)≠45:=λe=>p (by rw[<-UInt8.toNat_inj];show c.toNat=45;omega);simpa using this
    refine A (c::f) z _ (λb F r=>⟨b,rfl,?_⟩);obtain⟨x,y⟩:=t _ d z b r;rw[o,C];refine aa (λg=>?_) (λg=>?_)
    ·obtain⟨n,k,j⟩:=x g;exact⟨_,k,_,j,qJ _ _ false b _ (by rw[n,g]) w⟩
    ·obtain⟨n,k,j⟩:=y g;rw[j,<-k];exact qJ _ _ false b _ (by rw[n,g]) w
 ·have g:=dF g;obtain rfl:l=[]:=List.eq_nil_of_length_eq_zero (by omega);have d:[]=bj []:=rfl;refine A [] (by simp) _ (λb F r=>⟨b,rfl,?_⟩);obtain⟨x,y⟩:=t _ d (by simp) b r;refine aa (λg=>?_) (λg=>?_)
  ·obtain⟨n,k,j⟩:=x g;exact⟨_,k,_,j,qJ _ _ false b _ (by rw[n,g]) w⟩
  ·obtain⟨n,k,j⟩:=y g;rw[j,<-k];exact qJ _ _ false b _ (by rw[n,g]) w
theorem FK{l:List UInt8}{K:Value->Prop}(a:K (kh l)):∃(c:Bool)(d e:List UInt8)(b:Bool),kh l=(.tuple ⟨[.bool c,strOf d,strOf e,.bool b]⟩)/\K (.tuple ⟨[.bool c,strOf d,strOf e,.bool b]⟩)/\b=ax l:=by
 unfold kh at*
 cases g:ax l with
 |true=>rw[g]at a;exact⟨_,_,_,_,rfl,a,rfl⟩
 |false=>rw[g]at a;exact⟨_,_,_,_,rfl,a,rfl⟩
theorem xX(l:List UInt8)(d:l.length<=1000000000){h:ae}(w:Wf h):FW SS 71 [strOf l] h (λv f=>v = .bool (ax l)/\Ok h f):=by
 refine HF l h _ ((ew l d w).mono ?_);rintro _ k ⟨rfl,a⟩;obtain⟨b,i,j,c,e,_,g⟩:=FK (l:=l) (K:=λ_=>True) trivial;exact⟨b,i,j,c,e,by rw[g],a⟩
theorem oC(h:n<10^800):Num.valid (ag n)=true:=ee.2 (lt_of_lt_of_le h (jK (k:=800) (m:=1000) (by decide)))
theorem NJ(h:m<10^1000):oZ m=two (ag m) 0:=by
 unfold oZ;rw[if_neg];have:=(dc (n:=m) (k:=1000) (by decide)).2 h;omega
theorem ID(b:n<10^800)(a:m<10^800):A9 (ag n) (ag m)=two (ag (n+m)) 0:=by
 unfold A9;rw[if_pos ⟨oC b,oC a⟩,bu,bu];exact NJ (lt_of_lt_of_le (Nat.add_lt_add b a) E3)
theorem yx(b:n<10^800)(a:m<10^800)(h:m<=n):Bp (ag n) (ag m)=two (ag (n-m)) 0:=by
 unfold Bp;rw[if_pos ⟨oC b,oC a⟩,bu,bu,if_neg (Nat.not_lt.2 h)]
theorem IV(b:n<10^800)(a:m<10^800):Bb (ag n) (ag m) = .int .i64 (eG n m):=by
 unfold Bb;rw[if_pos ⟨oC b,oC a⟩,bu,bu]
theorem di{a b:List UInt8}(d:Num.valid a=true)(c:Num.valid b=true)(e:a.length<=400)(f:b.length<=400):Bh a b=two (ag (Num.val a*Num.val b)) 0/\Num.val a*Num.val b<10^800:=by
 have h:=Ed (re (k:=400) d (by decide) e) (re (k:=400) c (by decide) f);refine⟨?_,h⟩;unfold Bh;rw[if_pos ⟨d,c⟩];exact NJ (lt_of_lt_of_le h (jK (k:=800) (m:=1000) (by decide)))
def AP(s:Bool)(A:Nat)(t:Bool)(B:Nat):Value:= .tuple ⟨[.bool (de s A t B).1,strOf (ag (de s A t B).2)]⟩
theorem xf:eG n m<0↔n<m:=vQ
theorem Dq(s:Bool)(A:Nat)(t:Bool)(B:Nat)(f:A<10^800)(e:B<10^800){h:ae}(w:Wf h):FW SS 95 [.bool s,strOf (ag A),.bool t,strOf (ag B)] h (λv l=>v=AP s A t B/\Ok h l):=by
 refine My s _ t _ h _ (aa (λg=>?_) (λg=>?_))
 ·have g:s=t:=by simpa using g
  refine(QG _ _ w).mono ?_;rintro _ j ⟨rfl,a⟩;rw[ID f e];refine⟨_,_,rfl,?_,a⟩;unfold AP de;rw[if_pos g]
 ·have g:¬s=t:=by simpa using g
  refine(QJ _ _ w).mono ?_;rintro _ j ⟨rfl,a⟩;rw[IV f e];refine⟨_,rfl,aa (λd=>?_) (λd=>?_)⟩
  ·have d:=dT d;have b:¬A<B:=λc=>by have:=xf.2 c;omega
   refine(FX _ _ a.wf).mono ?_;rintro _ k ⟨rfl,i⟩;rw[yx f e (Nat.not_lt.1 b)];refine⟨_,_,rfl,?_,a.trans i⟩;unfold AP de;rw[if_neg g,if_neg b]
  ·have d:=dF d;have b:A<B:=xf.1 (by omega);refine(FX _ _ a.wf).mono ?_;rintro _ k ⟨rfl,i⟩;rw[yx e f (le_of_lt b)];refine⟨_,_,rfl,?_,a.trans i⟩;unfold AP de;rw[if_neg g,if_pos b]
theorem fx{a b:List UInt8}(f:Num.valid a=true)(c:Num.valid b=true)(g:a.length<=400)(i:b.length<=400){h:ae}(w:Wf h):FW SS 96 [strOf a,strOf b] h (λv e=>v=strOf (ag (Num.val a*Num.val b))/\Ok h e):=by
 refine HE a b h _ ((QN a b w).mono ?_);rintro _ j ⟨rfl,d⟩;rw[(di f c g i).1];exact⟨_,_,rfl,rfl,d⟩
theorem Dp(l m:List UInt8)(u:l.length<=1000000000)(p:m.length<=1000000000){h:ae}(w:Wf h):FW SS 72 [strOf l,strOf m] h (λv A=>v = .int .i64 (cz l m)/\Ok h A):=by
 refine Mx l m h _ ((ew l u w).mono ?_);rintro _ E ⟨rfl,i⟩
 cases g:ax l with
 |false=>
  have e:kh l=rT:=by unfold kh;rw[g];rfl
  refine⟨_,_,_,_,e,(ew m p i.wf).mono ?_⟩;rintro _ y ⟨rfl,j⟩;obtain⟨s,B,C,t,k,_,G⟩:=FK (l:=m) (K:=λ_=>True) trivial;refine⟨s,B,C,t,k,?_,i.trans j⟩;unfold cz;rw[if_neg (λc=>by rw[c.1]at g;cases g)]
 | true=>
  have e:kh l=mN (Num.isNeg l) (Num.numOf l) (ak l):=by unfold kh;rw[g];rfl
  refine⟨_,_,_,_,e,(ew m p i.wf).mono ?_⟩;rintro _ y ⟨rfl,j⟩
  cases f:ax m with
  |false=>
   have k:kh m=rT:=by unfold kh;rw[f];rfl
   refine⟨_,_,_,_,k,?_,i.trans j⟩;unfold cz;rw[if_neg (λc=>by rw[c.2]at f;cases f)]
  | true=>
   have k:kh m=mN (Num.isNeg m) (Num.numOf m) (ak m):=by unfold kh;rw[f];rfl
   have a:=aP.1 g;have b:=aP.1 f;refine⟨_,_,_,_,k,(fx a.num b.den a.ln b.ld j.wf).mono ?_⟩;rintro _ D ⟨rfl,r⟩;refine⟨_,rfl,(fx b.num a.den b.ln a.ld r.wf).mono ?_⟩;rintro _ F ⟨rfl,q⟩;refine⟨_,rfl,(Dq _ _ _ _ (di a.num b.den a.ln b.ld).2 (di b.num a.den b.ln a.ld).2 q.wf).mono ?_⟩;rintro _ H ⟨rfl,x⟩;have o:=(((i.trans j).trans r).trans q).trans x;refine⟨_,_,rfl,?_⟩;unfold cz;rw[if_pos ⟨g,f⟩];generalize de _ _ _ _=z;refine aa (λd=>⟨?_,o⟩) (λd=>?_)
   ·have d:ag z.2=[48]:=by simpa using d
    rw[if_pos (bM.1 d)]
   ·have d:¬ag z.2=[48]:=by simpa using d
    rw[if_neg (λc=>d (bM.2 c))];refine aa (λn=>⟨?_,o⟩) (λn=>⟨?_,o⟩)
    ·rw[if_pos n]
    ·rw[if_neg (by rw[n];simp)]
end Go.Proofs.YtaaichlgdgjgjaaGreatDoor
end
section
set_option linter.defProp false
namespace Go.Proofs.YtaaichlgdgjgjaaGreatDoor
open Go Go.Ab Go.Num
variable{h:ae}{n:Nat}{m:Nat}{x:List Nat}{g:ae}
structure MR(hb:ae)(kt N:Nat)(L:List Nat)(g:ae):Prop where
 len:L.length=N
 lt:∀d∈L,d<BB
 row:g.get kt=some (.cells (cO ((List.replicate N 0).map uv) 0 L) 150 1 true)
 ok:Ok hb g
theorem MR.room(a:MR h n m x g)(r:Nat):MR h n m x (Go.Ab.room g r):=⟨a.len,a.lt,a.row,a.ok.room r⟩
theorem MR.get{c:Nat}{b:ae}(a:MR g n m x b){j:Int}{jn:Nat}(r:j=(jn:Int))(f:jn<m):∃p:Addr,aA SS.P 177 (.slice (some ⟨n,0,none⟩) m c) (.int .i64 j)=some (.pointer (some p))/\aj SS.P 150 b (.pointer (some p))=some (.int .u64 (x.getD jn 0:Nat))/\
  ∀d:Nat,d<BB->n<b.next->g.next<=n->Wf g->∃u:dM,ah SS.P 150 (.pointer (some p)) (.int .u64 (d:Int)) b=some (undef,u)/\MR g n m (x.set jn d) (u.app b):=by
 subst r;have i:(0:Nat)+x.length<=((List.replicate m 0).map uv).length:=by rw[lM,length_replicate,a.len];omega
 refine⟨⟨n,0+(jn:Int).toNat,none⟩,xp (by omega) (by omega),?_,?_⟩
 ·rw[toNat_natCast];exact C0 a.row i (by rw[a.len];exact f)
 ·intro d q o k w;rw[toNat_natCast];refine⟨_,DC a.row i (by rw[a.len];exact f) d,by rw[length_set];exact a.len,λe l=>?_,?_,a.ok.set _ k o w⟩
  ·rcases List.mem_or_eq_of_mem_set l with h|h
   ·exact a.lt e h
   ·rw[h];exact q
  ·show(b.set n _).get n=_;rw[ae.aw,if_pos rfl]
def TP(a:ae)(c N n:Nat)(x y:List Nat)(b i:Nat)(g:ae):Prop:=i<=n/\b=n-i/\∃L,MR a c N L g/\Num.bv BB L=Num.bv BB (x.take i)*Num.bv BB y
def ZH(b:ae)(d N k:Nat)(x y:List Nat)(i c j:Nat)(cy:Int)(g:ae):Prop:=j<=k+1/\c=k+1-j/\∃(L:List Nat)(a:Nat),cy=(a:Int)/\a<BB/\MR b d N L g/\Num.bv BB L+a*BB^(i+j)=Num.bv BB (x.take i)*Num.bv BB y+x.getD i 0*Num.bv BB (y.take j)*BB^i
theorem LX(w:Wf h){c N k:Nat}{x y:List Nat}(A:h.next<=c)(u:∀d∈x,d<BB)(z:∀d∈y,d<BB){i l j:Nat}{f:Nat}{L:List Nat}{g:ae}(C:j<k+1)(o:i+j<N)(B:l=k+1-j)(n:f<BB)(m:MR h c N L g)(s:Num.bv BB L+f*BB^(i+j)=Num.bv BB (x.take i)*Num.bv BB y+x.getD i 0*Num.bv BB (y.take j)*BB^i){q:Nat}(r:q=x.getD i 0*y.getD j 0):
  q<=999999998000000001/\L.getD (i+j) 0<BB/\(∀p,MR h c N (L.set (i+j) ((L.getD (i+j) 0+f+q)%BB)) p->l-1<l/\ZH h c N k x y i (l-1) (j+1) (((L.getD (i+j) 0+f+q)/BB:Nat):Int) p)/\(L.getD (i+j) 0+f+q)%BB<BB/\c<g.next:=by
 have e:=aZ (b:=BB) (by decide) u i;have a:=aZ (b:=BB) (by decide) z j;have t:=aZ (b:=BB) (by decide) m.lt (i+j);refine⟨?_,t,λp v=>⟨by omega,by omega,by omega,_,_,rfl,?_,v,?_⟩,mod_lt _ (by decide),m.ok.wf _ _ m.row⟩
 ·rw[r];exact Nat.le_trans (mul_le_mul (Nat.le_of_lt_succ e) (Nat.le_of_lt_succ a)) (by decide)
 ·exact(vU gH m.lt (by rw[m.len];exact o) n e a (by rw[r]) s).2.1
 ·exact(vU gH m.lt (by rw[m.len];exact o) n e a (by rw[r]) s).2.2
def PH{f:ae}(w:Wf f){a:Option Addr}{n c:Nat}{b:Option Addr}{k d:Nat}{v N t:Nat}{x y:List Nat}(ra:Rd f 150 (.slice a n c) (x.map uv))(rb:Rd f 150 (.slice b k d) (y.map uv))(R:∀d∈x,d<BB)(W:∀d∈y,d<BB)(o:f.next<=v){i:Nat}(hi:i<n)(hn:n=x.length)(hk:k=y.length)(hN:N=n+k+1)(x0:N<=1000)(l m:List UInt8)(Q:VH)(M:Nat)(x2:M=n-i):=
 xH l m a n c b k d (some ⟨v,0,none⟩) N t (n:Int) (TP f v N n x y) M i ((k:Int)+1) (ZH f v N k x y i) Q (by
  intro A j cy;intros;rename_i g K;obtain⟨h1,h2,L,z,rfl,h3,e,T⟩:=K;have x1:BB=1000000000:=rfl;have X:wrap .i64 ((i:Int)+(j:Int))=((i+j:Nat):Int):=by rw[aB (by omega) (by omega)];omega
  have e2:wrap .i64 ((j:Int)+1)=((j+1:Nat):Int):=by rw[aB (by omega) (by omega)];omega
  have e3:wrap .i64 ((i:Int)+1)=((i+1:Nat):Int):=by rw[aB (by omega) (by omega)];omega
  rw[X,e2,e3];refine aa (λs=>?_) (λs=>?_)
  ·have s:=dT s;obtain⟨q,E⟩:∃q,q=x.getD i 0*y.getD j 0:=⟨_,rfl⟩
   obtain⟨s1,s2,B,D,O⟩:=LX w o R W (by omega) (by omega) h2 h3 e T E;obtain⟨p,g1,Y,_⟩:=e.get (c:=t) (j:=((i+j:Nat):Int)) rfl (by omega);have S:wrap .u64 (((L.getD (i+j) 0:Nat):Int)+(z:Int))=((L.getD (i+j) 0+z:Nat):Int):=by rw[gL (by omega) (by omega)];omega
   refine⟨p,g1,_,Y,aa (λr=>?_) (λr=>?_)⟩
   ·have r:=dT r;obtain⟨p1,f1,U⟩:=Fc (ra.ok (e.room 12).ok) (i:=(i:Int)) (by omega) (by omega);obtain⟨Z,f3,V⟩:=Fc (rb.ok (e.room 12).ok) (i:=(j:Int)) (by omega) (by omega);rw[toNat_natCast]at U V;have e5:wrap .u64 (((x.getD i 0:Nat):Int)*((y.getD j 0:Nat):Int))=(q:Int):=by rw[<-Int.natCast_mul,<-E];exact gL (by omega) (by omega)
    have e6:wrap .u64 (((L.getD (i+j) 0+z:Nat):Int)+(q:Int))=((L.getD (i+j) 0+z+q:Nat):Int):=by rw[gL (by omega) (by omega)];omega
    rw[S];refine⟨p1,f1,_,U,Z,f3,_,V,?_⟩;dsimp only;rw[e5,e6];obtain⟨I,J,_,G⟩:=(e.room 12).get (c:=t) (j:=((i+j:Nat):Int)) rfl (by omega);obtain⟨u,F,C⟩:=G _ D (lt_of_lt_of_le O (Nat.le_add_right _ _)) o w;obtain⟨H,h⟩:=B _ C;refine⟨_,gK (b:=BB) (by omega) (by decide),_,pS (b:=BB) (by omega) (by omega) (by decide),I,J,u,F,iI (A-1) H ?_⟩;rw[natCast_ediv]at h;exact h
   ·have r:=dF r;have y0:y.getD j 0=0:=by rw[gD,getElem?_eq_none (by omega)];rfl
    have P:q=0:=by rw[E,y0,Nat.mul_zero]
    rw[S];obtain⟨I,J,_,G⟩:=e.get (c:=t) (j:=((i+j:Nat):Int)) rfl (by omega);rw[P,Nat.add_zero]at B D;obtain⟨u,F,C⟩:=G _ D O o w;obtain⟨H,h⟩:=B _ C;refine⟨_,gK (b:=BB) (by omega) (by decide),_,pS (b:=BB) (by omega) (by omega) (by decide),I,J,u,F,iI (A-1) H ?_⟩;rw[natCast_ediv]at h;exact h
  ·have s:=dF s;obtain rfl:j=k+1:=by omega
   refine bZ (n-(i+1)) (by omega) ⟨by omega,rfl,L,e,?_⟩;exact E2 gH R W (by omega) e.lt (by rw[<-hk];exact T))
theorem VK(d:(aW BB n).length<=112)(f:(aW BB m).length<=112):(aW BB (n*m)).length<=10000:=by
 have a:=fq (dq gH n);have b:=fq (dq gH m);rw[cm gH]at a b;have c:=lt_of_lt_of_le a (pow_le_pow_right (show 0<BB by decide) d);have e:=lt_of_lt_of_le b (pow_le_pow_right (show 0<BB by decide) f);refine Nat.le_trans (lK gH (k:=224) ?_) (by omega);rw[show 224=112+112 from rfl,pow_add];exact Nat.mul_lt_mul'' c e
theorem mD(a b:List UInt8){h:ae}(t:nO h)(w:Wf h):FW SS 143 [strOf a,strOf b] h (λv A=>v=Bh a b/\Ok h A):=by
 refine PR a b h _ ((dI a h).mono ?_);rintro _ D ⟨rfl,B⟩;obtain rfl:h=D:=B.symm;refine⟨_,rfl,aa (λg=>?_) (λg=>?_)⟩
 ·have g:Num.valid a=false:=by simpa using g
  refine⟨?_,Ok.refl w⟩;unfold Bh;rw[if_neg (λe=>by rw[e.1]at g;cases g)];rfl
 have g:Num.valid a=true:=by simpa using g
 refine(dI b h).mono ?_;rintro _ D ⟨rfl,B⟩;obtain rfl:h=D:=B.symm;refine⟨_,rfl,aa (λl=>?_) (λl=>?_)⟩
 ·have l:Num.valid b=false:=by simpa using l
  refine⟨?_,Ok.refl w⟩;unfold Bh;rw[if_neg (λe=>by rw[e.2]at l;cases l)];rfl
 have l:Num.valid b=true:=by simpa using l
 have P:=YS g l;have lx:=P.lx;have ly:=P.ly;refine(kx g w).mono ?_;rintro _ h1 ⟨S,f,O,rfl,T,u⟩;refine⟨_,_,_,rfl,(kx l u.wf).mono ?_⟩;rintro _ m ⟨G,k,Q,rfl,o2,z⟩;refine⟨_,_,_,rfl,?_⟩;have hS:Bh a b=oZ (Num.val a*Num.val b):=by unfold Bh;rw[if_pos ⟨g,l⟩]
 rw[hS];have q:=T.rd.ok z;have r:=o2.rd;have s:=u.trans z;have N:f=(aW BB (Num.val a)).length:=by have:=q.len;rwa[lM]at this
 have F:k=(aW BB (Num.val b)).length:=by have:=r.len;rwa[lM]at this
 have hX:=dq gH (Num.val a);have Z:=dq gH (Num.val b);have bX:=cm gH (Num.val a);have W:=cm gH (Num.val b);have q:Rd m 150 (.slice S f O) ((aW BB (Num.val a)).map uv):=q;have r:Rd m 150 (.slice G k Q) ((aW BB (Num.val b)).map uv):=r;have J:(aW BB (Num.val a*Num.val b)).length<=10000:=VK lx ly;generalize Num.val a=X at*;generalize Num.val b=Y at*;generalize aW BB X=x at*;generalize aW BB Y=y at*;have V:wrap .i64 (wrap .i64 ((f:Int)+(k:Int))+1)=((f+k+1:Nat):Int):=by
  rw[aB (n:=(f:Int)+(k:Int)) (by omega) (by omega),aB (by omega) (by omega)];omega
 dsimp only;rw[V];refine⟨_,_,_,ZG _ (by omega),?_⟩;have I:=(Ok.refl s.wf).push (.cells ((List.replicate (f+k+1) 0).map uv) 150 1 true);have m0:MR m m.next (f+k+1) (List.replicate (f+k+1) 0) (m.push (.cells ((List.replicate (f+k+1) 0).map uv) 150 1 true)):=by
  refine⟨length_replicate,λd hd=>by rw[(List.mem_replicate.1 hd).2];decide,?_,I⟩;rw[ae.bt,if_pos rfl,ni (by rw[drop_zero,length_replicate,take_of_length_le (by rw[lM,length_replicate];omega)])]
 refine xD a b S f O G k Q (some ⟨m.next,0,none⟩) (f+k+1) (f+k+1) (f:Int) (TP m m.next (f+k+1) f x y) (λv A=>v=oZ (X*Y)/\Ok h A) (λU i=>?_) f (i:=0) ⟨by omega,by omega,_,m0,by rw[sZ,take_zero];simp[Num.bv]⟩;intros;rename_i g hi;obtain⟨f1,f2,L,o,E⟩:=hi;refine aa (λp=>?_) (λp=>?_)
 ·have p:=dT p;have e2:wrap .i64 ((k:Int)+1)=(k:Int)+1:=aB (by omega) (by omega);rw[e2];exact PH s.wf q r hX Z (Nat.le_refl _) (i:=i) (by omega) N F rfl (by omega) a b _ U f2 (k+1) (j:=0) (cy:=0) ⟨by omega,by omega,L,0,rfl,by decide,o,by rw[E,take_zero];simp[Num.bv]⟩
 ·have p:=dF p;obtain rfl:f=i:=by omega
  rw[take_of_length_le (by omega),bX,W]at E;have C:f+k+1<=bH (f+k+1):=by unfold bH;rw[if_neg (by unfold dn;omega)];omega
  have M:=BP o.row (n:=f+k+1) (c:=f+k+1) o.len.symm C;refine(pQ M (by rw[o.len];omega)).mono ?_;rintro _ h6 ⟨rfl,e6⟩;subst e6;have H:=zU M o.lt;rw[E]at H;refine⟨_,_,_,rfl,(vC H J (t.ok (s.trans o.ok)) o.ok.wf).mono ?_⟩;rintro _ h7 ⟨rfl,R⟩;exact yC (K:=λv=>v=oZ (X*Y)/\Ok h h7) (xv _) ⟨rfl,(s.trans o.ok).trans R⟩
end Go.Proofs.YtaaichlgdgjgjaaGreatDoor
end
section
namespace Go.Proofs.YtaaichlgdgjgjaaGreatDoor
open Go Go.Ab Go.Num
variable{h:ae}{k:Nat}{b:Bool}{s:List UInt8}{t:List UInt8}{g:ae}{v:Value}
def qS:dS:= .cells [.bool false,strOf [],strOf []] 155 0 true
theorem vr:br SS.P 155=some (qS,k6):=by kernel_rfl
theorem Zr(neg:Bool)(n d:List UInt8):bh SS.P 155 [(0,(.bool neg)),(1,(strOf n)),(2,(strOf d))]=some (.agg ⟨[.bool neg,strOf n,strOf d]⟩):=by kernel_rfl
theorem qh:bh SS.P 155 []=some (.agg ⟨[.bool false,strOf [],strOf []]⟩):=by kernel_rfl
theorem Vt:aE SS.P 155=some 3:=by kernel_rfl
theorem abA:Go.Ab.isAgg SS.P 155=true:=by kernel_rfl
noncomputable def abc:TypeDesc:=(SS.P.underlying 155).getD .bool
theorem ac9:SS.P.underlying 155=some abc:=by kernel_rfl
theorem Vj{cs0:List Value}(a:cs0.length=3)(e:h.get k=some (.cells cs0 155 0 true))(b:Bool)(n d:List UInt8):ah SS.P 155 (.pointer (some ⟨k,0,none⟩)) (.agg ⟨[.bool b,strOf n,strOf d]⟩) h=some (undef,.set k (.cells [.bool b,strOf n,strOf d] 155 0 true)):=by
 unfold ah;dsimp only;rw[if_pos (show aE SS.P 155=some ((Value.agg ⟨[.bool b,strOf n,strOf d]⟩).cells).size from Vt)];unfold storeAt;rw[e];dsimp only;have c:([.bool b,strOf n,strOf d]:List Value).all dO=true:=rfl;rw[show(Value.agg ⟨[.bool b,strOf n,strOf d]⟩).cells.toList=[.bool b,strOf n,strOf d]from rfl,if_pos ⟨by simp[a],c⟩,List.drop_eq_nil_of_le (by simp[a])];rfl
theorem Ju(a:h.get k=some (.cells [.bool b,strOf s,strOf t] 155 0 true)):aj SS.P 155 h (.pointer (some ⟨k,0,none⟩))=some (.agg ⟨[.bool b,strOf s,strOf t]⟩):=o0 ac9 abA Vt a (by simp)
theorem fp(l:List UInt8)(h:ae):FW SS 142 [strOf l,.int .i64 0] h (λv a=>v=strOf l/\a=h):=
 Ms l 0 h _ (aa (λg=>by cases g) (λ_=>⟨rfl,rfl⟩))
theorem Dk(s:Bool)(A:Nat)(t:Bool)(B:Nat)(i:A<10^800)(e:B<10^800){h:ae}(f:nO h)(w:Wf h):FW SS 141 [.bool s,strOf (ag A),.bool t,strOf (ag B)] h (λv m=>v=AP s A t B/\Ok h m):=by
 refine Mt s _ t _ h _ (aa (λg=>?_) (λg=>?_))
 ·have g:s=t:=by simpa using g
  refine(PK _ _ f w).mono ?_;rintro _ k ⟨rfl,a⟩;rw[ID i e];refine⟨_,_,rfl,(fp _ _).mono ?_⟩;rintro _ _ ⟨rfl,rfl⟩;refine⟨_,rfl,?_,a⟩;unfold AP de;rw[if_pos g]
 ·have g:¬s=t:=by simpa using g
  refine(PM _ _ f w).mono ?_;rintro _ k ⟨rfl,a⟩;rw[IV i e];refine⟨_,rfl,aa (λd=>?_) (λd=>?_)⟩
  ·have d:=dT d;have b:A<B:=xf.1 (by omega);refine(FF _ _ (f.ok a) a.wf).mono ?_;rintro _ l ⟨rfl,j⟩;rw[yx e i (le_of_lt b)];refine⟨_,_,rfl,(fp _ _).mono ?_⟩;rintro _ _ ⟨rfl,rfl⟩;refine⟨_,rfl,?_,a.trans j⟩;unfold AP de;rw[if_neg g,if_pos b]
  ·have d:=dF d;have b:¬A<B:=λc=>by have:=xf.2 c;omega
   refine(FF _ _ (f.ok a) a.wf).mono ?_;rintro _ l ⟨rfl,j⟩;rw[yx i e (Nat.not_lt.1 b)];refine⟨_,_,rfl,(fp _ _).mono ?_⟩;rintro _ _ ⟨rfl,rfl⟩;refine⟨_,rfl,?_,a.trans j⟩;unfold AP de;rw[if_neg g,if_neg b]
def rU(b:Bool)(n d:List UInt8):Value:= .agg ⟨[.bool b,strOf n,strOf d]⟩
def r4(l:List UInt8):Value:=if ax l=true then .tuple ⟨[rU (Num.isNeg l) (Num.numOf l) (ak l),.bool true]⟩else .tuple ⟨[rU false [] [],.bool false]⟩
def uC(b:Bool)(n d:List UInt8):Value:= .tuple ⟨[rU b n d,.bool true]⟩
def tH:Value:= .tuple ⟨[rU false [] [],.bool false]⟩
structure KZ(h0:ae)(k:Nat)(g:ae):Prop where
 row:∃cs0:List Value,cs0.length=3/\g.get k=some (.cells cs0 155 0 true)
 new:h0.next<=k
 ok:Ok h0 g
theorem KZ.trans{a:ae}(m:KZ h k g)(o:Ok g a):KZ h k a:=by
 obtain⟨⟨cs,c,d⟩,b,e⟩:=m;exact⟨⟨cs,c,o.ext _ _ d⟩,b,e.trans o⟩
theorem JH(w:Wf h){k:Nat}{g:ae}(m:KZ h k g)(b:Bool)(n d:List UInt8)(a:Bool){Q:VH}(j:∀c,Ok h c->Q (.tuple ⟨[rU b n d,.bool a]⟩) c):
  ∃u:dM,ah SS.P 155 (.pointer (some ⟨k,0,none⟩)) (.agg ⟨[.bool b,strOf n,strOf d]⟩) g=some (undef,u)/\dY SS [(.pointer (some ⟨k,0,none⟩),some 155),(.bool a,none)] (u.app g) Q:=by
 obtain⟨⟨cs,i,e⟩,l,f⟩:=m;refine⟨_,Vj i e b n d,?_⟩;have o:Ok h ((dM.set k (.cells [.bool b,strOf n,strOf d] 155 0 true)).app g):=f.set _ l (f.wf _ _ e) w;have p:((dM.set k (.cells [.bool b,strOf n,strOf d] 155 0 true)).app g).get k=some (.cells [.bool b,strOf n,strOf d] 155 0 true):=by
  show(g.set k _).get k=_;rw[ae.aw,if_pos rfl]
 refine xj (v:=rU b n d) (Ju p) ?_;exact j _ o
def Yo(n d:List UInt8)(neg a:Bool):Prop:=Num.valid n=true/\Num.valid d=true/\n.length<=400/\d.length<=400/\¬(neg=true/\n=[48])/\¬(a=true/\(d=[48]\/d=[49]))/\Nat.gcd (Num.val n) (Num.val d)=1
theorem m4(w:Wf h){k:Nat}{g:ae}(m:KZ h k g){C:Prop}(a:¬C){G:Value}:
  ∃u:dM,ah SS.P 155 (.pointer (some ⟨k,0,none⟩)) (.agg ⟨[.bool false,strOf [],strOf []]⟩) g=some (undef,u)/\dY SS [(.pointer (some ⟨k,0,none⟩),some 155),(.bool false,none)] (u.app g) (pf h C G tH):=
 JH w m false [] [] false (λ_ o=>jR o a)
theorem N3(n d:List UInt8)(neg h:Bool)(k:Nat){h0 g:ae}(w:Wf h0)(m:KZ h0 k g)(tb:nO g){x0 x1 x3 x4 x9 z2 z4 J y8 X z9 u5 y7 z8 z6 K F C W Z u8 z1 x7 S z0 y2 O u3 v B u N u6 u2 M E A I x2 z y z5 u7 u1 x8 u0 y1 H x z3 s z7 y3 y5 L y9 G V x5 R D P T y0 Q U x6 u4 y4 y6 Y t:Value}:
  TT SS al [1,1,1,1] [x0,x1,.pointer (some ⟨k,0,none⟩),x3,x4,.bool neg,strOf n,strOf d,.bool h,x9,z2,z4,J,y8,X,z9,u5,y7,z8,z6,K,F,C,W,Z,u8,z1,x7,S,z0,y2,O,u3,v,B,u,N,u6,u2,M,E,A,I,x2,z,y,z5,u7,u1,x8,u0,y1,H,x,z3,s,z7,y3,y5,L,y9,G,V,x5,R,D,P,T,y0,Q,U,x6,u4,y4,y6,Y,t] g (EE SS al (pf h0 (Yo n d neg h) (uC neg n d) tH)):=by
 refine Dg ((dI n g).mono ?_);rintro _ g0 ⟨rfl,e0⟩;obtain rfl:g=g0:=e0.symm;refine⟨_,rfl,aa (λl=>⟨_,qh,m4 w m (λc=>?_)⟩) (λl=>?_)⟩
 ·rw[c.1]at l;cases l
 have l:Num.valid n=true:=by simpa using l
 refine(dI d g).mono ?_;rintro _ g0 ⟨rfl,e0⟩;obtain rfl:g=g0:=e0.symm;refine⟨_,rfl,aa (λi=>⟨_,qh,m4 w m (λc=>?_)⟩) (λi=>?_)⟩
 ·rw[c.2.1]at i;cases i
 have i:Num.valid d=true:=by simpa using i
 refine aa (λq=>⟨_,qh,m4 w m (λc=>?_)⟩) (λq=>?_)
 ·have:=c.2.2.1;have q:=dT q;omega
 have q:n.length<=400:=by have q:=dF q;omega
 refine aa (λj=>⟨_,qh,m4 w m (λc=>?_)⟩) (λj=>?_)
 ·have:=c.2.2.2.1;have j:=dT j;omega
 have j:d.length<=400:=by have j:=dF j;omega
 have r:¬(neg=true/\n=[48])->¬(h=true/\(d=[48]\/d=[49]))->∀{x0 x1 x3 x4 x9 z2 z4 J y8 X z9 u5 y7 z8 z6 K F C W Z u8 z1 x7 S z0 y2 O u3 v B u N u6 u2 M E A I x2 z y z5 u7 u1 x8 u0 y1 H x z3 s z7 y3 y5 L y9 G V x5 R D P T y0 Q U x6 u4 y4 y6 Y t:Value},TT SS al [1,1,1,1,1,1] [x0,x1,.pointer (some ⟨k,0,none⟩),x3,x4,.bool neg,strOf n,strOf d,.bool h,x9,z2,z4,J,y8,X,z9,u5,y7,z8,z6,K,F,C,W,Z,u8,z1,x7,S,z0,y2,O,u3,v,B,u,N,u6,u2,M,E,A,I,x2,z,y,z5,u7,u1,x8,u0,y1,H,x,z3,s,z7,y3,y5,L,y9,G,V,x5,R,D,P,T,y0,Q,U,x6,u4,y4,y6,Y,t] g (EE SS al (pf h0 (Yo n d neg h) (uC neg n d) tH)):=by
  intro p c6;intros;refine Di ((FE n d tb m.ok.wf).mono ?_);rintro _ h1 ⟨rfl,o1⟩;have m1:=m.trans o1;rw[xm l i];refine⟨_,_,rfl,aa (λe=>by cases e) (λ_=>?_)⟩;refine aa (λe=>⟨_,qh,m4 w m1 (λc=>?_)⟩) (λe=>?_)
  ·have e:¬ag (Nat.gcd (Num.val n) (Num.val d))=[49]:=by simpa using e
   exact e (ei.2 c.2.2.2.2.2.2)
  ·have e:ag (Nat.gcd (Num.val n) (Num.val d))=[49]:=by simpa using e
   refine Dj ⟨_,Zr neg n d,JH w m1 neg n d true (λ_ o=>wz o ?_)⟩;exact⟨l,i,q,j,p,c6,ei.1 e⟩
 refine Dh (aa (λg5=>aa (λg6=>⟨_,qh,m4 w m (λc=>?_)⟩) (λg6=>?_)) (λg5=>?_))
 ·exact c.2.2.2.2.1 ⟨g5,by simpa using g6⟩
 ·have p:¬(neg=true/\n=[48]):=λc=>by
   have:¬n=[48]:=by simpa using g6
   exact this c.2
  refine aa (λb=>aa (λa=>⟨_,qh,m4 w m (λc=>?_)⟩) (λa=>aa (λf=>⟨_,qh,m4 w m (λc=>?_)⟩) (λf=>?_))) (λb=>?_)
  ·exact c.2.2.2.2.2.1 ⟨b,.inl (by simpa using a)⟩
  ·exact c.2.2.2.2.2.1 ⟨b,.inr (by simpa using f)⟩
  ·refine r p (λc=>?_);have a:¬d=[48]:=by simpa using a
   have f:¬d=[49]:=by simpa using f
   exact c.2.elim a f
  ·exact r p (λc=>by rw[c.1]at b;cases b)
 ·have p:¬(neg=true/\n=[48]):=λc=>by rw[c.1]at g5;cases g5
  refine aa (λb=>aa (λa=>⟨_,qh,m4 w m (λc=>?_)⟩) (λa=>aa (λf=>⟨_,qh,m4 w m (λc=>?_)⟩) (λf=>?_))) (λb=>?_)
  ·exact c.2.2.2.2.2.1 ⟨b,.inl (by simpa using a)⟩
  ·exact c.2.2.2.2.2.1 ⟨b,.inr (by simpa using f)⟩
  ·refine r p (λc=>?_);have a:¬d=[48]:=by simpa using a
   have f:¬d=[49]:=by simpa using f
   exact c.2.elim a f
  ·exact r p (λc=>by rw[c.1]at b;cases b)
theorem Hv(q:pf h (Yo (Num.numOf s) (ak s) (Num.isNeg s) (bo s)) (uC (Num.isNeg s) (Num.numOf s) (ak s)) tH v g):v=r4 s/\Ok h g:=by
 obtain⟨o,d,b⟩:=q;refine⟨?_,o⟩;unfold r4;by_cases a:ax s=true
 ·rw[if_pos a];have r:=aP.1 a;exact d ⟨r.num,r.den,r.ln,r.ld,r.neg,r.fr,r.one⟩
 ·rw[if_neg a];exact b λc=>a (aP.2 ⟨c.1,c.2.1,c.2.2.1,c.2.2.2.1,c.2.2.2.2.1,c.2.2.2.2.2.1,c.2.2.2.2.2.2⟩)
theorem nr(l:List UInt8)(m:l.length<=1000000000){h:ae}(o:nO h)(w:Wf h):FW SS 145 [strOf l] h (λv n=>v=r4 l/\Ok h n):=by
 refine FW.mono (Q:=pf h (Yo (Num.numOf l) (ak l) (Num.isNeg l) (bo l)) (uC (Num.isNeg l) (Num.numOf l) (ak l)) tH) ?_ (λ_ _ q=>Hv q);have f:KZ h h.next (h.push qS):=⟨⟨_,rfl,by rw[ae.bt,if_pos rfl];rfl⟩,Nat.le_refl _,(Ok.refl w).push _⟩
 refine JY l h _ ⟨_,vr,(Pc l _).mono ?_⟩;rintro _ r ⟨rfl,rfl⟩;have j:(bj l).length<=1000000000:=by
  unfold bj;split
  ·rw[length_drop];omega
  ·exact m
 refine⟨_,_,rfl,(aaw _ j f.ok.wf).mono ?_⟩;rintro _ p ⟨rfl,i⟩;have c:=f.trans i;have g:=o.ok c.ok;unfold Pd;by_cases b:cJ 47 (bj l)<(bj l).length
 ·rw[if_pos b];have a:bo l=true:=decide_eq_true b;have d:ak l=(bj l).drop (cJ 47 (bj l)+1):=by unfold ak;rw[if_pos a]
  rw[a];refine⟨_,_,_,rfl,aa (λe=>by cases e) (λ_=>?_)⟩;rw[<-d];exact N3 _ _ _ true _ w c g
 ·rw[if_neg b];have a:bo l=false:=decide_eq_false b;have d:ak l=[49]:=by unfold ak;rw[a];rfl
  have k:Num.numOf l=bj l:=by unfold Num.numOf;rw[take_of_length_le (by omega)]
  rw[a,k,d];refine⟨_,_,_,rfl,aa (λ_=>?_) (λe=>by cases e)⟩;exact N3 _ _ _ false _ w c g
theorem Mg(l:List UInt8):∃(cs:List Value)(b:Bool),r4 l = .tuple ⟨[.agg ⟨cs⟩,.bool b]⟩/\b=ax l:=by
 unfold r4
 cases g:ax l with
 |true=>exact⟨_,_,rfl,rfl⟩
 |false=>exact⟨_,_,rfl,rfl⟩
theorem pT(l:List UInt8)(c:l.length<=1000000000){h:ae}(f:nO h)(w:Wf h):FW SS 109 [strOf l] h (λv d=>v = .bool (ax l)/\Ok h d):=by
 refine JZ l h _ ((nr l c f w).mono ?_);rintro _ i ⟨rfl,a⟩;obtain⟨cs,b,e,g⟩:=Mg l;exact⟨cs,b,e,by rw[g],a⟩
theorem rF(k:Nat):aG SS.P 155 (.pointer (some ⟨k,0,none⟩)) 0=some (.pointer (some ⟨k,0,none⟩)):=by kernel_rfl
theorem pK(k:Nat):aG SS.P 155 (.pointer (some ⟨k,0,none⟩)) 1=some (.pointer (some ⟨k,1,none⟩)):=by kernel_rfl
theorem lR(k:Nat):aG SS.P 155 (.pointer (some ⟨k,0,none⟩)) 2=some (.pointer (some ⟨k,2,none⟩)):=by kernel_rfl
theorem un4:SS.P.underlying 4=some .bool:=Tryz.underlying4
theorem ag4:Go.Ab.isAgg SS.P 4=false:=by kernel_rfl
theorem Rx:Go.Ab.isAgg SS.P 9=false:=by kernel_rfl
def jj(g:ae)(k:Nat)(b:Bool)(n d:List UInt8):Prop:=g.get k=some (.cells [.bool b,strOf n,strOf d] 155 0 true)
theorem jj.ok(x:jj h k b s t)(o:Ok h g):jj g k b s t:=o.ext _ _ x
theorem jj.l0(x:jj h k b s t):aj SS.P 4 h (.pointer (some ⟨k,0,none⟩))=some (.bool b):=cq un4 ag4 x (by simp)
theorem jj.l1(x:jj h k b s t):aj SS.P 9 h (.pointer (some ⟨k,1,none⟩))=some (strOf s):=cq KV Rx x (by simp)
theorem jj.l2(x:jj h k b s t):aj SS.P 9 h (.pointer (some ⟨k,2,none⟩))=some (strOf t):=cq KV Rx x (by simp)
theorem Dc(w:Wf h)(b:Bool)(n d:List UInt8):∃u:dM,ah SS.P 155 (.pointer (some ⟨h.next,0,none⟩)) (.agg ⟨[.bool b,strOf n,strOf d]⟩) (h.push qS)=some (undef,u)/\Ok h (u.app (h.push qS))/\jj (u.app (h.push qS)) h.next b n d:=by
 have a:(h.push qS).get h.next=some qS:=by rw[ae.bt,if_pos rfl]
 refine⟨_,Vj (cs0:=[.bool false,strOf [],strOf []]) rfl a b n d,?_,?_⟩
 ·exact((Ok.refl w).push _).set _ (Nat.le_refl _) (Nat.lt_succ_self _) w
 ·show((h.push qS).set h.next _).get h.next=_;rw[ae.aw,if_pos rfl]
theorem FJ(l:List UInt8):∃(b:Bool)(n d:List UInt8),r4 l = .tuple ⟨[.agg ⟨[.bool b,strOf n,strOf d]⟩,.bool (ax l)]⟩/\(ax l=true->b=Num.isNeg l/\n=Num.numOf l/\d=ak l):=by
 unfold r4
 cases g:ax l with
 |true=>exact⟨_,_,_,rfl,λ_=>⟨rfl,rfl,rfl⟩⟩
 |false=>exact⟨_,_,_,rfl,λe=>by cases e⟩
theorem jg(b:Bool):dG 4 (.bool b) (.bool b)=true:=by simp[dG]
theorem kJ(l:List UInt8):dG 4 (strOf l) (strOf l)=true:=by simp[dG,strOf]
theorem FN(l m:List UInt8)(S:l.length<=1000000000)(N:m.length<=1000000000){h:ae}(s:nO h)(w:Wf h):FW SS 149 [strOf l,strOf m] h (λv X=>v = .int .i64 (cz l m)/\Ok h X):=by
 refine Qq l m h _ ((nr l S s w).mono ?_);rintro _ K ⟨rfl,F⟩;obtain⟨b,n,d,O,f1⟩:=FJ l;obtain⟨I,s1,Y,Q⟩:=Dc F.wf b n d;refine⟨_,_,O,_,vr,I,s1,?_⟩;have r:=F.trans Y;generalize I.app (K.push qS)=g1 at*;refine(nr m N (s.ok r) r.wf).mono ?_;rintro _ L ⟨rfl,C⟩;obtain⟨Z,W,U,e2,f2⟩:=FJ m;obtain⟨E,P,J,g⟩:=Dc C.wf Z W U;refine⟨_,_,e2,_,vr,E,P,?_⟩;have f:=(r.trans C).trans J;have i:=(Q.ok C).ok J;generalize E.app (L.push qS)=H at*;generalize K.next=k1 at*;generalize L.next=k2 at*;refine aa (λq=>⟨?_,f⟩) (λq=>aa (λa=>⟨?_,f⟩) (λa=>?_))
 ·have q:ax l=false:=by simpa using q
  unfold cz;rw[if_neg (λc=>by rw[c.1]at q;cases q)]
 ·have a:ax m=false:=by simpa using a
  unfold cz;rw[if_neg (λc=>by rw[c.2]at a;cases a)]
 have q:ax l=true:=by simpa using q
 have a:ax m=true:=by simpa using a
 obtain⟨rfl,rfl,rfl⟩:=f1 q;obtain⟨rfl,rfl,rfl⟩:=f2 a;have j:=aP.1 q;have k:=aP.1 a;have o:Ok H (Go.Ab.room H 27):=(Ok.refl f.wf).room 27;refine⟨_,rF _,_,(i.ok o).l0,_,pK _,_,(i.ok o).l1,_,lR _,_,(g.ok o).l2,?_⟩;have y:=f.trans o;refine(mD _ _ (s.ok y) y.wf).mono ?_;rintro _ R ⟨rfl,o3⟩;rw[(di j.num k.den j.ln k.ld).1];refine⟨_,_,rfl,(fp _ _).mono ?_⟩;rintro _ G ⟨rfl,D⟩;obtain rfl:R=G:=D.symm;have e:=o.trans o3;refine⟨_,rfl,_,rF _,_,(g.ok e).l0,_,pK _,_,(g.ok e).l1,_,lR _,_,(i.ok e).l2,?_⟩;have A:=f.trans e;refine(mD _ _ (s.ok A) A.wf).mono ?_;rintro _ h4 ⟨rfl,T⟩;rw[(di k.num j.den k.ln j.ld).1];refine⟨_,_,rfl,(fp _ _).mono ?_⟩;rintro _ M ⟨rfl,D⟩;obtain rfl:h4=M:=D.symm;have t:=e.trans T;have x:=f.trans t;refine⟨_,rfl,(Dk _ _ _ _ (di j.num k.den j.ln k.ld).2 (di k.num j.den k.ln j.ld).2 (s.ok x) x.wf).mono ?_⟩;rintro _ h5 ⟨rfl,V⟩;have u:=x.trans V;refine⟨_,_,rfl,⟨(i.ok e).l0,jg _⟩,⟨(i.ok e).l0,jg _⟩,⟨(i.ok t).l0,jg _⟩,⟨(i.ok t).l0,jg _⟩,⟨(g.ok o).l0,jg _⟩,⟨(g.ok e).l0,jg _⟩,⟨(g.ok t).l0,jg _⟩,⟨(g.ok t).l0,jg _⟩,⟨(g.ok o).l1,kJ _⟩,⟨(g.ok e).l1,kJ _⟩,⟨(i.ok o).l2,kJ _⟩,⟨(i.ok e).l2,kJ _⟩,?_⟩;unfold cz;rw[if_pos ⟨q,a⟩];generalize de _ _ _ _=z;refine aa (λp=>⟨?_,u⟩) (λp=>?_)
 ·have p:ag z.2=[48]:=by simpa using p
  rw[if_pos (bM.1 p)]
 ·have p:¬ag z.2=[48]:=by simpa using p
  rw[if_neg (λc=>p (bM.2 c))];refine aa (λB=>⟨?_,u⟩) (λB=>⟨?_,u⟩)
  ·rw[if_pos B]
  ·rw[if_neg (by rw[B];simp)]
noncomputable def MK:FD:=cG Tryz.f93 []
theorem Kh  (h:ae) (Q:VH) (g:xN (br SS.P 119) h λ_ f=>xA (bh SS.P 99 [(0,(strOf [105,110,102])),(1,(strOf [48])),(2,(.bool true)),(3,(.func (.func 106) ⟨[]⟩ ⟨[]⟩)),(4,(.func (.func 107) ⟨[]⟩ ⟨[]⟩)),(5,(.func (.func 108) ⟨[]⟩ ⟨[]⟩)),(6,(.func (.func 109) ⟨[]⟩ ⟨[]⟩)),(7,(.func (.func 109) ⟨[]⟩ ⟨[]⟩))]) λe=>xA (bh SS.P 99 [(0,(strOf [48])),(1,(strOf [49])),(2,(.bool false)),(3,(.func (.func 110) ⟨[]⟩ ⟨[]⟩)),(4,(.func (.func 111) ⟨[]⟩ ⟨[]⟩)),(5,(.func (.func 112) ⟨[]⟩ ⟨[]⟩)),(6,(.func (.func 113) ⟨[]⟩ ⟨[]⟩)),(7,(.func (.func 114) ⟨[]⟩ ⟨[]⟩))]) λd=>xA (bh SS.P 99 [(0,(strOf [48])),(1,(strOf [49])),(2,(.bool false)),(3,(.func (.func 106) ⟨[]⟩ ⟨[]⟩)),(4,(.func (.func 111) ⟨[]⟩ ⟨[]⟩)),(5,(.func (.func 115) ⟨[]⟩ ⟨[]⟩)),(6,(.func (.func 113) ⟨[]⟩ ⟨[]⟩)),(7,(.func (.func 114) ⟨[]⟩ ⟨[]⟩))]) λc=>xA (bh SS.P 119 [(1,(.agg ⟨e⟩)),(2,(.agg ⟨d⟩)),(3,(.agg ⟨c⟩))]) λb=>xU (ah SS.P 119 (pA (h.next)) (.agg ⟨b⟩) f) f λ_ a=>dY SS [((pA (h.next)),some 119)] a Q):FW SS 93 [] h Q:=cQ MK Tryz.func93 (ai g)
noncomputable def YE:FD:=cG Tryz.f69 []
theorem U9(g:Int)(h:ae)(Q:VH)(i:xN (br SS.P 99) h λ_ f=>au (decide ((g:Int)<1)) (xA (bh SS.P 99 []) λb=>xU (ah SS.P 99 (pA (h.next)) (.agg ⟨b⟩) f) f λ_ a=>dY SS [((pA (h.next)),some 99),((.bool false),none)] a Q) (au (decide ((g:Int)>3)) (xA (bh SS.P 99 []) λb=>xU (ah SS.P 99 (pA (h.next)) (.agg ⟨b⟩) f) f λ_ a=>dY SS [((pA (h.next)),some 99),((.bool false),none)] a Q) (FW SS 93 [] f λd e=>yA d λc=>xA (bP SS.P 119 (.agg ⟨c⟩) (.int .i64 g)) λb=>xU (ah SS.P 99 (pA (h.next)) (.agg ⟨b⟩) e) e λ_ a=>dY SS [((pA (h.next)),some 99),((.bool true),none)] a Q))):FW SS 69 [(.int .i64 g)] h Q:=cQ YE Tryz.func69 (ai i)
noncomputable def EO:FD:=cG Tryz.f114 []
theorem Dw(l:LB)(h:ae)(Q:VH)(g:FW SS 109 [(strOf l)] h λe f=>yB e λd=>au d (FW SS 149 [(strOf l),(strOf [48])] f λb c=>yI .i64 b λa=>Q (.bool (decide ((a:Int)>0))) c) (Q (.bool false) f)):FW SS 114 [(strOf l)] h Q:=cQ EO Tryz.func114 (ai g)
noncomputable def Kl:FD:=cG Tryz.f41 []
theorem HL(o:Int)(l:LB)(h:ae)(Q:VH)(p:FW SS 69 [(.int .i64 o)] h λm n=>∃k:LV,∃j:Bool,m=(.tuple ⟨[(.agg ⟨k⟩),(.bool j)]⟩)/\xN (br SS.P 99) n λ_ i=>xU (ah SS.P 99 (pA (n.next)) (.agg ⟨k⟩) i) i λ_ h=>au j (fP 99 (pA (n.next)) 7 λg=>xF (aj SS.P 97 h (.pointer (some g))) λd e f=>au (Nat.blt d YB) (FW SS d (e++[(strOf l)]++f) h λb c=>yB b λa=>Q (.bool a) c) False) (Q (.bool false) h)):FW SS 41 [(.int .i64 o),(strOf l)] h Q:=cQ Kl Tryz.func41 (ai p)
noncomputable def Mz:FD:=cG Tryz.f14 []
theorem AS(a:Int)(h:ae)(Q:VH)(b:au (decide ((a:Int)>=1)) (Q (.bool (decide ((a:Int)<=3))) h) (Q (.bool false) h)):FW SS 14 [(.int .i64 a)] h Q:=cQ Mz Tryz.func14 (ai b)
noncomputable def J5:FD:=cG Tryz.f47 []
theorem HG(j:Int)(l:LB)(h:ae)(Q:VH)(k:FW SS 14 [(.int .i64 j)] h λh i=>yB h λg=>au (!g) (Q (.bool false) i) (au ((l:LB)==[105,110,102]) (au ((l:LB)==[105,110,102]) (Q (.bool true) i) (Q (.bool (((j:Int)==1))) i)) (au ((l:LB)==[45,105,110,102]) (au ((l:LB)==[105,110,102]) (Q (.bool true) i) (Q (.bool (((j:Int)==1))) i)) (FW SS 71 [(strOf l)] i λe f=>yB e λd=>au d (au (((j:Int)==1)) (Q (.bool true) f) (FW SS 72 [(strOf l),(strOf [48])] f λb c=>yI .i64 b λa=>Q (.bool (decide ((a:Int)>=0))) c)) (Q (.bool false) f))))):FW SS 47 [(.int .i64 j),(strOf l)] h Q:=cQ J5 Tryz.func47 (ai k)
noncomputable def HH:FD:=cG Tryz.f16 []
theorem EJ(d:Int)(l:LB)(h:ae)(Q:VH)(e:FW SS 47 [(.int .i64 d),(strOf l)] h λb c=>yB b λa=>au a (au (!((l:LB)==[105,110,102])) (au (!((l:LB)==[45,105,110,102])) (au (((d:Int)==1)) (Q (.bool true) c) (Q (.bool (!((l:LB)==[48]))) c)) (Q (.bool false) c)) (Q (.bool false) c)) (Q (.bool false) c)):FW SS 16 [(.int .i64 d),(strOf l)] h Q:=cQ HH Tryz.func16 (ai e)
variable{P:Program}{n:Nat}{c:List Value}
theorem kS{t:TypeId}(c:aE P t=some n){h:ae}{k:Nat}{cs0:List Value}(g:cs0.length=n)(d:h.get k=some (.cells cs0 t 0 true)){cs:List Value}(f:cs.length=n)(a:cs.all dO=true):ah P t (.pointer (some ⟨k,0,none⟩)) (.agg ⟨cs⟩) h=some (undef,.set k (.cells cs t 0 true)):=by
 unfold ah;dsimp only;have b:(Value.agg ⟨cs⟩).cells.size=n:=by show cs.toArray.size=n;simpa using f
 have e:(Value.agg ⟨cs⟩).cells.toList=cs:=rfl;rw[if_pos (by rw[b,c])];unfold storeAt;rw[d,e];dsimp only;rw[if_pos ⟨by omega,a⟩,List.drop_eq_nil_of_le (by omega)];simp
theorem ph(w:Wf g)(o:Ok g h){k:Nat}{t:TypeId}{a cs:List Value}(c:h.get k=some (.cells a t 0 true))(b:g.next<=k):Ok g ((dM.set k (.cells cs t 0 true)).app h)/\((dM.set k (.cells cs t 0 true)).app h).get k=some (.cells cs t 0 true):=by
 refine⟨o.set _ b (o.wf _ _ c) w,?_⟩;show(h.set k _).get k=_;rw[ae.aw,if_pos rfl]
theorem aJ(h:ae)(B:dS):(h.push B).get h.next=some B:=by rw[ae.bt,if_pos rfl]
def oU(i:Nat):Value:= .func (.func i) ⟨[]⟩ ⟨[]⟩
def nt:List Value:=[strOf [],strOf [],.bool false,.nilFunc,.nilFunc,.nilFunc,.nilFunc,.nilFunc]
def yk:List Value:=[strOf [105,110,102],strOf [48],.bool true,oU 106,oU 107,oU 108,oU 109,oU 109]
def yl:List Value:=[strOf [48],strOf [49],.bool false,oU 110,oU 111,oU 112,oU 113,oU 114]
def ym:List Value:=[strOf [48],strOf [49],.bool false,oU 106,oU 111,oU 115,oU 113,oU 114]
def zS:List Value:=nt++yk++yl++ym
def Wx:dS:= .cells (nt++nt++nt++nt) 119 0 true
def KQ:dS:= .cells nt 99 0 true
theorem abH:br SS.P 119=some (Wx,k6):=by kernel_rfl
theorem RZ:br SS.P 99=some (KQ,k6):=by kernel_rfl
theorem Vs:aE SS.P 119=some 32:=by kernel_rfl
theorem DJ:aE SS.P 99=some 8:=by kernel_rfl
theorem abz:Go.Ab.isAgg SS.P 119=true:=by kernel_rfl
theorem abG:Go.Ab.isAgg SS.P 99=true:=by kernel_rfl
noncomputable def abb:TypeDesc:=(SS.P.underlying 119).getD .bool
theorem ac8:SS.P.underlying 119=some abb:=by kernel_rfl
noncomputable def adp:TypeDesc:=(SS.P.underlying 99).getD .bool
theorem ado:SS.P.underlying 99=some adp:=by kernel_rfl
noncomputable def adn:TypeDesc:=(SS.P.underlying 97).getD .bool
theorem adm:SS.P.underlying 97=some adn:=by kernel_rfl
theorem abF:Go.Ab.isAgg SS.P 97=false:=by kernel_rfl
theorem aao:bh SS.P 99 [(0,(strOf [105,110,102])),(1,(strOf [48])),(2,(.bool true)),(3,(.func (.func 106) ⟨[]⟩ ⟨[]⟩)),(4,(.func (.func 107) ⟨[]⟩ ⟨[]⟩)),(5,(.func (.func 108) ⟨[]⟩ ⟨[]⟩)),(6,(.func (.func 109) ⟨[]⟩ ⟨[]⟩)),(7,(.func (.func 109) ⟨[]⟩ ⟨[]⟩))]=some (.agg ⟨yk⟩):=by kernel_rfl
theorem aap:bh SS.P 99 [(0,(strOf [48])),(1,(strOf [49])),(2,(.bool false)),(3,(.func (.func 110) ⟨[]⟩ ⟨[]⟩)),(4,(.func (.func 111) ⟨[]⟩ ⟨[]⟩)),(5,(.func (.func 112) ⟨[]⟩ ⟨[]⟩)),(6,(.func (.func 113) ⟨[]⟩ ⟨[]⟩)),(7,(.func (.func 114) ⟨[]⟩ ⟨[]⟩))]=some (.agg ⟨yl⟩):=by kernel_rfl
theorem aaq:bh SS.P 99 [(0,(strOf [48])),(1,(strOf [49])),(2,(.bool false)),(3,(.func (.func 106) ⟨[]⟩ ⟨[]⟩)),(4,(.func (.func 111) ⟨[]⟩ ⟨[]⟩)),(5,(.func (.func 115) ⟨[]⟩ ⟨[]⟩)),(6,(.func (.func 113) ⟨[]⟩ ⟨[]⟩)),(7,(.func (.func 114) ⟨[]⟩ ⟨[]⟩))]=some (.agg ⟨ym⟩):=by kernel_rfl
theorem SA:bh SS.P 99 []=some (.agg ⟨nt⟩):=by kernel_rfl
theorem ach:bh SS.P 119 [(1,(.agg ⟨yk⟩)),(2,(.agg ⟨yl⟩)),(3,(.agg ⟨ym⟩))]=some (.agg ⟨zS⟩):=by kernel_rfl
theorem Ki(w:Wf h):FW SS 93 [] h (λv b=>v = .agg ⟨zS⟩/\Ok h b):=by
 have a:(h.push Wx).get h.next=some (.cells (nt++nt++nt++nt) 119 0 true):=aJ h Wx;refine Kh h _ ⟨_,abH,_,aao,_,aap,_,aaq,_,ach,_,kS Vs (by rfl) a (cs:=zS) (by rfl) (by rfl),?_⟩;obtain⟨o,g⟩:=ph (cs:=zS) w ((Ok.refl w).push Wx) a (Nat.le_refl _);refine I9 (v:= .agg ⟨zS⟩) (o0 ac8 abz Vs g (by simp[zS,nt,yk,yl,ym])) ?_;exact⟨rfl,o⟩
def X7(a:Int):Value:=if a=1 then .tuple ⟨[.agg ⟨yk⟩,.bool true]⟩else if a=2 then .tuple ⟨[.agg ⟨yl⟩,.bool true]⟩else if a=3 then .tuple ⟨[.agg ⟨ym⟩,.bool true]⟩else .tuple ⟨[.agg ⟨nt⟩,.bool false]⟩
theorem C8(w:Wf h){g:ae}(o:Ok h g){k:Nat}{a:List Value}(i:a.length=8)(d:g.get k=some (.cells a 99 0 true))(e:h.next<=k){cs:List Value}(l:cs.length=8)(f:cs.all dO=true)(b:Bool){Q:VH}(j:∀c,Ok h c->Q (.tuple ⟨[.agg ⟨cs⟩,.bool b]⟩) c):
  ∃u:dM,ah SS.P 99 (.pointer (some ⟨k,0,none⟩)) (.agg ⟨cs⟩) g=some (undef,u)/\dY SS [(.pointer (some ⟨k,0,none⟩),some 99),(.bool b,none)] (u.app g) Q:=by
 refine⟨_,kS DJ i d l f,?_⟩;obtain⟨o,g⟩:=ph (cs:=cs) w o d e;refine xj (v:= .agg ⟨cs⟩) (by rw[o0 ado abG DJ g (by omega),drop_zero,take_of_length_le (by omega)]) ?_;exact j _ o
theorem Dv(a:Int){h:ae}(w:Wf h):FW SS 69 [.int .i64 a] h (λv j=>v=X7 a/\Ok h j):=by
 have c:=(Ok.refl w).push KQ;have f:=aJ h KQ;refine U9 a h _ ⟨_,RZ,aa (λg=>?_) (λg=>aa (λb=>?_) (λb=>?_))⟩
 ·have g:=dT g;refine⟨_,SA,C8 w c rfl f (Nat.le_refl _) rfl rfl false (λ_ o=>⟨?_,o⟩)⟩;unfold X7;rw[if_neg (by omega),if_neg (by omega),if_neg (by omega)]
 ·have b:=dT b;refine⟨_,SA,C8 w c rfl f (Nat.le_refl _) rfl rfl false (λ_ o=>⟨?_,o⟩)⟩;unfold X7;rw[if_neg (by omega),if_neg (by omega),if_neg (by omega)]
 ·have g:=dF g;have b:=dF b;refine(Ki c.wf).mono ?_;rintro _ k ⟨rfl,i⟩;have d:=i.ext _ _ f;have e:=c.trans i;obtain rfl|rfl|rfl:a=1\/a=2\/a=3:=by omega
  ·exact⟨_,rfl,yk,by kernel_rfl,C8 w e rfl d (Nat.le_refl _) rfl rfl true (λ_ o=>⟨rfl,o⟩)⟩
  ·exact⟨_,rfl,yl,by kernel_rfl,C8 w e rfl d (Nat.le_refl _) rfl rfl true (λ_ o=>⟨rfl,o⟩)⟩
  ·exact⟨_,rfl,ym,by kernel_rfl,C8 w e rfl d (Nat.le_refl _) rfl rfl true (λ_ o=>⟨rfl,o⟩)⟩
theorem tS(l:List UInt8)(b:l.length<=1000000000){h:ae}(c:nO h)(w:Wf h):FW SS 114 [strOf l] h (λv d=>v = .bool (ax l&&decide (0<cz l [48]))/\Ok h d):=by
 refine Dw l h _ ((pT l b c w).mono ?_);rintro _ f ⟨rfl,a⟩;refine⟨_,rfl,aa (λg=>?_) (λg=>?_)⟩
 ·refine(FN l [48] b (by simp) (c.ok a) a.wf).mono ?_;rintro _ i ⟨rfl,e⟩;refine⟨_,rfl,?_,a.trans e⟩;rw[g,Bool.true_and]
 ·refine⟨?_,a⟩;rw[g,Bool.false_and]
theorem aes{A B:Prop}(c:b=true)(a:A):au b A B:=aa (λ_=>a) (λe=>by rw[c]at e;cases e)
theorem O4{K:VH}(d:Nat.blt n YB=true)(e:FW SS n c h λv a=>∃b:Bool,v = .bool b/\K (.bool b) a):au (Nat.blt n YB) (FW SS n ([]++c++[]) h λv a=>∃b:Bool,v = .bool b/\K (.bool b) a) False:=
 aes d (by rw[nil_append,List.append_nil];exact e)
theorem l9(a:Int)(l:List UInt8)(u:l.length<=1000000000){h:ae}(z:nO h)(w:Wf h):FW SS 41 [.int .i64 a,strOf l] h (λv y=>v = .bool (ba a l)/\Ok h y):=by
 refine HL a l h _ ((Dv a w).mono ?_);rintro _ b ⟨rfl,c⟩;have j:∀(cs:List Value)(f:Nat),cs.length=8->cs.all dO=true->cs.getD 7 undef=oU f->Nat.blt f YB=true->(∀g,Ok h g->FW SS f [strOf l] g (λv y=>v = .bool (ba a l)/\Ok g y))->X7 a = .tuple ⟨[.agg ⟨cs⟩,.bool true]⟩->∃p:List Value,∃D:Bool,X7 a=(.tuple ⟨[(.agg ⟨p⟩),(.bool D)]⟩)/\∃m:dS,br SS.P 99=some (m,k6)/\∃n:dM,ah SS.P 99 (.pointer (some ⟨b.next,0,none⟩)) (.agg ⟨p⟩) (b.push m)=some (undef,n)/\au D (∃E:Addr,aG SS.P 99 (.pointer (some ⟨b.next,0,none⟩)) 7=some (.pointer (some E))/\∃(t:Nat)(B r:List Value),aj SS.P 97 (n.app (b.push m)) (.pointer (some E))=some (.func (.func t) ⟨B⟩ ⟨r⟩)/\au (Nat.blt t YB) (FW SS t (B++[(strOf l)]++r) (n.app (b.push m)) λA k=>∃s:Bool,A=(.bool s)/\(Value.bool s = .bool (ba a l)/\Ok h k)) False) (Value.bool false = .bool (ba a l)/\Ok h (n.app (b.push m))):=by
  intro cs f M I H J L e;refine⟨_,_,e,_,RZ,_,kS DJ rfl (aJ b KQ) M I,aa (λ_=>?_) (λg=>by cases g)⟩;obtain⟨o,g⟩:=ph (cs:=cs) c.wf ((Ok.refl c.wf).push KQ) (aJ b KQ) (Nat.le_refl _);have q:=cq adm abF g (i:=7) (by omega);rw[H]at q;refine⟨⟨b.next,7,none⟩,by kernel_rfl,f,[],[],q,?_⟩;refine O4 (K:=λv k=>v = .bool (ba a l)/\Ok h k) J ((L _ (c.trans o)).mono ?_);rintro _ x ⟨rfl,d⟩;exact⟨_,rfl,rfl,(c.trans o).trans d⟩
 by_cases F:a=1
 ·subst F;refine j yk 109 rfl rfl rfl (by decide +kernel) (λg o=>?_) rfl;refine(pT l u (z.ok o) o.wf).mono ?_;rintro _ x ⟨rfl,d⟩;refine⟨?_,d⟩;unfold ba;simp
 by_cases C:a=2
 ·subst C;refine j yl 114 rfl rfl rfl (by decide +kernel) (λg o=>?_) rfl;refine(tS l u (z.ok o) o.wf).mono ?_;rintro _ x ⟨rfl,d⟩;refine⟨?_,d⟩;unfold ba;simp
 by_cases G:a=3
 ·subst G;refine j ym 114 rfl rfl rfl (by decide +kernel) (λg o=>?_) rfl;refine(tS l u (z.ok o) o.wf).mono ?_;rintro _ x ⟨rfl,d⟩;refine⟨?_,d⟩;unfold ba;simp
 ·have e:X7 a = .tuple ⟨[.agg ⟨nt⟩,.bool false]⟩:=by unfold X7;rw[if_neg F,if_neg C,if_neg G]
  refine⟨_,_,e,_,RZ,_,kS DJ rfl (aJ b KQ) (cs:=nt) rfl rfl,aa (λg=>by cases g) (λ_=>?_)⟩;obtain⟨o,g⟩:=ph (cs:=nt) c.wf ((Ok.refl c.wf).push KQ) (aJ b KQ) (Nat.le_refl _);refine⟨?_,c.trans o⟩;unfold ba;rw[decide_eq_false (by omega)];rfl
theorem xY(a:Int)(l:List UInt8)(k:l.length<=1000000000){h:ae}(w:Wf h):FW SS 47 [.int .i64 a,strOf l] h (λv j=>v = .bool (decide (1<=a/\a<=3)&&(l==[105,110,102]||l==[45,105,110,102]&&a==1||ax l&&(a==1||decide (0<=cz l [48]))))/\Ok h j):=by
 have m:FW SS 14 [.int .i64 a] h (λv j=>v = .bool (decide (1<=a/\a<=3))/\j=h):=by
  refine AS a h _ (aa (λg=>⟨?_,rfl⟩) (λg=>⟨?_,rfl⟩))
  ·have g:=dT g;congr 1;exact decide_eq_decide.2 ⟨λc=>⟨g,c⟩,λc=>c.2⟩
  ·have g:=dF g;rw[decide_eq_false (by omega)]
 refine HG a l h _ (m.mono ?_);rintro _ p ⟨rfl,o⟩;obtain rfl:h=p:=o.symm;refine⟨_,rfl,aa (λg=>⟨?_,Ok.refl w⟩) (λg=>?_)⟩
 ·rw[Bool.not_eq_true']at g;rw[g];rfl
 rw[Bool.not_eq_false']at g;rw[g,Bool.true_and];refine aa (λe=>aa (λ_=>⟨?_,Ok.refl w⟩) (λb=>by rw[e]at b;cases b)) (λe=>aa (λb=>aa (λd=>by rw[e]at d;cases d) (λ_=>⟨?_,Ok.refl w⟩)) (λb=>?_))
 ·rw[e];rfl
 ·rw[e,b];rw[show l=[45,105,110,102] by simpa using b,vo];simp
 ·rw[e,b];refine(xX l k w).mono ?_;rintro _ q ⟨rfl,f⟩;refine⟨_,rfl,aa (λd=>aa (λi=>⟨?_,f⟩) (λi=>?_)) (λd=>⟨?_,f⟩)⟩
  ·rw[d,i];rfl
  ·refine(Dp l [48] k (by simp) f.wf).mono ?_;rintro _ r ⟨rfl,n⟩;refine⟨_,rfl,?_,f.trans n⟩;rw[d,i];simp
  ·rw[d];rfl
theorem m5(a:Int)(l:List UInt8)(r:l.length<=1000000000){h:ae}(w:Wf h):FW SS 16 [.int .i64 a,strOf l] h (λv s=>v = .bool (ba a l)/\Ok h s):=by
 refine EJ a l h _ ((xY a l r w).mono ?_);rintro _ m ⟨rfl,d⟩;have q:(l==[105,110,102])=true->ax l=false:=λe=>by rw[show l=[105,110,102] by simpa using e];exact Im
 have t:(l==[45,105,110,102])=true->ax l=false:=λe=>by rw[show l=[45,105,110,102] by simpa using e];exact vo
 unfold ba;generalize decide (1<=a/\a<=3)=K;refine⟨_,rfl,aa (λg=>?_) (λg=>⟨?_,d⟩)⟩
 ·refine aa (λi=>aa (λf=>?_) (λf=>⟨?_,d⟩)) (λi=>⟨?_,d⟩)
  ·have i:(l==[105,110,102])=false:=by simpa using i
   have f:(l==[45,105,110,102])=false:=by simpa using f
   rw[i,f]at g;simp only[Bool.false_or,Bool.false_and,and_eq_true]at g;obtain⟨p,k,b⟩:=g;rw[p,k];refine aa (λn=>⟨?_,d⟩) (λn=>⟨?_,d⟩)
   ·rw[n];rfl
   ·rw[n]at b⊢;simp only[Bool.false_or,decide_eq_true_eq]at b;have:=Ec k;congr 1;by_cases j:l=[48]
    ·have m:=this.2 j;rw[m,j];rfl
    ·have m:¬cz l [48]=0:=λc=>j (this.1 c);rw[decide_eq_true (by omega:0<cz l [48])];simpa using j
  ·rw[t (by simpa using f)];simp
  ·rw[q (by simpa using i)];simp
 ·congr 1
  cases K with
  |false=>rfl
  |true=>
   rw[Bool.true_and]at g⊢;simp only[Bool.or_eq_false_iff,Bool.and_eq_false_iff]at g;obtain⟨⟨p,k⟩,b⟩:=g;rcases b with b|⟨b,o⟩
   ·rw[b];rfl
   ·have o:=dF o;rw[b,decide_eq_false (by omega)];simp
variable{m:Nat}
section
def mh(h:ae)(v:Value)(l:List gZ):Prop:=Ek h 70 4 v (l.map fE)
def uL(p:dP×Value):List Value:=[strOf p.1.f,p.2]
def dx(h:ae)(v:Value)(l:List dP):Prop:=∃a:List (dP×Value),a.map (·.1)=l/\Ek h 73 2 v (a.map uL)/\(∀p∈a,mh h p.2 p.1.arcs)/\v≠vx
theorem dx.ok{a:ae}{l:List dP}(r:dx h v l)(o:Ok h a):dx a v l:=by
 obtain⟨f,c,d,b,e⟩:=r;exact⟨f,c,d.ok o,λp g=>Ek.ok (b p g) o,e⟩
theorem dx.len{a:Option Addr}{n c:Nat}{l:List dP}(r:dx h (.slice a n c) l):n=l.length:=by
 obtain⟨f,b,d,e,_⟩:=r;rw[d.len,lM,<-b,lM]
theorem zY:SS.P.underlying 27=some (.slice 73):=by kernel_rfl
theorem Va:SS.P.underlying 71=some (.slice 70):=by kernel_rfl
theorem Vu:aE SS.P 73=some 2:=by kernel_rfl
theorem Of:aE SS.P 70=some 4:=by kernel_rfl
theorem tX:aE SS.P 29=some 4:=by kernel_rfl
theorem abE:Go.Ab.isAgg SS.P 73=true:=by kernel_rfl
theorem Z3:Go.Ab.isAgg SS.P 70=true:=by kernel_rfl
theorem Lj:Go.Ab.isAgg SS.P 29=true:=by kernel_rfl
theorem Em:Go.Ab.isAgg SS.P 27=false:=by kernel_rfl
theorem Z4:Go.Ab.isAgg SS.P 71=false:=by kernel_rfl
noncomputable def adk:TypeDesc:=(SS.P.underlying 73).getD .bool
theorem adj:SS.P.underlying 73=some adk:=by kernel_rfl
noncomputable def adi:TypeDesc:=(SS.P.underlying 70).getD .bool
theorem abh:SS.P.underlying 70=some adi:=by kernel_rfl
noncomputable def ade:TypeDesc:=(SS.P.underlying 29).getD .bool
theorem M4:SS.P.underlying 29=some ade:=by kernel_rfl
theorem dD(k:Nat):aG SS.P 29 (.pointer (some ⟨k,0,none⟩)) 0=some (.pointer (some ⟨k,0,none⟩)):=by kernel_rfl
theorem tn(k:Nat):aG SS.P 29 (.pointer (some ⟨k,0,none⟩)) 1=some (.pointer (some ⟨k,1,none⟩)):=by kernel_rfl
theorem mC(k:Nat):aG SS.P 29 (.pointer (some ⟨k,0,none⟩)) 2=some (.pointer (some ⟨k,2,none⟩)):=by kernel_rfl
theorem da(k:Nat):aG SS.P 29 (.pointer (some ⟨k,0,none⟩)) 3=some (.pointer (some ⟨k,3,none⟩)):=by kernel_rfl
theorem nE(k o:Nat):aG SS.P 73 (.pointer (some ⟨k,o,none⟩)) 0=some (.pointer (some ⟨k,o+0,none⟩)):=by kernel_rfl
theorem iu(k o:Nat):aG SS.P 73 (.pointer (some ⟨k,o,none⟩)) 1=some (.pointer (some ⟨k,o+1,none⟩)):=by kernel_rfl
theorem zA(k o:Nat):aG SS.P 70 (.pointer (some ⟨k,o,none⟩)) 0=some (.pointer (some ⟨k,o+0,none⟩)):=by kernel_rfl
theorem zB(k o:Nat):aG SS.P 70 (.pointer (some ⟨k,o,none⟩)) 1=some (.pointer (some ⟨k,o+1,none⟩)):=by kernel_rfl
theorem CD(k o:Nat):aG SS.P 70 (.pointer (some ⟨k,o,none⟩)) 2=some (.pointer (some ⟨k,o+2,none⟩)):=by kernel_rfl
theorem rG(k o:Nat):aG SS.P 70 (.pointer (some ⟨k,o,none⟩)) 3=some (.pointer (some ⟨k,o+3,none⟩)):=by kernel_rfl
structure MB(g:ae)(k:Nat)(M:bw)(a:Option Addr)(n c:Nat):Prop where
 box:g.get k=some (.cells [.int .i64 M.kind,.int .i64 M.start,strOf M.lead,.slice a n c] 29 0 true)
 row:dx g (.slice a n c) M.af
section
variable {g g':ae} {k:Nat} {M:bw} {a:Option Addr} {n c:Nat}
theorem MB.ok(m:MB g k M a n c)(o:Ok g g'):MB g' k M a n c:=⟨o.ext _ _ m.box,m.row.ok o⟩
theorem MB.l0(m:MB g k M a n c):aj SS.P 3 g (.pointer (some ⟨k,0,none⟩))=some (.int .i64 M.kind):=cq Gm Fa m.box (by simp)
theorem MB.l1(m:MB g k M a n c):aj SS.P 3 g (.pointer (some ⟨k,1,none⟩))=some (.int .i64 M.start):=cq Gm Fa m.box (by simp)
theorem MB.l2(m:MB g k M a n c):aj SS.P 9 g (.pointer (some ⟨k,2,none⟩))=some (strOf M.lead):=cq KV Rx m.box (by simp)
theorem MB.l3(m:MB g k M a n c):aj SS.P 27 g (.pointer (some ⟨k,3,none⟩))=some (.slice a n c):=cq zY Em m.box (by simp)
theorem MB.all(m:MB g k M a n c):aj SS.P 29 g (.pointer (some ⟨k,0,none⟩))=some (.agg ⟨[.int .i64 M.kind,.int .i64 M.start,strOf M.lead,.slice a n c]⟩):=o0 M4 Lj tX m.box (by simp)
theorem MB.len(m:MB g k M a n c):n=M.af.length:=m.row.len
end
theorem dx.at_{g:ae}{a:Option Addr}{n c:Nat}{l:List dP}(r:dx g (.slice a n c) l){i:Nat}{s:dP}(k:l[i]?=some s):
  ∃(b o:Nat)(x:Option Addr)(y z:Nat),aA SS.P 27 (.slice a n c) (.int .i64 (i:Int))=some (.pointer (some ⟨b,o,none⟩))/\aj SS.P 73 g (.pointer (some ⟨b,o,none⟩))=some (.agg ⟨[strOf s.f,.slice x y z]⟩)/\
   aj SS.P 9 g (.pointer (some ⟨b,o+0,none⟩))=some (strOf s.f)/\aj SS.P 71 g (.pointer (some ⟨b,o+1,none⟩))=some (.slice x y z)/\mh g (.slice x y z) s.arcs:=by
 obtain⟨B,v,w,t,_⟩:=r;rw[<-v,getElem?_map]at k;obtain⟨p,j,rfl⟩:=Option.map_eq_some_iff.1 k;have C:=(List.getElem?_eq_some_iff.1 j).1;obtain⟨b,o,q,d,e⟩:=w.at_ zY Vu adj abE (ik:= .i64) (i:=(i:Int)) (by omega) (by rw[lM];omega);have A:(B.map uL).getD (i:Int).toNat []=uL p:=by
  rw[toNat_natCast,gD,getElem?_map,j];rfl
 rw[A]at d e;have f:=t p (List.mem_of_getElem? j);obtain⟨x,z,u⟩:=Ek.Wv f;have m:=e 9 _ 0 KV Rx (by omega);have h:=e 71 _ 1 Va Z4 (by omega);unfold uL at d m h;rw[u]at d h f;exact⟨b,o,x,_,z,q,d,m,h,f⟩
theorem mh.len{g:ae}{x:Option Addr}{z:Nat}{l:List gZ}(r:mh g (.slice x m z) l):m=l.length:=by
 have:=Ek.len r;rwa[lM]at this
theorem mh.ok{a:ae}{l:List gZ}(r:mh h v l)(o:Ok h a):mh a v l:=Ek.ok r o
theorem mh.at_{g:ae}{x:Option Addr}{z:Nat}{l:List gZ}(r:mh g (.slice x m z) l){j:Nat}{q:gZ}(c:l[j]?=some q):
  ∃(b o:Nat),aA SS.P 71 (.slice x m z) (.int .i64 (j:Int))=some (.pointer (some ⟨b,o,none⟩))/\aj SS.P 70 g (.pointer (some ⟨b,o,none⟩))=some (.agg ⟨fE q⟩)/\
   aj SS.P 3 g (.pointer (some ⟨b,o+0,none⟩))=some (.int .i64 q.i)/\aj SS.P 3 g (.pointer (some ⟨b,o+1,none⟩))=some (.int .i64 q.o)/\aj SS.P 9 g (.pointer (some ⟨b,o+2,none⟩))=some (strOf q.w)/\aj SS.P 3 g (.pointer (some ⟨b,o+3,none⟩))=some (.int .i64 q.t):=by
 have h:=(List.getElem?_eq_some_iff.1 c).1;obtain⟨b,o,e,d,a⟩:=Ek.at_ Va Of abh Z3 r (ik:= .i64) (i:=(j:Int)) (by omega) (by rw[lM];omega);have f:(l.map fE).getD (j:Int).toNat []=fE q:=by
  rw[toNat_natCast,gD,getElem?_map,c];rfl
 rw[f]at d a;exact⟨b,o,e,d,a 3 _ 0 Gm Fa (by omega),a 3 _ 1 Gm Fa (by omega),a 9 _ 2 KV Rx (by omega),a 3 _ 3 Gm Fa (by omega)⟩
def SB(g:ae)(k:Nat)(f:List UInt8)(x:Option Addr)(y z:Nat):Prop:=g.get k=some (.cells [strOf f,.slice x y z] 73 0 true)
theorem SB.ok{g g':ae}{k:Nat}{x:Option Addr}{z:Nat}(s:SB g k t x m z)(o:Ok g g'):SB g' k t x m z:=o.ext _ _ s
theorem SB.l0{g:ae}{k:Nat}{x:Option Addr}{z:Nat}(s:SB g k t x m z):aj SS.P 9 g (.pointer (some ⟨k,0+0,none⟩))=some (strOf t):=cq KV Rx s (by simp)
theorem SB.l1{g:ae}{k:Nat}{x:Option Addr}{z:Nat}(s:SB g k t x m z):aj SS.P 71 g (.pointer (some ⟨k,0+1,none⟩))=some (.slice x m z):=cq Va Z4 s (by simp)
def AB(g:ae)(k:Nat)(q:gZ):Prop:=g.get k=some (.cells (fE q) 70 0 true)
theorem AB.ok{g g':ae}{k:Nat}{q:gZ}(s:AB g k q)(o:Ok g g'):AB g' k q:=o.ext _ _ s
theorem AB.l0{g:ae}{k:Nat}{q:gZ}(s:AB g k q):aj SS.P 3 g (.pointer (some ⟨k,0+0,none⟩))=some (.int .i64 q.i):=cq Gm Fa s (by simp[fE])
theorem AB.l1{g:ae}{k:Nat}{q:gZ}(s:AB g k q):aj SS.P 3 g (.pointer (some ⟨k,0+1,none⟩))=some (.int .i64 q.o):=cq Gm Fa s (by simp[fE])
theorem AB.l2{g:ae}{k:Nat}{q:gZ}(s:AB g k q):aj SS.P 9 g (.pointer (some ⟨k,0+2,none⟩))=some (strOf q.w):=cq KV Rx s (by simp[fE])
theorem AB.l3{g:ae}{k:Nat}{q:gZ}(s:AB g k q):aj SS.P 3 g (.pointer (some ⟨k,0+3,none⟩))=some (.int .i64 q.t):=cq Gm Fa s (by simp[fE])
def RC:dS:= .cells [strOf [],.slice none 0 0] 73 0 true
theorem WL:br SS.P 73=some (RC,k6):=by kernel_rfl
def Om:dS:= .cells [.int .i64 0,.int .i64 0,strOf [],.int .i64 0] 70 0 true
theorem RY:br SS.P 70=some (Om,k6):=by kernel_rfl
theorem NX(w:Wf h)(f:List UInt8)(x:Option Addr)(y z:Nat):∃u:dM,ah SS.P 73 (.pointer (some ⟨h.next,0,none⟩)) (.agg ⟨[strOf f,.slice x y z]⟩) (h.push RC)=some (undef,u)/\Ok h (u.app (h.push RC))/\SB (u.app (h.push RC)) h.next f x y z:=by
 obtain⟨o,e⟩:=ph (cs:=[strOf f,.slice x y z]) w ((Ok.refl w).push RC) (aJ h RC) (Nat.le_refl _);exact⟨_,kS Vu rfl (aJ h RC) rfl rfl,o,e⟩
theorem JT(w:Wf h)(q:gZ):∃u:dM,ah SS.P 70 (.pointer (some ⟨h.next,0,none⟩)) (.agg ⟨fE q⟩) (h.push Om)=some (undef,u)/\Ok h (u.app (h.push Om))/\AB (u.app (h.push Om)) h.next q:=by
 obtain⟨o,e⟩:=ph (cs:=fE q) w ((Ok.refl w).push Om) (aJ h Om) (Nat.le_refl _);exact⟨_,kS Of rfl (aJ h Om) rfl rfl,o,e⟩
def bK(M:bw)(a:Option Addr)(n c:Nat):List Value:=[.int .i64 M.kind,.int .i64 M.start,strOf M.lead,.slice a n c]
def Bm(M:bw)(a:Option Addr)(n c:Nat):dS:= .cells (bK M a n c) 29 0 true
theorem iH(M:bw)(a:Option Addr)(n c:Nat):eK SS.P 29 (.agg ⟨bK M a n c⟩)=some (Bm M a n c,k6):=by kernel_rfl
theorem fo(w:Wf h){M:bw}{a:Option Addr}{n c:Nat}(r:dx h (.slice a n c) M.af):MB (h.push (Bm M a n c)) h.next M a n c/\Ok h (h.push (Bm M a n c)):=
 ⟨⟨aJ h _,r.ok ((Ok.refl w).push _)⟩,(Ok.refl w).push _⟩
def sM(s:Int):Bool:=decide (0<=s)&&decide (s<=500)
def hI(b:Int)(N:Nat)(a:gZ):Bool:=sM a.i&&sM a.o&&decide (0<=a.t)&&decide (a.t<N)&&ba b a.w
def nQ(a:Int)(N:Nat):Int->List dP->Bool
 |_,[]=>true
 |b,s::r=>decide (b+s.arcs.length<=30000)&&(s.f==[]||ba a s.f)&&s.arcs.all (hI a N)&&nQ a N (b+s.arcs.length) r
def ca(M:bw):Bool:=decide (1<=M.kind)&&decide (M.kind<=3)&&decide (1<=M.af.length)&&decide (M.af.length<=3000)&&decide (0<=M.start)&&decide (M.start<M.af.length)&&ba M.kind M.lead&&nQ M.kind M.af.length 0 M.af
def cg(l:List dP):Nat:=(l.map λs=>s.arcs.length).sum
structure Small(M:bw):Prop where
 lead:M.lead.length<=900
 bL:M.af.length<=300
 fin:∀s∈M.af,s.f.length<=900
 arcs:∀s∈M.af,s.arcs.length<=2000
 w:∀s∈M.af,∀q∈s.arcs,q.w.length<=900
 tot:cg M.af<=2000
end
end Go.Proofs.YtaaichlgdgjgjaaGreatDoor
end
