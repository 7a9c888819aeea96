/- Laws and walks that the proof leans on (part 4): P7; P8; P9; P10; P11; P12 and others. No condition. -/
import Derived.Test.YtaaichlgdgjgjaaGreatDoorPart3
import Derived.Test.YtaaichlgdgjgjaaGreatDoorPart2
set_option linter.unusedVariables false
set_option linter.unusedSimpArgs false
set_option maxRecDepth 100000
open List (append_assoc drop_zero getElem?_eq_none getElem?_map length_append length_drop length_replicate length_set length_take map_append map_take nil_append take_length take_of_length_le take_zero)
open Nat (le_max_left le_max_right le_of_lt lt_of_lt_of_le lt_or_ge max_le mod_lt mul_le_mul mul_pos pow_le_pow_right)
open Int (toNat_natCast)
open Go.IntKind (wrap wrap_i64)
section
namespace Go.Proofs.YtaaichlgdgjgjaaGreatDoor
open Go Go.Ab Go.Num
variable{h:ae}{n:Nat}
section
def dj(cs:List Value)(off:Nat)(W:List Nat):List Value:=cs.take off++W.map uv++cs.drop (off+W.length)
structure Lt(h:ae)(k:Nat)(h':ae):Prop where
 wf:Wf h'
 kL:∀j B,j≠k->h.get j=some B->h'.get j=some B
 nx:h.next<=h'.next
theorem Lt.refl{k:Nat}(w:Wf h):Lt h k h:=⟨w,λ_ _ _ h=>h,Nat.le_refl _⟩
theorem Lt.room{h a:ae}{k:Nat}(o:Lt h k a)(n:Nat):Lt h k (room a n):=⟨λj B b=>lt_of_lt_of_le (o.wf j B b) (Nat.le_add_right _ _),o.kL,Nat.le_trans o.nx (Nat.le_add_right _ _)⟩
theorem Lt.set{c:ae}{k:Nat}(o:Lt h k c)(d:k<c.next)(B:eB):Lt h k (c.set k B):=by
 refine⟨λj C a=>?_,λj C b a=>?_,o.nx⟩
 ·rw[ae.ay]at a;split at a
  ·next e=>rw[e];exact d
  ·exact o.wf _ _ a
 ·rw[ae.ay,if_neg b];exact o.kL _ _ b a
theorem A3{k off c:Nat}{i:Int}(b:0<=i)(a:i<n):aD SS.P 177 (.slice (some ⟨k,off,none⟩) n c) (.int .i64 i)=some (.pointer (some ⟨k,off+i.toNat,none⟩)):=by
 unfold aD;rw[DG];dsimp only;rw[Hc];dsimp only;rw[if_pos ⟨b,a⟩,Nat.mul_one,dX]
section
variable {g:ae} {k off:Nat} {cs:List Value} {W:List Nat}
theorem F1(b:g.get k=some (.cells (dj cs off W) 150 1 true))(c:off+W.length<=cs.length){i:Nat}(a:i<W.length):aj SS.P 150 g (.pointer (some ⟨k,off+i,none⟩))=some (.int .u64 (W.getD i 0:Nat)):=by
 unfold aj;rw[Rj];dsimp only;rw[b];dsimp only;rw[Qr];simp only[Bool.false_eq_true,if_false];unfold dj;rw[append_assoc,List.getElem?_append_right (by rw[length_take];omega),length_take,Nat.min_eq_left (by omega),Nat.add_sub_cancel_left,List.getElem?_append_left (by rw[lM];exact a),getElem?_map,gE a,gD,gE a];rfl
theorem GH(h:g.get k=some (.cells (dj cs off W) 150 1 true))(j:off+W.length<=cs.length){i:Nat}(b:i<W.length)(d:Nat):ah SS.P 150 (.pointer (some ⟨k,off+i,none⟩)) (.int .u64 (d:Int)) g=some (undef,.set k (.cells (dj cs off (W.set i d)) 150 1 true)):=by
 show(if aI SS.P 150=some 1 then(storeAt g k (off+i) [.int .u64 (d:Int)]).map λu=>(undef,u)else none)=_;rw[if_pos Hc];unfold storeAt;rw[h];dsimp only;have a:(dj cs off W).length=cs.length:=by
  unfold dj;simp only[length_append,length_take,lM,length_drop];omega
 rw[if_pos ⟨by rw[a];simp;omega,rfl⟩];have e:(dj cs off W).take (off+i)++[Value.int .u64 (d:Int)]++(dj cs off W).drop (off+i+[Value.int .u64 (d:Int)].length)=dj cs off (W.set i d):=by
  have f:(cs.take off).length=off:=by rw[length_take];omega
  have c:(dj cs off W).take (off+i)++[Value.int .u64 (d:Int)]++(dj cs off W).drop (off+i+[Value.int .u64 (d:Int)].length)=(dj cs off W).set (off+i) (.int .u64 (d:Int)):=by
   rw[List.set_eq_take_append_cons_drop,if_pos (by rw[a];omega),append_assoc];rfl
  rw[c];unfold dj;rw[append_assoc,List.set_append,if_neg (by omega),f,Nat.add_sub_cancel_left,List.set_append,if_pos (by rw[lM];exact b),length_set,append_assoc,List.map_set];rfl
 rw[e];rfl
end
end
variable{z:Int}{k:Nat}{m:Nat}{y:List Nat}{l:Nat}
theorem Gv{a:Nat}:aB SS.P .rem 150 (.int .u64 (a:Int)) (.int .u64 1000000000)=some (.int .u64 ((a%BB:Nat):Int)):=by rfl
theorem IE{a:Nat}(h:a<18446744073709551616):aB SS.P .quo 150 (.int .u64 (a:Int)) (.int .u64 1000000000)=some (.int .u64 ((a/BB:Nat):Int)):=by
 have:=ss (P:=SS.P) (t:=150) (a:=(a:Int)) (b:=BB) (by omega) (by omega) (by decide)
 grind
theorem acP{a b:Nat}(c:0<b):aB SS.P .rem 150 (.int .u64 (a:Int)) (.int .u64 (b:Int))=some (.int .u64 ((a%b:Nat):Int)):=by grind[ke]
theorem Xo{a b:Nat}(h:a<18446744073709551616)(c:0<b):aB SS.P .quo 150 (.int .u64 (a:Int)) (.int .u64 (b:Int))=some (.int .u64 ((a/b:Nat):Int)):=by grind[ss]
theorem wU(h:z=(n:Int))(a:n<18446744073709551616):wrap .u64 z=(n:Int):=by grind[iL]
structure aco(h:ae)(k off c m:Nat)(cs:List Value)(U V:List Nat)(b:Option Addr)(d:Nat):Prop where
 w:Wf h
 get:h.get k=some (.cells (dj cs off U) 150 1 true)
 fit:off+U.length<=cs.length
 ul:U.length=m+1
 vl:V.length=m
 mp:0<m
 mle:m<=10000
 ult:∀x∈U,x<BB
 vlt:∀x∈V,x<BB
 v1:0<V.getD (m-1) 0
 lt:Num.bv BB U<BB*Num.bv BB V
 rd:∀g,Lt h k g->Rd g 150 (.slice b m d) (V.map uv)
def Jg(h:ae)(k a:Nat)(cs:List Value)(m:Nat)(U V:List Nat):VH:=λv b=>∃W:List Nat,W.length=m+1/\(∀x∈W,x<BB)/\Num.bv BB W=Num.bv BB U%Num.bv BB V/\v=uv (Num.bv BB U/Num.bv BB V)/\b.get k=some (.cells (dj cs a W) 150 1 true)/\Lt h k b
theorem My{c:Nat}{cs:List Value}{V:List Nat}{b:Option Addr}(D:aco h k n c m cs y V b l):
  FW SS 203 [.slice (some ⟨k,n,none⟩) (m+1) c,.slice b m l] h (Jg h k n cs m y V):=by
 have x9:BB=1000000000:=rfl;have w3:=D.ul;have v9:=D.vl;have x5:=D.mp;have u9:=D.mle;have F:0<BB:=by decide
 have ug:∀i,y.getD i 0<BB:=λi=>bm F D.ult i;have vg:∀i,V.getD i 0<BB:=λi=>bm F D.vlt i;have y3:wrap .i64 ((m:Int)-1)=((m-1:Nat):Int):=by rw[aF (by omega) (by omega)];omega
 have z5:1<m->wrap .i64 ((m:Int)-2)=((m-2:Nat):Int):=λhm=>by grind[aF]
 have M:wrap .i64 ((m:Int)+1)=(m:Int)+1:=aF (by omega) (by omega);have wi:∀i:Nat,i<=m->wrap .i64 ((i:Int)+1)=((i+1:Nat):Int):=λi hi=>by grind[aF]
 have L3:=λ(d:Nat) (W:List Nat) (y2:0<d) (w:d<BB) (w2:W.length=m+1) (o:∀x∈W,x<BB) (hq:d-1=Num.bv BB y/Num.bv BB V) (z3:Num.bv BB (bD (bh BB) W V 0 (m+1) 0)=Num.bv BB y%Num.bv BB V)=>
  yY (some ⟨k,n,none⟩) (m+1) c b m l (d:Int) ((m:Int)+1) (λa i cy g=>i<=m+1/\a=m+1-i/\cy=(fH (bh BB) W V 0 0 i:Nat)/\g.get k=some (.cells (dj cs n (bD (bh BB) W V 0 i 0++W.drop i)) 150 1 true)/\Lt h k g) (Jg h k n cs m y V) (by
  intro a i cy;intros;rename_i g hi;obtain⟨X,h2,rfl,B,E⟩:=hi;have f:(bD (bh BB) W V 0 i 0).length=i:=fJ _ _ _ _ _ _;have I:=jl (bh BB) W V i 0 0;rw[Nat.zero_add]at I;have x7:fH (bh BB) W V 0 0 (i+1)=(bh BB (W.getD i 0) (V.getD i 0) (fH (bh BB) W V 0 0 i)).2:=by
   show(bh BB (W.getD (0+i) 0) (V.getD (0+i) 0) _).2=_;rw[Nat.zero_add]
  have wg:W.getD i 0<BB:=bm F o i;have v5:fH (bh BB) W V 0 0 i<=1:=by
   clear x7 I f B h2 X
   induction i with
   |zero=>exact Nat.zero_le _
   |succ j ih=>
    have a1:=bm (b:=BB) F o (0+j);have a2:=vg (0+j);have a3:=ih (bm F o j);show(W.getD (0+j) 0+V.getD (0+j) 0+fH (bh BB) W V 0 0 j)/BB<=1
    grind
  have u6:=vg i;have z2:(bD (bh BB) W V 0 i 0++W.drop i).length=m+1:=by rw[length_append,f,length_drop];omega
  have G:=D.fit;refine aa (λr=>?_) (λr=>?_)
  ·have r:=dT r;have J:=F1 B (by omega) (i:=i) (by omega);rw[AE _ _ f]at J;have R:=E.wf _ _ B;have step:∀(s:Nat),s=W.getD i 0+V.getD i 0+fH (bh BB) W V 0 0 i->
     ah SS.P 150 (.pointer (some ⟨k,n+i,none⟩)) (.int .u64 ((s%BB:Nat):Int)) g=some (undef,.set k (.cells (dj cs n (bD (bh BB) W V 0 (i+1) 0++W.drop (i+1))) 150 1 true)):=λs S=>by
    rw[GH B (by omega) (by omega),Dj _ _ f (by omega),I,S];rfl
   refine⟨_,A3 (by omega) (by omega),_,by rw[toNat_natCast];exact J,?_⟩;have e1:wrap .u64 (((W.getD i 0:Nat):Int)+((fH (bh BB) W V 0 0 i:Nat):Int))=((W.getD i 0+fH (bh BB) W V 0 0 i:Nat):Int):=wU (by omega) (by omega);dsimp only;rw[e1,wi i (by omega)];refine aa (λe=>?_) (λe=>?_)
   ·have e:=dT e;obtain⟨p,N,H⟩:=H7 (D.rd g E) (i:=(i:Int)) (by omega) (by omega);rw[toNat_natCast]at H;refine⟨p,N,_,H,?_⟩;have Z:wrap .u64 (((W.getD i 0+fH (bh BB) W V 0 0 i:Nat):Int)+((V.getD i 0:Nat):Int))=((W.getD i 0+V.getD i 0+fH (bh BB) W V 0 0 i:Nat):Int):=wU (by omega) (by omega);dsimp only;rw[Z];refine⟨_,Gv,_,IE (by omega),_,A3 (by omega) (by omega),_,by rw[toNat_natCast];exact step _ rfl,?_⟩;refine jV (a-1) (by omega) ⟨by omega,by omega,by rw[x7];rfl,?_,E.set R _⟩;show(g.set k _).get k=_;rw[ae.ay,if_pos rfl]
   ·have e:=dF e;have y5:V.getD i 0=0:=by rw[gD,getElem?_eq_none (by omega)];rfl
    refine⟨_,Gv,_,IE (by omega),_,A3 (by omega) (by omega),_,by rw[toNat_natCast];exact step _ (by omega),?_⟩;refine jV (a-1) (by omega) ⟨by omega,by omega,?_,?_,E.set R _⟩
    ·simp_all[bh]
    ·show(g.set k _).get k=_;rw[ae.ay,if_pos rfl]
  ·have r:=dF r;obtain rfl:i=m+1:=by omega
   have e3:wrap .u64 ((d:Int)-1)=((d-1:Nat):Int):=wU (by omega) (by omega);rw[e3];rw[List.drop_of_length_le (by omega),List.append_nil]at B;exact⟨_,f,kG (λp q c=>mod_lt _ F) _ _ _ _ _,z3,by rw[hq];rfl,B,E⟩)
 have L2:=λ(d:Nat) (w:d<BB) (u5:Num.bv BB y<(d+1)*Num.bv BB V) (u0:d*Num.bv BB V<Num.bv BB y+Num.bv BB V)=>
  yX (some ⟨k,n,none⟩) (m+1) c b m l (d:Int) ((m:Int)+1) (λa i A cy g=>i<=m+1/\a=m+1-i/\A=((ck BB d y V 0 i 0 0).2.1:Nat)/\cy=((ck BB d y V 0 i 0 0).2.2:Nat)/\g.get k=some (.cells (dj cs n ((ck BB d y V 0 i 0 0).1++y.drop i)) 150 1 true)/\Lt h k g) (Jg h k n cs m y V) (by
  intro a i A cy;intros;rename_i g hi;obtain⟨X,h2,rfl,rfl,B,E⟩:=hi;have f:(ck BB d y V 0 i 0 0).1.length=i:=tO _ _ _ _ _ _ _ _;have I:=wq BB d y V i 0 0 0;rw[Nat.zero_add]at I;have z4:=Hh (q:=d) (v:=V) iI D.ult i;have z8:=vP iI w (u:=y) D.vlt i;generalize u2:ck BB d y V 0 i 0 0=st at*;obtain⟨Wl,A,cy⟩:=st;dsimp only at f B z4 z8 I⊢;have z2:(Wl++y.drop i).length=m+1:=by rw[length_append,f,length_drop];omega
  have G:=D.fit;have v8:=ug i;have u6:=vg i;have y1:d*V.getD i 0<=999999999*999999999:=mul_le_mul (by omega) (by omega);refine aa (λr=>?_) (λr=>?_)
  ·have r:=dT r;have J:=F1 B (by omega) (i:=i) (by omega);rw[AE _ _ f]at J;have R:=E.wf _ _ B;have step:∀(s:Nat),s=d*V.getD i 0+cy->
     ah SS.P 150 (.pointer (some ⟨k,n+i,none⟩)) (.int .u64 (((y.getD i 0+BB-s%BB-A)%BB:Nat):Int)) g=some (undef,.set k (.cells (dj cs n ((ck BB d y V 0 (i+1) 0 0).1++y.drop (i+1))) 150 1 true)):=λs S=>by
    rw[GH B (by omega) (by omega),Dj _ _ f (by omega),I,S];rfl
   have U:∀(s:Nat),s=d*V.getD i 0+cy->∀(z9:Addr),z9=⟨k,n+i,none⟩->
     ∃y6:Int,aB SS.P .rem 150 (.int .u64 (s:Int)) (.int .u64 1000000000)=some (.int .u64 y6)/\y6=((s%BB:Nat):Int):=λs _ _ _=>⟨_,Gv,rfl⟩
   rw[wi i (by omega)];have x2:∀(s:Nat),s=d*V.getD i 0+cy->((1-(y.getD i 0+BB-s%BB-A)/BB:Nat):Int)=((ck BB d y V 0 (i+1) 0 0).2.1:Nat)/\((s/BB:Nat):Int)=((ck BB d y V 0 (i+1) 0 0).2.2:Nat):=λs S=>by
    rw[I,S];exact⟨rfl,rfl⟩
   have ed:∀s:Nat,wrap .u64 (wrap .u64 (wrap .u64 (((y.getD i 0:Nat):Int)+1000000000)-((s%BB:Nat):Int))-(A:Int))=((y.getD i 0+BB-s%BB-A:Nat):Int):=λs=>by
    have hm:=mod_lt s F;generalize s%BB=z at hm;have a1:wrap .u64 (((y.getD i 0:Nat):Int)+1000000000)=((y.getD i 0+BB:Nat):Int):=wU (by omega) (by omega);have a2:wrap .u64 (((y.getD i 0+BB:Nat):Int)-(z:Int))=((y.getD i 0+BB-z:Nat):Int):=wU (by omega) (by omega);have a3:wrap .u64 (((y.getD i 0+BB-z:Nat):Int)-(A:Int))=((y.getD i 0+BB-z-A:Nat):Int):=wU (by omega) (by omega)
    grind
   have y9:∀s:Nat,wrap .u64 (1-(((y.getD i 0+BB-s%BB-A)/BB:Nat):Int))=((1-(y.getD i 0+BB-s%BB-A)/BB:Nat):Int):=λs=>by
    have h9:(y.getD i 0+BB-s%BB-A)/BB<2:=Nat.div_lt_of_lt_mul (by omega);generalize (y.getD i 0+BB-s%BB-A)/BB=z at h9⊢
    grind[wU]
   refine aa (λe=>?_) (λe=>?_)
   ·have e:=dT e;obtain⟨p,N,H⟩:=H7 (D.rd g E) (i:=(i:Int)) (by omega) (by omega);rw[toNat_natCast]at H;refine⟨p,N,_,H,_,A3 (by omega) (by omega),_,by rw[toNat_natCast];exact J,?_⟩;have Z:wrap .u64 ((cy:Int)+wrap .u64 ((d:Int)*((V.getD i 0:Nat):Int)))=((d*V.getD i 0+cy:Nat):Int):=by
     have e0:wrap .u64 ((d:Int)*((V.getD i 0:Nat):Int))=((d*V.getD i 0:Nat):Int):=wU (by rfl) (by omega);rw[e0];exact wU (by omega) (by omega)
    rw[Z];refine⟨_,Gv,?_⟩;dsimp only;rw[ed];have hm:=mod_lt (d*V.getD i 0+cy) F;refine⟨_,Gv,_,IE (by omega),_,IE (by omega),_,A3 (by omega) (by omega),_,by rw[toNat_natCast];exact step _ rfl,?_⟩;rw[y9];refine Mj (a-1) (by omega) ⟨by omega,by omega,(x2 _ rfl).1,(x2 _ rfl).2,?_,E.set R _⟩;show(g.set k _).get k=_;rw[ae.ay,if_pos rfl]
   ·have e:=dF e;have y5:V.getD i 0=0:=by rw[gD,getElem?_eq_none (by omega)];rfl
    have x4:cy=d*V.getD i 0+cy:=by rw[y5,Nat.mul_zero,Nat.zero_add]
    refine⟨_,A3 (by omega) (by omega),_,by rw[toNat_natCast];exact J,_,Gv,?_⟩;dsimp only;rw[ed];have hm:=mod_lt cy F;refine⟨_,Gv,_,IE (by omega),_,IE (by omega),_,A3 (by omega) (by omega),_,by rw[toNat_natCast];exact step _ x4,?_⟩;rw[y9];refine Mj (a-1) (by omega) ⟨by omega,by omega,(x2 _ x4).1,(x2 _ x4).2,?_,E.set R _⟩;show(g.set k _).get k=_;rw[ae.ay,if_pos rfl]
  ·have r:=dF r;obtain rfl:i=m+1:=by omega
   obtain⟨d0,d1,d2⟩:=Jn iI D.ult D.vlt D.ul D.vl w u5 u0;have o:=yf (q:=d) iI y V (m+1) 0 0 0;rw[u2]at d0 d1 d2 o;dsimp only at d0 d1 d2 o;rw[List.drop_of_length_le (by omega),List.append_nil]at B;refine aa (λe=>?_) (λe=>?_)
   ·have e:(A:Int)=0:=by simpa using e
    obtain⟨e1,Z⟩:=d1 (by omega);exact⟨Wl,f,o,Z,by rw[e1];rfl,B,E⟩
   ·have e:¬(A:Int)=0:=by simpa using e
    obtain⟨e0,e1,Z⟩:=d2 (by omega);rw[M];exact L3 d Wl e0 w f o e1 Z (m+1) (i:=0) ⟨by omega,by omega,rfl,by grind[bD],E⟩)
 have L:=D.v1;have x8:y.getD m 0*BB+y.getD (m-1) 0<1000000000000000000:=by
  have a1:=ug m;have a2:=ug (m-1);have a3:y.getD m 0*BB=1000000000*y.getD m 0:=by rw[x9,Nat.mul_comm]
  omega
 have L1:=yW (some ⟨k,n,none⟩) (m+1) c b m l (λa q U g=>∃d C:Nat,q=(d:Int)/\U=(C:Int)/\a=d/\jk BB m y V d C/\g.get k=some (.cells (dj cs n y) 150 1 true)/\Lt h k g) (Jg h k n cs m y V) (by
  intro a q U;intros;rename_i g hi;obtain⟨d,C,rfl,rfl,rfl,T,B,E⟩:=hi;have hT:=T.eq;have G:=D.fit;have w0:C<1000000000000000000:=Nat.lt_of_le_of_lt (by omega) x8;have v7:a<1000000000000000000:=by
   refine Nat.lt_of_le_of_lt ?_ x8;rw[<-hT];have:=Nat.le_mul_of_pos_right a L;omega
  have t:=E.room 28;have x3:(room g 28).get k=some (.cells (dj cs n y) 150 1 true):=B;have v3:=vg (m-1);have hj:((m-1:Nat):Int).toNat=m-1:=by omega
  obtain⟨p1,N,H⟩:=H7 (D.rd _ t) (i:=((m-1:Nat):Int)) (by omega) (by omega);rw[hj]at H;have er:wrap .u64 ((C:Int)+((V.getD (m-1) 0:Nat):Int))=((C+V.getD (m-1) 0:Nat):Int):=wU (by omega) (by omega);have u8:∀(P:Nat),P<BB->Num.bv BB y<(P+1)*Num.bv BB V->P*Num.bv BB V<Num.bv BB y+Num.bv BB V->_:=λP X h2 h3=>L2 P X h2 h3;have y0:Num.bv BB y<a*Num.bv BB V->0<a/\jk BB m y V (a-1) (C+V.getD (m-1) 0):=λJ=>⟨by grind,T.lower J⟩
  have x1:a-1<BB->BB<=C+V.getD (m-1) 0->jk BB m y V (a-1) (C+V.getD (m-1) 0)->(a-1)*Num.bv BB V<Num.bv BB y+Num.bv BB V:=λX h2 K=>
   K.last iI D.ul D.vl x5 D.vlt L X λ_=>zl X (vg (m-2)) h2
  have v1:Num.bv BB y<a*Num.bv BB V->True:=λ_=>trivial;rw[y3];refine aa (λr=>?_) (λr=>?_)
  ·have r:=dT r;obtain⟨y2,K⟩:=y0 (jk.afs D.lt (by omega));have x6:wrap .u64 ((a:Int)-1)=((a-1:Nat):Int):=wU (by omega) (by omega);rw[x6];refine⟨p1,N,_,H,?_⟩;dsimp only;rw[er];generalize x0:decide (((a-1:Nat):Int)<1000000000)=bz;refine aa (λe=>aa (λO=>?_) (λO=>?_)) (λe=>?_)
   ·subst x0;have e:=dT e;have O:=dT O;rw[M];exact L2 (a-1) (by omega) K.hi (x1 (by omega) (by omega) K) (m+1) (i:=0) ⟨by omega,by omega,rfl,rfl,by grind[ck],t⟩
   ·exact jV (a-1) (by omega) ⟨a-1,_,rfl,rfl,rfl,K,x3,t⟩
   ·exact jV (a-1) (by omega) ⟨a-1,_,rfl,rfl,rfl,K,x3,t⟩
  ·have r:=dF r;have w:a<BB:=by omega
   have Y:(1<m->a*V.getD (m-2) 0<=C*BB+y.getD (m-2) 0)->a*Num.bv BB V<Num.bv BB y+Num.bv BB V:=λS=>T.last iI D.ul D.vl x5 D.vlt L w S;refine aa (λe=>?_) (λe=>?_)
   ·have e:=dT e;have y7:1<m:=by omega
    rw[z5 y7];generalize x0:decide ((C:Int)<1000000000)=bz;refine aa (λO=>?_) (λO=>?_)
    ·subst x0;have O:=dT O;have z1:((m-2:Nat):Int).toNat=m-2:=by omega
     obtain⟨p2,g4,g5⟩:=H7 (D.rd _ t) (i:=((m-2:Nat):Int)) (by omega) (by omega);rw[z1]at g5;have J:=F1 x3 G (i:=m-2) (by omega);refine⟨p2,g4,_,g5,_,A3 (by omega) (by omega),_,by rw[z1];exact J,?_⟩;have v4:=vg (m-2);have w1:=ug (m-2);have y1:a*V.getD (m-2) 0<=999999999*999999999:=mul_le_mul (by omega) (by omega);have ea:wrap .u64 ((a:Int)*((V.getD (m-2) 0:Nat):Int))=((a*V.getD (m-2) 0:Nat):Int):=wU (by rfl) (by omega);obtain⟨RB,u3⟩:∃x,x=C*BB:=⟨_,rfl⟩
     have v0:RB=1000000000*C:=by rw[u3,x9,Nat.mul_comm]
     obtain⟨MV,u1⟩:∃x,x=a*V.getD (m-2) 0:=⟨_,rfl⟩
     rw[<-u1]at y1 ea;have eb:wrap .u64 ((C:Int)*1000000000)=(RB:Int):=wU (by omega) (by omega);have ec:wrap .u64 ((RB:Int)+((y.getD (m-2) 0:Nat):Int))=((RB+y.getD (m-2) 0:Nat):Int):=wU (by omega) (by omega);dsimp only;rw[ea,eb,ec];generalize y8:decide ((MV:Int)>((RB+y.getD (m-2) 0:Nat):Int))=v6;refine aa (λh8=>?_) (λh8=>?_)
     ·subst y8;have h8:=dT h8;obtain⟨y2,K⟩:=y0 (T.second D.ul D.vl y7 D.ult (by grind));have x6:wrap .u64 ((a:Int)-1)=((a-1:Nat):Int):=wU (by omega) (by omega);rw[x6];refine⟨p1,N,_,H,?_⟩;dsimp only;rw[er];generalize w4:decide (((a-1:Nat):Int)<1000000000)=bx;refine aa (λh9=>aa (λu7=>?_) (λu7=>?_)) (λh9=>?_)
      ·have h9:=dT h9;rw[M];exact L2 (a-1) (by omega) K.hi (x1 (by omega) (by omega) K) (m+1) (i:=0) ⟨by omega,by omega,rfl,rfl,by grind[ck],t⟩
      ·grind
      ·exact jV (a-1) (by omega) ⟨a-1,_,rfl,rfl,rfl,K,x3,t⟩
     ·subst y8;have h8:=dF h8;rw[M];exact L2 a w T.hi (Y λ_=>by omega) (m+1) (i:=0) ⟨by omega,by omega,rfl,rfl,by grind[ck],t⟩
    ·subst x0;have O:=dF O;rw[M];exact L2 a w T.hi (Y λ_=>zl w (vg (m-2)) (by omega)) (m+1) (i:=0) ⟨by omega,by omega,rfl,rfl,by grind[ck],t⟩
   ·have e:=dF e;rw[M];exact L2 a w T.hi (Y λhm=>by omega) (m+1) (i:=0) ⟨by omega,by omega,rfl,rfl,by grind[ck],t⟩)
 have z7:=(Lt.refl (k:=k) D.w).room 12;have z0:=z7.room 16;have G:=D.fit;have hj:((m-1:Nat):Int).toNat=m-1:=by omega
 have z6:=F1 (g:=room h 12) D.get G (i:=m) (by omega);have u4:=F1 (g:=room h 12) D.get G (i:=m-1) (by omega);obtain⟨p1,N,H⟩:=H7 (D.rd _ z0) (i:=((m-1:Nat):Int)) (by omega) (by omega);rw[hj]at H;have a1:=ug m;have a2:=ug (m-1);refine Mx _ _ _ _ _ _ h _ ⟨_,A3 (by omega) (by omega),_,by rw[toNat_natCast];exact z6,?_⟩;rw[y3];refine⟨_,A3 (by omega) (by omega),_,by rw[hj];exact u4,p1,N,_,H,?_⟩;obtain⟨TB,y4⟩:∃x,x=y.getD m 0*BB:=⟨_,rfl⟩
 have v2:TB=1000000000*y.getD m 0:=by rw[y4,x9,Nat.mul_comm]
 have ea:wrap .u64 (((y.getD m 0:Nat):Int)*1000000000)=(TB:Int):=wU (by omega) (by omega);have eb:wrap .u64 ((TB:Int)+((y.getD (m-1) 0:Nat):Int))=((TB+y.getD (m-1) 0:Nat):Int):=wU (by omega) (by omega);rw[ea,eb];have Q:=jk.start iI D.ul D.vl x5 D.ult L;rw[<-y4]at Q;refine⟨_,Xo (by omega) L,p1,N,_,H,_,acP L,?_⟩;exact L1 _ ⟨_,_,rfl,rfl,rfl,Q,D.get,z0⟩
variable{g:ae}{T:TypeId}{v:Value}{c:List Value}{a:Option Addr}{x:List Nat}
theorem eO.age{b:ae}(d:g.next<=b.next)(o:eO b h T v c):eO g h T v c:=by
 rcases o with o|⟨k,cs,a,f,e,i,j⟩
 ·exact .inl o
 ·exact .inr ⟨k,cs,a,Nat.le_trans d f,e,i,j⟩
theorem adq(k:Int):fu SS.P 150 (.int .u64 k)=some (.cells [.int .u64 k] 150 0 true,np):=by kernel_rfl
theorem Be{c:Nat}(p:Rd h 150 (.slice a n c) (x.map uv))(m:∀d∈x,d<BB)(b:x.length<=10000){k:Nat}(g:0<k)(q:k<=BB)(w:Wf h):
  FW SS 202 [.slice a n c,.int .u64 (k:Int)] h (jS h 150 (bl (Num.bv BB x*k))):=by
 have e:=(Ok.refl w).push (.cells [.int .u64 (k:Int)] 150 0 true);refine J6 a n c _ h _ ⟨_,adq _,?_⟩;have r:aj SS.P 150 (h.push (.cells [.int .u64 (k:Int)] 150 0 true)) (.pointer (some ⟨h.next,0,none⟩))=some (.int .u64 (k:Int)):=by
  unfold aj;rw[Rj];dsimp only;rw[ae.bH,if_pos rfl];dsimp only;rw[Qr];rfl
 refine(Hv (p.ok e) m b r g q e.wf).mono ?_;rintro _ s ⟨j,f,l,rfl,o,i⟩;exact⟨j,f,l,rfl,j,f,l,rfl,eO.age (Nat.le_succ _) o,e.trans i⟩
def E8(h:ae)(k a n c:Nat)(l:List Nat):Prop:=∃cs b,h.get k=some (.cells cs 150 1 b)/\n=l.length/\(cs.drop a).take n=l.map uv/\n<=bY c
theorem E8.rd{c:Nat}(r:E8 h k n m c x):Rd h 150 (.slice (some ⟨k,n,none⟩) m c) (x.map uv):=by
 obtain⟨cs,d,b,rfl,a,e⟩:=r;exact .inr ⟨k,n,cs,c,d,by rw[lM],b,by rw[lM];exact a⟩
theorem E8.take{c:Nat}(r:E8 h k n m c x){j:Nat}(g:j<=m):cg SS.P 177 (.slice (some ⟨k,n,none⟩) m c) none (some (.int .i64 (j:Int))) none h=some (.slice (some ⟨k,n,none⟩) j c)/\E8 h k n j c (x.take j):=by
 obtain⟨cs,d,a,rfl,b,i⟩:=r;refine⟨?_,cs,d,a,by rw[length_take];omega,?_,by omega⟩
 ·unfold cg;dsimp only;rw[DG];dsimp only[gk];rw[Hc,a];dsimp only;have e:((j:Int)-((0:Nat):Int)).toNat=j:=by omega
  have f:((0:Nat):Int).toNat=0:=rfl;rw[if_pos (by simp),if_pos (by omega),e,f];rfl
 ·have:=congrArg (List.take j) b;rwa[List.take_take,Nat.min_eq_left g,<-map_take]at this
theorem so{c:Nat}(r:E8 h k n m c x)(y:x.length<=100000):
  FW SS 174 [.slice (some ⟨k,n,none⟩) m c] h (λv l=>v = .slice (some ⟨k,n,none⟩) (eC x).length c/\l=h):=by
 have s:m=x.length:=by obtain⟨_,_,_,D,_⟩:=r;exact D
 have L:=rI (some ⟨k,n,none⟩) m c (λa r q d g=>q<=x.length/\a=q/\r=some ⟨k,n,none⟩/\d=c/\E8 h k n q c (x.take q)/\eC x=eC (x.take q)/\g=h) (λv l=>v = .slice (some ⟨k,n,none⟩) (eC x).length c/\l=h) (by
  intro a r q d;intros;rename_i g F;obtain⟨C,rfl,rfl,rfl,t,o,rfl⟩:=F;have E:wrap .i64 ((a:Int)-1)=(a:Int)-1:=aF (by omega) (by omega);rw[E];have f:a≠0->x.take a=x.take (a-1)++[x.getD (a-1) 0]:=λf=>by
   obtain⟨j,rfl⟩:∃j,a=j+1:=⟨a-1,by omega⟩
   rw[List.take_succ_eq_append_getElem (by omega),Nat.add_sub_cancel,gD,gE (by omega)];rfl
  refine aa (λe=>?_) (λe=>?_)
  ·have e:=dT e;obtain⟨p,A,w⟩:=H7 t.rd (i:=(a:Int)-1) (by omega) (by rw[length_take];omega);have z:(x.take a).getD ((a:Int)-1).toNat 0=x.getD (a-1) 0:=by
    rw[show((a:Int)-1).toNat=a-1 by omega,gD,List.getElem?_take,if_pos (by omega),gD]
   rw[z]at w;refine⟨p,A,_,w,aa (λb=>?_) (λb=>?_)⟩
   ·have b:((x.getD (a-1) 0:Nat):Int)=0:=by simpa using b
    have b:x.getD (a-1) 0=0:=by omega
    obtain⟨B,u⟩:=t.take (j:=a-1) (by omega);rw[show((a:Int)-1)=((a-1:Nat):Int) by omega];refine⟨_,_,_,B,Mj (a-1) (by omega) ⟨by omega,rfl,rfl,rfl,?_,?_,rfl⟩⟩
    ·rw[List.take_take,Nat.min_eq_left (by omega)]at u;exact u
    ·rw[o,f (by omega),b,jU]
   ·have b:¬((x.getD (a-1) 0:Nat):Int)=0:=by simpa using b
    refine⟨?_,rfl⟩;rw[o,f (by omega),lJ _ (by omega),<-f (by omega),length_take,Nat.min_eq_left C]
  ·have e:=dF e;obtain rfl:a=0:=by omega
   refine⟨?_,rfl⟩;rw[o];rfl)
 exact F6 _ m c h _ (L m ⟨by omega,rfl,rfl,rfl,by rw[show x.take m=x by rw[s,take_length]];exact r,by rw[show x.take m=x by rw[s,take_length]],rfl⟩)
theorem Hb:∀n,dD [uv 0] n=(List.replicate n 0).map uv
 |0=>rfl
 |n+1=>by rw[dD,Hb n];rfl
noncomputable def YS:TypeInfo:=(SS.P.info? 150).getD default
theorem YT:SS.P.info? 150=some YS:=by kernel_rfl
theorem PV:YS.size=1:=by kernel_rfl
theorem NG:YS.bytes=8:=by kernel_rfl
theorem acn:zeroOf SS.P 150=some (uv 0):=by kernel_rfl
theorem acM(n:Nat)(a:n<=100000):cF SS.P 177 (.int .i64 (n:Int)) (.int .i64 (n:Int))=some (.cells ((List.replicate n 0).map uv) 150 1 true,ph n n):=by
 unfold cF cn;dsimp only;rw[DG]
 try dsimp only
 change (match SS.P.info? 150,zeroOf SS.P 150 with
  |some i,some z=>(if z.cells.size=i.size/\0<i.size/\(0:Int)<=(n:Int)/\(n:Int)<=(n:Int)/\(n:Int)*i.bytes<=140737488355328/\(n:Int)<=1099511627776 then some (eB.cells (dD z.cells.toList (n:Int).toNat) 150 i.size true,λk=>Value.slice (some ⟨k,0,none⟩) (n:Int).toNat (n:Int).toNat)else none)
  |_,_=>none)=_
 rw[YT,acn];dsimp only;rw[PV,NG,if_pos ⟨rfl,by omega,by omega,Int.le_refl _,by omega,by omega⟩];have e:((n:Int)).toNat=n:=by omega
 rw[e,show(uv 0).cells.toList=[uv 0]from rfl,Hb];rfl
theorem pN(h:(c.drop n).take x.length=x.map uv):dj c n x=c:=by
 unfold dj;rw[<-h,append_assoc,<-List.drop_drop,List.take_append_drop,List.take_append_drop]
theorem Ht{W:List Nat}(h:n+y.length<=x.length)(e:x.length<=c.length)(g:y.length=W.length)(f:(x.drop n).take W.length=W):
  dj (dj c 0 x) n y=dj c 0 (x.take n++y++x.drop (n+y.length)):=by
 unfold dj;have b:(c.take 0++x.map uv++c.drop (0+x.length)).take n=(x.take n).map uv:=by
  rw[take_zero,nil_append,List.take_append_of_le_length (by rw[lM];omega),map_take]
 have d:(c.take 0++x.map uv++c.drop (0+x.length)).drop (n+y.length)=(x.drop (n+y.length)).map uv++c.drop (0+x.length):=by
  rw[take_zero,nil_append,List.drop_append_of_le_length (by rw[lM];omega),List.map_drop]
 have a:(x.take n++y++x.drop (n+y.length)).length=x.length:=by
  simp only[length_append,length_take,length_drop];omega
 rw[b,d,a,map_append,map_append,take_zero,nil_append,append_assoc,append_assoc,append_assoc]
theorem sU(a:n+m<=x.length):((dj c 0 x).drop n).take m=((x.drop n).take m).map uv:=by
 unfold dj;rw[take_zero,nil_append,List.drop_append_of_le_length (by rw[lM];omega),List.take_append_of_le_length (by rw[length_drop,lM];omega),<-List.map_drop,<-map_take]
theorem FY(h:n+x.length<=c.length):(dj c n x).length=c.length:=by
 unfold dj;simp only[length_append,length_take,lM,length_drop];omega
theorem E8.KU{c:Nat}(r:E8 h k n m c x){lo hi:Nat}(f:lo<=hi)(i:hi<=m):cg SS.P 177 (.slice (some ⟨k,n,none⟩) m c) (some (.int .i64 (lo:Int))) (some (.int .i64 (hi:Int))) none h=some (.slice (some ⟨k,n+lo,none⟩) (hi-lo) (c-lo)):=by
 obtain⟨cs,g,a,rfl,e,j⟩:=r;unfold cg;dsimp only;rw[DG];dsimp only[gk];rw[Hc,a];dsimp only;have b:((hi:Int)-(lo:Int)).toNat=hi-lo:=by omega
 have d:((lo:Nat):Int).toNat=lo:=by omega
 rw[if_pos (by simp),if_pos (by omega),b,d,Nat.mul_one]
structure acV(h2 G:ae)(ku kv kq:Nat)(cu:List Value)(cv:List Value)(U Ql:List Nat)(N m XK V j:Nat):Prop where
 ok:Ok h2 G
 w2:Wf h2
 u2:h2.next<=ku
 q2:h2.next<=kq
 gu:G.get ku=some (.cells (dj cu 0 U) 150 1 true)
 gv:G.get kv=some (.cells cv 150 1 true)
 gq:G.get kq=some (.cells (dj ((List.replicate (N+1-m) 0).map uv) 0 Ql) 150 1 true)
 uv':ku≠kv
 uq:ku≠kq
 vq:kv≠kq
 ul:U.length=N+1
 cl:N+1<=cu.length
 adU:Ql.length=N+1-m
 ab4:(cv.take (bj BB V).length)=bl V
 inv:jF BB m V XK U Ql j
end Go.Proofs.YtaaichlgdgjgjaaGreatDoor
end
section
set_option linter.defProp false
namespace Go.Proofs.YtaaichlgdgjgjaaGreatDoor
open Go Go.Ab Go.Num
variable{h:ae}{k:Nat}{n:Nat}{d:List Value}{x:List Nat}{g:ae}
def Jh(h:ae)(X Y:Nat):VH:=λv a=>∃(g:Option Addr)(b e:Nat)(d:Option Addr)(c f:Nat),v = .tuple ⟨[.slice g b e,.slice d c f]⟩/\Rd a 150 (.slice g b e) (bl (X/Y))/\Rd a 150 (.slice d c f) (bl (X%Y))/\Ok h a
theorem Ex{c:Nat}(b:h.get k=some (.cells (dj d 0 x) 150 1 true))(a:n=x.length)(e:n<=bY c):E8 h k 0 n c x:=by
 refine⟨_,_,b,a,?_,e⟩;subst a;rw[sU (by omega),drop_zero,take_length]
theorem CO{c:Nat}(r:E8 g k 0 n c x)(b:∀d∈x,d<BB):Rd g 150 (.slice (some ⟨k,0,none⟩) (eC x).length c) (bl (Num.bv BB x)):=by
 obtain⟨e,i⟩:=AI x;have f:n=x.length:=by obtain⟨_,_,_,h,_⟩:=r;exact h
 have a:=(r.take (j:=(eC x).length) (by omega)).2.rd;rw[e,nh iI b]at a;rw[nh iI b];exact a
def aaI{h:ae}(w:Wf h){X Y ku kq f rc L k R:Nat}{C Zq:List Value}{Ql:List Nat}(G:h.next<=ku)(x3:h.next<=kq)(N:ku≠kq)(x6:f<=C.length)(x0:f<=10000)(V:L=Ql.length)(x4:L<=10000)(E:f<=bY rc)(u:L<=bY L)(v:0<k)(kB:k<=BB)
  (hQ:∀d∈Ql,d<BB) (Z:Num.bv BB Ql=X/Y) (hr:R/k=X%Y) (a:Option Addr) (n c:Nat) (b:Option Addr) (m d:Nat):=
 xg a n c b m d (k:Int) (some ⟨kq,0,none⟩) L L (some ⟨ku,0,none⟩) f rc (f:Int)
  (λD i left g=>i<=f/\D=f-i/\(∃(r:List Nat)(q:Nat),r.length=f/\left=(q:Int)/\mU BB k R r (f-i) q/\g.get ku=some (.cells (dj C 0 r) 150 1 true))/\g.get kq=some (.cells (dj Zq 0 Ql) 150 1 true)/\Ok h g) (Jh h X Y) (by
  intro D i left;intros;rename_i g hi;obtain⟨h1,h2,⟨r,q,j,rfl,l,y⟩,B,S⟩:=hi;have P:BB=1000000000:=rfl;have J:wrap .i64 ((f:Int)-1)=(f:Int)-1:=aF (by omega) (by omega);have F:wrap .i64 ((f:Int)-1-(i:Int))=(f:Int)-1-(i:Int):=aF (by omega) (by omega);have H:wrap .i64 ((i:Int)+1)=((i+1:Nat):Int):=by rw[aF (by omega) (by omega)];omega
  rw[J,F,H];refine aa (λs=>?_) (λs=>?_)
  ·have s:=dT s;have Q:((f:Int)-1-(i:Int)).toNat=f-1-i:=by omega
   have W:=F1 y (by rw[j];omega) (i:=f-1-i) (by rw[j];omega);have x2:=l.lt;have x5:r.getD (f-1-i) 0<BB:=bm (by decide) l.rl _;obtain⟨o,A⟩:∃x,x=q*BB:=⟨_,rfl⟩
   have x1:o=1000000000*q:=by rw[A,P,Nat.mul_comm]
   have T:wrap .u64 ((q:Int)*1000000000)=(o:Int):=wU (by omega) (by omega);have U:wrap .u64 ((o:Int)+((r.getD (f-1-i) 0:Nat):Int))=((o+r.getD (f-1-i) 0:Nat):Int):=wU (by omega) (by omega);refine⟨_,A3 (by omega) (by omega),_,by rw[Q];exact W,?_⟩;dsimp only;rw[T,U];refine⟨_,Xo (by omega) v,_,acP v,_,A3 (by omega) (by omega),?_⟩;have K:=GH (g:=room g 11) y (by rw[j];omega) (i:=f-1-i) (by rw[j];omega) ((o+r.getD (f-1-i) 0)/k);have z:=S.room 11;have O:=z.wf _ _ (show(room g 11).get ku=_ from y);refine⟨_,by rw[Q];exact K,?_⟩;have p:=mU.step (at':=f-1-i) v (by rw[show f-1-i+1=f-i by omega];exact l);rw[<-A]at p;refine jV (D-1) (by omega) ⟨by omega,by omega,⟨r.set (f-1-i) ((o+r.getD (f-1-i) 0)/k),(o+r.getD (f-1-i) 0)%k,by rw[length_set,j],rfl,by rw[show f-(i+1)=f-1-i by omega];exact p,?_⟩,?_,z.set _ G O w⟩
   ·show((room g 11).set ku _).get ku=_;rw[ae.ay,if_pos rfl]
   ·show((room g 11).set ku _).get kq=_;rw[ae.ay,if_neg (λe=>N e.symm)];exact B
  ·have s:=dF s;obtain rfl:i=f:=by omega
   rw[Nat.sub_self]at l;have t:=l.done v;have I:=Ex B V u;have M:=Ex y j.symm E;refine(so I (by omega)).mono ?_;rintro _ _ ⟨rfl,rfl⟩;refine⟨_,_,_,rfl,(so M (by omega)).mono ?_⟩;rintro _ _ ⟨rfl,rfl⟩;refine⟨_,_,_,rfl,_,_,_,_,_,_,rfl,?_,?_,S⟩
   ·have:=CO I hQ;rw[Z]at this;exact this
   ·have:=CO M l.rl;rw[t,hr]at this;exact this)
theorem Ok.but{b:ae}(o:Ok h g)(w:Wf h)(x:Lt g k b)(c:h.next<=k):Ok h b:=
 ⟨x.wf,λj B a=>x.kL j B (λe=>by have:=w _ _ a;omega) (o.ext j B a),Nat.le_trans o.nx x.nx⟩
def aaJ{h2:ae}{X Y N m L k ku kv kq ec:Nat}{cu cv:List Value}(hY:0<Y)(hm:0<m)(y4:m<=N)(hN:N<=5000)(hL:L=N+1-m)(u:0<k)(kB:k<=BB)(o:(bj BB (Y*k)).length=m)(H:Y*k<=BB^m)(a:Option Addr)(n c:Nat)(b:Option Addr)(d:Nat):=
 xf a n c b m d (k:Int) (some ⟨kq,0,none⟩) L L (some ⟨ku,0,none⟩) (N+1) (dK+cu.length) (some ⟨kv,0,none⟩) m ec (L:Int)
  (λO i G=>i<=L/\O=L-i/\∃U j:List Nat,acV h2 G ku kv kq cu cv U j N m (X*k) (Y*k) (L-i)) (Jh h2 X Y) (by
  intro O i;intros;rename_i G hi;obtain⟨h1,y2,U,j,D⟩:=hi;have M:0<Y*k:=mul_pos hY u;have x4:wrap .i64 ((L:Int)-1)=(L:Int)-1:=aF (by omega) (by omega);have x2:wrap .i64 ((i:Int)+1)=((i+1:Nat):Int):=by rw[aF (by omega) (by omega)];omega
  have s:bY (dK+cu.length)=cu.length:=by unfold bY;rw[if_pos (by omega)];omega
  have y1:=D.ul;have K:=D.cl;have F:=D.adU;have ru:=Ex (c:=dK+cu.length) D.gu y1.symm (by rw[s];exact K);rw[x4];refine aa (λv=>?_) (λv=>?_)
  ·have v:=dT v;obtain⟨f,y3⟩:∃x,x=L-1-i:=⟨_,rfl⟩
   have Z:wrap .i64 ((L:Int)-1-(i:Int))=(f:Int):=by rw[aF (by omega) (by omega)];omega
   have x9:wrap .i64 ((f:Int)+(m:Int))=((f+m:Nat):Int):=by rw[aF (by omega) (by omega)];omega
   have x1:wrap .i64 (((f+m:Nat):Int)+1)=((f+m+1:Nat):Int):=by rw[aF (by omega) (by omega)];omega
   rw[Z,x9,x1,x2];have h:jF BB m (Y*k) (X*k) U j (f+1):=by rw[show f+1=L-i by omega];exact D.inv
   obtain⟨w1,w2,t⟩:=h.KU iI H;have r:=ru.KU (lo:=f) (hi:=f+m+1) (by omega) (by omega);rw[show f+m+1-f=m+1 by omega,Nat.zero_add]at r;refine⟨_,_,_,r,?_⟩;have P:(dj cu 0 U).length=cu.length:=FY (by omega);have DI:aco G ku f (dK+cu.length-f) m (dj cu 0 U) ((U.drop f).take (m+1)) (bj BB (Y*k)) (some ⟨kv,0,none⟩) ec:={
    w:=D.ok.wf
    get:=by
     rw[pN (by rw[t];exact sU (by omega))];exact D.gu
    fit:=by rw[t,P];omega
    ul:=t
    vl:=o
    mp:=hm
    mle:=by omega
    ult:=λx A=>h.ul x (List.mem_of_mem_drop (List.mem_of_mem_take A))
    vlt:=dM iI _
    v1:=by have:=H2 iI M;rwa[o]at this
    lt:=by rw[cI iI];exact w2
    rd:=λg og=> .inr ⟨kv,0,cv,ec,true,by rw[lM,o],og.kL _ _ (λe=>D.uv' e.symm) D.gv,by rw[drop_zero,lM];exact D.ab4⟩ }
   refine(My DI).mono ?_;rintro _ V ⟨W',z,x8,l,rfl,S,p⟩;rw[cI iI]at l;have x6:Num.bv BB ((U.drop f).take (m+1))/Num.bv BB (bj BB (Y*k))=Num.bv BB ((U.drop f).take (m+1))/(Y*k):=by rw[cI iI]
   rw[x6];have y0:Num.bv BB ((U.drop f).take (m+1))/(Y*k)<BB:=Nat.div_lt_of_lt_mul (by rw[Nat.mul_comm];exact w2);have J:=p.kL _ _ (λe=>D.uq e.symm) D.gq;have x3:=p.kL _ _ (λe=>D.uv' e.symm) D.gv;have I:=Ok.but D.ok D.w2 p D.u2;have x0:((List.replicate (N+1-m) 0).map uv).length=N+1-m:=by rw[lM,length_replicate]
   have x5:=GH J (by rw[x0];omega) (i:=f) (by omega) (Num.bv BB ((U.drop f).take (m+1))/(Y*k));have x7:=I.wf _ _ J;have E:=A3 (k:=kq) (off:=0) (n:=L) (c:=L) (i:=(f:Int)) (by omega) (by omega);rw[toNat_natCast]at E;refine⟨_,rfl,_,E,_,x5,?_⟩;have y:Num.bv BB ((U.drop f).take (m+1))=Num.bv BB W'+Num.bv BB ((U.drop f).take (m+1))/(Y*k)*(Y*k):=by
    have h9:=Nat.mod_add_div (Num.bv BB ((U.drop f).take (m+1))) (Y*k);rw[Nat.mul_comm (Y*k)]at h9;rw[l];exact h9.symm
   have T:=h.step iI H x8 z y0 y (by rw[l];exact mod_lt _ M);refine cz (O-1) (by omega) ⟨by omega,by omega,U.take f++W'++U.drop (f+(m+1)),j.set f (Num.bv BB ((U.drop f).take (m+1))/(Y*k)),{
    ok:=I.set _ D.q2 x7 D.w2
    w2:=D.w2
    u2:=D.u2
    q2:=D.q2
    gu:= ?_
    gv:= ?_
    gq:= ?_
    uv':=D.uv'
    uq:=D.uq
    vq:=D.vq
    ul:= ?_
    cl:=K
    adU:=by rw[length_set];exact F
    ab4:=D.ab4
    inv:=by rw[show L-(i+1)=f by omega];exact T }⟩
   ·show(V.set kq _).get ku=_;rw[ae.ay,if_neg D.uq,S,Ht (W:=(U.drop f).take (m+1)) (by omega) (by omega) (by rw[z,t]) (by rw[t]),z]
   ·show(V.set kq _).get kv=_;rw[ae.ay,if_neg D.vq];exact x3
   ·show(V.set kq _).get kq=_;rw[ae.ay,if_pos rfl]
   ·simp only[length_append,length_take,length_drop,z];omega
  ·have v:=dF v;obtain rfl:i=L:=by omega
   have h:=D.inv;rw[Nat.sub_self]at h;obtain⟨d1,d2⟩:=h.done;obtain⟨e1,e2⟩:=DP (X:=X) (Y:=Y) u;rw[e1]at d1;rw[e2]at d2;have q:=h.ul;obtain⟨t1,t2⟩:=AI U;refine(so ru (by omega)).mono ?_;rintro _ _ ⟨rfl,rfl⟩;refine⟨_,_,_,rfl,?_⟩;have P:(dj cu 0 U).length=cu.length:=FY (by omega);have B:bY (N+1-m)=N+1-m:=by unfold bY;rw[if_neg (by unfold dK;omega)]
   have Q:Num.bv BB (eC U)=X%Y*k:=by rw[nh iI q,cI iI,d2]
   subst hL;rename_i G';refine aaI D.w2 (X:=X) (Y:=Y) (ku:=ku) (kq:=kq) (rc:=dK+cu.length) (k:=k) (R:=X%Y*k) (C:=dj cu 0 U) (Zq:=(List.replicate (N+1-m) 0).map uv) (Ql:=j) D.u2 D.q2 D.uq (by rw[P];omega) (by omega) F.symm (by omega) (by rw[s];omega) (by rw[B];exact Nat.le_refl _) u kB h.ql d1 (Nat.mul_div_cancel _ u) a n c b m d _ (i:=0)
    ⟨Nat.zero_le _,rfl,⟨eC U,0,rfl,rfl,⟨λx A=>q x (by rw[<-t1]at A;exact List.mem_of_mem_take A),by omega,u,?_⟩,?_⟩,D.gq,D.ok⟩
   ·rw[Nat.sub_zero,List.drop_length,take_length,Q];simp[Num.bv]
   ·rw[pN (by rw[sU (by omega),drop_zero,t1])];exact D.gu)
end Go.Proofs.YtaaichlgdgjgjaaGreatDoor
end
section
namespace Go.Proofs.YtaaichlgdgjgjaaGreatDoor
open Go Go.Ab Go.Num
variable{h:ae}{a:Option Addr}{n:Nat}{j:Nat}{l:Nat}
theorem A9{b:Option Addr}{c:Nat}{X Y:Nat}(V:Rd h 150 (.slice a n c) (bl X))(T:Rd h 150 (.slice b j l) (bl Y))(hY:0<Y)(hN:(bj BB X).length<=5000)(hM:(bj BB Y).length<=5000)(w:Wf h):
  FW SS 189 [.slice a n c,.slice b j l] h (Jh h X Y):=by
 have z7:BB=1000000000:=rfl;have hn:n=(bj BB X).length:=by have:=V.len;rwa[lM]at this
 have y0:j=(bj BB Y).length:=by have:=T.len;rwa[lM]at this
 obtain⟨f1,f2,s,C,f5,G⟩:=UE iI hY;rw[<-y0]at f1 f2 s C f5 G;generalize x6:(bj BB Y).getD (j-1) 0=v at f2 s C G;generalize y2:BB/(v+1)=k at s C G;refine J4 a n c b j l h _ ((sW V T (by omega) w).mono ?_);rintro _ h2 ⟨rfl,f⟩;refine⟨_,rfl,aa (λz=>?_) (λz=>?_)⟩
 ·have z:=zK.1 (dT z);refine⟨_,_,_,_,_,_,rfl,.inl ⟨rfl,?_⟩,?_,f⟩
  ·rw[Nat.div_eq_of_lt z];show(bj BB 0).map uv=[];rw[gT];rfl
  ·rw[Nat.mod_eq_of_lt z];exact V.ok f
 ·have z5:Y<=X:=by
   rcases lt_or_ge X Y with h|h
   ·exact absurd (zK.2 h) (dF z)
   ·exact h
  have hX:0<X:=by omega
  have x4:j<=n:=by
   rcases lt_or_ge n j with h|h
   ·have:=oc iI (m:=X) (n:=Y) (by omega);omega
   ·exact h
  have y1:wrap .i64 ((j:Int)-1)=((j-1:Nat):Int):=by rw[aF (by omega) (by omega)];omega
  have hj:((j-1:Nat):Int).toNat=j-1:=by omega
  obtain⟨p,g2,g3⟩:=H7 (T.ok f) (i:=((j-1:Nat):Int)) (by omega) (by omega);rw[hj,x6]at g3;have et:wrap .u64 ((v:Int)+1)=((v+1:Nat):Int):=wU (by omega) (by omega);have x5:aB SS.P .quo 150 (.int .u64 1000000000) (.int .u64 ((v+1:Nat):Int))=some (.int .u64 (k:Int)):=by
   have:=Xo (a:=BB) (b:=v+1) (by decide) (by omega);rw[y2]at this;exact this
  rw[y1];refine⟨p,g2,_,g3,?_⟩;dsimp only;rw[et];refine⟨_,x5,?_⟩;refine(Be (V.ok f) (dM iI X) (by omega) s C f.wf).mono ?_;rintro _ h8 ⟨a9,I,y7,rfl,R,E⟩;rw[cI iI]at R;refine⟨a9,I,y7,rfl,(Be ((T.ok f).ok E) (dM iI Y) (by omega) s C E.wf).mono ?_⟩;rintro _ z8 ⟨x8,d,O,rfl,ov,H⟩;rw[cI iI]at ov;refine⟨x8,d,O,rfl,?_⟩;have z6:0<Y*k:=mul_pos hY s;have J:(bj BB (Y*k)).length=j:=Jr iI G (Nat.le_trans f5 (Nat.le_mul_of_pos_right Y s)) f1;have q:(bl (Y*k)).length=j:=by rw[lM];exact J
  rcases ov with⟨_,e⟩|⟨A,cv,e,x7,gv,tv,lv⟩
  ·rw[e]at q;simp at q;omega
  injection e with e1 e2 e3
  subst e1;obtain rfl:d=j:=by rw[e2,q]
  rw[q]at tv;have B:=gr (dM iI X);rw[cI iI,<-hn]at B;have z3:0<X*k:=mul_pos hX s;have L1:=xe a n c b d l (k:Int) (some ⟨A,0,none⟩) d O
   (λmz r y rc g=>y<=n+1/\mz=n+1-y/\0<y/\∃U:List Nat,U.length=y/\eO h g 150 (.slice r y rc) (U.map uv)/\Ok h g/\(∀x∈U,x<BB)/\Num.bv BB U=X*k/\g.get A=some (.cells cv 150 1 true)/\(∀o n c,Value.slice r y rc≠ .slice (some ⟨A,o,none⟩) n c)) (Jh h X Y) (by
   intro mz r y rc;intros;rename_i g hi;obtain⟨z,z4,h3,U,D,o,ok,x1,x3,F,M⟩:=hi;refine aa (λQ=>?_) (λQ=>?_)
   ·have Q:=dT Q;refine⟨_,_,_,vR _,?_⟩;obtain⟨b',m',d',u,g6,g7,g8,g9,y6,y5⟩:=eO.afV (P:=SS.P) (t:=177) (x:= .int .u64 0) DG M3 Gq w ok o rfl (by rw[Dz,lM];omega) (by rw[lM];omega);rw[lM,D]at g7;subst g7;refine⟨b',_,d',u,g6,Mj (mz-1) (by omega) ⟨by omega,by omega,by omega,U++[0],by simp[D],?_,g9,?_,?_,y6 _ _ F M,?_⟩⟩
    ·rw[map_append];exact g8
    ·intro x K;rcases List.mem_append.1 K with K|K
     ·exact x1 x K
     ·rw[List.mem_singleton.1 K];decide
    ·rw[ta,x3];simp
    ·intro o' n' c' e;rcases y5 _ _ _ _ e with h7|⟨o2,n2,c2,h7⟩
     ·have:=ok.wf _ _ F;omega
     ·exact M _ _ _ h7
   ·have Q:=dF Q;obtain rfl:y=n+1:=by omega
    rcases o with⟨_,e⟩|⟨Z,W,e,x2,gu,tu,lu⟩
    ·have:=congrArg List.length e;rw[lM,D]at this;have h9:n+1=0:=this;omega
    rw[lM,D]at e tu lu;injection e with e1 _ e3
    subst e1;subst e3;have y4:wrap .i64 (((n+1:Nat):Int)-(d:Int))=((n+1-d:Nat):Int):=by rw[aF (by omega) (by omega)];omega
    rw[y4];refine⟨_,_,_,acM _ (by omega),?_⟩;have z2:=ok.wf _ _ gu;have z1:=ok.wf _ _ F;have x9:Z≠A:=λe=>M 0 (n+1) (dK+W.length) (by rw[e]);have S:((List.replicate (n+1-d) 0).map uv).length=n+1-d:=by rw[lM,length_replicate]
    exact aaJ (h2:=h) (X:=X) (Y:=Y) (N:=n) (m:=d) (L:=n+1-d) (k:=k) (ku:=Z) (kv:=A) (kq:=g.next) (ec:=O) (cu:=W) (cv:=cv) hY f1 x4 (by omega) rfl s C J (le_of_lt G) a n c b l (n+1-d) (i:=0)
     ⟨Nat.zero_le _,rfl,U,List.replicate (n+1-d) 0,{
      ok:=ok.push _
      w2:=w
      u2:=x2
      q2:=ok.nx
      gu:=by
       rw[ae.bH,if_neg (by omega),pN (by rw[drop_zero,D];exact tu)];exact gu
      gv:=by rw[ae.bH,if_neg (by omega)];exact F
      gq:=by
       rw[ae.bH,if_pos rfl,pN (by rw[drop_zero,length_replicate,take_of_length_le (by rw[S];exact Nat.le_refl _)])]
      uv':=x9
      uq:=by omega
      vq:=by omega
      ul:=D
      cl:=lu
      adU:=by rw[length_replicate]
      ab4:=by rw[J];exact tv
      inv:=jF.start iI x1 D x4 B f5 f1 s x3 }⟩)
  have y3:=eO.age f.nx R;have x0:I=(bj BB (X*k)).length:=by have:=R.len;rwa[lM]at this
  have y8:h8.next<=A:=x7;have z0:(bj BB (X*k)).length<=n+1:=by
   refine oa iI ?_;rw[Nat.pow_succ];exact lt_of_lt_of_le (Nat.mul_lt_mul_of_pos_right B s) (Nat.mul_le_mul_left _ C)
  have y9:0<(bj BB (X*k)).length:=List.length_pos_iff.2 λe=>by have:=(jo iI).1 e;omega
  refine L1 (n+1-I) ⟨by omega,rfl,by omega,bj BB (X*k),x0.symm,y3.ok H,(f.trans E).trans H,dM iI _,cI iI _,gv,?_⟩;intro o n' c' e;rcases R with⟨e',_⟩|⟨Z,W,e',x2,gu,_,_⟩
  ·rw[e']at e;injection e with e;cases e
  ·rw[e']at e;injection e with e _ _
   injection e with e
   injection e with e
   have:=E.wf _ _ gu;omega
abbrev jg:LB:=[0,1,2,2,3,3,3,3,4,4,4,4,4,4,4,4,5,5,5,5,5,5,5,5,5,5,5,5,5,5,5,5,6,6,6,6,6,6,6,6,6,6,6,6,6,6,6,6,6,6,6,6,6,6,6,6,6,6,6,6,6,6,6,6,7,7,7,7,7,7,7,7,7,7,7,7,7,7,7,7,7,7,7,7,7,7,7,7,7,7,7,7,7,7,7,7,7,7,7,7,7,7,7,7,7,7,7,7,7,7,7,7,7,7,7,7,7,7,7,7,7,7,7,7,7,7,7,7,8,8,8,8,8,8,8,8,8,8,8,8,8,8,8,8,8,8,8,8,8,8,8,8,8,8,8,8,8,8,8,8,8,8,8,8,8,8,8,8,8,8,8,8,8,8,8,8,8,8,8,8,8,8,8,8,8,8,8,8,8,8,8,8,8,8,8,8,8,8,8,8,8,8,8,8,8,8,8,8,8,8,8,8,8,8,8,8,8,8,8,8,8,8,8,8,8,8,8,8,8,8,8,8,8,8,8,8,8,8,8,8,8,8,8,8,8,8,8,8,8,8,8,8,8,8,8,8]
noncomputable def aa4:FD:=dq Tryz.f135 []
theorem WC(u:Int)(h:ae)(Q:VH)(e:au (decide ((u:Int)>=4294967296)) (xI .u64 (aB SS.P .shr 150 (.int .u64 u) (.int .u64 32)) λd=>au (decide ((d:Int)>=65536)) (xI .u64 (aB SS.P .shr 150 (.int .u64 d) (.int .u64 16)) λc=>au (decide ((c:Int)>=256)) (xI .u64 (aB SS.P .shr 150 (.int .u64 c) (.int .u64 8)) λb=>xI .u8 (bZ SS.P 9 (strOf jg) (.int .u8 (wrap .u8 b))) λa=>Q (.int .i64 (wrap .i64 (wrap .i64 (wrap .i64 (32+16)+8)+wrap .i64 a))) h) (xI .u8 (bZ SS.P 9 (strOf jg) (.int .u8 (wrap .u8 c))) λa=>Q (.int .i64 (wrap .i64 (wrap .i64 (32+16)+wrap .i64 a))) h)) (au (decide ((d:Int)>=256)) (xI .u64 (aB SS.P .shr 150 (.int .u64 d) (.int .u64 8)) λb=>xI .u8 (bZ SS.P 9 (strOf jg) (.int .u8 (wrap .u8 b))) λa=>Q (.int .i64 (wrap .i64 (wrap .i64 (32+8)+wrap .i64 a))) h) (xI .u8 (bZ SS.P 9 (strOf jg) (.int .u8 (wrap .u8 d))) λa=>Q (.int .i64 (wrap .i64 (32+wrap .i64 a))) h))) (au (decide ((u:Int)>=65536)) (xI .u64 (aB SS.P .shr 150 (.int .u64 u) (.int .u64 16)) λc=>au (decide ((c:Int)>=256)) (xI .u64 (aB SS.P .shr 150 (.int .u64 c) (.int .u64 8)) λb=>xI .u8 (bZ SS.P 9 (strOf jg) (.int .u8 (wrap .u8 b))) λa=>Q (.int .i64 (wrap .i64 (wrap .i64 (wrap .i64 (0+16)+8)+wrap .i64 a))) h) (xI .u8 (bZ SS.P 9 (strOf jg) (.int .u8 (wrap .u8 c))) λa=>Q (.int .i64 (wrap .i64 (wrap .i64 (0+16)+wrap .i64 a))) h)) (au (decide ((u:Int)>=256)) (xI .u64 (aB SS.P .shr 150 (.int .u64 u) (.int .u64 8)) λb=>xI .u8 (bZ SS.P 9 (strOf jg) (.int .u8 (wrap .u8 b))) λa=>Q (.int .i64 (wrap .i64 (wrap .i64 (0+8)+wrap .i64 a))) h) (xI .u8 (bZ SS.P 9 (strOf jg) (.int .u8 (wrap .u8 u))) λa=>Q (.int .i64 (wrap .i64 (0+wrap .i64 a))) h)))):FW SS 135 [(.int .u64 u)] h Q:=du aa4 Tryz.func135 (ai e)
noncomputable def Mu:FD:=dq Tryz.f228 []
theorem JU(n:Int)(h:ae)(Q:VH)(b:xI .i64 (aB SS.P .shr 3 (.int .i64 (wrap .i64 (n*78913))) (.int .u64 18)) λa=>Q (.int .i64 a) h):FW SS 228 [(.int .i64 n)] h Q:=du Mu Tryz.func228 (ai b)
noncomputable def aau:FD:=dq Tryz.f229 []
theorem Vt(b:Bool)(h:ae)(Q:VH)(a:au b (Q (.int .i64 1) h) (Q (.int .i64 0) h)):FW SS 229 [(.bool b)] h Q:=du aau Tryz.func229 (ai a)
noncomputable def MH:FD:=dq Tryz.f219 []
theorem Ka(u:Int)(h:ae)(Q:VH)(l:FW SS 135 [(.int .u64 u)] h λj k=>yI .i64 j λi=>FW SS 228 [(.int .i64 i)] k λg h=>yI .i64 g λf=>iP 230 (pA 1) (.int .i64 f) λe=>xI .u64 (aj SS.P 150 h (.pointer (some e))) λd=>FW SS 229 [(.bool (decide ((u:Int)>=d)))] h λb c=>yI .i64 b λa=>Q (.int .i64 (wrap .i64 (f+a))) c):FW SS 219 [(.int .u64 u)] h Q:=du MH Tryz.func219 (ai l)
abbrev cJ:LB:=[48,48,48,49,48,50,48,51,48,52,48,53,48,54,48,55,48,56,48,57,49,48,49,49,49,50,49,51,49,52,49,53,49,54,49,55,49,56,49,57,50,48,50,49,50,50,50,51,50,52,50,53,50,54,50,55,50,56,50,57,51,48,51,49,51,50,51,51,51,52,51,53,51,54,51,55,51,56,51,57,52,48,52,49,52,50,52,51,52,52,52,53,52,54,52,55,52,56,52,57,53,48,53,49,53,50,53,51,53,52,53,53,53,54,53,55,53,56,53,57,54,48,54,49,54,50,54,51,54,52,54,53,54,54,54,55,54,56,54,57,55,48,55,49,55,50,55,51,55,52,55,53,55,54,55,55,55,56,55,57,56,48,56,49,56,50,56,51,56,52,56,53,56,54,56,55,56,56,56,57,57,48,57,49,57,50,57,51,57,52,57,53,57,54,57,55,57,56,57,57]
noncomputable def abI:FD:=dq Tryz.f218 []
theorem Yt(n:Int)(h:ae)(Q:VH)(b:au (decide ((n:Int)<10)) (xS (cg SS.P 9 (strOf [48,49,50,51,52,53,54,55,56,57,97,98,99,100,101,102,103,104,105,106,107,108,109,110,111,112,113,114,115,116,117,118,119,120,121,122]) (some (.int .i64 n)) (some (.int .i64 (wrap .i64 (n+1)))) none h) λa=>Q (strOf a) h) (xS (cg SS.P 9 (strOf cJ) (some (.int .i64 (wrap .i64 (n*2)))) (some (.int .i64 (wrap .i64 (wrap .i64 (n*2)+2)))) none h) λa=>Q (strOf a) h)):FW SS 218 [(.int .i64 n)] h Q:=du abI Tryz.func218 (ai b)
noncomputable def ur:FD:=dq Tryz.f220 [([1,0,0,0],[0,1,4])]
abbrev pz(a:OA)(n c:Nat)(i:Nat)(v:Int):LV:=[(.slice a n c),(.int .u64 v),(iA i)]
theorem VX(a:OA)(n c:Nat)(u:Int)(h:ae)(Q:VH)(b:LL SS ur [1,0,0,0] (pz a n c n u) h (KK SS ur [1,0,0] [] (EE SS ur Q))):FW SS 220 [(.slice a n c),(.int .u64 u)] h Q:=du ur Tryz.func220 (ai b)
theorem Cw(a:OA)(n c:Nat)(u:Int)  (B:Nat->Nat->Int->ae->Prop) (Q:VH) (step:∀(A:Nat)(i:Nat)(v:Int)(K:Nat->Value)(h:ae),B A i v h->au (decide (((i:Int):Int)>=8)) (xI .u64 (aB SS.P .rem 150 (.int .u64 v) (.int .u64 100000000)) λH=>xI .u64 (aB SS.P .quo 150 (.int .u64 v) (.int .u64 100000000)) λP=>xI .u32 (aB SS.P .quo 148 (.int .u32 (wrap .u32 H)) (.int .u32 10000)) λG=>xI .u32 (aB SS.P .rem 148 (.int .u32 (wrap .u32 H)) (.int .u32 10000)) λN=>xI .u32 (aB SS.P .quo 148 (.int .u32 N) (.int .u32 100)) λF=>xI .u32 (aB SS.P .rem 148 (.int .u32 N) (.int .u32 100)) λJ=>xI .u32 (aB SS.P .quo 148 (.int .u32 G) (.int .u32 100)) λL=>xI .u32 (aB SS.P .rem 148 (.int .u32 G) (.int .u32 100)) λM=>xI .u8 (bZ SS.P 9 (strOf cJ) (.int .u32 (wrap .u32 (wrap .u32 (J*2)+1)))) λO=>xI .u8 (bZ SS.P 9 (strOf cJ) (.int .u32 (wrap .u32 (J*2)))) λC=>iP 172 (.slice a n c) (.int .i64 (wrap .i64 ((i:Int)-1))) λz=>xU (ah SS.P 5 (.pointer (some z)) (.int .u8 O) (room h 15)) (room h 15) λ_ y=>iP 172 (.slice a n c) (.int .i64 (wrap .i64 ((i:Int)-2))) λx=>xU (ah SS.P 5 (.pointer (some x)) (.int .u8 C) y) y λ_ w=>xI .u8 (bZ SS.P 9 (strOf cJ) (.int .u32 (wrap .u32 (wrap .u32 (F*2)+1)))) λv=>xI .u8 (bZ SS.P 9 (strOf cJ) (.int .u32 (wrap .u32 (F*2)))) λu=>iP 172 (.slice a n c) (.int .i64 (wrap .i64 ((i:Int)-3))) λt=>xU (ah SS.P 5 (.pointer (some t)) (.int .u8 v) (room w 15)) (room w 15) λ_ s=>iP 172 (.slice a n c) (.int .i64 (wrap .i64 ((i:Int)-4))) λr=>xU (ah SS.P 5 (.pointer (some r)) (.int .u8 u) s) s λ_ q=>xI .u8 (bZ SS.P 9 (strOf cJ) (.int .u32 (wrap .u32 (wrap .u32 (M*2)+1)))) λp=>xI .u8 (bZ SS.P 9 (strOf cJ) (.int .u32 (wrap .u32 (M*2)))) λo=>iP 172 (.slice a n c) (.int .i64 (wrap .i64 ((i:Int)-5))) λm=>xU (ah SS.P 5 (.pointer (some m)) (.int .u8 p) (room q 15)) (room q 15) λ_ l=>iP 172 (.slice a n c) (.int .i64 (wrap .i64 ((i:Int)-6))) λk=>xU (ah SS.P 5 (.pointer (some k)) (.int .u8 o) l) l λ_ j=>xI .u8 (bZ SS.P 9 (strOf cJ) (.int .u32 (wrap .u32 (wrap .u32 (L*2)+1)))) λh=>xI .u8 (bZ SS.P 9 (strOf cJ) (.int .u32 (wrap .u32 (L*2)))) λg=>iP 172 (.slice a n c) (.int .i64 (wrap .i64 ((i:Int)-7))) λf=>xU (ah SS.P 5 (.pointer (some f)) (.int .u8 h) (room j 15)) (room j 15) λ_ e=>iP 172 (.slice a n c) (.int .i64 (wrap .i64 ((i:Int)-8))) λd=>xU (ah SS.P 5 (.pointer (some d)) (.int .u8 g) e) e λ_ b=>aM (tE (pz a n c) B) A [(.slice a n c),(.int .u64 P),(.int .i64 (wrap .i64 ((i:Int)-8)))] b) (au (decide (((i:Int):Int)>=4)) (xI .u32 (aB SS.P .rem 148 (.int .u32 (wrap .u32 v)) (.int .u32 10000)) λI=>xI .u32 (aB SS.P .quo 148 (.int .u32 (wrap .u32 v)) (.int .u32 10000)) λE=>xI .u32 (aB SS.P .quo 148 (.int .u32 I) (.int .u32 100)) λC=>xI .u32 (aB SS.P .rem 148 (.int .u32 I) (.int .u32 100)) λz=>xI .u8 (bZ SS.P 9 (strOf cJ) (.int .u32 (wrap .u32 (wrap .u32 (z*2)+1)))) λy=>xI .u8 (bZ SS.P 9 (strOf cJ) (.int .u32 (wrap .u32 (z*2)))) λx=>iP 172 (.slice a n c) (.int .i64 (wrap .i64 ((i:Int)-1))) λw=>xU (ah SS.P 5 (.pointer (some w)) (.int .u8 y) (room h 15)) (room h 15) λ_ v=>iP 172 (.slice a n c) (.int .i64 (wrap .i64 ((i:Int)-2))) λu=>xU (ah SS.P 5 (.pointer (some u)) (.int .u8 x) v) v λ_ t=>xI .u8 (bZ SS.P 9 (strOf cJ) (.int .u32 (wrap .u32 (wrap .u32 (C*2)+1)))) λs=>xI .u8 (bZ SS.P 9 (strOf cJ) (.int .u32 (wrap .u32 (C*2)))) λr=>iP 172 (.slice a n c) (.int .i64 (wrap .i64 ((i:Int)-3))) λq=>xU (ah SS.P 5 (.pointer (some q)) (.int .u8 s) (room t 15)) (room t 15) λ_ p=>iP 172 (.slice a n c) (.int .i64 (wrap .i64 ((i:Int)-4))) λo=>xU (ah SS.P 5 (.pointer (some o)) (.int .u8 r) p) p λ_ m=>au (decide ((wrap .i64 ((i:Int)-4):Int)>=2)) (xI .u32 (aB SS.P .rem 148 (.int .u32 E) (.int .u32 100)) λl=>xI .u32 (aB SS.P .quo 148 (.int .u32 E) (.int .u32 100)) λk=>xI .u8 (bZ SS.P 9 (strOf cJ) (.int .u32 (wrap .u32 (wrap .u32 (l*2)+1)))) λj=>xI .u8 (bZ SS.P 9 (strOf cJ) (.int .u32 (wrap .u32 (l*2)))) λh=>xP (aD SS.P 172 (.slice a n c) (.int .i64 (wrap .i64 (wrap .i64 ((i:Int)-4)-1)))) λg=>xU (ah SS.P 5 (.pointer (some g)) (.int .u8 j) (room m 15)) (room m 15) λ_ f=>xP (aD SS.P 172 (.slice a n c) (.int .i64 (wrap .i64 (wrap .i64 ((i:Int)-4)-2)))) λe=>xU (ah SS.P 5 (.pointer (some e)) (.int .u8 h) f) f λ_ d=>au (decide ((wrap .i64 (wrap .i64 ((i:Int)-4)-2):Int)>0)) (iP 172 (.slice a n c) (.int .i64 0) λb=>xU (ah SS.P 5 (.pointer (some b)) (.int .u8 (wrap .u8 (wrap .u32 (48+k)))) d) d λ_ a=>Q (.tuple ⟨[]⟩) a) (Q (.tuple ⟨[]⟩) d)) (au (decide ((wrap .i64 ((i:Int)-4):Int)>0)) (iP 172 (.slice a n c) (.int .i64 0) λb=>xU (ah SS.P 5 (.pointer (some b)) (.int .u8 (wrap .u8 (wrap .u32 (48+E)))) m) m λ_ a=>Q (.tuple ⟨[]⟩) a) (Q (.tuple ⟨[]⟩) m))) (au (decide (((i:Int):Int)>=2)) (xI .u32 (aB SS.P .rem 148 (.int .u32 (wrap .u32 v)) (.int .u32 100)) λm=>xI .u32 (aB SS.P .quo 148 (.int .u32 (wrap .u32 v)) (.int .u32 100)) λl=>xI .u8 (bZ SS.P 9 (strOf cJ) (.int .u32 (wrap .u32 (wrap .u32 (m*2)+1)))) λk=>xI .u8 (bZ SS.P 9 (strOf cJ) (.int .u32 (wrap .u32 (m*2)))) λj=>iP 172 (.slice a n c) (.int .i64 (wrap .i64 ((i:Int)-1))) λg=>xU (ah SS.P 5 (.pointer (some g)) (.int .u8 k) (room h 15)) (room h 15) λ_ f=>iP 172 (.slice a n c) (.int .i64 (wrap .i64 ((i:Int)-2))) λe=>xU (ah SS.P 5 (.pointer (some e)) (.int .u8 j) f) f λ_ d=>au (decide ((wrap .i64 ((i:Int)-2):Int)>0)) (iP 172 (.slice a n c) (.int .i64 0) λb=>xU (ah SS.P 5 (.pointer (some b)) (.int .u8 (wrap .u8 (wrap .u32 (48+l)))) d) d λ_ a=>Q (.tuple ⟨[]⟩) a) (Q (.tuple ⟨[]⟩) d)) (au (decide (((i:Int):Int)>0)) (iP 172 (.slice a n c) (.int .i64 0) λb=>xU (ah SS.P 5 (.pointer (some b)) (.int .u8 (wrap .u8 (wrap .u32 (48+wrap .u32 v)))) h) h λ_ a=>Q (.tuple ⟨[]⟩) a) (Q (.tuple ⟨[]⟩) h))))) (A:Nat) {i:Nat} {v:Int} {h:ae} (D:B A i v h):LL SS ur [1,0,0,0] (pz a n c i v) h (KK SS ur [1,0,0] [] (EE SS ur Q)):=
 pU (pz a n c) B (λA i v K h D=>ai (step A i v K h D)) A D
noncomputable def ON:FD:=dq Tryz.f207 []
theorem Me(u:Int)(h:ae)(Q:VH)(r:au (((10:Int)==10)) (au (decide ((u:Int)<100)) (FW SS 218 [(.int .i64 (wrap .i64 u))] h λb c=>yS b λa=>Q (strOf a) c) (xN (av SS.P 219) h λ_ n=>FW SS 219 [(.int .u64 u)] n λl m=>yI .i64 l λk=>xL (cg SS.P 219 (pA (h.next)) none (some (.int .i64 k)) none m) λg i j=>FW SS 220 [(.slice g i j),(.int .u64 u)] m λe f=>e=(.tuple ⟨[]⟩)/\xL (cg SS.P 219 (pA (h.next)) none (some (.int .i64 k)) none f) λb c d=>xS (D5 SS.P 172 9 (.slice b c d) f) λa=>Q (strOf a) f)) (FW SS 221 [nA,(.int .u64 u),(.int .i64 10),(.bool false),(.bool false)] h λb c=>∃(q:OA) (p o:Nat),∃a:LB,b=(.tuple ⟨[(.slice q p o),(strOf a)]⟩)/\Q (strOf a) c)):FW SS 207 [(.int .u64 u),(.int .i64 10)] h Q:=du ON Tryz.func207 (ai r)
noncomputable def Sk:FD:=dq Tryz.f197 []
theorem OO(u:Int)(h:ae)(Q:VH)(d:FW SS 207 [(.int .u64 u),(.int .i64 10)] h λb c=>yS b λa=>Q (strOf a) c):FW SS 197 [(.int .u64 u),(.int .i64 10)] h Q:=du Sk Tryz.func197 (ai d)
variable{P:Program}{g:ae}{m:Nat}
theorem PK{t:TypeId}{a:Int}(h:0<=a){s:Nat}(b:s<=64):aB P .shr t (.int .u64 a) (.int .u64 (s:Int))=some (.int .u64 (a/2^s)):=by
 show(if 0<=(s:Int)then some (Value.int .u64 (a.fdiv (2^(min (s:Int).toNat 64))))else none)=_
 grind
theorem abG{t:TypeId}{a:Int}(h:0<=a){s:Nat}(b:s<=64):aB P .shr t (.int .i64 a) (.int .u64 (s:Int))=some (.int .i64 (a/2^s)):=by
 show(if 0<=(s:Int)then some (Value.int .i64 (a.fdiv (2^(min (s:Int).toNat 64))))else none)=_
 grind
def ZQ:List UInt8:=[0,1,2,2,3,3,3,3,4,4,4,4,4,4,4,4,5,5,5,5,5,5,5,5,5,5,5,5,5,5,5,5,6,6,6,6,6,6,6,6,6,6,6,6,6,6,6,6,6,6,6,6,6,6,6,6,6,6,6,6,6,6,6,6,7,7,7,7,7,7,7,7,7,7,7,7,7,7,7,7,7,7,7,7,7,7,7,7,7,7,7,7,7,7,7,7,7,7,7,7,7,7,7,7,7,7,7,7,7,7,7,7,7,7,7,7,7,7,7,7,7,7,7,7,7,7,7,7,8,8,8,8,8,8,8,8,8,8,8,8,8,8,8,8,8,8,8,8,8,8,8,8,8,8,8,8,8,8,8,8,8,8,8,8,8,8,8,8,8,8,8,8,8,8,8,8,8,8,8,8,8,8,8,8,8,8,8,8,8,8,8,8,8,8,8,8,8,8,8,8,8,8,8,8,8,8,8,8,8,8,8,8,8,8,8,8,8,8,8,8,8,8,8,8,8,8,8,8,8,8,8,8,8,8,8,8,8,8,8,8,8,8,8,8,8,8,8,8,8,8,8,8,8,8,8,8]
def SM:List UInt8:=[48,48,48,49,48,50,48,51,48,52,48,53,48,54,48,55,48,56,48,57,49,48,49,49,49,50,49,51,49,52,49,53,49,54,49,55,49,56,49,57,50,48,50,49,50,50,50,51,50,52,50,53,50,54,50,55,50,56,50,57,51,48,51,49,51,50,51,51,51,52,51,53,51,54,51,55,51,56,51,57,52,48,52,49,52,50,52,51,52,52,52,53,52,54,52,55,52,56,52,57,53,48,53,49,53,50,53,51,53,52,53,53,53,54,53,55,53,56,53,57,54,48,54,49,54,50,54,51,54,52,54,53,54,54,54,55,54,56,54,57,55,48,55,49,55,50,55,51,55,52,55,53,55,54,55,55,55,56,55,57,56,48,56,49,56,50,56,51,56,52,56,53,56,54,56,55,56,56,56,57,57,48,57,49,57,50,57,51,57,52,57,53,57,54,57,55,57,56,57,57]
theorem aa6:((List.range 256).all λx=>(x==0&&(ZQ.getD x 0).toNat==0)||(Nat.ble 1 (ZQ.getD x 0).toNat&&Nat.ble (ZQ.getD x 0).toNat 8&&Nat.ble (2^((ZQ.getD x 0).toNat-1)) x&&Nat.blt x (2^(ZQ.getD x 0).toNat)))=true:=by kernel_rfl
theorem lt8{x:Nat}(h:x<256)(c:0<x):∃t,(ZQ.getD x 0).toNat=t+1/\t<8/\2^t<=x/\x<2^(t+1):=by
 have a:=List.all_eq_true.1 aa6 x (List.mem_range.2 h);have b:(x==0)=false:=by simp;omega
 rw[b]at a;simp only[Bool.false_and,Bool.false_or,Bool.and_eq_true,Nat.ble_eq,Nat.blt_eq]at a
 grind
theorem Ep{x:Int}(a:0<=x)(b:x<256):bZ SS.P 9 (strOf ZQ) (.int .u8 (wrap .u8 x))=some (.int .u8 ((ZQ.getD x.toNat 0).toNat:Nat)):=by
 rw[vJ a b];exact qL (by rfl) ZQ .u8 a (by show x<((256:Nat):Int);omega)
theorem ad5:((List.range 100).all λx=>Nat.beq (SM.getD (2*x) 0).toNat (48+x/10)&&Nat.beq (SM.getD (2*x+1) 0).toNat (48+x%10))=true:=by kernel_rfl
theorem Ys{x:Nat}(h:x<100):(SM.getD (2*x) 0).toNat=48+x/10/\(SM.getD (2*x+1) 0).toNat=48+x%10:=by
 have a:=List.all_eq_true.1 ad5 x (List.mem_range.2 h)
 simp_all
theorem WD(k:0<n)(j:n<4294967296)(h:ae):FW SS 135 [.int .u64 (n:Int)] h (λv i=>i=h/\∃f:Nat,v = .int .i64 (f+1:Nat)/\f<32/\2^f<=n/\n<2^(f+1)):=by
 refine WC _ h _ (aa (λg=>absurd (dT g) (by omega)) λ_=>aa (λg=>?_) (λg=>?_))
 ·have g:=dT g;refine⟨_,PK (s:=16) (by omega) (by omega),aa (λa=>?_) (λa=>?_)⟩
  ·have a:=dT a;refine⟨_,PK (s:=8) (by omega) (by omega),_,Ep (by omega) (by omega),rfl,?_⟩;obtain⟨t,e,c,b,d⟩:=lt8 (x:=((n:Int)/2^16/2^8).toNat) (by omega) (by omega);rw[e];refine⟨t+24,?_,by omega,?_,?_⟩
   ·refine congrArg (Value.int .i64) ?_;simp only[wrap_i64];omega
   all_goals grind
  ·have a:=dF a;refine⟨_,Ep (by omega) (by omega),rfl,?_⟩;obtain⟨t,e,c,b,d⟩:=lt8 (x:=((n:Int)/2^16).toNat) (by omega) (by omega);rw[e];refine⟨t+16,?_,by omega,?_,?_⟩
   ·refine congrArg (Value.int .i64) ?_;simp only[wrap_i64];omega
   all_goals grind
 ·have g:=dF g;refine aa (λa=>?_) (λa=>?_)
  ·have a:=dT a;refine⟨_,PK (s:=8) (by omega) (by omega),_,Ep (by omega) (by omega),rfl,?_⟩;obtain⟨t,e,c,b,d⟩:=lt8 (x:=((n:Int)/2^8).toNat) (by omega) (by omega);rw[e];refine⟨t+8,?_,by omega,?_,?_⟩
   ·refine congrArg (Value.int .i64) ?_;simp only[wrap_i64];omega
   all_goals grind
  ·have a:=dF a;refine⟨_,Ep (by omega) (by omega),rfl,?_⟩;obtain⟨t,e,c,b,d⟩:=lt8 (x:=((n:Int)).toNat) (by omega) (by omega);rw[e];refine⟨t,?_,by omega,by omega,by omega⟩;refine congrArg (Value.int .i64) ?_
   grind[wrap_i64]
def NB:List Value:=(List.range 20).map λi=>uv (10^i)
def qJ(h:ae):Prop:=∃t a,h.get 1=some (.cells NB t 0 a)
theorem qJ.ok(t:qJ h)(o:Ok h g):qJ g:=let⟨k,a,e⟩:=t;⟨k,a,o.ext _ _ e⟩
theorem aeJ:SS.P.underlying 230=some (.array 20 150):=by rfl
theorem aea(t:qJ h){i:Int}(c:0<=i)(a:i<20):aD SS.P 230 (.pointer (some ⟨1,0,none⟩)) (.int .i64 i)=some (.pointer (some ⟨1,0+i.toNat*1,none⟩))/\aj SS.P 150 h (.pointer (some ⟨1,0+i.toNat*1,none⟩))=some (.int .u64 ((10^i.toNat:Nat):Int)):=by
 obtain⟨_,b,e⟩:=t;constructor
 ·simp_all[aeJ,Hc,dX,aD]
 ·unfold aj;rw[Rj];dsimp only;rw[e];dsimp only;rw[Qr];simp only[Bool.false_eq_true,if_false];unfold NB;rw[Nat.zero_add,Nat.mul_one,getElem?_map,List.getElem?_range (by omega)];rfl
theorem Kb(B:100<=n)(x:n<1000000000){h:ae}(t:qJ h):FW SS 219 [.int .u64 (n:Int)] h (λv o=>o=h/\∃a:Nat,v = .int .i64 (a+1:Nat)/\a<9/\10^a<=n/\n<10^(a+1)):=by
 refine Ka _ h _ ((WD (by omega) (by omega) h).mono ?_);rintro _ g ⟨e,a,rfl,y,u,z⟩;have t:=e▸t;refine⟨_,rfl,JU _ _ _ ⟨_,abG (s:=18) ?_ (by omega),_,rfl,?_⟩⟩
 ·grind[aF]
 rw[aF (by omega) (by omega)];have D:a<30:=by
  rcases lt_or_ge a 30 with h|h
  ·exact h
  ·have:2^30<=2^a:=pow_le_pow_right (by omega) h;omega
 have C:6<=a:=by
  rcases lt_or_ge a 6 with h|h
  ·have:2^(a+1)<=2^6:=pow_le_pow_right (by omega) h;omega
  ·exact h
 obtain⟨p,k⟩:=aea t (i:=((a+1:Nat):Int)*78913/2^18) (by omega) (by omega);refine⟨_,p,_,k,Vt _ _ _ ?_⟩;have b:∀q:Nat,2<=q->q<=9->10^(q-1)<=n->n<10^(q+1)->((a+1:Nat):Int)*78913/2^18=(q:Int)->au (decide (((n:Nat):Int)>=((10^(((a+1:Nat):Int)*78913/2^18).toNat:Nat):Int))) (∃c:Int,Value.int .i64 1 = .int .i64 c/\(g=h/\∃m:Nat,Value.int .i64 (wrap .i64 (((a+1:Nat):Int)*78913/2^18+c)) = .int .i64 (m+1:Nat)/\m<9/\10^m<=n/\n<10^(m+1))) (∃c:Int,Value.int .i64 0 = .int .i64 c/\(g=h/\∃m:Nat,Value.int .i64 (wrap .i64 (((a+1:Nat):Int)*78913/2^18+c)) = .int .i64 (m+1:Nat)/\m<9/\10^m<=n/\n<10^(m+1))):=by
  intro q A w f l r;rw[r,toNat_natCast];refine aa (λd=>?_) (λd=>?_)
  ·have d:=dT d;refine⟨1,rfl,e,q,?_,?_,by omega,l⟩
   all_goals grind[aF]
  ·have d:=dF d;refine⟨0,rfl,e,q-1,?_,by omega,f,by grind⟩;rw[aF (by omega) (by omega),Nat.sub_add_cancel (by omega),Int.add_zero]
 have j:a=6\/a=7\/a=8\/a=9\/a=10\/a=11\/a=12\/a=13\/a=14\/a=15\/a=16\/a=17\/a=18\/a=19\/a=20\/a=21\/a=22\/a=23\/a=24\/a=25\/a=26\/a=27\/a=28\/a=29:=by omega
 rcases j with rfl|rfl|rfl|rfl|rfl|rfl|rfl|rfl|rfl|rfl|rfl|rfl|rfl|rfl|rfl|rfl|rfl|rfl|rfl|rfl|rfl|rfl|rfl|rfl
 all_goals first
  |exact b 2 (by omega) (by omega) (by omega) (by omega) (by omega)
  |exact b 3 (by omega) (by omega) (by omega) (by omega) (by omega)
  |exact b 4 (by omega) (by omega) (by omega) (by omega) (by omega)
  |exact b 5 (by omega) (by omega) (by omega) (by omega) (by omega)
  |exact b 6 (by omega) (by omega) (by omega) (by omega) (by omega)
  |exact b 7 (by omega) (by omega) (by omega) (by omega) (by omega)
  |exact b 8 (by omega) (by omega) (by omega) (by omega) (by omega)
  |grind
theorem Yu(d:m<100)(h:ae):FW SS 218 [.int .i64 (m:Int)] h (λv e=>e=h/\v=strOf (ag m)):=by
 refine Yt _ h _ (aa (λg=>?_) (λg=>?_))
 ·have g:=dT g;rw[aF (by omega) (by omega)];refine⟨_,qM (by rfl) _ (a:=m) (b:=m+1) rfl rfl (by omega) (by simp;omega),rfl,?_⟩;rw[ef (by omega)];have:m=0\/m=1\/m=2\/m=3\/m=4\/m=5\/m=6\/m=7\/m=8\/m=9:=by omega
  rcases this with rfl|rfl|rfl|rfl|rfl|rfl|rfl|rfl|rfl|rfl<;>rfl
 ·have g:=dF g;rw[aF (n:=(m:Int)*2) (by omega) (by omega),aF (by omega) (by omega)];refine⟨_,qM (l:=SM) (by kernel_rfl) (a:=2*m) (b:=2*m+2) (by show some _=some _;congr 1;omega) (by show some _=some _;congr 1;omega) (by omega) (by show _<=200;omega),rfl,?_⟩;have c:=Ys d;rw[jq (by omega),ef (by omega),show 2*m+2-2*m=2 by omega];have i:SM.length=200:=rfl;rw[List.drop_eq_getElem_cons (by omega),List.drop_eq_getElem_cons (by omega)];have f:SM[2*m]'(by omega)=fI (m/10):=by
   apply UInt8.toNat_inj.1;have:=c.1;rw[gD,gE (by omega)]at this;rw[show(SM[2*m]'(by omega)).toNat=_ from this];unfold fI;rw[UInt8.toNat_ofNat',Nat.mod_eq_of_lt (by omega)]
  have j:SM[2*m+1]'(by omega)=fI (m%10):=by
   apply UInt8.toNat_inj.1;have:=c.2;rw[gD,gE (by omega)]at this;rw[show(SM[2*m+1]'(by omega)).toNat=_ from this];unfold fI;rw[UInt8.toNat_ofNat',Nat.mod_eq_of_lt (a:=48+m%10) (b:=2^8) (by omega)]
  grind
variable{z:Int}
section
theorem pJ{n:Int}(a:0<=n)(b:n<4294967296):wrap .u32 n=n:=by
 simp only[wrap,IntKind.bits,IntKind.signed,Bool.false_and,Bool.false_eq_true,if_false];omega
theorem Ge{t:TypeId}{a:Int}{b:Nat}(h0:0<=a)(c:a<4294967296)(d:0<b):aB P .quo t (.int .u32 a) (.int .u32 (b:Int))=some (.int .u32 (a/(b:Int))):=by
 rw[JC P t .u32 _ _ (by omega),Int.tdiv_eq_ediv_of_nonneg h0,pJ (Int.ediv_nonneg h0 (by omega)) (Int.lt_of_le_of_lt (Int.ediv_le_self _ h0) c)]
theorem aaw(h:m<10):vW (fI m) = .int .u8 (48+(m:Int)):=by grind[UInt8.toNat_ofNat',vW,fI]
structure FB(h0:ae)(k n u j w:Nat)(h:ae):Prop where
 blk:∃cs,h.get k=some (.cells cs 219 0 true)/\cs.length=24/\(cs.drop j).take (n-j)=(Num.wid (n-j) u).map vW
 hw:w=u/10^(n-j)
 lt:w<10^j
 jn:j<=n
 n24:n<=9
 ok:Lt h0 k h
section
variable {h0 h:ae} {k n u j w:Nat}
theorem FB.room(f:FB h0 k n u j w h)(r:Nat):FB h0 k n u j w (room h r):=⟨f.blk,f.hw,f.lt,f.jn,f.n24,f.ok.room r⟩
theorem FB.step(f:FB h0 k n u (j+1) w h){c:Nat}{x i:Int}(m:x=48+(w:Int)%10)(o:i=(j:Int)):
  ∃p:Addr,aD SS.P 172 (.slice (some ⟨k,0,none⟩) n c) (.int .i64 i)=some (.pointer (some p))/\∃d:eu,ah SS.P 5 (.pointer (some p)) (.int .u8 x) h=some (undef,d)/\FB h0 k n u j (w/10) (d.app h):=by
 subst m o;obtain⟨cs,b,s,l⟩:=f.blk;have r:=f.jn;have g:=f.n24;refine⟨⟨k,0+j,none⟩,?_,.set k (.cells (cs.set j (vW (fI (w%10)))) 219 0 true),?_,?_⟩
 ·unfold aD;rw[DF];dsimp only;rw[zz5];dsimp only;rw[if_pos ⟨by omega,by omega⟩,Nat.mul_one,dX,toNat_natCast]
 ·rw[show(48+((w:Nat):Int)%10)=48+((w%10:Nat):Int) by omega,<-aaw (mod_lt _ (by omega))];show(if aI SS.P 5=some 1 then(storeAt h k (0+j) [vW (fI (w%10))]).map λu=>(undef,u)else none)=_;rw[if_pos zz5];unfold storeAt;rw[b];dsimp only;rw[Nat.zero_add,if_pos ⟨by simp;omega,rfl⟩];have e:cs.take j++[vW (fI (w%10))]++cs.drop (j+[vW (fI (w%10))].length)=cs.set j (vW (fI (w%10))):=by
   rw[List.set_eq_take_append_cons_drop,if_pos (by omega),append_assoc];rfl
  grind
 ·have q:=f.ok.wf _ _ b;have a:n-j=(n-(j+1))+1:=by omega
  refine⟨⟨cs.set j (vW (fI (w%10))),?_,by grind,?_⟩,?_,?_,by omega,g,f.ok.set q _⟩
  ·show(h.set k _).get k=_;rw[ae.ay,if_pos rfl]
  ·rw[List.drop_eq_getElem_cons (by grind),a,List.take_succ_cons,List.getElem_set_self,List.drop_set_of_lt (by omega),l,zU,List.map_cons,<-f.hw]
  ·rw[a,Nat.pow_succ,<-Nat.div_div_eq_div_mul,<-f.hw]
  ·have:=f.lt;omega
theorem afT{x:Nat}(b:z=(x:Int))(a:x<100):bZ SS.P 9 (strOf SM) (.int .u32 (wrap .u32 (wrap .u32 (z*2)+1)))=some (.int .u8 (48+(x:Int)%10)):=by
 rw[pJ (n:=z*2) (by omega) (by omega),pJ (by omega) (by omega),qL (by rfl) SM .u32 (by omega) (by show _<((200:Nat):Int);omega),show(z*2+1).toNat=2*x+1 by omega,(Ys a).2];rfl
theorem afS{x:Nat}(b:z=(x:Int))(a:x<100):bZ SS.P 9 (strOf SM) (.int .u32 (wrap .u32 (z*2)))=some (.int .u8 (48+(x:Int)/10)):=by
 rw[pJ (n:=z*2) (by omega) (by omega),qL (by rfl) SM .u32 (by omega) (by show _<((200:Nat):Int);omega),show(z*2).toNat=2*x by omega,(Ys a).1];rfl
theorem FB.pair(f:FB h0 k n u (j+2) w h){c:Nat}{y i1 i2:Int}(E:y=(w:Int)%100)(B:i1=(j:Int)+1)(C:i2=(j:Int)):
  ∃m:Int,bZ SS.P 9 (strOf SM) (.int .u32 (wrap .u32 (wrap .u32 (y*2)+1)))=some (.int .u8 m)/\
  ∃d:Int,bZ SS.P 9 (strOf SM) (.int .u32 (wrap .u32 (y*2)))=some (.int .u8 d)/\
  ∃g:Addr,aD SS.P 172 (.slice (some ⟨k,0,none⟩) n c) (.int .i64 i1)=some (.pointer (some g))/\
  ∃a:eu,ah SS.P 5 (.pointer (some g)) (.int .u8 m) (Go.Ab.room h 15)=some (undef,a)/\
  ∃l:Addr,aD SS.P 172 (.slice (some ⟨k,0,none⟩) n c) (.int .i64 i2)=some (.pointer (some l))/\
  ∃b:eu,ah SS.P 5 (.pointer (some l)) (.int .u8 d) (a.app (Go.Ab.room h 15))=some (undef,b)/\
  FB h0 k n u j (w/100) (b.app (a.app (Go.Ab.room h 15))):=by
 have e:y=((w%100:Nat):Int):=by omega
 obtain⟨p,z,s,r,A⟩:=(f.room 15).step (j:=j+1) (c:=c) (x:=48+((w%100:Nat):Int)%10) (i:=i1) (by omega) (by omega);obtain⟨q,t,o,v,D⟩:=A.step (c:=c) (x:=48+((w%100:Nat):Int)/10) (i:=i2) (by omega) (by omega);refine⟨_,afT e (by omega),_,afS e (by omega),p,z,s,r,q,t,o,v,?_⟩
 grind
end
theorem VY{h0 h:ae}{k n c u:Nat}(f:FB h0 k n u n u h):FW SS 220 [.slice (some ⟨k,0,none⟩) n c,.int .u64 (u:Int)] h (λv O=>v = .tuple ⟨[]⟩/\∃w,FB h0 k n u 0 w O):=by
 have V:=f.n24;have L:=Cw (some ⟨k,0,none⟩) n c (u:Int) (λD i v g=>∃w:Nat,v=(w:Int)/\D=i/\FB h0 k n u i w g) (λv O=>v = .tuple ⟨[]⟩/\∃w,FB h0 k n u 0 w O) (by
  intro D i v;intros;rename_i g R;obtain⟨w,rfl,rfl,f⟩:=R;have S:=f.jn;have W:w<1000000000:=lt_of_lt_of_le f.lt (show 10^D<=10^9 from pow_le_pow_right (by omega) (by omega));refine aa (λK=>?_) (λK=>?_)
  ·have K:=dT K;obtain⟨j,rfl⟩:∃j,D=j+8:=⟨D-8,by omega⟩
   refine⟨_,ke (b:=100000000) (by omega) (by omega),_,ss (b:=100000000) (by omega) (by omega) (by omega),?_⟩;rw[pJ (n:=((w:Nat):Int)%((100000000:Nat):Int)) (by omega) (by omega)];refine⟨_,Ge (b:=10000) (by omega) (by omega) (by omega),_,ke (b:=10000) (by omega) (by omega),_,Ge (b:=100) (by omega) (by omega) (by omega),_,ke (b:=100) (by omega) (by omega),_,Ge (b:=100) (by omega) (by omega) (by omega),_,ke (b:=100) (by omega) (by omega),?_⟩;obtain⟨C,d,q,e,t,m,z,s,B,A,r,o,Q⟩:=FB.pair (j:=j+6) (c:=c) (y:=((w:Nat):Int)%((100000000:Nat):Int)%((10000:Nat):Int)%((100:Nat):Int)) (i1:=wrap .i64 (((j+8:Nat):Int)-1)) (i2:=wrap .i64 (((j+8:Nat):Int)-2)) f (by omega) (by rw[aF (by omega) (by omega)];omega) (by rw[aF (by omega) (by omega)];omega);refine⟨C,d,q,e,t,m,z,s,B,A,r,o,?_⟩;obtain⟨C,d,q,e,t,m,z,s,B,A,r,o,I⟩:=FB.pair (j:=j+4) (c:=c) (y:=((w:Nat):Int)%((100000000:Nat):Int)%((10000:Nat):Int)/((100:Nat):Int)) (i1:=wrap .i64 (((j+8:Nat):Int)-3)) (i2:=wrap .i64 (((j+8:Nat):Int)-4)) Q (by omega) (by rw[aF (by omega) (by omega)];omega) (by rw[aF (by omega) (by omega)];omega);refine⟨C,d,q,e,t,m,z,s,B,A,r,o,?_⟩;obtain⟨C,d,q,e,t,m,z,s,B,A,r,o,G⟩:=FB.pair (j:=j+2) (c:=c) (y:=((w:Nat):Int)%((100000000:Nat):Int)/((10000:Nat):Int)%((100:Nat):Int)) (i1:=wrap .i64 (((j+8:Nat):Int)-5)) (i2:=wrap .i64 (((j+8:Nat):Int)-6)) I (by omega) (by rw[aF (by omega) (by omega)];omega) (by rw[aF (by omega) (by omega)];omega);refine⟨C,d,q,e,t,m,z,s,B,A,r,o,?_⟩;obtain⟨C,d,q,e,t,m,z,s,B,A,r,o,F⟩:=FB.pair (j:=j) (c:=c) (y:=((w:Nat):Int)%((100000000:Nat):Int)/((10000:Nat):Int)/((100:Nat):Int)) (i1:=wrap .i64 (((j+8:Nat):Int)-7)) (i2:=wrap .i64 (((j+8:Nat):Int)-8)) G (by omega) (by rw[aF (by omega) (by omega)];omega) (by rw[aF (by omega) (by omega)];omega);refine⟨C,d,q,e,t,m,z,s,B,A,r,o,?_⟩;have N:wrap .i64 (((j+8:Nat):Int)-8)=(j:Int):=by rw[aF (by omega) (by omega)];omega
   rw[N];exact jV j (by omega) ⟨w/100000000,by omega,rfl,by
    have:=F;simp only[Nat.div_div_eq_div_mul]at this;exact this⟩
  ·have K:=dF K;have T:w<100000000:=lt_of_lt_of_le f.lt (show 10^D<=10^8 from pow_le_pow_right (by omega) (by omega));rw[pJ (n:=((w:Nat):Int)) (by omega) (by omega)];refine aa (λJ=>?_) (λJ=>?_)
   ·have J:=dT J;obtain⟨j,rfl⟩:∃j,D=j+4:=⟨D-4,by omega⟩
    refine⟨_,ke (b:=10000) (by omega) (by omega),_,Ge (b:=10000) (by omega) (by omega) (by omega),_,Ge (b:=100) (by omega) (by omega) (by omega),_,ke (b:=100) (by omega) (by omega),?_⟩;obtain⟨C,d,q,e,t,m,z,s,B,A,r,o,Q⟩:=FB.pair (j:=j+2) (c:=c) (y:=((w:Nat):Int)%((10000:Nat):Int)%((100:Nat):Int)) (i1:=wrap .i64 (((j+4:Nat):Int)-1)) (i2:=wrap .i64 (((j+4:Nat):Int)-2)) f (by omega) (by rw[aF (by omega) (by omega)];omega) (by rw[aF (by omega) (by omega)];omega);refine⟨C,d,q,e,t,m,z,s,B,A,r,o,?_⟩;obtain⟨C,d,q,e,t,m,z,s,B,A,r,o,I⟩:=FB.pair (j:=j) (c:=c) (y:=((w:Nat):Int)%((10000:Nat):Int)/((100:Nat):Int)) (i1:=wrap .i64 (((j+4:Nat):Int)-3)) (i2:=wrap .i64 (((j+4:Nat):Int)-4)) Q (by omega) (by rw[aF (by omega) (by omega)];omega) (by rw[aF (by omega) (by omega)];omega);refine⟨C,d,q,e,t,m,z,s,B,A,r,o,?_⟩;have N:wrap .i64 (((j+4:Nat):Int)-4)=(j:Int):=by rw[aF (by omega) (by omega)];omega
    rw[N];have U:=I.lt;refine aa (λE=>?_) (λE=>?_)
    ·have E:=dT E;obtain⟨l,rfl⟩:∃l,j=l+2:=⟨j-2,by omega⟩
     refine⟨_,ke (b:=100) (by omega) (by omega),_,Ge (b:=100) (by omega) (by omega) (by omega),?_⟩;obtain⟨C,d,q,e,t,m,z,s,B,A,r,o,G⟩:=FB.pair (j:=l) (c:=c) (y:=((w:Nat):Int)/((10000:Nat):Int)%((100:Nat):Int)) (i1:=wrap .i64 (((l+2:Nat):Int)-1)) (i2:=wrap .i64 (((l+2:Nat):Int)-2)) I (by omega) (by rw[aF (by omega) (by omega)];omega) (by rw[aF (by omega) (by omega)];omega);refine⟨C,d,q,e,t,m,z,s,B,A,r,o,?_⟩;have P:wrap .i64 (((l+2:Nat):Int)-2)=(l:Int):=by rw[aF (by omega) (by omega)];omega
     rw[P];refine aa (λa=>?_) (λa=>?_)
     ·have a:=dT a;obtain rfl:l=1:=by omega
      have M:=G.lt;rw[pJ (n:=48+_) (by omega) (by omega),vJ (n:=48+_) (by omega) (by omega)];obtain⟨p,d,H,e,F⟩:=G.step (c:=c) (x:=48+((w:Nat):Int)/((10000:Nat):Int)/((100:Nat):Int)) (i:=0) (by omega) rfl;exact⟨p,d,H,e,rfl,_,F⟩
     ·have a:=dF a;obtain rfl:l=0:=by omega
      exact⟨rfl,_,G⟩
    ·have E:=dF E;refine aa (λa=>?_) (λa=>?_)
     ·have a:=dT a;obtain rfl:j=1:=by omega
      rw[pJ (n:=48+_) (by omega) (by omega),vJ (n:=48+_) (by omega) (by omega)];obtain⟨p,d,H,e,F⟩:=I.step (c:=c) (x:=48+((w:Nat):Int)/((10000:Nat):Int)) (i:=0) (by omega) rfl;exact⟨p,d,H,e,rfl,_,F⟩
     ·have a:=dF a;obtain rfl:j=0:=by omega
      exact⟨rfl,_,I⟩
   ·have J:=dF J;refine aa (λE=>?_) (λE=>?_)
    ·have E:=dT E;obtain⟨l,rfl⟩:∃l,D=l+2:=⟨D-2,by omega⟩
     refine⟨_,ke (b:=100) (by omega) (by omega),_,Ge (b:=100) (by omega) (by omega) (by omega),?_⟩;obtain⟨C,d,q,e,t,m,z,s,B,A,r,o,G⟩:=FB.pair (j:=l) (c:=c) (y:=((w:Nat):Int)%((100:Nat):Int)) (i1:=wrap .i64 (((l+2:Nat):Int)-1)) (i2:=wrap .i64 (((l+2:Nat):Int)-2)) f (by omega) (by rw[aF (by omega) (by omega)];omega) (by rw[aF (by omega) (by omega)];omega);refine⟨C,d,q,e,t,m,z,s,B,A,r,o,?_⟩;have P:wrap .i64 (((l+2:Nat):Int)-2)=(l:Int):=by rw[aF (by omega) (by omega)];omega
     rw[P];have M:=G.lt;refine aa (λa=>?_) (λa=>?_)
     ·have a:=dT a;obtain rfl:l=1:=by omega
      rw[pJ (n:=48+_) (by omega) (by omega),vJ (n:=48+_) (by omega) (by omega)];obtain⟨p,d,H,e,F⟩:=G.step (c:=c) (x:=48+((w:Nat):Int)/((100:Nat):Int)) (i:=0) (by omega) rfl;exact⟨p,d,H,e,rfl,_,F⟩
     ·have a:=dF a;obtain rfl:l=0:=by omega
      exact⟨rfl,_,G⟩
    ·have E:=dF E;have M:=f.lt;refine aa (λa=>?_) (λa=>?_)
     ·have a:=dT a;obtain rfl:D=1:=by omega
      rw[pJ (n:=48+_) (by omega) (by omega),vJ (n:=48+_) (by omega) (by omega)];obtain⟨p,d,H,e,F⟩:=f.step (c:=c) (x:=48+((w:Nat):Int)) (i:=0) (by omega) rfl;exact⟨p,d,H,e,rfl,_,F⟩
     ·have a:=dF a;obtain rfl:D=0:=by omega
      exact⟨rfl,_,f⟩)
 simp_all[VX]
end
variable{k:Nat}{b:Bool}{i:Nat}
noncomputable def UA:eB:= .cells (List.replicate 24 (.int .u8 0)) 219 0 true
theorem aeH:av SS.P 219=some (UA,np):=by kernel_rfl
theorem aeI:SS.P.underlying 219=some (.array 24 5):=by kernel_rfl
theorem H6{cs:List Value}(c:h.get k=some (.cells cs 219 0 b)){n:Nat}(f:n<=24):cg SS.P 219 (.pointer (some ⟨k,0,none⟩)) none (some (.int .i64 (n:Int))) none h=some (.slice (some ⟨k,0,none⟩) n 24):=by
 unfold cg;dsimp only;rw[aeI];dsimp only[gk];rw[zz5,c];show(if 0<=((0:Nat):Int)/\((0:Nat):Int)<=(n:Int)/\(n:Int)<=((24:Nat):Int)/\24<dK then some (Value.slice (some ⟨k,0+((0:Nat):Int).toNat*1,none⟩) ((n:Int)-((0:Nat):Int)).toNat (24-((0:Nat):Int).toNat))else none)=_;have a:24<dK:=by unfold dK;omega
 rw[if_pos ⟨by omega,by omega,by omega,a⟩];have d:((n:Int)-((0:Nat):Int)).toNat=n:=by omega
 have e:((0:Nat):Int).toNat=0:=rfl;rw[d,e]
theorem PS{c:Nat}{cs:List Value}(e:h.get k=some (.cells cs i j b)){l:List UInt8}(d:(cs.drop n).take m=l.map vW)(a:l.length=m):D5 SS.P 172 9 (.slice (some ⟨k,n,none⟩) m c) h=some (strOf l):=by
 unfold D5 dr;dsimp only;rw[DF,show SS.P.underlying 9=some .string by kernel_rfl];dsimp only;rw[show SS.P.underlying 5=some (.int .u8) by kernel_rfl];dsimp only;rw[e];dsimp only;rw[d,if_pos (by rw[lM];exact a),r9];rfl
theorem Mf(p:n<1000000000){h:ae}(t:qJ h)(w:Wf h):FW SS 207 [.int .u64 (n:Int),.int .i64 10] h (λv q=>v=strOf (ag n)/\Ok h q):=by
 refine Me _ h _ (aa (λ_=>?_) (λg=>by simp at g));refine aa (λg=>?_) (λg=>?_)
 ·have g:=dT g;rw[aF (by omega) (by omega)];refine(Yu (by omega) h).mono ?_;rintro _ _ ⟨rfl,rfl⟩;exact⟨_,rfl,rfl,Ok.refl w⟩
 ·have g:=dF g;have b:=(Ok.refl w).push UA;refine⟨_,aeH,(Kb (by omega) p (t.ok b)).mono ?_⟩;rintro _ y ⟨r,d,rfl,u,i,c⟩;subst r;have l:(h.push UA).get h.next=some (.cells (List.replicate 24 (.int .u8 0)) 219 0 true):=by rw[ae.bH,if_pos rfl];rfl
  refine⟨_,rfl,_,_,_,H6 l (n:=d+1) (by omega),?_⟩;have f:FB (h.push UA) h.next (d+1) n (d+1) n (h.push UA):=⟨⟨_,l,by simp,by simp[Num.wid]⟩,by simp,c,Nat.le_refl _,by omega,Lt.refl b.wf⟩
  refine(VY f).mono ?_;rintro _ s ⟨rfl,x,a⟩;obtain⟨cs,m,z,k⟩:=a.blk;rw[drop_zero,Nat.sub_zero]at k;refine⟨rfl,_,_,_,H6 m (n:=d+1) (by omega),ag n,PS m ?_ ?_,rfl,?_⟩
  ·rw[drop_zero,k,Cb c (.inr i)]
  ·rw[<-Cb c (.inr i),Cc]
  ·refine⟨a.ok.wf,λj B o=>a.ok.kL j B (λe=>by have:=w _ _ o;omega) (b.ext _ _ o),Nat.le_trans b.nx a.ok.nx⟩
theorem OP(a:n<1000000000){h:ae}(t:qJ h)(w:Wf h):FW SS 197 [.int .u64 (n:Int),.int .i64 10] h (λv b=>v=strOf (ag n)/\Ok h b):=by
 refine OO _ h _ ((Mf a t w).mono ?_);rintro _ c ⟨rfl,o⟩;exact⟨_,rfl,rfl,o⟩
noncomputable def tZ:FD:=dq Tryz.f208 []
theorem Hr(p:Addr)(h:ae)(Q:VH)(m:fP 201 (.pointer (some p)) 0 λl=>xO (aj SS.P 199 h (.pointer (some l))) λk=>xB (aB SS.P .eql 199 (.pointer k) (.pointer none)) λj=>au j (xG (eH SS.P kn (ev SS.gl (uN [(.pointer (some p)),undef,(.pointer (some p)),(.pointer (some p)),(.pointer (some l)),(.pointer k),(.bool j),(.pointer (some p)),(.pointer (some p))] 11)) (M9 (gP [1,0] tZ.body) 2) h) h λh _ i=>FW SS 222 [h] i λf g=>yV f λe=>xG (eH SS.P kn (ev SS.gl (uN [(.pointer (some p)),undef,(.pointer (some p)),(.pointer (some p)),(.pointer (some l)),(.pointer k),(.bool j),(.pointer (some p)),(.pointer (some p)),h,e] 9)) (M9 (gP [1,0] tZ.body) 4) g) g λc _ d=>fP 201 (.pointer (some p)) 0 λb=>xU (ah SS.P 199 (.pointer (some b)) c d) d λ_ a=>Q (.tuple ⟨[]⟩) a) (fP 201 (.pointer (some p)) 0 λc=>xO (aj SS.P 199 h (.pointer (some c))) λb=>xB (aB SS.P .neq 199 (.pointer b) (.pointer (some p))) λa=>au a (False) (Q (.tuple ⟨[]⟩) h))):FW SS 208 [(.pointer (some p))] h Q:=du tZ Tryz.func208 (ai m)
noncomputable def Vp:FD:=dq Tryz.f198 []
theorem RZ(p:Addr)(l:LB)(h:ae)(Q:VH)(n:FW SS 208 [(.pointer (some p))] h λk m=>k=(.tuple ⟨[]⟩)/\fP 201 (.pointer (some p)) 1 λj=>lL 172 m j λg h i=>xE (bR SS.P 172 9 (.slice g h i) (strOf l) m) m λc d e _ f=>fP 201 (.pointer (some p)) 1 λb=>xU (ah SS.P 172 (.pointer (some b)) (.slice c d e) f) f λ_ a=>Q (.tuple ⟨[(.int .i64 ((l:LB).length:Int)),.nilIface]⟩) a):FW SS 198 [(.pointer (some p)),(strOf l)] h Q:=du Vp Tryz.func198 (ai n)
noncomputable def Cl:FD:=dq Tryz.f200 []
theorem OB(p:Addr)(h:ae)(Q:VH)(n:fP 201 (.pointer (some p)) 1 λm=>lL 172 (room h 12) m λj k l=>xG (eH SS.P kn (ev SS.gl (uN [(.pointer (some p)),undef,(strOf []),(.pointer (some p)),(.pointer (some p)),(.pointer (some m)),(.slice j k l)] 7)) (M9 (gP [1,0] Cl.body) 4) (room h 12)) (room h 12) λg _ i=>fP 201 (.pointer (some p)) 1 λf=>lL 172 i f λc d e=>xG (eH SS.P kn (ev SS.gl [(.pointer (some p)),undef,(strOf []),(.pointer (some p)),(.pointer (some p)),(.pointer (some m)),(.slice j k l),g,(.pointer (some p)),(.pointer (some p)),(.pointer (some f)),(.slice c d e),(iA d),undef]) (M9 (gP [1,0] Cl.body) 10) i) i λa _ b=>(aj SS.P 172 (room h 12) (.pointer (some f))=some (.slice c d e)/\dV 4 (.slice c d e) (.slice c d e)=true)/\(WE SS.P 172 (.slice c d e) (room h 12)=some (iA d)/\dV 4 (iA d) (iA d)=true)/\Q a b):FW SS 200 [(.pointer (some p))] h Q:=du Cl Tryz.func200 (ai n)
variable{T:TypeId}{v:Value}{c:List Value}{s:List UInt8}{t:List UInt8}
theorem zF:SS.P.underlying 199=some (.pointer 201):=by kernel_rfl
theorem DH:SS.P.underlying 223=some .unsafePointer:=by kernel_rfl
theorem Zb:aI SS.P 201=some 2:=by kernel_rfl
theorem aaD{ρ:Operand->Value}{o:Oper}{x:Operand}(q:o.op = .convert 199 223 x){h:ae}{k:Nat}{a b:Value}{m:Bool}(g:ρ x = .pointer (some ⟨k,0,none⟩))(p:h.get k=some (.cells [a,b] 201 0 m)):eH SS.P kn ρ o h=some (.pointer (some ⟨k,0,none⟩),.no):=by
 obtain⟨f,s,i,e,d,c⟩:=o;subst q;unfold eH;have l:dP SS.P ρ ⟨f,.convert 199 223 x,i,e,d,c⟩=none:=by
  show iR SS.P 199 223 (ρ x)=none;rw[g];unfold iR;rw[zF,DH]
 have n:dr SS.P ρ ⟨f,.convert 199 223 x,i,e,d,c⟩ h=none:=by
  unfold dr;dsimp only;rw[zF,DH,g]
 have j:cn SS.P ρ ⟨f,.convert 199 223 x,i,e,d,c⟩=none:=by
  unfold cn;dsimp only;rw[zF,DH,g]
 rw[l];dsimp only;rw[n];dsimp only;rw[j];dsimp only;unfold iq;dsimp only;rw[zF,DH,g];show(match h.get k with|some (.cells cs r 0 _)=>if 201=r/\aI SS.P 201=some cs.length/\0<cs.length then some (Value.pointer (some ⟨k,0,none⟩),eu.no)else none|_=>none)=_;rw[p];show(if 201=201/\aI SS.P 201=some [a,b].length/\0<[a,b].length then some (Value.pointer (some ⟨k,0,none⟩),eu.no)else none)=_;rw[if_pos ⟨rfl,Zb,by simp⟩]
theorem Sc{ρ:Operand->Value}{o:Oper}{x:Operand}(q:o.op = .convert 223 199 x){h:ae}{k:Nat}{a b:Value}{m:Bool}(g:ρ x = .pointer (some ⟨k,0,none⟩))(p:h.get k=some (.cells [a,b] 201 0 m)):eH SS.P kn ρ o h=some (.pointer (some ⟨k,0,none⟩),.no):=by
 obtain⟨f,s,i,e,d,c⟩:=o;subst q;unfold eH;have l:dP SS.P ρ ⟨f,.convert 223 199 x,i,e,d,c⟩=none:=by
  show iR SS.P 223 199 (ρ x)=none;rw[g];unfold iR;rw[zF,DH]
 have n:dr SS.P ρ ⟨f,.convert 223 199 x,i,e,d,c⟩ h=none:=by
  unfold dr;dsimp only;rw[zF,DH,g]
 have j:cn SS.P ρ ⟨f,.convert 223 199 x,i,e,d,c⟩=none:=by
  unfold cn;dsimp only;rw[zF,DH,g]
 rw[l];dsimp only;rw[n];dsimp only;rw[j];dsimp only;unfold iq;dsimp only;rw[zF,DH,g];show(match h.get k with|some (.cells cs r 0 _)=>if 201=r/\aI SS.P 201=some cs.length/\0<cs.length then some (Value.pointer (some ⟨k,0,none⟩),eu.no)else none|_=>none)=_;rw[p];show(if 201=201/\aI SS.P 201=some [a,b].length/\0<[a,b].length then some (Value.pointer (some ⟨k,0,none⟩),eu.no)else none)=_;rw[if_pos ⟨rfl,Zb,by simp⟩]
def self(k:Nat):Value:= .pointer (some ⟨k,0,none⟩)
theorem adF(k:Nat):bk SS.P 201 (.pointer (some ⟨k,0,none⟩)) 0=some (.pointer (some ⟨k,0,none⟩)):=by kernel_rfl
theorem aaS(k:Nat):bk SS.P 201 (.pointer (some ⟨k,0,none⟩)) 1=some (.pointer (some ⟨k,1,none⟩)):=by kernel_rfl
theorem ld0{a b:Value}{c:Bool}(d:h.get k=some (.cells [a,b] 201 0 c)):aj SS.P 199 h (.pointer (some ⟨k,0,none⟩))=some a:=by
 unfold aj;rw[zF];dsimp only;rw[d];dsimp only;rw[show Go.Ab.isAgg SS.P 199=false by kernel_rfl];rfl
theorem ld1{a b:Value}{c:Bool}(d:h.get k=some (.cells [a,b] 201 0 c)):aj SS.P 172 h (.pointer (some ⟨k,1,none⟩))=some b:=by
 unfold aj;rw[DF];dsimp only;rw[d];dsimp only;rw[show Go.Ab.isAgg SS.P 172=false by kernel_rfl];rfl
theorem st0{a b x:Value}(d:h.get k=some (.cells [a,b] 201 0 true))(c:ey x=true)(e:x.cells = #[x]):ah SS.P 199 (.pointer (some ⟨k,0,none⟩)) x h=some (undef,.set k (.cells [x,b] 201 0 true)):=by
 show(if aI SS.P 199=some x.cells.size then(storeAt h k 0 x.cells.toList).map λu=>(undef,u)else none)=_;rw[e,show aI SS.P 199=some 1 by kernel_rfl,if_pos (show some 1=some #[x].size from rfl)];unfold storeAt;rw[d];dsimp only;rw[if_pos ⟨by simp,by simp[c]⟩];rfl
theorem st1{a b x:Value}(d:h.get k=some (.cells [a,b] 201 0 true))(c:ey x=true)(e:x.cells = #[x]):ah SS.P 172 (.pointer (some ⟨k,1,none⟩)) x h=some (undef,.set k (.cells [a,x] 201 0 true)):=by
 show(if aI SS.P 172=some x.cells.size then(storeAt h k 1 x.cells.toList).map λu=>(undef,u)else none)=_;rw[e,show aI SS.P 172=some 1 by kernel_rfl,if_pos (show some 1=some #[x].size from rfl)];unfold storeAt;rw[d];dsimp only;rw[if_pos ⟨by simp,by simp[c]⟩];rfl
theorem JE{a b:Value}(c:h.get k=some (.cells [a,b] 201 0 true))(f:a = .pointer none\/a=self k):
  FW SS 208 [self k] h (λv d=>v = .tuple ⟨[]⟩/\d.get k=some (.cells [self k,b] 201 0 true)/\(∀j,j≠k->d.get j=h.get j)/\d.next=h.next):=by
 refine Hr ⟨k,0,none⟩ h _ ⟨_,adF k,?_⟩;rcases f with rfl|rfl
 ·refine⟨_,ld0 c,true,by kernel_rfl,?_⟩;refine aa (λ_=>?_) (λg=>by cases g);refine⟨_,_,aaD (k:=k) (x:= .tmp 8) (by kernel_rfl) (by kernel_rfl) c,Ek (p:=tx) (v:=self k) (by kernel_rfl) (by kernel_rfl) (λ_=>rfl) ⟨_,rfl,_,_,Sc (k:=k) (x:= .tmp 10) (by kernel_rfl) (by kernel_rfl) c,_,adF k,_,st0 c rfl rfl,rfl,?_,?_,rfl⟩⟩
  ·show(h.set k _).get k=_;rw[ae.ay,if_pos rfl];rfl
  ·intro j i;show(h.set k _).get j=_;rw[ae.ay,if_neg i]
 ·refine⟨_,ld0 c,false,by kernel_rfl,?_⟩;refine aa (λg=>by cases g) (λ_=>?_);have e:aB SS.P .neq 199 (self k) (self k)=some (.bool false):=by
   show((uj SS.P 199 (.pointer (some ⟨k,0,none⟩)) (.pointer (some ⟨k,0,none⟩))).map λb=>Value.bool !b)=_;unfold uj;dsimp only;rw[zF];dsimp only;rw[if_pos ⟨rfl,by rw[Zb];rfl⟩];rfl
  refine⟨_,adF k,_,ld0 c,false,e,aa (λg=>by cases g) (λ_=>⟨rfl,c,λ_ _=>rfl,rfl⟩)⟩
def Bd(b h:ae)(k:Nat)(l:List UInt8):Prop:=∃a v,h.get k=some (.cells [a,v] 201 0 true)/\(a = .pointer none\/a=self k)/\DQ b h 5 v (l.map vW)/\b.next<=k
theorem rw5:fE SS.P 5=some ((SS.P.info? 5).getD default):=by kernel_rfl
theorem ahc:((SS.P.info? 5).getD default).size=1:=by kernel_rfl
theorem ahb:((SS.P.info? 5).getD default).bytes=1:=by kernel_rfl
theorem tl9:eI SS.P 9=true:=by kernel_rfl
theorem ad6(h:ae)(l:List UInt8):gZ h 1 (strOf l)=some (l.map vW,(l.map vW).length):=by
 show(if 1=1 then some (l.map (λb=>Value.int .u8 b.toNat),l.length)else none)=_;rw[if_pos rfl,lM];rfl
theorem Qv:∀l:List UInt8,(l.map vW).all ey=true
 |[]=>rfl
 |c::l=>by rw[List.map_cons,List.all_cons,Qv l];rfl
theorem Kf{i:ae}(o:DQ g h T v c)(f:∀j B,h.get j=some B->(∃cs d,B = .cells cs T 1 d)->i.get j=some B):DQ g i T v c:=by
 rcases o with o|⟨k,b,e,a⟩
 ·exact .inl o
 ·exact .inr ⟨k,b,e,f _ _ a ⟨_,_,rfl⟩⟩
theorem Cn(u:Wf g)(p:Ok g h)(b:Bd g h k s)(T:s.length+t.length<=1000000):
  FW SS 198 [self k,strOf t] h (λv G=>v = .tuple ⟨[.int .i64 (t.length:Int),.nilIface]⟩/\Ok g G/\Bd g G k (s++t)):=by
 obtain⟨a,v,y,R,o,D⟩:=b;refine RZ ⟨k,0,none⟩ t h _ ((JE y R).mono ?_);rintro _ C ⟨rfl,A,z,F⟩;have H:Ok g C:=by
  refine⟨λj B d=>?_,λj B d=>?_,by rw[F];exact p.nx⟩
  ·rw[F];by_cases e:j=k
   ·rw[e];exact p.wf _ _ y
   ·rw[z j e]at d;exact p.wf _ _ d
  ·have:=u _ _ d;rw[z j (by omega)];exact p.ext _ _ d
 have r:DQ g C 5 v (s.map vW):=Kf o λj B d x=>by
  obtain⟨cs,P,rfl⟩:=x;by_cases e:j=k
  ·subst e;rw[y]at d;injection d with d;injection d;omega
  ·rw[z j e];exact d
 have M:∃a n c,v = .slice a n c:=by
  rcases r with⟨rfl,_⟩|⟨_,rfl,_⟩<;>exact⟨_,_,_,rfl⟩
 obtain⟨Q,L,S,rfl⟩:=M;obtain⟨I,K,E,f,N,J,q,w⟩:=r.ago DF rw5 ahc tl9 u H (ad6 C t) (Qv t) (by rw[ahb,lM,lM];omega) (by rw[lM,lM];omega);have l:(f.app C).get k=some (.cells [self k,.slice Q L S] 201 0 true):=w k _ A (by
  intro o n c e;rcases r with⟨i,_⟩|⟨O,i,_,m⟩
  ·rw[i]at e;cases e
  ·rw[i]at e;injection e with e
   injection e with e
   injection e with e
   subst e;rw[A]at m;injection m with m;injection m;omega)
 refine⟨rfl,_,aaS k,_,_,_,ld1 A,I,K,E,f,N,_,aaS k,_,st1 l ?_ ?_,rfl,?_,?_⟩
 ·rcases J with⟨i,_⟩|⟨O,i,_,m⟩<;>rw[i]<;>rfl
 ·rfl
 ·exact q.set _ D (q.wf _ _ l) u
 ·refine⟨self k,.slice I K E,?_,.inr rfl,?_,D⟩
  ·show((f.app C).set k _).get k=_;rw[ae.ay,if_pos rfl]
  ·rw[map_append];refine Kf J λj B d x=>?_;obtain⟨cs,P,rfl⟩:=x;show((f.app C).set k _).get j=_;rw[ae.ay,if_neg]
   ·exact d
   intro e;subst e;rw[l]at d;injection d with d;injection d;omega
theorem afO{ρ:Operand->Value}{o:Oper}{x:Operand}{ts:Array TypeId}(f:o.op = .call ⟨.builtin .unsafeSliceData,#[x],ts⟩){h:ae}{a:Addr}{n c:Nat}(e:ρ x = .slice (some a) n c)(g:0<bY c):eH SS.P kn ρ o h=some (.pointer (some a),.no):=by
 obtain⟨j,l,k,i,d,b⟩:=o;subst f;show(match [x].map ρ with
  |[.slice none _ _]=>some (Value.pointer none,eu.no)
  |[.slice (some a) _ c]=>if 0<bY c then some (Value.pointer (some a),eu.no)else none
  |_=>none)=_
 rw[List.map_cons,List.map_nil,e];show(if 0<bY c then some (Value.pointer (some a),eu.no)else none)=_;rw[if_pos g]
theorem af0:SS.P.underlying 217=some (.pointer 5):=by kernel_rfl
theorem abN{ρ:Operand->Value}{o:Oper}{x y:Operand}{t2:TypeId}(j:o.op = .call ⟨.builtin .unsafeString,#[x,y],#[217,t2]⟩){h:ae}{k:Nat}{l:List UInt8}(d:ρ x = .pointer (some ⟨k,0,none⟩))(q:ρ y = .int .i64 (l.length:Int))(g:h.get k=some (.cells (l.map vW) 5 1 true))(m:l≠[])(u:l.length<9223372036854775807):eH SS.P kn ρ o h=some (strOf l,.set k (.cells (l.map vW) 5 1 false)):=by
 obtain⟨s,v,t,r,c,b⟩:=o;subst j;show(match [x,y].map ρ,(#[217,t2]:Array TypeId)[0]? with
  |[.pointer none,.int _ 0],some _=>some (strOf [],eu.no)
  | [.pointer (some ⟨k,i,none⟩),.int _ n],some p=>(match h.get k,SS.P.underlying p with
   | some (.cells cs e 1 true),some (.pointer a)=>
    if e=a/\aI SS.P e=some 1/\0<n/\n<9223372036854775807/\((cs.drop i).take n.toNat).length=n.toNat then
     (match bytesOf ((cs.drop i).take n.toNat)with
     |some l=>some (strOf l,eu.set k (.cells cs e 1 false))
     |none=>none)
    else none
   |_,_=>none)
  |_,_=>none)=_
 rw[List.map_cons,List.map_cons,List.map_nil,d,q];show(match h.get k,SS.P.underlying 217 with
   | some (.cells cs e 1 true),some (.pointer a)=>
    if e=a/\aI SS.P e=some 1/\0<(l.length:Int)/\(l.length:Int)<9223372036854775807/\((cs.drop 0).take (l.length:Int).toNat).length=(l.length:Int).toNat then
     (match bytesOf ((cs.drop 0).take (l.length:Int).toNat)with
     |some l=>some (strOf l,eu.set k (.cells cs e 1 false))
     |none=>none)
    else none
   |_,_=>none)=_
 rw[g,af0];have w:=List.length_pos_iff.2 m;show(if 5=5/\aI SS.P 5=some 1/\0<(l.length:Int)/\(l.length:Int)<9223372036854775807/\(((l.map vW).drop 0).take (l.length:Int).toNat).length=(l.length:Int).toNat then
     (match bytesOf (((l.map vW).drop 0).take (l.length:Int).toNat)with
     |some f=>some (strOf f,eu.set k (.cells (l.map vW) 5 1 false))
     |none=>none)
    else none)=_
 rw[toNat_natCast,drop_zero,take_of_length_le (by simp),if_pos ⟨rfl,zz5,by omega,by omega,by simp⟩,r9]
theorem OC(l:Wf g)(j:Ok g h)(b:Bd g h k s)(e:s≠[])(z:s.length<=1000000):
  FW SS 200 [self k] h (λv q=>v=strOf s/\Ok g q):=by
 obtain⟨a,v,r,A,o,w⟩:=b;rcases o with⟨_,m⟩|⟨f,rfl,p,i⟩
 ·exact absurd (List.map_eq_nil_iff.1 m) e
 have d:(room h 12).get k=_:=r;have t:=List.length_pos_iff.2 e;have u:bY (dK+(s.map vW).length)=s.length:=by unfold bY;rw[if_pos (by omega),lM];omega
 rw[lM]at*;refine OB ⟨k,0,none⟩ h _ ⟨_,aaS k,_,_,_,ld1 d,_,_,afO (x:= .tmp 6) (ts:= #[172]) (a:=⟨f,0,none⟩) (n:=s.length) (c:=dK+s.length) (by kernel_rfl) (by kernel_rfl) (by rw[u];exact t),_,aaS k,_,_,_,ld1 d,_,_,abN (x:= .tmp 7) (y:= .tmp 12) (k:=f) (l:=s) (t2:=3) (by kernel_rfl) (by kernel_rfl) (by kernel_rfl) i e (by omega),⟨ld1 d,by simp[dV]⟩,⟨rfl,by simp[dV]⟩,rfl,?_⟩;exact(j.room 12).set _ p ((j.room 12).wf _ _ i) l
theorem agU(m:Nat)(h:ae):cx SS.P SS.gl SS.pr (m+8) 199 [strOf [48],.int .i64 0] h=some (strOf [],h):=by kernel_rfl
theorem agV(m:Nat)(h:ae):cx SS.P SS.gl SS.pr (m+8) 199 [strOf [48],.int .i64 1] h=some (strOf [48],h):=by kernel_rfl
theorem agW(m:Nat)(h:ae):cx SS.P SS.gl SS.pr (m+8) 199 [strOf [48],.int .i64 2] h=some (strOf [48,48],h):=by kernel_rfl
theorem agX(m:Nat)(h:ae):cx SS.P SS.gl SS.pr (m+8) 199 [strOf [48],.int .i64 3] h=some (strOf [48,48,48],h):=by kernel_rfl
theorem agY(m:Nat)(h:ae):cx SS.P SS.gl SS.pr (m+8) 199 [strOf [48],.int .i64 4] h=some (strOf [48,48,48,48],h):=by kernel_rfl
theorem agZ(m:Nat)(h:ae):cx SS.P SS.gl SS.pr (m+8) 199 [strOf [48],.int .i64 5] h=some (strOf [48,48,48,48,48],h):=by kernel_rfl
theorem ag0(m:Nat)(h:ae):cx SS.P SS.gl SS.pr (m+8) 199 [strOf [48],.int .i64 6] h=some (strOf [48,48,48,48,48,48],h):=by kernel_rfl
theorem ag1(m:Nat)(h:ae):cx SS.P SS.gl SS.pr (m+8) 199 [strOf [48],.int .i64 7] h=some (strOf [48,48,48,48,48,48,48],h):=by kernel_rfl
theorem ag2(m:Nat)(h:ae):cx SS.P SS.gl SS.pr (m+8) 199 [strOf [48],.int .i64 8] h=some (strOf [48,48,48,48,48,48,48,48],h):=by kernel_rfl
theorem TU(d:n<=8)(h:ae):FW SS 199 [strOf [48],.int .i64 (n:Int)] h (λv b=>v=strOf (List.replicate n 48)/\b=h):=by
 have a:∀(z:Int)(l:List UInt8),(∀m,cx SS.P SS.gl SS.pr (m+8) 199 [strOf [48],.int .i64 z] h=some (strOf l,h))->FW SS 199 [strOf [48],.int .i64 z] h (λv b=>v=strOf l/\b=h):=λz l c=>
  ⟨_,_,⟨8,λN e=>by obtain⟨m,rfl⟩:∃m,N=m+8:=⟨N-8,by omega⟩;exact c m⟩,rfl,rfl⟩
 have:n=0\/n=1\/n=2\/n=3\/n=4\/n=5\/n=6\/n=7\/n=8:=by omega
 rcases this with rfl|rfl|rfl|rfl|rfl|rfl|rfl|rfl|rfl
 ·exact a 0 _ λm=>agU m h
 ·exact a 1 _ λm=>agV m h
 ·exact a 2 _ λm=>agW m h
 ·exact a 3 _ λm=>agX m h
 ·exact a 4 _ λm=>agY m h
 ·exact a 5 _ λm=>agZ m h
 ·exact a 6 _ λm=>ag0 m h
 ·exact a 7 _ λm=>ag1 m h
 ·exact a 8 _ λm=>ag2 m h
noncomputable def oZ:FD:=dq Tryz.f187 [([1,1,1,0,1,0,0],[0,3,10,11])]
abbrev mS(a:OA)(n c:Nat)(p:Addr)(b:Int)(i:Nat):LV:=[(.slice a n c),(.pointer (some p)),(.int .i64 b),(iA i)]
theorem O4(a:OA)(n c:Nat)(h:ae)(Q:VH)(d:au ((((n:Int):Int)==0)) (Q (strOf [48]) h) (xN (av SS.P 201) h λ_ b=>LL SS oZ [1,1,1,0,1,0,0] [(.slice a n c),(pA (h.next)),(iA n),(.int .i64 0)] b (KK SS oZ [1,1,1,0,1,0] [] (EE SS oZ Q)))):FW SS 187 [(.slice a n c)] h Q:=du oZ Tryz.func187 (ai d)
theorem Ag(a:OA)(n c:Nat)(p:Addr)(v:Int)(w:Nat->Nat->ae->Prop)(Q:VH)(step:∀(x:Nat) (i:Nat) (z:Nat->Value) (h:ae),w x i h->au (decide (((i:Int):Int)<v)) (xP (aD SS.P 177 (.slice a n c) (.int .i64 (wrap .i64 (wrap .i64 ((n:Int)-1)-(i:Int))))) λu=>xI .u64 (aj SS.P 150 h (.pointer (some u))) λt=>FW SS 197 [(.int .u64 t),(.int .i64 10)] h λr s=>yS r λq=>au (decide (((i:Int):Int)>0)) (FW SS 199 [(strOf [48]),(.int .i64 (wrap .i64 (9-((q:LB).length:Int))))] s λm o=>yS m λl=>FW SS 198 [(.pointer (some p)),(strOf l)] o λj k=>∃h:Int,∃g:Value,j=(.tuple ⟨[(.int .i64 h),g]⟩)/\FW SS 198 [(.pointer (some p)),(strOf q)] k λe f=>∃d:Int,∃b:Value,e=(.tuple ⟨[(.int .i64 d),b]⟩)/\aM (gp (mS a n c p v) w) x [(.slice a n c),(.pointer (some p)),(.int .i64 v),(.int .i64 (wrap .i64 ((i:Int)+1)))] f) (FW SS 198 [(.pointer (some p)),(strOf q)] s λe f=>∃d:Int,∃b:Value,e=(.tuple ⟨[(.int .i64 d),b]⟩)/\aM (gp (mS a n c p v) w) x [(.slice a n c),(.pointer (some p)),(.int .i64 v),(.int .i64 (wrap .i64 ((i:Int)+1)))] f)) (FW SS 200 [(.pointer (some p))] h λb c=>yS b λa=>Q (strOf a) c))(x:Nat){i:Nat}{h:ae}(y:w x i h):LL SS oZ [1,1,1,0,1,0,0] (mS a n c p v i) h (KK SS oZ [1,1,1,0,1,0] [] (EE SS oZ Q)):=
 dJ (mS a n c p v) w (λx i z h y=>ai (step x i z h y)) x y
noncomputable def rG:FD:=dq Tryz.f175 [([1,1,1,0,0,0],[6,7])]
abbrev oq  (a:OA) (n c:Nat) (b:OA) (k d:Nat):LV:=[(.slice a n c),(.slice b k d)]
theorem SZ(l m:LB)(h:ae)(Q:VH)(s:FW SS 171 [(strOf l)] h λq r=>yB q λp=>au (!p) (Q (.tuple ⟨[(strOf []),(.int .i64 1)]⟩) r) (FW SS 171 [(strOf m)] r λn o=>yB n λk=>au (!k) (Q (.tuple ⟨[(strOf []),(.int .i64 1)]⟩) o) (FW SS 172 [(strOf l)] o λi j=>yL i λf g h=>FW SS 172 [(strOf m)] j λd e=>yL d λa b c=>LL SS rG [1,1,1,0,0,0] (oq f g h a b c) e (KK SS rG [1,1,1,0,0] [] (EE SS rG Q))))):FW SS 175 [(strOf l),(strOf m)] h Q:=du rG Tryz.func175 (ai s)
theorem Ba(l m:LB)  (f:Nat->OA->Nat->Nat->OA->Nat->Nat->ae->Prop) (Q:VH) (step:∀(e:Nat)(a:OA)(n c:Nat)(b:OA)(k d:Nat)(q:Nat->Value)(h:ae),f e a n c b k d h->au (decide (((k:Int):Int)>0)) (FW SS 189 [(.slice a n c),(.slice b k d)] h λa c=>∃(r:OA)(s p:Nat),∃(g:OA)(i j:Nat),a=(.tuple ⟨[(.slice r s p),(.slice g i j)]⟩)/\aM (LA6 oq f) e [(.slice b k d),(.slice g i j)] c) (FW SS 187 [(.slice a n c)] h λb c=>yS b λa=>Q (.tuple ⟨[(strOf a),(.int .i64 0)]⟩) c)) (e:Nat) {a:OA} {n c:Nat} {b:OA} {k d:Nat} {h:ae} (o:f e a n c b k d h):LL SS rG [1,1,1,0,0,0] (oq  a n c b k d) h (KK SS rG [1,1,1,0,0] [] (EE SS rG Q)):=
 afN oq f (λe a n c b k d q h o=>ai (step e a n c b k d q h o)) e o
noncomputable def aes:eB:= .cells [.pointer none,.slice none 0 0] 201 0 true
theorem aeG:av SS.P 201=some (aes,np):=by kernel_rfl
theorem ae9{l:ae}(b:Bd g h k s)(o:Ok h l):Bd g l k s:=by
 obtain⟨a,v,d,e,c,f⟩:=b;exact⟨a,v,o.ext _ _ d,e,Kf c λj B i _=>o.ext _ _ i,f⟩
theorem rH{c:Nat}(A:Rd h 150 (.slice a n c) (bl m))(S:(bj BB m).length<=10000)(t:qJ h)(w:Wf h):
  FW SS 187 [.slice a n c] h (λv D=>v=strOf (ag m)/\Ok h D):=by
 have y:n=(bj BB m).length:=by have:=A.len;rwa[lM]at this
 refine O4 a n c h _ (aa (λg=>?_) (λg=>?_))
 ·have g:(n:Int)=0:=by simpa using g
  have Y:(bj BB m).length=0:=by omega
  have:m=0:=by have:=(jo iI).1 (List.eq_nil_of_length_eq_zero Y);omega
  subst this;refine⟨?_,Ok.refl w⟩;rw[ef (by omega)];rfl
 ·have g:¬(n:Int)=0:=by simpa using g
  have W:0<m:=by
   rcases Nat.eq_zero_or_pos m with h|h
   ·subst h;rw[(jo iI).2 rfl]at y;simp at y;omega
   ·exact h
  have F:=H2 iI W;have I:=dM iI m;have M:=cI iI m;have A:Rd h 150 (.slice a n c) ((bj BB m).map uv):=A;generalize hx:bj BB m=x at*;have L:=Ag a n c ⟨h.next,0,none⟩ (n:Int) (λK i g=>i<=n/\K=n-i/\Ok h g/\∃l,Bd h g h.next l/\l.length<=9*i/\(i=0->l=[])/\(0<i->0<Num.bv BB (x.drop (n-i))/\l=ag (Num.bv BB (x.drop (n-i))))) (λv D=>v=strOf (ag m)/\Ok h D) (by
   intro K i;intros;rename_i g X;obtain⟨h1,rfl,s,l,O,x2,Z,Q⟩:=X;refine aa (λq=>?_) (λq=>?_)
   ·have q:=dT q;have T:wrap .i64 (wrap .i64 ((n:Int)-1)-(i:Int))=((n-1-i:Nat):Int):=by
     rw[aF (n:=(n:Int)-1) (by omega) (by omega),aF (by omega) (by omega)];omega
    obtain⟨p,e2,P⟩:=H7 (A.ok s) (i:=((n-1-i:Nat):Int)) (by omega) (by rw[<-y];omega);rw[T];rw[toNat_natCast]at P;have R:x.getD (n-1-i) 0<BB:=bm (by decide) I _;have f:Num.bv BB (x.drop (n-1-i))=x.getD (n-1-i) 0+BB*Num.bv BB (x.drop (n-i)):=by
     rw[hO,show n-1-i+1=n-i by omega]
    have e5:wrap .i64 ((i:Int)+1)=((i+1:Nat):Int):=by rw[aF (by omega) (by omega)];omega
    rw[e5];have u:i=0->0<x.getD (n-1-i) 0:=λe=>by subst e;rw[y];exact F
    generalize x.getD (n-1-i) 0=b at*;have o:b<1000000000:=R;have x1:=Hj o;refine⟨p,e2,_,P,(OP o (t.ok s) s.wf).mono ?_⟩;rintro _ h5 ⟨rfl,j⟩;have C:=ae9 O j;have j:=s.trans j;refine⟨_,rfl,aa (λr=>?_) (λr=>?_)⟩
    ·have r:=dT r;obtain⟨H,z⟩:=Q (by omega);have V:wrap .i64 (9-((ag b).length:Int))=((9-(ag b).length:Nat):Int):=by rw[aF (by omega) (by omega)];omega
     rw[V];have U:=qf b;refine(TU (by omega) h5).mono ?_;rintro _ h8 ⟨rfl,rfl⟩;refine⟨_,rfl,(Cn w j C (by rw[length_replicate];omega)).mono ?_⟩;rintro _ x0 ⟨rfl,E,G⟩;refine⟨_,_,rfl,(Cn w E G (by rw[length_append,length_replicate];omega)).mono ?_⟩;rintro _ B ⟨rfl,d,k⟩;refine⟨_,_,rfl,cz (n-(i+1)) (by omega) ⟨by omega,rfl,d,_,k,?_,λh=>by omega,λ_=>?_⟩⟩
     ·rw[length_append,length_append,length_replicate];omega
     ·rw[show n-(i+1)=n-1-i by omega,f];refine⟨Nat.add_pos_right _ (mul_pos (by decide) H),?_⟩;have:=Hi H o;rw[z];exact this.symm
    ·have r:=dF r;obtain rfl:i=0:=by omega
     obtain rfl:=Z rfl;refine(Cn w j C (by rw[List.length_nil];omega)).mono ?_;rintro _ B ⟨rfl,d,k⟩;refine⟨_,_,rfl,cz (n-1) (by omega) ⟨by omega,rfl,d,_,k,?_,λh=>by omega,λ_=>?_⟩⟩
     ·rw[nil_append];omega
     ·have N:Num.bv BB (x.drop n)=0:=by rw[List.drop_of_length_le (by omega)];rfl
      rw[show n-1-0=n-1 by omega,show n-0=n by omega,N,Nat.mul_zero,Nat.add_zero]at f;rw[Nat.zero_add,f,nil_append];refine⟨?_,rfl⟩;exact u rfl
   ·have q:=dF q;obtain rfl:i=n:=by omega
    obtain⟨H,z⟩:=Q (by omega);rw[Nat.sub_self,drop_zero,M]at z;subst z;refine(OC w s O (tR m) (by omega)).mono ?_;rintro _ B ⟨rfl,d⟩;exact⟨_,rfl,rfl,d⟩)
  have J:=(Ok.refl w).push aes;refine⟨_,aeG,L n (i:=0) ⟨by omega,rfl,J,[],⟨_,_,?_,.inl rfl,.inl ⟨rfl,rfl⟩,Nat.le_refl _⟩,by simp,λ_=>rfl,λh=>by omega⟩⟩;rw[ae.bH,if_pos rfl];rfl
theorem adT(h:k<=9*m):10^k<=BB^m:=by
 show 10^k<=(10^9)^m;rw[<-Nat.pow_mul];exact pow_le_pow_right (by decide) h
theorem ji(h:n<10^1000):(bj BB n).length<=112:=by
 refine oa iI (lt_of_lt_of_le h (adT (k:=1000) (m:=112) (by decide)))
def JK(h:ae)(X Y:Nat)(e:Nat)(a:Option Addr)(n c:Nat)(b:Option Addr)(k d:Nat)(g:ae):Prop:=∃p:Nat,Rd g 150 (.slice a n c) (bl p)/\Rd g 150 (.slice b k d) (bl e)/\(bj BB p).length<=112/\(bj BB e).length<=112/\Nat.gcd p e=Nat.gcd X Y/\Ok h g
theorem Wa{c:Nat}{b:Option Addr}(t:qJ h)(N:JK h n m i a j c b k l g){K:Nat->Option Addr->Nat->Nat->Option Addr->Nat->Nat->ae->Prop}{Q:VH}
  (J:∀(u:Option Addr)(r s:Nat)(f:Option Addr)(d q x:Nat)(g:ae),x<i->JK h n m x b k l f d q g->K x u r s f d q g):
  (0<k->FW SS 189 [.slice a j c,.slice b k l] g (λv C=>∃(u:Option Addr)(r s:Nat)(f:Option Addr)(d q x:Nat),v = .tuple ⟨[.slice u r s,.slice f d q]⟩/\K x u r s f d q C))/\
  (k=0->FW SS 187 [.slice a j c] g (λv C=>v=strOf (ag (Nat.gcd n m))/\Ok h C)):=by
 obtain⟨p,G,A,F,B,E,w⟩:=N;have D:k=(bj BB i).length:=by have:=A.len;rwa[lM]at this
 constructor
 ·intro y;have o:0<i:=by
   rcases Nat.eq_zero_or_pos i with e|e
   ·subst e;rw[(jo iI).2 rfl]at D;simp at D;omega
   ·exact e
  refine(A9 G A o (Nat.le_trans F (by omega)) (Nat.le_trans B (by omega)) w.wf).mono ?_;rintro _ I ⟨u,r,s,f,d,q,rfl,O,L,z⟩;refine⟨u,r,s,f,d,q,p%i,rfl,J u r s f d q (p%i) I (mod_lt _ o) ⟨i,A.ok z,L,B,?_,?_,w.trans z⟩⟩
  ·exact Nat.le_trans (Nat.le_of_not_lt λh=>by have M:=oc iI h;have y:=mod_lt p o;exact absurd M (Nat.not_lt.2 (le_of_lt y))) B
  ·rw[<-E,Nat.gcd_comm i,<-Nat.gcd_rec,Nat.gcd_comm]
 ·intro y;have o:i=0:=(jo iI).1 (List.eq_nil_of_length_eq_zero (by rw[<-D,y]));subst o;rw[Nat.gcd_zero_right]at E;subst E;refine(rH G (Nat.le_trans F (by omega)) (t.ok w) w.wf).mono ?_;rintro _ P ⟨rfl,H⟩;exact⟨rfl,w.trans H⟩
theorem Ix(a b:List UInt8){h:ae}(t:qJ h)(w:Wf h):FW SS 175 [strOf a,strOf b] h (λv u=>v=DW a b/\Ok h u):=by
 refine SZ a b h _ ((eo a h).mono ?_);rintro _ A ⟨rfl,y⟩;obtain rfl:h=A:=y.symm;refine⟨_,rfl,aa (λg=>?_) (λg=>?_)⟩
 ·have g:Num.valid a=false:=by simpa using g
  refine⟨?_,Ok.refl w⟩;unfold DW;rw[if_neg (λe=>by rw[e.1]at g;cases g)];rfl
 have g:Num.valid a=true:=by simpa using g
 refine(eo b h).mono ?_;rintro _ A ⟨rfl,y⟩;obtain rfl:h=A:=y.symm;refine⟨_,rfl,aa (λf=>?_) (λf=>?_)⟩
 ·have f:Num.valid b=false:=by simpa using f
  refine⟨?_,Ok.refl w⟩;unfold DW;rw[if_neg (λe=>by rw[e.2]at f;cases f)];rfl
 have f:Num.valid b=true:=by simpa using f
 obtain⟨X,U,D,F⟩:=di g;obtain⟨Y,V,C,I⟩:=di f;have H:=(ie.1 g)
 have J:=(ie.1 f)
 have T:=ji D;have O:=ji C;clear D C;refine(uF a H.1.2.1 (Nat.le_trans H.2 (by omega)) h w).mono ?_;rintro _ s ⟨z,r,x,rfl,B,p⟩;refine⟨_,_,_,rfl,(uF b J.1.2.1 (Nat.le_trans J.2 (by omega)) s p.wf).mono ?_⟩;rintro _ i ⟨m,l,o,rfl,E,q⟩;refine⟨_,_,_,rfl,?_⟩;have R:DW a b=two (ag (Nat.gcd X Y)) 0:=by unfold DW;rw[if_pos ⟨g,f⟩,F,I]
 rw[R];rw[F]at B;rw[I]at E;refine Ba a b (JK h X Y) (λv u=>v=two (ag (Nat.gcd X Y)) 0/\Ok h u) (λL a n c b k d=>?_) Y ⟨X,B.rd.ok q,E.rd,T,O,rfl,p.trans q⟩;intros;rename_i g P;have S:=Wa t P (K:=λj z r x m l o g=>j<L/\JK h X Y j b k d m l o g) (λz r x m l o j g s i=>⟨s,i⟩) (Q:=λ_ _=>True);refine aa (λi=>?_) (λi=>?_)
 ·have i:=dT i;refine(S.1 (by omega)).mono ?_;rintro _ W ⟨z,r,x,m,l,o,j,rfl,M,N⟩;exact⟨_,_,_,_,_,_,rfl,afr j M N⟩
 ·have i:=dF i;refine(S.2 (by omega)).mono ?_;rintro _ Z ⟨rfl,G⟩;exact⟨_,rfl,rfl,G⟩
noncomputable def abh:FD:=dq Tryz.f194 []
theorem Xh(x y z:Int)(h:ae)(Q:VH)(c:xI .u64 (aB SS.P .rem 150 (.int .u64 (wrap .u64 (wrap .u64 (x+y)+z))) (.int .u64 1000000000)) λb=>xI .u64 (aB SS.P .quo 150 (.int .u64 (wrap .u64 (wrap .u64 (x+y)+z))) (.int .u64 1000000000)) λa=>Q (.tuple ⟨[(.int .u64 b),(.int .u64 a)]⟩) h):FW SS 194 [(.int .u64 x),(.int .u64 y),(.int .u64 z)] h Q:=du abh Tryz.func194 (ai c)
noncomputable def WO:FD:=dq Tryz.f201 []
theorem SL(x y z:Int)(h:ae)(Q:VH)(c:xI .u64 (aB SS.P .rem 150 (.int .u64 (wrap .u64 (wrap .u64 (wrap .u64 (x+1000000000)-y)-z))) (.int .u64 1000000000)) λb=>xI .u64 (aB SS.P .quo 150 (.int .u64 (wrap .u64 (wrap .u64 (wrap .u64 (x+1000000000)-y)-z))) (.int .u64 1000000000)) λa=>Q (.tuple ⟨[(.int .u64 b),(.int .u64 (wrap .u64 (1-a)))]⟩) h):FW SS 201 [(.int .u64 x),(.int .u64 y),(.int .u64 z)] h Q:=du WO Tryz.func201 (ai c)
noncomputable def nj:FD:=dq Tryz.f193 [([1,1,1,0,1,0,0],[0,1,2,7,8,18,19])]
abbrev fw(a:OA)(n c:Nat)(b:OA)(m d:Nat)(e:Int)(i:Nat)(cy:Int)(r:OA)(f g:Nat):LV:=[(.slice a n c),(.slice b m d),(.func (.func 194) ⟨[]⟩ ⟨[]⟩),(.slice r f g),(.int .u64 cy),(.int .i64 e),(iA i)]
theorem LY(a:OA)(n c:Nat)(b:OA)(m d:Nat)(h:ae)(Q:VH)(f:xI .i64 (uE true [(iA n),(iA m)]) λe=>LL SS nj [1,1,1,0,1,0,0] (fw a n c b m d (wrap .i64 (e+1)) 0 0 none 0 0) h (KK SS nj [1,1,1,0,1,0] [] (EE SS nj Q))):FW SS 193 [(.slice a n c),(.slice b m d),(.func (.func 194) ⟨[]⟩ ⟨[]⟩)] h Q:=du nj Tryz.func193 (ai f)
theorem yU(a:OA)(n c:Nat)(b:OA)(m d:Nat)(x:Int)(y:Nat->Nat->Int->OA->Nat->Nat->ae->Prop)(Q:VH)(step:∀(B:Nat) (i:Nat) (cy:Int) (r:OA) (z A:Nat) (D:Nat->Value) (h:ae),y B i cy r z A h->au (decide (((i:Int):Int)<x)) (au (decide (((i:Int):Int)<(n:Int))) (iP 177 (.slice a n c) (iA i) λw=>xI .u64 (aj SS.P 150 h (.pointer (some w))) λv=>au (decide (((i:Int):Int)<(m:Int))) (iP 177 (.slice b m d) (iA i) λu=>xI .u64 (aj SS.P 150 h (.pointer (some u))) λt=>FW SS 194 [(.int .u64 v),(.int .u64 t),(.int .u64 cy)] h λq s=>∃p:Int,∃o:Int,q=(.tuple ⟨[(.int .u64 p),(.int .u64 o)]⟩)/\xR (aJ SS.P 177 1 [(0,(.int .u64 p))]) s λ_ j k l=>xE (bR SS.P 177 177 (.slice r z A) (sA (s.next) j k) l) l λe f g _ h=>aM (ED (fw a n c b m d x) y) B [(.slice a n c),(.slice b m d),(.func (.func 194) ⟨[]⟩ ⟨[]⟩),(.slice e f g),(.int .u64 o),(.int .i64 x),(.int .i64 (wrap .i64 ((i:Int)+1)))] h) (FW SS 194 [(.int .u64 v),(.int .u64 0),(.int .u64 cy)] h λq s=>∃p:Int,∃o:Int,q=(.tuple ⟨[(.int .u64 p),(.int .u64 o)]⟩)/\xR (aJ SS.P 177 1 [(0,(.int .u64 p))]) s λ_ j k l=>xE (bR SS.P 177 177 (.slice r z A) (sA (s.next) j k) l) l λe f g _ h=>aM (ED (fw a n c b m d x) y) B [(.slice a n c),(.slice b m d),(.func (.func 194) ⟨[]⟩ ⟨[]⟩),(.slice e f g),(.int .u64 o),(.int .i64 x),(.int .i64 (wrap .i64 ((i:Int)+1)))] h)) (au (decide (((i:Int):Int)<(m:Int))) (iP 177 (.slice b m d) (iA i) λu=>xI .u64 (aj SS.P 150 h (.pointer (some u))) λt=>FW SS 194 [(.int .u64 0),(.int .u64 t),(.int .u64 cy)] h λq s=>∃p:Int,∃o:Int,q=(.tuple ⟨[(.int .u64 p),(.int .u64 o)]⟩)/\xR (aJ SS.P 177 1 [(0,(.int .u64 p))]) s λ_ j k l=>xE (bR SS.P 177 177 (.slice r z A) (sA (s.next) j k) l) l λe f g _ h=>aM (ED (fw a n c b m d x) y) B [(.slice a n c),(.slice b m d),(.func (.func 194) ⟨[]⟩ ⟨[]⟩),(.slice e f g),(.int .u64 o),(.int .i64 x),(.int .i64 (wrap .i64 ((i:Int)+1)))] h) (FW SS 194 [(.int .u64 0),(.int .u64 0),(.int .u64 cy)] h λq s=>∃p:Int,∃o:Int,q=(.tuple ⟨[(.int .u64 p),(.int .u64 o)]⟩)/\xR (aJ SS.P 177 1 [(0,(.int .u64 p))]) s λ_ j k l=>xE (bR SS.P 177 177 (.slice r z A) (sA (s.next) j k) l) l λe f g _ h=>aM (ED (fw a n c b m d x) y) B [(.slice a n c),(.slice b m d),(.func (.func 194) ⟨[]⟩ ⟨[]⟩),(.slice e f g),(.int .u64 o),(.int .i64 x),(.int .i64 (wrap .i64 ((i:Int)+1)))] h))) (FW SS 174 [(.slice r z A)] h λd e=>yL d λa b c=>Q (.slice a b c) e))(B:Nat){i:Nat}{cy:Int}{r:OA}{z A:Nat}{h:ae}(C:y B i cy r z A h):LL SS nj [1,1,1,0,1,0,0] (fw a n c b m d x i cy r z A) h (KK SS nj [1,1,1,0,1,0] [] (EE SS nj Q)):=
 IQ (fw a n c b m d x) y (λB i cy r z A D h C=>ai (step B i cy r z A D h C)) B C
noncomputable def kI:FD:=dq Tryz.f193 [([1,1,1,0,1,0,0],[0,1,2,7,8,18,19])]
abbrev fb(a:OA)(n c:Nat)(b:OA)(m d:Nat)(e:Int)(i:Nat)(cy:Int)(r:OA)(f g:Nat):LV:=[(.slice a n c),(.slice b m d),(.func (.func 201) ⟨[]⟩ ⟨[]⟩),(.slice r f g),(.int .u64 cy),(.int .i64 e),(iA i)]
theorem JH(a:OA)(n c:Nat)(b:OA)(m d:Nat)(h:ae)(Q:VH)(f:xI .i64 (uE true [(iA n),(iA m)]) λe=>LL SS kI [1,1,1,0,1,0,0] (fb a n c b m d (wrap .i64 (e+1)) 0 0 none 0 0) h (KK SS kI [1,1,1,0,1,0] [] (EE SS kI Q))):FW SS 193 [(.slice a n c),(.slice b m d),(.func (.func 201) ⟨[]⟩ ⟨[]⟩)] h Q:=du kI Tryz.func193 (ai f)
theorem wI(a:OA)(n c:Nat)(b:OA)(m d:Nat)(x:Int)(y:Nat->Nat->Int->OA->Nat->Nat->ae->Prop)(Q:VH)(step:∀(B:Nat) (i:Nat) (cy:Int) (r:OA) (z A:Nat) (D:Nat->Value) (h:ae),y B i cy r z A h->au (decide (((i:Int):Int)<x)) (au (decide (((i:Int):Int)<(n:Int))) (iP 177 (.slice a n c) (iA i) λw=>xI .u64 (aj SS.P 150 h (.pointer (some w))) λv=>au (decide (((i:Int):Int)<(m:Int))) (iP 177 (.slice b m d) (iA i) λu=>xI .u64 (aj SS.P 150 h (.pointer (some u))) λt=>FW SS 201 [(.int .u64 v),(.int .u64 t),(.int .u64 cy)] h λq s=>∃p:Int,∃o:Int,q=(.tuple ⟨[(.int .u64 p),(.int .u64 o)]⟩)/\xR (aJ SS.P 177 1 [(0,(.int .u64 p))]) s λ_ j k l=>xE (bR SS.P 177 177 (.slice r z A) (sA (s.next) j k) l) l λe f g _ h=>aM (ED (fb a n c b m d x) y) B [(.slice a n c),(.slice b m d),(.func (.func 201) ⟨[]⟩ ⟨[]⟩),(.slice e f g),(.int .u64 o),(.int .i64 x),(.int .i64 (wrap .i64 ((i:Int)+1)))] h) (FW SS 201 [(.int .u64 v),(.int .u64 0),(.int .u64 cy)] h λq s=>∃p:Int,∃o:Int,q=(.tuple ⟨[(.int .u64 p),(.int .u64 o)]⟩)/\xR (aJ SS.P 177 1 [(0,(.int .u64 p))]) s λ_ j k l=>xE (bR SS.P 177 177 (.slice r z A) (sA (s.next) j k) l) l λe f g _ h=>aM (ED (fb a n c b m d x) y) B [(.slice a n c),(.slice b m d),(.func (.func 201) ⟨[]⟩ ⟨[]⟩),(.slice e f g),(.int .u64 o),(.int .i64 x),(.int .i64 (wrap .i64 ((i:Int)+1)))] h)) (au (decide (((i:Int):Int)<(m:Int))) (iP 177 (.slice b m d) (iA i) λu=>xI .u64 (aj SS.P 150 h (.pointer (some u))) λt=>FW SS 201 [(.int .u64 0),(.int .u64 t),(.int .u64 cy)] h λq s=>∃p:Int,∃o:Int,q=(.tuple ⟨[(.int .u64 p),(.int .u64 o)]⟩)/\xR (aJ SS.P 177 1 [(0,(.int .u64 p))]) s λ_ j k l=>xE (bR SS.P 177 177 (.slice r z A) (sA (s.next) j k) l) l λe f g _ h=>aM (ED (fb a n c b m d x) y) B [(.slice a n c),(.slice b m d),(.func (.func 201) ⟨[]⟩ ⟨[]⟩),(.slice e f g),(.int .u64 o),(.int .i64 x),(.int .i64 (wrap .i64 ((i:Int)+1)))] h) (FW SS 201 [(.int .u64 0),(.int .u64 0),(.int .u64 cy)] h λq s=>∃p:Int,∃o:Int,q=(.tuple ⟨[(.int .u64 p),(.int .u64 o)]⟩)/\xR (aJ SS.P 177 1 [(0,(.int .u64 p))]) s λ_ j k l=>xE (bR SS.P 177 177 (.slice r z A) (sA (s.next) j k) l) l λe f g _ h=>aM (ED (fb a n c b m d x) y) B [(.slice a n c),(.slice b m d),(.func (.func 201) ⟨[]⟩ ⟨[]⟩),(.slice e f g),(.int .u64 o),(.int .i64 x),(.int .i64 (wrap .i64 ((i:Int)+1)))] h))) (FW SS 174 [(.slice r z A)] h λd e=>yL d λa b c=>Q (.slice a b c) e))(B:Nat){i:Nat}{cy:Int}{r:OA}{z A:Nat}{h:ae}(C:y B i cy r z A h):LL SS kI [1,1,1,0,1,0,0] (fb a n c b m d x i cy r z A) h (KK SS kI [1,1,1,0,1,0] [] (EE SS kI Q)):=
 IQ (fb a n c b m d x) y (λB i cy r z A D h C=>ai (step B i cy r z A D h C)) B C
noncomputable def S1:FD:=dq Tryz.f185 []
theorem O2(a:OA)(n c:Nat)(b:OA)(m d:Nat)(h:ae)(Q:VH)(f:FW SS 193 [(.slice a n c),(.slice b m d),(.func (.func 194) ⟨[]⟩ ⟨[]⟩)] h λd e=>yL d λa b c=>Q (.slice a b c) e):FW SS 185 [(.slice a n c),(.slice b m d)] h Q:=du S1 Tryz.func185 (ai f)
noncomputable def O1:FD:=dq Tryz.f188 []
theorem Mz(a:OA)(n c:Nat)(b:OA)(m d:Nat)(h:ae)(Q:VH)(f:FW SS 193 [(.slice a n c),(.slice b m d),(.func (.func 201) ⟨[]⟩ ⟨[]⟩)] h λd e=>yL d λa b c=>Q (.slice a b c) e):FW SS 188 [(.slice a n c),(.slice b m d)] h Q:=du O1 Tryz.func188 (ai f)
noncomputable def J5:FD:=dq Tryz.f173 []
theorem HD(a:OA)(n c:Nat)(h:ae)(Q:VH)(d:FW SS 187 [(.slice a n c)] h λb c=>yS b λa=>au (decide ((((a:LB).length:Int):Int)>1000)) (Q (.tuple ⟨[(strOf []),(.int .i64 2)]⟩) c) (Q (.tuple ⟨[(strOf a),(.int .i64 0)]⟩) c)):FW SS 173 [(.slice a n c)] h Q:=du J5 Tryz.func173 (ai d)
noncomputable def WV:FD:=dq Tryz.f169 []
theorem SV(l m:LB)(h:ae)(Q:VH)(u:FW SS 171 [(strOf l)] h λs t=>yB s λr=>au (!r) (Q (.int .i64 0) t) (FW SS 171 [(strOf m)] t λp q=>yB p λo=>au (!o) (Q (.int .i64 0) q) (FW SS 172 [(strOf l)] q λl n=>yL l λi j k=>FW SS 172 [(strOf m)] n λg h=>yL g λd e f=>FW SS 186 [(.slice i j k),(.slice d e f)] h λb c=>yI .i64 b λa=>Q (.int .i64 a) c))):FW SS 169 [(strOf l),(strOf m)] h Q:=du WV Tryz.func169 (ai u)
noncomputable def WU:FD:=dq Tryz.f168 []
theorem SR(l m:LB)(h:ae)(Q:VH)(z:FW SS 171 [(strOf l)] h λx y=>yB x λw=>au (!w) (Q (.tuple ⟨[(strOf []),(.int .i64 1)]⟩) y) (FW SS 171 [(strOf m)] y λu v=>yB u λt=>au (!t) (Q (.tuple ⟨[(strOf []),(.int .i64 1)]⟩) v) (FW SS 172 [(strOf l)] v λr s=>yL r λo p q=>FW SS 172 [(strOf m)] s λm n=>yL m λj k l=>FW SS 185 [(.slice o p q),(.slice j k l)] n λh i=>yL h λe f g=>FW SS 173 [(.slice e f g)] i λc d=>∃b:LB,∃a:Int,c=(.tuple ⟨[(strOf b),(.int .i64 a)]⟩)/\Q (.tuple ⟨[(strOf b),(.int .i64 a)]⟩) d))):FW SS 168 [(strOf l),(strOf m)] h Q:=du WU Tryz.func168 (ai z)
noncomputable def WX:FD:=dq Tryz.f170 []
theorem S2(l m:LB)(h:ae)(Q:VH)(B:FW SS 171 [(strOf l)] h λz A=>yB z λy=>au (!y) (Q (.tuple ⟨[(strOf []),(.int .i64 1)]⟩) A) (FW SS 171 [(strOf m)] A λw x=>yB w λv=>au (!v) (Q (.tuple ⟨[(strOf []),(.int .i64 1)]⟩) x) (FW SS 172 [(strOf l)] x λt u=>yL t λq r s=>FW SS 172 [(strOf m)] u λo p=>yL o λl m n=>FW SS 186 [(.slice q r s),(.slice l m n)] p λj k=>yI .i64 j λi=>au (decide ((i:Int)<0)) (Q (.tuple ⟨[(strOf []),(.int .i64 4)]⟩) k) (FW SS 188 [(.slice q r s),(.slice l m n)] k λg h=>yL g λd e f=>FW SS 187 [(.slice d e f)] h λb c=>yS b λa=>Q (.tuple ⟨[(strOf a),(.int .i64 0)]⟩) c)))):FW SS 170 [(strOf l),(strOf m)] h Q:=du WX Tryz.func170 (ai B)
noncomputable def fO:FD:=dq Tryz.f143 [([1,1,1,1,0,1,0,0],[6,7,8,33,34]),([1,1,1,1,0,1,0,0,1,1,0,0,1,1,1,0,0],[6,7,8,9,10,33,34,39,40])]
abbrev iW(a:OA)(n c:Nat)(b:OA)(k d:Nat)(t:OA)(g f:Nat)(e:Int)(i:Nat):LV:=[(.slice a n c),(.slice b k d),(.slice t g f),(.int .i64 e),(iA i)]
abbrev kN(a:OA)(n c:Nat)(b:OA)(k d:Nat)(t:OA)(h g:Nat)(f:Int)(i:Nat)(e:Int)(j:Nat)(cy:Int):LV:=[(.slice a n c),(.slice b k d),(.slice t h g),(iA i),(.int .u64 cy),(.int .i64 f),(iA i),(.int .i64 e),(iA j)]
theorem S0(l m:LB)(h:ae)(Q:VH)(u:FW SS 171 [(strOf l)] h λs t=>yB s λr=>au (!r) (Q (.tuple ⟨[(strOf []),(.int .i64 1)]⟩) t) (FW SS 171 [(strOf m)] t λp q=>yB p λo=>au (!o) (Q (.tuple ⟨[(strOf []),(.int .i64 1)]⟩) q) (FW SS 172 [(strOf l)] q λl n=>yL l λi j k=>FW SS 172 [(strOf m)] n λg h=>yL g λd e f=>xR (cF SS.P 177 (.int .i64 (wrap .i64 (wrap .i64 ((j:Int)+(e:Int))+1))) (.int .i64 (wrap .i64 (wrap .i64 ((j:Int)+(e:Int))+1)))) h λ_ a b c=>LL SS fO [1,1,1,1,0,1,0,0] (iW i j k d e f (some ⟨h.next,0,none⟩) a b (j:Int) 0) c (KK SS fO [1,1,1,1,0,1,0] [] (EE SS fO Q))))):FW SS 143 [(strOf l),(strOf m)] h Q:=du fO Tryz.func143 (ai u)
theorem Bb(l m:LB)(a:OA)(n c:Nat)(b:OA)(k d:Nat)(t:OA)(r q:Nat)(j:Int)(p:Nat->Nat->ae->Prop)(Q:VH)(step:∀(o:Nat) (i:Nat) (u:Nat->Value) (h:ae),p o i h->au (decide (((i:Int):Int)<j)) (LL SS fO [1,1,1,1,0,1,0,0,1,1,0,0,1,1,1,0,0] (kN a n c b k d t r q j i (wrap .i64 ((k:Int)+1)) 0 0) h (KK SS fO [1,1,0,0,1,1,1,0] [1,1,1,1,0,1,0,0] (RR fO [1,1,1,1,0,1,0,0] (gp (iW a n c b k d t r q j) p) o (KK SS fO [1,1,1,1,0,1,0] [] (EE SS fO Q))))) (FW SS 174 [(.slice t r q)] h λh i=>yL h λe f g=>FW SS 173 [(.slice e f g)] i λc d=>∃b:LB,∃a:Int,c=(.tuple ⟨[(strOf b),(.int .i64 a)]⟩)/\Q (.tuple ⟨[(strOf b),(.int .i64 a)]⟩) d))(o:Nat){i:Nat}{h:ae}(s:p o i h):LL SS fO [1,1,1,1,0,1,0,0] (iW a n c b k d t r q j i) h (KK SS fO [1,1,1,1,0,1,0] [] (EE SS fO Q)):=
 dJ (iW a n c b k d t r q j) p (λo i u h s=>ai (step o i u h s)) o s
theorem Bc(l m:LB)(a:OA)(n c:Nat)(b:OA)(k d:Nat)(t:OA)(y x:Nat)(v:Int)(A:Nat->Nat->ae->Prop)(C i:Nat)(u:Int)(z:Nat->Nat->Int->ae->Prop)(Q:VH)(step:∀(w:Nat) (j:Nat) (cy:Int) (D:Nat->Value) (h:ae),z w j cy h->au (decide (((j:Int):Int)<u)) (iP 177 (.slice t y x) (.int .i64 (wrap .i64 ((i:Int)+(j:Int)))) λs=>xI .u64 (aj SS.P 150 h (.pointer (some s))) λr=>au (decide (((j:Int):Int)<(k:Int))) (iP 177 (.slice a n c) (iA i) λq=>xI .u64 (aj SS.P 150 (room h 12) (.pointer (some q))) λp=>iP 177 (.slice b k d) (iA j) λo=>xI .u64 (aj SS.P 150 (room h 12) (.pointer (some o))) λm=>xI .u64 (aB SS.P .rem 150 (.int .u64 (wrap .u64 (wrap .u64 (r+cy)+wrap .u64 (p*m)))) (.int .u64 1000000000)) λl=>xI .u64 (aB SS.P .quo 150 (.int .u64 (wrap .u64 (wrap .u64 (r+cy)+wrap .u64 (p*m)))) (.int .u64 1000000000)) λg=>iP 177 (.slice t y x) (.int .i64 (wrap .i64 ((i:Int)+(j:Int)))) λf=>xU (ah SS.P 150 (.pointer (some f)) (.int .u64 l) (room h 12)) (room h 12) λ_ e=>aM (tE (kN a n c b k d t y x v i u) z) w [(.slice a n c),(.slice b k d),(.slice t y x),(iA i),(.int .u64 g),(.int .i64 v),(iA i),(.int .i64 u),(.int .i64 (wrap .i64 ((j:Int)+1)))] e) (xI .u64 (aB SS.P .rem 150 (.int .u64 (wrap .u64 (r+cy))) (.int .u64 1000000000)) λl=>xI .u64 (aB SS.P .quo 150 (.int .u64 (wrap .u64 (r+cy))) (.int .u64 1000000000)) λg=>iP 177 (.slice t y x) (.int .i64 (wrap .i64 ((i:Int)+(j:Int)))) λf=>xU (ah SS.P 150 (.pointer (some f)) (.int .u64 l) h) h λ_ e=>aM (tE (kN a n c b k d t y x v i u) z) w [(.slice a n c),(.slice b k d),(.slice t y x),(iA i),(.int .u64 g),(.int .i64 v),(iA i),(.int .i64 u),(.int .i64 (wrap .i64 ((j:Int)+1)))] e)) (aM (gp (iW a n c b k d t y x v) A) C [(.slice a n c),(.slice b k d),(.slice t y x),(.int .i64 v),(.int .i64 (wrap .i64 ((i:Int)+1)))] h))(w:Nat){j:Nat}{cy:Int}{h:ae}(B:z w j cy h):LL SS fO [1,1,1,1,0,1,0,0,1,1,0,0,1,1,1,0,0] (kN a n c b k d t y x v i u j cy) h (KK SS fO [1,1,0,0,1,1,1,0] [1,1,1,1,0,1,0,0] (RR fO [1,1,1,1,0,1,0,0] (gp (iW a n c b k d t y x v) A) C (KK SS fO [1,1,1,1,0,1,0] [] (EE SS fO Q)))):=
 pU (kN a n c b k d t y x v i u) z (λw j cy D h B=>ai (step w j cy D h B)) w B
variable{x:List Nat}{y:List Nat}
theorem Xi(x y z:Nat)(f:x<BB)(i:y<BB)(g:z<=1)(h:ae):FW SS 194 [.int .u64 (x:Int),.int .u64 (y:Int),.int .u64 (z:Int)] h (λv c=>v = .tuple ⟨[uv (bh BB x y z).1,uv (bh BB x y z).2]⟩/\c=h):=by
 have e:BB=1000000000:=rfl;have a:wrap .u64 ((x:Int)+(y:Int))=((x+y:Nat):Int):=by rw[<-Int.natCast_add];exact iL (by omega) (by omega)
 have d:wrap .u64 (((x+y:Nat):Int)+(z:Int))=((x+y+z:Nat):Int):=by rw[<-Int.natCast_add];exact iL (by omega) (by omega)
 refine Xh _ _ _ h _ ?_;rw[a,d];refine⟨_,ke (b:=BB) (by omega) (by decide),_,ss (b:=BB) (by omega) (by omega) (by decide),?_,rfl⟩;rfl
theorem SN(x y z:Nat)(i:x<BB)(k:y<BB)(j:z<=1)(h:ae):FW SS 201 [.int .u64 (x:Int),.int .u64 (y:Int),.int .u64 (z:Int)] h (λv d=>v = .tuple ⟨[uv (cj BB x y z).1,uv (cj BB x y z).2]⟩/\d=h):=by
 have g:BB=1000000000:=rfl;have f:x+BB-y-z<2*BB:=by omega
 have a:wrap .u64 ((x:Int)+1000000000)=((x+BB:Nat):Int):=by rw[iL (by omega) (by omega)];omega
 have e:wrap .u64 (((x+BB:Nat):Int)-(y:Int))=((x+BB-y:Nat):Int):=by rw[iL (by omega) (by omega)];omega
 have c:wrap .u64 (((x+BB-y:Nat):Int)-(z:Int))=((x+BB-y-z:Nat):Int):=by rw[iL (by omega) (by omega)];omega
 refine SL _ _ _ h _ ?_;rw[a,e,c];refine⟨_,ke (b:=BB) (by omega) (by decide),_,ss (b:=BB) (by omega) (by omega) (by decide),?_,rfl⟩;unfold uv cj;dsimp only;generalize x+BB-y-z=q at*
 grind[iL]
theorem abi{p q c:Nat}(b:p<BB)(a:q<BB)(d:c<=1):(bh BB p q c).2<=1:=by
 show(p+q+c)/BB<=1
 grind
theorem WQ{p q c:Nat}(b:p<BB)(a:q<BB)(d:c<=1):(cj BB p q c).2<=1:=(qu iI b a d).2
theorem LZ{b:Option Addr}{c:Nat}(V:Rd h 150 (.slice a n c) (x.map uv))(I:Rd h 150 (.slice b m k) (y.map uv))(Q:∀k∈x,k<BB)(hy:∀k∈y,k<BB)(x2:x.length<=10000)(x5:y.length<=10000)(w:Wf h){R:Nat}(D:eC (bD (bh BB) x y 0 (max x.length y.length+1) 0)=bj BB R):
  FW SS 193 [.slice a n c,.slice b m k,.func (.func 194) ⟨[]⟩ ⟨[]⟩] h (jS h 150 (bl R)):=by
 have hn:n=x.length:=by have:=V.len;rwa[lM]at this
 have hm:m=y.length:=by have:=I.len;rwa[lM]at this
 rw[<-hn,<-hm]at D;have W:∀j,fH (bh BB) x y 0 0 j<=1:=by
  intro j
  induction j with
  |zero=>exact Nat.zero_le _
  |succ j ih=>exact abi (bm (by decide) Q _) (bm (by decide) hy _) ih
 have x3:n<=max n m/\m<=max n m:=⟨le_max_left _ _,le_max_right _ _⟩
 have x1:max n m<=10000:=max_le.2 ⟨by omega,by omega⟩;have J:(if(m:Int)>(n:Int)then(m:Int)else(n:Int))=((max n m:Nat):Int):=by split<;>omega
 generalize max n m=N at*;have L:=yU a n c b m k ((N:Int)+1) (λv i cy r P S g=>i<=N+1/\v=N+1-i/\cy=(fH (bh BB) x y 0 0 i:Nat)/\eO h g 150 (.slice r P S) ((bD (bh BB) x y 0 i 0).map uv)/\Ok h g) (jS h 150 (bl R)) (by
  intro v i cy r P S;intros;rename_i g hi;obtain⟨h1,h2,rfl,z,f⟩:=hi;have O:wrap .i64 ((i:Int)+1)=((i+1:Nat):Int):=by rw[aF (by omega) (by omega)];omega
  rw[O];have x4:(bD (bh BB) x y 0 i 0).length=i:=fJ _ _ _ _ _ _;have d:=jl (bh BB) x y i 0 0;rw[Nat.zero_add]at d;have o:fH (bh BB) x y 0 0 (i+1)=(bh BB (x.getD i 0) (y.getD i 0) (fH (bh BB) x y 0 0 i)).2:=by
   show(bh BB (x.getD (0+i) 0) (y.getD (0+i) 0) _).2=_;rw[Nat.zero_add]
  have X:=W i;have s:=Xi (x.getD i 0) (y.getD i 0) (fH (bh BB) x y 0 0 i) (bm (by decide) Q _) (bm (by decide) hy _) X g;refine aa (λC=>?_) (λC=>?_)
  ·have C:=dT C;refine aa (λB=>?_) (λB=>?_)
   ·have B:=dT B;obtain⟨q,M,Z⟩:=H7 (V.ok f) (i:=(i:Int)) (by omega) (by omega);rw[toNat_natCast]at Z;refine⟨q,M,_,Z,aa (λe=>?_) (λe=>?_)⟩
    ·have e:=dT e;obtain⟨H,E,A⟩:=H7 (I.ok f) (i:=(i:Int)) (by omega) (by omega);rw[toNat_natCast]at A;refine⟨H,E,_,A,s.mono ?_⟩;rintro _ _ ⟨rfl,rfl⟩;refine⟨_,_,rfl,_,_,_,vR _,?_⟩;obtain⟨b,m,k,u,p,F,l,t⟩:=oD w f z ((bh BB (x.getD i 0) (y.getD i 0) (fH (bh BB) x y 0 0 i)).1:Nat) (by grind);refine⟨b,m,k,u,p,rz (v-1) (by omega) ⟨by omega,by omega,by omega,?_,t⟩⟩;rw[d,map_append];exact l
    ·have e:=dF e;have G:y.getD i 0=0:=by rw[gD,getElem?_eq_none (by omega)];rfl
     rw[G]at s d o;refine s.mono ?_;rintro _ _ ⟨rfl,rfl⟩;refine⟨_,_,rfl,_,_,_,vR _,?_⟩;obtain⟨b,m,k,u,p,F,l,t⟩:=oD w f z ((bh BB (x.getD i 0) 0 (fH (bh BB) x y 0 0 i)).1:Nat) (by grind);refine⟨b,m,k,u,p,rz (v-1) (by omega) ⟨by omega,by omega,by omega,?_,t⟩⟩;rw[d,map_append];exact l
   ·have B:=dF B;have x0:x.getD i 0=0:=by rw[gD,getElem?_eq_none (by omega)];rfl
    rw[x0]at s d o;refine aa (λe=>?_) (λe=>?_)
    ·have e:=dT e;obtain⟨H,E,A⟩:=H7 (I.ok f) (i:=(i:Int)) (by omega) (by omega);rw[toNat_natCast]at A;refine⟨H,E,_,A,s.mono ?_⟩;rintro _ _ ⟨rfl,rfl⟩;refine⟨_,_,rfl,_,_,_,vR _,?_⟩;obtain⟨b,m,k,u,p,F,l,t⟩:=oD w f z ((bh BB 0 (y.getD i 0) (fH (bh BB) x y 0 0 i)).1:Nat) (by grind);refine⟨b,m,k,u,p,rz (v-1) (by omega) ⟨by omega,by omega,by omega,?_,t⟩⟩;rw[d,map_append];exact l
    ·have e:=dF e;have G:y.getD i 0=0:=by rw[gD,getElem?_eq_none (by omega)];rfl
     rw[G]at s d o;refine s.mono ?_;rintro _ _ ⟨rfl,rfl⟩;refine⟨_,_,rfl,_,_,_,vR _,?_⟩;obtain⟨b,m,k,u,p,F,l,t⟩:=oD w f z ((bh BB 0 0 (fH (bh BB) x y 0 0 i)).1:Nat) (by grind);refine⟨b,m,k,u,p,rz (v-1) (by omega) ⟨by omega,by omega,by omega,?_,t⟩⟩;rw[d,map_append];exact l
  ·have C:=dF C;obtain rfl:i=N+1:=by omega
   refine(uG z (by omega)).mono ?_;rintro _ M ⟨U,T,K,rfl,Y,rfl⟩;rw[D]at Y;exact⟨U,T,K,rfl,U,T,K,rfl,Y,f⟩)
 refine LY a n c b m k h _ ⟨_,wW _ _ _,?_⟩;have hw:wrap .i64 ((N:Int)+1)=(N:Int)+1:=aF (by omega) (by omega);dsimp only;rw[J,hw];exact L (N+1) (i:=0) ⟨by omega,by omega,rfl,.inl ⟨rfl,rfl⟩,Ok.refl w⟩
theorem JI{b:Option Addr}{c:Nat}(V:Rd h 150 (.slice a n c) (x.map uv))(I:Rd h 150 (.slice b m k) (y.map uv))(Q:∀k∈x,k<BB)(hy:∀k∈y,k<BB)(x2:x.length<=10000)(x5:y.length<=10000)(w:Wf h){R:Nat}(D:eC (bD (cj BB) x y 0 (max x.length y.length+1) 0)=bj BB R):
  FW SS 193 [.slice a n c,.slice b m k,.func (.func 201) ⟨[]⟩ ⟨[]⟩] h (jS h 150 (bl R)):=by
 have hn:n=x.length:=by have:=V.len;rwa[lM]at this
 have hm:m=y.length:=by have:=I.len;rwa[lM]at this
 rw[<-hn,<-hm]at D;have W:∀j,fH (cj BB) x y 0 0 j<=1:=by
  intro j
  induction j with
  |zero=>exact Nat.zero_le _
  |succ j ih=>exact WQ (bm (by decide) Q _) (bm (by decide) hy _) ih
 have x3:n<=max n m/\m<=max n m:=⟨le_max_left _ _,le_max_right _ _⟩
 have x1:max n m<=10000:=max_le.2 ⟨by omega,by omega⟩;have J:(if(m:Int)>(n:Int)then(m:Int)else(n:Int))=((max n m:Nat):Int):=by split<;>omega
 generalize max n m=N at*;have L:=wI a n c b m k ((N:Int)+1) (λv i cy r P S g=>i<=N+1/\v=N+1-i/\cy=(fH (cj BB) x y 0 0 i:Nat)/\eO h g 150 (.slice r P S) ((bD (cj BB) x y 0 i 0).map uv)/\Ok h g) (jS h 150 (bl R)) (by
  intro v i cy r P S;intros;rename_i g hi;obtain⟨h1,h2,rfl,z,f⟩:=hi;have O:wrap .i64 ((i:Int)+1)=((i+1:Nat):Int):=by rw[aF (by omega) (by omega)];omega
  rw[O];have x4:(bD (cj BB) x y 0 i 0).length=i:=fJ _ _ _ _ _ _;have d:=jl (cj BB) x y i 0 0;rw[Nat.zero_add]at d;have o:fH (cj BB) x y 0 0 (i+1)=(cj BB (x.getD i 0) (y.getD i 0) (fH (cj BB) x y 0 0 i)).2:=by
   show(cj BB (x.getD (0+i) 0) (y.getD (0+i) 0) _).2=_;rw[Nat.zero_add]
  have X:=W i;have s:=SN (x.getD i 0) (y.getD i 0) (fH (cj BB) x y 0 0 i) (bm (by decide) Q _) (bm (by decide) hy _) X g;refine aa (λC=>?_) (λC=>?_)
  ·have C:=dT C;refine aa (λB=>?_) (λB=>?_)
   ·have B:=dT B;obtain⟨q,M,Z⟩:=H7 (V.ok f) (i:=(i:Int)) (by omega) (by omega);rw[toNat_natCast]at Z;refine⟨q,M,_,Z,aa (λe=>?_) (λe=>?_)⟩
    ·have e:=dT e;obtain⟨H,E,A⟩:=H7 (I.ok f) (i:=(i:Int)) (by omega) (by omega);rw[toNat_natCast]at A;refine⟨H,E,_,A,s.mono ?_⟩;rintro _ _ ⟨rfl,rfl⟩;refine⟨_,_,rfl,_,_,_,vR _,?_⟩;obtain⟨b,m,k,u,p,F,l,t⟩:=oD w f z ((cj BB (x.getD i 0) (y.getD i 0) (fH (cj BB) x y 0 0 i)).1:Nat) (by grind);refine⟨b,m,k,u,p,rz (v-1) (by omega) ⟨by omega,by omega,by omega,?_,t⟩⟩;rw[d,map_append];exact l
    ·have e:=dF e;have G:y.getD i 0=0:=by rw[gD,getElem?_eq_none (by omega)];rfl
     rw[G]at s d o;refine s.mono ?_;rintro _ _ ⟨rfl,rfl⟩;refine⟨_,_,rfl,_,_,_,vR _,?_⟩;obtain⟨b,m,k,u,p,F,l,t⟩:=oD w f z ((cj BB (x.getD i 0) 0 (fH (cj BB) x y 0 0 i)).1:Nat) (by grind);refine⟨b,m,k,u,p,rz (v-1) (by omega) ⟨by omega,by omega,by omega,?_,t⟩⟩;rw[d,map_append];exact l
   ·have B:=dF B;have x0:x.getD i 0=0:=by rw[gD,getElem?_eq_none (by omega)];rfl
    rw[x0]at s d o;refine aa (λe=>?_) (λe=>?_)
    ·have e:=dT e;obtain⟨H,E,A⟩:=H7 (I.ok f) (i:=(i:Int)) (by omega) (by omega);rw[toNat_natCast]at A;refine⟨H,E,_,A,s.mono ?_⟩;rintro _ _ ⟨rfl,rfl⟩;refine⟨_,_,rfl,_,_,_,vR _,?_⟩;obtain⟨b,m,k,u,p,F,l,t⟩:=oD w f z ((cj BB 0 (y.getD i 0) (fH (cj BB) x y 0 0 i)).1:Nat) (by grind);refine⟨b,m,k,u,p,rz (v-1) (by omega) ⟨by omega,by omega,by omega,?_,t⟩⟩;rw[d,map_append];exact l
    ·have e:=dF e;have G:y.getD i 0=0:=by rw[gD,getElem?_eq_none (by omega)];rfl
     rw[G]at s d o;refine s.mono ?_;rintro _ _ ⟨rfl,rfl⟩;refine⟨_,_,rfl,_,_,_,vR _,?_⟩;obtain⟨b,m,k,u,p,F,l,t⟩:=oD w f z ((cj BB 0 0 (fH (cj BB) x y 0 0 i)).1:Nat) (by grind);refine⟨b,m,k,u,p,rz (v-1) (by omega) ⟨by omega,by omega,by omega,?_,t⟩⟩;rw[d,map_append];exact l
  ·have C:=dF C;obtain rfl:i=N+1:=by omega
   refine(uG z (by omega)).mono ?_;rintro _ M ⟨U,T,K,rfl,Y,rfl⟩;rw[D]at Y;exact⟨U,T,K,rfl,U,T,K,rfl,Y,f⟩)
 refine JH a n c b m k h _ ⟨_,wW _ _ _,?_⟩;have hw:wrap .i64 ((N:Int)+1)=(N:Int)+1:=aF (by omega) (by omega);dsimp only;rw[J,hw];exact L (N+1) (i:=0) ⟨by omega,by omega,rfl,.inl ⟨rfl,rfl⟩,Ok.refl w⟩
theorem O3{b:Option Addr}{c:Nat}(v:Rd h 150 (.slice a n c) (bl i))(s:Rd h 150 (.slice b m k) (bl j))(d:(bj BB i).length<=10000)(l:(bj BB j).length<=10000)(w:Wf h):FW SS 185 [.slice a n c,.slice b m k] h (jS h 150 (bl (i+j))):=by
 have f:=dM iI i;have e:=dM iI j;refine O2 a n c b m k h _ ((LZ v s f e d l w (R:=i+j) ?_).mono ?_)
 ·have y:=le_max_left (bj BB i).length (bj BB j).length;have z:=le_max_right (bj BB i).length (bj BB j).length;rw[nh iI (kG (λp q c=>mod_lt _ (by decide)) _ _ _ 0 0),B4 iI f e _ 0 0 (by omega) (by omega) (by omega) (by omega),drop_zero,drop_zero,cI iI,cI iI];rfl
 ·rintro _ g ⟨u,t,r,rfl,o,x⟩;exact⟨_,_,_,rfl,u,t,r,rfl,o,x⟩
theorem MA{b:Option Addr}{c:Nat}(y:Rd h 150 (.slice a n c) (bl i))(u:Rd h 150 (.slice b m k) (bl j))(d:j<=i)(e:(bj BB i).length<=10000)(r:(bj BB j).length<=10000)(w:Wf h):FW SS 188 [.slice a n c,.slice b m k] h (jS h 150 (bl (i-j))):=by
 have l:=dM iI i;have f:=dM iI j;refine Mz a n c b m k h _ ((JI y u l f e r w (R:=i-j) ?_).mono ?_)
 ·have A:=le_max_left (bj BB i).length (bj BB j).length;have B:=le_max_right (bj BB i).length (bj BB j).length;rw[nh iI (kG (λp q c=>mod_lt _ (by decide)) _ _ _ 0 0)];have t:=EW iI l f (max (bj BB i).length (bj BB j).length+1) 0 0 (by omega) (by omega) (by omega) (by rw[drop_zero,drop_zero,cI iI,cI iI];exact d);rw[drop_zero,drop_zero,cI iI,cI iI]at t
  grind
 ·rintro _ g ⟨x,v,s,rfl,o,z⟩;exact⟨_,_,_,rfl,x,v,s,rfl,o,z⟩
def rF(X:Nat):Value:=if 1000<(ag X).length then two [] 2 else two (ag X) 0
def DT(a b:List UInt8):Value:=if Num.valid a=true/\Num.valid b=true then rF (Num.val a+Num.val b)else two [] 1
def D0(a b:List UInt8):Value:=if Num.valid a=true/\Num.valid b=true then rF (Num.val a*Num.val b)else two [] 1
def D6(a b:List UInt8):Value:=if Num.valid a=true/\Num.valid b=true then(if Num.val a<Num.val b then two [] 4 else two (ag (Num.val a-Num.val b)) 0)else two [] 1
def DV(a b:List UInt8):Value:=if Num.valid a=true/\Num.valid b=true then .int .i64 (fm (Num.val a) (Num.val b))else .int .i64 0
theorem zu{c:Nat}(f:Rd h 150 (.slice a n c) (bl m))(d:(bj BB m).length<=10000)(t:qJ h)(w:Wf h):FW SS 173 [.slice a n c] h (λv i=>v=rF m/\Ok h i):=by
 refine HD a n c h _ ((rH f d t w).mono ?_);rintro _ g ⟨rfl,e⟩;refine⟨_,rfl,aa (λb=>?_) (λb=>?_)⟩
 ·have b:=dT b;refine⟨?_,e⟩;unfold rF;rw[if_pos (by omega)];rfl
 ·have b:=dF b;refine⟨?_,e⟩;unfold rF;rw[if_neg (by omega)];rfl
structure agm(a b:List UInt8)(X Y:Nat):Prop where
 va:Num.valid a=true
 vb:Num.valid b=true
 ea:Num.val a=X
 eb:Num.val b=Y
 lx:(bj BB X).length<=112
 ly:(bj BB Y).length<=112
theorem abV{a b:List UInt8}(c:Num.valid a=true)(d:Num.valid b=true):agm a b (Num.val a) (Num.val b):=by
 obtain⟨X,_,f,g⟩:=di c;obtain⟨Y,_,e,h⟩:=di d;exact⟨c,d,rfl,rfl,by rw[g];exact ji f,by rw[h];exact ji e⟩
theorem mq{a:List UInt8}(c:Num.valid a=true){h:ae}(w:Wf h):FW SS 172 [strOf a] h (jS h 150 (bl (Num.val a))):=by
 have b:=(ie.1 c)
 exact uF a b.1.2.1 (Nat.le_trans b.2 (by omega)) h w
theorem abU(c:(bj BB n).length<=112)(d:(bj BB m).length<=112):(bj BB (n+m)).length<=10000:=by
 have a:=gr (dM iI n);have b:=gr (dM iI m);rw[cI iI]at a b;have e:=lt_of_lt_of_le a (pow_le_pow_right (show 0<BB by decide) c);have f:=lt_of_lt_of_le b (pow_le_pow_right (show 0<BB by decide) d);refine Nat.le_trans (oa iI (k:=113) ?_) (by omega);rw[Nat.pow_succ];have g:2*BB^112<=BB^112*BB:=by rw[Nat.mul_comm];exact Nat.mul_le_mul_left _ (by decide)
 generalize BB^112=M at*;omega
theorem YX(h:n<=m):(bj BB n).length<=(bj BB m).length:=Nat.le_of_not_lt λg=>absurd (oc iI g) (Nat.not_lt.2 h)
theorem A6(X:Nat):∃l n,rF X=two l n:=by
 unfold rF;split<;>exact⟨_,_,rfl⟩
theorem BJ(a:∃l n,v=two l n){K:Value->Prop}(b:K v):∃(l:List UInt8)(n:Int),v = .tuple ⟨[strOf l,.int .i64 n]⟩/\K (.tuple ⟨[strOf l,.int .i64 n]⟩):=by
 obtain⟨l,n,rfl⟩:=a;exact⟨l,n,rfl,b⟩
theorem Qz{x:Nat}(h:fm x n<0):x<n:=by
 unfold fm at h;split at h<;>omega
theorem Qy{x:Nat}(h:¬fm x n<0):n<=x:=by
 unfold fm at h;split at h<;>omega
theorem SU(a b:List UInt8){h:ae}(t:qJ h)(w:Wf h):FW SS 168 [strOf a,strOf b] h (λv r=>v=DT a b/\Ok h r):=by
 refine SR a b h _ ((eo a h).mono ?_);rintro _ l ⟨rfl,j⟩;obtain rfl:h=l:=j.symm;refine⟨_,rfl,aa (λg=>?_) (λg=>?_)⟩
 ·have g:Num.valid a=false:=by simpa using g
  refine⟨?_,Ok.refl w⟩;unfold DT;rw[if_neg (λe=>by rw[e.1]at g;cases g)];rfl
 have g:Num.valid a=true:=by simpa using g
 refine(eo b h).mono ?_;rintro _ l ⟨rfl,j⟩;obtain rfl:h=l:=j.symm;refine⟨_,rfl,aa (λc=>?_) (λc=>?_)⟩
 ·have c:Num.valid b=false:=by simpa using c
  refine⟨?_,Ok.refl w⟩;unfold DT;rw[if_neg (λe=>by rw[e.2]at c;cases c)];rfl
 have c:Num.valid b=true:=by simpa using c
 have m:=abV g c;have A:=m.lx;have z:=m.ly;refine(mq g w).mono ?_;rintro _ G ⟨N,C,J,rfl,o,f⟩;refine⟨_,_,_,rfl,(mq c f.wf).mono ?_⟩;rintro _ H ⟨E,D,M,rfl,y,i⟩;refine⟨_,_,_,rfl,?_⟩;have x:DT a b=rF (Num.val a+Num.val b):=by unfold DT;rw[if_pos ⟨g,c⟩]
 rw[x];have p:=o.rd.ok i;have q:=y.rd;have k:=f.trans i;refine(O3 p q (by omega) (by omega) k.wf).mono ?_;rintro _ F ⟨I,B,L,rfl,s,d⟩;refine⟨_,_,_,rfl,(zu s.rd (abU A z) (t.ok (k.trans d)) d.wf).mono ?_⟩;rintro _ u ⟨rfl,n⟩;exact BJ (K:=λv=>v=rF (Num.val a+Num.val b)/\Ok h u) (A6 _) ⟨rfl,(k.trans d).trans n⟩
theorem Iy(a b:List UInt8){h:ae}(t:qJ h)(w:Wf h):FW SS 170 [strOf a,strOf b] h (λv x=>v=D6 a b/\Ok h x):=by
 refine S2 a b h _ ((eo a h).mono ?_);rintro _ o ⟨rfl,n⟩;obtain rfl:h=o:=n.symm;refine⟨_,rfl,aa (λg=>?_) (λg=>?_)⟩
 ·have g:Num.valid a=false:=by simpa using g
  refine⟨?_,Ok.refl w⟩;unfold D6;rw[if_neg (λe=>by rw[e.1]at g;cases g)];rfl
 have g:Num.valid a=true:=by simpa using g
 refine(eo b h).mono ?_;rintro _ o ⟨rfl,n⟩;obtain rfl:h=o:=n.symm;refine⟨_,rfl,aa (λc=>?_) (λc=>?_)⟩
 ·have c:Num.valid b=false:=by simpa using c
  refine⟨?_,Ok.refl w⟩;unfold D6;rw[if_neg (λe=>by rw[e.2]at c;cases c)];rfl
 have c:Num.valid b=true:=by simpa using c
 have r:=abV g c;have P:=r.lx;have N:=r.ly;refine(mq g w).mono ?_;rintro _ G ⟨O,C,J,rfl,u,k⟩;refine⟨_,_,_,rfl,(mq c k.wf).mono ?_⟩;rintro _ H ⟨E,D,M,rfl,A,l⟩;refine⟨_,_,_,rfl,?_⟩;have z:D6 a b=(if Num.val a<Num.val b then two [] 4 else two (ag (Num.val a-Num.val b)) 0):=by unfold D6;rw[if_pos ⟨g,c⟩]
 rw[z];have p:=u.rd.ok l;have q:=A.rd;have j:=k.trans l;refine(sW p q (by omega) j.wf).mono ?_;rintro _ F ⟨rfl,d⟩;refine⟨_,rfl,aa (λf=>?_) (λf=>?_)⟩
 ·have f:=dT f;rw[if_pos (Qz f)];exact⟨rfl,j.trans d⟩
 ·have f:=dF f;have m:=Qy f;rw[if_neg (Nat.not_lt.2 m)];refine(MA (p.ok d) (q.ok d) m (by omega) (by omega) d.wf).mono ?_;rintro _ L ⟨I,B,K,rfl,y,i⟩;refine⟨_,_,_,rfl,(rH y.rd (Nat.le_trans (YX (Nat.sub_le _ _)) (by omega)) (t.ok ((j.trans d).trans i)) i.wf).mono ?_⟩;rintro _ Q ⟨rfl,s⟩;exact⟨_,rfl,rfl,((j.trans d).trans i).trans s⟩
theorem SW(a b:List UInt8){h:ae}(t:qJ h)(w:Wf h):FW SS 169 [strOf a,strOf b] h (λv q=>v=DV a b/\Ok h q):=by
 refine SV a b h _ ((eo a h).mono ?_);rintro _ j ⟨rfl,i⟩;obtain rfl:h=j:=i.symm;refine⟨_,rfl,aa (λg=>?_) (λg=>?_)⟩
 ·have g:Num.valid a=false:=by simpa using g
  refine⟨?_,Ok.refl w⟩;unfold DV;rw[if_neg (λe=>by rw[e.1]at g;cases g)]
 have g:Num.valid a=true:=by simpa using g
 refine(eo b h).mono ?_;rintro _ j ⟨rfl,i⟩;obtain rfl:h=j:=i.symm;refine⟨_,rfl,aa (λc=>?_) (λc=>?_)⟩
 ·have c:Num.valid b=false:=by simpa using c
  refine⟨?_,Ok.refl w⟩;unfold DV;rw[if_neg (λe=>by rw[e.2]at c;cases c)]
 have c:Num.valid b=true:=by simpa using c
 have l:=abV g c;have G:=l.lx;have E:=l.ly;refine(mq g w).mono ?_;rintro _ A ⟨F,u,C,rfl,n,d⟩;refine⟨_,_,_,rfl,(mq c d.wf).mono ?_⟩;rintro _ B ⟨y,x,D,rfl,s,f⟩;refine⟨_,_,_,rfl,?_⟩;have r:DV a b = .int .i64 (fm (Num.val a) (Num.val b)):=by unfold DV;rw[if_pos ⟨g,c⟩]
 rw[r];have o:=n.rd.ok f;have p:=s.rd;have m:=d.trans f;refine(sW o p (by omega) m.wf).mono ?_;rintro _ z ⟨rfl,k⟩;exact⟨_,rfl,rfl,m.trans k⟩
theorem NX:SS.P.underlying 9=some .string:=Tryz.underlying9
theorem KF(l:List UInt8)(h:ae){b:Nat}(c:b<=l.length):cg SS.P 9 (strOf l) none (some (.int .i64 (b:Int))) none h=some (strOf (l.take b)):=by
 have:=qM (h:=h) NX l (lo:=none) (hi:=some (.int .i64 (b:Int))) (a:=0) (b:=b) rfl rfl (by omega) c;simpa using this
theorem yC(l:List UInt8)(h:ae){a:Nat}(c:a<=l.length):cg SS.P 9 (strOf l) (some (.int .i64 (a:Int))) none none h=some (strOf (l.drop a)):=by
 have:=qM (h:=h) NX l (lo:=some (.int .i64 (a:Int))) (hi:=none) (a:=a) (b:=l.length) rfl rfl c (Nat.le_refl _);rw[this,take_of_length_le (by simp)]
theorem Sn(l:List UInt8)(h:ae):FW SS 204 [strOf l,strOf [45]] h (λv e=>v = .bool (Num.isNeg l)/\e=h):=by
 refine Sm l [45] h _ (aa (λa=>?_) (λa=>?_))
 ·have a:=dT a;have d:1<=l.length:=by simp only[List.length_cons,List.length_nil]at a;omega
  refine⟨_,KF l h (b:=1) d,?_,rfl⟩
  cases l with
  |nil=>simp at d
  |cons c l=>
   unfold Num.isNeg;simp only[List.take_succ_cons,take_zero,List.head?_cons];congr 1
   cases f:c==45<;>simp_all
 ·have a:=dF a;have d:l=[]:=List.eq_nil_of_length_eq_zero (by simp at a;omega);subst d;exact⟨rfl,rfl⟩
theorem OF(l:List UInt8)(h:ae):FW SS 191 [strOf l,strOf [45]] h (λv c=>v = .tuple ⟨[strOf (bw l),.bool (Num.isNeg l)]⟩/\c=h):=by
 refine OE l [45] h _ ((Sn l h).mono ?_);rintro _ e ⟨rfl,d⟩;obtain rfl:h=e:=d.symm;refine⟨_,rfl,aa (λg=>?_) (λg=>?_)⟩
 ·have g:Num.isNeg l=false:=by simpa using g
  unfold bw;rw[g];exact⟨rfl,rfl⟩
 ·have g:Num.isNeg l=true:=by simpa using g
  have b:1<=l.length:=by
   cases l with
   |nil=>cases g
   |cons=>simp
  refine⟨_,yC l h (a:=1) b,?_,rfl⟩;unfold bw;rw[g];rfl
theorem Sf(l:List UInt8)(h:ae):FW SS 177 [strOf l,strOf [45]] h (λv a=>v = .tuple ⟨[strOf (bw l),.bool (Num.isNeg l)]⟩/\a=h):=by
 refine Se l [45] h _ ((OF l h).mono ?_);rintro _ c ⟨rfl,b⟩;exact⟨_,_,rfl,rfl,b⟩
theorem OL(l:List UInt8):∀i:Nat,findAt 47 l i=if dg 47 l<l.length then((i+dg 47 l:Nat):Int)else -1:=by
 induction l with
 |nil=>intro i;rfl
 | cons c l b=>
  intro i;unfold findAt dg;have a:c.toNat=47↔c=47:=by rw[<-UInt8.toNat_inj];rfl
  by_cases h:c=47
  ·rw[if_pos (a.2 h),if_pos h,if_pos (by simp)];rfl
  ·rw[if_neg (λe=>h (a.1 e)),if_neg h,b (i+1)];have:(dg 47 l+1<(c::l).length)↔dg 47 l<l.length:=by simp
   simp only[this];split
   ·congr 1;omega
   ·rfl
def Hy(l:List UInt8):Int:=if dg 47 l<l.length then(dg 47 l:Int)else -1
theorem Ml(l:List UInt8)(h:ae):FW SS 214 [strOf l,.int .u8 47] h (λv a=>v = .int .i64 (Hy l)/\a=h):=by
 refine Mk l 47 h _ (Ek (p:=rQ) (v:= .int .i64 (Hy l)) (h':=h) (by decide +kernel) (by kernel_rfl) (λb=>?_) ⟨_,rfl,rfl,rfl⟩);show(if(0:Int)<=47/\(47:Int)<256 then some (Value.int .i64 (findAt 47 l 0),h)else none)=_;rw[if_pos (by decide),OL,Nat.zero_add];rfl
theorem St(l:List UInt8)(h:ae):FW SS 205 [strOf l,strOf [47]] h (λv b=>v = .int .i64 (Hy l)/\b=h):=by
 refine Ss l h _ (aa (λa=>?_) (λa=>?_))
 ·have a:([47]:List UInt8)=l:=by simpa using a
  subst a;exact⟨rfl,rfl⟩
 ·refine⟨47,rfl,(Ml l h).mono ?_⟩;rintro _ d ⟨rfl,c⟩;exact⟨_,rfl,rfl,c⟩
def Sg(l:List UInt8):Value:=if dg 47 l<l.length then .tuple ⟨[strOf (l.take (dg 47 l)),strOf (l.drop (dg 47 l+1)),.bool true]⟩else .tuple ⟨[strOf l,strOf [],.bool false]⟩
theorem aaG(l:List UInt8)(f:l.length<=1000000000){h:ae}(w:Wf h):FW SS 192 [strOf l,strOf [47]] h (λv b=>v=Sg l/\Ok h b):=by
 refine aaF l h _ ((St l h).mono ?_);rintro _ e ⟨rfl,d⟩;obtain rfl:h=e:=d.symm;refine⟨_,rfl,aa (λg=>?_) (λg=>?_)⟩
 ·have g:=dT g;unfold Hy Sg at*;by_cases a:dg 47 l<l.length
  ·rw[if_pos a,if_pos a];have c:wrap .i64 ((dg 47 l:Int)+1)=((dg 47 l+1:Nat):Int):=by rw[aF (by omega) (by omega)];omega
   rw[c];exact⟨_,KF l _ (le_of_lt a),_,yC l _ a,rfl,(Ok.refl w).room 12⟩
  ·rw[if_neg a]at g;omega
 ·have g:=dF g;unfold Hy Sg at*;by_cases a:dg 47 l<l.length
  ·rw[if_pos a]at g;omega
  ·rw[if_neg a];exact⟨rfl,Ok.refl w⟩
theorem adz(l:List UInt8)(b:l.length<=1000000000){h:ae}(w:Wf h):FW SS 178 [strOf l,strOf [47]] h (λv c=>v=Sg l/\Ok h c):=by
 refine ady l h _ ((aaG l b w).mono ?_);rintro _ d ⟨rfl,a⟩;unfold Sg;split
 ·exact⟨_,_,_,rfl,rfl,a⟩
 ·exact⟨_,_,_,rfl,rfl,a⟩
theorem Ko(l:List UInt8)(s:l.length<=1000000000)(h:ae):FW SS 116 [strOf l,.int .u8 47] h (λv n=>v = .int .i64 (Hy l)/\n=h):=by
 refine Kn l 47 h _ (xm l 47 (λd i g=>g=h/\i<=l.length/\d=l.length-i/\∀j,j<i->l.getD j 0≠47) _ (λd i=>?_) l.length (i:=0) ⟨rfl,by omega,rfl,λj q=>by omega⟩);intros;rename_i g p;obtain⟨rfl,k,u,f⟩:=p;refine aa (λb=>?_) (λb=>?_)
 ·have b:=dT b;have e:bZ SS.P 9 (strOf l) (.int .i64 (i:Int))=some (.int .u8 (((l.getD i 0).toNat:Nat):Int)):=by
   have:=qL NX l .i64 (i:=(i:Int)) (by omega) b;simpa using this
  refine⟨_,e,aa (λa=>?_) (λa=>?_)⟩
  ·have a:(l.getD i 0).toNat=47:=by have:=dT a;omega
   have r:l.getD i 0=47:=by rw[<-UInt8.toNat_inj];exact a
   have:=zO 47 l i k f (λ_=>r);refine⟨?_,rfl⟩;unfold Hy;rw[this,if_pos (by omega)]
  ·have a:((l.getD i 0).toNat:Int)≠47:=by simpa using a
   have o:wrap .i64 ((i:Int)+1)=((i+1:Nat):Int):=by rw[aF (by omega) (by omega)];omega
   rw[o];refine cz (d-1) (by omega) ⟨rfl,by omega,by omega,λj q=>?_⟩;rcases lt_or_ge j i with c|c
   ·exact f j c
   ·obtain rfl:j=i:=by omega
    intro m;rw[m]at a;exact a rfl
 ·have b:=dF b;obtain rfl:i=l.length:=by omega
  have:=zO 47 l l.length (Nat.le_refl _) f (λt=>by omega);refine⟨?_,rfl⟩;unfold Hy;rw[this,if_neg (by omega)]
noncomputable def Kx:FD:=dq Tryz.f152 []
theorem HI(l:LB)(h:ae)(Q:VH)(a:au (decide ((((l:LB).length:Int):Int)>1000)) (Q (.tuple ⟨[(strOf []),(.int .i64 2)]⟩) h) (Q (.tuple ⟨[(strOf l),(.int .i64 0)]⟩) h)):FW SS 152 [(strOf l)] h Q:=du Kx Tryz.func152 (ai a)
noncomputable def XS:FD:=dq Tryz.f120 []
theorem TJ(l m:LB)(h:ae)(Q:VH)(j:FW SS 136 [(strOf l)] h λh i=>yB h λg=>au (!g) (Q (.int .i64 0) i) (FW SS 136 [(strOf m)] i λe f=>yB e λd=>au (!d) (Q (.int .i64 0) f) (FW SS 154 [(strOf l),(strOf m)] f λb c=>yI .i64 b λa=>Q (.int .i64 a) c))):FW SS 120 [(strOf l),(strOf m)] h Q:=du XS Tryz.func120 (ai j)
noncomputable def XT:FD:=dq Tryz.f121 []
theorem TP(l m:LB)(h:ae)(Q:VH)(B:FW SS 136 [(strOf l)] h λz A=>yB z λy=>au (!y) (Q (.tuple ⟨[(strOf []),(.int .i64 1)]⟩) A) (FW SS 136 [(strOf m)] A λw x=>yB w λv=>au (!v) (Q (.tuple ⟨[(strOf []),(.int .i64 1)]⟩) x) (FW SS 154 [(strOf l),(strOf m)] x λt u=>yI .i64 t λs=>au (decide ((s:Int)<0)) (Q (.tuple ⟨[(strOf []),(.int .i64 4)]⟩) u) (FW SS 150 [(strOf l)] u λq r=>yL q λn o p=>FW SS 150 [(strOf m)] r λl m=>yL l λi j k=>FW SS 155 [(.slice n o p),(.slice i j k)] m λg h=>yL g λd e f=>FW SS 153 [(.slice d e f)] h λb c=>yS b λa=>Q (.tuple ⟨[(strOf a),(.int .i64 0)]⟩) c)))):FW SS 121 [(strOf l),(strOf m)] h Q:=du XT Tryz.func121 (ai B)
noncomputable def rL:FD:=dq Tryz.f119 [([1,1,1,1,1,0,1,0,0],[6,7,8,9,10])]
abbrev lg(a:OA)(n c:Nat)(b:OA)(k d:Nat)(i:Nat)(cy:Int)(r:OA)(e f:Nat):LV:=[(.slice a n c),(.slice b k d),(.slice r e f),(.int .i64 cy),(iA i)]
theorem TG(l m:LB)(h:ae)(Q:VH)(s:FW SS 136 [(strOf l)] h λq r=>yB q λp=>au (!p) (Q (.tuple ⟨[(strOf []),(.int .i64 1)]⟩) r) (FW SS 136 [(strOf m)] r λn o=>yB n λk=>au (!k) (Q (.tuple ⟨[(strOf []),(.int .i64 1)]⟩) o) (FW SS 150 [(strOf l)] o λi j=>yL i λf g h=>FW SS 150 [(strOf m)] j λd e=>yL d λa b c=>LL SS rL [1,1,1,1,1,0,1,0,0] (lg f g h a b c 0 0 none 0 0) e (KK SS rL [1,1,1,1,1,0,1,0] [] (EE SS rL Q))))):FW SS 119 [(strOf l),(strOf m)] h Q:=du rL Tryz.func119 (ai s)
theorem Bp(l m:LB)(a:OA)(n c:Nat)(b:OA)(k d:Nat)(z:Nat->Nat->Int->OA->Nat->Nat->ae->Prop)(Q:VH)(step:∀(A:Nat) (i:Nat) (cy:Int) (r:OA) (x y:Nat) (C:Nat->Value) (h:ae),z A i cy r x y h->au (decide (((i:Int):Int)<=(n:Int))) (FW SS 151 [(.slice a n c),(iA i)] h λv w=>yI .i64 v λu=>FW SS 151 [(.slice b k d),(iA i)] w λs t=>yI .i64 s λq=>xI .i64 (aB SS.P .rem 3 (.int .i64 (wrap .i64 (wrap .i64 (u+q)+cy))) (.int .i64 10)) λp=>xR (aJ SS.P 22 1 [(0,(.int .i64 p))]) t λ_ l m o=>xE (bR SS.P 22 22 (.slice r x y) (sA (t.next) l m) o) o λf g h _ j=>xI .i64 (aB SS.P .quo 3 (.int .i64 (wrap .i64 (wrap .i64 (u+q)+cy))) (.int .i64 10)) λe=>aM (ED (lg a n c b k d) z) A [(.slice a n c),(.slice b k d),(.slice f g h),(.int .i64 e),(.int .i64 (wrap .i64 ((i:Int)+1)))] j) (au (decide (((i:Int):Int)<=(k:Int))) (FW SS 151 [(.slice a n c),(iA i)] h λv w=>yI .i64 v λu=>FW SS 151 [(.slice b k d),(iA i)] w λs t=>yI .i64 s λq=>xI .i64 (aB SS.P .rem 3 (.int .i64 (wrap .i64 (wrap .i64 (u+q)+cy))) (.int .i64 10)) λp=>xR (aJ SS.P 22 1 [(0,(.int .i64 p))]) t λ_ l m o=>xE (bR SS.P 22 22 (.slice r x y) (sA (t.next) l m) o) o λf g h _ j=>xI .i64 (aB SS.P .quo 3 (.int .i64 (wrap .i64 (wrap .i64 (u+q)+cy))) (.int .i64 10)) λe=>aM (ED (lg a n c b k d) z) A [(.slice a n c),(.slice b k d),(.slice f g h),(.int .i64 e),(.int .i64 (wrap .i64 ((i:Int)+1)))] j) (FW SS 153 [(.slice r x y)] h λf g=>yS f λe=>FW SS 152 [(strOf e)] g λc d=>∃b:LB,∃a:Int,c=(.tuple ⟨[(strOf b),(.int .i64 a)]⟩)/\Q (.tuple ⟨[(strOf b),(.int .i64 a)]⟩) d)))(A:Nat){i:Nat}{cy:Int}{r:OA}{x y:Nat}{h:ae}(B:z A i cy r x y h):LL SS rL [1,1,1,1,1,0,1,0,0] (lg a n c b k d i cy r x y) h (KK SS rL [1,1,1,1,1,0,1,0] [] (EE SS rL Q)):=
 IQ (lg a n c b k d) z (λA i cy r x y C h B=>ai (step A i cy r x y C h B)) A B
noncomputable def ga:FD:=dq Tryz.f122 [([1,1,1,1,0,1,0,0],[6,7,8,9]),([1,1,1,1,0,1,0,0,1,0,0,1,1,0,0],[6,7,8,9,10,11])]
abbrev iX(a:OA)(n c:Nat)(b:OA)(k d:Nat)(t:OA)(f e:Nat)(i:Nat):LV:=[(.slice a n c),(.slice b k d),(.slice t f e),(iA i)]
abbrev oB(a:OA)(n c:Nat)(b:OA)(k d:Nat)(t:OA)(f e i:Nat)(j:Nat)(cy:Int):LV:=[(.slice a n c),(.slice b k d),(.slice t f e),(iA i),(.int .i64 cy),(iA j)]
theorem TN(l m:LB)(h:ae)(Q:VH)(u:FW SS 136 [(strOf l)] h λs t=>yB s λr=>au (!r) (Q (.tuple ⟨[(strOf []),(.int .i64 1)]⟩) t) (FW SS 136 [(strOf m)] t λp q=>yB p λo=>au (!o) (Q (.tuple ⟨[(strOf []),(.int .i64 1)]⟩) q) (FW SS 150 [(strOf l)] q λl n=>yL l λi j k=>FW SS 150 [(strOf m)] n λg h=>yL g λd e f=>xR (cF SS.P 22 (.int .i64 (wrap .i64 (wrap .i64 ((j:Int)+(e:Int))+1))) (.int .i64 (wrap .i64 (wrap .i64 ((j:Int)+(e:Int))+1)))) h λ_ a b c=>LL SS ga [1,1,1,1,0,1,0,0] (iX i j k d e f (some ⟨h.next,0,none⟩) a b 0) c (KK SS ga [1,1,1,1,0,1,0] [] (EE SS ga Q))))):FW SS 122 [(strOf l),(strOf m)] h Q:=du ga Tryz.func122 (ai u)
theorem Bu(l m:LB)(a:OA)(n c:Nat)(b:OA)(k d:Nat)(t:OA)(q p:Nat)(o:Nat->Nat->ae->Prop)(Q:VH)(step:∀(j:Nat) (i:Nat) (s:Nat->Value) (h:ae),o j i h->au (decide (((i:Int):Int)<(n:Int))) (LL SS ga [1,1,1,1,0,1,0,0,1,0,0,1,1,0,0] (oB a n c b k d t q p i 0 0) h (KK SS ga [1,0,0,1,1,0] [1,1,1,1,0,1,0,0] (RR ga [1,1,1,1,0,1,0,0] (gp (iX a n c b k d t q p) o) j (KK SS ga [1,1,1,1,0,1,0] [] (EE SS ga Q))))) (FW SS 153 [(.slice t q p)] h λf g=>yS f λe=>FW SS 152 [(strOf e)] g λc d=>∃b:LB,∃a:Int,c=(.tuple ⟨[(strOf b),(.int .i64 a)]⟩)/\Q (.tuple ⟨[(strOf b),(.int .i64 a)]⟩) d))(j:Nat){i:Nat}{h:ae}(r:o j i h):LL SS ga [1,1,1,1,0,1,0,0] (iX a n c b k d t q p i) h (KK SS ga [1,1,1,1,0,1,0] [] (EE SS ga Q)):=
 dJ (iX a n c b k d t q p) o (λj i s h r=>ai (step j i s h r)) j r
theorem Bv(l m:LB)(a:OA)(n c:Nat)(b:OA)(k d:Nat)(t:OA)(w v:Nat)(y:Nat->Nat->ae->Prop)(A i:Nat)(x:Nat->Nat->Int->ae->Prop)(Q:VH)(step:∀(u:Nat) (j:Nat) (cy:Int) (B:Nat->Value) (h:ae),x u j cy h->au (decide (((j:Int):Int)<=(k:Int))) (iP 22 (.slice t w v) (.int .i64 (wrap .i64 ((i:Int)+(j:Int)))) λs=>lI (room h 18) s λr=>iP 22 (.slice a n c) (iA i) λq=>lI (room h 18) q λp=>FW SS 151 [(.slice b k d),(iA j)] (room h 18) λm o=>yI .i64 m λl=>(aj SS.P 3 o (.pointer (some s))=some (.int .i64 r)/\dV 4 (.int .i64 r) (.int .i64 r)=true)/\(aj SS.P 3 o (.pointer (some q))=some (.int .i64 p)/\dV 4 (.int .i64 p) (.int .i64 p)=true)/\xI .i64 (aB SS.P .rem 3 (.int .i64 (wrap .i64 (wrap .i64 (r+wrap .i64 (p*l))+cy))) (.int .i64 10)) λh=>iP 22 (.slice t w v) (.int .i64 (wrap .i64 ((i:Int)+(j:Int)))) λg=>xU (ah SS.P 3 (.pointer (some g)) (.int .i64 h) o) o λ_ f=>xI .i64 (aB SS.P .quo 3 (.int .i64 (wrap .i64 (wrap .i64 (r+wrap .i64 (p*l))+cy))) (.int .i64 10)) λe=>aM (tE (oB a n c b k d t w v i) x) u [(.slice a n c),(.slice b k d),(.slice t w v),(iA i),(.int .i64 e),(.int .i64 (wrap .i64 ((j:Int)+1)))] f) (aM (gp (iX a n c b k d t w v) y) A [(.slice a n c),(.slice b k d),(.slice t w v),(.int .i64 (wrap .i64 ((i:Int)+1)))] h))(u:Nat){j:Nat}{cy:Int}{h:ae}(z:x u j cy h):LL SS ga [1,1,1,1,0,1,0,0,1,0,0,1,1,0,0] (oB a n c b k d t w v i j cy) h (KK SS ga [1,0,0,1,1,0] [1,1,1,1,0,1,0,0] (RR ga [1,1,1,1,0,1,0,0] (gp (iX a n c b k d t w v) y) A (KK SS ga [1,1,1,1,0,1,0] [] (EE SS ga Q)))):=
 pU (oB a n c b k d t w v i) x (λu j cy B h z=>ai (step u j cy B h z)) u z
theorem zC(X:Nat)(h:ae):FW SS 152 [strOf (ag X)] h (λv b=>v=rF X/\b=h):=by
 refine HI _ h _ (aa (λa=>?_) (λa=>?_))
 ·have a:=dT a;refine⟨?_,rfl⟩;unfold rF;rw[if_pos (by omega)];rfl
 ·have a:=dF a;refine⟨?_,rfl⟩;unfold rF;rw[if_neg (by omega)];rfl
theorem TK(a b:List UInt8){h:ae}(w:Wf h):FW SS 120 [strOf a,strOf b] h (λv i=>v=DV a b/\Ok h i):=by
 refine TJ a b h _ ((dQ a h).mono ?_);rintro _ f ⟨rfl,d⟩;obtain rfl:h=f:=d.symm;refine⟨_,rfl,aa (λg=>?_) (λg=>?_)⟩
 ·have g:Num.valid a=false:=by simpa using g
  refine⟨?_,Ok.refl w⟩;unfold DV;rw[if_neg (λe=>by rw[e.1]at g;cases g)]
 have g:Num.valid a=true:=by simpa using g
 refine(dQ b h).mono ?_;rintro _ f ⟨rfl,d⟩;obtain rfl:h=f:=d.symm;refine⟨_,rfl,aa (λc=>?_) (λc=>?_)⟩
 ·have c:Num.valid b=false:=by simpa using c
  refine⟨?_,Ok.refl w⟩;unfold DV;rw[if_neg (λe=>by rw[e.2]at c;cases c)]
 have c:Num.valid b=true:=by simpa using c
 have j:DV a b = .int .i64 (fm (Num.val a) (Num.val b)):=by unfold DV;rw[if_pos ⟨g,c⟩]
 grind[di,ja,sZ]
theorem ti{a:List UInt8}(c:Num.valid a=true){h:ae}(w:Wf h):FW SS 150 [strOf a] h (jS h 3 ((gw a).map iv)):=by
 have b:=(ie.1 c)
 exact vf a b.1.2.1 (Nat.le_trans b.2 (by omega)) h w
theorem mu{a:List UInt8}(b:Num.valid a=true):∀d∈gw a,d<10:=oN (ie.1 b).1.2.1
theorem qK{a:List UInt8}(b:Num.valid a=true):(gw a).length<=1000:=by grind[nf,ie]
theorem HA{a b:List UInt8}(c:Num.valid a=true)(d:Num.valid b=true)(h:Num.val b<=Num.val a):b.length<=a.length:=by
 obtain⟨m,rfl,_,f⟩:=di c;obtain⟨n,rfl,_,e⟩:=di d;exact Nat.le_of_not_lt λg=>by have:=od g;omega
theorem IM(a b:List UInt8){h:ae}(w:Wf h):FW SS 121 [strOf a,strOf b] h (λv o=>v=D6 a b/\Ok h o):=by
 refine TP a b h _ ((dQ a h).mono ?_);rintro _ q ⟨rfl,p⟩;obtain rfl:h=q:=p.symm;refine⟨_,rfl,aa (λg=>?_) (λg=>?_)⟩
 ·have g:Num.valid a=false:=by simpa using g
  refine⟨?_,Ok.refl w⟩;unfold D6;rw[if_neg (λe=>by grind)];rfl
 have g:Num.valid a=true:=by simpa using g
 refine(dQ b h).mono ?_;rintro _ q ⟨rfl,p⟩;obtain rfl:h=q:=p.symm;refine⟨_,rfl,aa (λc=>?_) (λc=>?_)⟩
 ·have c:Num.valid b=false:=by simpa using c
  refine⟨?_,Ok.refl w⟩;unfold D6;rw[if_neg (λe=>by grind)];rfl
 have c:Num.valid b=true:=by simpa using c
 have A:D6 a b=(if Num.val a<Num.val b then two [] 4 else two (ag (Num.val a-Num.val b)) 0):=by unfold D6;rw[if_pos ⟨g,c⟩]
 rw[A];have C:FW SS 154 [strOf a,strOf b] h (λv o=>v = .int .i64 (fm (Num.val a) (Num.val b))/\Ok h o):=by
  obtain⟨m,rfl,t,x⟩:=di g;obtain⟨n,rfl,s,u⟩:=di c;have P:=ja t;have G:=ja s;rw[x,u];exact sZ m n (by omega) (by omega) h w
 refine C.mono ?_;rintro _ J ⟨rfl,f⟩;refine⟨_,rfl,aa (λd=>?_) (λd=>?_)⟩
 ·have d:=dT d;rw[if_pos (Qz d)];exact⟨rfl,f⟩
 have d:=dF d;have k:=Qy d;rw[if_neg (Nat.not_lt.2 k)];refine(ti g f.wf).mono ?_;rintro _ K ⟨F,E,Q,rfl,B,j⟩;refine⟨_,_,_,rfl,(ti c j.wf).mono ?_⟩;rintro _ H ⟨L,D,N,rfl,z,i⟩;refine⟨_,_,_,rfl,(Gu (B.rd.ok i) z.rd (mu g) (mu c) (Nat.le_trans (qK g) (by omega)) i.wf).mono ?_⟩;rintro _ O ⟨M,R,I,rfl,y,l⟩;refine⟨_,_,_,rfl,(vh y.rd (HV (mu g) (mu c) _ _ _ (by omega)) (by grind[fJ,qK]) l.wf).mono ?_⟩;rintro _ S ⟨rfl,r⟩;refine⟨_,rfl,?_,(((f.trans j).trans i).trans l).trans r⟩;rw[HU (mu g) (mu c) (by rw[nf,nf];exact HA g c k) (by grind[iM]),iM,iM];rfl
theorem XU:aB SS.P .rem 3 (.int .i64 (n:Int)) (.int .i64 10)=some (.int .i64 ((n%10:Nat):Int)):=by rfl
theorem Xn(h:n<1000000):aB SS.P .quo 3 (.int .i64 (n:Int)) (.int .i64 10)=some (.int .i64 ((n/10:Nat):Int)):=by grind[JC,aF]
theorem S9{p q c:Nat}(b:p<10)(a:q<10)(d:c<=1):(bh 10 p q c).2<=1:=by
 show(p+q+c)/10<=1;omega
theorem TI(a b:List UInt8){h:ae}(w:Wf h):FW SS 119 [strOf a,strOf b] h (λv m=>v=DT a b/\Ok h m):=by
 refine TG a b h _ ((dQ a h).mono ?_);rintro _ W ⟨rfl,T⟩;obtain rfl:h=W:=T.symm;refine⟨_,rfl,aa (λg=>?_) (λg=>?_)⟩
 ·have g:Num.valid a=false:=by simpa using g
  refine⟨?_,Ok.refl w⟩;unfold DT;rw[if_neg (λe=>by grind)];rfl
 have g:Num.valid a=true:=by simpa using g
 refine(dQ b h).mono ?_;rintro _ W ⟨rfl,T⟩;obtain rfl:h=W:=T.symm;refine⟨_,rfl,aa (λl=>?_) (λl=>?_)⟩
 ·have l:Num.valid b=false:=by simpa using l
  refine⟨?_,Ok.refl w⟩;unfold DT;rw[if_neg (λe=>by grind)];rfl
 have l:Num.valid b=true:=by simpa using l
 have hS:DT a b=rF (Num.val a+Num.val b):=by unfold DT;rw[if_pos ⟨g,l⟩]
 rw[hS];refine(ti g w).mono ?_;rintro _ h2 ⟨a2,f,c2,rfl,o2,H⟩;refine⟨_,_,_,rfl,(ti l H.wf).mono ?_⟩;rintro _ h3 ⟨a3,d,c3,rfl,o3,A⟩;refine⟨_,_,_,rfl,?_⟩;have r1:=o2.rd.ok A;have r2:=o3.rd;have ok:=H.trans A;have V:=A.wf;have x0:f=(gw a).length:=by have:=r1.len;rwa[lM]at this
 have Y:d=(gw b).length:=by have:=r2.len;rwa[lM]at this
 have l1:=qK g;have l2:=qK l;have L:=mu g;have X:=mu l;have e1:=iM a;have e2:=iM b;generalize gw a=x at*;generalize gw b=y at*;have x1:∀j,fH (bh 10) x y 0 0 j<=1:=by
  intro j
  induction j with
  |zero=>exact Nat.zero_le _
  |succ j ih=>exact S9 (bm (by decide) L _) (bm (by decide) X _) ih
 have s:=B4 (b:=10) (by decide) L X (max x.length y.length+1) 0 0 (by omega) (by omega) (by omega) (by omega);rw[drop_zero,drop_zero,e1,e2,Nat.add_zero]at s;rw[<-x0,<-Y]at s;have x6:=le_max_left f d;have x5:=le_max_right f d;have x3:max f d<=1000:=max_le.2 ⟨by omega,by omega⟩;have x4:f=max f d\/d=max f d:=by omega
 generalize max f d=N at*;refine Bp a b a2 f c2 a3 d c3 (λD i cy r rn rc g=>i<=N+1/\D=N+1-i/\cy=(fH (bh 10) x y 0 0 i:Nat)/\eO h3 g 3 (.slice r rn rc) ((bD (bh 10) x y 0 i 0).map iv)/\Ok h3 g) (λv m=>v=rF (Num.val a+Num.val b)/\Ok h m) (by
  intro D i cy r rn rc;intros;rename_i o hi;obtain⟨f1,f2,rfl,R,k⟩:=hi;have Z:wrap .i64 ((i:Int)+1)=((i+1:Nat):Int):=by rw[aF (by omega) (by omega)];omega
  rw[Z];have x7:(bD (bh 10) x y 0 i 0).length=i:=fJ _ _ _ _ _ _;have t:=jl (bh 10) x y i 0 0;rw[Nat.zero_add]at t;have z:fH (bh 10) x y 0 0 (i+1)=(bh 10 (x.getD i 0) (y.getD i 0) (fH (bh 10) x y 0 0 i)).2:=by
   show(bh 10 (x.getD (0+i) 0) (y.getD (0+i) 0) _).2=_;rw[Nat.zero_add]
  have x8:=x1 i;have hp:=bm (by omega) L i;have hq:=bm (by omega) X i;generalize fH (bh 10) x y 0 0 i=E at*;have n:∀hg:i<N+1,FW SS 151 [(.slice a2 f c2),(.int .i64 (i:Int))] o (λv m=>v = .int .i64 (x.getD i 0:Nat)/\m=o)/\FW SS 151 [(.slice a3 d c3),(.int .i64 (i:Int))] o (λv m=>v = .int .i64 (y.getD i 0:Nat)/\m=o):=λ_=>⟨xq (r1.ok k) i,xq (r2.ok k) i⟩
  have G:wrap .i64 (((x.getD i 0:Nat):Int)+((y.getD i 0:Nat):Int))=((x.getD i 0+y.getD i 0:Nat):Int):=by rw[aF (by omega) (by omega)];omega
  have F:wrap .i64 (((x.getD i 0+y.getD i 0:Nat):Int)+(E:Int))=((x.getD i 0+y.getD i 0+E:Nat):Int):=by rw[aF (by omega) (by omega)];omega
  refine aa (λC=>?_) (λC=>aa (λB=>?_) (λB=>?_))
  ·have C:=dT C;obtain⟨S,M⟩:=n (by omega);refine S.mono ?_;rintro _ _ ⟨rfl,rfl⟩;refine⟨_,rfl,M.mono ?_⟩;rintro _ _ ⟨rfl,rfl⟩;rename_i o;refine⟨_,rfl,?_⟩;dsimp only;rw[G,F];obtain⟨Q,O,J,u,P,g7,I,U⟩:=GD V k R (((x.getD i 0+y.getD i 0+E)%10:Nat):Int) (by grind);refine⟨_,XU,_,_,_,R6 _,Q,O,J,u,P,_,Xn (by omega),rz (D-1) (by omega) ⟨by omega,by omega,by rw[z];rfl,?_,U⟩⟩;rw[t,map_append];exact I
  ·have B:=dT B;obtain⟨S,M⟩:=n (by omega);refine S.mono ?_;rintro _ _ ⟨rfl,rfl⟩;refine⟨_,rfl,M.mono ?_⟩;rintro _ _ ⟨rfl,rfl⟩;rename_i o;refine⟨_,rfl,?_⟩;dsimp only;rw[G,F];obtain⟨Q,O,J,u,P,g7,I,U⟩:=GD V k R (((x.getD i 0+y.getD i 0+E)%10:Nat):Int) (by grind);refine⟨_,XU,_,_,_,R6 _,Q,O,J,u,P,_,Xn (by omega),rz (D-1) (by omega) ⟨by omega,by omega,by rw[z];rfl,?_,U⟩⟩;rw[t,map_append];exact I
  ·have C:=dF C;have B:=dF B;obtain rfl:i=N+1:=by omega
   refine(vh R.rd (kG (λp q c=>mod_lt _ (by decide)) _ _ _ 0 0) (by omega) k.wf).mono ?_;rintro _ h4 ⟨rfl,x2⟩;refine⟨_,rfl,?_⟩;rw[s];refine(zC _ h4).mono ?_;rintro _ _ ⟨rfl,rfl⟩;exact BJ (K:=λv=>v=rF (Num.val a+Num.val b)/\Ok h _) (A6 _) ⟨rfl,(ok.trans k).trans x2⟩)
  (N+1) (i:=0) ⟨by omega,by omega,rfl,.inl ⟨rfl,rfl⟩,Ok.refl V⟩
end Go.Proofs.YtaaichlgdgjgjaaGreatDoor
end
section
set_option linter.defProp false
namespace Go.Proofs.YtaaichlgdgjgjaaGreatDoor
open Go Go.Ab Go.Num
variable{k:Nat}{n:Nat}{m:Nat}{h:ae}{a:Option Addr}{x:List Nat}{g:ae}
noncomputable def ti3:TypeInfo:=(SS.P.info? 3).getD default
theorem aeb:SS.P.info? 3=some ti3:=by kernel_rfl
theorem YU:ti3.size=1:=by kernel_rfl
theorem Uh:ti3.bytes=8:=by kernel_rfl
theorem acT:zeroOf SS.P 3=some (iv 0):=by kernel_rfl
theorem agR(n:Nat)(a:n<=100000):cF SS.P 22 (.int .i64 (n:Int)) (.int .i64 (n:Int))=some (.cells ((List.replicate n 0).map iv) 3 1 true,ph n n):=by
 unfold cF cn;dsimp only;rw[xz]
 try dsimp only
 change (match SS.P.info? 3,zeroOf SS.P 3 with
  |some i,some z=>(if z.cells.size=i.size/\0<i.size/\(0:Int)<=(n:Int)/\(n:Int)<=(n:Int)/\(n:Int)*i.bytes<=140737488355328/\(n:Int)<=1099511627776 then some (eB.cells (dD z.cells.toList (n:Int).toNat) 3 i.size true,λk=>Value.slice (some ⟨k,0,none⟩) (n:Int).toNat (n:Int).toNat)else none)
  |_,_=>none)=_
 rw[aeb,acT];dsimp only;rw[YU,Uh,if_pos ⟨rfl,by omega,by omega,Int.le_refl _,by omega,by omega⟩];have e:((n:Int)).toNat=n:=by omega
 rw[e,show(iv 0).cells.toList=[iv 0]from rfl,pY,List.map_replicate];rfl
theorem afu{c:Nat}{i:Int}(b:0<=i)(a:i<m):aD SS.P 22 (.slice (some ⟨k,n,none⟩) m c) (.int .i64 i)=some (.pointer (some ⟨k,n+i.toNat*1,none⟩)):=Sr xz ZK b a
theorem atI{c:Nat}(r:Rd h 3 (.slice a n c) (x.map iv)){i:Int}(e:0<=i)(f:i<x.length):∃p:Addr,aD SS.P 22 (.slice a n c) (.int .i64 i)=some (.pointer (some p))/\aj SS.P 3 h (.pointer (some p))=some (.int .i64 (x.getD i.toNat 0:Nat)):=by
 obtain⟨p,d,b⟩:=r.at_ xz ZK KL JA (k:= .i64) (i:=i) e (by rw[lM];omega);rw[wO x i.toNat (by omega)]at b;exact⟨p,d,b⟩
theorem KM(n:Int):dV 4 (.int .i64 n) (.int .i64 n)=true:=by simp[dV]
structure RP(hb:ae)(kt N:Nat)(L:List Nat)(g:ae):Prop where
 len:L.length=N
 lt:∀d∈L,d<10
 row:K4 hb kt 3 (L.map iv) g
theorem RP.get{c:Nat}{f:ae}(a:RP g n m x f){jn:Nat}(b:jn<m):aD SS.P 22 (.slice (some ⟨n,0,none⟩) m c) (.int .i64 (jn:Int))=some (.pointer (some ⟨n,0+(jn:Int).toNat*1,none⟩))/\aj SS.P 3 f (.pointer (some ⟨n,0+(jn:Int).toNat*1,none⟩))=some (.int .i64 (x.getD jn 0:Nat))/\
  ∀d:Nat,d<10->Wf g->∃u:eu,ah SS.P 3 (.pointer (some ⟨n,0+(jn:Int).toNat*1,none⟩)) (.int .i64 (d:Int)) f=some (undef,u)/\RP g n m (x.set jn d) (u.app f):=by
 have e:0+(jn:Int).toNat*1=jn:=by omega
 refine⟨afu (by omega) (by omega),?_,?_⟩
 ·rw[e,dp KL JA a.row.row (by rw[lM,a.len];exact b),wO x jn (by rw[a.len];exact b)]
 ·intro d j w;rw[e];refine⟨_,ll ZK a.row.row (by rw[lM,a.len];exact b) rfl rfl,by rw[length_set];exact a.len,λe i=>?_,?_⟩
  ·rcases List.mem_or_eq_of_mem_set i with h|h
   ·exact a.lt e h
   ·rw[h];exact j
  ·have:=a.row.set w jn (.int .i64 (d:Int));rw[show(Value.int .i64 (d:Int))=iv d from rfl,Q7 iv x jn d]at this;rw[show(Value.int .i64 (d:Int))=iv d from rfl,Q7 iv x jn d];exact this
def acQ(a:ae)(c N n:Nat)(x y:List Nat)(b i:Nat)(g:ae):Prop:=i<=n/\b=n-i/\∃L,RP a c N L g/\Num.bv 10 L=Num.bv 10 (x.take i)*Num.bv 10 y
def ag7(b:ae)(d N k:Nat)(x y:List Nat)(i c j:Nat)(cy:Int)(g:ae):Prop:=j<=k+1/\c=k+1-j/\∃(L:List Nat)(a:Nat),cy=(a:Int)/\a<10/\RP b d N L g/\Num.bv 10 L+a*10^(i+j)=Num.bv 10 (x.take i)*Num.bv 10 y+x.getD i 0*Num.bv 10 (y.take j)*10^i
def XY{f:ae}(w:Wf f){a:Option Addr}{n c:Nat}{b:Option Addr}{k d:Nat}{s N C:Nat}{x y:List Nat}(W:Rd f 3 (.slice a n c) (x.map iv))(V:Rd f 3 (.slice b k d) (y.map iv))(I:∀d∈x,d<10)(M:∀d∈y,d<10){i:Nat}(hi:i<n)(hn:n=x.length)(hk:k=y.length)(hN:N=n+k+1)(x0:N<=10000)(l m:List UInt8)(Q:VH)(E:Nat)(x2:E=n-i):=
 Bv l m a n c b k d (some ⟨s,0,none⟩) N C (acQ f s N n x y) E i (ag7 f s N k x y i) Q (by
  intro H j cy;intros;rename_i g D;obtain⟨h1,h2,L,o,rfl,S,e,J⟩:=D;have O:wrap .i64 ((i:Int)+(j:Int))=((i+j:Nat):Int):=by rw[aF (by omega) (by omega)];omega
  have e2:wrap .i64 ((j:Int)+1)=((j+1:Nat):Int):=by rw[aF (by omega) (by omega)];omega
  have X:wrap .i64 ((i:Int)+1)=((i+1:Nat):Int):=by rw[aF (by omega) (by omega)];omega
  rw[O,e2,X];refine aa (λr=>?_) (λr=>?_)
  ·have r:=dT r;have h:RP f s N L (Go.Ab.room g 18):=⟨e.len,e.lt,⟨e.row.row,e.row.new,e.row.ok.room 18⟩⟩
   obtain⟨K,F,g3⟩:=h.get (c:=C) (jn:=i+j) (by omega);obtain⟨R,f1,A⟩:=atI (W.ok h.row.ok) (i:=(i:Int)) (by omega) (by omega);rw[toNat_natCast]at A;refine⟨_,K,_,F,R,f1,_,A,(xq (V.ok h.row.ok) j).mono ?_⟩;rintro _ _ ⟨rfl,rfl⟩;refine⟨_,rfl,⟨F,KM _⟩,⟨A,KM _⟩,?_⟩;have v:=bm (b:=10) (by decide) I i;have t:=bm (b:=10) (by decide) M j;have x1:=bm (b:=10) (by decide) e.lt (i+j);obtain⟨q,z⟩:∃q,q=x.getD i 0*y.getD j 0:=⟨_,rfl⟩
   have x3:q<=81:=by rw[z];exact Nat.le_trans (mul_le_mul (Nat.le_of_lt_succ v) (Nat.le_of_lt_succ t)) (by decide)
   have G:=zP (B:=10) (by decide) (L:=L) (y:=y) (i:=i) (k:=j) (cy:=o) (xi:=x.getD i 0) (P:=Num.bv 10 (x.take i)*Num.bv 10 y) (p:=L.getD (i+j) 0+o+q) e.lt (by rw[e.len];omega) S v t (by rw[z]) J;have Y:wrap .i64 (((x.getD i 0:Nat):Int)*((y.getD j 0:Nat):Int))=(q:Int):=by rw[<-Int.natCast_mul,<-z];exact aF (by omega) (by omega)
   rw[Y];have e5:wrap .i64 (((L.getD (i+j) 0:Nat):Int)+(q:Int))=((L.getD (i+j) 0+q:Nat):Int):=by rw[aF (by omega) (by omega)];omega
   rw[e5];have e6:wrap .i64 (((L.getD (i+j) 0+q:Nat):Int)+(o:Int))=((L.getD (i+j) 0+o+q:Nat):Int):=by rw[aF (by omega) (by omega)];omega
   rw[e6];generalize L.getD (i+j) 0+o+q=U at*;obtain⟨u,Z,T⟩:=g3 (U%10) (mod_lt _ (by decide)) w;refine⟨_,XU,_,K,u,Z,_,Xn (by omega),jV (H-1) (by omega) ⟨by omega,by omega,_,_,rfl,G.2.1,T,G.2.2⟩⟩
  ·have r:=dF r;obtain rfl:j=k+1:=by omega
   refine cz (n-(i+1)) (by omega) ⟨by omega,rfl,L,e,?_⟩;exact HW (by decide) I M (by omega) e.lt (by rw[<-hk];exact J))
theorem TO(a b:List UInt8){h:ae}(w:Wf h):FW SS 122 [strOf a,strOf b] h (λv r=>v=D0 a b/\Ok h r):=by
 refine TN a b h _ ((dQ a h).mono ?_);rintro _ t ⟨rfl,s⟩;obtain rfl:h=t:=s.symm;refine⟨_,rfl,aa (λg=>?_) (λg=>?_)⟩
 ·have g:Num.valid a=false:=by simpa using g
  refine⟨?_,Ok.refl w⟩;unfold D0;rw[if_neg (λe=>by rw[e.1]at g;cases g)];rfl
 have g:Num.valid a=true:=by simpa using g
 refine(dQ b h).mono ?_;rintro _ t ⟨rfl,s⟩;obtain rfl:h=t:=s.symm;refine⟨_,rfl,aa (λk=>?_) (λk=>?_)⟩
 ·have k:Num.valid b=false:=by simpa using k
  refine⟨?_,Ok.refl w⟩;unfold D0;rw[if_neg (λe=>by rw[e.2]at k;cases k)];rfl
 have k:Num.valid b=true:=by simpa using k
 have T:D0 a b=rF (Num.val a*Num.val b):=by unfold D0;rw[if_pos ⟨g,k⟩]
 rw[T];refine(ti g w).mono ?_;rintro _ h2 ⟨I,c,V,rfl,W,q⟩;refine⟨_,_,_,rfl,(ti k q.wf).mono ?_⟩;rintro _ m ⟨O,f,Q,rfl,P,o⟩;refine⟨_,_,_,rfl,?_⟩;have A:=W.rd.ok o;have C:=P.rd;have ok:=q.trans o;have E:=o.wf;have D:c=(gw a).length:=by have:=A.len;rwa[lM]at this
 have z:f=(gw b).length:=by have:=C.len;rwa[lM]at this
 have l1:=qK g;have l2:=qK k;have M:=mu g;have hy:=mu k;have N:=iM a;have J:=iM b;generalize gw a=x at*;generalize gw b=y at*;generalize Num.val a=X at*;generalize Num.val b=Y at*;have H:wrap .i64 (wrap .i64 ((c:Int)+(f:Int))+1)=((c+f+1:Nat):Int):=by
  rw[aF (n:=(c:Int)+(f:Int)) (by omega) (by omega),aF (by omega) (by omega)];omega
 dsimp only;rw[H];refine⟨_,_,_,agR _ (by omega),?_⟩;have U:RP m m.next (c+f+1) (List.replicate (c+f+1) 0) (m.push (.cells ((List.replicate (c+f+1) 0).map iv) 3 1 true)):=by
  refine⟨length_replicate,λd hd=>by rw[(List.mem_replicate.1 hd).2];decide,?_,Nat.le_refl _,(Ok.refl E).push _⟩;rw[ae.bH,if_pos rfl]
 refine Bu a b I c V O f Q (some ⟨m.next,0,none⟩) (c+f+1) (c+f+1) (acQ m m.next (c+f+1) c x y) (λv r=>v=rF (X*Y)/\Ok h r) (λG i=>?_) c (i:=0) ⟨by omega,by omega,_,U,by rw[we,take_zero];simp[Num.bv]⟩;intros;rename_i gg S;obtain⟨f1,R,L,l,u⟩:=S;refine aa (λp=>?_) (λp=>?_)
 ·have p:=dT p;exact XY E A C M hy (i:=i) (by omega) D z rfl (by omega) a b _ G R (f+1) (j:=0) (cy:=0) ⟨by omega,by omega,L,0,rfl,by decide,l,by rw[u,take_zero];simp[Num.bv]⟩
 ·have p:=dF p;obtain rfl:c=i:=by omega
  rw[take_of_length_le (by omega),N,J]at u;have F:=l.row.rd (c+f+1);rw[lM,l.len]at F;refine(vh F l.lt (by rw[l.len];omega) l.row.ok.wf).mono ?_;rintro _ Z ⟨rfl,B⟩;refine⟨_,rfl,?_⟩;rw[u];refine(zC _ Z).mono ?_;rintro _ _ ⟨rfl,rfl⟩;exact BJ (K:=λv=>v=rF (X*Y)/\Ok h _) (A6 _) ⟨rfl,(ok.trans l.row.ok).trans B⟩
end Go.Proofs.YtaaichlgdgjgjaaGreatDoor
end
section
namespace Go.Proofs.YtaaichlgdgjgjaaGreatDoor
open Go Go.Ab Go.Num
variable{h:ae}{g:ae}{v:Value}{w:Value}{s:List UInt8}{t:List UInt8}{n:Nat}{m:Nat}
theorem Bl(l:List UInt8)(h:ae):FW SS 117 [strOf l] h (λv a=>v = .bool (decide (l.length<=400)&&Num.valid l)/\a=h):=by
 refine Kr l h _ (aa (λg=>?_) (λg=>?_))
 ·have g:=dT g;refine(dQ l h).mono ?_;rintro _ c ⟨rfl,b⟩;refine⟨_,rfl,?_,b⟩;rw[decide_eq_true (show l.length<=400 by omega),Bool.true_and]
 ·have g:=dF g;refine⟨?_,rfl⟩;rw[decide_eq_false (show ¬l.length<=400 by omega),Bool.false_and]
def abw(n d:List UInt8)(neg a:Bool):Prop:=(Num.valid n=true/\n.length<=400)/\(Num.valid d=true/\d.length<=400)/\d≠[48]/\¬(n=[48]/\(neg=true\/a=true))/\¬(d=[49]/\a=true)/\(Nat.gcd (Num.val n) (Num.val d)=1\/d=[49])
def uI:Value:= .tuple ⟨[.bool false,strOf [],strOf [],.bool false]⟩
def pk(neg:Bool)(n d:List UInt8):Value:= .tuple ⟨[.bool neg,strOf n,strOf d,.bool true]⟩
def rJ(h:ae)(C:Prop)(G B:Value):VH:=λv a=>Ok h a/\(C->v=G)/\(¬C->v=B)
theorem lQ{C:Prop}(o:Ok h g)(a:¬C):rJ h C v w w g:=⟨o,λc=>absurd c a,λ_=>rfl⟩
theorem Ak{C:Prop}(o:Ok h g)(a:C):rJ h C v w v g:=⟨o,λ_=>rfl,λc=>absurd a c⟩
theorem IY{n:List UInt8}(g:(decide (n.length<=400)&&Num.valid n)=true):Num.valid n=true/\n.length<=400:=by
 rw[Bool.and_eq_true,decide_eq_true_eq]at g;exact⟨g.2,g.1⟩
theorem A1(a:Num.valid s=true)(b:Num.valid t=true):DW s t=two (ag (Nat.gcd (Num.val s) (Num.val t))) 0:=by unfold DW;rw[if_pos ⟨a,b⟩]
theorem tr(n d:List UInt8)(neg:Bool)(m:Int)(a:Bool)(v3:a=decide (m>=0)){h:ae}(w:Wf h){x0 x1 x2 x3 x4 x5 z4 z6 I z0 Y u2 u9 y9 u1 z8 J E B X x6 v2 z3 y0 R z2 y4 N u7 s A r M v0 u6 L D z H x7 y u z7 v1 u4 y1 u3 y3 G t z5 o z9 y5 y7 K z1 F U x8 Q C O S y2 P T x9 u8 y6 y8 Z p q W u0 u5:Value}:
  TT SS ax [1,1,1,1,1,1] [x0,x1,x2,x3,x4,x5,strOf n,strOf d,.bool neg,.int .i64 m,z4,z6,I,z0,Y,u2,u9,y9,u1,z8,J,E,B,X,x6,v2,z3,y0,R,z2,y4,N,u7,s,A,r,M,v0,u6,L,D,z,H,x7,y,u,z7,v1,u4,y1,u3,y3,G,t,z5,o,z9,y5,y7,K,z1,F,U,x8,Q,C,O,S,y2,P,T,x9,u8,y6,y8,Z,p,q,W,u0,u5] h (EE SS ax (rJ h (abw n d neg a) (pk neg n d) uI)):=by
 refine D1 ((Bl n h).mono ?_);rintro _ g0 ⟨rfl,e0⟩;obtain rfl:h=g0:=e0.symm;refine⟨_,rfl,aa (λg=>lQ (Ok.refl w) λc=>?_) (λg=>?_)⟩
 ·obtain⟨⟨c1,c2⟩,_⟩:=c;rw[c1,decide_eq_true c2]at g;cases g
 have hn:=IY (n:=n) (by simpa using g);refine(Bl d h).mono ?_;rintro _ g0 ⟨rfl,e0⟩;obtain rfl:h=g0:=e0.symm;refine⟨_,rfl,aa (λg=>lQ (Ok.refl w) λc=>?_) (λg=>?_)⟩
 ·obtain⟨_,⟨c1,c2⟩,_⟩:=c;rw[c1,decide_eq_true c2]at g;cases g
 have hd:=IY (n:=d) (by simpa using g);have l:d≠[48]->¬(n=[48]/\(neg=true\/a=true))->¬(d=[49]/\a=true)->∀{x0 x1 x2 x3 x4 x5 z4 z6 I z0 Y u2 u9 y9 u1 z8 J E B X x6 v2 z3 y0 R z2 y4 N u7 s A r M v0 u6 L D z H x7 y u z7 v1 u4 y1 u3 y3 G t z5 o z9 y5 y7 K z1 F U x8 Q C O S y2 P T x9 u8 y6 y8 Z p q W u0 u5:Value},
   TT SS ax [1,1,1,1,1,1,1] [x0,x1,x2,x3,x4,x5,strOf n,strOf d,.bool neg,.int .i64 m,z4,z6,I,z0,Y,u2,u9,y9,u1,z8,J,E,B,X,x6,v2,z3,y0,R,z2,y4,N,u7,s,A,r,M,v0,u6,L,D,z,H,x7,y,u,z7,v1,u4,y1,u3,y3,G,t,z5,o,z9,y5,y7,K,z1,F,U,x8,Q,C,O,S,y2,P,T,x9,u8,y6,y8,Z,p,q,W,u0,u5] h (EE SS ax (rJ h (abw n d neg a) (pk neg n d) uI)):=by
  intro c3 c4 c5;intros;refine D2 ((IL n d h w).mono ?_);rintro _ h1 ⟨rfl,o1⟩;rw[A1 hn.1 hd.1];refine⟨_,_,rfl,?_⟩;have e1:ag (Nat.gcd (Num.val n) (Num.val d))=[49]↔Nat.gcd (Num.val n) (Num.val d)=1:=eN;refine aa (λb=>aa (λi=>lQ o1 λc=>?_) (λi=>Ak o1 ?_)) (λb=>Ak o1 ?_)
  ·have b:¬ag (Nat.gcd (Num.val n) (Num.val d))=[49]:=by simpa using b
   have i:¬d=[49]:=by simpa using i
   rcases c.2.2.2.2.2 with c|c
   ·exact b (e1.2 c)
   ·exact i c
  ·have i:d=[49]:=by simpa using i
   exact⟨hn,hd,c3,c4,c5,.inr i⟩
  ·have b:ag (Nat.gcd (Num.val n) (Num.val d))=[49]:=by simpa using b
   exact⟨hn,hd,c3,c4,c5,.inl (e1.1 b)⟩
 refine aa (λb=>lQ (Ok.refl w) λc=>?_) (λb=>?_)
 ·exact c.2.2.1 (by simpa using b)
 have b:d≠[48]:=by simpa using b
 have v4:∀{x:Bool},(x=true->m>=0)->True:=λ_=>trivial;have V:decide (m>=0)=false->¬a=true:=λe f=>by rw[v3]at f;rw[f]at e;cases e
 have v:decide (m>=0)=true->a=true:=λe=>by rw[v3,e]
 refine aa (λi=>?_) (λi=>?_)
 ·have i:n=[48]:=by simpa using i
  refine aa (λg3=>lQ (Ok.refl w) λc=>c.2.2.2.1 ⟨i,.inl g3⟩) (λg3=>?_);have g3:¬neg=true:=by rw[g3];simp
  refine aa (λg4=>lQ (Ok.refl w) λc=>c.2.2.2.1 ⟨i,.inr (v g4)⟩) (λg4=>?_);have f4:¬(n=[48]/\(neg=true\/a=true)):=λc=>c.2.elim g3 (V g4);refine aa (λk=>?_) (λk=>?_)
  ·refine aa (λj=>lQ (Ok.refl w) λc=>c.2.2.2.2.1 ⟨by simpa using k,v j⟩) (λj=>?_);exact l b f4 (λc=>V j c.2)
  ·exact l b f4 (λc=>(by
    have:¬d=[49]:=by simpa using k
    exact this c.1))
 ·have f4:¬(n=[48]/\(neg=true\/a=true)):=λc=>by
   have:¬n=[48]:=by simpa using i
   exact this c.1
  refine aa (λk=>?_) (λk=>?_)
  ·refine aa (λj=>lQ (Ok.refl w) λc=>c.2.2.2.2.1 ⟨by simpa using k,v j⟩) (λj=>?_);exact l b f4 (λc=>V j c.2)
  ·exact l b f4 (λc=>(by
    have:¬d=[49]:=by simpa using k
    exact this c.1))
def mi(l:List UInt8):Value:=if aA l=true then pk (Num.isNeg l) (Num.numOf l) (ak l)else uI
theorem Kh(q:rJ h (abw (Num.numOf s) (ak s) (Num.isNeg s) (bE s)) (pk (Num.isNeg s) (Num.numOf s) (ak s)) uI v g):v=mi s/\Ok h g:=by
 obtain⟨o,d,b⟩:=q;refine⟨?_,o⟩;unfold mi;by_cases a:aA s=true
 ·rw[if_pos a];exact d (Dg.1 (ba.1 a))
 ·rw[if_neg a];exact b λc=>a (ba.2 (Dg.2 c))
theorem ff(l:List UInt8)(z:l.length<=1000000000){h:ae}(w:Wf h):FW SS 94 [strOf l] h (λv I=>v=mi l/\Ok h I):=by
 refine FW.mono (Q:=rJ h (abw (Num.numOf l) (ak l) (Num.isNeg l) (bE l)) (pk (Num.isNeg l) (Num.numOf l) (ak l)) uI) ?_ (λ_ _ q=>Kh q);have A:∀m:List UInt8,m.length<=1000000000->∀(K:VH),(∀(b:Int),b=Hy m->(if b>=0 then ∃i:Nat,b=(i:Int)/\wrap .i64 (b+1)=((i+1:Nat):Int)/\i=dg 47 m/\i<m.length else ¬dg 47 m<m.length)  ->K (.int .i64 b) h)->FW SS 116 [strOf m,.int .u8 47] h K:=by
  intro m D K H;refine(Ko m D h).mono ?_;rintro _ L ⟨rfl,J⟩;obtain rfl:h=L:=J.symm;refine H _ rfl ?_;unfold Hy;by_cases g:dg 47 m<m.length
  ·rw[if_pos g,if_pos (by omega)];exact⟨_,rfl,by rw[aF (by omega) (by omega)];omega,rfl,g⟩
  ·rw[if_neg g,if_neg (by omega)];exact g
 have t:∀(m:List UInt8),m=bw l->m.length<=1000000000->∀(b:Int),(if b>=0 then ∃i:Nat,b=(i:Int)/\wrap .i64 (b+1)=((i+1:Nat):Int)/\i=dg 47 m/\i<m.length else ¬dg 47 m<m.length)->
   (decide (b>=0)=true->bE l=true/\cg SS.P 9 (strOf m) (some (.int .i64 (wrap .i64 (b+1)))) none none h=some (strOf (ak l))/\cg SS.P 9 (strOf m) none (some (.int .i64 b)) none h=some (strOf (Num.numOf l)))/\
   (decide (b>=0)=false->bE l=false/\m=Num.numOf l/\ak l=[49]):=by
  intro m d D b r;refine⟨λg=>?_,λg=>?_⟩
  ·rw[if_pos (dT g)]at r;obtain⟨i,rfl,G,rfl,B⟩:=r;have s:bE l=true:=by unfold bE;rw[<-d];exact decide_eq_true B
   refine⟨s,?_,?_⟩
   ·rw[G,yC m h B];unfold ak;rw[if_pos s,d]
   ·rw[KF m h (le_of_lt B)];unfold Num.numOf;rw[d]
  ·rw[if_neg (dF g)]at r;have s:bE l=false:=by unfold bE;rw[<-d];exact decide_eq_false r
   refine⟨s,?_,?_⟩
   ·unfold Num.numOf;rw[<-d,take_of_length_le (by omega)]
   ·unfold ak;rw[s];rfl
 have u:∀(m:List UInt8),m=bw l->m.length<=1000000000:=λm d=>by
  rw[d];unfold bw;split
  ·rw[length_drop];omega
  ·exact z
 refine Kq l h _ (aa (λg=>?_) (λg=>?_))
 ·have g:=dT g
  cases l with
  |nil=>simp at g
  | cons c f=>
   have e:bZ SS.P 9 (strOf (c::f)) (.int .i64 0)=some (.int .u8 ((c.toNat:Nat):Int)):=by
    have:=qL NX (c::f) .i64 (i:=0) (by omega) g;simpa using this
   refine⟨_,e,aa (λp=>?_) (λp=>?_)⟩
   ·have p:c=45:=by
     have:((c.toNat:Nat):Int)=45:=by simpa using p
     rw[<-UInt8.toNat_inj];show c.toNat=45;omega
    have o:Num.isNeg (c::f)=true:=by unfold Num.isNeg;rw[p];rfl
    have d:f=bw (c::f):=by unfold bw;rw[if_pos o];rfl
    have E:cg SS.P 9 (strOf (c::f)) (some (.int .i64 1)) none none h=some (strOf f):=yC (c::f) h (a:=1) (by simp);refine⟨_,E,A f (u _ d) _ (λb F r=>⟨b,rfl,?_⟩)⟩;obtain⟨x,y⟩:=t f d (u _ d) b r;have C:(((c.toNat:Nat):Int)==45)=true:=p▸rfl;rw[o,C];refine aa (λg=>?_) (λg=>?_)
    ·obtain⟨n,k,j⟩:=x g;exact⟨_,k,_,j,tr _ _ true b _ (by rw[n,g]) w⟩
    ·obtain⟨n,k,j⟩:=y g;rw[j,<-k];exact tr _ _ true b _ (by rw[n,g]) w
   ·have p:¬c=45:=λe=>by rw[e]at p;cases p
    have o:Num.isNeg (c::f)=false:=by
     unfold Num.isNeg;simp[p]
    have d:c::f=bw (c::f):=by unfold bw;rw[o];rfl
    have C:(((c.toNat:Nat):Int)==45)=false:=by
     have:((c.toNat:Nat):Int)≠45:=λe=>p (by rw[<-UInt8.toNat_inj];show c.toNat=45;omega);simpa using this
    refine A (c::f) z _ (λb F r=>⟨b,rfl,?_⟩);obtain⟨x,y⟩:=t _ d z b r;rw[o,C];refine aa (λg=>?_) (λg=>?_)
    ·obtain⟨n,k,j⟩:=x g;exact⟨_,k,_,j,tr _ _ false b _ (by rw[n,g]) w⟩
    ·obtain⟨n,k,j⟩:=y g;rw[j,<-k];exact tr _ _ false b _ (by rw[n,g]) w
 ·have g:=dF g;obtain rfl:l=[]:=List.eq_nil_of_length_eq_zero (by omega);have d:[]=bw []:=rfl;refine A [] (by simp) _ (λb F r=>⟨b,rfl,?_⟩);obtain⟨x,y⟩:=t _ d (by simp) b r;refine aa (λg=>?_) (λg=>?_)
  ·obtain⟨n,k,j⟩:=x g;exact⟨_,k,_,j,tr _ _ false b _ (by rw[n,g]) w⟩
  ·obtain⟨n,k,j⟩:=y g;rw[j,<-k];exact tr _ _ false b _ (by rw[n,g]) w
theorem IC{l:List UInt8}{K:Value->Prop}(a:K (mi l)):∃(c:Bool)(d e:List UInt8)(b:Bool),mi l=(.tuple ⟨[.bool c,strOf d,strOf e,.bool b]⟩)/\K (.tuple ⟨[.bool c,strOf d,strOf e,.bool b]⟩)/\b=aA l:=by
 unfold mi at*
 cases g:aA l with
 |true=>rw[g]at a;exact⟨_,_,_,_,rfl,a,rfl⟩
 |false=>rw[g]at a;exact⟨_,_,_,_,rfl,a,rfl⟩
theorem Bn(l:List UInt8)(d:l.length<=1000000000){h:ae}(w:Wf h):FW SS 71 [strOf l] h (λv f=>v = .bool (aA l)/\Ok h f):=by
 refine Kt l h _ ((ff l d w).mono ?_);rintro _ k ⟨rfl,a⟩;obtain⟨b,i,j,c,e,_,g⟩:=IC (l:=l) (K:=λ_=>True) trivial;exact⟨b,i,j,c,e,by rw[g],a⟩
theorem qQ(h:n<10^800):Num.valid (ag n)=true:=eM.2 (lt_of_lt_of_le h (lG (k:=800) (m:=1000) (by decide)))
theorem QL(h:m<10^1000):rF m=two (ag m) 0:=by
 unfold rF;rw[if_neg];have:=(dB (n:=m) (k:=1000) (by decide)).2 h;omega
theorem Lv(b:n<10^800)(a:m<10^800):DT (ag n) (ag m)=two (ag (n+m)) 0:=by
 unfold DT;rw[if_pos ⟨qQ b,qQ a⟩,bI,bI];exact QL (lt_of_lt_of_le (Nat.add_lt_add b a) HX)
theorem BG(b:n<10^800)(a:m<10^800)(h:m<=n):D6 (ag n) (ag m)=two (ag (n-m)) 0:=by
 unfold D6;rw[if_pos ⟨qQ b,qQ a⟩,bI,bI,if_neg (Nat.not_lt.2 h)]
theorem LP(b:n<10^800)(a:m<10^800):DV (ag n) (ag m) = .int .i64 (fm n m):=by
 unfold DV;rw[if_pos ⟨qQ b,qQ a⟩,bI,bI]
theorem dG{a b:List UInt8}(d:Num.valid a=true)(c:Num.valid b=true)(e:a.length<=400)(f:b.length<=400):D0 a b=two (ag (Num.val a*Num.val b)) 0/\Num.val a*Num.val b<10^800:=by
 have h:=He (tT (k:=400) d (by decide) e) (tT (k:=400) c (by decide) f);refine⟨?_,h⟩;unfold D0;rw[if_pos ⟨d,c⟩];exact QL (lt_of_lt_of_le h (lG (k:=800) (m:=1000) (by decide)))
def Dy(s:Bool)(A:Nat)(t:Bool)(B:Nat):Value:= .tuple ⟨[.bool (dC s A t B).1,strOf (ag (dC s A t B).2)]⟩
theorem AS:fm n m<0↔n<m:=zK
theorem Gt(s:Bool)(A:Nat)(t:Bool)(B:Nat)(f:A<10^800)(e:B<10^800){h:ae}(w:Wf h):FW SS 95 [.bool s,strOf (ag A),.bool t,strOf (ag B)] h (λv l=>v=Dy s A t B/\Ok h l):=by
 refine Pw s _ t _ h _ (aa (λg=>?_) (λg=>?_))
 ·have g:s=t:=by simpa using g
  refine(TI _ _ w).mono ?_;rintro _ j ⟨rfl,a⟩;rw[Lv f e];refine⟨_,_,rfl,?_,a⟩;unfold Dy dC;rw[if_pos g]
 ·have g:¬s=t:=by simpa using g
  refine(TK _ _ w).mono ?_;rintro _ j ⟨rfl,a⟩;rw[LP f e];refine⟨_,rfl,aa (λd=>?_) (λd=>?_)⟩
  ·have d:=dT d;have b:¬A<B:=λc=>by have:=AS.2 c;omega
   refine(IM _ _ a.wf).mono ?_;rintro _ k ⟨rfl,i⟩;rw[BG f e (Nat.not_lt.1 b)];refine⟨_,_,rfl,?_,a.trans i⟩;unfold Dy dC;rw[if_neg g,if_neg b]
  ·have d:=dF d;have b:A<B:=AS.1 (by omega);refine(IM _ _ a.wf).mono ?_;rintro _ k ⟨rfl,i⟩;rw[BG e f (le_of_lt b)];refine⟨_,_,rfl,?_,a.trans i⟩;unfold Dy dC;rw[if_neg g,if_pos b]
theorem gF{a b:List UInt8}(f:Num.valid a=true)(c:Num.valid b=true)(g:a.length<=400)(i:b.length<=400){h:ae}(w:Wf h):FW SS 96 [strOf a,strOf b] h (λv e=>v=strOf (ag (Num.val a*Num.val b))/\Ok h e):=by
 refine Ks a b h _ ((TO a b w).mono ?_);rintro _ j ⟨rfl,d⟩;rw[(dG f c g i).1];exact⟨_,_,rfl,rfl,d⟩
theorem Gs(l m:List UInt8)(u:l.length<=1000000000)(p:m.length<=1000000000){h:ae}(w:Wf h):FW SS 72 [strOf l,strOf m] h (λv A=>v = .int .i64 (de l m)/\Ok h A):=by
 refine Pv l m h _ ((ff l u w).mono ?_);rintro _ E ⟨rfl,i⟩
 cases g:aA l with
 |false=>
  have e:mi l=uI:=by unfold mi;rw[g];rfl
  refine⟨_,_,_,_,e,(ff m p i.wf).mono ?_⟩;rintro _ y ⟨rfl,j⟩;obtain⟨s,B,C,t,k,_,G⟩:=IC (l:=m) (K:=λ_=>True) trivial;refine⟨s,B,C,t,k,?_,i.trans j⟩;unfold de;rw[if_neg (λc=>by rw[c.1]at g;cases g)]
 | true=>
  have e:mi l=pk (Num.isNeg l) (Num.numOf l) (ak l):=by unfold mi;rw[g];rfl
  refine⟨_,_,_,_,e,(ff m p i.wf).mono ?_⟩;rintro _ y ⟨rfl,j⟩
  cases f:aA m with
  |false=>
   have k:mi m=uI:=by unfold mi;rw[f];rfl
   refine⟨_,_,_,_,k,?_,i.trans j⟩;unfold de;rw[if_neg (λc=>by rw[c.2]at f;cases f)]
  | true=>
   have k:mi m=pk (Num.isNeg m) (Num.numOf m) (ak m):=by unfold mi;rw[f];rfl
   have a:=ba.1 g;have b:=ba.1 f;refine⟨_,_,_,_,k,(gF a.num b.den a.ln b.ld j.wf).mono ?_⟩;rintro _ D ⟨rfl,r⟩;refine⟨_,rfl,(gF b.num a.den b.ln a.ld r.wf).mono ?_⟩;rintro _ F ⟨rfl,q⟩;refine⟨_,rfl,(Gt _ _ _ _ (dG a.num b.den a.ln b.ld).2 (dG b.num a.den b.ln a.ld).2 q.wf).mono ?_⟩;rintro _ H ⟨rfl,x⟩;have o:=(((i.trans j).trans r).trans q).trans x;refine⟨_,_,rfl,?_⟩;unfold de;rw[if_pos ⟨g,f⟩];generalize dC _ _ _ _=z;refine aa (λd=>⟨?_,o⟩) (λd=>?_)
   ·have d:ag z.2=[48]:=by simpa using d
    rw[if_pos (bU.1 d)]
   ·have d:¬ag z.2=[48]:=by simpa using d
    rw[if_neg (λc=>d (bU.2 c))];refine aa (λn=>⟨?_,o⟩) (λn=>⟨?_,o⟩)
    ·rw[if_pos n]
    ·rw[if_neg (by rw[n];simp)]
end Go.Proofs.YtaaichlgdgjgjaaGreatDoor
end
section
set_option linter.defProp false
namespace Go.Proofs.YtaaichlgdgjgjaaGreatDoor
open Go Go.Ab Go.Num
variable{h:ae}{n:Nat}{m:Nat}{x:List Nat}{g:ae}
structure MR(hb:ae)(kt N:Nat)(L:List Nat)(g:ae):Prop where
 len:L.length=N
 lt:∀d∈L,d<BB
 row:g.get kt=some (.cells (dj ((List.replicate N 0).map uv) 0 L) 150 1 true)
 ok:Ok hb g
theorem MR.room(a:MR h n m x g)(r:Nat):MR h n m x (Go.Ab.room g r):=⟨a.len,a.lt,a.row,a.ok.room r⟩
theorem MR.get{c:Nat}{b:ae}(a:MR g n m x b){j:Int}{jn:Nat}(o:j=(jn:Int))(q:jn<m):∃p:Addr,aD SS.P 177 (.slice (some ⟨n,0,none⟩) m c) (.int .i64 j)=some (.pointer (some p))/\aj SS.P 150 b (.pointer (some p))=some (.int .u64 (x.getD jn 0:Nat))/\
  ∀d:Nat,d<BB->n<b.next->g.next<=n->Wf g->∃u:eu,ah SS.P 150 (.pointer (some p)) (.int .u64 (d:Int)) b=some (undef,u)/\MR g n m (x.set jn d) (u.app b):=by
 subst o;have f:(0:Nat)+x.length<=((List.replicate m 0).map uv).length:=by rw[lM,length_replicate,a.len];omega
 refine⟨⟨n,0+(jn:Int).toNat,none⟩,A3 (by omega) (by omega),?_,?_⟩
 ·rw[toNat_natCast];exact F1 a.row f (by rw[a.len];omega)
 ·intro d r l i w;rw[toNat_natCast];refine⟨_,GH a.row f (by rw[a.len];omega) d,by rw[length_set];exact a.len,λe k=>?_,?_,a.ok.set _ i l w⟩
  ·rcases List.mem_or_eq_of_mem_set k with h|h
   ·exact a.lt e h
   omega
  ·show(b.set n _).get n=_;rw[ae.ay,if_pos rfl]
def WS(a:ae)(c N n:Nat)(x y:List Nat)(b i:Nat)(g:ae):Prop:=i<=n/\b=n-i/\∃L,MR a c N L g/\Num.bv BB L=Num.bv BB (x.take i)*Num.bv BB y
def acN(b:ae)(d N k:Nat)(x y:List Nat)(i c j:Nat)(cy:Int)(g:ae):Prop:=j<=k+1/\c=k+1-j/\∃(L:List Nat)(a:Nat),cy=(a:Int)/\a<BB/\MR b d N L g/\Num.bv BB L+a*BB^(i+j)=Num.bv BB (x.take i)*Num.bv BB y+x.getD i 0*Num.bv BB (y.take j)*BB^i
theorem OZ(w:Wf h){c N k:Nat}{x y:List Nat}(z:h.next<=c)(t:∀d∈x,d<BB)(v:∀d∈y,d<BB){i l j:Nat}{f:Nat}{L:List Nat}{g:ae}(C:j<k+1)(A:i+j<N)(B:l=k+1-j)(n:f<BB)(m:MR h c N L g)(r:Num.bv BB L+f*BB^(i+j)=Num.bv BB (x.take i)*Num.bv BB y+x.getD i 0*Num.bv BB (y.take j)*BB^i){q:Nat}(p:q=x.getD i 0*y.getD j 0):
  q<=999999998000000001/\L.getD (i+j) 0<BB/\(∀o,MR h c N (L.set (i+j) ((L.getD (i+j) 0+f+q)%BB)) o->l-1<l/\acN h c N k x y i (l-1) (j+1) (((L.getD (i+j) 0+f+q)/BB:Nat):Int) o)/\(L.getD (i+j) 0+f+q)%BB<BB/\c<g.next:=by
 have e:=bm (b:=BB) (by decide) t i;have a:=bm (b:=BB) (by decide) v j;have s:=bm (b:=BB) (by decide) m.lt (i+j);refine⟨?_,s,λo u=>⟨by omega,by omega,by omega,_,_,rfl,?_,u,?_⟩,mod_lt _ (by decide),m.ok.wf _ _ m.row⟩
 ·rw[p];exact Nat.le_trans (mul_le_mul (Nat.le_of_lt_succ e) (Nat.le_of_lt_succ a)) (by decide)
 ·exact(zP iI m.lt (by rw[m.len];omega) n e a (by rw[p]) r).2.1
 ·exact(zP iI m.lt (by rw[m.len];omega) n e a (by rw[p]) r).2.2
def SP{f:ae}(w:Wf f){a:Option Addr}{n c:Nat}{b:Option Addr}{k d:Nat}{t N s:Nat}{x y:List Nat}(ra:Rd f 150 (.slice a n c) (x.map uv))(rb:Rd f 150 (.slice b k d) (y.map uv))(P:∀d∈x,d<BB)(V:∀d∈y,d<BB)(h:f.next<=t){i:Nat}(hi:i<n)(hn:n=x.length)(hk:k=y.length)(hN:N=n+k+1)(x0:N<=1000)(l m:List UInt8)(Q:VH)(K:Nat)(x2:K=n-i):=
 Bc l m a n c b k d (some ⟨t,0,none⟩) N s (n:Int) (WS f t N n x y) K i ((k:Int)+1) (acN f t N k x y i) Q (by
  intro z j cy;intros;rename_i g J;obtain⟨h1,h2,L,v,rfl,h3,e,S⟩:=J;have x1:BB=1000000000:=rfl;have X:wrap .i64 ((i:Int)+(j:Int))=((i+j:Nat):Int):=by rw[aF (by omega) (by omega)];omega
  have e2:wrap .i64 ((j:Int)+1)=((j+1:Nat):Int):=by rw[aF (by omega) (by omega)];omega
  have e3:wrap .i64 ((i:Int)+1)=((i+1:Nat):Int):=by rw[aF (by omega) (by omega)];omega
  rw[X,e2,e3];refine aa (λr=>?_) (λr=>?_)
  ·have r:=dT r;obtain⟨q,D⟩:∃q,q=x.getD i 0*y.getD j 0:=⟨_,rfl⟩
   obtain⟨s1,s2,A,C,M⟩:=OZ w h P V (by omega) (by omega) h2 h3 e S D;obtain⟨p,g1,Y,_⟩:=e.get (c:=s) (j:=((i+j:Nat):Int)) rfl (by omega);have R:wrap .u64 (((L.getD (i+j) 0:Nat):Int)+(v:Int))=((L.getD (i+j) 0+v:Nat):Int):=by rw[iL (by omega) (by omega)];omega
   refine⟨p,g1,_,Y,aa (λo=>?_) (λo=>?_)⟩
   ·have o:=dT o;obtain⟨p1,f1,T⟩:=H7 (ra.ok (e.room 12).ok) (i:=(i:Int)) (by omega) (by omega);obtain⟨Z,f3,U⟩:=H7 (rb.ok (e.room 12).ok) (i:=(j:Int)) (by omega) (by omega);rw[toNat_natCast]at T U;have e5:wrap .u64 (((x.getD i 0:Nat):Int)*((y.getD j 0:Nat):Int))=(q:Int):=by rw[<-Int.natCast_mul,<-D];exact iL (by omega) (by omega)
    have e6:wrap .u64 (((L.getD (i+j) 0+v:Nat):Int)+(q:Int))=((L.getD (i+j) 0+v+q:Nat):Int):=by rw[iL (by omega) (by omega)];omega
    rw[R];refine⟨p1,f1,_,T,Z,f3,_,U,?_⟩;dsimp only;rw[e5,e6];obtain⟨H,I,_,F⟩:=(e.room 12).get (c:=s) (j:=((i+j:Nat):Int)) rfl (by omega);obtain⟨u,E,B⟩:=F _ C (lt_of_lt_of_le M (Nat.le_add_right _ _)) h w;obtain⟨G,W⟩:=A _ B;refine⟨_,ke (b:=BB) (by omega) (by decide),_,ss (b:=BB) (by omega) (by omega) (by decide),H,I,u,E,jV (z-1) G ?_⟩
    grind
   ·have o:=dF o;have y0:y.getD j 0=0:=by rw[gD,getElem?_eq_none (by omega)];rfl
    have O:q=0:=by rw[D,y0,Nat.mul_zero]
    rw[R];obtain⟨H,I,_,F⟩:=e.get (c:=s) (j:=((i+j:Nat):Int)) rfl (by omega);rw[O,Nat.add_zero]at A C;obtain⟨u,E,B⟩:=F _ C M h w;obtain⟨G,W⟩:=A _ B;refine⟨_,ke (b:=BB) (by omega) (by decide),_,ss (b:=BB) (by omega) (by omega) (by decide),H,I,u,E,jV (z-1) G ?_⟩
    grind
  ·have r:=dF r;obtain rfl:j=k+1:=by omega
   refine cz (n-(i+1)) (by omega) ⟨by omega,rfl,L,e,?_⟩;exact HW iI P V (by omega) e.lt (by rw[<-hk];exact S))
theorem YY(d:(bj BB n).length<=112)(f:(bj BB m).length<=112):(bj BB (n*m)).length<=10000:=by
 have a:=gr (dM iI n);have b:=gr (dM iI m);rw[cI iI]at a b;have c:=lt_of_lt_of_le a (pow_le_pow_right (show 0<BB by decide) d);have e:=lt_of_lt_of_le b (pow_le_pow_right (show 0<BB by decide) f);refine Nat.le_trans (oa iI (k:=224) ?_) (by omega);rw[show 224=112+112 from rfl,Nat.pow_add];exact Nat.mul_lt_mul'' c e
theorem oY(a b:List UInt8){h:ae}(t:qJ h)(w:Wf h):FW SS 143 [strOf a,strOf b] h (λv A=>v=D0 a b/\Ok h A):=by
 refine S0 a b h _ ((eo a h).mono ?_);rintro _ D ⟨rfl,B⟩;obtain rfl:h=D:=B.symm;refine⟨_,rfl,aa (λg=>?_) (λg=>?_)⟩
 ·have g:Num.valid a=false:=by simpa using g
  refine⟨?_,Ok.refl w⟩;unfold D0;rw[if_neg (λe=>by grind)];rfl
 have g:Num.valid a=true:=by simpa using g
 refine(eo b h).mono ?_;rintro _ D ⟨rfl,B⟩;obtain rfl:h=D:=B.symm;refine⟨_,rfl,aa (λl=>?_) (λl=>?_)⟩
 ·have l:Num.valid b=false:=by simpa using l
  refine⟨?_,Ok.refl w⟩;unfold D0;rw[if_neg (λe=>by grind)];rfl
 have l:Num.valid b=true:=by simpa using l
 have O:=abV g l;have lx:=O.lx;have ly:=O.ly;refine(mq g w).mono ?_;rintro _ h1 ⟨R,f,N,rfl,T,u⟩;refine⟨_,_,_,rfl,(mq l u.wf).mono ?_⟩;rintro _ m ⟨F,k,P,rfl,o2,z⟩;refine⟨_,_,_,rfl,?_⟩;have hS:D0 a b=rF (Num.val a*Num.val b):=by unfold D0;rw[if_pos ⟨g,l⟩]
 rw[hS];have q:=T.rd.ok z;have r:=o2.rd;have s:=u.trans z;have M:f=(bj BB (Num.val a)).length:=by have:=q.len;rwa[lM]at this
 have E:k=(bj BB (Num.val b)).length:=by have:=r.len;rwa[lM]at this
 have hX:=dM iI (Num.val a);have Z:=dM iI (Num.val b);have bX:=cI iI (Num.val a);have W:=cI iI (Num.val b);have q:Rd m 150 (.slice R f N) ((bj BB (Num.val a)).map uv):=q;have r:Rd m 150 (.slice F k P) ((bj BB (Num.val b)).map uv):=r;have I:(bj BB (Num.val a*Num.val b)).length<=10000:=YY lx ly;generalize Num.val a=X at*;generalize Num.val b=Y at*;generalize bj BB X=x at*;generalize bj BB Y=y at*;have V:wrap .i64 (wrap .i64 ((f:Int)+(k:Int))+1)=((f+k+1:Nat):Int):=by
  rw[aF (n:=(f:Int)+(k:Int)) (by omega) (by omega),aF (by omega) (by omega)];omega
 dsimp only;rw[V];refine⟨_,_,_,acM _ (by omega),?_⟩;have H:=(Ok.refl s.wf).push (.cells ((List.replicate (f+k+1) 0).map uv) 150 1 true);have m0:MR m m.next (f+k+1) (List.replicate (f+k+1) 0) (m.push (.cells ((List.replicate (f+k+1) 0).map uv) 150 1 true)):=by
  refine⟨length_replicate,λd hd=>by grind,?_,H⟩;rw[ae.bH,if_pos rfl,pN (by simp)]
 refine Bb a b R f N F k P (some ⟨m.next,0,none⟩) (f+k+1) (f+k+1) (f:Int) (WS m m.next (f+k+1) f x y) (λv A=>v=rF (X*Y)/\Ok h A) (λU i=>?_) f (i:=0) ⟨by omega,by omega,_,m0,by grind[we,Num.bv]⟩;intros;rename_i g hi;obtain⟨f1,f2,L,o,S⟩:=hi;refine aa (λp=>?_) (λp=>?_)
 ·have p:=dT p;have e2:wrap .i64 ((k:Int)+1)=(k:Int)+1:=aF (by omega) (by omega);rw[e2];exact SP s.wf q r hX Z (Nat.le_refl _) (i:=i) (by omega) M E rfl (by omega) a b _ U f2 (k+1) (j:=0) (cy:=0) ⟨by omega,by omega,L,0,rfl,by decide,o,by grind[Num.bv]⟩
 ·have p:=dF p;obtain rfl:f=i:=by omega
  rw[take_of_length_le (by omega),bX,W]at S;have C:f+k+1<=bY (f+k+1):=by unfold bY;rw[if_neg (by grind[dK])];omega
  have J:=Ex o.row (n:=f+k+1) (c:=f+k+1) o.len.symm C;refine(so J (by rw[o.len];omega)).mono ?_;rintro _ h6 ⟨rfl,e6⟩;subst e6;have G:=CO J o.lt;rw[S]at G;refine⟨_,_,_,rfl,(zu G I (t.ok (s.trans o.ok)) o.ok.wf).mono ?_⟩;rintro _ h7 ⟨rfl,Q⟩;exact BJ (K:=λv=>v=rF (X*Y)/\Ok h h7) (A6 _) ⟨rfl,(s.trans o.ok).trans Q⟩
end Go.Proofs.YtaaichlgdgjgjaaGreatDoor
end
section
namespace Go.Proofs.YtaaichlgdgjgjaaGreatDoor
open Go Go.Ab Go.Num
variable{h:ae}{k:Nat}{b:Bool}{s:List UInt8}{t:List UInt8}{g:ae}{v:Value}
def tG:eB:= .cells [.bool false,strOf [],strOf []] 155 0 true
theorem zm:av SS.P 155=some (tG,np):=by kernel_rfl
theorem acz(neg:Bool)(n d:List UInt8):bu SS.P 155 [(0,(.bool neg)),(1,(strOf n)),(2,(strOf d))]=some (.agg ⟨[.bool neg,strOf n,strOf d]⟩):=by kernel_rfl
theorem sS:bu SS.P 155 []=some (.agg ⟨[.bool false,strOf [],strOf []]⟩):=by kernel_rfl
theorem YK:aI SS.P 155=some 3:=by kernel_rfl
theorem aey:Go.Ab.isAgg SS.P 155=true:=by kernel_rfl
noncomputable def aef:TypeDesc:=(SS.P.underlying 155).getD .bool
theorem afY:SS.P.underlying 155=some aef:=by kernel_rfl
theorem Yy{cs0:List Value}(a:cs0.length=3)(e:h.get k=some (.cells cs0 155 0 true))(b:Bool)(n d:List UInt8):ah SS.P 155 (.pointer (some ⟨k,0,none⟩)) (.agg ⟨[.bool b,strOf n,strOf d]⟩) h=some (undef,.set k (.cells [.bool b,strOf n,strOf d] 155 0 true)):=by
 unfold ah;dsimp only;rw[if_pos (show aI SS.P 155=some ((Value.agg ⟨[.bool b,strOf n,strOf d]⟩).cells).size from YK)];unfold storeAt;rw[e];dsimp only;have c:([.bool b,strOf n,strOf d]:List Value).all ey=true:=rfl;rw[show(Value.agg ⟨[.bool b,strOf n,strOf d]⟩).cells.toList=[.bool b,strOf n,strOf d]from rfl,if_pos ⟨by simp[a],c⟩,List.drop_eq_nil_of_le (by simp[a])];rfl
theorem Mp(a:h.get k=some (.cells [.bool b,strOf s,strOf t] 155 0 true)):aj SS.P 155 h (.pointer (some ⟨k,0,none⟩))=some (.agg ⟨[.bool b,strOf s,strOf t]⟩):=sj afY aey YK a (by simp)
theorem gn(l:List UInt8)(h:ae):FW SS 142 [strOf l,.int .i64 0] h (λv a=>v=strOf l/\a=h):=
 Pq l 0 h _ (aa (λg=>by cases g) (λ_=>⟨rfl,rfl⟩))
theorem Gn(s:Bool)(A:Nat)(t:Bool)(B:Nat)(i:A<10^800)(e:B<10^800){h:ae}(f:qJ h)(w:Wf h):FW SS 141 [.bool s,strOf (ag A),.bool t,strOf (ag B)] h (λv m=>v=Dy s A t B/\Ok h m):=by
 refine Pr s _ t _ h _ (aa (λg=>?_) (λg=>?_))
 ·have g:s=t:=by simpa using g
  refine(SU _ _ f w).mono ?_;rintro _ k ⟨rfl,a⟩;rw[Lv i e];refine⟨_,_,rfl,(gn _ _).mono ?_⟩;rintro _ _ ⟨rfl,rfl⟩;refine⟨_,rfl,?_,a⟩;unfold Dy dC;rw[if_pos g]
 ·have g:¬s=t:=by simpa using g
  refine(SW _ _ f w).mono ?_;rintro _ k ⟨rfl,a⟩;rw[LP i e];refine⟨_,rfl,aa (λd=>?_) (λd=>?_)⟩
  ·have d:=dT d;have b:A<B:=AS.1 (by omega);refine(Iy _ _ (f.ok a) a.wf).mono ?_;rintro _ l ⟨rfl,j⟩;rw[BG e i (le_of_lt b)];refine⟨_,_,rfl,(gn _ _).mono ?_⟩;rintro _ _ ⟨rfl,rfl⟩;refine⟨_,rfl,?_,a.trans j⟩;unfold Dy dC;rw[if_neg g,if_pos b]
  ·have d:=dF d;have b:¬A<B:=λc=>by have:=AS.2 c;omega
   refine(Iy _ _ (f.ok a) a.wf).mono ?_;rintro _ l ⟨rfl,j⟩;rw[BG i e (Nat.not_lt.1 b)];refine⟨_,_,rfl,(gn _ _).mono ?_⟩;rintro _ _ ⟨rfl,rfl⟩;refine⟨_,rfl,?_,a.trans j⟩;unfold Dy dC;rw[if_neg g,if_neg b]
def uJ(b:Bool)(n d:List UInt8):Value:= .agg ⟨[.bool b,strOf n,strOf d]⟩
def uW(l:List UInt8):Value:=if aA l=true then .tuple ⟨[uJ (Num.isNeg l) (Num.numOf l) (ak l),.bool true]⟩else .tuple ⟨[uJ false [] [],.bool false]⟩
def yq(b:Bool)(n d:List UInt8):Value:= .tuple ⟨[uJ b n d,.bool true]⟩
def xk:Value:= .tuple ⟨[uJ false [] [],.bool false]⟩
structure N3(h0:ae)(k:Nat)(g:ae):Prop where
 row:∃cs0:List Value,cs0.length=3/\g.get k=some (.cells cs0 155 0 true)
 new:h0.next<=k
 ok:Ok h0 g
theorem N3.trans{a:ae}(m:N3 h k g)(o:Ok g a):N3 h k a:=by
 obtain⟨⟨cs,c,d⟩,b,e⟩:=m;exact⟨⟨cs,c,o.ext _ _ d⟩,b,e.trans o⟩
theorem MD(w:Wf h){k:Nat}{g:ae}(m:N3 h k g)(b:Bool)(n d:List UInt8)(a:Bool){Q:VH}(j:∀c,Ok h c->Q (.tuple ⟨[uJ b n d,.bool a]⟩) c):
  ∃u:eu,ah SS.P 155 (.pointer (some ⟨k,0,none⟩)) (.agg ⟨[.bool b,strOf n,strOf d]⟩) g=some (undef,u)/\eK SS [(.pointer (some ⟨k,0,none⟩),some 155),(.bool a,none)] (u.app g) Q:=by
 obtain⟨⟨cs,i,e⟩,l,f⟩:=m;refine⟨_,Yy i e b n d,?_⟩;have o:Ok h ((eu.set k (.cells [.bool b,strOf n,strOf d] 155 0 true)).app g):=f.set _ l (f.wf _ _ e) w;have p:((eu.set k (.cells [.bool b,strOf n,strOf d] 155 0 true)).app g).get k=some (.cells [.bool b,strOf n,strOf d] 155 0 true):=by
  show(g.set k _).get k=_;rw[ae.ay,if_pos rfl]
 refine AX (v:=uJ b n d) (Mp p) ?_;exact j _ o
def abr(n d:List UInt8)(neg a:Bool):Prop:=Num.valid n=true/\Num.valid d=true/\n.length<=400/\d.length<=400/\¬(neg=true/\n=[48])/\¬(a=true/\(d=[48]\/d=[49]))/\Nat.gcd (Num.val n) (Num.val d)=1
theorem pG(w:Wf h){k:Nat}{g:ae}(m:N3 h k g){C:Prop}(a:¬C){G:Value}:
  ∃u:eu,ah SS.P 155 (.pointer (some ⟨k,0,none⟩)) (.agg ⟨[.bool false,strOf [],strOf []]⟩) g=some (undef,u)/\eK SS [(.pointer (some ⟨k,0,none⟩),some 155),(.bool false,none)] (u.app g) (rJ h C G xk):=
 MD w m false [] [] false (λ_ o=>lQ o a)
theorem Q1(n d:List UInt8)(neg h:Bool)(k:Nat){h0 g:ae}(w:Wf h0)(m:N3 h0 k g)(tb:qJ g){x0 x1 x3 x4 x9 z2 z4 J y8 X z9 u5 y7 z8 z6 K F C W Z u8 z1 x7 S z0 y2 O u3 v B u N u6 u2 M E A I x2 z y z5 u7 u1 x8 u0 y1 H x z3 s z7 y3 y5 L y9 G V x5 R D P T y0 Q U x6 u4 y4 y6 Y t:Value}:
  TT SS al [1,1,1,1] [x0,x1,.pointer (some ⟨k,0,none⟩),x3,x4,.bool neg,strOf n,strOf d,.bool h,x9,z2,z4,J,y8,X,z9,u5,y7,z8,z6,K,F,C,W,Z,u8,z1,x7,S,z0,y2,O,u3,v,B,u,N,u6,u2,M,E,A,I,x2,z,y,z5,u7,u1,x8,u0,y1,H,x,z3,s,z7,y3,y5,L,y9,G,V,x5,R,D,P,T,y0,Q,U,x6,u4,y4,y6,Y,t] g (EE SS al (rJ h0 (abr n d neg h) (yq neg n d) xk)):=by
 refine Gi ((eo n g).mono ?_);rintro _ g0 ⟨rfl,e0⟩;obtain rfl:g=g0:=e0.symm;refine⟨_,rfl,aa (λl=>⟨_,sS,pG w m (λc=>?_)⟩) (λl=>?_)⟩
 ·rw[c.1]at l;cases l
 have l:Num.valid n=true:=by simpa using l
 refine(eo d g).mono ?_;rintro _ g0 ⟨rfl,e0⟩;obtain rfl:g=g0:=e0.symm;refine⟨_,rfl,aa (λi=>⟨_,sS,pG w m (λc=>?_)⟩) (λi=>?_)⟩
 ·rw[c.2.1]at i;cases i
 have i:Num.valid d=true:=by simpa using i
 refine aa (λq=>⟨_,sS,pG w m (λc=>?_)⟩) (λq=>?_)
 ·have:=c.2.2.1;have q:=dT q;omega
 have q:n.length<=400:=by have q:=dF q;omega
 refine aa (λj=>⟨_,sS,pG w m (λc=>?_)⟩) (λj=>?_)
 ·have:=c.2.2.2.1;have j:=dT j;omega
 have j:d.length<=400:=by have j:=dF j;omega
 have r:¬(neg=true/\n=[48])->¬(h=true/\(d=[48]\/d=[49]))->∀{x0 x1 x3 x4 x9 z2 z4 J y8 X z9 u5 y7 z8 z6 K F C W Z u8 z1 x7 S z0 y2 O u3 v B u N u6 u2 M E A I x2 z y z5 u7 u1 x8 u0 y1 H x z3 s z7 y3 y5 L y9 G V x5 R D P T y0 Q U x6 u4 y4 y6 Y t:Value},TT SS al [1,1,1,1,1,1] [x0,x1,.pointer (some ⟨k,0,none⟩),x3,x4,.bool neg,strOf n,strOf d,.bool h,x9,z2,z4,J,y8,X,z9,u5,y7,z8,z6,K,F,C,W,Z,u8,z1,x7,S,z0,y2,O,u3,v,B,u,N,u6,u2,M,E,A,I,x2,z,y,z5,u7,u1,x8,u0,y1,H,x,z3,s,z7,y3,y5,L,y9,G,V,x5,R,D,P,T,y0,Q,U,x6,u4,y4,y6,Y,t] g (EE SS al (rJ h0 (abr n d neg h) (yq neg n d) xk)):=by
  intro p c6;intros;refine Gk ((Ix n d tb m.ok.wf).mono ?_);rintro _ h1 ⟨rfl,o1⟩;have m1:=m.trans o1;rw[A1 l i];refine⟨_,_,rfl,aa (λe=>by cases e) (λ_=>?_)⟩;refine aa (λe=>⟨_,sS,pG w m1 (λc=>?_)⟩) (λe=>?_)
  ·have e:¬ag (Nat.gcd (Num.val n) (Num.val d))=[49]:=by simpa using e
   exact e (eN.2 c.2.2.2.2.2.2)
  ·have e:ag (Nat.gcd (Num.val n) (Num.val d))=[49]:=by simpa using e
   refine Gm ⟨_,acz neg n d,MD w m1 neg n d true (λ_ o=>Ak o ?_)⟩;exact⟨l,i,q,j,p,c6,eN.1 e⟩
 refine Gj (aa (λg5=>aa (λg6=>⟨_,sS,pG w m (λc=>?_)⟩) (λg6=>?_)) (λg5=>?_))
 ·exact c.2.2.2.2.1 ⟨g5,by simpa using g6⟩
 ·have p:¬(neg=true/\n=[48]):=λc=>by
   have:¬n=[48]:=by simpa using g6
   exact this c.2
  refine aa (λb=>aa (λa=>⟨_,sS,pG w m (λc=>?_)⟩) (λa=>aa (λf=>⟨_,sS,pG w m (λc=>?_)⟩) (λf=>?_))) (λb=>?_)
  ·exact c.2.2.2.2.2.1 ⟨b,.inl (by simpa using a)⟩
  ·exact c.2.2.2.2.2.1 ⟨b,.inr (by simpa using f)⟩
  ·refine r p (λc=>?_);have a:¬d=[48]:=by simpa using a
   have f:¬d=[49]:=by simpa using f
   exact c.2.elim a f
  ·exact r p (λc=>by rw[c.1]at b;cases b)
 ·have p:¬(neg=true/\n=[48]):=λc=>by rw[c.1]at g5;cases g5
  refine aa (λb=>aa (λa=>⟨_,sS,pG w m (λc=>?_)⟩) (λa=>aa (λf=>⟨_,sS,pG w m (λc=>?_)⟩) (λf=>?_))) (λb=>?_)
  ·exact c.2.2.2.2.2.1 ⟨b,.inl (by simpa using a)⟩
  ·exact c.2.2.2.2.2.1 ⟨b,.inr (by simpa using f)⟩
  ·refine r p (λc=>?_);have a:¬d=[48]:=by simpa using a
   have f:¬d=[49]:=by simpa using f
   exact c.2.elim a f
  ·exact r p (λc=>by rw[c.1]at b;cases b)
theorem Kg(q:rJ h (abr (Num.numOf s) (ak s) (Num.isNeg s) (bE s)) (yq (Num.isNeg s) (Num.numOf s) (ak s)) xk v g):v=uW s/\Ok h g:=by
 obtain⟨o,d,b⟩:=q;refine⟨?_,o⟩;unfold uW;by_cases a:aA s=true
 ·rw[if_pos a];have r:=ba.1 a;exact d ⟨r.num,r.den,r.ln,r.ld,r.neg,r.fr,r.one⟩
 ·rw[if_neg a];exact b λc=>a (ba.2 ⟨c.1,c.2.1,c.2.2.1,c.2.2.2.1,c.2.2.2.2.1,c.2.2.2.2.2.1,c.2.2.2.2.2.2⟩)
theorem pS(l:List UInt8)(m:l.length<=1000000000){h:ae}(o:qJ h)(w:Wf h):FW SS 145 [strOf l] h (λv n=>v=uW l/\Ok h n):=by
 refine FW.mono (Q:=rJ h (abr (Num.numOf l) (ak l) (Num.isNeg l) (bE l)) (yq (Num.isNeg l) (Num.numOf l) (ak l)) xk) ?_ (λ_ _ q=>Kg q);have f:N3 h h.next (h.push tG):=⟨⟨_,rfl,by rw[ae.bH,if_pos rfl];rfl⟩,Nat.le_refl _,(Ok.refl w).push _⟩
 refine MY l h _ ⟨_,zm,(Sf l _).mono ?_⟩;rintro _ r ⟨rfl,rfl⟩;have j:(bw l).length<=1000000000:=by
  unfold bw;split
  ·rw[length_drop];omega
  ·exact m
 refine⟨_,_,rfl,(adz _ j f.ok.wf).mono ?_⟩;rintro _ p ⟨rfl,i⟩;have c:=f.trans i;have g:=o.ok c.ok;unfold Sg;by_cases b:dg 47 (bw l)<(bw l).length
 ·rw[if_pos b];have a:bE l=true:=decide_eq_true b;have d:ak l=(bw l).drop (dg 47 (bw l)+1):=by unfold ak;rw[if_pos a]
  rw[a];refine⟨_,_,_,rfl,aa (λe=>by cases e) (λ_=>?_)⟩;rw[<-d];exact Q1 _ _ _ true _ w c g
 ·rw[if_neg b];have a:bE l=false:=decide_eq_false b;have d:ak l=[49]:=by unfold ak;rw[a];rfl
  have k:Num.numOf l=bw l:=by unfold Num.numOf;rw[take_of_length_le (by omega)]
  rw[a,k,d];refine⟨_,_,_,rfl,aa (λ_=>?_) (λe=>by cases e)⟩;exact Q1 _ _ _ false _ w c g
theorem Pe(l:List UInt8):∃(cs:List Value)(b:Bool),uW l = .tuple ⟨[.agg ⟨cs⟩,.bool b]⟩/\b=aA l:=by
 unfold uW
 cases g:aA l with
 |true=>exact⟨_,_,rfl,rfl⟩
 |false=>exact⟨_,_,rfl,rfl⟩
theorem su(l:List UInt8)(c:l.length<=1000000000){h:ae}(f:qJ h)(w:Wf h):FW SS 109 [strOf l] h (λv d=>v = .bool (aA l)/\Ok h d):=by
 refine MZ l h _ ((pS l c f w).mono ?_);rintro _ i ⟨rfl,a⟩;obtain⟨cs,b,e,g⟩:=Pe l;exact⟨cs,b,e,by rw[g],a⟩
theorem um(k:Nat):bk SS.P 155 (.pointer (some ⟨k,0,none⟩)) 0=some (.pointer (some ⟨k,0,none⟩)):=by kernel_rfl
theorem sf(k:Nat):bk SS.P 155 (.pointer (some ⟨k,0,none⟩)) 1=some (.pointer (some ⟨k,1,none⟩)):=by kernel_rfl
theorem oj(k:Nat):bk SS.P 155 (.pointer (some ⟨k,0,none⟩)) 2=some (.pointer (some ⟨k,2,none⟩)):=by kernel_rfl
theorem un4:SS.P.underlying 4=some .bool:=Tryz.underlying4
theorem ag4:Go.Ab.isAgg SS.P 4=false:=by kernel_rfl
theorem Ux:Go.Ab.isAgg SS.P 9=false:=by kernel_rfl
def ko(g:ae)(k:Nat)(b:Bool)(n d:List UInt8):Prop:=g.get k=some (.cells [.bool b,strOf n,strOf d] 155 0 true)
theorem ko.ok(x:ko h k b s t)(o:Ok h g):ko g k b s t:=o.ext _ _ x
theorem ko.l0(x:ko h k b s t):aj SS.P 4 h (.pointer (some ⟨k,0,none⟩))=some (.bool b):=dp un4 ag4 x (by simp)
theorem ko.l1(x:ko h k b s t):aj SS.P 9 h (.pointer (some ⟨k,1,none⟩))=some (strOf s):=dp NX Ux x (by simp)
theorem ko.l2(x:ko h k b s t):aj SS.P 9 h (.pointer (some ⟨k,2,none⟩))=some (strOf t):=dp NX Ux x (by simp)
theorem Gd(w:Wf h)(b:Bool)(n d:List UInt8):∃u:eu,ah SS.P 155 (.pointer (some ⟨h.next,0,none⟩)) (.agg ⟨[.bool b,strOf n,strOf d]⟩) (h.push tG)=some (undef,u)/\Ok h (u.app (h.push tG))/\ko (u.app (h.push tG)) h.next b n d:=by
 have a:(h.push tG).get h.next=some tG:=by rw[ae.bH,if_pos rfl]
 refine⟨_,Yy (cs0:=[.bool false,strOf [],strOf []]) rfl a b n d,?_,?_⟩
 ·exact((Ok.refl w).push _).set _ (Nat.le_refl _) (Nat.lt_succ_self _) w
 ·show((h.push tG).set h.next _).get h.next=_;rw[ae.ay,if_pos rfl]
theorem IB(l:List UInt8):∃(b:Bool)(n d:List UInt8),uW l = .tuple ⟨[.agg ⟨[.bool b,strOf n,strOf d]⟩,.bool (aA l)]⟩/\(aA l=true->b=Num.isNeg l/\n=Num.numOf l/\d=ak l):=by
 unfold uW
 cases g:aA l with
 |true=>exact⟨_,_,_,rfl,λ_=>⟨rfl,rfl,rfl⟩⟩
 |false=>exact⟨_,_,_,rfl,λe=>by cases e⟩
theorem kh(b:Bool):dV 4 (.bool b) (.bool b)=true:=by simp[dV]
theorem mD(l:List UInt8):dV 4 (strOf l) (strOf l)=true:=by simp[dV,strOf]
theorem IF(l m:List UInt8)(S:l.length<=1000000000)(N:m.length<=1000000000){h:ae}(s:qJ h)(w:Wf h):FW SS 149 [strOf l,strOf m] h (λv X=>v = .int .i64 (de l m)/\Ok h X):=by
 refine Tq l m h _ ((pS l S s w).mono ?_);rintro _ K ⟨rfl,F⟩;obtain⟨b,n,d,O,f1⟩:=IB l;obtain⟨I,s1,Y,Q⟩:=Gd F.wf b n d;refine⟨_,_,O,_,zm,I,s1,?_⟩;have r:=F.trans Y;generalize I.app (K.push tG)=g1 at*;refine(pS m N (s.ok r) r.wf).mono ?_;rintro _ L ⟨rfl,C⟩;obtain⟨Z,W,U,e2,f2⟩:=IB m;obtain⟨E,P,J,g⟩:=Gd C.wf Z W U;refine⟨_,_,e2,_,zm,E,P,?_⟩;have f:=(r.trans C).trans J;have i:=(Q.ok C).ok J;generalize E.app (L.push tG)=H at*;generalize K.next=k1 at*;generalize L.next=k2 at*;refine aa (λq=>⟨?_,f⟩) (λq=>aa (λa=>⟨?_,f⟩) (λa=>?_))
 ·have q:aA l=false:=by simpa using q
  unfold de;rw[if_neg (λc=>by rw[c.1]at q;cases q)]
 ·have a:aA m=false:=by simpa using a
  unfold de;rw[if_neg (λc=>by rw[c.2]at a;cases a)]
 have q:aA l=true:=by simpa using q
 have a:aA m=true:=by simpa using a
 obtain⟨rfl,rfl,rfl⟩:=f1 q;obtain⟨rfl,rfl,rfl⟩:=f2 a;have j:=ba.1 q;have k:=ba.1 a;have o:Ok H (Go.Ab.room H 27):=(Ok.refl f.wf).room 27;refine⟨_,um _,_,(i.ok o).l0,_,sf _,_,(i.ok o).l1,_,oj _,_,(g.ok o).l2,?_⟩;have y:=f.trans o;refine(oY _ _ (s.ok y) y.wf).mono ?_;rintro _ R ⟨rfl,o3⟩;rw[(dG j.num k.den j.ln k.ld).1];refine⟨_,_,rfl,(gn _ _).mono ?_⟩;rintro _ G ⟨rfl,D⟩;obtain rfl:R=G:=D.symm;have e:=o.trans o3;refine⟨_,rfl,_,um _,_,(g.ok e).l0,_,sf _,_,(g.ok e).l1,_,oj _,_,(i.ok e).l2,?_⟩;have A:=f.trans e;refine(oY _ _ (s.ok A) A.wf).mono ?_;rintro _ h4 ⟨rfl,T⟩;rw[(dG k.num j.den k.ln j.ld).1];refine⟨_,_,rfl,(gn _ _).mono ?_⟩;rintro _ M ⟨rfl,D⟩;obtain rfl:h4=M:=D.symm;have t:=e.trans T;have x:=f.trans t;refine⟨_,rfl,(Gn _ _ _ _ (dG j.num k.den j.ln k.ld).2 (dG k.num j.den k.ln j.ld).2 (s.ok x) x.wf).mono ?_⟩;rintro _ h5 ⟨rfl,V⟩;have u:=x.trans V;refine⟨_,_,rfl,⟨(i.ok e).l0,kh _⟩,⟨(i.ok e).l0,kh _⟩,⟨(i.ok t).l0,kh _⟩,⟨(i.ok t).l0,kh _⟩,⟨(g.ok o).l0,kh _⟩,⟨(g.ok e).l0,kh _⟩,⟨(g.ok t).l0,kh _⟩,⟨(g.ok t).l0,kh _⟩,⟨(g.ok o).l1,mD _⟩,⟨(g.ok e).l1,mD _⟩,⟨(i.ok o).l2,mD _⟩,⟨(i.ok e).l2,mD _⟩,?_⟩;unfold de;rw[if_pos ⟨q,a⟩];generalize dC _ _ _ _=z;refine aa (λp=>⟨?_,u⟩) (λp=>?_)
 ·have p:ag z.2=[48]:=by simpa using p
  rw[if_pos (bU.1 p)]
 ·have p:¬ag z.2=[48]:=by simpa using p
  rw[if_neg (λc=>p (bU.2 c))];refine aa (λB=>⟨?_,u⟩) (λB=>⟨?_,u⟩)
  ·rw[if_pos B]
  ·rw[if_neg (by rw[B];simp)]
noncomputable def PH:FD:=dq Tryz.f93 []
theorem Nm  (h:ae) (Q:VH) (g:xN (av SS.P 119) h λ_ f=>xA (bu SS.P 99 [(0,(strOf [105,110,102])),(1,(strOf [48])),(2,(.bool true)),(3,(.func (.func 106) ⟨[]⟩ ⟨[]⟩)),(4,(.func (.func 107) ⟨[]⟩ ⟨[]⟩)),(5,(.func (.func 108) ⟨[]⟩ ⟨[]⟩)),(6,(.func (.func 109) ⟨[]⟩ ⟨[]⟩)),(7,(.func (.func 109) ⟨[]⟩ ⟨[]⟩))]) λe=>xA (bu SS.P 99 [(0,(strOf [48])),(1,(strOf [49])),(2,(.bool false)),(3,(.func (.func 110) ⟨[]⟩ ⟨[]⟩)),(4,(.func (.func 111) ⟨[]⟩ ⟨[]⟩)),(5,(.func (.func 112) ⟨[]⟩ ⟨[]⟩)),(6,(.func (.func 113) ⟨[]⟩ ⟨[]⟩)),(7,(.func (.func 114) ⟨[]⟩ ⟨[]⟩))]) λd=>xA (bu SS.P 99 [(0,(strOf [48])),(1,(strOf [49])),(2,(.bool false)),(3,(.func (.func 106) ⟨[]⟩ ⟨[]⟩)),(4,(.func (.func 111) ⟨[]⟩ ⟨[]⟩)),(5,(.func (.func 115) ⟨[]⟩ ⟨[]⟩)),(6,(.func (.func 113) ⟨[]⟩ ⟨[]⟩)),(7,(.func (.func 114) ⟨[]⟩ ⟨[]⟩))]) λc=>xA (bu SS.P 119 [(1,(.agg ⟨e⟩)),(2,(.agg ⟨d⟩)),(3,(.agg ⟨c⟩))]) λb=>xU (ah SS.P 119 (pA (h.next)) (.agg ⟨b⟩) f) f λ_ a=>eK SS [((pA (h.next)),some 119)] a Q):FW SS 93 [] h Q:=du PH Tryz.func93 (ai g)
noncomputable def abF:FD:=dq Tryz.f69 []
theorem Yo(g:Int)(h:ae)(Q:VH)(i:xN (av SS.P 99) h λ_ f=>au (decide ((g:Int)<1)) (xA (bu SS.P 99 []) λb=>xU (ah SS.P 99 (pA (h.next)) (.agg ⟨b⟩) f) f λ_ a=>eK SS [((pA (h.next)),some 99),((.bool false),none)] a Q) (au (decide ((g:Int)>3)) (xA (bu SS.P 99 []) λb=>xU (ah SS.P 99 (pA (h.next)) (.agg ⟨b⟩) f) f λ_ a=>eK SS [((pA (h.next)),some 99),((.bool false),none)] a Q) (FW SS 93 [] f λd e=>yA d λc=>xA (bZ SS.P 119 (.agg ⟨c⟩) (.int .i64 g)) λb=>xU (ah SS.P 99 (pA (h.next)) (.agg ⟨b⟩) e) e λ_ a=>eK SS [((pA (h.next)),some 99),((.bool true),none)] a Q))):FW SS 69 [(.int .i64 g)] h Q:=du abF Tryz.func69 (ai i)
noncomputable def HL:FD:=dq Tryz.f114 []
theorem Gz(l:LB)(h:ae)(Q:VH)(g:FW SS 109 [(strOf l)] h λe f=>yB e λd=>au d (FW SS 149 [(strOf l),(strOf [48])] f λb c=>yI .i64 b λa=>Q (.bool (decide ((a:Int)>0))) c) (Q (.bool false) f)):FW SS 114 [(strOf l)] h Q:=du HL Tryz.func114 (ai g)
noncomputable def Nq:FD:=dq Tryz.f41 []
theorem KB(o:Int)(l:LB)(h:ae)(Q:VH)(p:FW SS 69 [(.int .i64 o)] h λm n=>∃k:LV,∃j:Bool,m=(.tuple ⟨[(.agg ⟨k⟩),(.bool j)]⟩)/\xN (av SS.P 99) n λ_ i=>xU (ah SS.P 99 (pA (n.next)) (.agg ⟨k⟩) i) i λ_ h=>au j (fP 99 (pA (n.next)) 7 λg=>xF (aj SS.P 97 h (.pointer (some g))) λd e f=>au (Nat.blt d YB) (FW SS d (e++[(strOf l)]++f) h λb c=>yB b λa=>Q (.bool a) c) False) (Q (.bool false) h)):FW SS 41 [(.int .i64 o),(strOf l)] h Q:=du Nq Tryz.func41 (ai p)
noncomputable def Px:FD:=dq Tryz.f14 []
theorem DB(a:Int)(h:ae)(Q:VH)(b:au (decide ((a:Int)>=1)) (Q (.bool (decide ((a:Int)<=3))) h) (Q (.bool false) h)):FW SS 14 [(.int .i64 a)] h Q:=du Px Tryz.func14 (ai b)
noncomputable def M8:FD:=dq Tryz.f47 []
theorem Ku(j:Int)(l:LB)(h:ae)(Q:VH)(k:FW SS 14 [(.int .i64 j)] h λh i=>yB h λg=>au (!g) (Q (.bool false) i) (au ((l:LB)==[105,110,102]) (au ((l:LB)==[105,110,102]) (Q (.bool true) i) (Q (.bool (((j:Int)==1))) i)) (au ((l:LB)==[45,105,110,102]) (au ((l:LB)==[105,110,102]) (Q (.bool true) i) (Q (.bool (((j:Int)==1))) i)) (FW SS 71 [(strOf l)] i λe f=>yB e λd=>au d (au (((j:Int)==1)) (Q (.bool true) f) (FW SS 72 [(strOf l),(strOf [48])] f λb c=>yI .i64 b λa=>Q (.bool (decide ((a:Int)>=0))) c)) (Q (.bool false) f))))):FW SS 47 [(.int .i64 j),(strOf l)] h Q:=du M8 Tryz.func47 (ai k)
noncomputable def Kv:FD:=dq Tryz.f16 []
theorem HG(d:Int)(l:LB)(h:ae)(Q:VH)(e:FW SS 47 [(.int .i64 d),(strOf l)] h λb c=>yB b λa=>au a (au (!((l:LB)==[105,110,102])) (au (!((l:LB)==[45,105,110,102])) (au (((d:Int)==1)) (Q (.bool true) c) (Q (.bool (!((l:LB)==[48]))) c)) (Q (.bool false) c)) (Q (.bool false) c)) (Q (.bool false) c)):FW SS 16 [(.int .i64 d),(strOf l)] h Q:=du Kv Tryz.func16 (ai e)
variable{P:Program}{n:Nat}{c:List Value}
theorem lR{t:TypeId}(e:aI P t=some n){h:ae}{k:Nat}{cs0:List Value}(d:cs0.length=n)(f:h.get k=some (.cells cs0 t 0 true)){cs:List Value}(a:cs.length=n)(b:cs.all ey=true):ah P t (.pointer (some ⟨k,0,none⟩)) (.agg ⟨cs⟩) h=some (undef,.set k (.cells cs t 0 true)):=by
 unfold ah;dsimp only;have c:(Value.agg ⟨cs⟩).cells.size=n:=by show cs.toArray.size=n;simpa using a
 have g:(Value.agg ⟨cs⟩).cells.toList=cs:=rfl
 simp_all[storeAt]
theorem qk(w:Wf g)(o:Ok g h){k:Nat}{t:TypeId}{a cs:List Value}(c:h.get k=some (.cells a t 0 true))(b:g.next<=k):Ok g ((eu.set k (.cells cs t 0 true)).app h)/\((eu.set k (.cells cs t 0 true)).app h).get k=some (.cells cs t 0 true):=by
 refine⟨o.set _ b (o.wf _ _ c) w,?_⟩;show(h.set k _).get k=_;rw[ae.ay,if_pos rfl]
theorem aN(h:ae)(B:eB):(h.push B).get h.next=some B:=by rw[ae.bH,if_pos rfl]
def rq(i:Nat):Value:= .func (.func i) ⟨[]⟩ ⟨[]⟩
def pT:List Value:=[strOf [],strOf [],.bool false,.nilFunc,.nilFunc,.nilFunc,.nilFunc,.nilFunc]
def Bx:List Value:=[strOf [105,110,102],strOf [48],.bool true,rq 106,rq 107,rq 108,rq 109,rq 109]
def By:List Value:=[strOf [48],strOf [49],.bool false,rq 110,rq 111,rq 112,rq 113,rq 114]
def Bz:List Value:=[strOf [48],strOf [49],.bool false,rq 106,rq 111,rq 115,rq 113,rq 114]
def CM:List Value:=pT++Bx++By++Bz
def ZP:eB:= .cells (pT++pT++pT++pT) 119 0 true
def NT:eB:= .cells pT 99 0 true
theorem aeF:av SS.P 119=some (ZP,np):=by rfl
theorem UW:av SS.P 99=some (NT,np):=by rfl
theorem YJ:aI SS.P 119=some 32:=by rfl
theorem GL:aI SS.P 99=some 8:=by rfl
theorem aex:Go.Ab.isAgg SS.P 119=true:=by rfl
theorem aeE:Go.Ab.isAgg SS.P 99=true:=by rfl
noncomputable def aee:TypeDesc:=(SS.P.underlying 119).getD .bool
theorem afX:SS.P.underlying 119=some aee:=by rfl
noncomputable def agc:TypeDesc:=(SS.P.underlying 99).getD .bool
theorem agb:SS.P.underlying 99=some agc:=by rfl
noncomputable def aga:TypeDesc:=(SS.P.underlying 97).getD .bool
theorem af9:SS.P.underlying 97=some aga:=by rfl
theorem aeD:Go.Ab.isAgg SS.P 97=false:=by rfl
theorem adr:bu SS.P 99 [(0,(strOf [105,110,102])),(1,(strOf [48])),(2,(.bool true)),(3,(.func (.func 106) ⟨[]⟩ ⟨[]⟩)),(4,(.func (.func 107) ⟨[]⟩ ⟨[]⟩)),(5,(.func (.func 108) ⟨[]⟩ ⟨[]⟩)),(6,(.func (.func 109) ⟨[]⟩ ⟨[]⟩)),(7,(.func (.func 109) ⟨[]⟩ ⟨[]⟩))]=some (.agg ⟨Bx⟩):=by rfl
theorem ads:bu SS.P 99 [(0,(strOf [48])),(1,(strOf [49])),(2,(.bool false)),(3,(.func (.func 110) ⟨[]⟩ ⟨[]⟩)),(4,(.func (.func 111) ⟨[]⟩ ⟨[]⟩)),(5,(.func (.func 112) ⟨[]⟩ ⟨[]⟩)),(6,(.func (.func 113) ⟨[]⟩ ⟨[]⟩)),(7,(.func (.func 114) ⟨[]⟩ ⟨[]⟩))]=some (.agg ⟨By⟩):=by rfl
theorem adt:bu SS.P 99 [(0,(strOf [48])),(1,(strOf [49])),(2,(.bool false)),(3,(.func (.func 106) ⟨[]⟩ ⟨[]⟩)),(4,(.func (.func 111) ⟨[]⟩ ⟨[]⟩)),(5,(.func (.func 115) ⟨[]⟩ ⟨[]⟩)),(6,(.func (.func 113) ⟨[]⟩ ⟨[]⟩)),(7,(.func (.func 114) ⟨[]⟩ ⟨[]⟩))]=some (.agg ⟨Bz⟩):=by rfl
theorem Vu:bu SS.P 99 []=some (.agg ⟨pT⟩):=by rfl
theorem afc:bu SS.P 119 [(1,(.agg ⟨Bx⟩)),(2,(.agg ⟨By⟩)),(3,(.agg ⟨Bz⟩))]=some (.agg ⟨CM⟩):=by rfl
theorem Nn(w:Wf h):FW SS 93 [] h (λv b=>v = .agg ⟨CM⟩/\Ok h b):=by
 have a:(h.push ZP).get h.next=some (.cells (pT++pT++pT++pT) 119 0 true):=aN h ZP;refine Nm h _ ⟨_,aeF,_,adr,_,ads,_,adt,_,afc,_,lR YJ (by rfl) a (cs:=CM) (by rfl) (by rfl),?_⟩;obtain⟨o,g⟩:=qk (cs:=CM) w ((Ok.refl w).push ZP) a (Nat.le_refl _);refine L4 (v:= .agg ⟨CM⟩) (sj afX aex YJ g (by simp[CM,pT,Bx,By,Bz])) ?_
 grind
def ofV(a:Int):Value:=if a=1 then .tuple ⟨[.agg ⟨Bx⟩,.bool true]⟩else if a=2 then .tuple ⟨[.agg ⟨By⟩,.bool true]⟩else if a=3 then .tuple ⟨[.agg ⟨Bz⟩,.bool true]⟩else .tuple ⟨[.agg ⟨pT⟩,.bool false]⟩
theorem F9(w:Wf h){g:ae}(o:Ok h g){k:Nat}{a:List Value}(i:a.length=8)(d:g.get k=some (.cells a 99 0 true))(e:h.next<=k){cs:List Value}(j:cs.length=8)(f:cs.all ey=true)(b:Bool){Q:VH}(l:∀c,Ok h c->Q (.tuple ⟨[.agg ⟨cs⟩,.bool b]⟩) c):
  ∃u:eu,ah SS.P 99 (.pointer (some ⟨k,0,none⟩)) (.agg ⟨cs⟩) g=some (undef,u)/\eK SS [(.pointer (some ⟨k,0,none⟩),some 99),(.bool b,none)] (u.app g) Q:=by
 refine⟨_,lR GL i d j f,?_⟩;obtain⟨o,g⟩:=qk (cs:=cs) w o d e;refine AX (v:= .agg ⟨cs⟩) (by rw[sj agb aeE GL g (by omega),drop_zero,take_of_length_le (by omega)]) ?_
 grind
theorem Gy(a:Int){h:ae}(w:Wf h):FW SS 69 [.int .i64 a] h (λv j=>v=ofV a/\Ok h j):=by
 have c:=(Ok.refl w).push NT;have f:=aN h NT;refine Yo a h _ ⟨_,UW,aa (λg=>?_) (λg=>aa (λb=>?_) (λb=>?_))⟩
 ·have g:=dT g;refine⟨_,Vu,F9 w c rfl f (Nat.le_refl _) rfl rfl false (λ_ o=>⟨?_,o⟩)⟩;unfold ofV;grind
 ·have b:=dT b;refine⟨_,Vu,F9 w c rfl f (Nat.le_refl _) rfl rfl false (λ_ o=>⟨?_,o⟩)⟩;unfold ofV;grind
 ·have g:=dF g;have b:=dF b;refine(Nn c.wf).mono ?_;rintro _ k ⟨rfl,i⟩;have d:=i.ext _ _ f;have e:=c.trans i;obtain rfl|rfl|rfl:a=1\/a=2\/a=3:=by omega
  ·exact⟨_,rfl,Bx,by rfl,F9 w e rfl d (Nat.le_refl _) rfl rfl true (λ_ o=>⟨rfl,o⟩)⟩
  ·exact⟨_,rfl,By,by rfl,F9 w e rfl d (Nat.le_refl _) rfl rfl true (λ_ o=>⟨rfl,o⟩)⟩
  ·exact⟨_,rfl,Bz,by rfl,F9 w e rfl d (Nat.le_refl _) rfl rfl true (λ_ o=>⟨rfl,o⟩)⟩
theorem xy(l:List UInt8)(b:l.length<=1000000000){h:ae}(c:qJ h)(w:Wf h):FW SS 114 [strOf l] h (λv d=>v = .bool (aA l&&decide (0<de l [48]))/\Ok h d):=by
 refine Gz l h _ ((su l b c w).mono ?_);rintro _ f ⟨rfl,a⟩;refine⟨_,rfl,aa (λg=>?_) (λg=>?_)⟩
 ·refine(IF l [48] b (by simp) (c.ok a) a.wf).mono ?_;rintro _ i ⟨rfl,e⟩;refine⟨_,rfl,?_,a.trans e⟩;rw[g,Bool.true_and]
 grind
theorem ahk{A B:Prop}(c:b=true)(a:A):au b A B:=aa (λ_=>a) (λe=>by grind)
theorem R8{K:VH}(d:Nat.blt n YB=true)(e:FW SS n c h λv a=>∃b:Bool,v = .bool b/\K (.bool b) a):au (Nat.blt n YB) (FW SS n ([]++c++[]) h λv a=>∃b:Bool,v = .bool b/\K (.bool b) a) False:=
 ahk d (by grind)
theorem oC(a:Int)(l:List UInt8)(t:l.length<=1000000000){h:ae}(x:qJ h)(w:Wf h):FW SS 41 [.int .i64 a,strOf l] h (λv u=>v = .bool (bq a l)/\Ok h u):=by
 refine KB a l h _ ((Gy a w).mono ?_);rintro _ b ⟨rfl,c⟩;have d:∀(cs:List Value)(f:Nat),cs.length=8->cs.all ey=true->cs.getD 7 undef=rq f->Nat.blt f YB=true->(∀g,Ok h g->FW SS f [strOf l] g (λv u=>v = .bool (bq a l)/\Ok g u))->ofV a = .tuple ⟨[.agg ⟨cs⟩,.bool true]⟩->∃n:List Value,∃B:Bool,ofV a=(.tuple ⟨[(.agg ⟨n⟩),(.bool B)]⟩)/\∃k:eB,av SS.P 99=some (k,np)/\∃m:eu,ah SS.P 99 (.pointer (some ⟨b.next,0,none⟩)) (.agg ⟨n⟩) (b.push k)=some (undef,m)/\au B (∃C:Addr,bk SS.P 99 (.pointer (some ⟨b.next,0,none⟩)) 7=some (.pointer (some C))/\∃(s:Nat)(z q:List Value),aj SS.P 97 (m.app (b.push k)) (.pointer (some C))=some (.func (.func s) ⟨z⟩ ⟨q⟩)/\au (Nat.blt s YB) (FW SS s (z++[(strOf l)]++q) (m.app (b.push k)) λy j=>∃r:Bool,y=(.bool r)/\(Value.bool r = .bool (bq a l)/\Ok h j)) False) (Value.bool false = .bool (bq a l)/\Ok h (m.app (b.push k))):=by
  intro cs f L G F H I e;refine⟨_,_,e,_,UW,_,lR GL rfl (aN b NT) L G,aa (λ_=>?_) (λg=>by cases g)⟩;obtain⟨o,g⟩:=qk (cs:=cs) c.wf ((Ok.refl c.wf).push NT) (aN b NT) (Nat.le_refl _);have p:=dp af9 aeD g (i:=7) (by omega);rw[F]at p;refine⟨⟨b.next,7,none⟩,by rfl,f,[],[],p,?_⟩;refine R8 (K:=λv j=>v = .bool (bq a l)/\Ok h j) H ((I _ (c.trans o)).mono ?_);rintro _ M ⟨rfl,J⟩;exact⟨_,rfl,rfl,(c.trans o).trans J⟩
 by_cases D:a=1
 ·subst D;refine d Bx 109 rfl rfl rfl (by decide +kernel) (λg o=>?_) rfl;refine(su l t (x.ok o) o.wf).mono ?_
  simp_all[bq]
 by_cases A:a=2
 ·subst A;refine d By 114 rfl rfl rfl (by decide +kernel) (λg o=>?_) rfl;refine(xy l t (x.ok o) o.wf).mono ?_
  simp_all[bq]
 by_cases E:a=3
 ·subst E;refine d Bz 114 rfl rfl rfl (by decide +kernel) (λg o=>?_) rfl;refine(xy l t (x.ok o) o.wf).mono ?_
  simp_all[bq]
 ·have e:ofV a = .tuple ⟨[.agg ⟨pT⟩,.bool false]⟩:=by unfold ofV;rw[if_neg D,if_neg A,if_neg E]
  refine⟨_,_,e,_,UW,_,lR GL rfl (aN b NT) (cs:=pT) rfl rfl,aa (λg=>by cases g) (λ_=>?_)⟩;obtain⟨o,g⟩:=qk (cs:=pT) c.wf ((Ok.refl c.wf).push NT) (aN b NT) (Nat.le_refl _);refine⟨?_,c.trans o⟩
  grind[bq]
theorem Bo(a:Int)(l:List UInt8)(i:l.length<=1000000000){h:ae}(w:Wf h):FW SS 47 [.int .i64 a,strOf l] h (λv f=>v = .bool (decide (1<=a/\a<=3)&&(l==[105,110,102]||l==[45,105,110,102]&&a==1||aA l&&(a==1||decide (0<=de l [48]))))/\Ok h f):=by
 have k:FW SS 14 [.int .i64 a] h (λv f=>v = .bool (decide (1<=a/\a<=3))/\f=h):=by
  refine DB a h _ (aa (λg=>⟨?_,rfl⟩) (λg=>⟨?_,rfl⟩))
  ·grind
  ·grind
 refine Ku a l h _ (k.mono ?_);rintro _ o ⟨rfl,n⟩;obtain rfl:h=o:=n.symm;refine⟨_,rfl,aa (λg=>⟨?_,Ok.refl w⟩) (λg=>?_)⟩
 ·grind
 rw[Bool.not_eq_false']at g;rw[g,Bool.true_and];refine aa (λj=>aa (λ_=>⟨?_,Ok.refl w⟩) (λd=>by grind)) (λj=>aa (λd=>aa (λc=>by grind) (λ_=>⟨?_,Ok.refl w⟩)) (λd=>?_))
 ·grind
 ·grind[zj]
 ·rw[j,d];refine(Bn l i w).mono ?_;rintro _ p ⟨rfl,b⟩;refine⟨_,rfl,aa (λc=>aa (λe=>⟨?_,b⟩) (λe=>?_)) (λc=>⟨?_,b⟩)⟩
  ·rw[c,e];rfl
  ·refine(Gs l [48] i (by simp) b.wf).mono ?_;rintro _ q ⟨rfl,m⟩;refine⟨_,rfl,?_,b.trans m⟩;rw[c,e];simp
  grind
theorem sY(a:Int)(l:List UInt8)(o:l.length<=1000000000){h:ae}(w:Wf h):FW SS 16 [.int .i64 a,strOf l] h (λv p=>v = .bool (bq a l)/\Ok h p):=by
 refine HG a l h _ ((Bo a l o w).mono ?_);rintro _ j ⟨rfl,b⟩;have r:(l==[105,110,102])=true->aA l=false:=λe=>by grind[Lf]
 have s:(l==[45,105,110,102])=true->aA l=false:=λe=>by grind[zj]
 unfold bq;generalize decide (1<=a/\a<=3)=K;refine⟨_,rfl,aa (λg=>?_) (λg=>⟨?_,b⟩)⟩
 ·refine aa (λi=>aa (λd=>?_) (λd=>⟨?_,b⟩)) (λi=>⟨?_,b⟩)
  ·have i:(l==[105,110,102])=false:=by simpa using i
   have d:(l==[45,105,110,102])=false:=by simpa using d
   rw[i,d]at g;simp only[Bool.false_or,Bool.false_and,Bool.and_eq_true]at g;obtain⟨q,n,m⟩:=g;rw[q,n];refine aa (λk=>⟨?_,b⟩) (λk=>⟨?_,b⟩)
   ·rw[k];rfl
   ·rw[k]at m⊢;simp only[Bool.false_or,decide_eq_true_eq]at m;have:=Hd n;congr 1;by_cases f:l=[48]
    ·have j:=this.2 f;rw[j,f];rfl
    ·have j:¬de l [48]=0:=λc=>f (this.1 c);rw[decide_eq_true (by omega:0<de l [48])];simpa using f
  all_goals grind
 ·congr 1
  grind
variable{m:Nat}
section
def oH(h:ae)(v:Value)(l:List jj):Prop:=Hl h 70 4 v (l.map gM)
def yG(p:dW×Value):List Value:=[strOf p.1.f,p.2]
def dR(h:ae)(v:Value)(l:List dW):Prop:=∃a:List (dW×Value),a.map (·.1)=l/\Hl h 73 2 v (a.map yG)/\(∀p∈a,oH h p.2 p.1.arcs)/\v≠zr
theorem dR.ok{a:ae}{l:List dW}(r:dR h v l)(o:Ok h a):dR a v l:=by
 obtain⟨f,c,d,b,e⟩:=r;exact⟨f,c,d.ok o,λp g=>Hl.ok (b p g) o,e⟩
theorem dR.len{a:Option Addr}{n c:Nat}{l:List dW}(r:dR h (.slice a n c) l):n=l.length:=by
 obtain⟨f,b,d,e,_⟩:=r;rw[d.len,lM,<-b,lM]
theorem CR:SS.P.underlying 27=some (.slice 73):=by rfl
theorem Yp:SS.P.underlying 71=some (.slice 70):=by rfl
theorem YL:aI SS.P 73=some 2:=by rfl
theorem Rf:aI SS.P 70=some 4:=by rfl
theorem xQ:aI SS.P 29=some 4:=by rfl
theorem aeC:Go.Ab.isAgg SS.P 73=true:=by rfl
theorem ac5:Go.Ab.isAgg SS.P 70=true:=by rfl
theorem RD:Go.Ab.isAgg SS.P 29=true:=by rfl
theorem Hn:Go.Ab.isAgg SS.P 27=false:=by rfl
theorem ac6:Go.Ab.isAgg SS.P 71=false:=by rfl
noncomputable def af7:TypeDesc:=(SS.P.underlying 73).getD .bool
theorem af6:SS.P.underlying 73=some af7:=by rfl
noncomputable def af5:TypeDesc:=(SS.P.underlying 70).getD .bool
theorem aeh:SS.P.underlying 70=some af5:=by rfl
noncomputable def af1:TypeDesc:=(SS.P.underlying 29).getD .bool
theorem Uk:SS.P.underlying 29=some af1:=by rfl
theorem dN(k:Nat):bk SS.P 29 (.pointer (some ⟨k,0,none⟩)) 0=some (.pointer (some ⟨k,0,none⟩)):=by rfl
theorem wJ(k:Nat):bk SS.P 29 (.pointer (some ⟨k,0,none⟩)) 1=some (.pointer (some ⟨k,1,none⟩)):=by rfl
theorem oX(k:Nat):bk SS.P 29 (.pointer (some ⟨k,0,none⟩)) 2=some (.pointer (some ⟨k,2,none⟩)):=by rfl
theorem dO(k:Nat):bk SS.P 29 (.pointer (some ⟨k,0,none⟩)) 3=some (.pointer (some ⟨k,3,none⟩)):=by rfl
theorem qg(k o:Nat):bk SS.P 73 (.pointer (some ⟨k,o,none⟩)) 0=some (.pointer (some ⟨k,o+0,none⟩)):=by rfl
theorem mh(k o:Nat):bk SS.P 73 (.pointer (some ⟨k,o,none⟩)) 1=some (.pointer (some ⟨k,o+1,none⟩)):=by rfl
theorem Fw(k o:Nat):bk SS.P 70 (.pointer (some ⟨k,o,none⟩)) 0=some (.pointer (some ⟨k,o+0,none⟩)):=by rfl
theorem Fx(k o:Nat):bk SS.P 70 (.pointer (some ⟨k,o,none⟩)) 1=some (.pointer (some ⟨k,o+1,none⟩)):=by rfl
theorem Fy(k o:Nat):bk SS.P 70 (.pointer (some ⟨k,o,none⟩)) 2=some (.pointer (some ⟨k,o+2,none⟩)):=by rfl
theorem uo(k o:Nat):bk SS.P 70 (.pointer (some ⟨k,o,none⟩)) 3=some (.pointer (some ⟨k,o+3,none⟩)):=by rfl
structure MB(g:ae)(k:Nat)(M:bJ)(a:Option Addr)(n c:Nat):Prop where
 box:g.get k=some (.cells [.int .i64 M.kind,.int .i64 M.start,strOf M.lead,.slice a n c] 29 0 true)
 row:dR g (.slice a n c) M.af
section
variable {g g':ae} {k:Nat} {M:bJ} {a:Option Addr} {n c:Nat}
theorem MB.ok(m:MB g k M a n c)(o:Ok g g'):MB g' k M a n c:=⟨o.ext _ _ m.box,m.row.ok o⟩
theorem MB.l0(m:MB g k M a n c):aj SS.P 3 g (.pointer (some ⟨k,0,none⟩))=some (.int .i64 M.kind):=dp KL JA m.box (by simp)
theorem MB.l1(m:MB g k M a n c):aj SS.P 3 g (.pointer (some ⟨k,1,none⟩))=some (.int .i64 M.start):=dp KL JA m.box (by simp)
theorem MB.l2(m:MB g k M a n c):aj SS.P 9 g (.pointer (some ⟨k,2,none⟩))=some (strOf M.lead):=dp NX Ux m.box (by simp)
theorem MB.l3(m:MB g k M a n c):aj SS.P 27 g (.pointer (some ⟨k,3,none⟩))=some (.slice a n c):=dp CR Hn m.box (by simp)
theorem MB.all(m:MB g k M a n c):aj SS.P 29 g (.pointer (some ⟨k,0,none⟩))=some (.agg ⟨[.int .i64 M.kind,.int .i64 M.start,strOf M.lead,.slice a n c]⟩):=sj Uk RD xQ m.box (by simp)
theorem MB.len(m:MB g k M a n c):n=M.af.length:=m.row.len
end
theorem dR.at_{g:ae}{a:Option Addr}{n c:Nat}{l:List dW}(r:dR g (.slice a n c) l){i:Nat}{s:dW}(e:l[i]?=some s):
  ∃(b o:Nat)(x:Option Addr)(y z:Nat),aD SS.P 27 (.slice a n c) (.int .i64 (i:Int))=some (.pointer (some ⟨b,o,none⟩))/\aj SS.P 73 g (.pointer (some ⟨b,o,none⟩))=some (.agg ⟨[strOf s.f,.slice x y z]⟩)/\
   aj SS.P 9 g (.pointer (some ⟨b,o+0,none⟩))=some (strOf s.f)/\aj SS.P 71 g (.pointer (some ⟨b,o+1,none⟩))=some (.slice x y z)/\oH g (.slice x y z) s.arcs:=by
 obtain⟨t,j,k,h,_⟩:=r;rw[<-j,getElem?_map]at e;obtain⟨p,d,rfl⟩:=Option.map_eq_some_iff.1 e;have A:=(List.getElem?_eq_some_iff.1 d).1;obtain⟨b,o,v,u,f⟩:=k.at_ CR YL af6 aeC (ik:= .i64) (i:=(i:Int)) (by omega) (by rw[lM];omega);have m:(t.map yG).getD (i:Int).toNat []=yG p:=by
  rw[toNat_natCast,gD,getElem?_map,d];rfl
 rw[m]at u f;have q:=h p (List.mem_of_getElem? d);obtain⟨x,z,w⟩:=Hl.ZN q;have B:=f 9 _ 0 NX Ux (by omega)
 grind[Yp,ac6,yG]
theorem oH.len{g:ae}{x:Option Addr}{z:Nat}{l:List jj}(r:oH g (.slice x m z) l):m=l.length:=by
 have:=Hl.len r;grind
theorem oH.ok{a:ae}{l:List jj}(r:oH h v l)(o:Ok h a):oH a v l:=Hl.ok r o
theorem oH.at_{g:ae}{x:Option Addr}{z:Nat}{l:List jj}(r:oH g (.slice x m z) l){j:Nat}{q:jj}(c:l[j]?=some q):
  ∃(b o:Nat),aD SS.P 71 (.slice x m z) (.int .i64 (j:Int))=some (.pointer (some ⟨b,o,none⟩))/\aj SS.P 70 g (.pointer (some ⟨b,o,none⟩))=some (.agg ⟨gM q⟩)/\
   aj SS.P 3 g (.pointer (some ⟨b,o+0,none⟩))=some (.int .i64 q.i)/\aj SS.P 3 g (.pointer (some ⟨b,o+1,none⟩))=some (.int .i64 q.o)/\aj SS.P 9 g (.pointer (some ⟨b,o+2,none⟩))=some (strOf q.w)/\aj SS.P 3 g (.pointer (some ⟨b,o+3,none⟩))=some (.int .i64 q.t):=by
 have h:=(List.getElem?_eq_some_iff.1 c).1;obtain⟨b,o,e,d,a⟩:=Hl.at_ Yp Rf aeh ac5 r (ik:= .i64) (i:=(j:Int)) (by omega) (by grind);have f:(l.map gM).getD (j:Int).toNat []=gM q:=by
  rw[toNat_natCast,gD,getElem?_map,c];rfl
 rw[f]at d a;exact⟨b,o,e,d,a 3 _ 0 KL JA (by omega),a 3 _ 1 KL JA (by omega),a 9 _ 2 NX Ux (by omega),a 3 _ 3 KL JA (by omega)⟩
def SB(g:ae)(k:Nat)(f:List UInt8)(x:Option Addr)(y z:Nat):Prop:=g.get k=some (.cells [strOf f,.slice x y z] 73 0 true)
theorem SB.ok{g g':ae}{k:Nat}{x:Option Addr}{z:Nat}(s:SB g k t x m z)(o:Ok g g'):SB g' k t x m z:=o.ext _ _ s
theorem SB.l0{g:ae}{k:Nat}{x:Option Addr}{z:Nat}(s:SB g k t x m z):aj SS.P 9 g (.pointer (some ⟨k,0+0,none⟩))=some (strOf t):=dp NX Ux s (by simp)
theorem SB.l1{g:ae}{k:Nat}{x:Option Addr}{z:Nat}(s:SB g k t x m z):aj SS.P 71 g (.pointer (some ⟨k,0+1,none⟩))=some (.slice x m z):=dp Yp ac6 s (by simp)
def AB(g:ae)(k:Nat)(q:jj):Prop:=g.get k=some (.cells (gM q) 70 0 true)
theorem AB.ok{g g':ae}{k:Nat}{q:jj}(s:AB g k q)(o:Ok g g'):AB g' k q:=o.ext _ _ s
theorem AB.l0{g:ae}{k:Nat}{q:jj}(s:AB g k q):aj SS.P 3 g (.pointer (some ⟨k,0+0,none⟩))=some (.int .i64 q.i):=dp KL JA s (by simp[gM])
theorem AB.l1{g:ae}{k:Nat}{q:jj}(s:AB g k q):aj SS.P 3 g (.pointer (some ⟨k,0+1,none⟩))=some (.int .i64 q.o):=dp KL JA s (by simp[gM])
theorem AB.l2{g:ae}{k:Nat}{q:jj}(s:AB g k q):aj SS.P 9 g (.pointer (some ⟨k,0+2,none⟩))=some (strOf q.w):=dp NX Ux s (by simp[gM])
theorem AB.l3{g:ae}{k:Nat}{q:jj}(s:AB g k q):aj SS.P 3 g (.pointer (some ⟨k,0+3,none⟩))=some (.int .i64 q.t):=dp KL JA s (by simp[gM])
def UB:eB:= .cells [strOf [],.slice none 0 0] 73 0 true
theorem aaa:av SS.P 73=some (UB,np):=by rfl
def Rl:eB:= .cells [.int .i64 0,.int .i64 0,strOf [],.int .i64 0] 70 0 true
theorem UU:av SS.P 70=some (Rl,np):=by rfl
theorem QZ(w:Wf h)(f:List UInt8)(x:Option Addr)(y z:Nat):∃u:eu,ah SS.P 73 (.pointer (some ⟨h.next,0,none⟩)) (.agg ⟨[strOf f,.slice x y z]⟩) (h.push UB)=some (undef,u)/\Ok h (u.app (h.push UB))/\SB (u.app (h.push UB)) h.next f x y z:=by
 obtain⟨o,e⟩:=qk (cs:=[strOf f,.slice x y z]) w ((Ok.refl w).push UB) (aN h UB) (Nat.le_refl _);exact⟨_,lR YL rfl (aN h UB) rfl rfl,o,e⟩
theorem MS(w:Wf h)(q:jj):∃u:eu,ah SS.P 70 (.pointer (some ⟨h.next,0,none⟩)) (.agg ⟨gM q⟩) (h.push Rl)=some (undef,u)/\Ok h (u.app (h.push Rl))/\AB (u.app (h.push Rl)) h.next q:=by
 obtain⟨o,e⟩:=qk (cs:=gM q) w ((Ok.refl w).push Rl) (aN h Rl) (Nat.le_refl _);exact⟨_,lR Rf rfl (aN h Rl) rfl rfl,o,e⟩
def bM(M:bJ)(a:Option Addr)(n c:Nat):List Value:=[.int .i64 M.kind,.int .i64 M.start,strOf M.lead,.slice a n c]
def Bm(M:bJ)(a:Option Addr)(n c:Nat):eB:= .cells (bM M a n c) 29 0 true
theorem iO(M:bJ)(a:Option Addr)(n c:Nat):fu SS.P 29 (.agg ⟨bM M a n c⟩)=some (Bm M a n c,np):=by rfl
theorem fv(w:Wf h){M:bJ}{a:Option Addr}{n c:Nat}(r:dR h (.slice a n c) M.af):MB (h.push (Bm M a n c)) h.next M a n c/\Ok h (h.push (Bm M a n c)):=
 ⟨⟨aN h _,r.ok ((Ok.refl w).push _)⟩,(Ok.refl w).push _⟩
def sF(s:Int):Bool:=decide (0<=s)&&decide (s<=500)
def jf(b:Int)(N:Nat)(a:jj):Bool:=sF a.i&&sF a.o&&decide (0<=a.t)&&decide (a.t<N)&&bq b a.w
def qq(a:Int)(N:Nat):Int->List dW->Bool
 |_,[]=>true
 |b,s::r=>decide (b+s.arcs.length<=30000)&&(s.f==[]||bq a s.f)&&s.arcs.all (jf a N)&&qq a N (b+s.arcs.length) r
def db(M:bJ):Bool:=decide (1<=M.kind)&&decide (M.kind<=3)&&decide (1<=M.af.length)&&decide (M.af.length<=3000)&&decide (0<=M.start)&&decide (M.start<M.af.length)&&bq M.kind M.lead&&qq M.kind M.af.length 0 M.af
def bV(l:List dW):Nat:=(l.map λs=>s.arcs.length).sum
structure Small(M:bJ):Prop where
 lead:M.lead.length<=900
 bT:M.af.length<=300
 fin:∀s∈M.af,s.f.length<=900
 arcs:∀s∈M.af,s.arcs.length<=2000
 w:∀s∈M.af,∀q∈s.arcs,q.w.length<=900
 tot:bV M.af<=2000
end
end Go.Proofs.YtaaichlgdgjgjaaGreatDoor
end
