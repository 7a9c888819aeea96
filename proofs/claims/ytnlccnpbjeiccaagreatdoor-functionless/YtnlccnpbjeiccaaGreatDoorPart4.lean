/- Laws and walks that the proof leans on (part 4): P11; P12; P13; W6; P14; P15 and others. No condition. -/
import Derived.Test.YtnlccnpbjeiccaaGreatDoorPart3
import Derived.Test.YtnlccnpbjeiccaaGreatDoorPart2
set_option linter.unusedVariables false
set_option linter.unusedSimpArgs false
set_option maxRecDepth 100000
open List (drop_eq_nil_of_le drop_zero getElem?_drop getElem?_eq_none getElem?_map getElem?_take length_append length_drop length_replicate length_set length_singleton length_take map_append mem_append mem_singleton take_add_one take_of_length_le take_zero)
open Nat (add_mul le_of_lt lt_of_lt_of_le lt_or_ge mod_lt mul_comm mul_le_mul_right mul_pos one_mul pow_add pow_le_pow_right pow_succ zero_add zero_le)
open Bool (and_eq_true not_eq_false' not_eq_true')
open Int (toNat_natCast)
open Go.IntKind (wrap wrap_i64)
section
set_option linter.defProp false
namespace Go.Proofs.YtnlccnpbjeiccaaGreatDoor
open Go Go.Ab Go.Num
variable{h:aa}{k:Nat}{n:Nat}{d:List Value}{g:aa}
def Fa(h:aa)(X Y:Nat):VH:=λv a=>∃(g:Option Addr)(b e:Nat)(d:Option Addr)(c f:Nat),v = .tuple ⟨[.slice g b e,.slice d c f]⟩/\Rd a 240 (.slice g b e) (bl (X/Y))/\Rd a 240 (.slice d c f) (bl (X%Y))/\Ok h a
theorem Am{c:Nat}{l:List Nat}(b:h.get k=some (.cells (bT d 0 l) 240 1 true))(a:n=l.length)(e:n<=aV c):AK h k 0 n c l:=by
 refine⟨_,_,b,a,?_,e⟩;subst a;rw[nO (by omega),drop_zero,List.take_length]
theorem yb{c:Nat}{l:List Nat}(r:AK g k 0 n c l)(b:∀d∈l,d<BB):Rd g 240 (.slice (some ⟨k,0,none⟩) (cP l).length c) (bl (Num.bv BB l)):=by
 obtain⟨e,i⟩:=uI l;have f:n=l.length:=by obtain⟨_,_,_,h,_⟩:=r;exact h
 have a:=(r.take (j:=(cP l).length) (by omega)).2.rd;rw[e,iI eY b]at a;rw[iI eY b];exact a
def XE{h:aa}(w:Wf h){X Y ku kq f rc L k R:Nat}{C Zq:List Value}{Ql:List Nat}(G:h.next<=ku)(x3:h.next<=kq)(N:ku≠kq)(x6:f<=C.length)(x0:f<=10000)(V:L=Ql.length)(x4:L<=10000)(E:f<=aV rc)(u:L<=aV L)(v:0<k)(kB:k<=BB)
  (hQ:∀d∈Ql,d<BB) (Z:Num.bv BB Ql=X/Y) (hr:R/k=X%Y) (a:Option Addr) (n c:Nat) (b:Option Addr) (m d:Nat):=
 qS a n c b m d (k:Int) (some ⟨kq,0,none⟩) L L (some ⟨ku,0,none⟩) f rc (f:Int)
  (λD i left g=>i<=f/\D=f-i/\(∃(r:List Nat)(q:Nat),r.length=f/\left=(q:Int)/\iH BB k R r (f-i) q/\g.get ku=some (.cells (bT C 0 r) 240 1 true))/\g.get kq=some (.cells (bT Zq 0 Ql) 240 1 true)/\Ok h g) (Fa h X Y) (by
  intro D i left;intros;rename_i g hi;obtain⟨h1,h2,⟨r,q,j,rfl,l,y⟩,B,S⟩:=hi;have P:BB=1000000000:=rfl;have J:wrap .i64 ((f:Int)-1)=(f:Int)-1:=aO (by omega) (by omega);have F:wrap .i64 ((f:Int)-1-(i:Int))=(f:Int)-1-(i:Int):=aO (by omega) (by omega);have H:wrap .i64 ((i:Int)+1)=((i+1:Nat):Int):=by rw[aO (by omega) (by omega)];omega
  rw[J,F,H];refine ah (λs=>?_) (λs=>?_)
  ·have s:=dT s;have Q:((f:Int)-1-(i:Int)).toNat=f-1-i:=by omega
   have W:=BP y (by rw[j];omega) (i:=f-1-i) (by rw[j];omega);have x2:=l.lt;have x5:r.getD (f-1-i) 0<BB:=bp (by decide) l.rl _;obtain⟨o,A⟩:∃x,x=q*BB:=⟨_,rfl⟩
   have x1:o=1000000000*q:=by rw[A,P,mul_comm]
   have T:wrap .u64 ((q:Int)*1000000000)=(o:Int):=wU (by omega) (by omega);have U:wrap .u64 ((o:Int)+((r.getD (f-1-i) 0:Nat):Int))=((o+r.getD (f-1-i) 0:Nat):Int):=wU (by omega) (by omega);refine⟨_,vy (by omega) (by omega),_,by rw[Q];exact W,?_⟩;dsimp only;rw[T,U];refine⟨_,UL (by omega) v,_,aao v,_,vy (by omega) (by omega),?_⟩;have K:=CA (g:=room g 11) y (by rw[j];omega) (i:=f-1-i) (by rw[j];omega) ((o+r.getD (f-1-i) 0)/k);have z:=S.room 11;have O:=z.wf _ _ (show(room g 11).get ku=_ from y);refine⟨_,by rw[Q];exact K,?_⟩;have p:=iH.step (at':=f-1-i) v (by rw[show f-1-i+1=f-i by omega];exact l);rw[<-A]at p;refine mE (D-1) (by omega) ⟨by omega,by omega,⟨r.set (f-1-i) ((o+r.getD (f-1-i) 0)/k),(o+r.getD (f-1-i) 0)%k,by rw[length_set,j],rfl,by rw[show f-(i+1)=f-1-i by omega];exact p,?_⟩,?_,z.set _ G O w⟩
   ·show((room g 11).set ku _).get ku=_;rw[aa.aw,if_pos rfl]
   ·show((room g 11).set ku _).get kq=_;rw[aa.aw,if_neg (λe=>N e.symm)];exact B
  ·have s:=dF s;obtain rfl:i=f:=by omega
   rw[Nat.sub_self]at l;have t:=l.done v;have I:=Am B V u;have M:=Am y j.symm E;refine(nC I (by omega)).mono ?_;rintro _ _ ⟨rfl,rfl⟩;refine⟨_,_,_,rfl,(nC M (by omega)).mono ?_⟩;rintro _ _ ⟨rfl,rfl⟩;refine⟨_,_,_,rfl,_,_,_,_,_,_,rfl,?_,?_,S⟩
   ·have:=yb I hQ;rw[Z]at this;exact this
   ·have:=yb M l.rl;rw[t,hr]at this;exact this)
theorem Ok.but{b:aa}(o:Ok h g)(w:Wf h)(x:HL g k b)(c:h.next<=k):Ok h b:=
 ⟨x.wf,λj B a=>x.jb j B (λe=>by have:=w _ _ a;omega) (o.ext j B a),Nat.le_trans o.nx x.nx⟩
def XF{h2:aa}{X Y N m L k ku kv kq ec:Nat}{cu cv:List Value}(hY:0<Y)(hm:0<m)(y4:m<=N)(hN:N<=5000)(hL:L=N+1-m)(u:0<k)(kB:k<=BB)(o:(aG BB (Y*k)).length=m)(H:Y*k<=BB^m)(a:Option Addr)(n c:Nat)(b:Option Addr)(d:Nat):=
 qR a n c b m d (k:Int) (some ⟨kq,0,none⟩) L L (some ⟨ku,0,none⟩) (N+1) (ca+cu.length) (some ⟨kv,0,none⟩) m ec (L:Int)
  (λO i G=>i<=L/\O=L-i/\∃U j:List Nat,aaw h2 G ku kv kq cu cv U j N m (X*k) (Y*k) (L-i)) (Fa h2 X Y) (by
  intro O i;intros;rename_i G hi;obtain⟨h1,y2,U,j,D⟩:=hi;have M:0<Y*k:=mul_pos hY u;have x4:wrap .i64 ((L:Int)-1)=(L:Int)-1:=aO (by omega) (by omega);have x2:wrap .i64 ((i:Int)+1)=((i+1:Nat):Int):=by rw[aO (by omega) (by omega)];omega
  have s:aV (ca+cu.length)=cu.length:=by unfold aV;rw[if_pos (by omega)];omega
  have y1:=D.ul;have K:=D.cl;have F:=D.abw;have ru:=Am (c:=ca+cu.length) D.gu y1.symm (by rw[s];exact K);rw[x4];refine ah (λv=>?_) (λv=>?_)
  ·have v:=dT v;obtain⟨f,y3⟩:∃x,x=L-1-i:=⟨_,rfl⟩
   have Z:wrap .i64 ((L:Int)-1-(i:Int))=(f:Int):=by rw[aO (by omega) (by omega)];omega
   have x9:wrap .i64 ((f:Int)+(m:Int))=((f+m:Nat):Int):=by rw[aO (by omega) (by omega)];omega
   have x1:wrap .i64 (((f+m:Nat):Int)+1)=((f+m+1:Nat):Int):=by rw[aO (by omega) (by omega)];omega
   rw[Z,x9,x1,x2];have h:fW BB m (Y*k) (X*k) U j (f+1):=by rw[show f+1=L-i by omega];exact D.inv
   obtain⟨w1,w2,t⟩:=h.Hn eY H;have r:=ru.Hn (lo:=f) (hi:=f+m+1) (by omega) (by omega);rw[show f+m+1-f=m+1 by omega,zero_add]at r;refine⟨_,_,_,r,?_⟩;have P:(bT cu 0 U).length=cu.length:=BN (by omega);have DI:ZO G ku f (ca+cu.length-f) m (bT cu 0 U) ((U.drop f).take (m+1)) (aG BB (Y*k)) (some ⟨kv,0,none⟩) ec:={
    w:=D.ok.wf
    get:=by
     rw[kN (by rw[t];exact nO (by omega))];exact D.gu
    fit:=by rw[t,P];omega
    ul:=t
    vl:=o
    mp:=hm
    mle:=by omega
    ult:=λx A=>h.ul x (List.mem_of_mem_drop (List.mem_of_mem_take A))
    vlt:=cz eY _
    v1:=by have:=DN eY M;rwa[o]at this
    lt:=by rw[bJ eY];exact w2
    rd:=λg og=> .inr ⟨kv,0,cv,ec,true,by rw[lM,o],og.jb _ _ (λe=>D.uv' e.symm) D.gv,by rw[drop_zero,lM];exact D.ZG⟩ }
   refine(Jb DI).mono ?_;rintro _ V ⟨W',z,x8,l,rfl,S,p⟩;rw[bJ eY]at l;have x6:Num.bv BB ((U.drop f).take (m+1))/Num.bv BB (aG BB (Y*k))=Num.bv BB ((U.drop f).take (m+1))/(Y*k):=by rw[bJ eY]
   rw[x6];have y0:Num.bv BB ((U.drop f).take (m+1))/(Y*k)<BB:=Nat.div_lt_of_lt_mul (by rw[mul_comm];exact w2);have J:=p.jb _ _ (λe=>D.uq e.symm) D.gq;have x3:=p.jb _ _ (λe=>D.uv' e.symm) D.gv;have I:=Ok.but D.ok D.w2 p D.u2;have x0:((List.replicate (N+1-m) 0).map uv).length=N+1-m:=by rw[lM,length_replicate]
   have x5:=CA J (by rw[x0];omega) (i:=f) (by omega) (Num.bv BB ((U.drop f).take (m+1))/(Y*k));have x7:=I.wf _ _ J;have E:=vy (k:=kq) (off:=0) (n:=L) (c:=L) (i:=(f:Int)) (by omega) (by omega);rw[toNat_natCast]at E;refine⟨_,rfl,_,E,_,x5,?_⟩;have y:Num.bv BB ((U.drop f).take (m+1))=Num.bv BB W'+Num.bv BB ((U.drop f).take (m+1))/(Y*k)*(Y*k):=by
    have h9:=Nat.mod_add_div (Num.bv BB ((U.drop f).take (m+1))) (Y*k);rw[mul_comm (Y*k)]at h9;rw[l];exact h9.symm
   have T:=h.step eY H x8 z y0 y (by rw[l];exact mod_lt _ M);refine cK (O-1) (by omega) ⟨by omega,by omega,U.take f++W'++U.drop (f+(m+1)),j.set f (Num.bv BB ((U.drop f).take (m+1))/(Y*k)),{
    ok:=I.set _ D.q2 x7 D.w2
    w2:=D.w2
    u2:=D.u2
    q2:=D.q2
    gu:= ?_
    gv:= ?_
    gq:= ?_
    uv':=D.uv'
    uq:=D.uq
    vq:=D.vq
    ul:= ?_
    cl:=K
    abw:=by rw[length_set];exact F
    ZG:=D.ZG
    inv:=by rw[show L-(i+1)=f by omega];exact T }⟩
   ·show(V.set kq _).get ku=_;rw[aa.aw,if_neg D.uq,S,Df (W:=(U.drop f).take (m+1)) (by omega) (by omega) (by rw[z,t]) (by rw[t]),z]
   ·show(V.set kq _).get kv=_;rw[aa.aw,if_neg D.vq];exact x3
   ·show(V.set kq _).get kq=_;rw[aa.aw,if_pos rfl]
   ·simp only[length_append,length_take,length_drop,z];omega
  ·have v:=dF v;obtain rfl:i=L:=by omega
   have h:=D.inv;rw[Nat.sub_self]at h;obtain⟨d1,d2⟩:=h.done;obtain⟨e1,e2⟩:=zy (X:=X) (Y:=Y) u;rw[e1]at d1;rw[e2]at d2;have q:=h.ul;obtain⟨t1,t2⟩:=uI U;refine(nC ru (by omega)).mono ?_;rintro _ _ ⟨rfl,rfl⟩;refine⟨_,_,_,rfl,?_⟩;have P:(bT cu 0 U).length=cu.length:=BN (by omega);have B:aV (N+1-m)=N+1-m:=by unfold aV;rw[if_neg (by unfold ca;omega)]
   have Q:Num.bv BB (cP U)=X%Y*k:=by rw[iI eY q,bJ eY,d2]
   subst hL;rename_i G';refine XE D.w2 (X:=X) (Y:=Y) (ku:=ku) (kq:=kq) (rc:=ca+cu.length) (k:=k) (R:=X%Y*k) (C:=bT cu 0 U) (Zq:=(List.replicate (N+1-m) 0).map uv) (Ql:=j) D.u2 D.q2 D.uq (by rw[P];omega) (by omega) F.symm (by omega) (by rw[s];omega) (by rw[B];exact Nat.le_refl _) u kB h.ql d1 (Nat.mul_div_cancel _ u) a n c b m d _ (i:=0)
    ⟨zero_le _,rfl,⟨cP U,0,rfl,rfl,⟨λx A=>q x (by rw[<-t1]at A;exact List.mem_of_mem_take A),by omega,u,?_⟩,?_⟩,D.gq,D.ok⟩
   ·rw[Nat.sub_zero,List.drop_length,List.take_length,Q];simp[Num.bv]
   ·rw[kN (by rw[nO (by omega),drop_zero,t1])];exact D.gu)
end Go.Proofs.YtnlccnpbjeiccaaGreatDoor
end
section
namespace Go.Proofs.YtnlccnpbjeiccaaGreatDoor
open Go Go.Ab Go.Num
variable{h:aa}{a:Option Addr}{n:Nat}{j:Nat}{l:Nat}
theorem Gu{b:Option Addr}{c:Nat}{X Y:Nat}(V:Rd h 240 (.slice a n c) (bl X))(T:Rd h 240 (.slice b j l) (bl Y))(hY:0<Y)(hN:(aG BB X).length<=5000)(hM:(aG BB Y).length<=5000)(w:Wf h):
  FW SS 238 [.slice a n c,.slice b j l] h (Fa h X Y):=by
 have z7:BB=1000000000:=rfl;have hn:n=(aG BB X).length:=by have:=V.len;rwa[lM]at this
 have y0:j=(aG BB Y).length:=by have:=T.len;rwa[lM]at this
 obtain⟨f1,f2,s,C,f5,G⟩:=RW eY hY;rw[<-y0]at f1 f2 s C f5 G;generalize x6:(aG BB Y).getD (j-1) 0=v at f2 s C G;generalize y2:BB/(v+1)=k at s C G;refine Gr a n c b j l h _ ((nP V T (by omega) w).mono ?_);rintro _ h2 ⟨rfl,f⟩;refine⟨_,rfl,ah (λz=>?_) (λz=>?_)⟩
 ·have z:=tA.1 (dT z);refine⟨_,_,_,_,_,_,rfl,.inl ⟨rfl,?_⟩,?_,f⟩
  ·rw[Nat.div_eq_of_lt z];show(aG BB 0).map uv=[];rw[ej];rfl
  ·rw[Nat.mod_eq_of_lt z];exact V.ok f
 ·have z5:Y<=X:=by
   rcases lt_or_ge X Y with h|h
   ·exact absurd (tA.2 h) (dF z)
   ·exact h
  have hX:0<X:=by omega
  have x4:j<=n:=by
   rcases lt_or_ge n j with h|h
   ·have:=ji eY (m:=X) (n:=Y) (by omega);omega
   ·exact h
  have y1:wrap .i64 ((j:Int)-1)=((j-1:Nat):Int):=by rw[aO (by omega) (by omega)];omega
  have hj:((j-1:Nat):Int).toNat=j-1:=by omega
  obtain⟨p,g2,g3⟩:=D0 (T.ok f) (i:=((j-1:Nat):Int)) (by omega) (by omega);rw[hj,x6]at g3;have et:wrap .u64 ((v:Int)+1)=((v+1:Nat):Int):=wU (by omega) (by omega);have x5:ay SS.P .quo 240 (.int .u64 1000000000) (.int .u64 ((v+1:Nat):Int))=some (.int .u64 (k:Int)):=by
   have:=UL (a:=BB) (b:=v+1) (by decide) (by omega);rw[y2]at this;exact this
  rw[y1];refine⟨p,g2,_,g3,?_⟩;dsimp only;rw[et];refine⟨_,x5,?_⟩;refine(vR (V.ok f) (cz eY X) (by omega) s C f.wf).mono ?_;rintro _ h8 ⟨a9,I,y7,rfl,R,E⟩;rw[bJ eY]at R;refine⟨a9,I,y7,rfl,(vR ((T.ok f).ok E) (cz eY Y) (by omega) s C E.wf).mono ?_⟩;rintro _ z8 ⟨x8,d,O,rfl,ov,H⟩;rw[bJ eY]at ov;refine⟨x8,d,O,rfl,?_⟩;have z6:0<Y*k:=mul_pos hY s;have J:(aG BB (Y*k)).length=j:=Ff eY G (Nat.le_trans f5 (Nat.le_mul_of_pos_right Y s)) f1;have q:(bl (Y*k)).length=j:=by rw[lM];exact J
  rcases ov with⟨_,e⟩|⟨A,cv,e,x7,gv,tv,lv⟩
  ·rw[e]at q;simp at q;omega
  injection e with e1 e2 e3
  subst e1;obtain rfl:d=j:=by rw[e2,q]
  rw[q]at tv;have B:=dU (cz eY X);rw[bJ eY,<-hn]at B;have z3:0<X*k:=mul_pos hX s;have L1:=qQ a n c b d l (k:Int) (some ⟨A,0,none⟩) d O
   (λmz r y rc g=>y<=n+1/\mz=n+1-y/\0<y/\∃U:List Nat,U.length=y/\fg h g 240 (.slice r y rc) (U.map uv)/\Ok h g/\(∀x∈U,x<BB)/\Num.bv BB U=X*k/\g.get A=some (.cells cv 240 1 true)/\(∀o n c,Value.slice r y rc≠ .slice (some ⟨A,o,none⟩) n c)) (Fa h X Y) (by
   intro mz r y rc;intros;rename_i g hi;obtain⟨z,z4,h3,U,D,o,ok,x1,x3,F,M⟩:=hi;refine ah (λQ=>?_) (λQ=>?_)
   ·have Q:=dT Q;refine⟨_,_,_,p8 _,?_⟩;obtain⟨b',m',d',u,g6,g7,g8,g9,y6,y5⟩:=fg.adN (P:=SS.P) (t:=260) (x:= .int .u64 0) zj JF Cn w ok o rfl (by rw[zd,lM];omega) (by rw[lM];omega);rw[lM,D]at g7;subst g7;refine⟨b',_,d',u,g6,IN (mz-1) (by omega) ⟨by omega,by omega,by omega,U++[0],by simp[D],?_,g9,?_,?_,y6 _ _ F M,?_⟩⟩
    ·rw[map_append];exact g8
    ·intro x K;rcases mem_append.1 K with K|K
     ·exact x1 x K
     ·rw[mem_singleton.1 K];decide
    ·rw[nV,x3];simp
    ·intro o' n' c' e;rcases y5 _ _ _ _ e with h7|⟨o2,n2,c2,h7⟩
     ·have:=ok.wf _ _ F;omega
     ·exact M _ _ _ h7
   ·have Q:=dF Q;obtain rfl:y=n+1:=by omega
    rcases o with⟨_,e⟩|⟨Z,W,e,x2,gu,tu,lu⟩
    ·have:=congrArg List.length e;rw[lM,D]at this;have h9:n+1=0:=this;omega
    rw[lM,D]at e tu lu;injection e with e1 _ e3
    subst e1;subst e3;have y4:wrap .i64 (((n+1:Nat):Int)-(d:Int))=((n+1-d:Nat):Int):=by rw[aO (by omega) (by omega)];omega
    rw[y4];refine⟨_,_,_,aah _ (by omega),?_⟩;have z2:=ok.wf _ _ gu;have z1:=ok.wf _ _ F;have x9:Z≠A:=λe=>M 0 (n+1) (ca+W.length) (by rw[e]);have S:((List.replicate (n+1-d) 0).map uv).length=n+1-d:=by rw[lM,length_replicate]
    exact XF (h2:=h) (X:=X) (Y:=Y) (N:=n) (m:=d) (L:=n+1-d) (k:=k) (ku:=Z) (kv:=A) (kq:=g.next) (ec:=O) (cu:=W) (cv:=cv) hY f1 x4 (by omega) rfl s C J (le_of_lt G) a n c b l (n+1-d) (i:=0)
     ⟨zero_le _,rfl,U,List.replicate (n+1-d) 0,{
      ok:=ok.push _
      w2:=w
      u2:=x2
      q2:=ok.nx
      gu:=by
       rw[aa.aM,if_neg (by omega),kN (by rw[drop_zero,D];exact tu)];exact gu
      gv:=by rw[aa.aM,if_neg (by omega)];exact F
      gq:=by
       rw[aa.aM,if_pos rfl,kN (by rw[drop_zero,length_replicate,take_of_length_le (by rw[S];exact Nat.le_refl _)])]
      uv':=x9
      uq:=by omega
      vq:=by omega
      ul:=D
      cl:=lu
      abw:=by rw[length_replicate]
      ZG:=by rw[J];exact tv
      inv:=fW.start eY x1 D x4 B f5 f1 s x3 }⟩)
  have y3:=fg.aee f.nx R;have x0:I=(aG BB (X*k)).length:=by have:=R.len;rwa[lM]at this
  have y8:h8.next<=A:=x7;have z0:(aG BB (X*k)).length<=n+1:=by
   refine jh eY ?_;rw[pow_succ];exact lt_of_lt_of_le (Nat.mul_lt_mul_of_pos_right B s) (Nat.mul_le_mul_left _ C)
  have y9:0<(aG BB (X*k)).length:=List.length_pos_iff.2 λe=>by have:=(fH eY).1 e;omega
  refine L1 (n+1-I) ⟨by omega,rfl,by omega,aG BB (X*k),x0.symm,y3.ok H,(f.trans E).trans H,cz eY _,bJ eY _,gv,?_⟩;intro o n' c' e;rcases R with⟨e',_⟩|⟨Z,W,e',x2,gu,_,_⟩
  ·rw[e']at e;injection e with e;cases e
  ·rw[e']at e;injection e with e _ _
   injection e with e
   injection e with e
   have:=E.wf _ _ gu;omega
abbrev fD:LB:=[0,1,2,2,3,3,3,3,4,4,4,4,4,4,4,4,5,5,5,5,5,5,5,5,5,5,5,5,5,5,5,5,6,6,6,6,6,6,6,6,6,6,6,6,6,6,6,6,6,6,6,6,6,6,6,6,6,6,6,6,6,6,6,6,7,7,7,7,7,7,7,7,7,7,7,7,7,7,7,7,7,7,7,7,7,7,7,7,7,7,7,7,7,7,7,7,7,7,7,7,7,7,7,7,7,7,7,7,7,7,7,7,7,7,7,7,7,7,7,7,7,7,7,7,7,7,7,7,8,8,8,8,8,8,8,8,8,8,8,8,8,8,8,8,8,8,8,8,8,8,8,8,8,8,8,8,8,8,8,8,8,8,8,8,8,8,8,8,8,8,8,8,8,8,8,8,8,8,8,8,8,8,8,8,8,8,8,8,8,8,8,8,8,8,8,8,8,8,8,8,8,8,8,8,8,8,8,8,8,8,8,8,8,8,8,8,8,8,8,8,8,8,8,8,8,8,8,8,8,8,8,8,8,8,8,8,8,8,8,8,8,8,8,8,8,8,8,8,8,8,8,8,8,8,8,8]
noncomputable def Yt:FD:=ei Tryz.f186 []
theorem TG(u:Int)(h:aa)(Q:VH)(m:aQ (decide ((u:Int)>=4294967296)) (xI .u64 (ay SS.P .shr 240 (.int .u64 u) (.int .u64 32)) λa=>aQ (decide ((a:Int)>=65536)) (xI .u64 (ay SS.P .shr 240 (.int .u64 a) (.int .u64 16)) λc=>aQ (decide ((c:Int)>=256)) (xI .u64 (ay SS.P .shr 240 (.int .u64 c) (.int .u64 8)) λl=>xI .u8 (bH SS.P 9 (strOf fD) (.int .u8 (wrap .u8 l))) λq=>Q (.int .i64 (wrap .i64 (wrap .i64 (wrap .i64 (32+16)+8)+wrap .i64 q))) h) (xI .u8 (bH SS.P 9 (strOf fD) (.int .u8 (wrap .u8 c))) λk=>Q (.int .i64 (wrap .i64 (wrap .i64 (32+16)+wrap .i64 k))) h)) (aQ (decide ((a:Int)>=256)) (xI .u64 (ay SS.P .shr 240 (.int .u64 a) (.int .u64 8)) λn=>xI .u8 (bH SS.P 9 (strOf fD) (.int .u8 (wrap .u8 n))) λo=>Q (.int .i64 (wrap .i64 (wrap .i64 (32+8)+wrap .i64 o))) h) (xI .u8 (bH SS.P 9 (strOf fD) (.int .u8 (wrap .u8 a))) λp=>Q (.int .i64 (wrap .i64 (32+wrap .i64 p))) h))) (aQ (decide ((u:Int)>=65536)) (xI .u64 (ay SS.P .shr 240 (.int .u64 u) (.int .u64 16)) λb=>aQ (decide ((b:Int)>=256)) (xI .u64 (ay SS.P .shr 240 (.int .u64 b) (.int .u64 8)) λg=>xI .u8 (bH SS.P 9 (strOf fD) (.int .u8 (wrap .u8 g))) λi=>Q (.int .i64 (wrap .i64 (wrap .i64 (wrap .i64 (0+16)+8)+wrap .i64 i))) h) (xI .u8 (bH SS.P 9 (strOf fD) (.int .u8 (wrap .u8 b))) λj=>Q (.int .i64 (wrap .i64 (wrap .i64 (0+16)+wrap .i64 j))) h)) (aQ (decide ((u:Int)>=256)) (xI .u64 (ay SS.P .shr 240 (.int .u64 u) (.int .u64 8)) λe=>xI .u8 (bH SS.P 9 (strOf fD) (.int .u8 (wrap .u8 e))) λd=>Q (.int .i64 (wrap .i64 (wrap .i64 (0+8)+wrap .i64 d))) h) (xI .u8 (bH SS.P 9 (strOf fD) (.int .u8 (wrap .u8 u))) λf=>Q (.int .i64 (wrap .i64 (0+wrap .i64 f))) h)))):FW SS 186 [(.int .u64 u)] h Q:=eu Yt Tryz.func186 (ax m)
noncomputable def I2:FD:=ei Tryz.f298 []
theorem Gi(n:Int)(h:aa)(Q:VH)(b:xI .i64 (ay SS.P .shr 3 (.int .i64 (wrap .i64 (n*78913))) (.int .u64 18)) λa=>Q (.int .i64 a) h):FW SS 298 [(.int .i64 n)] h Q:=eu I2 Tryz.func298 (ax b)
noncomputable def Xc:FD:=ei Tryz.f299 []
theorem Su(b:Bool)(h:aa)(Q:VH)(a:aQ b (Q (.int .i64 1) h) (Q (.int .i64 0) h)):FW SS 299 [(.bool b)] h Q:=eu Xc Tryz.func299 (ax a)
noncomputable def Jk:FD:=ei Tryz.f293 []
theorem GA(u:Int)(h:aa)(Q:VH)(g:FW SS 186 [(.int .u64 u)] h λm i=>yI .i64 m λe=>FW SS 298 [(.int .i64 e)] i λf d=>yI .i64 f λa=>xP (ai SS.P 328 (pA 1) (.int .i64 a)) λj=>xI .u64 (ae SS.P 240 d (.pointer (some j))) λl=>FW SS 299 [(.bool (decide ((u:Int)>=l)))] d λk c=>yI .i64 k λb=>Q (.int .i64 (wrap .i64 (a+b))) c):FW SS 293 [(.int .u64 u)] h Q:=eu Jk Tryz.func293 (ax g)
abbrev bK:LB:=[48,48,48,49,48,50,48,51,48,52,48,53,48,54,48,55,48,56,48,57,49,48,49,49,49,50,49,51,49,52,49,53,49,54,49,55,49,56,49,57,50,48,50,49,50,50,50,51,50,52,50,53,50,54,50,55,50,56,50,57,51,48,51,49,51,50,51,51,51,52,51,53,51,54,51,55,51,56,51,57,52,48,52,49,52,50,52,51,52,52,52,53,52,54,52,55,52,56,52,57,53,48,53,49,53,50,53,51,53,52,53,53,53,54,53,55,53,56,53,57,54,48,54,49,54,50,54,51,54,52,54,53,54,54,54,55,54,56,54,57,55,48,55,49,55,50,55,51,55,52,55,53,55,54,55,55,55,56,55,57,56,48,56,49,56,50,56,51,56,52,56,53,56,54,56,55,56,56,56,57,57,48,57,49,57,50,57,51,57,52,57,53,57,54,57,55,57,56,57,57]
noncomputable def Zm:FD:=ei Tryz.f292 []
theorem Vk(n:Int)(h:aa)(Q:VH)(a:aQ (decide ((n:Int)<10)) (xS (bm SS.P 9 (strOf [48,49,50,51,52,53,54,55,56,57,97,98,99,100,101,102,103,104,105,106,107,108,109,110,111,112,113,114,115,116,117,118,119,120,121,122]) (some (.int .i64 n)) (some (.int .i64 (wrap .i64 (n+1)))) none h) λb=>Q (strOf b) h) (xS (bm SS.P 9 (strOf bK) (some (.int .i64 (wrap .i64 (n*2)))) (some (.int .i64 (wrap .i64 (wrap .i64 (n*2)+2)))) none h) λc=>Q (strOf c) h)):FW SS 292 [(.int .i64 n)] h Q:=eu Zm Tryz.func292 (ax a)
noncomputable def pe:FD:=ei Tryz.f294 [([1,0,0,0],[0,1,4])]
abbrev ke(a:OA)(n c:Nat)(i:Nat)(v:Int):LV:=[(.slice a n c),(.int .u64 v),(iA i)]
theorem Tk(a:OA)(n c:Nat)(u:Int)(h:aa)(Q:VH)(b:LL SS pe [1,0,0,0] (ke a n c n u) h (KK SS pe [1,0,0] [] (EE SS pe Q))):FW SS 294 [(.slice a n c),(.int .u64 u)] h Q:=eu pe Tryz.func294 (ax b)
theorem xu(a:OA)(n c:Nat)(u:Int)  (e:Nat->Nat->Int->aa->Prop) (Q:VH) (step:∀(d:Nat)(i:Nat)(v:Int)(zz:Nat->Value)(h:aa),e d i v h->aQ (decide (((i:Int):Int)>=8)) (xI .u64 (ay SS.P .rem 240 (.int .u64 v) (.int .u64 100000000)) λU=>xI .u64 (ay SS.P .quo 240 (.int .u64 v) (.int .u64 100000000)) λn2=>xI .u32 (ay SS.P .quo 238 (.int .u32 (wrap .u32 U)) (.int .u32 10000)) λJ=>xI .u32 (ay SS.P .rem 238 (.int .u32 (wrap .u32 U)) (.int .u32 10000)) λn4=>xI .u32 (ay SS.P .quo 238 (.int .u32 n4) (.int .u32 100)) λF=>xI .u32 (ay SS.P .rem 238 (.int .u32 n4) (.int .u32 100)) λn6=>xI .u32 (ay SS.P .quo 238 (.int .u32 J) (.int .u32 100)) λn7=>xI .u32 (ay SS.P .rem 238 (.int .u32 J) (.int .u32 100)) λn8=>xI .u8 (bH SS.P 9 (strOf bK) (.int .u32 (wrap .u32 (wrap .u32 (n6*2)+1)))) λn9=>xI .u8 (bH SS.P 9 (strOf bK) (.int .u32 (wrap .u32 (n6*2)))) λx1=>xP (ai SS.P 183 (.slice a n c) (.int .i64 (wrap .i64 ((i:Int)-1)))) λy4=>xU (aj SS.P 5 (.pointer (some y4)) (.int .u8 n9) (room h 15)) (room h 15) λv4 l=>xP (ai SS.P 183 (.slice a n c) (.int .i64 (wrap .i64 ((i:Int)-2)))) λW=>xU (aj SS.P 5 (.pointer (some W)) (.int .u8 x1) l) l λv2 m=>xI .u8 (bH SS.P 9 (strOf bK) (.int .u32 (wrap .u32 (wrap .u32 (F*2)+1)))) λz3=>xI .u8 (bH SS.P 9 (strOf bK) (.int .u32 (wrap .u32 (F*2)))) λX=>xP (ai SS.P 183 (.slice a n c) (.int .i64 (wrap .i64 ((i:Int)-3)))) λZ=>xU (aj SS.P 5 (.pointer (some Z)) (.int .u8 z3) (room m 15)) (room m 15) λu4 z=>xP (ai SS.P 183 (.slice a n c) (.int .i64 (wrap .i64 ((i:Int)-4)))) λL=>xU (aj SS.P 5 (.pointer (some L)) (.int .u8 X) z) z λz9 q=>xI .u8 (bH SS.P 9 (strOf bK) (.int .u32 (wrap .u32 (wrap .u32 (n8*2)+1)))) λM=>xI .u8 (bH SS.P 9 (strOf bK) (.int .u32 (wrap .u32 (n8*2)))) λy9=>xP (ai SS.P 183 (.slice a n c) (.int .i64 (wrap .i64 ((i:Int)-5)))) λz1=>xU (aj SS.P 5 (.pointer (some z1)) (.int .u8 M) (room q 15)) (room q 15) λz7 p=>xP (ai SS.P 183 (.slice a n c) (.int .i64 (wrap .i64 ((i:Int)-6)))) λT=>xU (aj SS.P 5 (.pointer (some T)) (.int .u8 y9) p) p λv0 t=>xI .u8 (bH SS.P 9 (strOf bK) (.int .u32 (wrap .u32 (wrap .u32 (n7*2)+1)))) λx0=>xI .u8 (bH SS.P 9 (strOf bK) (.int .u32 (wrap .u32 (n7*2)))) λR=>xP (ai SS.P 183 (.slice a n c) (.int .i64 (wrap .i64 ((i:Int)-7)))) λy8=>xU (aj SS.P 5 (.pointer (some y8)) (.int .u8 x0) (room t 15)) (room t 15) λv3 B=>xP (ai SS.P 183 (.slice a n c) (.int .i64 (wrap .i64 ((i:Int)-8)))) λz4=>xU (aj SS.P 5 (.pointer (some z4)) (.int .u8 R) B) B λz8 K=>aJ (C1 (ke a n c) e) d [(.slice a n c),(.int .u64 n2),(.int .i64 (wrap .i64 ((i:Int)-8)))] K) (aQ (decide (((i:Int):Int)>=4)) (xI .u32 (ay SS.P .rem 238 (.int .u32 (wrap .u32 v)) (.int .u32 10000)) λA=>xI .u32 (ay SS.P .quo 238 (.int .u32 (wrap .u32 v)) (.int .u32 10000)) λf=>xI .u32 (ay SS.P .quo 238 (.int .u32 A) (.int .u32 100)) λC=>xI .u32 (ay SS.P .rem 238 (.int .u32 A) (.int .u32 100)) λo=>xI .u8 (bH SS.P 9 (strOf bK) (.int .u32 (wrap .u32 (wrap .u32 (o*2)+1)))) λY=>xI .u8 (bH SS.P 9 (strOf bK) (.int .u32 (wrap .u32 (o*2)))) λx4=>xP (ai SS.P 183 (.slice a n c) (.int .i64 (wrap .i64 ((i:Int)-1)))) λy6=>xU (aj SS.P 5 (.pointer (some y6)) (.int .u8 Y) (room h 15)) (room h 15) λu7 r=>xP (ai SS.P 183 (.slice a n c) (.int .i64 (wrap .i64 ((i:Int)-2)))) λG=>xU (aj SS.P 5 (.pointer (some G)) (.int .u8 x4) r) r λu9 w=>xI .u8 (bH SS.P 9 (strOf bK) (.int .u32 (wrap .u32 (wrap .u32 (C*2)+1)))) λH=>xI .u8 (bH SS.P 9 (strOf bK) (.int .u32 (wrap .u32 (C*2)))) λI=>xP (ai SS.P 183 (.slice a n c) (.int .i64 (wrap .i64 ((i:Int)-3)))) λx9=>xU (aj SS.P 5 (.pointer (some x9)) (.int .u8 H) (room w 15)) (room w 15) λu5 D=>xP (ai SS.P 183 (.slice a n c) (.int .i64 (wrap .i64 ((i:Int)-4)))) λy5=>xU (aj SS.P 5 (.pointer (some y5)) (.int .u8 I) D) D λu8 b=>aQ (decide ((wrap .i64 ((i:Int)-4):Int)>=2)) (xI .u32 (ay SS.P .rem 238 (.int .u32 f) (.int .u32 100)) λy=>xI .u32 (ay SS.P .quo 238 (.int .u32 f) (.int .u32 100)) λy7=>xI .u8 (bH SS.P 9 (strOf bK) (.int .u32 (wrap .u32 (wrap .u32 (y*2)+1)))) λx3=>xI .u8 (bH SS.P 9 (strOf bK) (.int .u32 (wrap .u32 (y*2)))) λy2=>xP (ai SS.P 183 (.slice a n c) (.int .i64 (wrap .i64 (wrap .i64 ((i:Int)-4)-1)))) λz0=>xU (aj SS.P 5 (.pointer (some z0)) (.int .u8 x3) (room b 15)) (room b 15) λu0 k=>xP (ai SS.P 183 (.slice a n c) (.int .i64 (wrap .i64 (wrap .i64 ((i:Int)-4)-2)))) λV=>xU (aj SS.P 5 (.pointer (some V)) (.int .u8 y2) k) k λu6 j=>aQ (decide ((wrap .i64 (wrap .i64 ((i:Int)-4)-2):Int)>0)) (xP (ai SS.P 183 (.slice a n c) (.int .i64 0)) λz2=>xU (aj SS.P 5 (.pointer (some z2)) (.int .u8 (wrap .u8 (wrap .u32 (48+y7)))) j) j λz5 x8=>Q (.tuple ⟨[]⟩) x8) (Q (.tuple ⟨[]⟩) j)) (aQ (decide ((wrap .i64 ((i:Int)-4):Int)>0)) (xP (ai SS.P 183 (.slice a n c) (.int .i64 0)) λx6=>xU (aj SS.P 5 (.pointer (some x6)) (.int .u8 (wrap .u8 (wrap .u32 (48+f)))) b) b λu2 x2=>Q (.tuple ⟨[]⟩) x2) (Q (.tuple ⟨[]⟩) b))) (aQ (decide (((i:Int):Int)>=2)) (xI .u32 (ay SS.P .rem 238 (.int .u32 (wrap .u32 v)) (.int .u32 100)) λs=>xI .u32 (ay SS.P .quo 238 (.int .u32 (wrap .u32 v)) (.int .u32 100)) λx7=>xI .u8 (bH SS.P 9 (strOf bK) (.int .u32 (wrap .u32 (wrap .u32 (s*2)+1)))) λy3=>xI .u8 (bH SS.P 9 (strOf bK) (.int .u32 (wrap .u32 (s*2)))) λy0=>xP (ai SS.P 183 (.slice a n c) (.int .i64 (wrap .i64 ((i:Int)-1)))) λN=>xU (aj SS.P 5 (.pointer (some N)) (.int .u8 y3) (room h 15)) (room h 15) λz6 x=>xP (ai SS.P 183 (.slice a n c) (.int .i64 (wrap .i64 ((i:Int)-2)))) λx5=>xU (aj SS.P 5 (.pointer (some x5)) (.int .u8 y0) x) x λu1 g=>aQ (decide ((wrap .i64 ((i:Int)-2):Int)>0)) (xP (ai SS.P 183 (.slice a n c) (.int .i64 0)) λS=>xU (aj SS.P 5 (.pointer (some S)) (.int .u8 (wrap .u8 (wrap .u32 (48+x7)))) g) g λv1 P=>Q (.tuple ⟨[]⟩) P) (Q (.tuple ⟨[]⟩) g)) (aQ (decide (((i:Int):Int)>0)) (xP (ai SS.P 183 (.slice a n c) (.int .i64 0)) λO=>xU (aj SS.P 5 (.pointer (some O)) (.int .u8 (wrap .u8 (wrap .u32 (48+wrap .u32 v)))) h) h λu3 y1=>Q (.tuple ⟨[]⟩) y1) (Q (.tuple ⟨[]⟩) h))))) (d:Nat) {i:Nat} {v:Int} {h:aa} (E:e d i v h):LL SS pe [1,0,0,0] (ke a n c i v) h (KK SS pe [1,0,0] [] (EE SS pe Q)):=
 tl (ke a n c) e (λd i v zz h E=>ax (step d i v zz h E)) d E
noncomputable def Lt:FD:=ei Tryz.f284 []
theorem IH(u:Int)(h:aa)(Q:VH)(t:aQ (((10:Int)==10)) (aQ (decide ((u:Int)<100)) (FW SS 292 [(.int .i64 (wrap .i64 u))] h λy v=>yS y λw=>Q (strOf w) v) (xN (aA SS.P 321) h λz x=>FW SS 293 [(.int .u64 u)] x λr l=>yI .i64 r λn=>xL (bm SS.P 321 (pA (h.next)) none (some (.int .i64 n)) none l) λs i p=>FW SS 294 [(.slice s i p),(.int .u64 u)] l λd a=>d=(.tuple ⟨[]⟩)/\xL (bm SS.P 321 (pA (h.next)) none (some (.int .i64 n)) none a) λe g k=>xS (Vv SS.P 183 9 (.slice e g k) a) λj=>Q (strOf j) a)) (FW SS 295 [nA,(.int .u64 u),(.int .i64 10),(.bool false),(.bool false)] h λf q=>∃(o:OA) (m c:Nat),∃b:LB,f=(.tuple ⟨[(.slice o m c),(strOf b)]⟩)/\Q (strOf b) q)):FW SS 284 [(.int .u64 u),(.int .i64 10)] h Q:=eu Lt Tryz.func284 (ax t)
noncomputable def PG:FD:=ei Tryz.f262 []
theorem Lu(u:Int)(h:aa)(Q:VH)(a:FW SS 284 [(.int .u64 u),(.int .i64 10)] h λd b=>yS d λc=>Q (strOf c) b):FW SS 262 [(.int .u64 u),(.int .i64 10)] h Q:=eu PG Tryz.func262 (ax a)
variable{P:Program}{g:aa}{m:Nat}
theorem MI{t:TypeId}{a:Int}(h:0<=a){s:Nat}(b:s<=64):ay P .shr t (.int .u64 a) (.int .u64 (s:Int))=some (.int .u64 (a/2^s)):=by
 show(if 0<=(s:Int)then some (Value.int .u64 (a.fdiv (2^(min (s:Int).toNat 64))))else none)=_;rw[if_pos (by omega),toNat_natCast,Nat.min_eq_left b,Int.fdiv_eq_ediv_of_nonneg _ (Int.le_of_lt (Int.pow_pos (by decide)))]
theorem Zl{t:TypeId}{a:Int}(h:0<=a){s:Nat}(b:s<=64):ay P .shr t (.int .i64 a) (.int .u64 (s:Int))=some (.int .i64 (a/2^s)):=by
 show(if 0<=(s:Int)then some (Value.int .i64 (a.fdiv (2^(min (s:Int).toNat 64))))else none)=_;rw[if_pos (by omega),toNat_natCast,Nat.min_eq_left b,Int.fdiv_eq_ediv_of_nonneg _ (Int.le_of_lt (Int.pow_pos (by decide)))]
def Wy:List UInt8:=[0,1,2,2,3,3,3,3,4,4,4,4,4,4,4,4,5,5,5,5,5,5,5,5,5,5,5,5,5,5,5,5,6,6,6,6,6,6,6,6,6,6,6,6,6,6,6,6,6,6,6,6,6,6,6,6,6,6,6,6,6,6,6,6,7,7,7,7,7,7,7,7,7,7,7,7,7,7,7,7,7,7,7,7,7,7,7,7,7,7,7,7,7,7,7,7,7,7,7,7,7,7,7,7,7,7,7,7,7,7,7,7,7,7,7,7,7,7,7,7,7,7,7,7,7,7,7,7,8,8,8,8,8,8,8,8,8,8,8,8,8,8,8,8,8,8,8,8,8,8,8,8,8,8,8,8,8,8,8,8,8,8,8,8,8,8,8,8,8,8,8,8,8,8,8,8,8,8,8,8,8,8,8,8,8,8,8,8,8,8,8,8,8,8,8,8,8,8,8,8,8,8,8,8,8,8,8,8,8,8,8,8,8,8,8,8,8,8,8,8,8,8,8,8,8,8,8,8,8,8,8,8,8,8,8,8,8,8,8,8,8,8,8,8,8,8,8,8,8,8,8,8,8,8,8,8]
def SM:List UInt8:=[48,48,48,49,48,50,48,51,48,52,48,53,48,54,48,55,48,56,48,57,49,48,49,49,49,50,49,51,49,52,49,53,49,54,49,55,49,56,49,57,50,48,50,49,50,50,50,51,50,52,50,53,50,54,50,55,50,56,50,57,51,48,51,49,51,50,51,51,51,52,51,53,51,54,51,55,51,56,51,57,52,48,52,49,52,50,52,51,52,52,52,53,52,54,52,55,52,56,52,57,53,48,53,49,53,50,53,51,53,52,53,53,53,54,53,55,53,56,53,57,54,48,54,49,54,50,54,51,54,52,54,53,54,54,54,55,54,56,54,57,55,48,55,49,55,50,55,51,55,52,55,53,55,54,55,55,55,56,55,57,56,48,56,49,56,50,56,51,56,52,56,53,56,54,56,55,56,56,56,57,57,48,57,49,57,50,57,51,57,52,57,53,57,54,57,55,57,56,57,57]
theorem Yx:((List.range 256).all λx=>(x==0&&(Wy.getD x 0).toNat==0)||(Nat.ble 1 (Wy.getD x 0).toNat&&Nat.ble (Wy.getD x 0).toNat 8&&Nat.ble (2^((Wy.getD x 0).toNat-1)) x&&Nat.blt x (2^(Wy.getD x 0).toNat)))=true:=by kernel_rfl
theorem lt8{x:Nat}(h:x<256)(g:0<x):∃t,(Wy.getD x 0).toNat=t+1/\t<8/\2^t<=x/\x<2^(t+1):=by
 have e:=List.all_eq_true.1 Yx x (List.mem_range.2 h);have f:(x==0)=false:=by simp;omega
 rw[f]at e;simp only[Bool.false_and,Bool.false_or,and_eq_true,Nat.ble_eq,Nat.blt_eq]at e;obtain⟨⟨⟨a,b⟩,c⟩,d⟩:=e;refine⟨(Wy.getD x 0).toNat-1,by omega,by omega,c,?_⟩;rwa[Nat.sub_add_cancel a]
theorem Ae{x:Int}(a:0<=x)(b:x<256):bH SS.P 9 (strOf Wy) (.int .u8 (wrap .u8 x))=some (.int .u8 ((Wy.getD x.toNat 0).toNat:Nat)):=by
 rw[yw a b];exact rV (by kernel_rfl) Wy .u8 a (by show x<((256:Nat):Int);omega)
theorem abJ:((List.range 100).all λx=>Nat.beq (SM.getD (2*x) 0).toNat (48+x/10)&&Nat.beq (SM.getD (2*x+1) 0).toNat (48+x%10))=true:=by kernel_rfl
theorem Vj{x:Nat}(h:x<100):(SM.getD (2*x) 0).toNat=48+x/10/\(SM.getD (2*x+1) 0).toNat=48+x%10:=by
 have a:=List.all_eq_true.1 abJ x (List.mem_range.2 h);simp only[and_eq_true,Nat.beq_eq]at a;exact a
theorem TI(k:0<n)(j:n<4294967296)(h:aa):FW SS 186 [.int .u64 (n:Int)] h (λv i=>i=h/\∃f:Nat,v = .int .i64 (f+1:Nat)/\f<32/\2^f<=n/\n<2^(f+1)):=by
 refine TG _ h _ (ah (λg=>absurd (dT g) (by omega)) λ_=>ah (λg=>?_) (λg=>?_))
 ·have g:=dT g;refine⟨_,MI (s:=16) (by omega) (by omega),ah (λa=>?_) (λa=>?_)⟩
  ·have a:=dT a;refine⟨_,MI (s:=8) (by omega) (by omega),_,Ae (by omega) (by omega),rfl,?_⟩;obtain⟨t,e,c,b,d⟩:=lt8 (x:=((n:Int)/2^16/2^8).toNat) (by omega) (by omega);rw[e];refine⟨t+24,?_,by omega,?_,?_⟩
   ·refine congrArg (Value.int .i64) ?_;simp only[wrap_i64];omega
   ·rw[pow_add];omega
   ·rw[show t+24+1=(t+1)+24 by omega,pow_add];omega
  ·have a:=dF a;refine⟨_,Ae (by omega) (by omega),rfl,?_⟩;obtain⟨t,e,c,b,d⟩:=lt8 (x:=((n:Int)/2^16).toNat) (by omega) (by omega);rw[e];refine⟨t+16,?_,by omega,?_,?_⟩
   ·refine congrArg (Value.int .i64) ?_;simp only[wrap_i64];omega
   ·rw[pow_add];omega
   ·rw[show t+16+1=(t+1)+16 by omega,pow_add];omega
 ·have g:=dF g;refine ah (λa=>?_) (λa=>?_)
  ·have a:=dT a;refine⟨_,MI (s:=8) (by omega) (by omega),_,Ae (by omega) (by omega),rfl,?_⟩;obtain⟨t,e,c,b,d⟩:=lt8 (x:=((n:Int)/2^8).toNat) (by omega) (by omega);rw[e];refine⟨t+8,?_,by omega,?_,?_⟩
   ·refine congrArg (Value.int .i64) ?_;simp only[wrap_i64];omega
   ·rw[pow_add];omega
   ·rw[show t+8+1=(t+1)+8 by omega,pow_add];omega
  ·have a:=dF a;refine⟨_,Ae (by omega) (by omega),rfl,?_⟩;obtain⟨t,e,c,b,d⟩:=lt8 (x:=((n:Int)).toNat) (by omega) (by omega);rw[e];refine⟨t,?_,by omega,by omega,by omega⟩;refine congrArg (Value.int .i64) ?_;simp only[wrap_i64];omega
def Kb:List Value:=(List.range 20).map λi=>uv (10^i)
def sO(h:aa):Prop:=∃t a,h.get 1=some (.cells Kb t 0 a)
theorem sO.ok(t:sO h)(o:Ok h g):sO g:=let⟨k,a,e⟩:=t;⟨k,a,o.ext _ _ e⟩
theorem acF:SS.P.underlying 328=some (.array 20 240):=by kernel_rfl
theorem abU(t:sO h){i:Int}(b:0<=i)(a:i<20):ai SS.P 328 (.pointer (some ⟨1,0,none⟩)) (.int .i64 i)=some (.pointer (some ⟨1,0+i.toNat*1,none⟩))/\ae SS.P 240 h (.pointer (some ⟨1,0+i.toNat*1,none⟩))=some (.int .u64 ((10^i.toNat:Nat):Int)):=by
 obtain⟨_,c,e⟩:=t;constructor
 ·unfold ai;rw[acF];dsimp only;rw[CY];dsimp only;rw[if_pos ⟨b,a⟩,cG,zero_add]
 ·unfold ae;rw[OQ];dsimp only;rw[e];dsimp only;rw[NA];simp only[Bool.false_eq_true,if_false];unfold Kb;rw[zero_add,Nat.mul_one,getElem?_map,List.getElem?_range (by omega)];rfl
theorem GB(B:100<=n)(x:n<1000000000){h:aa}(t:sO h):FW SS 293 [.int .u64 (n:Int)] h (λv o=>o=h/\∃a:Nat,v = .int .i64 (a+1:Nat)/\a<9/\10^a<=n/\n<10^(a+1)):=by
 refine GA _ h _ ((TI (by omega) (by omega) h).mono ?_);rintro _ g ⟨e,a,rfl,y,u,z⟩;have t:=e▸t;refine⟨_,rfl,Gi _ _ _ ⟨_,Zl (s:=18) ?_ (by omega),_,rfl,?_⟩⟩
 ·rw[aO (by omega) (by omega)];omega
 rw[aO (by omega) (by omega)];have D:a<30:=by
  rcases lt_or_ge a 30 with h|h
  ·exact h
  ·have:2^30<=2^a:=pow_le_pow_right (by omega) h;omega
 have C:6<=a:=by
  rcases lt_or_ge a 6 with h|h
  ·have:2^(a+1)<=2^6:=pow_le_pow_right (by omega) h;omega
  ·exact h
 obtain⟨p,k⟩:=abU t (i:=((a+1:Nat):Int)*78913/2^18) (by omega) (by omega);refine⟨_,p,_,k,Su _ _ _ ?_⟩;have b:∀q:Nat,2<=q->q<=9->10^(q-1)<=n->n<10^(q+1)->((a+1:Nat):Int)*78913/2^18=(q:Int)->aQ (decide (((n:Nat):Int)>=((10^(((a+1:Nat):Int)*78913/2^18).toNat:Nat):Int))) (∃c:Int,Value.int .i64 1 = .int .i64 c/\(g=h/\∃m:Nat,Value.int .i64 (wrap .i64 (((a+1:Nat):Int)*78913/2^18+c)) = .int .i64 (m+1:Nat)/\m<9/\10^m<=n/\n<10^(m+1))) (∃c:Int,Value.int .i64 0 = .int .i64 c/\(g=h/\∃m:Nat,Value.int .i64 (wrap .i64 (((a+1:Nat):Int)*78913/2^18+c)) = .int .i64 (m+1:Nat)/\m<9/\10^m<=n/\n<10^(m+1))):=by
  intro q A w f l r;rw[r,toNat_natCast];refine ah (λd=>?_) (λd=>?_)
  ·have d:=dT d;refine⟨1,rfl,e,q,?_,?_,by omega,l⟩
   ·rw[aO (by omega) (by omega)];rfl
   ·rcases lt_or_ge q 9 with h|h
    ·exact h
    ·have:q=9:=by omega
     subst this;omega
  ·have d:=dF d;refine⟨0,rfl,e,q-1,?_,by omega,f,by rw[Nat.sub_add_cancel (by omega)];omega⟩;rw[aO (by omega) (by omega),Nat.sub_add_cancel (by omega),Int.add_zero]
 have j:a=6\/a=7\/a=8\/a=9\/a=10\/a=11\/a=12\/a=13\/a=14\/a=15\/a=16\/a=17\/a=18\/a=19\/a=20\/a=21\/a=22\/a=23\/a=24\/a=25\/a=26\/a=27\/a=28\/a=29:=by omega
 rcases j with rfl|rfl|rfl|rfl|rfl|rfl|rfl|rfl|rfl|rfl|rfl|rfl|rfl|rfl|rfl|rfl|rfl|rfl|rfl|rfl|rfl|rfl|rfl|rfl
 all_goals first
  |exact b 2 (by omega) (by omega) (by omega) (by omega) (by omega)
  |exact b 3 (by omega) (by omega) (by omega) (by omega) (by omega)
  |exact b 4 (by omega) (by omega) (by omega) (by omega) (by omega)
  |exact b 5 (by omega) (by omega) (by omega) (by omega) (by omega)
  |exact b 6 (by omega) (by omega) (by omega) (by omega) (by omega)
  |exact b 7 (by omega) (by omega) (by omega) (by omega) (by omega)
  |exact b 8 (by omega) (by omega) (by omega) (by omega) (by omega)
  |exact b 9 (by omega) (by omega) (by omega) (by omega) (by omega)
theorem Vl(e:m<100)(h:aa):FW SS 292 [.int .i64 (m:Int)] h (λv f=>f=h/\v=strOf (aC m)):=by
 refine Vk _ h _ (ah (λg=>?_) (λg=>?_))
 ·have g:=dT g;rw[aO (by omega) (by omega)];refine⟨_,oA (by kernel_rfl) _ (a:=m) (b:=m+1) rfl rfl (by omega) (by simp;omega),rfl,?_⟩;rw[da (by omega)];have:m=0\/m=1\/m=2\/m=3\/m=4\/m=5\/m=6\/m=7\/m=8\/m=9:=by omega
  rcases this with rfl|rfl|rfl|rfl|rfl|rfl|rfl|rfl|rfl|rfl<;>rfl
 ·have g:=dF g;rw[aO (n:=(m:Int)*2) (by omega) (by omega),aO (by omega) (by omega)];refine⟨_,oA (l:=SM) (by kernel_rfl) (a:=2*m) (b:=2*m+2) (by show some _=some _;congr 1;omega) (by show some _=some _;congr 1;omega) (by omega) (by show _<=200;omega),rfl,?_⟩;have c:=Vj e;rw[gP (by omega),da (by omega),show 2*m+2-2*m=2 by omega];have j:SM.length=200:=rfl;rw[List.drop_eq_getElem_cons (by omega),List.drop_eq_getElem_cons (by omega)];have d:SM[2*m]'(by omega)=gm (m/10):=by
   apply UInt8.toNat_inj.1;have:=c.1;rw[gD,gE (by omega)]at this;rw[show(SM[2*m]'(by omega)).toNat=_ from this];unfold gm;rw[UInt8.toNat_ofNat',Nat.mod_eq_of_lt (by omega)]
  have i:SM[2*m+1]'(by omega)=gm (m%10):=by
   apply UInt8.toNat_inj.1;have:=c.2;rw[gD,gE (by omega)]at this;rw[show(SM[2*m+1]'(by omega)).toNat=_ from this];unfold gm;rw[UInt8.toNat_ofNat',Nat.mod_eq_of_lt (a:=48+m%10) (b:=2^8) (by omega)]
  rw[d,i];rfl
variable{z:Int}
section
theorem kG{n:Int}(a:0<=n)(b:n<4294967296):wrap .u32 n=n:=by
 simp only[wrap,IntKind.bits,IntKind.signed,Bool.false_and,Bool.false_eq_true,if_false];omega
theorem Cg{t:TypeId}{a:Int}{b:Nat}(h0:0<=a)(c:a<4294967296)(d:0<b):ay P .quo t (.int .u32 a) (.int .u32 (b:Int))=some (.int .u32 (a/(b:Int))):=by
 rw[NF P t .u32 _ _ (by omega),Int.tdiv_eq_ediv_of_nonneg h0,kG (Int.ediv_nonneg h0 (by omega)) (Int.lt_of_le_of_lt (Int.ediv_le_self _ h0) c)]
theorem Xh(h:m<10):AQ (gm m) = .int .u8 (48+(m:Int)):=by
 unfold AQ gm;rw[UInt8.toNat_ofNat',Nat.mod_eq_of_lt (a:=48+m) (b:=2^8) (by omega)];rfl
structure FB(h0:aa)(k n u j w:Nat)(h:aa):Prop where
 blk:∃cs,h.get k=some (.cells cs 321 0 true)/\cs.length=24/\(cs.drop j).take (n-j)=(Num.wid (n-j) u).map AQ
 hw:w=u/10^(n-j)
 lt:w<10^j
 jn:j<=n
 n24:n<=9
 ok:HL h0 k h
section
variable {h0 h:aa} {k n u j w:Nat}
theorem FB.room(f:FB h0 k n u j w h)(r:Nat):FB h0 k n u j w (room h r):=⟨f.blk,f.hw,f.lt,f.jn,f.n24,f.ok.room r⟩
theorem FB.step(f:FB h0 k n u (j+1) w h){c:Nat}{x i:Int}(m:x=48+(w:Int)%10)(q:i=(j:Int)):
  ∃p:Addr,ai SS.P 183 (.slice (some ⟨k,0,none⟩) n c) (.int .i64 i)=some (.pointer (some p))/\∃d:aY,aj SS.P 5 (.pointer (some p)) (.int .u8 x) h=some (undef,d)/\FB h0 k n u j (w/10) (d.app h):=by
 subst m q;obtain⟨cs,b,o,l⟩:=f.blk;have s:=f.jn;have g:=f.n24;refine⟨⟨k,0+j,none⟩,?_,.set k (.cells (cs.set j (AQ (gm (w%10)))) 321 0 true),?_,?_⟩
 ·unfold ai;rw[OC];dsimp only;rw[zz5];dsimp only;rw[if_pos ⟨by omega,by omega⟩,Nat.mul_one,cG,toNat_natCast]
 ·rw[show(48+((w:Nat):Int)%10)=48+((w%10:Nat):Int) by omega,<-Xh (mod_lt _ (by omega))];show(if au SS.P 5=some 1 then(storeAt h k (0+j) [AQ (gm (w%10))]).map λu=>(undef,u)else none)=_;rw[if_pos zz5];unfold storeAt;rw[b];dsimp only;rw[zero_add,if_pos ⟨by simp;omega,rfl⟩];have e:cs.take j++[AQ (gm (w%10))]++cs.drop (j+[AQ (gm (w%10))].length)=cs.set j (AQ (gm (w%10))):=by
   rw[List.set_eq_take_append_cons_drop,if_pos (by omega),List.append_assoc];rfl
  rw[e];rfl
 ·have r:=f.ok.wf _ _ b;have a:n-j=(n-(j+1))+1:=by omega
  refine⟨⟨cs.set j (AQ (gm (w%10))),?_,by rw[length_set];exact o,?_⟩,?_,?_,by omega,g,f.ok.set r _⟩
  ·show(h.set k _).get k=_;rw[aa.aw,if_pos rfl]
  ·rw[List.drop_eq_getElem_cons (by simp only[length_set];omega),a,List.take_succ_cons,List.getElem_set_self,List.drop_set_of_lt (by omega),l,tC,List.map_cons,<-f.hw]
  ·rw[a,pow_succ,<-Nat.div_div_eq_div_mul,<-f.hw]
  ·have:=f.lt;rw[pow_succ]at this;omega
theorem adM{x:Nat}(b:z=(x:Int))(a:x<100):bH SS.P 9 (strOf SM) (.int .u32 (wrap .u32 (wrap .u32 (z*2)+1)))=some (.int .u8 (48+(x:Int)%10)):=by
 rw[kG (n:=z*2) (by omega) (by omega),kG (by omega) (by omega),rV (by kernel_rfl) SM .u32 (by omega) (by show _<((200:Nat):Int);omega),show(z*2+1).toNat=2*x+1 by omega,(Vj a).2];rfl
theorem adL{x:Nat}(b:z=(x:Int))(a:x<100):bH SS.P 9 (strOf SM) (.int .u32 (wrap .u32 (z*2)))=some (.int .u8 (48+(x:Int)/10)):=by
 rw[kG (n:=z*2) (by omega) (by omega),rV (by kernel_rfl) SM .u32 (by omega) (by show _<((200:Nat):Int);omega),show(z*2).toNat=2*x by omega,(Vj a).1];rfl
theorem FB.pair(f:FB h0 k n u (j+2) w h){c:Nat}{y i1 i2:Int}(E:y=(w:Int)%100)(C:i1=(j:Int)+1)(D:i2=(j:Int)):
  ∃m:Int,bH SS.P 9 (strOf SM) (.int .u32 (wrap .u32 (wrap .u32 (y*2)+1)))=some (.int .u8 m)/\
  ∃d:Int,bH SS.P 9 (strOf SM) (.int .u32 (wrap .u32 (y*2)))=some (.int .u8 d)/\
  ∃g:Addr,ai SS.P 183 (.slice (some ⟨k,0,none⟩) n c) (.int .i64 i1)=some (.pointer (some g))/\
  ∃a:aY,aj SS.P 5 (.pointer (some g)) (.int .u8 m) (Go.Ab.room h 15)=some (undef,a)/\
  ∃l:Addr,ai SS.P 183 (.slice (some ⟨k,0,none⟩) n c) (.int .i64 i2)=some (.pointer (some l))/\
  ∃b:aY,aj SS.P 5 (.pointer (some l)) (.int .u8 d) (a.app (Go.Ab.room h 15))=some (undef,b)/\
  FB h0 k n u j (w/100) (b.app (a.app (Go.Ab.room h 15))):=by
 have e:y=((w%100:Nat):Int):=by omega
 obtain⟨p,A,t,s,B⟩:=(f.room 15).step (j:=j+1) (c:=c) (x:=48+((w%100:Nat):Int)%10) (i:=i1) (by omega) (by omega);obtain⟨q,v,r,z,o⟩:=B.step (c:=c) (x:=48+((w%100:Nat):Int)/10) (i:=i2) (by omega) (by omega);refine⟨_,adM e (by omega),_,adL e (by omega),p,A,t,s,q,v,r,z,?_⟩;rw[Nat.div_div_eq_div_mul]at o;exact o
end
theorem Tl{h0 h:aa}{k n c u:Nat}(f:FB h0 k n u n u h):FW SS 294 [.slice (some ⟨k,0,none⟩) n c,.int .u64 (u:Int)] h (λv O=>v = .tuple ⟨[]⟩/\∃w,FB h0 k n u 0 w O):=by
 have V:=f.n24;have L:=xu (some ⟨k,0,none⟩) n c (u:Int) (λD i v g=>∃w:Nat,v=(w:Int)/\D=i/\FB h0 k n u i w g) (λv O=>v = .tuple ⟨[]⟩/\∃w,FB h0 k n u 0 w O) (by
  intro D i v;intros;rename_i g R;obtain⟨w,rfl,rfl,f⟩:=R;have S:=f.jn;have W:w<1000000000:=lt_of_lt_of_le f.lt (show 10^D<=10^9 from pow_le_pow_right (by omega) (by omega));refine ah (λK=>?_) (λK=>?_)
  ·have K:=dT K;obtain⟨j,rfl⟩:∃j,D=j+8:=⟨D-8,by omega⟩
   refine⟨_,fQ (b:=100000000) (by omega) (by omega),_,nE (b:=100000000) (by omega) (by omega) (by omega),?_⟩;rw[kG (n:=((w:Nat):Int)%((100000000:Nat):Int)) (by omega) (by omega)];refine⟨_,Cg (b:=10000) (by omega) (by omega) (by omega),_,fQ (b:=10000) (by omega) (by omega),_,Cg (b:=100) (by omega) (by omega) (by omega),_,fQ (b:=100) (by omega) (by omega),_,Cg (b:=100) (by omega) (by omega) (by omega),_,fQ (b:=100) (by omega) (by omega),?_⟩;obtain⟨C,d,q,e,t,m,z,s,B,A,r,o,Q⟩:=FB.pair (j:=j+6) (c:=c) (y:=((w:Nat):Int)%((100000000:Nat):Int)%((10000:Nat):Int)%((100:Nat):Int)) (i1:=wrap .i64 (((j+8:Nat):Int)-1)) (i2:=wrap .i64 (((j+8:Nat):Int)-2)) f (by omega) (by rw[aO (by omega) (by omega)];omega) (by rw[aO (by omega) (by omega)];omega);refine⟨C,d,q,e,t,m,z,s,B,A,r,o,?_⟩;obtain⟨C,d,q,e,t,m,z,s,B,A,r,o,I⟩:=FB.pair (j:=j+4) (c:=c) (y:=((w:Nat):Int)%((100000000:Nat):Int)%((10000:Nat):Int)/((100:Nat):Int)) (i1:=wrap .i64 (((j+8:Nat):Int)-3)) (i2:=wrap .i64 (((j+8:Nat):Int)-4)) Q (by omega) (by rw[aO (by omega) (by omega)];omega) (by rw[aO (by omega) (by omega)];omega);refine⟨C,d,q,e,t,m,z,s,B,A,r,o,?_⟩;obtain⟨C,d,q,e,t,m,z,s,B,A,r,o,G⟩:=FB.pair (j:=j+2) (c:=c) (y:=((w:Nat):Int)%((100000000:Nat):Int)/((10000:Nat):Int)%((100:Nat):Int)) (i1:=wrap .i64 (((j+8:Nat):Int)-5)) (i2:=wrap .i64 (((j+8:Nat):Int)-6)) I (by omega) (by rw[aO (by omega) (by omega)];omega) (by rw[aO (by omega) (by omega)];omega);refine⟨C,d,q,e,t,m,z,s,B,A,r,o,?_⟩;obtain⟨C,d,q,e,t,m,z,s,B,A,r,o,F⟩:=FB.pair (j:=j) (c:=c) (y:=((w:Nat):Int)%((100000000:Nat):Int)/((10000:Nat):Int)/((100:Nat):Int)) (i1:=wrap .i64 (((j+8:Nat):Int)-7)) (i2:=wrap .i64 (((j+8:Nat):Int)-8)) G (by omega) (by rw[aO (by omega) (by omega)];omega) (by rw[aO (by omega) (by omega)];omega);refine⟨C,d,q,e,t,m,z,s,B,A,r,o,?_⟩;have N:wrap .i64 (((j+8:Nat):Int)-8)=(j:Int):=by rw[aO (by omega) (by omega)];omega
   rw[N];exact mE j (by omega) ⟨w/100000000,by omega,rfl,by
    have:=F;simp only[Nat.div_div_eq_div_mul]at this;exact this⟩
  ·have K:=dF K;have T:w<100000000:=lt_of_lt_of_le f.lt (show 10^D<=10^8 from pow_le_pow_right (by omega) (by omega));rw[kG (n:=((w:Nat):Int)) (by omega) (by omega)];refine ah (λJ=>?_) (λJ=>?_)
   ·have J:=dT J;obtain⟨j,rfl⟩:∃j,D=j+4:=⟨D-4,by omega⟩
    refine⟨_,fQ (b:=10000) (by omega) (by omega),_,Cg (b:=10000) (by omega) (by omega) (by omega),_,Cg (b:=100) (by omega) (by omega) (by omega),_,fQ (b:=100) (by omega) (by omega),?_⟩;obtain⟨C,d,q,e,t,m,z,s,B,A,r,o,Q⟩:=FB.pair (j:=j+2) (c:=c) (y:=((w:Nat):Int)%((10000:Nat):Int)%((100:Nat):Int)) (i1:=wrap .i64 (((j+4:Nat):Int)-1)) (i2:=wrap .i64 (((j+4:Nat):Int)-2)) f (by omega) (by rw[aO (by omega) (by omega)];omega) (by rw[aO (by omega) (by omega)];omega);refine⟨C,d,q,e,t,m,z,s,B,A,r,o,?_⟩;obtain⟨C,d,q,e,t,m,z,s,B,A,r,o,I⟩:=FB.pair (j:=j) (c:=c) (y:=((w:Nat):Int)%((10000:Nat):Int)/((100:Nat):Int)) (i1:=wrap .i64 (((j+4:Nat):Int)-3)) (i2:=wrap .i64 (((j+4:Nat):Int)-4)) Q (by omega) (by rw[aO (by omega) (by omega)];omega) (by rw[aO (by omega) (by omega)];omega);refine⟨C,d,q,e,t,m,z,s,B,A,r,o,?_⟩;have N:wrap .i64 (((j+4:Nat):Int)-4)=(j:Int):=by rw[aO (by omega) (by omega)];omega
    rw[N];have U:=I.lt;refine ah (λE=>?_) (λE=>?_)
    ·have E:=dT E;obtain⟨l,rfl⟩:∃l,j=l+2:=⟨j-2,by omega⟩
     refine⟨_,fQ (b:=100) (by omega) (by omega),_,Cg (b:=100) (by omega) (by omega) (by omega),?_⟩;obtain⟨C,d,q,e,t,m,z,s,B,A,r,o,G⟩:=FB.pair (j:=l) (c:=c) (y:=((w:Nat):Int)/((10000:Nat):Int)%((100:Nat):Int)) (i1:=wrap .i64 (((l+2:Nat):Int)-1)) (i2:=wrap .i64 (((l+2:Nat):Int)-2)) I (by omega) (by rw[aO (by omega) (by omega)];omega) (by rw[aO (by omega) (by omega)];omega);refine⟨C,d,q,e,t,m,z,s,B,A,r,o,?_⟩;have P:wrap .i64 (((l+2:Nat):Int)-2)=(l:Int):=by rw[aO (by omega) (by omega)];omega
     rw[P];refine ah (λa=>?_) (λa=>?_)
     ·have a:=dT a;obtain rfl:l=1:=by omega
      have M:=G.lt;rw[kG (n:=48+_) (by omega) (by omega),yw (n:=48+_) (by omega) (by omega)];obtain⟨p,d,H,e,F⟩:=G.step (c:=c) (x:=48+((w:Nat):Int)/((10000:Nat):Int)/((100:Nat):Int)) (i:=0) (by omega) rfl;exact⟨p,d,H,e,rfl,_,F⟩
     ·have a:=dF a;obtain rfl:l=0:=by omega
      exact⟨rfl,_,G⟩
    ·have E:=dF E;refine ah (λa=>?_) (λa=>?_)
     ·have a:=dT a;obtain rfl:j=1:=by omega
      rw[kG (n:=48+_) (by omega) (by omega),yw (n:=48+_) (by omega) (by omega)];obtain⟨p,d,H,e,F⟩:=I.step (c:=c) (x:=48+((w:Nat):Int)/((10000:Nat):Int)) (i:=0) (by omega) rfl;exact⟨p,d,H,e,rfl,_,F⟩
     ·have a:=dF a;obtain rfl:j=0:=by omega
      exact⟨rfl,_,I⟩
   ·have J:=dF J;refine ah (λE=>?_) (λE=>?_)
    ·have E:=dT E;obtain⟨l,rfl⟩:∃l,D=l+2:=⟨D-2,by omega⟩
     refine⟨_,fQ (b:=100) (by omega) (by omega),_,Cg (b:=100) (by omega) (by omega) (by omega),?_⟩;obtain⟨C,d,q,e,t,m,z,s,B,A,r,o,G⟩:=FB.pair (j:=l) (c:=c) (y:=((w:Nat):Int)%((100:Nat):Int)) (i1:=wrap .i64 (((l+2:Nat):Int)-1)) (i2:=wrap .i64 (((l+2:Nat):Int)-2)) f (by omega) (by rw[aO (by omega) (by omega)];omega) (by rw[aO (by omega) (by omega)];omega);refine⟨C,d,q,e,t,m,z,s,B,A,r,o,?_⟩;have P:wrap .i64 (((l+2:Nat):Int)-2)=(l:Int):=by rw[aO (by omega) (by omega)];omega
     rw[P];have M:=G.lt;refine ah (λa=>?_) (λa=>?_)
     ·have a:=dT a;obtain rfl:l=1:=by omega
      rw[kG (n:=48+_) (by omega) (by omega),yw (n:=48+_) (by omega) (by omega)];obtain⟨p,d,H,e,F⟩:=G.step (c:=c) (x:=48+((w:Nat):Int)/((100:Nat):Int)) (i:=0) (by omega) rfl;exact⟨p,d,H,e,rfl,_,F⟩
     ·have a:=dF a;obtain rfl:l=0:=by omega
      exact⟨rfl,_,G⟩
    ·have E:=dF E;have M:=f.lt;refine ah (λa=>?_) (λa=>?_)
     ·have a:=dT a;obtain rfl:D=1:=by omega
      rw[kG (n:=48+_) (by omega) (by omega),yw (n:=48+_) (by omega) (by omega)];obtain⟨p,d,H,e,F⟩:=f.step (c:=c) (x:=48+((w:Nat):Int)) (i:=0) (by omega) rfl;exact⟨p,d,H,e,rfl,_,F⟩
     ·have a:=dF a;obtain rfl:D=0:=by omega
      exact⟨rfl,_,f⟩)
 exact Tk _ n c _ h _ (L n ⟨u,rfl,rfl,f⟩)
end
variable{k:Nat}{b:Bool}{i:Nat}
noncomputable def RT:bw:= .cells (List.replicate 24 (.int .u8 0)) 321 0 true
theorem acB:aA SS.P 321=some (RT,dX):=by kernel_rfl
theorem acE:SS.P.underlying 321=some (.array 24 5):=by kernel_rfl
theorem DZ{cs:List Value}(c:h.get k=some (.cells cs 321 0 b)){n:Nat}(f:n<=24):bm SS.P 321 (.pointer (some ⟨k,0,none⟩)) none (some (.int .i64 (n:Int))) none h=some (.slice (some ⟨k,0,none⟩) n 24):=by
 unfold bm;dsimp only;rw[acE];dsimp only[dq];rw[zz5,c];show(if 0<=((0:Nat):Int)/\((0:Nat):Int)<=(n:Int)/\(n:Int)<=((24:Nat):Int)/\24<ca then some (Value.slice (some ⟨k,0+((0:Nat):Int).toNat*1,none⟩) ((n:Int)-((0:Nat):Int)).toNat (24-((0:Nat):Int).toNat))else none)=_;have a:24<ca:=by unfold ca;omega
 rw[if_pos ⟨by omega,by omega,by omega,a⟩];have d:((n:Int)-((0:Nat):Int)).toNat=n:=by omega
 have e:((0:Nat):Int).toNat=0:=rfl;rw[d,e]
theorem MQ{c:Nat}{cs:List Value}(e:h.get k=some (.cells cs i j b)){l:List UInt8}(d:(cs.drop n).take m=l.map AQ)(a:l.length=m):Vv SS.P 183 9 (.slice (some ⟨k,n,none⟩) m c) h=some (strOf l):=by
 unfold Vv bj;dsimp only;rw[OC,show SS.P.underlying 9=some .string by kernel_rfl];dsimp only;rw[show SS.P.underlying 5=some (.int .u8) by kernel_rfl];dsimp only;rw[e];dsimp only;rw[d,if_pos (by rw[lM];exact a),qH];rfl
theorem II(p:n<1000000000){h:aa}(t:sO h)(w:Wf h):FW SS 284 [.int .u64 (n:Int),.int .i64 10] h (λv q=>v=strOf (aC n)/\Ok h q):=by
 refine IH _ h _ (ah (λ_=>?_) (λg=>by simp at g));refine ah (λg=>?_) (λg=>?_)
 ·have g:=dT g;rw[aO (by omega) (by omega)];refine(Vl (by omega) h).mono ?_;rintro _ _ ⟨rfl,rfl⟩;exact⟨_,rfl,rfl,Ok.refl w⟩
 ·have g:=dF g;have b:=(Ok.refl w).push RT;refine⟨_,acB,(GB (by omega) p (t.ok b)).mono ?_⟩;rintro _ y ⟨r,d,rfl,u,i,c⟩;subst r;have l:(h.push RT).get h.next=some (.cells (List.replicate 24 (.int .u8 0)) 321 0 true):=by rw[aa.aM,if_pos rfl];rfl
  refine⟨_,rfl,_,_,_,DZ l (n:=d+1) (by omega),?_⟩;have f:FB (h.push RT) h.next (d+1) n (d+1) n (h.push RT):=⟨⟨_,l,by simp,by simp[Num.wid]⟩,by simp,c,Nat.le_refl _,by omega,HL.refl b.wf⟩
  refine(Tl f).mono ?_;rintro _ s ⟨rfl,x,a⟩;obtain⟨cs,m,z,k⟩:=a.blk;rw[drop_zero,Nat.sub_zero]at k;refine⟨rfl,_,_,_,DZ m (n:=d+1) (by omega),aC n,MQ m ?_ ?_,rfl,?_⟩
  ·rw[drop_zero,k,wJ c (.inr i)]
  ·rw[<-wJ c (.inr i),wK]
  ·refine⟨a.ok.wf,λj B o=>a.ok.jb j B (λe=>by have:=w _ _ o;omega) (b.ext _ _ o),Nat.le_trans b.nx a.ok.nx⟩
theorem Lv(a:n<1000000000){h:aa}(t:sO h)(w:Wf h):FW SS 262 [.int .u64 (n:Int),.int .i64 10] h (λv b=>v=strOf (aC n)/\Ok h b):=by
 refine Lu _ h _ ((II a t w).mono ?_);rintro _ c ⟨rfl,o⟩;exact⟨_,rfl,rfl,o⟩
noncomputable def oO:FD:=ei Tryz.f285 []
theorem Dc(p:Addr)(h:aa)(Q:VH)(o:xP (af SS.P 301 (.pointer (some p)) 0) λd=>xO (ae SS.P 299 h (.pointer (some d))) λc=>xB (ay SS.P .eql 299 (.pointer c) (.pointer none)) λb=>aQ b (xG (bo SS.P fZ (ev SS.gl (uN [(.pointer (some p)),undef,(.pointer (some p)),(.pointer (some p)),(.pointer (some d)),(.pointer c),(.bool b),(.pointer (some p)),(.pointer (some p))] 11)) (Oo (jD [1,0] oO.body) 2) h) h λe u q=>FW SS 296 [e] q λn g=>yV n λr=>xG (bo SS.P fZ (ev SS.gl (uN [(.pointer (some p)),undef,(.pointer (some p)),(.pointer (some p)),(.pointer (some d)),(.pointer c),(.bool b),(.pointer (some p)),(.pointer (some p)),e,r] 9)) (Oo (jD [1,0] oO.body) 4) g) g λf t a=>xP (af SS.P 301 (.pointer (some p)) 0) λk=>xU (aj SS.P 299 (.pointer (some k)) f a) a λs i=>Q (.tuple ⟨[]⟩) i) (xP (af SS.P 301 (.pointer (some p)) 0) λj=>xO (ae SS.P 299 h (.pointer (some j))) λm=>xB (ay SS.P .neq 299 (.pointer m) (.pointer (some p))) λl=>aQ l (False) (Q (.tuple ⟨[]⟩) h))):FW SS 285 [(.pointer (some p))] h Q:=eu oO Tryz.func285 (ax o)
noncomputable def Sm:FD:=ei Tryz.f263 []
theorem O8(p:Addr)(l:LB)(h:aa)(Q:VH)(g:FW SS 285 [(.pointer (some p))] h λn b=>n=(.tuple ⟨[]⟩)/\xP (af SS.P 301 (.pointer (some p)) 1) λo=>xL (ae SS.P 183 b (.pointer (some o))) λi e k=>xE (aE SS.P 183 9 (.slice i e k) (strOf l) b) b λj m f q a=>xP (af SS.P 301 (.pointer (some p)) 1) λd=>xU (aj SS.P 183 (.pointer (some d)) (.slice j m f) a) a λr c=>Q (.tuple ⟨[(.int .i64 ((l:LB).length:Int)),.nilIface]⟩) c):FW SS 263 [(.pointer (some p)),(strOf l)] h Q:=eu Sm Tryz.func263 (ax g)
noncomputable def wW:FD:=ei Tryz.f265 []
theorem KY(p:Addr)(h:aa)(Q:VH)(m:xP (af SS.P 301 (.pointer (some p)) 1) λf=>xL (ae SS.P 183 (room h 12) (.pointer (some f))) λk i l=>xG (bo SS.P fZ (ev SS.gl (uN [(.pointer (some p)),undef,(strOf []),(.pointer (some p)),(.pointer (some p)),(.pointer (some f)),(.slice k i l)] 7)) (Oo (jD [1,0] wW.body) 4) (room h 12)) (room h 12) λn q e=>xP (af SS.P 301 (.pointer (some p)) 1) λd=>xL (ae SS.P 183 e (.pointer (some d))) λc a b=>xG (bo SS.P fZ (ev SS.gl [(.pointer (some p)),undef,(strOf []),(.pointer (some p)),(.pointer (some p)),(.pointer (some f)),(.slice k i l),n,(.pointer (some p)),(.pointer (some p)),(.pointer (some d)),(.slice c a b),(iA a),undef]) (Oo (jD [1,0] wW.body) 10) e) e λg o j=>(ae SS.P 183 (room h 12) (.pointer (some d))=some (.slice c a b)/\cZ 4 (.slice c a b) (.slice c a b)=true)/\(TJ SS.P 183 (.slice c a b) (room h 12)=some (iA a)/\cZ 4 (iA a) (iA a)=true)/\Q g j):FW SS 265 [(.pointer (some p))] h Q:=eu wW Tryz.func265 (ax m)
noncomputable def YD:FD:=ei Tryz.f197 []
theorem T8(x y:Int)(h:aa)(Q:VH)(e:xI .u64 (ay SS.P .shr 240 (.int .u64 x) (.int .u64 32)) λa=>xI .u64 (ay SS.P .shr 240 (.int .u64 y) (.int .u64 32)) λc=>xI .u64 (ay SS.P .shr 240 (.int .u64 (wrap .u64 (wrap .u64 ((BitVec.ofInt (IntKind.bits .u64) x&&&BitVec.ofInt (IntKind.bits .u64) 4294967295).toNat:Int)*wrap .u64 ((BitVec.ofInt (IntKind.bits .u64) y&&&BitVec.ofInt (IntKind.bits .u64) 4294967295).toNat:Int)))) (.int .u64 32)) λb=>xI .u64 (ay SS.P .shr 240 (.int .u64 (wrap .u64 (wrap .u64 (a*wrap .u64 ((BitVec.ofInt (IntKind.bits .u64) y&&&BitVec.ofInt (IntKind.bits .u64) 4294967295).toNat:Int))+b))) (.int .u64 32)) λf=>xI .u64 (ay SS.P .shr 240 (.int .u64 (wrap .u64 (wrap .u64 ((BitVec.ofInt (IntKind.bits .u64) (wrap .u64 (wrap .u64 (a*wrap .u64 ((BitVec.ofInt (IntKind.bits .u64) y&&&BitVec.ofInt (IntKind.bits .u64) 4294967295).toNat:Int))+b))&&&BitVec.ofInt (IntKind.bits .u64) 4294967295).toNat:Int)+wrap .u64 (wrap .u64 ((BitVec.ofInt (IntKind.bits .u64) x&&&BitVec.ofInt (IntKind.bits .u64) 4294967295).toNat:Int)*c)))) (.int .u64 32)) λd=>Q (.tuple ⟨[(.int .u64 (wrap .u64 (wrap .u64 (wrap .u64 (a*c)+f)+d))),(.int .u64 (wrap .u64 (x*y)))]⟩) h):FW SS 197 [(.int .u64 x),(.int .u64 y)] h Q:=eu YD Tryz.func197 (ax e)
variable{r:Operand->Value}{q:Oper}{T:TypeId}{v:Value}{c:List Value}{s:List UInt8}
theorem tw:SS.P.underlying 299=some (.pointer 301):=by kernel_rfl
theorem zq:SS.P.underlying 325=some .unsafePointer:=by kernel_rfl
theorem V4:au SS.P 301=some 2:=by kernel_rfl
theorem Xu{x:Operand}(p:q.op = .convert 299 325 x){h:aa}{k:Nat}{a b:Value}{m:Bool}(g:r x = .pointer (some ⟨k,0,none⟩))(o:h.get k=some (.cells [a,b] 301 0 m)):bo SS.P fZ r q h=some (.pointer (some ⟨k,0,none⟩),.no):=by
 obtain⟨f,s,i,e,d,c⟩:=q;subst p;unfold bo;have l:aZ SS.P r ⟨f,.convert 299 325 x,i,e,d,c⟩=none:=by
  show eK SS.P 299 325 (r x)=none;rw[g];unfold eK;rw[tw,zq]
 have n:bj SS.P r ⟨f,.convert 299 325 x,i,e,d,c⟩ h=none:=by
  unfold bj;dsimp only;rw[tw,zq,g]
 have j:aT SS.P r ⟨f,.convert 299 325 x,i,e,d,c⟩=none:=by
  unfold aT;dsimp only;rw[tw,zq,g]
 rw[l];dsimp only;rw[n];dsimp only;rw[j];dsimp only;unfold cL;dsimp only;rw[tw,zq,g];show(match h.get k with|some (.cells cs t' 0 _)=>if 301=t'/\au SS.P 301=some cs.length/\0<cs.length then some (Value.pointer (some ⟨k,0,none⟩),aY.no)else none|_=>none)=_;rw[o];show(if 301=301/\au SS.P 301=some [a,b].length/\0<[a,b].length then some (Value.pointer (some ⟨k,0,none⟩),aY.no)else none)=_;rw[if_pos ⟨rfl,V4,by simp⟩]
theorem Pq{x:Operand}(p:q.op = .convert 325 299 x){h:aa}{k:Nat}{a b:Value}{m:Bool}(g:r x = .pointer (some ⟨k,0,none⟩))(o:h.get k=some (.cells [a,b] 301 0 m)):bo SS.P fZ r q h=some (.pointer (some ⟨k,0,none⟩),.no):=by
 obtain⟨f,s,i,e,d,c⟩:=q;subst p;unfold bo;have l:aZ SS.P r ⟨f,.convert 325 299 x,i,e,d,c⟩=none:=by
  show eK SS.P 325 299 (r x)=none;rw[g];unfold eK;rw[tw,zq]
 have n:bj SS.P r ⟨f,.convert 325 299 x,i,e,d,c⟩ h=none:=by
  unfold bj;dsimp only;rw[tw,zq,g]
 have j:aT SS.P r ⟨f,.convert 325 299 x,i,e,d,c⟩=none:=by
  unfold aT;dsimp only;rw[tw,zq,g]
 rw[l];dsimp only;rw[n];dsimp only;rw[j];dsimp only;unfold cL;dsimp only;rw[tw,zq,g];show(match h.get k with|some (.cells cs t' 0 _)=>if 301=t'/\au SS.P 301=some cs.length/\0<cs.length then some (Value.pointer (some ⟨k,0,none⟩),aY.no)else none|_=>none)=_;rw[o];show(if 301=301/\au SS.P 301=some [a,b].length/\0<[a,b].length then some (Value.pointer (some ⟨k,0,none⟩),aY.no)else none)=_;rw[if_pos ⟨rfl,V4,by simp⟩]
def self(k:Nat):Value:= .pointer (some ⟨k,0,none⟩)
theorem aa8(k:Nat):af SS.P 301 (.pointer (some ⟨k,0,none⟩)) 0=some (.pointer (some ⟨k,0,none⟩)):=by kernel_rfl
theorem Ya(k:Nat):af SS.P 301 (.pointer (some ⟨k,0,none⟩)) 1=some (.pointer (some ⟨k,1,none⟩)):=by kernel_rfl
theorem ld0{a b:Value}{c:Bool}(d:h.get k=some (.cells [a,b] 301 0 c)):ae SS.P 299 h (.pointer (some ⟨k,0,none⟩))=some a:=by
 unfold ae;rw[tw];dsimp only;rw[d];dsimp only;rw[show Go.Ab.isAgg SS.P 299=false by kernel_rfl];rfl
theorem ld1{a b:Value}{c:Bool}(d:h.get k=some (.cells [a,b] 301 0 c)):ae SS.P 183 h (.pointer (some ⟨k,1,none⟩))=some b:=by
 unfold ae;rw[OC];dsimp only;rw[d];dsimp only;rw[show Go.Ab.isAgg SS.P 183=false by kernel_rfl];rfl
theorem st0{a b x:Value}(d:h.get k=some (.cells [a,b] 301 0 true))(c:bc x=true)(e:x.cells = #[x]):aj SS.P 299 (.pointer (some ⟨k,0,none⟩)) x h=some (undef,.set k (.cells [x,b] 301 0 true)):=by
 show(if au SS.P 299=some x.cells.size then(storeAt h k 0 x.cells.toList).map λu=>(undef,u)else none)=_;rw[e,show au SS.P 299=some 1 by kernel_rfl,if_pos (show some 1=some #[x].size from rfl)];unfold storeAt;rw[d];dsimp only;rw[if_pos ⟨by simp,by simp[c]⟩];rfl
theorem st1{a b x:Value}(d:h.get k=some (.cells [a,b] 301 0 true))(c:bc x=true)(e:x.cells = #[x]):aj SS.P 183 (.pointer (some ⟨k,1,none⟩)) x h=some (undef,.set k (.cells [a,x] 301 0 true)):=by
 show(if au SS.P 183=some x.cells.size then(storeAt h k 1 x.cells.toList).map λu=>(undef,u)else none)=_;rw[e,show au SS.P 183=some 1 by kernel_rfl,if_pos (show some 1=some #[x].size from rfl)];unfold storeAt;rw[d];dsimp only;rw[if_pos ⟨by simp,by simp[c]⟩];rfl
theorem FA{a b:Value}(c:h.get k=some (.cells [a,b] 301 0 true))(f:a = .pointer none\/a=self k):
  FW SS 285 [self k] h (λv d=>v = .tuple ⟨[]⟩/\d.get k=some (.cells [self k,b] 301 0 true)/\(∀j,j≠k->d.get j=h.get j)/\d.next=h.next):=by
 refine Dc ⟨k,0,none⟩ h _ ⟨_,aa8 k,?_⟩;rcases f with rfl|rfl
 ·refine⟨_,ld0 c,true,by kernel_rfl,?_⟩;refine ah (λ_=>?_) (λg=>by cases g);refine⟨_,_,Xu (k:=k) (x:= .tmp 8) (by kernel_rfl) (by kernel_rfl) c,rU (p:=jU) (v:=self k) (by kernel_rfl) (by kernel_rfl) (λ_=>rfl) ⟨_,rfl,_,_,Pq (k:=k) (x:= .tmp 10) (by kernel_rfl) (by kernel_rfl) c,_,aa8 k,_,st0 c rfl rfl,rfl,?_,?_,rfl⟩⟩
  ·show(h.set k _).get k=_;rw[aa.aw,if_pos rfl];rfl
  ·intro j i;show(h.set k _).get j=_;rw[aa.aw,if_neg i]
 ·refine⟨_,ld0 c,false,by kernel_rfl,?_⟩;refine ah (λg=>by cases g) (λ_=>?_);have e:ay SS.P .neq 299 (self k) (self k)=some (.bool false):=by
   show((oW SS.P 299 (.pointer (some ⟨k,0,none⟩)) (.pointer (some ⟨k,0,none⟩))).map λb=>Value.bool !b)=_;unfold oW;dsimp only;rw[tw];dsimp only;rw[if_pos ⟨rfl,by rw[V4];rfl⟩];rfl
  refine⟨_,aa8 k,_,ld0 c,false,e,ah (λg=>by cases g) (λ_=>⟨rfl,c,λ_ _=>rfl,rfl⟩)⟩
def Bd(b h:aa)(k:Nat)(l:List UInt8):Prop:=∃a v,h.get k=some (.cells [a,v] 301 0 true)/\(a = .pointer none\/a=self k)/\KQ b h 5 v (l.map AQ)/\b.next<=k
theorem rw5:dG SS.P 5=some ((SS.P.info? 5).getD default):=by kernel_rfl
theorem aeX:((SS.P.info? 5).getD default).size=1:=by kernel_rfl
theorem aeW:((SS.P.info? 5).getD default).bytes=1:=by kernel_rfl
theorem tl9:bZ SS.P 9=true:=by kernel_rfl
theorem abK(h:aa)(l:List UInt8):cI h 1 (strOf l)=some (l.map AQ,(l.map AQ).length):=by
 show(if 1=1 then some (l.map (λb=>Value.int .u8 b.toNat),l.length)else none)=_;rw[if_pos rfl,lM];rfl
theorem NH:∀l:List UInt8,(l.map AQ).all bc=true
 |[]=>rfl
 |c::l=>by rw[List.map_cons,List.all_cons,NH l];rfl
theorem GK{i:aa}(o:KQ g h T v c)(f:∀j B,h.get j=some B->(∃cs d,B = .cells cs T 1 d)->i.get j=some B):KQ g i T v c:=by
 rcases o with o|⟨k,b,e,a⟩
 ·exact .inl o
 ·exact .inr ⟨k,b,e,f _ _ a ⟨_,_,rfl⟩⟩
theorem wX{l:List UInt8}(u:Wf g)(q:Ok g h)(b:Bd g h k l)(T:l.length+s.length<=1000000):
  FW SS 263 [self k,strOf s] h (λv G=>v = .tuple ⟨[.int .i64 (s.length:Int),.nilIface]⟩/\Ok g G/\Bd g G k (l++s)):=by
 obtain⟨a,v,y,R,o,D⟩:=b;refine O8 ⟨k,0,none⟩ s h _ ((FA y R).mono ?_);rintro _ C ⟨rfl,A,z,F⟩;have H:Ok g C:=by
  refine⟨λj B d=>?_,λj B d=>?_,by rw[F];exact q.nx⟩
  ·rw[F];by_cases e:j=k
   ·rw[e];exact q.wf _ _ y
   ·rw[z j e]at d;exact q.wf _ _ d
  ·have:=u _ _ d;rw[z j (by omega)];exact q.ext _ _ d
 have t:KQ g C 5 v (l.map AQ):=GK o λj B d x=>by
  obtain⟨cs,P,rfl⟩:=x;by_cases e:j=k
  ·subst e;rw[y]at d;injection d with d;injection d;omega
  ·rw[z j e];exact d
 have M:∃a n c,v = .slice a n c:=by
  rcases t with⟨rfl,_⟩|⟨_,rfl,_⟩<;>exact⟨_,_,_,rfl⟩
 obtain⟨Q,L,S,rfl⟩:=M;obtain⟨I,K,E,f,N,J,r,w⟩:=t.wO OC rw5 aeX tl9 u H (abK C s) (NH s) (by rw[aeW,lM,lM];omega) (by rw[lM,lM];omega);have m:(f.app C).get k=some (.cells [self k,.slice Q L S] 301 0 true):=w k _ A (by
  intro o n c e;rcases t with⟨i,_⟩|⟨O,i,_,p⟩
  ·rw[i]at e;cases e
  ·rw[i]at e;injection e with e
   injection e with e
   injection e with e
   subst e;rw[A]at p;injection p with p;injection p;omega)
 refine⟨rfl,_,Ya k,_,_,_,ld1 A,I,K,E,f,N,_,Ya k,_,st1 m ?_ ?_,rfl,?_,?_⟩
 ·rcases J with⟨i,_⟩|⟨O,i,_,p⟩<;>rw[i]<;>rfl
 ·rfl
 ·exact r.set _ D (r.wf _ _ m) u
 ·refine⟨self k,.slice I K E,?_,.inr rfl,?_,D⟩
  ·show((f.app C).set k _).get k=_;rw[aa.aw,if_pos rfl]
  ·rw[map_append];refine GK J λj B d x=>?_;obtain⟨cs,P,rfl⟩:=x;show((f.app C).set k _).get j=_;rw[aa.aw,if_neg]
   ·exact d
   intro e;subst e;rw[m]at d;injection d with d;injection d;omega
theorem adG{x:Operand}{ts:Array TypeId}(f:q.op = .call ⟨.builtin .unsafeSliceData,#[x],ts⟩){h:aa}{a:Addr}{n c:Nat}(e:r x = .slice (some a) n c)(g:0<aV c):bo SS.P fZ r q h=some (.pointer (some a),.no):=by
 obtain⟨j,l,k,i,d,b⟩:=q;subst f;show(match [x].map r with
  |[.slice none _ _]=>some (Value.pointer none,aY.no)
  |[.slice (some a) _ c]=>if 0<aV c then some (Value.pointer (some a),aY.no)else none
  |_=>none)=_
 rw[List.map_cons,List.map_nil,e];show(if 0<aV c then some (Value.pointer (some a),aY.no)else none)=_;rw[if_pos g]
theorem ad5:SS.P.underlying 318=some (.pointer 5):=by kernel_rfl
theorem Zo{x y:Operand}{t2:TypeId}(g:q.op = .call ⟨.builtin .unsafeString,#[x,y],#[318,t2]⟩){h:aa}{k:Nat}{l:List UInt8}(d:r x = .pointer (some ⟨k,0,none⟩))(o:r y = .int .i64 (l.length:Int))(f:h.get k=some (.cells (l.map AQ) 5 1 true))(j:l≠[])(u:l.length<9223372036854775807):bo SS.P fZ r q h=some (strOf l,.set k (.cells (l.map AQ) 5 1 false)):=by
 obtain⟨s,v,t,p,c,b⟩:=q;subst g;show(match [x,y].map r,(#[318,t2]:Array TypeId)[0]? with
  |[.pointer none,.int _ 0],some _=>some (strOf [],aY.no)
  | [.pointer (some ⟨k,i,none⟩),.int _ n],some m=>(match h.get k,SS.P.underlying m with
   | some (.cells cs e 1 true),some (.pointer a)=>
    if e=a/\au SS.P e=some 1/\0<n/\n<9223372036854775807/\((cs.drop i).take n.toNat).length=n.toNat then
     (match bytesOf ((cs.drop i).take n.toNat)with
     |some l=>some (strOf l,aY.set k (.cells cs e 1 false))
     |none=>none)
    else none
   |_,_=>none)
  |_,_=>none)=_
 rw[List.map_cons,List.map_cons,List.map_nil,d,o];show(match h.get k,SS.P.underlying 318 with
   | some (.cells cs e 1 true),some (.pointer a)=>
    if e=a/\au SS.P e=some 1/\0<(l.length:Int)/\(l.length:Int)<9223372036854775807/\((cs.drop 0).take (l.length:Int).toNat).length=(l.length:Int).toNat then
     (match bytesOf ((cs.drop 0).take (l.length:Int).toNat)with
     |some l=>some (strOf l,aY.set k (.cells cs e 1 false))
     |none=>none)
    else none
   |_,_=>none)=_
 rw[f,ad5];have w:=List.length_pos_iff.2 j;show(if 5=5/\au SS.P 5=some 1/\0<(l.length:Int)/\(l.length:Int)<9223372036854775807/\(((l.map AQ).drop 0).take (l.length:Int).toNat).length=(l.length:Int).toNat then
     (match bytesOf (((l.map AQ).drop 0).take (l.length:Int).toNat)with
     |some l'=>some (strOf l',aY.set k (.cells (l.map AQ) 5 1 false))
     |none=>none)
    else none)=_
 rw[toNat_natCast,drop_zero,take_of_length_le (by simp),if_pos ⟨rfl,zz5,by omega,by omega,by simp⟩,qH]
theorem KZ{l:List UInt8}(m:Wf g)(j:Ok g h)(b:Bd g h k l)(e:l≠[])(z:l.length<=1000000):
  FW SS 265 [self k] h (λv r=>v=strOf l/\Ok g r):=by
 obtain⟨a,v,s,A,o,w⟩:=b;rcases o with⟨_,p⟩|⟨f,rfl,q,i⟩
 ·exact absurd (List.map_eq_nil_iff.1 p) e
 have d:(room h 12).get k=_:=s;have t:=List.length_pos_iff.2 e;have u:aV (ca+(l.map AQ).length)=l.length:=by unfold aV;rw[if_pos (by omega),lM];omega
 rw[lM]at*;refine KY ⟨k,0,none⟩ h _ ⟨_,Ya k,_,_,_,ld1 d,_,_,adG (x:= .tmp 6) (ts:= #[183]) (a:=⟨f,0,none⟩) (n:=l.length) (c:=ca+l.length) (by kernel_rfl) (by kernel_rfl) (by rw[u];exact t),_,Ya k,_,_,_,ld1 d,_,_,Zo (x:= .tmp 7) (y:= .tmp 12) (k:=f) (l:=l) (t2:=3) (by kernel_rfl) (by kernel_rfl) (by kernel_rfl) i e (by omega),⟨ld1 d,by simp[cZ]⟩,⟨rfl,by simp[cZ]⟩,rfl,?_⟩;exact(j.room 12).set _ q ((j.room 12).wf _ _ i) m
theorem aeL(m:Nat)(h:aa):bn SS.P SS.gl SS.pr (m+8) 264 [strOf [48],.int .i64 0] h=some (strOf [],h):=by kernel_rfl
theorem aeM(m:Nat)(h:aa):bn SS.P SS.gl SS.pr (m+8) 264 [strOf [48],.int .i64 1] h=some (strOf [48],h):=by kernel_rfl
theorem aeN(m:Nat)(h:aa):bn SS.P SS.gl SS.pr (m+8) 264 [strOf [48],.int .i64 2] h=some (strOf [48,48],h):=by kernel_rfl
theorem aeO(m:Nat)(h:aa):bn SS.P SS.gl SS.pr (m+8) 264 [strOf [48],.int .i64 3] h=some (strOf [48,48,48],h):=by kernel_rfl
theorem aeP(m:Nat)(h:aa):bn SS.P SS.gl SS.pr (m+8) 264 [strOf [48],.int .i64 4] h=some (strOf [48,48,48,48],h):=by kernel_rfl
theorem aeQ(m:Nat)(h:aa):bn SS.P SS.gl SS.pr (m+8) 264 [strOf [48],.int .i64 5] h=some (strOf [48,48,48,48,48],h):=by kernel_rfl
theorem aeR(m:Nat)(h:aa):bn SS.P SS.gl SS.pr (m+8) 264 [strOf [48],.int .i64 6] h=some (strOf [48,48,48,48,48,48],h):=by kernel_rfl
theorem aeS(m:Nat)(h:aa):bn SS.P SS.gl SS.pr (m+8) 264 [strOf [48],.int .i64 7] h=some (strOf [48,48,48,48,48,48,48],h):=by kernel_rfl
theorem aeT(m:Nat)(h:aa):bn SS.P SS.gl SS.pr (m+8) 264 [strOf [48],.int .i64 8] h=some (strOf [48,48,48,48,48,48,48,48],h):=by kernel_rfl
theorem Q5(d:n<=8)(h:aa):FW SS 264 [strOf [48],.int .i64 (n:Int)] h (λv b=>v=strOf (List.replicate n 48)/\b=h):=by
 have a:∀(z:Int)(l:List UInt8),(∀m,bn SS.P SS.gl SS.pr (m+8) 264 [strOf [48],.int .i64 z] h=some (strOf l,h))->FW SS 264 [strOf [48],.int .i64 z] h (λv b=>v=strOf l/\b=h):=λz l c=>
  ⟨_,_,⟨8,λN e=>by obtain⟨m,rfl⟩:∃m,N=m+8:=⟨N-8,by omega⟩;exact c m⟩,rfl,rfl⟩
 have:n=0\/n=1\/n=2\/n=3\/n=4\/n=5\/n=6\/n=7\/n=8:=by omega
 rcases this with rfl|rfl|rfl|rfl|rfl|rfl|rfl|rfl|rfl
 ·exact a 0 _ λm=>aeL m h
 ·exact a 1 _ λm=>aeM m h
 ·exact a 2 _ λm=>aeN m h
 ·exact a 3 _ λm=>aeO m h
 ·exact a 4 _ λm=>aeP m h
 ·exact a 5 _ λm=>aeQ m h
 ·exact a 6 _ λm=>aeR m h
 ·exact a 7 _ λm=>aeS m h
 ·exact a 8 _ λm=>aeT m h
noncomputable def jN:FD:=ei Tryz.f239 [([1,1,1,0,1,0,0],[0,3,10,11])]
abbrev iE(a:OA)(n c:Nat)(p:Addr)(b:Int)(i:Nat):LV:=[(.slice a n c),(.pointer (some p)),(.int .i64 b),(iA i)]
theorem LZ(a:OA)(n c:Nat)(h:aa)(Q:VH)(d:aQ ((((n:Int):Int)==0)) (Q (strOf [48]) h) (xN (aA SS.P 301) h λe b=>LL SS jN [1,1,1,0,1,0,0] [(.slice a n c),(pA (h.next)),(iA n),(.int .i64 0)] b (KK SS jN [1,1,1,0,1,0] [] (EE SS jN Q)))):FW SS 239 [(.slice a n c)] h Q:=eu jN Tryz.func239 (ax d)
theorem tU(a:OA)(n c:Nat)(p:Addr)(b:Int)(d:Nat->Nat->aa->Prop)(Q:VH)(step:∀(e:Nat) (i:Nat) (v:Nat->Value) (h:aa),d e i h->aQ (decide (((i:Int):Int)<b)) (xP (ai SS.P 260 (.slice a n c) (.int .i64 (wrap .i64 (wrap .i64 ((n:Int)-1)-(i:Int))))) λG=>xI .u64 (ae SS.P 240 h (.pointer (some G))) λH=>FW SS 262 [(.int .u64 H),(.int .i64 10)] h λF z=>yS F λf=>aQ (decide (((i:Int):Int)>0)) (FW SS 264 [(strOf [48]),(.int .i64 (wrap .i64 (9-((f:LB).length:Int))))] z λD E=>yS D λs=>FW SS 263 [(.pointer (some p)),(strOf s)] E λm u=>∃o:Int,∃k:Value,m=(.tuple ⟨[(.int .i64 o),k]⟩)/\FW SS 263 [(.pointer (some p)),(strOf f)] u λj r=>∃A:Int,∃l:Value,j=(.tuple ⟨[(.int .i64 A),l]⟩)/\aJ (fB (iE a n c p b) d) e [(.slice a n c),(.pointer (some p)),(.int .i64 b),(.int .i64 (wrap .i64 ((i:Int)+1)))] r) (FW SS 263 [(.pointer (some p)),(strOf f)] z λy C=>∃x:Int,∃B:Value,y=(.tuple ⟨[(.int .i64 x),B]⟩)/\aJ (fB (iE a n c p b) d) e [(.slice a n c),(.pointer (some p)),(.int .i64 b),(.int .i64 (wrap .i64 ((i:Int)+1)))] C)) (FW SS 265 [(.pointer (some p))] h λt q=>yS t λw=>Q (strOf w) q))(e:Nat){i:Nat}{h:aa}(g:d e i h):LL SS jN [1,1,1,0,1,0,0] (iE a n c p b i) h (KK SS jN [1,1,1,0,1,0] [] (EE SS jN Q)):=
 dQ (iE a n c p b) d (λe i v h g=>ax (step e i v h g)) e g
noncomputable def mH:FD:=ei Tryz.f204 [([1,1,1,0,0,0],[6,7])]
abbrev jw  (a:OA) (n c:Nat) (b:OA) (k d:Nat):LV:=[(.slice a n c),(.slice b k d)]
theorem Qr(l m:LB)(h:aa)(Q:VH)(s:FW SS 203 [(strOf l)] h λt e=>yB t λp=>aQ (!p) (Q (.tuple ⟨[(strOf []),(.int .i64 1)]⟩) e) (FW SS 203 [(strOf m)] e λo j=>yB o λq=>aQ (!q) (Q (.tuple ⟨[(strOf []),(.int .i64 1)]⟩) j) (FW SS 208 [(strOf l)] j λk r=>yL k λn d i=>FW SS 208 [(strOf m)] r λa g=>yL a λb c f=>LL SS mH [1,1,1,0,0,0] (jw n d i b c f) g (KK SS mH [1,1,1,0,0] [] (EE SS mH Q))))):FW SS 204 [(strOf l),(strOf m)] h Q:=eu mH Tryz.func204 (ax s)
theorem vO(l m:LB)  (f:Nat->OA->Nat->Nat->OA->Nat->Nat->aa->Prop) (Q:VH) (step:∀(e:Nat)(a:OA)(n c:Nat)(b:OA)(k d:Nat)(t:Nat->Value)(h:aa),f e a n c b k d h->aQ (decide (((k:Int):Int)>0)) (FW SS 238 [(.slice a n c),(.slice b k d)] h λx r=>∃(v:OA)(w p:Nat),∃(g:OA)(i j:Nat),x=(.tuple ⟨[(.slice v w p),(.slice g i j)]⟩)/\aJ (LA6 jw f) e [(.slice b k d),(.slice g i j)] r) (FW SS 239 [(.slice a n c)] h λs u=>yS s λq=>Q (.tuple ⟨[(strOf q),(.int .i64 0)]⟩) u)) (e:Nat) {a:OA} {n c:Nat} {b:OA} {k d:Nat} {h:aa} (o:f e a n c b k d h):LL SS mH [1,1,1,0,0,0] (jw  a n c b k d) h (KK SS mH [1,1,1,0,0] [] (EE SS mH Q)):=
 adF jw f (λe a n c b k d t h o=>ax (step e a n c b k d t h o)) e o
noncomputable def ach:bw:= .cells [.pointer none,.slice none 0 0] 301 0 true
theorem acA:aA SS.P 301=some (ach,dX):=by kernel_rfl
theorem acH{m:aa}{l:List UInt8}(b:Bd g h k l)(o:Ok h m):Bd g m k l:=by
 obtain⟨a,v,d,e,c,f⟩:=b;exact⟨a,v,o.ext _ _ d,e,GK c λj B i _=>o.ext _ _ i,f⟩
theorem tT{c:Nat}(A:Rd h 240 (.slice a n c) (bl m))(S:(aG BB m).length<=10000)(t:sO h)(w:Wf h):
  FW SS 239 [.slice a n c] h (λv D=>v=strOf (aC m)/\Ok h D):=by
 have y:n=(aG BB m).length:=by have:=A.len;rwa[lM]at this
 refine LZ a n c h _ (ah (λg=>?_) (λg=>?_))
 ·have g:(n:Int)=0:=by simpa using g
  have Y:(aG BB m).length=0:=by omega
  have:m=0:=by have:=(fH eY).1 (List.eq_nil_of_length_eq_zero Y);omega
  subst this;refine⟨?_,Ok.refl w⟩;rw[da (by omega)];rfl
 ·have g:¬(n:Int)=0:=by simpa using g
  have W:0<m:=by
   rcases Nat.eq_zero_or_pos m with h|h
   ·subst h;rw[(fH eY).2 rfl]at y;simp at y;omega
   ·exact h
  have F:=DN eY W;have I:=cz eY m;have M:=bJ eY m;have A:Rd h 240 (.slice a n c) ((aG BB m).map uv):=A;generalize hx:aG BB m=x at*;have L:=tU a n c ⟨h.next,0,none⟩ (n:Int) (λK i g=>i<=n/\K=n-i/\Ok h g/\∃l,Bd h g h.next l/\l.length<=9*i/\(i=0->l=[])/\(0<i->0<Num.bv BB (x.drop (n-i))/\l=aC (Num.bv BB (x.drop (n-i))))) (λv D=>v=strOf (aC m)/\Ok h D) (by
   intro K i;intros;rename_i g X;obtain⟨h1,rfl,s,l,O,x2,Z,Q⟩:=X;refine ah (λq=>?_) (λq=>?_)
   ·have q:=dT q;have T:wrap .i64 (wrap .i64 ((n:Int)-1)-(i:Int))=((n-1-i:Nat):Int):=by
     rw[aO (n:=(n:Int)-1) (by omega) (by omega),aO (by omega) (by omega)];omega
    obtain⟨p,e2,P⟩:=D0 (A.ok s) (i:=((n-1-i:Nat):Int)) (by omega) (by rw[<-y];omega);rw[T];rw[toNat_natCast]at P;have R:x.getD (n-1-i) 0<BB:=bp (by decide) I _;have f:Num.bv BB (x.drop (n-1-i))=x.getD (n-1-i) 0+BB*Num.bv BB (x.drop (n-i)):=by
     rw[eG,show n-1-i+1=n-i by omega]
    have e5:wrap .i64 ((i:Int)+1)=((i+1:Nat):Int):=by rw[aO (by omega) (by omega)];omega
    rw[e5];have u:i=0->0<x.getD (n-1-i) 0:=λe=>by subst e;rw[y];exact F
    generalize x.getD (n-1-i) 0=b at*;have o:b<1000000000:=R;have x1:=C7 o;refine⟨p,e2,_,P,(Lv o (t.ok s) s.wf).mono ?_⟩;rintro _ h5 ⟨rfl,j⟩;have C:=acH O j;have j:=s.trans j;refine⟨_,rfl,ah (λr=>?_) (λr=>?_)⟩
    ·have r:=dT r;obtain⟨H,z⟩:=Q (by omega);have V:wrap .i64 (9-((aC b).length:Int))=((9-(aC b).length:Nat):Int):=by rw[aO (by omega) (by omega)];omega
     rw[V];have U:=pW b;refine(Q5 (by omega) h5).mono ?_;rintro _ h8 ⟨rfl,rfl⟩;refine⟨_,rfl,(wX w j C (by rw[length_replicate];omega)).mono ?_⟩;rintro _ x0 ⟨rfl,E,G⟩;refine⟨_,_,rfl,(wX w E G (by rw[length_append,length_replicate];omega)).mono ?_⟩;rintro _ B ⟨rfl,d,k⟩;refine⟨_,_,rfl,cK (n-(i+1)) (by omega) ⟨by omega,rfl,d,_,k,?_,λh=>by omega,λ_=>?_⟩⟩
     ·rw[length_append,length_append,length_replicate];omega
     ·rw[show n-(i+1)=n-1-i by omega,f];refine⟨Nat.add_pos_right _ (mul_pos (by decide) H),?_⟩;have:=C6 H o;rw[z];exact this.symm
    ·have r:=dF r;obtain rfl:i=0:=by omega
     obtain rfl:=Z rfl;refine(wX w j C (by rw[List.length_nil];omega)).mono ?_;rintro _ B ⟨rfl,d,k⟩;refine⟨_,_,rfl,cK (n-1) (by omega) ⟨by omega,rfl,d,_,k,?_,λh=>by omega,λ_=>?_⟩⟩
     ·rw[List.nil_append];omega
     ·have N:Num.bv BB (x.drop n)=0:=by rw[List.drop_of_length_le (by omega)];rfl
      rw[show n-1-0=n-1 by omega,show n-0=n by omega,N,Nat.mul_zero,Nat.add_zero]at f;rw[zero_add,f,List.nil_append];refine⟨?_,rfl⟩;exact u rfl
   ·have q:=dF q;obtain rfl:i=n:=by omega
    obtain⟨H,z⟩:=Q (by omega);rw[Nat.sub_self,drop_zero,M]at z;subst z;refine(KZ w s O (tB m) (by omega)).mono ?_;rintro _ B ⟨rfl,d⟩;exact⟨_,rfl,rfl,d⟩)
  have J:=(Ok.refl w).push ach;refine⟨_,acA,L n (i:=0) ⟨by omega,rfl,J,[],⟨_,_,?_,.inl rfl,.inl ⟨rfl,rfl⟩,Nat.le_refl _⟩,by simp,λ_=>rfl,λh=>by omega⟩⟩;rw[aa.aM,if_pos rfl];rfl
theorem abu(h:k<=9*m):10^k<=BB^m:=by
 show 10^k<=(10^9)^m;rw[<-Nat.pow_mul];exact pow_le_pow_right (by decide) h
theorem nI(h:n<10^1000):(aG BB n).length<=112:=by
 refine jh eY (lt_of_lt_of_le h (abu (k:=1000) (m:=112) (by decide)))
def FV(h:aa)(X Y:Nat)(e:Nat)(a:Option Addr)(n c:Nat)(b:Option Addr)(k d:Nat)(g:aa):Prop:=∃p:Nat,Rd g 240 (.slice a n c) (bl p)/\Rd g 240 (.slice b k d) (bl e)/\(aG BB p).length<=112/\(aG BB e).length<=112/\Nat.gcd p e=Nat.gcd X Y/\Ok h g
theorem Tn{c:Nat}{b:Option Addr}(t:sO h)(N:FV h n m i a j c b k l g){K:Nat->Option Addr->Nat->Nat->Option Addr->Nat->Nat->aa->Prop}{Q:VH}
  (J:∀(u:Option Addr)(r s:Nat)(f:Option Addr)(d q x:Nat)(g:aa),x<i->FV h n m x b k l f d q g->K x u r s f d q g):
  (0<k->FW SS 238 [.slice a j c,.slice b k l] g (λv C=>∃(u:Option Addr)(r s:Nat)(f:Option Addr)(d q x:Nat),v = .tuple ⟨[.slice u r s,.slice f d q]⟩/\K x u r s f d q C))/\
  (k=0->FW SS 239 [.slice a j c] g (λv C=>v=strOf (aC (Nat.gcd n m))/\Ok h C)):=by
 obtain⟨p,G,A,F,B,E,w⟩:=N;have D:k=(aG BB i).length:=by have:=A.len;rwa[lM]at this
 constructor
 ·intro y;have o:0<i:=by
   rcases Nat.eq_zero_or_pos i with e|e
   ·subst e;rw[(fH eY).2 rfl]at D;simp at D;omega
   ·exact e
  refine(Gu G A o (Nat.le_trans F (by omega)) (Nat.le_trans B (by omega)) w.wf).mono ?_;rintro _ I ⟨u,r,s,f,d,q,rfl,O,L,z⟩;refine⟨u,r,s,f,d,q,p%i,rfl,J u r s f d q (p%i) I (mod_lt _ o) ⟨i,A.ok z,L,B,?_,?_,w.trans z⟩⟩
  ·exact Nat.le_trans (Nat.le_of_not_lt λh=>by have M:=ji eY h;have y:=mod_lt p o;exact absurd M (Nat.not_lt.2 (le_of_lt y))) B
  ·rw[<-E,Nat.gcd_comm i,<-Nat.gcd_rec,Nat.gcd_comm]
 ·intro y;have o:i=0:=(fH eY).1 (List.eq_nil_of_length_eq_zero (by rw[<-D,y]));subst o;rw[Nat.gcd_zero_right]at E;subst E;refine(tT G (Nat.le_trans F (by omega)) (t.ok w) w.wf).mono ?_;rintro _ P ⟨rfl,H⟩;exact⟨rfl,w.trans H⟩
theorem Qs(a b:List UInt8){h:aa}(t:sO h)(w:Wf h):FW SS 204 [strOf a,strOf b] h (λv u=>v=Lx a b/\Ok h u):=by
 refine Qr a b h _ ((dj a h).mono ?_);rintro _ A ⟨rfl,y⟩;obtain rfl:h=A:=y.symm;refine⟨_,rfl,ah (λg=>?_) (λg=>?_)⟩
 ·have g:aK a=false:=by simpa using g
  refine⟨?_,Ok.refl w⟩;unfold Lx;rw[if_neg (λe=>by rw[e.1]at g;cases g)];rfl
 have g:aK a=true:=by simpa using g
 refine(dj b h).mono ?_;rintro _ A ⟨rfl,y⟩;obtain rfl:h=A:=y.symm;refine⟨_,rfl,ah (λf=>?_) (λf=>?_)⟩
 ·have f:aK b=false:=by simpa using f
  refine⟨?_,Ok.refl w⟩;unfold Lx;rw[if_neg (λe=>by rw[e.2]at f;cases f)];rfl
 have f:aK b=true:=by simpa using f
 obtain⟨X,U,D,F⟩:=mn g;obtain⟨Y,V,C,I⟩:=mn f;have H:=(kJ.1 g)
 have J:=(kJ.1 f)
 have T:=nI D;have O:=nI C;clear D C;refine(pk a H.1.2.1 (Nat.le_trans H.2 (by omega)) h w).mono ?_;rintro _ s ⟨z,r,x,rfl,B,p⟩;refine⟨_,_,_,rfl,(pk b J.1.2.1 (Nat.le_trans J.2 (by omega)) s p.wf).mono ?_⟩;rintro _ i ⟨m,l,o,rfl,E,q⟩;refine⟨_,_,_,rfl,?_⟩;have R:Lx a b=E5 (aC (Nat.gcd X Y)) 0:=by unfold Lx;rw[if_pos ⟨g,f⟩,F,I]
 rw[R];rw[F]at B;rw[I]at E;refine vO a b (FV h X Y) (λv u=>v=E5 (aC (Nat.gcd X Y)) 0/\Ok h u) (λL a n c b k d=>?_) Y ⟨X,B.rd.ok q,E.rd,T,O,rfl,p.trans q⟩;intros;rename_i g P;have S:=Tn t P (K:=λj z r x m l o g=>j<L/\FV h X Y j b k d m l o g) (λz r x m l o j g s i=>⟨s,i⟩) (Q:=λ_ _=>True);refine ah (λi=>?_) (λi=>?_)
 ·have i:=dT i;refine(S.1 (by omega)).mono ?_;rintro _ W ⟨z,r,x,m,l,o,j,rfl,M,N⟩;exact⟨_,_,_,_,_,_,rfl,ac4 j M N⟩
 ·have i:=dF i;refine(S.2 (by omega)).mono ?_;rintro _ Z ⟨rfl,G⟩;exact⟨_,rfl,rfl,G⟩
noncomputable def YT:FD:=ei Tryz.f267 []
theorem UB(x y z:Int)(h:aa)(Q:VH)(c:xI .u64 (ay SS.P .rem 240 (.int .u64 (wrap .u64 (wrap .u64 (x+y)+z))) (.int .u64 1000000000)) λa=>xI .u64 (ay SS.P .quo 240 (.int .u64 (wrap .u64 (wrap .u64 (x+y)+z))) (.int .u64 1000000000)) λb=>Q (.tuple ⟨[(.int .u64 a),(.int .u64 b)]⟩) h):FW SS 267 [(.int .u64 x),(.int .u64 y),(.int .u64 z)] h Q:=eu YT Tryz.func267 (ax c)
noncomputable def T4:FD:=ei Tryz.f269 []
theorem Qe(x y z:Int)(h:aa)(Q:VH)(c:xI .u64 (ay SS.P .rem 240 (.int .u64 (wrap .u64 (wrap .u64 (wrap .u64 (x+1000000000)-y)-z))) (.int .u64 1000000000)) λa=>xI .u64 (ay SS.P .quo 240 (.int .u64 (wrap .u64 (wrap .u64 (wrap .u64 (x+1000000000)-y)-z))) (.int .u64 1000000000)) λb=>Q (.tuple ⟨[(.int .u64 a),(.int .u64 (wrap .u64 (1-b)))]⟩) h):FW SS 269 [(.int .u64 x),(.int .u64 y),(.int .u64 z)] h Q:=eu T4 Tryz.func269 (ax c)
noncomputable def iM:FD:=ei Tryz.f266 [([1,1,1,0,1,0,0],[0,1,2,7,8,18,19])]
abbrev dz(a:OA)(n c:Nat)(b:OA)(m d:Nat)(e:Int)(i:Nat)(cy:Int)(r:OA)(f g:Nat):LV:=[(.slice a n c),(.slice b m d),(.func (.func 267) ⟨[]⟩ ⟨[]⟩),(.slice r f g),(.int .u64 cy),(.int .i64 e),(iA i)]
theorem Io(a:OA)(n c:Nat)(b:OA)(m d:Nat)(h:aa)(Q:VH)(f:xI .i64 (qm true [(iA n),(iA m)]) λe=>LL SS iM [1,1,1,0,1,0,0] (dz a n c b m d (wrap .i64 (e+1)) 0 0 none 0 0) h (KK SS iM [1,1,1,0,1,0] [] (EE SS iM Q))):FW SS 266 [(.slice a n c),(.slice b m d),(.func (.func 267) ⟨[]⟩ ⟨[]⟩)] h Q:=eu iM Tryz.func266 (ax f)
theorem so(a:OA)(n c:Nat)(b:OA)(m d:Nat)(e:Int)(f:Nat->Nat->Int->OA->Nat->Nat->aa->Prop)(Q:VH)(step:∀(k:Nat) (i:Nat) (cy:Int) (r:OA) (g j:Nat) (X:Nat->Value) (h:aa),f k i cy r g j h->aQ (decide (((i:Int):Int)<e)) (aQ (decide (((i:Int):Int)<(n:Int))) (xP (ai SS.P 260 (.slice a n c) (iA i)) λp2=>xI .u64 (ae SS.P 240 h (.pointer (some p2))) λE=>aQ (decide (((i:Int):Int)<(m:Int))) (xP (ai SS.P 260 (.slice b m d) (iA i)) λp4=>xI .u64 (ae SS.P 240 h (.pointer (some p4))) λn5=>FW SS 267 [(.int .u64 E),(.int .u64 n5),(.int .u64 cy)] h λv6 h7=>∃n8:Int,∃F:Int,v6=(.tuple ⟨[(.int .u64 n8),(.int .u64 F)]⟩)/\xR (az SS.P 260 1 [(0,(.int .u64 n8))]) h7 λy6 S y1 o=>xE (aE SS.P 260 260 (.slice r g j) (sA (h7.next) S y1) o) o λD N U y9 L=>aJ (KE (dz a n c b m d e) f) k [(.slice a n c),(.slice b m d),(.func (.func 267) ⟨[]⟩ ⟨[]⟩),(.slice D N U),(.int .u64 F),(.int .i64 e),(.int .i64 (wrap .i64 ((i:Int)+1)))] L) (FW SS 267 [(.int .u64 E),(.int .u64 0),(.int .u64 cy)] h λx6 A=>∃s:Int,∃z:Int,x6=(.tuple ⟨[(.int .u64 s),(.int .u64 z)]⟩)/\xR (az SS.P 260 1 [(0,(.int .u64 s))]) A λz1 R G t=>xE (aE SS.P 260 260 (.slice r g j) (sA (A.next) R G) t) t λy2 x3 x7 z0 x0=>aJ (KE (dz a n c b m d e) f) k [(.slice a n c),(.slice b m d),(.func (.func 267) ⟨[]⟩ ⟨[]⟩),(.slice y2 x3 x7),(.int .u64 z),(.int .i64 e),(.int .i64 (wrap .i64 ((i:Int)+1)))] x0)) (aQ (decide (((i:Int):Int)<(m:Int))) (xP (ai SS.P 260 (.slice b m d) (iA i)) λx2=>xI .u64 (ae SS.P 240 h (.pointer (some x2))) λM=>FW SS 267 [(.int .u64 0),(.int .u64 M),(.int .u64 cy)] h λy0 q=>∃l:Int,∃p:Int,y0=(.tuple ⟨[(.int .u64 l),(.int .u64 p)]⟩)/\xR (az SS.P 260 1 [(0,(.int .u64 l))]) q λy8 x8 H x=>xE (aE SS.P 260 260 (.slice r g j) (sA (q.next) x8 H) x) x λV y3 T y4 K=>aJ (KE (dz a n c b m d e) f) k [(.slice a n c),(.slice b m d),(.func (.func 267) ⟨[]⟩ ⟨[]⟩),(.slice V y3 T),(.int .u64 p),(.int .i64 e),(.int .i64 (wrap .i64 ((i:Int)+1)))] K) (FW SS 267 [(.int .u64 0),(.int .u64 0),(.int .u64 cy)] h λJ y=>∃v:Int,∃w:Int,J=(.tuple ⟨[(.int .u64 v),(.int .u64 w)]⟩)/\xR (az SS.P 260 1 [(0,(.int .u64 v))]) y λy5 Y x4 u=>xE (aE SS.P 260 260 (.slice r g j) (sA (y.next) Y x4) u) u λx5 x1 I y7 O=>aJ (KE (dz a n c b m d e) f) k [(.slice a n c),(.slice b m d),(.func (.func 267) ⟨[]⟩ ⟨[]⟩),(.slice x5 x1 I),(.int .u64 w),(.int .i64 e),(.int .i64 (wrap .i64 ((i:Int)+1)))] O))) (FW SS 210 [(.slice r g j)] h λx9 W=>yL x9 λC P Z=>Q (.slice C P Z) W))(k:Nat){i:Nat}{cy:Int}{r:OA}{g j:Nat}{h:aa}(B:f k i cy r g j h):LL SS iM [1,1,1,0,1,0,0] (dz a n c b m d e i cy r g j) h (KK SS iM [1,1,1,0,1,0] [] (EE SS iM Q)):=
 Vb (dz a n c b m d e) f (λk i cy r g j X h B=>ax (step k i cy r g j X h B)) k B
noncomputable def gR:FD:=ei Tryz.f266 [([1,1,1,0,1,0,0],[0,1,2,7,8,18,19])]
abbrev db(a:OA)(n c:Nat)(b:OA)(m d:Nat)(e:Int)(i:Nat)(cy:Int)(r:OA)(f g:Nat):LV:=[(.slice a n c),(.slice b m d),(.func (.func 269) ⟨[]⟩ ⟨[]⟩),(.slice r f g),(.int .u64 cy),(.int .i64 e),(iA i)]
theorem FF(a:OA)(n c:Nat)(b:OA)(m d:Nat)(h:aa)(Q:VH)(f:xI .i64 (qm true [(iA n),(iA m)]) λe=>LL SS gR [1,1,1,0,1,0,0] (db a n c b m d (wrap .i64 (e+1)) 0 0 none 0 0) h (KK SS gR [1,1,1,0,1,0] [] (EE SS gR Q))):FW SS 266 [(.slice a n c),(.slice b m d),(.func (.func 269) ⟨[]⟩ ⟨[]⟩)] h Q:=eu gR Tryz.func266 (ax f)
theorem qJ(a:OA)(n c:Nat)(b:OA)(m d:Nat)(e:Int)(f:Nat->Nat->Int->OA->Nat->Nat->aa->Prop)(Q:VH)(step:∀(k:Nat) (i:Nat) (cy:Int) (r:OA) (g j:Nat) (X:Nat->Value) (h:aa),f k i cy r g j h->aQ (decide (((i:Int):Int)<e)) (aQ (decide (((i:Int):Int)<(n:Int))) (xP (ai SS.P 260 (.slice a n c) (iA i)) λp2=>xI .u64 (ae SS.P 240 h (.pointer (some p2))) λE=>aQ (decide (((i:Int):Int)<(m:Int))) (xP (ai SS.P 260 (.slice b m d) (iA i)) λp4=>xI .u64 (ae SS.P 240 h (.pointer (some p4))) λn5=>FW SS 269 [(.int .u64 E),(.int .u64 n5),(.int .u64 cy)] h λv6 h7=>∃n8:Int,∃F:Int,v6=(.tuple ⟨[(.int .u64 n8),(.int .u64 F)]⟩)/\xR (az SS.P 260 1 [(0,(.int .u64 n8))]) h7 λy6 S y1 o=>xE (aE SS.P 260 260 (.slice r g j) (sA (h7.next) S y1) o) o λD N U y9 L=>aJ (KE (db a n c b m d e) f) k [(.slice a n c),(.slice b m d),(.func (.func 269) ⟨[]⟩ ⟨[]⟩),(.slice D N U),(.int .u64 F),(.int .i64 e),(.int .i64 (wrap .i64 ((i:Int)+1)))] L) (FW SS 269 [(.int .u64 E),(.int .u64 0),(.int .u64 cy)] h λx6 A=>∃s:Int,∃z:Int,x6=(.tuple ⟨[(.int .u64 s),(.int .u64 z)]⟩)/\xR (az SS.P 260 1 [(0,(.int .u64 s))]) A λz1 R G t=>xE (aE SS.P 260 260 (.slice r g j) (sA (A.next) R G) t) t λy2 x3 x7 z0 x0=>aJ (KE (db a n c b m d e) f) k [(.slice a n c),(.slice b m d),(.func (.func 269) ⟨[]⟩ ⟨[]⟩),(.slice y2 x3 x7),(.int .u64 z),(.int .i64 e),(.int .i64 (wrap .i64 ((i:Int)+1)))] x0)) (aQ (decide (((i:Int):Int)<(m:Int))) (xP (ai SS.P 260 (.slice b m d) (iA i)) λx2=>xI .u64 (ae SS.P 240 h (.pointer (some x2))) λM=>FW SS 269 [(.int .u64 0),(.int .u64 M),(.int .u64 cy)] h λy0 q=>∃l:Int,∃p:Int,y0=(.tuple ⟨[(.int .u64 l),(.int .u64 p)]⟩)/\xR (az SS.P 260 1 [(0,(.int .u64 l))]) q λy8 x8 H x=>xE (aE SS.P 260 260 (.slice r g j) (sA (q.next) x8 H) x) x λV y3 T y4 K=>aJ (KE (db a n c b m d e) f) k [(.slice a n c),(.slice b m d),(.func (.func 269) ⟨[]⟩ ⟨[]⟩),(.slice V y3 T),(.int .u64 p),(.int .i64 e),(.int .i64 (wrap .i64 ((i:Int)+1)))] K) (FW SS 269 [(.int .u64 0),(.int .u64 0),(.int .u64 cy)] h λJ y=>∃v:Int,∃w:Int,J=(.tuple ⟨[(.int .u64 v),(.int .u64 w)]⟩)/\xR (az SS.P 260 1 [(0,(.int .u64 v))]) y λy5 Y x4 u=>xE (aE SS.P 260 260 (.slice r g j) (sA (y.next) Y x4) u) u λx5 x1 I y7 O=>aJ (KE (db a n c b m d e) f) k [(.slice a n c),(.slice b m d),(.func (.func 269) ⟨[]⟩ ⟨[]⟩),(.slice x5 x1 I),(.int .u64 w),(.int .i64 e),(.int .i64 (wrap .i64 ((i:Int)+1)))] O))) (FW SS 210 [(.slice r g j)] h λx9 W=>yL x9 λC P Z=>Q (.slice C P Z) W))(k:Nat){i:Nat}{cy:Int}{r:OA}{g j:Nat}{h:aa}(B:f k i cy r g j h):LL SS gR [1,1,1,0,1,0,0] (db a n c b m d e i cy r g j) h (KK SS gR [1,1,1,0,1,0] [] (EE SS gR Q)):=
 Vb (db a n c b m d e) f (λk i cy r g j X h B=>ax (step k i cy r g j X h B)) k B
noncomputable def Qu:FD:=ei Tryz.f240 []
theorem LX(a:OA)(n c:Nat)(b:OA)(m d:Nat)(h:aa)(Q:VH)(e:FW SS 266 [(.slice a n c),(.slice b m d),(.func (.func 267) ⟨[]⟩ ⟨[]⟩)] h λi f=>yL i λg j k=>Q (.slice g j k) f):FW SS 240 [(.slice a n c),(.slice b m d)] h Q:=eu Qu Tryz.func240 (ax e)
noncomputable def LW:FD:=ei Tryz.f242 []
theorem Jd(a:OA)(n c:Nat)(b:OA)(m d:Nat)(h:aa)(Q:VH)(e:FW SS 266 [(.slice a n c),(.slice b m d),(.func (.func 269) ⟨[]⟩ ⟨[]⟩)] h λi f=>yL i λg j k=>Q (.slice g j k) f):FW SS 242 [(.slice a n c),(.slice b m d)] h Q:=eu LW Tryz.func242 (ax e)
noncomputable def Gv:FD:=ei Tryz.f209 []
theorem Dv(a:OA)(n c:Nat)(h:aa)(Q:VH)(e:FW SS 239 [(.slice a n c)] h λf b=>yS f λd=>aQ (decide ((((d:LB).length:Int):Int)>1000)) (Q (.tuple ⟨[(strOf []),(.int .i64 2)]⟩) b) (Q (.tuple ⟨[(strOf d),(.int .i64 0)]⟩) b)):FW SS 209 [(.slice a n c)] h Q:=eu Gv Tryz.func209 (ax e)
noncomputable def Uc:FD:=ei Tryz.f206 []
theorem Qp(l m:LB)(h:aa)(Q:VH)(v:FW SS 203 [(strOf l)] h λw g=>yB w λs=>aQ (!s) (Q (.int .i64 0) g) (FW SS 203 [(strOf m)] g λr n=>yB r λt=>aQ (!t) (Q (.int .i64 0) n) (FW SS 208 [(strOf l)] n λp u=>yL p λq d k=>FW SS 208 [(strOf m)] u λa j=>yL a λb c i=>FW SS 241 [(.slice q d k),(.slice b c i)] j λo e=>yI .i64 o λf=>Q (.int .i64 f) e))):FW SS 206 [(strOf l),(strOf m)] h Q:=eu Uc Tryz.func206 (ax v)
noncomputable def Ua:FD:=ei Tryz.f205 []
theorem Qn(l m:LB)(h:aa)(Q:VH)(B:FW SS 203 [(strOf l)] h λC j=>yB C λy=>aQ (!y) (Q (.tuple ⟨[(strOf []),(.int .i64 1)]⟩) j) (FW SS 203 [(strOf m)] j λx s=>yB x λz=>aQ (!z) (Q (.tuple ⟨[(strOf []),(.int .i64 1)]⟩) s) (FW SS 208 [(strOf l)] s λv A=>yL v λw g r=>FW SS 208 [(strOf m)] A λd o=>yL d λe f k=>FW SS 240 [(.slice w g r),(.slice e f k)] o λu i=>yL u λp q c=>FW SS 209 [(.slice p q c)] i λt n=>∃b:LB,∃a:Int,t=(.tuple ⟨[(strOf b),(.int .i64 a)]⟩)/\Q (.tuple ⟨[(strOf b),(.int .i64 a)]⟩) n))):FW SS 205 [(strOf l),(strOf m)] h Q:=eu Ua Tryz.func205 (ax B)
noncomputable def Ud:FD:=ei Tryz.f207 []
theorem Qv(l m:LB)(h:aa)(Q:VH)(D:FW SS 203 [(strOf l)] h λE o=>yB E λA=>aQ (!A) (Q (.tuple ⟨[(strOf []),(.int .i64 1)]⟩) o) (FW SS 203 [(strOf m)] o λz w=>yB z λB=>aQ (!B) (Q (.tuple ⟨[(strOf []),(.int .i64 1)]⟩) w) (FW SS 208 [(strOf l)] w λy C=>yL y λi c f=>FW SS 208 [(strOf m)] C λg v=>yL g λa b e=>FW SS 241 [(.slice i c f),(.slice a b e)] v λx d=>yI .i64 x λn=>aQ (decide ((n:Int)<0)) (Q (.tuple ⟨[(strOf []),(.int .i64 4)]⟩) d) (FW SS 242 [(.slice i c f),(.slice a b e)] d λs j=>yL s λp q t=>FW SS 239 [(.slice p q t)] j λr u=>yS r λk=>Q (.tuple ⟨[(strOf k),(.int .i64 0)]⟩) u)))):FW SS 207 [(strOf l),(strOf m)] h Q:=eu Ud Tryz.func207 (ax D)
noncomputable def dJ:FD:=ei Tryz.f172 [([1,1,1,1,0,1,0,0],[6,7,8,33,34]),([1,1,1,1,0,1,0,0,1,1,0,0,1,1,1,0,0],[6,7,8,9,10,33,34,39,40])]
abbrev fs(a:OA)(n c:Nat)(b:OA)(k d:Nat)(t:OA)(tn tc:Nat)(e:Int)(i:Nat):LV:=[(.slice a n c),(.slice b k d),(.slice t tn tc),(.int .i64 e),(iA i)]
abbrev gW(a:OA)(n c:Nat)(b:OA)(k d:Nat)(t:OA)(tn tc:Nat)(f:Int)(i:Nat)(e:Int)(j:Nat)(cy:Int):LV:=[(.slice a n c),(.slice b k d),(.slice t tn tc),(iA i),(.int .u64 cy),(.int .i64 f),(iA i),(.int .i64 e),(iA j)]
theorem Qt(l m:LB)(h:aa)(Q:VH)(v:FW SS 203 [(strOf l)] h λw g=>yB w λs=>aQ (!s) (Q (.tuple ⟨[(strOf []),(.int .i64 1)]⟩) g) (FW SS 203 [(strOf m)] g λr o=>yB r λt=>aQ (!t) (Q (.tuple ⟨[(strOf []),(.int .i64 1)]⟩) o) (FW SS 208 [(strOf l)] o λp u=>yL p λq a n=>FW SS 208 [(strOf m)] u λd c=>yL d λe b i=>xR (aR SS.P 260 (.int .i64 (wrap .i64 (wrap .i64 ((a:Int)+(b:Int))+1))) (.int .i64 (wrap .i64 (wrap .i64 ((a:Int)+(b:Int))+1)))) c λx f j k=>LL SS dJ [1,1,1,1,0,1,0,0] (fs q a n e b i (some ⟨c.next,0,none⟩) f j (a:Int) 0) k (KK SS dJ [1,1,1,1,0,1,0] [] (EE SS dJ Q))))):FW SS 172 [(strOf l),(strOf m)] h Q:=eu dJ Tryz.func172 (ax v)
theorem vP(l m:LB)(a:OA)(n c:Nat)(b:OA)(k d:Nat)(t:OA)(tn tc:Nat)(e:Int)(g:Nat->Nat->aa->Prop)(Q:VH)(step:∀(f:Nat) (i:Nat) (w:Nat->Value) (h:aa),g f i h->aQ (decide (((i:Int):Int)<e)) (LL SS dJ [1,1,1,1,0,1,0,0,1,1,0,0,1,1,1,0,0] (gW a n c b k d t tn tc e i (wrap .i64 ((k:Int)+1)) 0 0) h (KK SS dJ [1,1,0,0,1,1,1,0] [1,1,1,1,0,1,0,0] (RR dJ [1,1,1,1,0,1,0,0] (fB (fs a n c b k d t tn tc e) g) f (KK SS dJ [1,1,1,1,0,1,0] [] (EE SS dJ Q))))) (FW SS 210 [(.slice t tn tc)] h λs x=>yL s λy u q=>FW SS 209 [(.slice y u q)] x λv r=>∃o:LB,∃j:Int,v=(.tuple ⟨[(strOf o),(.int .i64 j)]⟩)/\Q (.tuple ⟨[(strOf o),(.int .i64 j)]⟩) r))(f:Nat){i:Nat}{h:aa}(p:g f i h):LL SS dJ [1,1,1,1,0,1,0,0] (fs a n c b k d t tn tc e i) h (KK SS dJ [1,1,1,1,0,1,0] [] (EE SS dJ Q)):=
 dQ (fs a n c b k d t tn tc e) g (λf i w h p=>ax (step f i w h p)) f p
theorem vQ(l m:LB)(a:OA)(n c:Nat)(b:OA)(k d:Nat)(t:OA)(tn tc:Nat)(f:Int)(q:Nat->Nat->aa->Prop)(x i:Nat)(e:Int)(o:Nat->Nat->Int->aa->Prop)(Q:VH)(step:∀(g:Nat) (j:Nat) (cy:Int) (B:Nat->Value) (h:aa),o g j cy h->aQ (decide (((j:Int):Int)<e)) (xP (ai SS.P 260 (.slice t tn tc) (.int .i64 (wrap .i64 ((i:Int)+(j:Int))))) λz=>xI .u64 (ae SS.P 240 h (.pointer (some z))) λp=>aQ (decide (((j:Int):Int)<(k:Int))) (xP (ai SS.P 260 (.slice a n c) (iA i)) λC=>xI .u64 (ae SS.P 240 (room h 12) (.pointer (some C))) λs=>xP (ai SS.P 260 (.slice b k d) (iA j)) λG=>xI .u64 (ae SS.P 240 (room h 12) (.pointer (some G))) λr=>xI .u64 (ay SS.P .rem 240 (.int .u64 (wrap .u64 (wrap .u64 (p+cy)+wrap .u64 (s*r)))) (.int .u64 1000000000)) λv=>xI .u64 (ay SS.P .quo 240 (.int .u64 (wrap .u64 (wrap .u64 (p+cy)+wrap .u64 (s*r)))) (.int .u64 1000000000)) λA=>xP (ai SS.P 260 (.slice t tn tc) (.int .i64 (wrap .i64 ((i:Int)+(j:Int))))) λH=>xU (aj SS.P 240 (.pointer (some H)) (.int .u64 v) (room h 12)) (room h 12) λI w=>aJ (C1 (gW a n c b k d t tn tc f i e) o) g [(.slice a n c),(.slice b k d),(.slice t tn tc),(iA i),(.int .u64 A),(.int .i64 f),(iA i),(.int .i64 e),(.int .i64 (wrap .i64 ((j:Int)+1)))] w) (xI .u64 (ay SS.P .rem 240 (.int .u64 (wrap .u64 (p+cy))) (.int .u64 1000000000)) λE=>xI .u64 (ay SS.P .quo 240 (.int .u64 (wrap .u64 (p+cy))) (.int .u64 1000000000)) λy=>xP (ai SS.P 260 (.slice t tn tc) (.int .i64 (wrap .i64 ((i:Int)+(j:Int))))) λF=>xU (aj SS.P 240 (.pointer (some F)) (.int .u64 E) h) h λJ D=>aJ (C1 (gW a n c b k d t tn tc f i e) o) g [(.slice a n c),(.slice b k d),(.slice t tn tc),(iA i),(.int .u64 y),(.int .i64 f),(iA i),(.int .i64 e),(.int .i64 (wrap .i64 ((j:Int)+1)))] D)) (aJ (fB (fs a n c b k d t tn tc f) q) x [(.slice a n c),(.slice b k d),(.slice t tn tc),(.int .i64 f),(.int .i64 (wrap .i64 ((i:Int)+1)))] h))(g:Nat){j:Nat}{cy:Int}{h:aa}(u:o g j cy h):LL SS dJ [1,1,1,1,0,1,0,0,1,1,0,0,1,1,1,0,0] (gW a n c b k d t tn tc f i e j cy) h (KK SS dJ [1,1,0,0,1,1,1,0] [1,1,1,1,0,1,0,0] (RR dJ [1,1,1,1,0,1,0,0] (fB (fs a n c b k d t tn tc f) q) x (KK SS dJ [1,1,1,1,0,1,0] [] (EE SS dJ Q)))):=
 tl (gW a n c b k d t tn tc f i e) o (λg j cy B h u=>ax (step g j cy B h u)) g u
variable{x:List Nat}{y:List Nat}
theorem UD(x y z:Nat)(f:x<BB)(i:y<BB)(g:z<=1)(h:aa):FW SS 267 [.int .u64 (x:Int),.int .u64 (y:Int),.int .u64 (z:Int)] h (λv c=>v = .tuple ⟨[uv (aP BB x y z).1,uv (aP BB x y z).2]⟩/\c=h):=by
 have e:BB=1000000000:=rfl;have a:wrap .u64 ((x:Int)+(y:Int))=((x+y:Nat):Int):=by rw[<-Int.natCast_add];exact dZ (by omega) (by omega)
 have d:wrap .u64 (((x+y:Nat):Int)+(z:Int))=((x+y+z:Nat):Int):=by rw[<-Int.natCast_add];exact dZ (by omega) (by omega)
 refine UB _ _ _ h _ ?_;rw[a,d];refine⟨_,fQ (b:=BB) (by omega) (by decide),_,nE (b:=BB) (by omega) (by omega) (by decide),?_,rfl⟩;unfold uv aP;rw[Int.natCast_emod,Int.natCast_ediv]
theorem Qg(x y z:Nat)(j:x<BB)(m:y<BB)(l:z<=1)(h:aa):FW SS 269 [.int .u64 (x:Int),.int .u64 (y:Int),.int .u64 (z:Int)] h (λv f=>v = .tuple ⟨[uv (bB BB x y z).1,uv (bB BB x y z).2]⟩/\f=h):=by
 have i:BB=1000000000:=rfl;have a:x+BB-y-z<2*BB:=by omega
 have c:wrap .u64 ((x:Int)+1000000000)=((x+BB:Nat):Int):=by rw[dZ (by omega) (by omega)];omega
 have e:wrap .u64 (((x+BB:Nat):Int)-(y:Int))=((x+BB-y:Nat):Int):=by rw[dZ (by omega) (by omega)];omega
 have d:wrap .u64 (((x+BB-y:Nat):Int)-(z:Int))=((x+BB-y-z:Nat):Int):=by rw[dZ (by omega) (by omega)];omega
 refine Qe _ _ _ h _ ?_;rw[c,e,d];refine⟨_,fQ (b:=BB) (by omega) (by decide),_,nE (b:=BB) (by omega) (by omega) (by decide),?_,rfl⟩;unfold uv bB;dsimp only;generalize x+BB-y-z=q at*;have k:q/BB<=1:=by
  have:q/BB<2:=Nat.div_lt_of_lt_mul (by omega);omega
 have g:wrap .u64 (1-(q:Int)/(BB:Int))=((1-q/BB:Nat):Int):=by
  rw[<-Int.natCast_ediv];clear a c e d;generalize q/BB=r at*;rw[dZ (by omega) (by omega)];omega
 rw[g,Int.natCast_emod]
theorem YU{c:Nat}(b:n<BB)(a:m<BB)(d:c<=1):(aP BB n m c).2<=1:=by
 show(n+m+c)/BB<=1;have:(n+m+c)/BB<2:=Nat.div_lt_of_lt_mul (by omega);omega
theorem T5{c:Nat}(b:n<BB)(a:m<BB)(d:c<=1):(bB BB n m c).2<=1:=(oH eY b a d).2
theorem Ip{b:Option Addr}{c:Nat}(V:Rd h 240 (.slice a n c) (x.map uv))(I:Rd h 240 (.slice b m k) (y.map uv))(Q:∀k∈x,k<BB)(hy:∀k∈y,k<BB)(x2:x.length<=10000)(x4:y.length<=10000)(w:Wf h){R:Nat}(fin:cP (bq (aP BB) x y 0 (max x.length y.length+1) 0)=aG BB R):
  FW SS 266 [.slice a n c,.slice b m k,.func (.func 267) ⟨[]⟩ ⟨[]⟩] h (jK h 240 (bl R)):=by
 have hn:n=x.length:=by have:=V.len;rwa[lM]at this
 have hm:m=y.length:=by have:=I.len;rwa[lM]at this
 rw[<-hn,<-hm]at fin;have W:∀j,eE (aP BB) x y 0 0 j<=1:=by
  intro j
  induction j with
  |zero=>exact zero_le _
  |succ j ih=>exact YU (bp (by decide) Q _) (bp (by decide) hy _) ih
 have x3:n<=max n m/\m<=max n m:=⟨Nat.le_max_left _ _,Nat.le_max_right _ _⟩
 have x1:max n m<=10000:=Nat.max_le.2 ⟨by omega,by omega⟩;have J:(if(m:Int)>(n:Int)then(m:Int)else(n:Int))=((max n m:Nat):Int):=by split<;>omega
 generalize max n m=N at*;have L:=so a n c b m k ((N:Int)+1) (λz i cy r P S g=>i<=N+1/\z=N+1-i/\cy=(eE (aP BB) x y 0 0 i:Nat)/\fg h g 240 (.slice r P S) ((bq (aP BB) x y 0 i 0).map uv)/\Ok h g) (jK h 240 (bl R)) (by
  intro z i cy r P S;intros;rename_i g hi;obtain⟨h1,h2,rfl,A,o⟩:=hi;have O:wrap .i64 ((i:Int)+1)=((i+1:Nat):Int):=by rw[aO (by omega) (by omega)];omega
  rw[O];have l:(bq (aP BB) x y 0 i 0).length=i:=gN _ _ _ _ _ _;have e:=jg (aP BB) x y i 0 0;rw[zero_add]at e;have d:eE (aP BB) x y 0 0 (i+1)=(aP BB (x.getD i 0) (y.getD i 0) (eE (aP BB) x y 0 0 i)).2:=by
   show(aP BB (x.getD (0+i) 0) (y.getD (0+i) 0) _).2=_;rw[zero_add]
  have X:=W i;have t:=UD (x.getD i 0) (y.getD i 0) (eE (aP BB) x y 0 0 i) (bp (by decide) Q _) (bp (by decide) hy _) X g;refine ah (λD=>?_) (λD=>?_)
  ·have D:=dT D;refine ah (λC=>?_) (λC=>?_)
   ·have C:=dT C;obtain⟨q,M,Z⟩:=D0 (V.ok o) (i:=(i:Int)) (by omega) (by omega);rw[toNat_natCast]at Z;refine⟨q,M,_,Z,ah (λf=>?_) (λf=>?_)⟩
    ·have f:=dT f;obtain⟨H,E,B⟩:=D0 (I.ok o) (i:=(i:Int)) (by omega) (by omega);rw[toNat_natCast]at B;refine⟨H,E,_,B,t.mono ?_⟩;rintro _ _ ⟨rfl,rfl⟩;refine⟨_,_,rfl,_,_,_,p8 _,?_⟩;obtain⟨b,m,k,u,s,F,p,v⟩:=jA w o A ((aP BB (x.getD i 0) (y.getD i 0) (eE (aP BB) x y 0 0 i)).1:Nat) (by rw[lM,l];omega);refine⟨b,m,k,u,s,sW (z-1) (by omega) ⟨by omega,by omega,by rw[d],?_,v⟩⟩;rw[e,map_append];exact p
    ·have f:=dF f;have G:y.getD i 0=0:=by rw[gD,getElem?_eq_none (by omega)];rfl
     rw[G]at t e d;refine t.mono ?_;rintro _ _ ⟨rfl,rfl⟩;refine⟨_,_,rfl,_,_,_,p8 _,?_⟩;obtain⟨b,m,k,u,s,F,p,v⟩:=jA w o A ((aP BB (x.getD i 0) 0 (eE (aP BB) x y 0 0 i)).1:Nat) (by rw[lM,l];omega);refine⟨b,m,k,u,s,sW (z-1) (by omega) ⟨by omega,by omega,by rw[d],?_,v⟩⟩;rw[e,map_append];exact p
   ·have C:=dF C;have x0:x.getD i 0=0:=by rw[gD,getElem?_eq_none (by omega)];rfl
    rw[x0]at t e d;refine ah (λf=>?_) (λf=>?_)
    ·have f:=dT f;obtain⟨H,E,B⟩:=D0 (I.ok o) (i:=(i:Int)) (by omega) (by omega);rw[toNat_natCast]at B;refine⟨H,E,_,B,t.mono ?_⟩;rintro _ _ ⟨rfl,rfl⟩;refine⟨_,_,rfl,_,_,_,p8 _,?_⟩;obtain⟨b,m,k,u,s,F,p,v⟩:=jA w o A ((aP BB 0 (y.getD i 0) (eE (aP BB) x y 0 0 i)).1:Nat) (by rw[lM,l];omega);refine⟨b,m,k,u,s,sW (z-1) (by omega) ⟨by omega,by omega,by rw[d],?_,v⟩⟩;rw[e,map_append];exact p
    ·have f:=dF f;have G:y.getD i 0=0:=by rw[gD,getElem?_eq_none (by omega)];rfl
     rw[G]at t e d;refine t.mono ?_;rintro _ _ ⟨rfl,rfl⟩;refine⟨_,_,rfl,_,_,_,p8 _,?_⟩;obtain⟨b,m,k,u,s,F,p,v⟩:=jA w o A ((aP BB 0 0 (eE (aP BB) x y 0 0 i)).1:Nat) (by rw[lM,l];omega);refine⟨b,m,k,u,s,sW (z-1) (by omega) ⟨by omega,by omega,by rw[d],?_,v⟩⟩;rw[e,map_append];exact p
  ·have D:=dF D;obtain rfl:i=N+1:=by omega
   refine(pn A (by rw[l];omega)).mono ?_;rintro _ M ⟨U,T,K,rfl,Y,rfl⟩;rw[fin]at Y;exact⟨U,T,K,rfl,U,T,K,rfl,Y,o⟩)
 refine Io a n c b m k h _ ⟨_,vK _ _ _,?_⟩;have hw:wrap .i64 ((N:Int)+1)=(N:Int)+1:=aO (by omega) (by omega);dsimp only;rw[J,hw];exact L (N+1) (i:=0) ⟨by omega,by omega,rfl,.inl ⟨rfl,rfl⟩,Ok.refl w⟩
theorem FG{b:Option Addr}{c:Nat}(V:Rd h 240 (.slice a n c) (x.map uv))(I:Rd h 240 (.slice b m k) (y.map uv))(Q:∀k∈x,k<BB)(hy:∀k∈y,k<BB)(x2:x.length<=10000)(x4:y.length<=10000)(w:Wf h){R:Nat}(fin:cP (bq (bB BB) x y 0 (max x.length y.length+1) 0)=aG BB R):
  FW SS 266 [.slice a n c,.slice b m k,.func (.func 269) ⟨[]⟩ ⟨[]⟩] h (jK h 240 (bl R)):=by
 have hn:n=x.length:=by have:=V.len;rwa[lM]at this
 have hm:m=y.length:=by have:=I.len;rwa[lM]at this
 rw[<-hn,<-hm]at fin;have W:∀j,eE (bB BB) x y 0 0 j<=1:=by
  intro j
  induction j with
  |zero=>exact zero_le _
  |succ j ih=>exact T5 (bp (by decide) Q _) (bp (by decide) hy _) ih
 have x3:n<=max n m/\m<=max n m:=⟨Nat.le_max_left _ _,Nat.le_max_right _ _⟩
 have x1:max n m<=10000:=Nat.max_le.2 ⟨by omega,by omega⟩;have J:(if(m:Int)>(n:Int)then(m:Int)else(n:Int))=((max n m:Nat):Int):=by split<;>omega
 generalize max n m=N at*;have L:=qJ a n c b m k ((N:Int)+1) (λz i cy r P S g=>i<=N+1/\z=N+1-i/\cy=(eE (bB BB) x y 0 0 i:Nat)/\fg h g 240 (.slice r P S) ((bq (bB BB) x y 0 i 0).map uv)/\Ok h g) (jK h 240 (bl R)) (by
  intro z i cy r P S;intros;rename_i g hi;obtain⟨h1,h2,rfl,A,o⟩:=hi;have O:wrap .i64 ((i:Int)+1)=((i+1:Nat):Int):=by rw[aO (by omega) (by omega)];omega
  rw[O];have l:(bq (bB BB) x y 0 i 0).length=i:=gN _ _ _ _ _ _;have e:=jg (bB BB) x y i 0 0;rw[zero_add]at e;have d:eE (bB BB) x y 0 0 (i+1)=(bB BB (x.getD i 0) (y.getD i 0) (eE (bB BB) x y 0 0 i)).2:=by
   show(bB BB (x.getD (0+i) 0) (y.getD (0+i) 0) _).2=_;rw[zero_add]
  have X:=W i;have t:=Qg (x.getD i 0) (y.getD i 0) (eE (bB BB) x y 0 0 i) (bp (by decide) Q _) (bp (by decide) hy _) X g;refine ah (λD=>?_) (λD=>?_)
  ·have D:=dT D;refine ah (λC=>?_) (λC=>?_)
   ·have C:=dT C;obtain⟨q,M,Z⟩:=D0 (V.ok o) (i:=(i:Int)) (by omega) (by omega);rw[toNat_natCast]at Z;refine⟨q,M,_,Z,ah (λf=>?_) (λf=>?_)⟩
    ·have f:=dT f;obtain⟨H,E,B⟩:=D0 (I.ok o) (i:=(i:Int)) (by omega) (by omega);rw[toNat_natCast]at B;refine⟨H,E,_,B,t.mono ?_⟩;rintro _ _ ⟨rfl,rfl⟩;refine⟨_,_,rfl,_,_,_,p8 _,?_⟩;obtain⟨b,m,k,u,s,F,p,v⟩:=jA w o A ((bB BB (x.getD i 0) (y.getD i 0) (eE (bB BB) x y 0 0 i)).1:Nat) (by rw[lM,l];omega);refine⟨b,m,k,u,s,sW (z-1) (by omega) ⟨by omega,by omega,by rw[d],?_,v⟩⟩;rw[e,map_append];exact p
    ·have f:=dF f;have G:y.getD i 0=0:=by rw[gD,getElem?_eq_none (by omega)];rfl
     rw[G]at t e d;refine t.mono ?_;rintro _ _ ⟨rfl,rfl⟩;refine⟨_,_,rfl,_,_,_,p8 _,?_⟩;obtain⟨b,m,k,u,s,F,p,v⟩:=jA w o A ((bB BB (x.getD i 0) 0 (eE (bB BB) x y 0 0 i)).1:Nat) (by rw[lM,l];omega);refine⟨b,m,k,u,s,sW (z-1) (by omega) ⟨by omega,by omega,by rw[d],?_,v⟩⟩;rw[e,map_append];exact p
   ·have C:=dF C;have x0:x.getD i 0=0:=by rw[gD,getElem?_eq_none (by omega)];rfl
    rw[x0]at t e d;refine ah (λf=>?_) (λf=>?_)
    ·have f:=dT f;obtain⟨H,E,B⟩:=D0 (I.ok o) (i:=(i:Int)) (by omega) (by omega);rw[toNat_natCast]at B;refine⟨H,E,_,B,t.mono ?_⟩;rintro _ _ ⟨rfl,rfl⟩;refine⟨_,_,rfl,_,_,_,p8 _,?_⟩;obtain⟨b,m,k,u,s,F,p,v⟩:=jA w o A ((bB BB 0 (y.getD i 0) (eE (bB BB) x y 0 0 i)).1:Nat) (by rw[lM,l];omega);refine⟨b,m,k,u,s,sW (z-1) (by omega) ⟨by omega,by omega,by rw[d],?_,v⟩⟩;rw[e,map_append];exact p
    ·have f:=dF f;have G:y.getD i 0=0:=by rw[gD,getElem?_eq_none (by omega)];rfl
     rw[G]at t e d;refine t.mono ?_;rintro _ _ ⟨rfl,rfl⟩;refine⟨_,_,rfl,_,_,_,p8 _,?_⟩;obtain⟨b,m,k,u,s,F,p,v⟩:=jA w o A ((bB BB 0 0 (eE (bB BB) x y 0 0 i)).1:Nat) (by rw[lM,l];omega);refine⟨b,m,k,u,s,sW (z-1) (by omega) ⟨by omega,by omega,by rw[d],?_,v⟩⟩;rw[e,map_append];exact p
  ·have D:=dF D;obtain rfl:i=N+1:=by omega
   refine(pn A (by rw[l];omega)).mono ?_;rintro _ M ⟨U,T,K,rfl,Y,rfl⟩;rw[fin]at Y;exact⟨U,T,K,rfl,U,T,K,rfl,Y,o⟩)
 refine FF a n c b m k h _ ⟨_,vK _ _ _,?_⟩;have hw:wrap .i64 ((N:Int)+1)=(N:Int)+1:=aO (by omega) (by omega);dsimp only;rw[J,hw];exact L (N+1) (i:=0) ⟨by omega,by omega,rfl,.inl ⟨rfl,rfl⟩,Ok.refl w⟩
theorem LY{b:Option Addr}{c:Nat}(v:Rd h 240 (.slice a n c) (bl i))(s:Rd h 240 (.slice b m k) (bl j))(d:(aG BB i).length<=10000)(l:(aG BB j).length<=10000)(w:Wf h):FW SS 240 [.slice a n c,.slice b m k] h (jK h 240 (bl (i+j))):=by
 have f:=cz eY i;have e:=cz eY j;refine LX a n c b m k h _ ((Ip v s f e d l w (R:=i+j) ?_).mono ?_)
 ·have y:=Nat.le_max_left (aG BB i).length (aG BB j).length;have z:=Nat.le_max_right (aG BB i).length (aG BB j).length;rw[iI eY (jH (λp q c=>mod_lt _ (by decide)) _ _ _ 0 0),DM eY f e _ 0 0 (by omega) (by omega) (by omega) (by omega),drop_zero,drop_zero,bJ eY,bJ eY];rfl
 ·rintro _ g ⟨u,t,r,rfl,o,x⟩;exact⟨_,_,_,rfl,u,t,r,rfl,o,x⟩
theorem Je{b:Option Addr}{c:Nat}(y:Rd h 240 (.slice a n c) (bl i))(u:Rd h 240 (.slice b m k) (bl j))(d:j<=i)(e:(aG BB i).length<=10000)(r:(aG BB j).length<=10000)(w:Wf h):FW SS 242 [.slice a n c,.slice b m k] h (jK h 240 (bl (i-j))):=by
 have l:=cz eY i;have f:=cz eY j;refine Jd a n c b m k h _ ((FG y u l f e r w (R:=i-j) ?_).mono ?_)
 ·have A:=Nat.le_max_left (aG BB i).length (aG BB j).length;have B:=Nat.le_max_right (aG BB i).length (aG BB j).length;rw[iI eY (jH (λp q c=>mod_lt _ (by decide)) _ _ _ 0 0)];have t:=KL eY l f (max (aG BB i).length (aG BB j).length+1) 0 0 (by omega) (by omega) (by omega) (by rw[drop_zero,drop_zero,bJ eY,bJ eY];exact d);rw[drop_zero,drop_zero,bJ eY,bJ eY]at t;congr 1;omega
 ·rintro _ g ⟨x,v,s,rfl,o,z⟩;exact⟨_,_,_,rfl,x,v,s,rfl,o,z⟩
def vF(X:Nat):Value:=if 1000<(aC X).length then E5 [] 2 else E5 (aC X) 0
def KU(a b:List UInt8):Value:=if aK a=true/\aK b=true then vF (Num.val a+Num.val b)else E5 [] 1
def LU(a b:List UInt8):Value:=if aK a=true/\aK b=true then vF (Num.val a*Num.val b)else E5 [] 1
def MT(a b:List UInt8):Value:=if aK a=true/\aK b=true then(if Num.val a<Num.val b then E5 [] 4 else E5 (aC (Num.val a-Num.val b)) 0)else E5 [] 1
def Lf(a b:List UInt8):Value:=if aK a=true/\aK b=true then .int .i64 (eD (Num.val a) (Num.val b))else .int .i64 0
theorem sY{c:Nat}(f:Rd h 240 (.slice a n c) (bl m))(d:(aG BB m).length<=10000)(t:sO h)(w:Wf h):FW SS 209 [.slice a n c] h (λv i=>v=vF m/\Ok h i):=by
 refine Dv a n c h _ ((tT f d t w).mono ?_);rintro _ g ⟨rfl,e⟩;refine⟨_,rfl,ah (λb=>?_) (λb=>?_)⟩
 ·have b:=dT b;refine⟨?_,e⟩;unfold vF;rw[if_pos (by omega)];rfl
 ·have b:=dF b;refine⟨?_,e⟩;unfold vF;rw[if_neg (by omega)];rfl
structure aen(a b:List UInt8)(X Y:Nat):Prop where
 va:aK a=true
 vb:aK b=true
 ea:Num.val a=X
 eb:Num.val b=Y
 lx:(aG BB X).length<=112
 ly:(aG BB Y).length<=112
theorem ZB{a b:List UInt8}(c:aK a=true)(d:aK b=true):aen a b (Num.val a) (Num.val b):=by
 obtain⟨X,_,f,g⟩:=mn c;obtain⟨Y,_,e,h⟩:=mn d;exact⟨c,d,rfl,rfl,by rw[g];exact nI f,by rw[h];exact nI e⟩
theorem kM{a:List UInt8}(c:aK a=true){h:aa}(w:Wf h):FW SS 208 [strOf a] h (jK h 240 (bl (Num.val a))):=by
 have b:=(kJ.1 c)
 exact pk a b.1.2.1 (Nat.le_trans b.2 (by omega)) h w
theorem Zy(c:(aG BB n).length<=112)(d:(aG BB m).length<=112):(aG BB (n+m)).length<=10000:=by
 have a:=dU (cz eY n);have b:=dU (cz eY m);rw[bJ eY]at a b;have e:=lt_of_lt_of_le a (pow_le_pow_right (show 0<BB by decide) c);have f:=lt_of_lt_of_le b (pow_le_pow_right (show 0<BB by decide) d);refine Nat.le_trans (jh eY (k:=113) ?_) (by omega);rw[pow_succ];have g:2*BB^112<=BB^112*BB:=by rw[mul_comm];exact Nat.mul_le_mul_left _ (by decide)
 generalize BB^112=M at*;omega
theorem VV(h:n<=m):(aG BB n).length<=(aG BB m).length:=Nat.le_of_not_lt λg=>absurd (ji eY g) (Nat.not_lt.2 h)
theorem IY(X:Nat):∃l n,vF X=E5 l n:=by
 unfold vF;split<;>exact⟨_,_,rfl⟩
theorem OO(a:∃l n,v=E5 l n){K:Value->Prop}(b:K v):∃(l:List UInt8)(n:Int),v = .tuple ⟨[strOf l,.int .i64 n]⟩/\K (.tuple ⟨[strOf l,.int .i64 n]⟩):=by
 obtain⟨l,n,rfl⟩:=a;exact⟨l,n,rfl,b⟩
theorem Xq{x:Nat}(h:eD x n<0):x<n:=by
 unfold eD at h;split at h<;>omega
theorem Xp{x:Nat}(h:¬eD x n<0):n<=x:=by
 unfold eD at h;split at h<;>omega
theorem Qo(a b:List UInt8){h:aa}(t:sO h)(w:Wf h):FW SS 205 [strOf a,strOf b] h (λv r=>v=KU a b/\Ok h r):=by
 refine Qn a b h _ ((dj a h).mono ?_);rintro _ l ⟨rfl,j⟩;obtain rfl:h=l:=j.symm;refine⟨_,rfl,ah (λg=>?_) (λg=>?_)⟩
 ·have g:aK a=false:=by simpa using g
  refine⟨?_,Ok.refl w⟩;unfold KU;rw[if_neg (λe=>by rw[e.1]at g;cases g)];rfl
 have g:aK a=true:=by simpa using g
 refine(dj b h).mono ?_;rintro _ l ⟨rfl,j⟩;obtain rfl:h=l:=j.symm;refine⟨_,rfl,ah (λc=>?_) (λc=>?_)⟩
 ·have c:aK b=false:=by simpa using c
  refine⟨?_,Ok.refl w⟩;unfold KU;rw[if_neg (λe=>by rw[e.2]at c;cases c)];rfl
 have c:aK b=true:=by simpa using c
 have m:=ZB g c;have A:=m.lx;have z:=m.ly;refine(kM g w).mono ?_;rintro _ G ⟨N,C,J,rfl,o,f⟩;refine⟨_,_,_,rfl,(kM c f.wf).mono ?_⟩;rintro _ H ⟨E,D,M,rfl,y,i⟩;refine⟨_,_,_,rfl,?_⟩;have x:KU a b=vF (Num.val a+Num.val b):=by unfold KU;rw[if_pos ⟨g,c⟩]
 rw[x];have p:=o.rd.ok i;have q:=y.rd;have k:=f.trans i;refine(LY p q (by omega) (by omega) k.wf).mono ?_;rintro _ F ⟨I,B,L,rfl,s,d⟩;refine⟨_,_,_,rfl,(sY s.rd (Zy A z) (t.ok (k.trans d)) d.wf).mono ?_⟩;rintro _ u ⟨rfl,n⟩;exact OO (K:=λv=>v=vF (Num.val a+Num.val b)/\Ok h u) (IY _) ⟨rfl,(k.trans d).trans n⟩
theorem Ev(a b:List UInt8){h:aa}(t:sO h)(w:Wf h):FW SS 207 [strOf a,strOf b] h (λv x=>v=MT a b/\Ok h x):=by
 refine Qv a b h _ ((dj a h).mono ?_);rintro _ o ⟨rfl,n⟩;obtain rfl:h=o:=n.symm;refine⟨_,rfl,ah (λg=>?_) (λg=>?_)⟩
 ·have g:aK a=false:=by simpa using g
  refine⟨?_,Ok.refl w⟩;unfold MT;rw[if_neg (λe=>by rw[e.1]at g;cases g)];rfl
 have g:aK a=true:=by simpa using g
 refine(dj b h).mono ?_;rintro _ o ⟨rfl,n⟩;obtain rfl:h=o:=n.symm;refine⟨_,rfl,ah (λc=>?_) (λc=>?_)⟩
 ·have c:aK b=false:=by simpa using c
  refine⟨?_,Ok.refl w⟩;unfold MT;rw[if_neg (λe=>by rw[e.2]at c;cases c)];rfl
 have c:aK b=true:=by simpa using c
 have r:=ZB g c;have P:=r.lx;have N:=r.ly;refine(kM g w).mono ?_;rintro _ G ⟨O,C,J,rfl,u,k⟩;refine⟨_,_,_,rfl,(kM c k.wf).mono ?_⟩;rintro _ H ⟨E,D,M,rfl,A,l⟩;refine⟨_,_,_,rfl,?_⟩;have z:MT a b=(if Num.val a<Num.val b then E5 [] 4 else E5 (aC (Num.val a-Num.val b)) 0):=by unfold MT;rw[if_pos ⟨g,c⟩]
 rw[z];have p:=u.rd.ok l;have q:=A.rd;have j:=k.trans l;refine(nP p q (by omega) j.wf).mono ?_;rintro _ F ⟨rfl,d⟩;refine⟨_,rfl,ah (λf=>?_) (λf=>?_)⟩
 ·have f:=dT f;rw[if_pos (Xq f)];exact⟨rfl,j.trans d⟩
 ·have f:=dF f;have m:=Xp f;rw[if_neg (Nat.not_lt.2 m)];refine(Je (p.ok d) (q.ok d) m (by omega) (by omega) d.wf).mono ?_;rintro _ L ⟨I,B,K,rfl,y,i⟩;refine⟨_,_,_,rfl,(tT y.rd (Nat.le_trans (VV (Nat.sub_le _ _)) (by omega)) (t.ok ((j.trans d).trans i)) i.wf).mono ?_⟩;rintro _ Q ⟨rfl,s⟩;exact⟨_,rfl,rfl,((j.trans d).trans i).trans s⟩
theorem Qq(a b:List UInt8){h:aa}(t:sO h)(w:Wf h):FW SS 206 [strOf a,strOf b] h (λv q=>v=Lf a b/\Ok h q):=by
 refine Qp a b h _ ((dj a h).mono ?_);rintro _ j ⟨rfl,i⟩;obtain rfl:h=j:=i.symm;refine⟨_,rfl,ah (λg=>?_) (λg=>?_)⟩
 ·have g:aK a=false:=by simpa using g
  refine⟨?_,Ok.refl w⟩;unfold Lf;rw[if_neg (λe=>by rw[e.1]at g;cases g)]
 have g:aK a=true:=by simpa using g
 refine(dj b h).mono ?_;rintro _ j ⟨rfl,i⟩;obtain rfl:h=j:=i.symm;refine⟨_,rfl,ah (λc=>?_) (λc=>?_)⟩
 ·have c:aK b=false:=by simpa using c
  refine⟨?_,Ok.refl w⟩;unfold Lf;rw[if_neg (λe=>by rw[e.2]at c;cases c)]
 have c:aK b=true:=by simpa using c
 have l:=ZB g c;have G:=l.lx;have E:=l.ly;refine(kM g w).mono ?_;rintro _ A ⟨F,u,C,rfl,n,d⟩;refine⟨_,_,_,rfl,(kM c d.wf).mono ?_⟩;rintro _ B ⟨y,x,D,rfl,s,f⟩;refine⟨_,_,_,rfl,?_⟩;have r:Lf a b = .int .i64 (eD (Num.val a) (Num.val b)):=by unfold Lf;rw[if_pos ⟨g,c⟩]
 rw[r];have o:=n.rd.ok f;have p:=s.rd;have m:=d.trans f;refine(nP o p (by omega) m.wf).mono ?_;rintro _ z ⟨rfl,k⟩;exact⟨_,rfl,rfl,m.trans k⟩
theorem WD:SS.P.underlying 9=some .string:=Tryz.underlying9
theorem OD(l:List UInt8)(h:aa){b:Nat}(c:b<=l.length):bm SS.P 9 (strOf l) none (some (.int .i64 (b:Int))) none h=some (strOf (l.take b)):=by
 have:=oA (h:=h) WD l (lo:=none) (hi:=some (.int .i64 (b:Int))) (a:=0) (b:=b) rfl rfl (by omega) c;simpa using this
theorem EW(l:List UInt8)(h:aa){a:Nat}(c:a<=l.length):bm SS.P 9 (strOf l) (some (.int .i64 (a:Int))) none none h=some (strOf (l.drop a)):=by
 have:=oA (h:=h) WD l (lo:=some (.int .i64 (a:Int))) (hi:=none) (a:=a) (b:=l.length) rfl rfl c (Nat.le_refl _);rw[this,take_of_length_le (by simp)]
theorem PM(l:List UInt8)(h:aa):FW SS 258 [strOf l,strOf [45]] h (λv e=>v = .bool (Num.isNeg l)/\e=h):=by
 refine PL l [45] h _ (ah (λa=>?_) (λa=>?_))
 ·have a:=dT a;have d:1<=l.length:=by simp only[List.length_cons,List.length_nil]at a;omega
  refine⟨_,OD l h (b:=1) d,?_,rfl⟩
  cases l with
  |nil=>simp at d
  |cons c l=>
   unfold Num.isNeg;simp only[List.take_succ_cons,take_zero,List.head?_cons];congr 1
   cases f:c==45<;>simp_all
 ·have a:=dF a;have d:l=[]:=List.eq_nil_of_length_eq_zero (by simp at a;omega);subst d;exact⟨rfl,rfl⟩
theorem Lh(l:List UInt8)(h:aa):FW SS 236 [strOf l,strOf [45]] h (λv c=>v = .tuple ⟨[strOf (cw l),.bool (Num.isNeg l)]⟩/\c=h):=by
 refine Lg l [45] h _ ((PM l h).mono ?_);rintro _ e ⟨rfl,d⟩;obtain rfl:h=e:=d.symm;refine⟨_,rfl,ah (λg=>?_) (λg=>?_)⟩
 ·have g:Num.isNeg l=false:=by simpa using g
  unfold cw;rw[g];exact⟨rfl,rfl⟩
 ·have g:Num.isNeg l=true:=by simpa using g
  have b:1<=l.length:=by
   cases l with
   |nil=>cases g
   |cons=>simp
  refine⟨_,EW l h (a:=1) b,?_,rfl⟩;unfold cw;rw[g];rfl
theorem Pt(l:List UInt8)(h:aa):FW SS 201 [strOf l,strOf [45]] h (λv a=>v = .tuple ⟨[strOf (cw l),.bool (Num.isNeg l)]⟩/\a=h):=by
 refine Ps l [45] h _ ((Lh l h).mono ?_);rintro _ c ⟨rfl,b⟩;exact⟨_,_,rfl,rfl,b⟩
theorem Lq(l:List UInt8):∀i:Nat,findAt 47 l i=if ff 47 l<l.length then((i+ff 47 l:Nat):Int)else -1:=by
 induction l with
 |nil=>intro i;rfl
 | cons c l b=>
  intro i;unfold findAt ff;have a:c.toNat=47↔c=47:=by rw[<-UInt8.toNat_inj];rfl
  by_cases h:c=47
  ·rw[if_pos (a.2 h),if_pos h,if_pos (by simp)];rfl
  ·rw[if_neg (λe=>h (a.1 e)),if_neg h,b (i+1)];have:(ff 47 l+1<(c::l).length)↔ff 47 l<l.length:=by simp
   simp only[this];split
   ·congr 1;omega
   ·rfl
def Tt(l:List UInt8):Int:=if ff 47 l<l.length then(ff 47 l:Int)else -1
theorem IQ(l:List UInt8)(h:aa):FW SS 279 [strOf l,.int .u8 47] h (λv a=>v = .int .i64 (Tt l)/\a=h):=by
 refine IP l 47 h _ (rU (p:=hE) (v:= .int .i64 (Tt l)) (h':=h) (by decide +kernel) (by kernel_rfl) (λb=>?_) ⟨_,rfl,rfl,rfl⟩);show(if(0:Int)<=47/\(47:Int)<256 then some (Value.int .i64 (findAt 47 l 0),h)else none)=_;rw[if_pos (by decide),Lq,zero_add];rfl
theorem PQ(l:List UInt8)(h:aa):FW SS 259 [strOf l,strOf [47]] h (λv b=>v = .int .i64 (Tt l)/\b=h):=by
 refine PO l h _ (ah (λa=>?_) (λa=>?_))
 ·have a:([47]:List UInt8)=l:=by simpa using a
  subst a;exact⟨rfl,rfl⟩
 ·refine⟨47,rfl,(IQ l h).mono ?_⟩;rintro _ d ⟨rfl,c⟩;exact⟨_,rfl,rfl,c⟩
def Pu(l:List UInt8):Value:=if ff 47 l<l.length then .tuple ⟨[strOf (l.take (ff 47 l)),strOf (l.drop (ff 47 l+1)),.bool true]⟩else .tuple ⟨[strOf l,strOf [],.bool false]⟩
theorem XA(l:List UInt8)(f:l.length<=281474976710656){h:aa}(w:Wf h):FW SS 237 [strOf l,strOf [47]] h (λv b=>v=Pu l/\Ok h b):=by
 refine Xz l h _ ((PQ l h).mono ?_);rintro _ e ⟨rfl,d⟩;obtain rfl:h=e:=d.symm;refine⟨_,rfl,ah (λg=>?_) (λg=>?_)⟩
 ·have g:=dT g;unfold Tt Pu at*;by_cases a:ff 47 l<l.length
  ·rw[if_pos a,if_pos a];have c:wrap .i64 ((ff 47 l:Int)+1)=((ff 47 l+1:Nat):Int):=by rw[aO (by omega) (by omega)];omega
   rw[c];exact⟨_,OD l _ (le_of_lt a),_,EW l _ a,rfl,(Ok.refl w).room 12⟩
  ·rw[if_neg a]at g;omega
 ·have g:=dF g;unfold Tt Pu at*;by_cases a:ff 47 l<l.length
  ·rw[if_pos a]at g;omega
  ·rw[if_neg a];exact⟨rfl,Ok.refl w⟩
theorem aa1(l:List UInt8)(b:l.length<=281474976710656){h:aa}(w:Wf h):FW SS 202 [strOf l,strOf [47]] h (λv c=>v=Pu l/\Ok h c):=by
 refine aa0 l h _ ((XA l b w).mono ?_);rintro _ d ⟨rfl,a⟩;unfold Pu;split
 ·exact⟨_,_,_,rfl,rfl,a⟩
 ·exact⟨_,_,_,rfl,rfl,a⟩
end Go.Proofs.YtnlccnpbjeiccaaGreatDoor
end
section
set_option linter.defProp false
namespace Go.Proofs.YtnlccnpbjeiccaaGreatDoor
open Go Go.Ab Go.Num
noncomputable def ti3:TypeInfo:=(SS.P.info? 3).getD default
theorem abW:SS.P.info? 3=some ti3:=by kernel_rfl
theorem VR:ti3.size=1:=by kernel_rfl
theorem Rq:ti3.bytes=8:=by kernel_rfl
theorem aef:zeroOf SS.P 3=some (iv 0):=by kernel_rfl
theorem aeH(n:Nat)(a:n<=100000):aR SS.P 27 (.int .i64 (n:Int)) (.int .i64 (n:Int))=some (.cells ((List.replicate n 0).map iv) 3 1 true,jc n n):=by
 unfold aR aT;dsimp only;rw[cQ]
 try dsimp only
 change (match SS.P.info? 3,zeroOf SS.P 3 with
  |some i,some z=>(if z.cells.size=i.size/\0<i.size/\(0:Int)<=(n:Int)/\(n:Int)<=(n:Int)/\(n:Int)*i.bytes<=140737488355328/\(n:Int)<=1099511627776 then some (bw.cells (bG z.cells.toList (n:Int).toNat) 3 i.size true,λk=>Value.slice (some ⟨k,0,none⟩) (n:Int).toNat (n:Int).toNat)else none)
  |_,_=>none)=_
 rw[abW,aef];dsimp only;rw[VR,Rq,if_pos ⟨rfl,by omega,by omega,Int.le_refl _,by omega,by omega⟩];have e:((n:Int)).toNat=n:=by omega
 rw[e,show(iv 0).cells.toList=[iv 0]from rfl,lj,List.map_replicate];rfl
theorem OR(n:Int):cZ 4 (.int .i64 n) (.int .i64 n)=true:=by simp[cZ]
end Go.Proofs.YtnlccnpbjeiccaaGreatDoor
end
section
namespace Go.Proofs.YtnlccnpbjeiccaaGreatDoor
open Go Go.Ab Go.Num
variable{h:aa}{g:aa}{v:Value}{w:Value}{s:List UInt8}{t:List UInt8}{n:Nat}{m:Nat}
def ub(h:aa)(C:Prop)(G B:Value):VH:=λv a=>Ok h a/\(C->v=G)/\(¬C->v=B)
theorem QM{C:Prop}(o:Ok h g)(a:¬C):ub h C v w w g:=⟨o,λc=>absurd c a,λ_=>rfl⟩
theorem Mn{C:Prop}(o:Ok h g)(a:C):ub h C v w v g:=⟨o,λ_=>rfl,λc=>absurd a c⟩
theorem To(a:aK s=true)(b:aK t=true):Lx s t=E5 (aC (Nat.gcd (Num.val s) (Num.val t))) 0:=by unfold Lx;rw[if_pos ⟨a,b⟩]
theorem mg(h:n<10^800):aK (aC n)=true:=sN.2 (lt_of_lt_of_le h (uF (k:=800) (m:=1000) (by decide)))
theorem N5(h:m<10^1000):vF m=E5 (aC m) 0:=by
 unfold vF;rw[if_neg];have:=(gQ (n:=m) (k:=1000) (by decide)).2 h;omega
theorem R4(b:n<10^800)(a:m<10^800):KU (aC n) (aC m)=E5 (aC (n+m)) 0:=by
 unfold KU;rw[if_pos ⟨mg b,mg a⟩,fC,fC];exact N5 (lt_of_lt_of_le (Nat.add_lt_add b a) OV)
theorem J9(b:n<10^800)(a:m<10^800)(h:m<=n):MT (aC n) (aC m)=E5 (aC (n-m)) 0:=by
 unfold MT;rw[if_pos ⟨mg b,mg a⟩,fC,fC,if_neg (Nat.not_lt.2 h)]
theorem SO(b:n<10^800)(a:m<10^800):Lf (aC n) (aC m) = .int .i64 (eD n m):=by
 unfold Lf;rw[if_pos ⟨mg b,mg a⟩,fC,fC]
theorem vM{a b:List UInt8}(d:aK a=true)(c:aK b=true)(e:a.length<=400)(f:b.length<=400):LU a b=E5 (aC (Num.val a*Num.val b)) 0/\Num.val a*Num.val b<10^800:=by
 have h:=C3 (AG (k:=400) d (by decide) e) (AG (k:=400) c (by decide) f);refine⟨?_,h⟩;unfold LU;rw[if_pos ⟨d,c⟩];exact N5 (lt_of_lt_of_le h (uF (k:=800) (m:=1000) (by decide)))
def Oh(s:Bool)(A:Nat)(t:Bool)(B:Nat):Value:= .tuple ⟨[.bool (nq s A t B).1,strOf (aC (nq s A t B).2)]⟩
theorem Ia:eD n m<0↔n<m:=tA
end Go.Proofs.YtnlccnpbjeiccaaGreatDoor
end
section
set_option linter.defProp false
namespace Go.Proofs.YtnlccnpbjeiccaaGreatDoor
open Go Go.Ab Go.Num
variable{h:aa}{n:Nat}{m:Nat}{x:List Nat}{g:aa}
structure MR(hb:aa)(kt N:Nat)(L:List Nat)(g:aa):Prop where
 len:L.length=N
 lt:∀d∈L,d<BB
 row:g.get kt=some (.cells (bT ((List.replicate N 0).map uv) 0 L) 240 1 true)
 ok:Ok hb g
theorem MR.room(a:MR h n m x g)(r:Nat):MR h n m x (Go.Ab.room g r):=⟨a.len,a.lt,a.row,a.ok.room r⟩
theorem MR.get{c:Nat}{b:aa}(a:MR g n m x b){j:Int}{jn:Nat}(r:j=(jn:Int))(f:jn<m):∃p:Addr,ai SS.P 260 (.slice (some ⟨n,0,none⟩) m c) (.int .i64 j)=some (.pointer (some p))/\ae SS.P 240 b (.pointer (some p))=some (.int .u64 (x.getD jn 0:Nat))/\
  ∀d:Nat,d<BB->n<b.next->g.next<=n->Wf g->∃u:aY,aj SS.P 240 (.pointer (some p)) (.int .u64 (d:Int)) b=some (undef,u)/\MR g n m (x.set jn d) (u.app b):=by
 subst r;have i:(0:Nat)+x.length<=((List.replicate m 0).map uv).length:=by rw[lM,length_replicate,a.len];omega
 refine⟨⟨n,0+(jn:Int).toNat,none⟩,vy (by omega) (by omega),?_,?_⟩
 ·rw[toNat_natCast];exact BP a.row i (by rw[a.len];exact f)
 ·intro d q o k w;rw[toNat_natCast];refine⟨_,CA a.row i (by rw[a.len];exact f) d,by rw[length_set];exact a.len,λe l=>?_,?_,a.ok.set _ k o w⟩
  ·rcases List.mem_or_eq_of_mem_set l with h|h
   ·exact a.lt e h
   ·rw[h];exact q
  ·show(b.set n _).get n=_;rw[aa.aw,if_pos rfl]
def T9(a:aa)(c N n:Nat)(x y:List Nat)(b i:Nat)(g:aa):Prop:=i<=n/\b=n-i/\∃L,MR a c N L g/\Num.bv BB L=Num.bv BB (x.take i)*Num.bv BB y
def aai(b:aa)(d N k:Nat)(x y:List Nat)(i c j:Nat)(cy:Int)(g:aa):Prop:=j<=k+1/\c=k+1-j/\∃(L:List Nat)(a:Nat),cy=(a:Int)/\a<BB/\MR b d N L g/\Num.bv BB L+a*BB^(i+j)=Num.bv BB (x.take i)*Num.bv BB y+x.getD i 0*Num.bv BB (y.take j)*BB^i
theorem LS(w:Wf h){c N k:Nat}{x y:List Nat}(A:h.next<=c)(u:∀d∈x,d<BB)(z:∀d∈y,d<BB){i l j:Nat}{f:Nat}{L:List Nat}{g:aa}(C:j<k+1)(o:i+j<N)(B:l=k+1-j)(n:f<BB)(m:MR h c N L g)(s:Num.bv BB L+f*BB^(i+j)=Num.bv BB (x.take i)*Num.bv BB y+x.getD i 0*Num.bv BB (y.take j)*BB^i){q:Nat}(r:q=x.getD i 0*y.getD j 0):
  q<=999999998000000001/\L.getD (i+j) 0<BB/\(∀p,MR h c N (L.set (i+j) ((L.getD (i+j) 0+f+q)%BB)) p->l-1<l/\aai h c N k x y i (l-1) (j+1) (((L.getD (i+j) 0+f+q)/BB:Nat):Int) p)/\(L.getD (i+j) 0+f+q)%BB<BB/\c<g.next:=by
 have e:=bp (b:=BB) (by decide) u i;have a:=bp (b:=BB) (by decide) z j;have t:=bp (b:=BB) (by decide) m.lt (i+j);refine⟨?_,t,λp v=>⟨by omega,by omega,by omega,_,_,rfl,?_,v,?_⟩,mod_lt _ (by decide),m.ok.wf _ _ m.row⟩
 ·rw[r];exact Nat.le_trans (Nat.mul_le_mul (Nat.le_of_lt_succ e) (Nat.le_of_lt_succ a)) (by decide)
 ·exact(AD eY m.lt (by rw[m.len];exact o) n e a (by rw[r]) s).2.1
 ·exact(AD eY m.lt (by rw[m.len];exact o) n e a (by rw[r]) s).2.2
def Qj{f:aa}(w:Wf f){a:Option Addr}{n c:Nat}{b:Option Addr}{k d:Nat}{t N tc:Nat}{x y:List Nat}(ra:Rd f 240 (.slice a n c) (x.map uv))(rb:Rd f 240 (.slice b k d) (y.map uv))(P:∀d∈x,d<BB)(V:∀d∈y,d<BB)(o:f.next<=t){i:Nat}(hi:i<n)(hn:n=x.length)(hk:k=y.length)(hN:N=n+k+1)(x0:N<=1000)(l m:List UInt8)(Q:VH)(K:Nat)(x2:K=n-i):=
 vQ l m a n c b k d (some ⟨t,0,none⟩) N tc (n:Int) (T9 f t N n x y) K i ((k:Int)+1) (aai f t N k x y i) Q (by
  intro z j cy;intros;rename_i g J;obtain⟨h1,h2,L,v,rfl,Z,e,S⟩:=J;have x1:BB=1000000000:=rfl;have W:wrap .i64 ((i:Int)+(j:Int))=((i+j:Nat):Int):=by rw[aO (by omega) (by omega)];omega
  have e2:wrap .i64 ((j:Int)+1)=((j+1:Nat):Int):=by rw[aO (by omega) (by omega)];omega
  have e3:wrap .i64 ((i:Int)+1)=((i+1:Nat):Int):=by rw[aO (by omega) (by omega)];omega
  rw[W,e2,e3];refine ah (λs=>?_) (λs=>?_)
  ·have s:=dT s;obtain⟨q,D⟩:∃q,q=x.getD i 0*y.getD j 0:=⟨_,rfl⟩
   obtain⟨s1,s2,A,C,M⟩:=LS w o P V (by omega) (by omega) h2 Z e S D;obtain⟨p,g1,X,_⟩:=e.get (c:=tc) (j:=((i+j:Nat):Int)) rfl (by omega);have R:wrap .u64 (((L.getD (i+j) 0:Nat):Int)+(v:Int))=((L.getD (i+j) 0+v:Nat):Int):=by rw[dZ (by omega) (by omega)];omega
   refine⟨p,g1,_,X,ah (λr=>?_) (λr=>?_)⟩
   ·have r:=dT r;obtain⟨p1,f1,T⟩:=D0 (ra.ok (e.room 12).ok) (i:=(i:Int)) (by omega) (by omega);obtain⟨Y,f3,U⟩:=D0 (rb.ok (e.room 12).ok) (i:=(j:Int)) (by omega) (by omega);rw[toNat_natCast]at T U;have e5:wrap .u64 (((x.getD i 0:Nat):Int)*((y.getD j 0:Nat):Int))=(q:Int):=by rw[<-Int.natCast_mul,<-D];exact dZ (by omega) (by omega)
    have e6:wrap .u64 (((L.getD (i+j) 0+v:Nat):Int)+(q:Int))=((L.getD (i+j) 0+v+q:Nat):Int):=by rw[dZ (by omega) (by omega)];omega
    rw[R];refine⟨p1,f1,_,T,Y,f3,_,U,?_⟩;dsimp only;rw[e5,e6];obtain⟨H,I,_,F⟩:=(e.room 12).get (c:=tc) (j:=((i+j:Nat):Int)) rfl (by omega);obtain⟨u,E,B⟩:=F _ C (lt_of_lt_of_le M (Nat.le_add_right _ _)) o w;obtain⟨G,h⟩:=A _ B;refine⟨_,fQ (b:=BB) (by omega) (by decide),_,nE (b:=BB) (by omega) (by omega) (by decide),H,I,u,E,mE (z-1) G ?_⟩;rw[Int.natCast_ediv]at h;exact h
   ·have r:=dF r;have y0:y.getD j 0=0:=by rw[gD,getElem?_eq_none (by omega)];rfl
    have O:q=0:=by rw[D,y0,Nat.mul_zero]
    rw[R];obtain⟨H,I,_,F⟩:=e.get (c:=tc) (j:=((i+j:Nat):Int)) rfl (by omega);rw[O,Nat.add_zero]at A C;obtain⟨u,E,B⟩:=F _ C M o w;obtain⟨G,h⟩:=A _ B;refine⟨_,fQ (b:=BB) (by omega) (by decide),_,nE (b:=BB) (by omega) (by omega) (by decide),H,I,u,E,mE (z-1) G ?_⟩;rw[Int.natCast_ediv]at h;exact h
  ·have s:=dF s;obtain rfl:j=k+1:=by omega
   refine cK (n-(i+1)) (by omega) ⟨by omega,rfl,L,e,?_⟩;exact OU eY P V (by omega) e.lt (by rw[<-hk];exact S))
theorem VW(d:(aG BB n).length<=112)(f:(aG BB m).length<=112):(aG BB (n*m)).length<=10000:=by
 have a:=dU (cz eY n);have b:=dU (cz eY m);rw[bJ eY]at a b;have c:=lt_of_lt_of_le a (pow_le_pow_right (show 0<BB by decide) d);have e:=lt_of_lt_of_le b (pow_le_pow_right (show 0<BB by decide) f);refine Nat.le_trans (jh eY (k:=224) ?_) (by omega);rw[show 224=112+112 from rfl,pow_add];exact Nat.mul_lt_mul'' c e
theorem Eu(a b:List UInt8){h:aa}(t:sO h)(w:Wf h):FW SS 172 [strOf a,strOf b] h (λv A=>v=LU a b/\Ok h A):=by
 refine Qt a b h _ ((dj a h).mono ?_);rintro _ D ⟨rfl,B⟩;obtain rfl:h=D:=B.symm;refine⟨_,rfl,ah (λg=>?_) (λg=>?_)⟩
 ·have g:aK a=false:=by simpa using g
  refine⟨?_,Ok.refl w⟩;unfold LU;rw[if_neg (λe=>by rw[e.1]at g;cases g)];rfl
 have g:aK a=true:=by simpa using g
 refine(dj b h).mono ?_;rintro _ D ⟨rfl,B⟩;obtain rfl:h=D:=B.symm;refine⟨_,rfl,ah (λl=>?_) (λl=>?_)⟩
 ·have l:aK b=false:=by simpa using l
  refine⟨?_,Ok.refl w⟩;unfold LU;rw[if_neg (λe=>by rw[e.2]at l;cases l)];rfl
 have l:aK b=true:=by simpa using l
 have P:=ZB g l;have lx:=P.lx;have ly:=P.ly;refine(kM g w).mono ?_;rintro _ h1 ⟨S,f,O,rfl,T,u⟩;refine⟨_,_,_,rfl,(kM l u.wf).mono ?_⟩;rintro _ m ⟨G,k,Q,rfl,o2,z⟩;refine⟨_,_,_,rfl,?_⟩;have hS:LU a b=vF (Num.val a*Num.val b):=by unfold LU;rw[if_pos ⟨g,l⟩]
 rw[hS];have q:=T.rd.ok z;have r:=o2.rd;have s:=u.trans z;have N:f=(aG BB (Num.val a)).length:=by have:=q.len;rwa[lM]at this
 have F:k=(aG BB (Num.val b)).length:=by have:=r.len;rwa[lM]at this
 have hX:=cz eY (Num.val a);have Z:=cz eY (Num.val b);have bX:=bJ eY (Num.val a);have W:=bJ eY (Num.val b);have q:Rd m 240 (.slice S f O) ((aG BB (Num.val a)).map uv):=q;have r:Rd m 240 (.slice G k Q) ((aG BB (Num.val b)).map uv):=r;have J:(aG BB (Num.val a*Num.val b)).length<=10000:=VW lx ly;generalize Num.val a=X at*;generalize Num.val b=Y at*;generalize aG BB X=x at*;generalize aG BB Y=y at*;have V:wrap .i64 (wrap .i64 ((f:Int)+(k:Int))+1)=((f+k+1:Nat):Int):=by
  rw[aO (n:=(f:Int)+(k:Int)) (by omega) (by omega),aO (by omega) (by omega)];omega
 dsimp only;rw[V];refine⟨_,_,_,aah _ (by omega),?_⟩;have I:=(Ok.refl s.wf).push (.cells ((List.replicate (f+k+1) 0).map uv) 240 1 true);have m0:MR m m.next (f+k+1) (List.replicate (f+k+1) 0) (m.push (.cells ((List.replicate (f+k+1) 0).map uv) 240 1 true)):=by
  refine⟨length_replicate,λd hd=>by rw[(List.mem_replicate.1 hd).2];decide,?_,I⟩;rw[aa.aM,if_pos rfl,kN (by rw[drop_zero,length_replicate,take_of_length_le (by rw[lM,length_replicate];omega)])]
 refine vP a b S f O G k Q (some ⟨m.next,0,none⟩) (f+k+1) (f+k+1) (f:Int) (T9 m m.next (f+k+1) f x y) (λv A=>v=vF (X*Y)/\Ok h A) (λU i=>?_) f (i:=0) ⟨by omega,by omega,_,m0,by rw[Ax,take_zero];simp[Num.bv]⟩;intros;rename_i g hi;obtain⟨f1,f2,L,o,E⟩:=hi;refine ah (λp=>?_) (λp=>?_)
 ·have p:=dT p;have e2:wrap .i64 ((k:Int)+1)=(k:Int)+1:=aO (by omega) (by omega);rw[e2];exact Qj s.wf q r hX Z (Nat.le_refl _) (i:=i) (by omega) N F rfl (by omega) a b _ U f2 (k+1) (j:=0) (cy:=0) ⟨by omega,by omega,L,0,rfl,by decide,o,by rw[E,take_zero];simp[Num.bv]⟩
 ·have p:=dF p;obtain rfl:f=i:=by omega
  rw[take_of_length_le (by omega),bX,W]at E;have C:f+k+1<=aV (f+k+1):=by unfold aV;rw[if_neg (by unfold ca;omega)];omega
  have M:=Am o.row (n:=f+k+1) (c:=f+k+1) o.len.symm C;refine(nC M (by rw[o.len];omega)).mono ?_;rintro _ h6 ⟨rfl,e6⟩;subst e6;have H:=yb M o.lt;rw[E]at H;refine⟨_,_,_,rfl,(sY H J (t.ok (s.trans o.ok)) o.ok.wf).mono ?_⟩;rintro _ h7 ⟨rfl,R⟩;exact OO (K:=λv=>v=vF (X*Y)/\Ok h h7) (IY _) ⟨rfl,(s.trans o.ok).trans R⟩
end Go.Proofs.YtnlccnpbjeiccaaGreatDoor
end
section
namespace Go.Proofs.YtnlccnpbjeiccaaGreatDoor
open Go Go.Ab Go.Num
variable{h:aa}{k:Nat}{b:Bool}{s:List UInt8}{t:List UInt8}{g:aa}{v:Value}
def CZ:bw:= .cells [.bool false,strOf [],strOf []] 222 0 true
theorem R9:aA SS.P 222=some (CZ,dX):=by kernel_rfl
theorem acN(neg:Bool)(n d:List UInt8):aD SS.P 222 [(0,(.bool neg)),(1,(strOf n)),(2,(strOf d))]=some (.agg ⟨[.bool neg,strOf n,strOf d]⟩):=by kernel_rfl
theorem nM:aD SS.P 222 []=some (.agg ⟨[.bool false,strOf [],strOf []]⟩):=by kernel_rfl
theorem VE:au SS.P 222=some 3:=by kernel_rfl
theorem aco:Go.Ab.isAgg SS.P 222=true:=by kernel_rfl
noncomputable def aca:TypeDesc:=(SS.P.underlying 222).getD .bool
theorem ad3:SS.P.underlying 222=some aca:=by kernel_rfl
theorem aaq{cs0:List Value}(a:cs0.length=3)(e:h.get k=some (.cells cs0 222 0 true))(b:Bool)(n d:List UInt8):aj SS.P 222 (.pointer (some ⟨k,0,none⟩)) (.agg ⟨[.bool b,strOf n,strOf d]⟩) h=some (undef,.set k (.cells [.bool b,strOf n,strOf d] 222 0 true)):=by
 unfold aj;dsimp only;rw[if_pos (show au SS.P 222=some ((Value.agg ⟨[.bool b,strOf n,strOf d]⟩).cells).size from VE)];unfold storeAt;rw[e];dsimp only;have c:([.bool b,strOf n,strOf d]:List Value).all bc=true:=rfl;rw[show(Value.agg ⟨[.bool b,strOf n,strOf d]⟩).cells.toList=[.bool b,strOf n,strOf d]from rfl,if_pos ⟨by simp[a],c⟩,drop_eq_nil_of_le (by simp[a])];rfl
theorem adg(a:h.get k=some (.cells [.bool b,strOf s,strOf t] 222 0 true)):ae SS.P 222 h (.pointer (some ⟨k,0,none⟩))=some (.agg ⟨[.bool b,strOf s,strOf t]⟩):=fE ad3 aco VE a (by simp)
theorem mL(l:List UInt8)(h:aa):FW SS 171 [strOf l,.int .i64 0] h (λv a=>v=strOf l/\a=h):=
 Ms l 0 h _ (ah (λg=>by cases g) (λ_=>⟨rfl,rfl⟩))
theorem Mu(s:Bool)(A:Nat)(t:Bool)(B:Nat)(i:A<10^800)(e:B<10^800){h:aa}(f:sO h)(w:Wf h):FW SS 170 [.bool s,strOf (aC A),.bool t,strOf (aC B)] h (λv m=>v=Oh s A t B/\Ok h m):=by
 refine Mt s _ t _ h _ (ah (λg=>?_) (λg=>?_))
 ·have g:s=t:=by simpa using g
  refine(Qo _ _ f w).mono ?_;rintro _ k ⟨rfl,a⟩;rw[R4 i e];refine⟨_,_,rfl,(mL _ _).mono ?_⟩;rintro _ _ ⟨rfl,rfl⟩;refine⟨_,rfl,?_,a⟩;unfold Oh nq;rw[if_pos g]
 ·have g:¬s=t:=by simpa using g
  refine(Qq _ _ f w).mono ?_;rintro _ k ⟨rfl,a⟩;rw[SO i e];refine⟨_,rfl,ah (λd=>?_) (λd=>?_)⟩
  ·have d:=dT d;have b:A<B:=Ia.1 (by omega);refine(Ev _ _ (f.ok a) a.wf).mono ?_;rintro _ l ⟨rfl,j⟩;rw[J9 e i (le_of_lt b)];refine⟨_,_,rfl,(mL _ _).mono ?_⟩;rintro _ _ ⟨rfl,rfl⟩;refine⟨_,rfl,?_,a.trans j⟩;unfold Oh nq;rw[if_neg g,if_pos b]
  ·have d:=dF d;have b:¬A<B:=λc=>by have:=Ia.2 c;omega
   refine(Ev _ _ (f.ok a) a.wf).mono ?_;rintro _ l ⟨rfl,j⟩;rw[J9 i e (Nat.not_lt.1 b)];refine⟨_,_,rfl,(mL _ _).mono ?_⟩;rintro _ _ ⟨rfl,rfl⟩;refine⟨_,rfl,?_,a.trans j⟩;unfold Oh nq;rw[if_neg g,if_neg b]
def Qx(b:Bool)(n d:List UInt8):Value:= .agg ⟨[.bool b,strOf n,strOf d]⟩
def ua(l:List UInt8):Value:=if ez l=true then .tuple ⟨[Qx (Num.isNeg l) (Num.numOf l) (cV l),.bool true]⟩else .tuple ⟨[Qx false [] [],.bool false]⟩
def sb(b:Bool)(n d:List UInt8):Value:= .tuple ⟨[Qx b n d,.bool true]⟩
def qZ:Value:= .tuple ⟨[Qx false [] [],.bool false]⟩
structure KG(h0:aa)(k:Nat)(g:aa):Prop where
 row:∃cs0:List Value,cs0.length=3/\g.get k=some (.cells cs0 222 0 true)
 new:h0.next<=k
 ok:Ok h0 g
theorem KG.trans{a:aa}(m:KG h k g)(o:Ok g a):KG h k a:=by
 obtain⟨⟨cs,c,d⟩,b,e⟩:=m;exact⟨⟨cs,c,o.ext _ _ d⟩,b,e.trans o⟩
theorem Jg(w:Wf h){k:Nat}{g:aa}(m:KG h k g)(b:Bool)(n d:List UInt8)(a:Bool){Q:VH}(j:∀c,Ok h c->Q (.tuple ⟨[Qx b n d,.bool a]⟩) c):
  ∃u:aY,aj SS.P 222 (.pointer (some ⟨k,0,none⟩)) (.agg ⟨[.bool b,strOf n,strOf d]⟩) g=some (undef,u)/\di SS [(.pointer (some ⟨k,0,none⟩),some 222),(.bool a,none)] (u.app g) Q:=by
 obtain⟨⟨cs,i,e⟩,l,f⟩:=m;refine⟨_,aaq i e b n d,?_⟩;have o:Ok h ((aY.set k (.cells [.bool b,strOf n,strOf d] 222 0 true)).app g):=f.set _ l (f.wf _ _ e) w;have p:((aY.set k (.cells [.bool b,strOf n,strOf d] 222 0 true)).app g).get k=some (.cells [.bool b,strOf n,strOf d] 222 0 true):=by
  show(g.set k _).get k=_;rw[aa.aw,if_pos rfl]
 refine vj (v:=Qx b n d) (adg p) ?_;exact j _ o
def YY(n d:List UInt8)(neg a:Bool):Prop:=aK n=true/\aK d=true/\n.length<=400/\d.length<=400/\¬(neg=true/\n=[48])/\¬(a=true/\(d=[48]\/d=[49]))/\Nat.gcd (Num.val n) (Num.val d)=1
theorem kj(w:Wf h){k:Nat}{g:aa}(m:KG h k g){C:Prop}(a:¬C){G:Value}:
  ∃u:aY,aj SS.P 222 (.pointer (some ⟨k,0,none⟩)) (.agg ⟨[.bool false,strOf [],strOf []]⟩) g=some (undef,u)/\di SS [(.pointer (some ⟨k,0,none⟩),some 222),(.bool false,none)] (u.app g) (ub h C G qZ):=
 Jg w m false [] [] false (λ_ o=>QM o a)
theorem On(n d:List UInt8)(neg h:Bool)(k:Nat){h0 g:aa}(w:Wf h0)(m:KG h0 k g)(tb:sO g){x0 x1 x3 x4 x9 z1 z3 I y7 W z8 u4 y6 z7 z5 J E B V Y u7 z0 x6 R y9 y1 N u2 u A t M u5 u1 L D z H Z y x z4 u6 u0 x7 z9 y0 G v z2 r z6 y2 y4 K y8 F U x2 Q C O S x8 P T x5 u3 y3 y5 X s:Value}:
  TT SS aq [1,1,1,1] [x0,x1,.pointer (some ⟨k,0,none⟩),x3,x4,.bool neg,strOf n,strOf d,.bool h,x9,z1,z3,I,y7,W,z8,u4,y6,z7,z5,J,E,B,V,Y,u7,z0,x6,R,y9,y1,N,u2,u,A,t,M,u5,u1,L,D,z,H,Z,y,x,z4,u6,u0,x7,z9,y0,G,v,z2,r,z6,y2,y4,K,y8,F,U,x2,Q,C,O,S,x8,P,T,x5,u3,y3,y5,X,s] g (EE SS aq (ub h0 (YY n d neg h) (sb neg n d) qZ)):=by
 refine Ci ((dj n g).mono ?_);rintro _ g0 ⟨rfl,e0⟩;obtain rfl:g=g0:=e0.symm;refine⟨_,rfl,ah (λl=>⟨_,nM,kj w m (λc=>?_)⟩) (λl=>?_)⟩
 ·rw[c.1]at l;cases l
 have l:aK n=true:=by simpa using l
 refine(dj d g).mono ?_;rintro _ g0 ⟨rfl,e0⟩;obtain rfl:g=g0:=e0.symm;refine⟨_,rfl,ah (λi=>⟨_,nM,kj w m (λc=>?_)⟩) (λi=>?_)⟩
 ·rw[c.2.1]at i;cases i
 have i:aK d=true:=by simpa using i
 refine ah (λq=>⟨_,nM,kj w m (λc=>?_)⟩) (λq=>?_)
 ·have:=c.2.2.1;have q:=dT q;omega
 have q:n.length<=400:=by have q:=dF q;omega
 refine ah (λj=>⟨_,nM,kj w m (λc=>?_)⟩) (λj=>?_)
 ·have:=c.2.2.2.1;have j:=dT j;omega
 have j:d.length<=400:=by have j:=dF j;omega
 have fin:¬(neg=true/\n=[48])->¬(h=true/\(d=[48]\/d=[49]))->∀{x0 x1 x3 x4 x9 z1 z3 I y7 W z8 u4 y6 z7 z5 J E B V Y u7 z0 x6 R y9 y1 N u2 u A t M u5 u1 L D z H Z y x z4 u6 u0 x7 z9 y0 G v z2 r z6 y2 y4 K y8 F U x2 Q C O S x8 P T x5 u3 y3 y5 X s:Value},TT SS aq [1,1,1,1,1,1] [x0,x1,.pointer (some ⟨k,0,none⟩),x3,x4,.bool neg,strOf n,strOf d,.bool h,x9,z1,z3,I,y7,W,z8,u4,y6,z7,z5,J,E,B,V,Y,u7,z0,x6,R,y9,y1,N,u2,u,A,t,M,u5,u1,L,D,z,H,Z,y,x,z4,u6,u0,x7,z9,y0,G,v,z2,r,z6,y2,y4,K,y8,F,U,x2,Q,C,O,S,x8,P,T,x5,u3,y3,y5,X,s] g (EE SS aq (ub h0 (YY n d neg h) (sb neg n d) qZ)):=by
  intro p c6;intros;refine Ck ((Qs n d tb m.ok.wf).mono ?_);rintro _ h1 ⟨rfl,o1⟩;have m1:=m.trans o1;rw[To l i];refine⟨_,_,rfl,ah (λe=>by cases e) (λ_=>?_)⟩;refine ah (λe=>⟨_,nM,kj w m1 (λc=>?_)⟩) (λe=>?_)
  ·have e:¬aC (Nat.gcd (Num.val n) (Num.val d))=[49]:=by simpa using e
   exact e (qw.2 c.2.2.2.2.2.2)
  ·have e:aC (Nat.gcd (Num.val n) (Num.val d))=[49]:=by simpa using e
   refine Cl ⟨_,acN neg n d,Jg w m1 neg n d true (λ_ o=>Mn o ?_)⟩;exact⟨l,i,q,j,p,c6,qw.1 e⟩
 refine Cj (ah (λg5=>ah (λg6=>⟨_,nM,kj w m (λc=>?_)⟩) (λg6=>?_)) (λg5=>?_))
 ·exact c.2.2.2.2.1 ⟨g5,by simpa using g6⟩
 ·have p:¬(neg=true/\n=[48]):=λc=>by
   have:¬n=[48]:=by simpa using g6
   exact this c.2
  refine ah (λb=>ah (λa=>⟨_,nM,kj w m (λc=>?_)⟩) (λa=>ah (λf=>⟨_,nM,kj w m (λc=>?_)⟩) (λf=>?_))) (λb=>?_)
  ·exact c.2.2.2.2.2.1 ⟨b,.inl (by simpa using a)⟩
  ·exact c.2.2.2.2.2.1 ⟨b,.inr (by simpa using f)⟩
  ·refine fin p (λc=>?_);have a:¬d=[48]:=by simpa using a
   have f:¬d=[49]:=by simpa using f
   exact c.2.elim a f
  ·exact fin p (λc=>by rw[c.1]at b;cases b)
 ·have p:¬(neg=true/\n=[48]):=λc=>by rw[c.1]at g5;cases g5
  refine ah (λb=>ah (λa=>⟨_,nM,kj w m (λc=>?_)⟩) (λa=>ah (λf=>⟨_,nM,kj w m (λc=>?_)⟩) (λf=>?_))) (λb=>?_)
  ·exact c.2.2.2.2.2.1 ⟨b,.inl (by simpa using a)⟩
  ·exact c.2.2.2.2.2.1 ⟨b,.inr (by simpa using f)⟩
  ·refine fin p (λc=>?_);have a:¬d=[48]:=by simpa using a
   have f:¬d=[49]:=by simpa using f
   exact c.2.elim a f
  ·exact fin p (λc=>by rw[c.1]at b;cases b)
theorem GM{l:List UInt8}(q:ub h (YY (Num.numOf l) (cV l) (Num.isNeg l) (gO l)) (sb (Num.isNeg l) (Num.numOf l) (cV l)) qZ v g):v=ua l/\Ok h g:=by
 obtain⟨o,d,b⟩:=q;refine⟨?_,o⟩;unfold ua;by_cases a:ez l=true
 ·rw[if_pos a];have r:=np.1 a;exact d ⟨r.num,r.den,r.ln,r.ld,r.neg,r.fr,r.one⟩
 ·rw[if_neg a];exact b λc=>a (np.2 ⟨c.1,c.2.1,c.2.2.1,c.2.2.2.1,c.2.2.2.2.1,c.2.2.2.2.2.1,c.2.2.2.2.2.2⟩)
theorem ri(l:List UInt8)(m:l.length<=281474976710656){h:aa}(o:sO h)(w:Wf h):FW SS 169 [strOf l] h (λv n=>v=ua l/\Ok h n):=by
 refine FW.mono (Q:=ub h (YY (Num.numOf l) (cV l) (Num.isNeg l) (gO l)) (sb (Num.isNeg l) (Num.numOf l) (cV l)) qZ) ?_ (λ_ _ q=>GM q);have f:KG h h.next (h.push CZ):=⟨⟨_,rfl,by rw[aa.aM,if_pos rfl];rfl⟩,Nat.le_refl _,(Ok.refl w).push _⟩
 refine JD l h _ ⟨_,R9,(Pt l _).mono ?_⟩;rintro _ r ⟨rfl,rfl⟩;have j:(cw l).length<=281474976710656:=by
  unfold cw;split
  ·rw[length_drop];omega
  ·exact m
 refine⟨_,_,rfl,(aa1 _ j f.ok.wf).mono ?_⟩;rintro _ p ⟨rfl,i⟩;have c:=f.trans i;have g:=o.ok c.ok;unfold Pu;by_cases b:ff 47 (cw l)<(cw l).length
 ·rw[if_pos b];have a:gO l=true:=decide_eq_true b;have d:cV l=(cw l).drop (ff 47 (cw l)+1):=by unfold cV;rw[if_pos a]
  rw[a];refine⟨_,_,_,rfl,ah (λe=>by cases e) (λ_=>?_)⟩;rw[<-d];exact On _ _ _ true _ w c g
 ·rw[if_neg b];have a:gO l=false:=decide_eq_false b;have d:cV l=[49]:=by unfold cV;rw[a];rfl
  have k:Num.numOf l=cw l:=by unfold Num.numOf;rw[take_of_length_le (by omega)]
  rw[a,k,d];refine⟨_,_,_,rfl,ah (λ_=>?_) (λe=>by cases e)⟩;exact On _ _ _ false _ w c g
theorem Mm(l:List UInt8):∃(cs:List Value)(b:Bool),ua l = .tuple ⟨[.agg ⟨cs⟩,.bool b]⟩/\b=ez l:=by
 unfold ua
 cases g:ez l with
 |true=>exact⟨_,_,rfl,rfl⟩
 |false=>exact⟨_,_,rfl,rfl⟩
theorem yZ(l:List UInt8)(c:l.length<=281474976710656){h:aa}(f:sO h)(w:Wf h):FW SS 155 [strOf l] h (λv d=>v = .bool (ez l)/\Ok h d):=by
 refine JE l h _ ((ri l c f w).mono ?_);rintro _ i ⟨rfl,a⟩;obtain⟨cs,b,e,g⟩:=Mm l;exact⟨cs,b,e,by rw[g],a⟩
theorem NT(k:Nat):af SS.P 222 (.pointer (some ⟨k,0,none⟩)) 0=some (.pointer (some ⟨k,0,none⟩)):=by kernel_rfl
theorem NU(k:Nat):af SS.P 222 (.pointer (some ⟨k,0,none⟩)) 1=some (.pointer (some ⟨k,1,none⟩)):=by kernel_rfl
theorem NV(k:Nat):af SS.P 222 (.pointer (some ⟨k,0,none⟩)) 2=some (.pointer (some ⟨k,2,none⟩)):=by kernel_rfl
theorem un4:SS.P.underlying 4=some .bool:=Tryz.underlying4
theorem ag4:Go.Ab.isAgg SS.P 4=false:=by kernel_rfl
theorem ZW:Go.Ab.isAgg SS.P 9=false:=by kernel_rfl
def nK(g:aa)(k:Nat)(b:Bool)(n d:List UInt8):Prop:=g.get k=some (.cells [.bool b,strOf n,strOf d] 222 0 true)
theorem nK.ok(x:nK h k b s t)(o:Ok h g):nK g k b s t:=o.ext _ _ x
theorem nK.l0(x:nK h k b s t):ae SS.P 4 h (.pointer (some ⟨k,0,none⟩))=some (.bool b):=aN un4 ag4 x (by simp)
theorem nK.l1(x:nK h k b s t):ae SS.P 9 h (.pointer (some ⟨k,1,none⟩))=some (strOf s):=aN WD ZW x (by simp)
theorem nK.l2(x:nK h k b s t):ae SS.P 9 h (.pointer (some ⟨k,2,none⟩))=some (strOf t):=aN WD ZW x (by simp)
theorem UJ(w:Wf h)(b:Bool)(n d:List UInt8):∃u:aY,aj SS.P 222 (.pointer (some ⟨h.next,0,none⟩)) (.agg ⟨[.bool b,strOf n,strOf d]⟩) (h.push CZ)=some (undef,u)/\Ok h (u.app (h.push CZ))/\nK (u.app (h.push CZ)) h.next b n d:=by
 have a:(h.push CZ).get h.next=some CZ:=by rw[aa.aM,if_pos rfl]
 refine⟨_,aaq (cs0:=[.bool false,strOf [],strOf []]) rfl a b n d,?_,?_⟩
 ·exact((Ok.refl w).push _).set _ (Nat.le_refl _) (Nat.lt_succ_self _) w
 ·show((h.push CZ).set h.next _).get h.next=_;rw[aa.aw,if_pos rfl]
theorem EB(l:List UInt8):∃(b:Bool)(n d:List UInt8),ua l = .tuple ⟨[.agg ⟨[.bool b,strOf n,strOf d]⟩,.bool (ez l)]⟩/\(ez l=true->b=Num.isNeg l/\n=Num.numOf l/\d=cV l):=by
 unfold ua
 cases g:ez l with
 |true=>exact⟨_,_,_,rfl,λ_=>⟨rfl,rfl,rfl⟩⟩
 |false=>exact⟨_,_,_,rfl,λe=>by cases e⟩
theorem zr(b:Bool):cZ 4 (.bool b) (.bool b)=true:=by simp[cZ]
theorem OS(l:List UInt8):cZ 4 (strOf l) (strOf l)=true:=by simp[cZ,strOf]
theorem QS(l m:List UInt8)(S:l.length<=281474976710656)(N:m.length<=281474976710656){h:aa}(s:sO h)(w:Wf h):FW SS 131 [strOf l,strOf m] h (λv X=>v = .int .i64 (nW l m)/\Ok h X):=by
 refine QR l m h _ ((ri l S s w).mono ?_);rintro _ K ⟨rfl,F⟩;obtain⟨b,n,d,O,f1⟩:=EB l;obtain⟨I,s1,Y,Q⟩:=UJ F.wf b n d;refine⟨_,_,O,_,R9,I,s1,?_⟩;have r:=F.trans Y;generalize I.app (K.push CZ)=g1 at*;refine(ri m N (s.ok r) r.wf).mono ?_;rintro _ L ⟨rfl,C⟩;obtain⟨Z,W,U,e2,f2⟩:=EB m;obtain⟨E,P,J,g⟩:=UJ C.wf Z W U;refine⟨_,_,e2,_,R9,E,P,?_⟩;have f:=(r.trans C).trans J;have i:=(Q.ok C).ok J;generalize E.app (L.push CZ)=H at*;generalize K.next=k1 at*;generalize L.next=k2 at*;refine ah (λq=>⟨?_,f⟩) (λq=>ah (λa=>⟨?_,f⟩) (λa=>?_))
 ·have q:ez l=false:=by simpa using q
  unfold nW;rw[if_neg (λc=>by rw[c.1]at q;cases q)]
 ·have a:ez m=false:=by simpa using a
  unfold nW;rw[if_neg (λc=>by rw[c.2]at a;cases a)]
 have q:ez l=true:=by simpa using q
 have a:ez m=true:=by simpa using a
 obtain⟨rfl,rfl,rfl⟩:=f1 q;obtain⟨rfl,rfl,rfl⟩:=f2 a;have j:=np.1 q;have k:=np.1 a;have o:Ok H (Go.Ab.room H 27):=(Ok.refl f.wf).room 27;refine⟨_,NT _,_,(i.ok o).l0,_,NU _,_,(i.ok o).l1,_,NV _,_,(g.ok o).l2,?_⟩;have y:=f.trans o;refine(Eu _ _ (s.ok y) y.wf).mono ?_;rintro _ R ⟨rfl,o3⟩;rw[(vM j.num k.den j.ln k.ld).1];refine⟨_,_,rfl,(mL _ _).mono ?_⟩;rintro _ G ⟨rfl,D⟩;obtain rfl:R=G:=D.symm;have e:=o.trans o3;refine⟨_,rfl,_,NT _,_,(g.ok e).l0,_,NU _,_,(g.ok e).l1,_,NV _,_,(i.ok e).l2,?_⟩;have A:=f.trans e;refine(Eu _ _ (s.ok A) A.wf).mono ?_;rintro _ h4 ⟨rfl,T⟩;rw[(vM k.num j.den k.ln j.ld).1];refine⟨_,_,rfl,(mL _ _).mono ?_⟩;rintro _ M ⟨rfl,D⟩;obtain rfl:h4=M:=D.symm;have t:=e.trans T;have x:=f.trans t;refine⟨_,rfl,(Mu _ _ _ _ (vM j.num k.den j.ln k.ld).2 (vM k.num j.den k.ln j.ld).2 (s.ok x) x.wf).mono ?_⟩;rintro _ h5 ⟨rfl,V⟩;have u:=x.trans V;refine⟨_,_,rfl,⟨(i.ok e).l0,zr _⟩,⟨(i.ok e).l0,zr _⟩,⟨(i.ok t).l0,zr _⟩,⟨(i.ok t).l0,zr _⟩,⟨(g.ok o).l0,zr _⟩,⟨(g.ok e).l0,zr _⟩,⟨(g.ok t).l0,zr _⟩,⟨(g.ok t).l0,zr _⟩,⟨(g.ok o).l1,OS _⟩,⟨(g.ok e).l1,OS _⟩,⟨(i.ok o).l2,OS _⟩,⟨(i.ok e).l2,OS _⟩,?_⟩;unfold nW;rw[if_pos ⟨q,a⟩];generalize nq _ _ _ _=z;refine ah (λp=>⟨?_,u⟩) (λp=>?_)
 ·have p:aC z.2=[48]:=by simpa using p
  rw[if_pos (pV.1 p)]
 ·have p:¬aC z.2=[48]:=by simpa using p
  rw[if_neg (λc=>p (pV.2 c))];refine ah (λB=>⟨?_,u⟩) (λB=>⟨?_,u⟩)
  ·rw[if_pos B]
  ·rw[if_neg (by rw[B];simp)]
noncomputable def MF:FD:=ei Tryz.f121 []
theorem JY  (h:aa) (Q:VH) (d:xN (aA SS.P 184) h λi a=>xA (aD SS.P 100 [(0,(strOf [105,110,102])),(1,(strOf [48])),(2,(.bool true)),(3,(.func (.func 152) ⟨[]⟩ ⟨[]⟩)),(4,(.func (.func 153) ⟨[]⟩ ⟨[]⟩)),(5,(.func (.func 154) ⟨[]⟩ ⟨[]⟩)),(6,(.func (.func 155) ⟨[]⟩ ⟨[]⟩)),(7,(.func (.func 155) ⟨[]⟩ ⟨[]⟩))]) λe=>xA (aD SS.P 100 [(0,(strOf [48])),(1,(strOf [49])),(2,(.bool false)),(3,(.func (.func 156) ⟨[]⟩ ⟨[]⟩)),(4,(.func (.func 157) ⟨[]⟩ ⟨[]⟩)),(5,(.func (.func 158) ⟨[]⟩ ⟨[]⟩)),(6,(.func (.func 159) ⟨[]⟩ ⟨[]⟩)),(7,(.func (.func 160) ⟨[]⟩ ⟨[]⟩))]) λc=>xA (aD SS.P 100 [(0,(strOf [48])),(1,(strOf [49])),(2,(.bool false)),(3,(.func (.func 152) ⟨[]⟩ ⟨[]⟩)),(4,(.func (.func 157) ⟨[]⟩ ⟨[]⟩)),(5,(.func (.func 161) ⟨[]⟩ ⟨[]⟩)),(6,(.func (.func 159) ⟨[]⟩ ⟨[]⟩)),(7,(.func (.func 160) ⟨[]⟩ ⟨[]⟩))]) λg=>xA (aD SS.P 184 [(1,(.agg ⟨e⟩)),(2,(.agg ⟨c⟩)),(3,(.agg ⟨g⟩))]) λf=>xU (aj SS.P 184 (pA (h.next)) (.agg ⟨f⟩) a) a λj b=>di SS [((pA (h.next)),some 184)] b Q):FW SS 121 [] h Q:=eu MF Tryz.func121 (ax d)
noncomputable def Zi:FD:=ei Tryz.f67 []
theorem Vg(a:Int)(h:aa)(Q:VH)(i:xN (aA SS.P 100) h λo b=>aQ (decide ((a:Int)<1)) (xA (aD SS.P 100 []) λj=>xU (aj SS.P 100 (pA (h.next)) (.agg ⟨j⟩) b) b λp m=>di SS [((pA (h.next)),some 100),((.bool false),none)] m Q) (aQ (decide ((a:Int)>3)) (xA (aD SS.P 100 []) λk=>xU (aj SS.P 100 (pA (h.next)) (.agg ⟨k⟩) b) b λq g=>di SS [((pA (h.next)),some 100),((.bool false),none)] g Q) (FW SS 121 [] b λl c=>yA l λe=>xA (bH SS.P 184 (.agg ⟨e⟩) (.int .i64 a)) λf=>xU (aj SS.P 100 (pA (h.next)) (.agg ⟨f⟩) c) c λn d=>di SS [((pA (h.next)),some 100),((.bool true),none)] d Q))):FW SS 67 [(.int .i64 a)] h Q:=eu Zi Tryz.func67 (ax i)
noncomputable def DE:FD:=ei Tryz.f160 []
theorem Cv(l:LB)(h:aa)(Q:VH)(d:FW SS 155 [(strOf l)] h λf a=>yB f λc=>aQ c (FW SS 131 [(strOf l),(strOf [48])] a λb g=>yI .i64 b λe=>Q (.bool (decide ((e:Int)>0))) g) (Q (.bool false) a)):FW SS 160 [(strOf l)] h Q:=eu DE Tryz.func160 (ax d)
noncomputable def J0:FD:=ei Tryz.f73 []
theorem G0(a:Int)(l:LB)(h:aa)(Q:VH)(o:FW SS 67 [(.int .i64 a)] h λp e=>∃b:LV,∃i:Bool,p=(.tuple ⟨[(.agg ⟨b⟩),(.bool i)]⟩)/\xN (aA SS.P 100) e λs j=>xU (aj SS.P 100 (pA (e.next)) (.agg ⟨b⟩) j) j λr d=>aQ i (xP (af SS.P 100 (pA (e.next)) 7) λq=>xF (ae SS.P 86 d (.pointer (some q))) λc f m=>aQ (Nat.blt c YB) (FW SS c (f++[(strOf l)]++m) d λk n=>yB k λg=>Q (.bool g) n) False) (Q (.bool false) d)):FW SS 73 [(.int .i64 a),(strOf l)] h Q:=eu J0 Tryz.func73 (ax o)
variable{P:Program}{n:Nat}{c:List Value}
theorem du{t:TypeId}(c:au P t=some n){h:aa}{k:Nat}{cs0:List Value}(g:cs0.length=n)(d:h.get k=some (.cells cs0 t 0 true)){cs:List Value}(f:cs.length=n)(a:cs.all bc=true):aj P t (.pointer (some ⟨k,0,none⟩)) (.agg ⟨cs⟩) h=some (undef,.set k (.cells cs t 0 true)):=by
 unfold aj;dsimp only;have b:(Value.agg ⟨cs⟩).cells.size=n:=by show cs.toArray.size=n;simpa using f
 have e:(Value.agg ⟨cs⟩).cells.toList=cs:=rfl;rw[if_pos (by rw[b,c])];unfold storeAt;rw[d,e];dsimp only;rw[if_pos ⟨by omega,a⟩,drop_eq_nil_of_le (by omega)];simp
theorem lF(w:Wf g)(o:Ok g h){k:Nat}{t:TypeId}{a cs:List Value}(c:h.get k=some (.cells a t 0 true))(b:g.next<=k):Ok g ((aY.set k (.cells cs t 0 true)).app h)/\((aY.set k (.cells cs t 0 true)).app h).get k=some (.cells cs t 0 true):=by
 refine⟨o.set _ b (o.wf _ _ c) w,?_⟩;show(h.set k _).get k=_;rw[aa.aw,if_pos rfl]
theorem aI(h:aa)(B:bw):(h.push B).get h.next=some B:=by rw[aa.aM,if_pos rfl]
def KA(i:Nat):Value:= .func (.func i) ⟨[]⟩ ⟨[]⟩
def kY:List Value:=[strOf [],strOf [],.bool false,.nilFunc,.nilFunc,.nilFunc,.nilFunc,.nilFunc]
def ze:List Value:=[strOf [105,110,102],strOf [48],.bool true,KA 152,KA 153,KA 154,KA 155,KA 155]
def zf:List Value:=[strOf [48],strOf [49],.bool false,KA 156,KA 157,KA 158,KA 159,KA 160]
def zg:List Value:=[strOf [48],strOf [49],.bool false,KA 152,KA 157,KA 161,KA 159,KA 160]
def xZ:List Value:=kY++ze++zf++zg
def WG:bw:= .cells (kY++kY++kY++kY) 184 0 true
def zv:bw:= .cells kY 100 0 true
theorem acy:aA SS.P 184=some (WG,dX):=by kernel_rfl
theorem NB:aA SS.P 100=some (zv,dX):=by kernel_rfl
theorem VB:au SS.P 184=some 32:=by kernel_rfl
theorem CC:au SS.P 100=some 8:=by kernel_rfl
theorem acm:Go.Ab.isAgg SS.P 184=true:=by kernel_rfl
theorem ack:Go.Ab.isAgg SS.P 100=true:=by kernel_rfl
noncomputable def ab9:TypeDesc:=(SS.P.underlying 184).getD .bool
theorem ad1:SS.P.underlying 184=some ab9:=by kernel_rfl
noncomputable def ab4:TypeDesc:=(SS.P.underlying 100).getD .bool
theorem ad0:SS.P.underlying 100=some ab4:=by kernel_rfl
noncomputable def aeb:TypeDesc:=(SS.P.underlying 86).getD .bool
theorem ae5:SS.P.underlying 86=some aeb:=by kernel_rfl
theorem aer:Go.Ab.isAgg SS.P 86=false:=by kernel_rfl
theorem Xe:aD SS.P 100 [(0,(strOf [105,110,102])),(1,(strOf [48])),(2,(.bool true)),(3,(.func (.func 152) ⟨[]⟩ ⟨[]⟩)),(4,(.func (.func 153) ⟨[]⟩ ⟨[]⟩)),(5,(.func (.func 154) ⟨[]⟩ ⟨[]⟩)),(6,(.func (.func 155) ⟨[]⟩ ⟨[]⟩)),(7,(.func (.func 155) ⟨[]⟩ ⟨[]⟩))]=some (.agg ⟨ze⟩):=by kernel_rfl
theorem Xf:aD SS.P 100 [(0,(strOf [48])),(1,(strOf [49])),(2,(.bool false)),(3,(.func (.func 156) ⟨[]⟩ ⟨[]⟩)),(4,(.func (.func 157) ⟨[]⟩ ⟨[]⟩)),(5,(.func (.func 158) ⟨[]⟩ ⟨[]⟩)),(6,(.func (.func 159) ⟨[]⟩ ⟨[]⟩)),(7,(.func (.func 160) ⟨[]⟩ ⟨[]⟩))]=some (.agg ⟨zf⟩):=by kernel_rfl
theorem Xg:aD SS.P 100 [(0,(strOf [48])),(1,(strOf [49])),(2,(.bool false)),(3,(.func (.func 152) ⟨[]⟩ ⟨[]⟩)),(4,(.func (.func 157) ⟨[]⟩ ⟨[]⟩)),(5,(.func (.func 161) ⟨[]⟩ ⟨[]⟩)),(6,(.func (.func 159) ⟨[]⟩ ⟨[]⟩)),(7,(.func (.func 160) ⟨[]⟩ ⟨[]⟩))]=some (.agg ⟨zg⟩):=by kernel_rfl
theorem NG:aD SS.P 100 []=some (.agg ⟨kY⟩):=by kernel_rfl
theorem acM:aD SS.P 184 [(1,(.agg ⟨ze⟩)),(2,(.agg ⟨zf⟩)),(3,(.agg ⟨zg⟩))]=some (.agg ⟨xZ⟩):=by kernel_rfl
theorem JZ(w:Wf h):FW SS 121 [] h (λv b=>v = .agg ⟨xZ⟩/\Ok h b):=by
 have a:(h.push WG).get h.next=some (.cells (kY++kY++kY++kY) 184 0 true):=aI h WG;refine JY h _ ⟨_,acy,_,Xe,_,Xf,_,Xg,_,acM,_,du VB (by rfl) a (cs:=xZ) (by rfl) (by rfl),?_⟩;obtain⟨o,g⟩:=lF (cs:=xZ) w ((Ok.refl w).push WG) a (Nat.le_refl _);refine Bb (v:= .agg ⟨xZ⟩) (fE ad1 acm VB g (by simp[xZ,kY,ze,zf,zg])) ?_;exact⟨rfl,o⟩
def ofV(a:Int):Value:=if a=1 then .tuple ⟨[.agg ⟨ze⟩,.bool true]⟩else if a=2 then .tuple ⟨[.agg ⟨zf⟩,.bool true]⟩else if a=3 then .tuple ⟨[.agg ⟨zg⟩,.bool true]⟩else .tuple ⟨[.agg ⟨kY⟩,.bool false]⟩
theorem BZ(w:Wf h){g:aa}(o:Ok h g){k:Nat}{a:List Value}(i:a.length=8)(d:g.get k=some (.cells a 100 0 true))(e:h.next<=k){cs:List Value}(l:cs.length=8)(f:cs.all bc=true)(b:Bool){Q:VH}(j:∀c,Ok h c->Q (.tuple ⟨[.agg ⟨cs⟩,.bool b]⟩) c):
  ∃u:aY,aj SS.P 100 (.pointer (some ⟨k,0,none⟩)) (.agg ⟨cs⟩) g=some (undef,u)/\di SS [(.pointer (some ⟨k,0,none⟩),some 100),(.bool b,none)] (u.app g) Q:=by
 refine⟨_,du CC i d l f,?_⟩;obtain⟨o,g⟩:=lF (cs:=cs) w o d e;refine vj (v:= .agg ⟨cs⟩) (by rw[fE ad0 ack CC g (by omega),drop_zero,take_of_length_le (by omega)]) ?_;exact j _ o
theorem JX(a:Int){h:aa}(w:Wf h):FW SS 67 [.int .i64 a] h (λv j=>v=ofV a/\Ok h j):=by
 have c:=(Ok.refl w).push zv;have f:=aI h zv;refine Vg a h _ ⟨_,NB,ah (λg=>?_) (λg=>ah (λb=>?_) (λb=>?_))⟩
 ·have g:=dT g;refine⟨_,NG,BZ w c rfl f (Nat.le_refl _) rfl rfl false (λ_ o=>⟨?_,o⟩)⟩;unfold ofV;rw[if_neg (by omega),if_neg (by omega),if_neg (by omega)]
 ·have b:=dT b;refine⟨_,NG,BZ w c rfl f (Nat.le_refl _) rfl rfl false (λ_ o=>⟨?_,o⟩)⟩;unfold ofV;rw[if_neg (by omega),if_neg (by omega),if_neg (by omega)]
 ·have g:=dF g;have b:=dF b;refine(JZ c.wf).mono ?_;rintro _ k ⟨rfl,i⟩;have d:=i.ext _ _ f;have e:=c.trans i;obtain rfl|rfl|rfl:a=1\/a=2\/a=3:=by omega
  ·exact⟨_,rfl,ze,by kernel_rfl,BZ w e rfl d (Nat.le_refl _) rfl rfl true (λ_ o=>⟨rfl,o⟩)⟩
  ·exact⟨_,rfl,zf,by kernel_rfl,BZ w e rfl d (Nat.le_refl _) rfl rfl true (λ_ o=>⟨rfl,o⟩)⟩
  ·exact⟨_,rfl,zg,by kernel_rfl,BZ w e rfl d (Nat.le_refl _) rfl rfl true (λ_ o=>⟨rfl,o⟩)⟩
theorem rv(l:List UInt8)(b:l.length<=281474976710656){h:aa}(c:sO h)(w:Wf h):FW SS 160 [strOf l] h (λv d=>v = .bool (ez l&&decide (0<nW l [48]))/\Ok h d):=by
 refine Cv l h _ ((yZ l b c w).mono ?_);rintro _ f ⟨rfl,a⟩;refine⟨_,rfl,ah (λg=>?_) (λg=>?_)⟩
 ·refine(QS l [48] b (by simp) (c.ok a) a.wf).mono ?_;rintro _ i ⟨rfl,e⟩;refine⟨_,rfl,?_,a.trans e⟩;rw[g,Bool.true_and]
 ·refine⟨?_,a⟩;rw[g,Bool.false_and]
theorem adO{A B:Prop}(c:b=true)(a:A):aQ b A B:=ah (λ_=>a) (λe=>by rw[c]at e;cases e)
theorem Pe{K:VH}(d:Nat.blt n YB=true)(e:FW SS n c h λv a=>∃b:Bool,v = .bool b/\K (.bool b) a):aQ (Nat.blt n YB) (FW SS n ([]++c++[]) h λv a=>∃b:Bool,v = .bool b/\K (.bool b) a) False:=
 adO d (by rw[List.nil_append,List.append_nil];exact e)
theorem pE(a:Int)(l:List UInt8)(u:l.length<=281474976710656){h:aa}(z:sO h)(w:Wf h):FW SS 73 [.int .i64 a,strOf l] h (λv y=>v = .bool (cJ a l)/\Ok h y):=by
 refine G0 a l h _ ((JX a w).mono ?_);rintro _ b ⟨rfl,c⟩;have j:∀(cs:List Value)(f:Nat),cs.length=8->cs.all bc=true->cs.getD 7 undef=KA f->Nat.blt f YB=true->(∀g,Ok h g->FW SS f [strOf l] g (λv y=>v = .bool (cJ a l)/\Ok g y))->ofV a = .tuple ⟨[.agg ⟨cs⟩,.bool true]⟩->∃p:List Value,∃D:Bool,ofV a=(.tuple ⟨[(.agg ⟨p⟩),(.bool D)]⟩)/\∃m:bw,aA SS.P 100=some (m,dX)/\∃n:aY,aj SS.P 100 (.pointer (some ⟨b.next,0,none⟩)) (.agg ⟨p⟩) (b.push m)=some (undef,n)/\aQ D (∃E:Addr,af SS.P 100 (.pointer (some ⟨b.next,0,none⟩)) 7=some (.pointer (some E))/\∃(t:Nat)(B r:List Value),ae SS.P 86 (n.app (b.push m)) (.pointer (some E))=some (.func (.func t) ⟨B⟩ ⟨r⟩)/\aQ (Nat.blt t YB) (FW SS t (B++[(strOf l)]++r) (n.app (b.push m)) λA k=>∃s:Bool,A=(.bool s)/\(Value.bool s = .bool (cJ a l)/\Ok h k)) False) (Value.bool false = .bool (cJ a l)/\Ok h (n.app (b.push m))):=by
  intro cs f M I H J L e;refine⟨_,_,e,_,NB,_,du CC rfl (aI b zv) M I,ah (λ_=>?_) (λg=>by cases g)⟩;obtain⟨o,g⟩:=lF (cs:=cs) c.wf ((Ok.refl c.wf).push zv) (aI b zv) (Nat.le_refl _);have q:=aN ae5 aer g (i:=7) (by omega);rw[H]at q;refine⟨⟨b.next,7,none⟩,by kernel_rfl,f,[],[],q,?_⟩;refine Pe (K:=λv k=>v = .bool (cJ a l)/\Ok h k) J ((L _ (c.trans o)).mono ?_);rintro _ x ⟨rfl,d⟩;exact⟨_,rfl,rfl,(c.trans o).trans d⟩
 by_cases F:a=1
 ·subst F;refine j ze 155 rfl rfl rfl (by decide +kernel) (λg o=>?_) rfl;refine(yZ l u (z.ok o) o.wf).mono ?_;rintro _ x ⟨rfl,d⟩;refine⟨?_,d⟩;unfold cJ;simp
 by_cases C:a=2
 ·subst C;refine j zf 160 rfl rfl rfl (by decide +kernel) (λg o=>?_) rfl;refine(rv l u (z.ok o) o.wf).mono ?_;rintro _ x ⟨rfl,d⟩;refine⟨?_,d⟩;unfold cJ;simp
 by_cases G:a=3
 ·subst G;refine j zg 160 rfl rfl rfl (by decide +kernel) (λg o=>?_) rfl;refine(rv l u (z.ok o) o.wf).mono ?_;rintro _ x ⟨rfl,d⟩;refine⟨?_,d⟩;unfold cJ;simp
 ·have e:ofV a = .tuple ⟨[.agg ⟨kY⟩,.bool false]⟩:=by unfold ofV;rw[if_neg F,if_neg C,if_neg G]
  refine⟨_,_,e,_,NB,_,du CC rfl (aI b zv) (cs:=kY) rfl rfl,ah (λg=>by cases g) (λ_=>?_)⟩;obtain⟨o,g⟩:=lF (cs:=kY) c.wf ((Ok.refl c.wf).push zv) (aI b zv) (Nat.le_refl _);refine⟨?_,c.trans o⟩;unfold cJ;rw[decide_eq_false (by omega)];rfl
variable{m:Nat}{D:cq}
section
def gk(h:aa)(v:Value)(l:List cq):Prop:=qA h 46 4 v (l.map dk)
def jd(p:eC×Value):List Value:=[strOf p.1.f,p.2]
def ep(h:aa)(v:Value)(l:List eC):Prop:=∃a:List (eC×Value),a.map (·.1)=l/\qA h 44 2 v (a.map jd)/\(∀p∈a,gk h p.2 p.1.an)/\v≠sV
theorem ep.ok{a:aa}{l:List eC}(r:ep h v l)(o:Ok h a):ep a v l:=by
 obtain⟨f,c,d,b,e⟩:=r;exact⟨f,c,d.ok o,λp g=>qA.ok (b p g) o,e⟩
theorem ep.len{a:Option Addr}{n c:Nat}{l:List eC}(r:ep h (.slice a n c) l):n=l.length:=by
 obtain⟨f,b,d,e,_⟩:=r;rw[d.len,lM,<-b,lM]
theorem rz:SS.P.underlying 22=some (.slice 44):=by kernel_rfl
theorem zQ:SS.P.underlying 42=some (.slice 46):=by kernel_rfl
theorem Ka:au SS.P 44=some 2:=by kernel_rfl
theorem E1:au SS.P 46=some 4:=by kernel_rfl
theorem iZ:au SS.P 24=some 4:=by kernel_rfl
theorem acp:Go.Ab.isAgg SS.P 44=true:=by kernel_rfl
theorem acq:Go.Ab.isAgg SS.P 46=true:=by kernel_rfl
theorem wQ:Go.Ab.isAgg SS.P 24=true:=by kernel_rfl
theorem zG:Go.Ab.isAgg SS.P 22=false:=by kernel_rfl
theorem WN:Go.Ab.isAgg SS.P 42=false:=by kernel_rfl
noncomputable def ad7:TypeDesc:=(SS.P.underlying 44).getD .bool
theorem ad6:SS.P.underlying 44=some ad7:=by kernel_rfl
noncomputable def ad9:TypeDesc:=(SS.P.underlying 46).getD .bool
theorem ad8:SS.P.underlying 46=some ad9:=by kernel_rfl
noncomputable def ad4:TypeDesc:=(SS.P.underlying 24).getD .bool
theorem ym:SS.P.underlying 24=some ad4:=by kernel_rfl
theorem tP(k:Nat):af SS.P 24 (.pointer (some ⟨k,0,none⟩)) 0=some (.pointer (some ⟨k,0,none⟩)):=by kernel_rfl
theorem pb(k:Nat):af SS.P 24 (.pointer (some ⟨k,0,none⟩)) 1=some (.pointer (some ⟨k,1,none⟩)):=by kernel_rfl
theorem Te(k:Nat):af SS.P 24 (.pointer (some ⟨k,0,none⟩)) 2=some (.pointer (some ⟨k,2,none⟩)):=by kernel_rfl
theorem dp(k:Nat):af SS.P 24 (.pointer (some ⟨k,0,none⟩)) 3=some (.pointer (some ⟨k,3,none⟩)):=by kernel_rfl
theorem pc(k o:Nat):af SS.P 44 (.pointer (some ⟨k,o,none⟩)) 0=some (.pointer (some ⟨k,o+0,none⟩)):=by kernel_rfl
theorem fL(k o:Nat):af SS.P 44 (.pointer (some ⟨k,o,none⟩)) 1=some (.pointer (some ⟨k,o+1,none⟩)):=by kernel_rfl
theorem js(k o:Nat):af SS.P 46 (.pointer (some ⟨k,o,none⟩)) 0=some (.pointer (some ⟨k,o+0,none⟩)):=by kernel_rfl
theorem Bq(k o:Nat):af SS.P 46 (.pointer (some ⟨k,o,none⟩)) 1=some (.pointer (some ⟨k,o+1,none⟩)):=by kernel_rfl
theorem aa6(k o:Nat):af SS.P 46 (.pointer (some ⟨k,o,none⟩)) 2=some (.pointer (some ⟨k,o+2,none⟩)):=by kernel_rfl
theorem eU(k o:Nat):af SS.P 46 (.pointer (some ⟨k,o,none⟩)) 3=some (.pointer (some ⟨k,o+3,none⟩)):=by kernel_rfl
structure MB(g:aa)(k:Nat)(M:aH)(a:Option Addr)(n c:Nat):Prop where
 box:g.get k=some (.cells [.int .i64 M.kind,.int .i64 M.start,strOf M.lead,.slice a n c] 24 0 true)
 row:ep g (.slice a n c) M.ak
section
variable {g g':aa} {k:Nat} {M:aH} {a:Option Addr} {n c:Nat}
theorem MB.ok(m:MB g k M a n c)(o:Ok g g'):MB g' k M a n c:=⟨o.ext _ _ m.box,m.row.ok o⟩
theorem MB.l0(m:MB g k M a n c):ae SS.P 3 g (.pointer (some ⟨k,0,none⟩))=some (.int .i64 M.kind):=aN lp ll m.box (by simp)
theorem MB.l1(m:MB g k M a n c):ae SS.P 3 g (.pointer (some ⟨k,1,none⟩))=some (.int .i64 M.start):=aN lp ll m.box (by simp)
theorem MB.l2(m:MB g k M a n c):ae SS.P 9 g (.pointer (some ⟨k,2,none⟩))=some (strOf M.lead):=aN WD ZW m.box (by simp)
theorem MB.l3(m:MB g k M a n c):ae SS.P 22 g (.pointer (some ⟨k,3,none⟩))=some (.slice a n c):=aN rz zG m.box (by simp)
theorem MB.all(m:MB g k M a n c):ae SS.P 24 g (.pointer (some ⟨k,0,none⟩))=some (.agg ⟨[.int .i64 M.kind,.int .i64 M.start,strOf M.lead,.slice a n c]⟩):=fE ym wQ iZ m.box (by simp)
theorem MB.len(m:MB g k M a n c):n=M.ak.length:=m.row.len
end
theorem ep.at_{g:aa}{a:Option Addr}{n c:Nat}{l:List eC}(r:ep g (.slice a n c) l){i:Nat}{s:eC}(k:l[i]?=some s):
  ∃(b o:Nat)(x:Option Addr)(y z:Nat),ai SS.P 22 (.slice a n c) (.int .i64 (i:Int))=some (.pointer (some ⟨b,o,none⟩))/\ae SS.P 44 g (.pointer (some ⟨b,o,none⟩))=some (.agg ⟨[strOf s.f,.slice x y z]⟩)/\
   ae SS.P 9 g (.pointer (some ⟨b,o+0,none⟩))=some (strOf s.f)/\ae SS.P 42 g (.pointer (some ⟨b,o+1,none⟩))=some (.slice x y z)/\gk g (.slice x y z) s.an:=by
 obtain⟨B,v,w,t,_⟩:=r;rw[<-v,getElem?_map]at k;obtain⟨p,j,rfl⟩:=Option.map_eq_some_iff.1 k;have C:=(List.getElem?_eq_some_iff.1 j).1;obtain⟨b,o,q,d,e⟩:=w.at_ rz Ka ad6 acp (ik:= .i64) (i:=(i:Int)) (by omega) (by rw[lM];omega);have A:(B.map jd).getD (i:Int).toNat []=jd p:=by
  rw[toNat_natCast,gD,getElem?_map,j];rfl
 rw[A]at d e;have f:=t p (List.mem_of_getElem? j);obtain⟨x,z,u⟩:=qA.mU f;have m:=e 9 _ 0 WD ZW (by omega);have h:=e 42 _ 1 zQ WN (by omega);unfold jd at d m h;rw[u]at d h f;exact⟨b,o,x,_,z,q,d,m,h,f⟩
theorem gk.len{g:aa}{x:Option Addr}{z:Nat}{l:List cq}(r:gk g (.slice x m z) l):m=l.length:=by
 have:=qA.len r;rwa[lM]at this
theorem gk.ok{a:aa}{l:List cq}(r:gk h v l)(o:Ok h a):gk a v l:=qA.ok r o
theorem gk.at_{g:aa}{x:Option Addr}{z:Nat}{l:List cq}(r:gk g (.slice x m z) l){j:Nat}{q:cq}(c:l[j]?=some q):
  ∃(b o:Nat),ai SS.P 42 (.slice x m z) (.int .i64 (j:Int))=some (.pointer (some ⟨b,o,none⟩))/\ae SS.P 46 g (.pointer (some ⟨b,o,none⟩))=some (.agg ⟨dk q⟩)/\
   ae SS.P 3 g (.pointer (some ⟨b,o+0,none⟩))=some (.int .i64 q.i)/\ae SS.P 3 g (.pointer (some ⟨b,o+1,none⟩))=some (.int .i64 q.o)/\ae SS.P 9 g (.pointer (some ⟨b,o+2,none⟩))=some (strOf q.w)/\ae SS.P 3 g (.pointer (some ⟨b,o+3,none⟩))=some (.int .i64 q.t):=by
 have h:=(List.getElem?_eq_some_iff.1 c).1;obtain⟨b,o,e,d,a⟩:=qA.at_ zQ E1 ad8 acq r (ik:= .i64) (i:=(j:Int)) (by omega) (by rw[lM];omega);have f:(l.map dk).getD (j:Int).toNat []=dk q:=by
  rw[toNat_natCast,gD,getElem?_map,c];rfl
 rw[f]at d a;exact⟨b,o,e,d,a 3 _ 0 lp ll (by omega),a 3 _ 1 lp ll (by omega),a 9 _ 2 WD ZW (by omega),a 3 _ 3 lp ll (by omega)⟩
def SB(g:aa)(k:Nat)(f:List UInt8)(x:Option Addr)(y z:Nat):Prop:=g.get k=some (.cells [strOf f,.slice x y z] 44 0 true)
theorem SB.ok{g g':aa}{k:Nat}{x:Option Addr}{z:Nat}(a:SB g k s x m z)(o:Ok g g'):SB g' k s x m z:=o.ext _ _ a
theorem SB.l0{g:aa}{k:Nat}{x:Option Addr}{z:Nat}(a:SB g k s x m z):ae SS.P 9 g (.pointer (some ⟨k,0+0,none⟩))=some (strOf s):=aN WD ZW a (by simp)
theorem SB.l1{g:aa}{k:Nat}{x:Option Addr}{z:Nat}(a:SB g k s x m z):ae SS.P 42 g (.pointer (some ⟨k,0+1,none⟩))=some (.slice x m z):=aN zQ WN a (by simp)
def AB(g:aa)(k:Nat)(q:cq):Prop:=g.get k=some (.cells (dk q) 46 0 true)
theorem AB.ok{g g':aa}{k:Nat}(s:AB g k D)(o:Ok g g'):AB g' k D:=o.ext _ _ s
theorem AB.l0{g:aa}{k:Nat}(s:AB g k D):ae SS.P 3 g (.pointer (some ⟨k,0+0,none⟩))=some (.int .i64 D.i):=aN lp ll s (by simp[dk])
theorem AB.l1{g:aa}{k:Nat}(s:AB g k D):ae SS.P 3 g (.pointer (some ⟨k,0+1,none⟩))=some (.int .i64 D.o):=aN lp ll s (by simp[dk])
theorem AB.l2{g:aa}{k:Nat}(s:AB g k D):ae SS.P 9 g (.pointer (some ⟨k,0+2,none⟩))=some (strOf D.w):=aN WD ZW s (by simp[dk])
theorem AB.l3{g:aa}{k:Nat}(s:AB g k D):ae SS.P 3 g (.pointer (some ⟨k,0+3,none⟩))=some (.int .i64 D.t):=aN lp ll s (by simp[dk])
def RU:bw:= .cells [strOf [],.slice none 0 0] 44 0 true
theorem acC:aA SS.P 44=some (RU,dX):=by kernel_rfl
def Hu:bw:= .cells [.int .i64 0,.int .i64 0,strOf [],.int .i64 0] 46 0 true
theorem Fp:aA SS.P 46=some (Hu,dX):=by kernel_rfl
theorem aal(w:Wf h)(f:List UInt8)(x:Option Addr)(y z:Nat):∃u:aY,aj SS.P 44 (.pointer (some ⟨h.next,0,none⟩)) (.agg ⟨[strOf f,.slice x y z]⟩) (h.push RU)=some (undef,u)/\Ok h (u.app (h.push RU))/\SB (u.app (h.push RU)) h.next f x y z:=by
 obtain⟨o,e⟩:=lF (cs:=[strOf f,.slice x y z]) w ((Ok.refl w).push RU) (aI h RU) (Nat.le_refl _);exact⟨_,du Ka rfl (aI h RU) rfl rfl,o,e⟩
theorem wb(w:Wf h)(q:cq):∃u:aY,aj SS.P 46 (.pointer (some ⟨h.next,0,none⟩)) (.agg ⟨dk q⟩) (h.push Hu)=some (undef,u)/\Ok h (u.app (h.push Hu))/\AB (u.app (h.push Hu)) h.next q:=by
 obtain⟨o,e⟩:=lF (cs:=dk q) w ((Ok.refl w).push Hu) (aI h Hu) (Nat.le_refl _);exact⟨_,du E1 rfl (aI h Hu) rfl rfl,o,e⟩
def ba(M:aH)(a:Option Addr)(n c:Nat):List Value:=[.int .i64 M.kind,.int .i64 M.start,strOf M.lead,.slice a n c]
def Bm(M:aH)(a:Option Addr)(n c:Nat):bw:= .cells (ba M a n c) 24 0 true
theorem pZ(M:aH)(a:Option Addr)(n c:Nat):dK SS.P 24 (.agg ⟨ba M a n c⟩)=some (Bm M a n c,dX):=by kernel_rfl
theorem oQ(w:Wf h){M:aH}{a:Option Addr}{n c:Nat}(r:ep h (.slice a n c) M.ak):MB (h.push (Bm M a n c)) h.next M a n c/\Ok h (h.push (Bm M a n c)):=
 ⟨⟨aI h _,r.ok ((Ok.refl w).push _)⟩,(Ok.refl w).push _⟩
def EZ(s:Int):Bool:=decide (0<=s)&&decide (s<=500)
def ob(b:Int)(N:Nat)(a:cq):Bool:=EZ a.i&&EZ a.o&&decide (0<=a.t)&&decide (a.t<N)&&cJ b a.w
def lH(a:Int)(N:Nat):Int->List eC->Bool
 |_,[]=>true
 |b,s::r=>decide (b+s.an.length<=30000)&&(s.f==[]||cJ a s.f)&&s.an.all (ob a N)&&lH a N (b+s.an.length) r
def cn(M:aH):Bool:=decide (1<=M.kind)&&decide (M.kind<=3)&&decide (1<=M.ak.length)&&decide (M.ak.length<=3000)&&decide (0<=M.start)&&decide (M.start<M.ak.length)&&cJ M.kind M.lead&&lH M.kind M.ak.length 0 M.ak
def iR(l:List eC):Nat:=(l.map λs=>s.an.length).sum
structure Small(M:aH):Prop where
 lead:M.lead.length<=281474976710656
 He:M.ak.length<=300
 fin:∀s∈M.ak,s.f.length<=281474976710656
 an:∀s∈M.ak,s.an.length<=2000
 w:∀s∈M.ak,∀q∈s.an,q.w.length<=281474976710656
 tot:iR M.ak<=2000
end
noncomputable def Vx:FD:=ei Tryz.f74 []
theorem Rn(s:Int)(h:aa)(Q:VH)(a:aQ (decide ((s:Int)>=0)) (Q (.bool (decide ((s:Int)<=500))) h) (Q (.bool false) h)):FW SS 74 [(.int .i64 s)] h Q:=eu Vx Tryz.func74 (ax a)
noncomputable def cH:FD:=ei Tryz.f30 [([1,1,1,1,0,1,0,0],[1,2,3,4,48,49,50]),([1,1,1,1,0,1,0,0,1,1,0,0,1,1,1,1,0,0],[1,2,3,4,6,48,49,50,75,76,77])]
abbrev fm(k:Nat)(a:OA)(n c:Nat)(i:Nat)(b:Int):LV:=[(pA k),(.bool false),(iA n),(.int .i64 b),(.slice a n c),(iA n),(iA i)]
abbrev gV(k:Nat)(a:OA)(n c f:Nat)(b:OA)(m d i:Nat)(e:Int)(j:Nat):LV:=[(pA k),(.bool false),(iA n),(.int .i64 e),(pA f),(.slice a n c),(iA n),(iA i),(.slice b m d),(iA m),(iA j)]
theorem Qd(e:LV)(h:aa)(Q:VH)(u:xN (dK SS.P 24 (.agg ⟨e⟩)) h λz a=>xP (af SS.P 24 (pA (h.next)) 3) λx=>xL (ae SS.P 22 a (.pointer (some x))) λA c B=>xP (af SS.P 24 (pA (h.next)) 0) λv=>xI .i64 (ae SS.P 3 a (.pointer (some v))) λw=>aQ (decide ((w:Int)<1)) (Q (.bool false) a) (xP (af SS.P 24 (pA (h.next)) 0) λy=>xI .i64 (ae SS.P 3 a (.pointer (some y))) λm=>aQ (decide ((m:Int)>3)) (Q (.bool false) a) (aQ (decide (((c:Int):Int)<1)) (Q (.bool false) a) (aQ (decide (((c:Int):Int)>3000)) (Q (.bool false) a) (xP (af SS.P 24 (pA (h.next)) 1) λp=>xI .i64 (ae SS.P 3 a (.pointer (some p))) λo=>aQ (decide ((o:Int)<0)) (Q (.bool false) a) (xP (af SS.P 24 (pA (h.next)) 1) λq=>xI .i64 (ae SS.P 3 a (.pointer (some q))) λg=>aQ (decide ((g:Int)>=(c:Int))) (Q (.bool false) a) (xP (af SS.P 24 (pA (h.next)) 0) λl=>xI .i64 (ae SS.P 3 a (.pointer (some l))) λj=>xP (af SS.P 24 (pA (h.next)) 2) λn=>xS (ae SS.P 9 a (.pointer (some n))) λt=>FW SS 73 [(.int .i64 j),(strOf t)] a λr b=>yB r λk=>aQ (!k) (Q (.bool false) b) (xP (af SS.P 24 (pA (h.next)) 3) λf=>xL (ae SS.P 22 b (.pointer (some f))) λs d i=>LL SS cH [1,1,1,1,0,1,0,0] [(pA (h.next)),(.bool false),(iA c),(.int .i64 0),(.slice s d i),(iA d),(.int .i64 0)] b (KK SS cH [1,1,1,1,0,1,0] [] (EE SS cH Q)))))))))):FW SS 30 [(.agg ⟨e⟩)] h Q:=eu cH Tryz.func30 (ax u)
theorem vI(L:LV)(k:Nat)(a:OA)(n c:Nat)(d:Nat->Nat->Int->aa->Prop)(Q:VH)(step:∀(e:Nat) (i:Nat) (acc:Int) (w:Nat->Value) (h:aa),d e i acc h->aQ (decide (((i:Int):Int)<(n:Int))) (xP (ai SS.P 22 (.slice a n c) (iA i)) λo=>xA (ae SS.P 44 h (.pointer (some o))) λr=>xN (aA SS.P 44) h λK j=>xU (aj SS.P 44 (pA (h.next)) (.agg ⟨r⟩) j) j λJ b=>xP (af SS.P 44 (pA (h.next)) 1) λC=>xL (ae SS.P 42 b (.pointer (some C))) λI f H=>aQ (decide ((wrap .i64 (acc+(f:Int)):Int)>30000)) (Q (.bool false) b) (xP (af SS.P 44 (pA (h.next)) 0) λp=>xS (ae SS.P 9 b (.pointer (some p))) λm=>aQ (!((m:LB)==[])) (xP (af SS.P 24 (pA k) 0) λG=>xI .i64 (ae SS.P 3 b (.pointer (some G))) λE=>xP (af SS.P 44 (pA (h.next)) 0) λs=>xS (ae SS.P 9 b (.pointer (some s))) λx=>FW SS 73 [(.int .i64 E),(strOf x)] b λq g=>yB q λF=>aQ (!F) (Q (.bool false) g) (xP (af SS.P 44 (pA (h.next)) 1) λA=>xL (ae SS.P 42 g (.pointer (some A))) λD v t=>LL SS cH [1,1,1,1,0,1,0,0,1,1,0,0,1,1,1,1,0,0] (gV k a n c (h.next) D v t i (wrap .i64 (acc+(f:Int))) 0) g (KK SS cH [1,1,0,0,1,1,1,1,0] [1,1,1,1,0,1,0,0] (RR cH [1,1,1,1,0,1,0,0] (C1 (fm k a n c) d) e (KK SS cH [1,1,1,1,0,1,0] [] (EE SS cH Q)))))) (xP (af SS.P 44 (pA (h.next)) 1) λu=>xL (ae SS.P 42 b (.pointer (some u))) λB y z=>LL SS cH [1,1,1,1,0,1,0,0,1,1,0,0,1,1,1,1,0,0] (gV k a n c (h.next) B y z i (wrap .i64 (acc+(f:Int))) 0) b (KK SS cH [1,1,0,0,1,1,1,1,0] [1,1,1,1,0,1,0,0] (RR cH [1,1,1,1,0,1,0,0] (C1 (fm k a n c) d) e (KK SS cH [1,1,1,1,0,1,0] [] (EE SS cH Q))))))) (Q (.bool true) h))(e:Nat){i:Nat}{acc:Int}{h:aa}(l:d e i acc h):LL SS cH [1,1,1,1,0,1,0,0] (fm k a n c i acc) h (KK SS cH [1,1,1,1,0,1,0] [] (EE SS cH Q)):=
 tl (fm k a n c) d (λe i acc w h l=>ax (step e i acc w h l)) e l
theorem vJ(U:LV)(k:Nat)(a:OA)(n c:Nat)(p:Nat)(b:OA)(m d:Nat)(q:Nat->Nat->Int->aa->Prop)(x i:Nat)(l:Int)(g:Nat->Nat->aa->Prop)(Q:VH)(step:∀(f:Nat) (j:Nat) (F:Nat->Value) (h:aa),g f j h->aQ (decide (((j:Int):Int)<(m:Int))) (xP (ai SS.P 42 (.slice b m d) (iA j)) λJ=>xA (ae SS.P 46 h (.pointer (some J))) λK=>xN (aA SS.P 46) h λT t=>xU (aj SS.P 46 (pA (h.next)) (.agg ⟨K⟩) t) t λS s=>xP (af SS.P 46 (pA (h.next)) 0) λw=>xI .i64 (ae SS.P 3 s (.pointer (some w))) λB=>FW SS 74 [(.int .i64 B)] s λH o=>yB H λv=>aQ (!v) (Q (.bool false) o) (xP (af SS.P 46 (pA (h.next)) 1) λE=>xI .i64 (ae SS.P 3 o (.pointer (some E))) λC=>FW SS 74 [(.int .i64 C)] o λA e=>yB A λN=>aQ (!N) (Q (.bool false) e) (xP (af SS.P 46 (pA (h.next)) 3) λI=>xI .i64 (ae SS.P 3 e (.pointer (some I))) λO=>aQ (decide ((O:Int)<0)) (Q (.bool false) e) (xP (af SS.P 46 (pA (h.next)) 3) λL=>xI .i64 (ae SS.P 3 e (.pointer (some L))) λM=>aQ (decide ((M:Int)>=(n:Int))) (Q (.bool false) e) (xP (af SS.P 24 (pA k) 0) λz=>xI .i64 (ae SS.P 3 e (.pointer (some z))) λG=>xP (af SS.P 46 (pA (h.next)) 2) λy=>xS (ae SS.P 9 e (.pointer (some y))) λD=>FW SS 73 [(.int .i64 G),(strOf D)] e λP r=>yB P λR=>aQ (!R) (Q (.bool false) r) (aJ (fB (gV k a n c p b m d i l) g) f [(pA k),(.bool false),(iA n),(.int .i64 l),(pA p),(.slice a n c),(iA n),(iA i),(.slice b m d),(iA m),(.int .i64 (wrap .i64 ((j:Int)+1)))] r)))))) (aJ (C1 (fm k a n c) q) x [(pA k),(.bool false),(iA n),(.int .i64 l),(.slice a n c),(iA n),(.int .i64 (wrap .i64 ((i:Int)+1)))] h))(f:Nat){j:Nat}{h:aa}(u:g f j h):LL SS cH [1,1,1,1,0,1,0,0,1,1,0,0,1,1,1,1,0,0] (gV k a n c p b m d i l j) h (KK SS cH [1,1,0,0,1,1,1,1,0] [1,1,1,1,0,1,0,0] (RR cH [1,1,1,1,0,1,0,0] (C1 (fm k a n c) q) x (KK SS cH [1,1,1,1,0,1,0] [] (EE SS cH Q)))):=
 dQ (gV k a n c p b m d i l) g (λf j F h u=>ax (step f j F h u)) f u
noncomputable def py:FD:=ei Tryz.f23 [([1,1,0,1,0,0],[1,3,4])]
abbrev kh(k:Nat)(i:Nat)(a:Int):LV:=[(pA k),(.int .i64 a),(iA i)]
theorem UM(a:LV)(h:aa)(Q:VH)(c:xN (dK SS.P 24 (.agg ⟨a⟩)) h λd b=>LL SS py [1,1,0,1,0,0] (kh (h.next) 0 0) b (KK SS py [1,1,0,1,0] [] (EE SS py Q))):FW SS 23 [(.agg ⟨a⟩)] h Q:=eu py Tryz.func23 (ax c)
theorem xW(s:LV)(k:Nat)(b:Nat->Nat->Int->aa->Prop)(Q:VH)(step:∀(a:Nat) (i:Nat) (acc:Int) (f:Nat->Value) (h:aa),b a i acc h->xP (af SS.P 24 (pA k) 3) λp=>xL (ae SS.P 22 h (.pointer (some p))) λt l u=>aQ (decide (((i:Int):Int)<(l:Int))) (xP (af SS.P 24 (pA k) 3) λo=>xL (ae SS.P 22 h (.pointer (some o))) λn m j=>xP (ai SS.P 22 (.slice n m j) (iA i)) λg=>xP (af SS.P 44 (.pointer (some g)) 1) λe=>xL (ae SS.P 42 h (.pointer (some e))) λq d r=>aJ (C1 (kh k) b) a [(pA k),(.int .i64 (wrap .i64 (acc+(d:Int)))),(.int .i64 (wrap .i64 ((i:Int)+1)))] h) (Q (.int .i64 acc) h))(a:Nat){i:Nat}{acc:Int}{h:aa}(c:b a i acc h):LL SS py [1,1,0,1,0,0] (kh k i acc) h (KK SS py [1,1,0,1,0] [] (EE SS py Q)):=
 tl (kh k) b (λa i acc f h c=>ax (step a i acc f h c)) a c
variable{A:Type}{i:Nat}
section
theorem rR{l:List A}{s:A}(h:l[i]?=some s):l.drop i=s::l.drop (i+1):=by
 obtain⟨a,rfl⟩:=List.getElem?_eq_some_iff.1 h;exact List.drop_eq_getElem_cons a
theorem E0(s:Int)(h:aa):FW SS 74 [.int .i64 s] h (λv a=>v = .bool (EZ s)/\a=h):=by
 refine Rn s h _ (ah (λg=>⟨?_,rfl⟩) (λg=>⟨?_,rfl⟩))
 ·have g:=dT g;unfold EZ;rw[decide_eq_true (show 0<=s from g),Bool.true_and]
 ·have g:=dF g;unfold EZ;rw[decide_eq_false (show ¬0<=s from g),Bool.false_and]
section
variable {h:aa} {k:Nat} {M:aH} {a:Option Addr} {n c:Nat}
def bQ(h:aa)(V:Bool):VH:=λv a=>v = .bool V/\Ok h a
def adi(h:aa)(k:Nat)(M:aH)(a:Option Addr)(n c:Nat)(V:Bool)(d i:Nat)(b:Int)(g:aa):Prop:=i<=n/\d=n-i/\0<=b/\b<=30000/\MB g k M a n c/\Ok h g/\lH M.kind n b (M.ak.drop i)=V
def mIn(h:aa)(k:Nat)(M:aH)(a:Option Addr)(n c:Nat)(s:eC)(b:Option Addr)(m d i:Nat)(f:Int)(V:Bool)(e j:Nat)(g:aa):Prop:=j<=m/\e=m-j/\MB g k M a n c/\Ok h g/\gk g (.slice b m d) s.an/\((s.an.drop j).all (ob M.kind n)&&lH M.kind n f (M.ak.drop (i+1)))=V
theorem bF{n:Nat}(h:i<n)(a:n<=1000000000):wrap .i64 ((i:Int)+1)=((i+1:Nat):Int):=by rw[aO (by omega) (by omega)];omega
theorem Ap(a:Small M){s:eC}{i:Nat}(b:M.ak[i]?=some s):s.an.length<=2000/\s.f.length<=281474976710656/\∀q∈s.an,q.w.length<=281474976710656:=by
 have h:=List.mem_of_getElem? b;exact⟨a.an s h,Nat.le_trans (a.fin s h) (by decide),λq c=>Nat.le_trans (a.w s h q c) (by decide)⟩
set_option linter.defProp false in
def I9(w:Wf h)(Z:sO h)(O:Small M)(V:Bool){s:eC}{b:Option Addr}{m d i T:Nat}{l:Int}(U:M.ak[i]?=some s)(Y:i<n)(h0:0<=l)(W:l<=30000)(Q:List Value)(K:Nat)(x0:K=n-i):=
 vJ Q k a n c T b m d (adi h k M a n c V) K i l (mIn h k M a n c s b m d i l V) (bQ h V) (by
  intro P j;intros;rename_i g J;obtain⟨f1,f2,E,H,C,f⟩:=J;have hn:n<=300:=by rw[E.len];exact O.He
  obtain⟨l1,l2,X⟩:=Ap O U;have hm:=C.len;refine ah (λy=>?_) (λy=>?_)
  ·have y:=dT y;obtain⟨q,F⟩:∃q,s.an[j]?=some q:=⟨_,gE (by omega)⟩
   obtain⟨bb,o,S,e2,e3⟩:=C.at_ F;have R:=X q (List.mem_of_getElem? F);rw[rR F,List.all_cons]at f;obtain⟨u,p1,D,z⟩:=wb H.wf q;refine⟨_,S,_,e2,_,Fp,u,p1,?_⟩;have e:=H.trans D;have B:=E.ok D;generalize u.app (g.push Hu)=L at*;refine⟨_,js _ _,_,z.l0,(E0 _ _).mono ?_⟩;rintro _ I ⟨rfl,G⟩;obtain rfl:L=I:=G.symm;refine⟨_,rfl,ah (λt=>⟨?_,e⟩) (λt=>?_)⟩
   ·rw[not_eq_true']at t;rw[<-f];unfold ob;rw[t];simp
   rw[not_eq_false']at t;refine⟨_,Bq _ _,_,z.l1,(E0 _ _).mono ?_⟩;rintro _ I ⟨rfl,G⟩;obtain rfl:L=I:=G.symm;refine⟨_,rfl,ah (λp=>⟨?_,e⟩) (λp=>?_)⟩
   ·rw[not_eq_true']at p;rw[<-f];unfold ob;rw[p];simp
   rw[not_eq_false']at p;refine⟨_,eU _ _,_,z.l3,ah (λx=>⟨?_,e⟩) (λx=>?_)⟩
   ·have x:=dT x;rw[<-f];unfold ob;rw[decide_eq_false (show ¬0<=q.t by omega)];simp
   have x:=dF x;refine⟨_,eU _ _,_,z.l3,ah (λr=>⟨?_,e⟩) (λr=>?_)⟩
   ·have r:=dT r;rw[<-f];unfold ob;rw[decide_eq_false (show ¬q.t<n by omega)];simp
   have r:=dF r;refine⟨_,tP _,_,B.l0,_,aa6 _ _,_,z.l2,(pE M.kind q.w R (Z.ok e) e.wf).mono ?_⟩;rintro _ g4 ⟨rfl,A⟩;refine⟨_,rfl,ah (λv=>⟨?_,e.trans A⟩) (λv=>?_)⟩
   ·rw[not_eq_true']at v;rw[<-f];unfold ob;rw[v];simp
   rw[not_eq_false']at v;have N:ob M.kind n q=true:=by
    unfold ob;rw[t,p,v,decide_eq_true (show 0<=q.t by omega),decide_eq_true (show q.t<n by omega)];rfl
   rw[N,Bool.true_and]at f;rw[bF (i:=j) (n:=m) (by omega) (by omega)];exact cK (P-1) (by omega) ⟨by omega,by omega,B.ok A,e.trans A,(C.ok D).ok A,f⟩
  ·have y:=dF y;obtain rfl:m=j:=by omega
   rw[drop_eq_nil_of_le (by omega)]at f;rw[bF Y (by omega)];exact mE (n-(i+1)) (by omega) ⟨by omega,rfl,h0,W,E,H,by simpa using f⟩)
theorem xJ{h:aa}(N:sO h)(w:Wf h){M:aH}(q:Small M){a:Option Addr}{n c:Nat}(r:ep h (.slice a n c) M.ak):FW SS 30 [.agg ⟨ba M a n c⟩] h (λv h'=>v = .bool (cn M)/\Ok h h'):=by
 obtain⟨f,k⟩:=oQ w r;refine Qd (ba M a n c) h _ ⟨_,pZ M a n c,?_⟩;have Y:=f.len;have hn:n<=300:=by rw[Y];exact q.He
 generalize h.push (Bm M a n c)=g at*;refine⟨_,dp _,_,_,_,f.l3,_,tP _,_,f.l0,ah (λJ=>⟨?_,k⟩) (λJ=>?_)⟩
 ·have J:=dT J;unfold cn;rw[decide_eq_false (show ¬1<=M.kind by omega)];simp
 have J:=dF J;refine⟨_,tP _,_,f.l0,ah (λp=>⟨?_,k⟩) (λp=>ah (λF=>⟨?_,k⟩) (λF=>ah (λT=>⟨?_,k⟩) (λT=>?_)))⟩
 ·have p:=dT p;unfold cn;rw[decide_eq_false (show ¬M.kind<=3 by omega)];simp
 ·have F:=dT F;unfold cn;rw[decide_eq_false (show ¬1<=M.ak.length by omega)];simp
 ·have T:=dT T;omega
 have p:=dF p;have F:=dF F;refine⟨_,pb _,_,f.l1,ah (λC=>⟨?_,k⟩) (λC=>?_)⟩
 ·have C:=dT C;unfold cn;rw[decide_eq_false (show ¬0<=M.start by omega)];simp
 have C:=dF C;refine⟨_,pb _,_,f.l1,ah (λD=>⟨?_,k⟩) (λD=>?_)⟩
 ·have D:=dT D;unfold cn;rw[decide_eq_false (show ¬M.start<M.ak.length by omega)];simp
 have D:=dF D;refine⟨_,tP _,_,f.l0,_,Te _,_,f.l2,(pE M.kind M.lead (Nat.le_trans q.lead (by decide)) (N.ok k) k.wf).mono ?_⟩;rintro _ g2 ⟨rfl,o2⟩;have R:=k.trans o2;have O:=f.ok o2;refine⟨_,rfl,ah (λI=>⟨?_,R⟩) (λI=>?_)⟩
 ·rw[not_eq_true']at I;unfold cn;rw[I];simp
 rw[not_eq_false']at I;have hV:cn M=lH M.kind n 0 M.ak:=by
  unfold cn;rw[I,decide_eq_true (show 1<=M.kind by omega),decide_eq_true (show M.kind<=3 by omega),decide_eq_true (show 1<=M.ak.length by omega),decide_eq_true (show M.ak.length<=3000 by omega),decide_eq_true (show 0<=M.start by omega),decide_eq_true (show M.start<M.ak.length by omega),Y];rfl
 obtain⟨V,S⟩:∃V,V=lH M.kind n 0 M.ak:=⟨_,rfl⟩
 rw[hV,<-S];refine⟨_,dp _,_,_,_,O.l3,?_⟩;refine vI (ba M a n c) h.next a n c (adi h h.next M a n c V) (bQ h V) (λW i l=>?_) n (i:=0) (acc:=0) ⟨by omega,rfl,by omega,by omega,O,R,S.symm⟩;intros;rename_i gg hi;obtain⟨f1,Z,f3,f4,Q,G,d⟩:=hi;refine ah (λH=>?_) (λH=>?_)
 ·have H:=dT H;obtain⟨s,t⟩:∃s,M.ak[i]?=some s:=⟨_,gE (by omega)⟩
  obtain⟨b,o,x,y,z,e1,e2,e3,e4,X⟩:=Q.row.at_ t;obtain⟨l1,l2,l3⟩:=Ap q t;have hy:=X.len;rw[rR t]at d;unfold lH at d;obtain⟨u,p1,U,K⟩:=aal G.wf s.f x y z;refine⟨_,e1,_,e2,_,acC,u,p1,?_⟩;have e:=G.trans U;have L:=Q.ok U;have P:=X.ok U;generalize u.app (gg.push RU)=g3 at*;have hw:wrap .i64 (l+(y:Int))=l+(s.an.length:Int):=by rw[hy,aO (by omega) (by omega)]
  refine⟨_,fL _ _,_,_,_,K.l1,?_⟩;dsimp only;rw[hw];refine ah (λA=>⟨?_,e⟩) (λA=>?_)
  ·have A:=dT A;rw[<-d,decide_eq_false (show ¬l+(s.an.length:Int)<=30000 by omega)];simp
  have A:=dF A;rw[decide_eq_true (show l+(s.an.length:Int)<=30000 by omega),Bool.true_and]at d;refine⟨_,pc _ _,_,K.l0,ah (λm=>?_) (λm=>?_)⟩
  ·refine⟨_,tP _,_,L.l0,_,pc _ _,_,K.l0,(pE M.kind s.f l2 (N.ok e) e.wf).mono ?_⟩;rintro _ g4 ⟨rfl,B⟩;have m:(s.f==[])=false:=by simpa using m
   rw[m,Bool.false_or]at d;refine⟨_,rfl,ah (λE=>⟨?_,e.trans B⟩) (λE=>?_)⟩
   ·rw[not_eq_true']at E;rw[<-d,E];simp
   rw[not_eq_false']at E;rw[E,Bool.true_and]at d;refine⟨_,fL _ _,_,_,_,(K.ok B).l1,?_⟩;exact I9 w N q _ t (by omega) (by omega) (by omega) [] W Z y (j:=0) ⟨by omega,rfl,L.ok B,e.trans B,P.ok B,by rw[drop_zero];exact d⟩
  ·have m:(s.f==[])=true:=by simpa using m
   rw[m,Bool.true_or,Bool.true_and]at d;refine⟨_,fL _ _,_,_,_,K.l1,?_⟩;exact I9 w N q _ t (by omega) (by omega) (by omega) [] W Z y (j:=0) ⟨by omega,rfl,L,e,P,by rw[drop_zero];exact d⟩
 ·have H:=dF H;refine⟨?_,G⟩;rw[drop_eq_nil_of_le (by omega)]at d;rw[<-d];rfl
end
end
section
section
variable {h:aa} {k:Nat} {M:aH} {a:Option Addr} {n c:Nat}
def iQ(h:aa)(V:Int):VH:=λv a=>v = .int .i64 V/\Ok h a
end
end
section
theorem fz(s:eC)(l:List eC):iR (s::l)=s.an.length+iR l:=by simp[iR]
theorem OH{B:Nat}:∀{l:List eC},(∀s∈l,s.an.length<=B)->iR l<=l.length*B
 |[],_=>by simp[iR]
 |x::l,h=>by
  rw[fz,List.length_cons,add_mul,one_mul];have b:=h x (List.mem_cons_self ..);have c:=OH (l:=l) λs a=>h s (List.mem_cons_of_mem _ a);omega
def Bnd(M:aH):Prop:=∀s∈M.ak,s.an.length<=281474976710656
section
variable {h:aa} {k:Nat} {M:aH} {a:Option Addr} {n c:Nat}
theorem UN(w:Wf h)(D:Bnd M)(t:M.ak.length<=300)(r:ep h (.slice a n c) M.ak):FW SS 23 [.agg ⟨ba M a n c⟩] h (λv E=>v = .int .i64 (iR M.ak:Nat)/\Ok h E):=by
 obtain⟨x,I⟩:=oQ w r;refine UM (ba M a n c) h _ ⟨_,pZ M a n c,?_⟩;generalize h.push (Bm M a n c)=g at*;have J:=x.len;have C:=OH D;have u:M.ak.length*281474976710656<=300*281474976710656:=mul_le_mul_right _ t;have P:iR M.ak<=300*281474976710656:=Nat.le_trans C u;refine xW (ba M a n c) h.next (λm i f p=>i<=n/\m=n-i/\MB p h.next M a n c/\Ok h p/\∃j:Nat,f=(j:Int)/\j+iR (M.ak.drop i)=iR M.ak) (iQ h (iR M.ak:Nat)) (λm i f=>?_) n (i:=0) (acc:=0) ⟨by omega,rfl,x,I,0,rfl,by rw[drop_zero];omega⟩;intros;rename_i N H;obtain⟨R,O,d,l,j,rfl,k⟩:=H;refine⟨_,dp _,_,_,_,d.l3,ah (λe=>?_) (λe=>?_)⟩
 ·have e:=dT e;obtain⟨s,q⟩:∃s,M.ak[i]?=some s:=⟨_,gE (by omega)⟩
  obtain⟨b,o,K,y,z,B,Q,L,F,A⟩:=d.row.at_ q;have S:=A.len;rw[rR q,fz]at k;refine⟨_,dp _,_,_,_,d.l3,_,B,_,fL _ _,_,_,_,F,?_⟩;have G:wrap .i64 ((j:Int)+(y:Int))=((j+y:Nat):Int):=by rw[aO (by omega) (by omega)];omega
  dsimp only;rw[G,bF (i:=i) (n:=n) (by omega) (by omega)];exact mE (m-1) (by omega) ⟨by omega,by omega,d,l,_,rfl,by omega⟩
 ·have e:=dF e;rw[drop_eq_nil_of_le (by omega)]at k;refine⟨?_,l⟩;rw[show iR []=0 from rfl,Nat.add_zero]at k;rw[k]
end
end
variable{z:Int}{M:aH}
theorem yk{a:Int}{N:Nat}:∀{l:List eC}{c:Int},lH a N c l=true->∀s∈l,(s.f==[]||cJ a s.f)=true/\∀q∈s.an,ob a N q=true
 |[],_,_,s,b=>by cases b
 |x::l,c,h,s,b=>by
  unfold lH at h;simp only[and_eq_true]at h;obtain⟨⟨⟨i,f⟩,d⟩,g⟩:=h;rcases List.mem_cons.1 b with rfl|b
  ·exact⟨f,λq e=>List.all_eq_true.1 d q e⟩
  ·exact yk g s b
structure HA(N:Nat)(q:cq):Prop where
 i0:0<=q.i
 i1:q.i<=500
 o0:0<=q.o
 o1:q.o<=500
 t0:0<=q.t
 t1:q.t<N
theorem Sg(h:ob z n D=true):HA n D:=by
 unfold ob EZ at h;simp only[and_eq_true,decide_eq_true_eq]at h;obtain⟨⟨⟨⟨⟨b,c⟩,a,d⟩,f⟩,e⟩,g⟩:=h;exact⟨b,c,a,d,f,e⟩
structure Good(M:aH):Prop where
 nR:0<=M.start
 rB:M.start<M.ak.length
 an:∀s∈M.ak,∀q∈s.an,HA M.ak.length q
theorem rE(h:cn M=true):Good M:=by
 unfold cn at h;simp only[and_eq_true,decide_eq_true_eq]at h;obtain⟨⟨⟨⟨⟨⟨⟨g,i⟩,f⟩,k⟩,e⟩,d⟩,j⟩,a⟩:=h;exact⟨e,d,λs b q c=>Sg ((yk a s b).2 q c)⟩
theorem Rb:SS.P.underlying 68=some (.slice 4):=by kernel_rfl
theorem abQ:au SS.P 4=some 1:=by kernel_rfl
noncomputable def ti4:TypeInfo:=(SS.P.info? 4).getD default
theorem abZ:SS.P.info? 4=some ti4:=by kernel_rfl
theorem VS:ti4.size=1:=by kernel_rfl
theorem Rt:ti4.bytes=1:=by kernel_rfl
theorem aeg:zeroOf SS.P 4=some (.bool false):=by kernel_rfl
theorem adq(n:Nat)(a:n<=100000):aR SS.P 68 (.int .i64 (n:Int)) (.int .i64 (n:Int))=some (.cells ((List.replicate n false).map Value.bool) 4 1 true,jc n n):=by
 unfold aR aT;dsimp only;rw[Rb]
 try dsimp only
 change (match SS.P.info? 4,zeroOf SS.P 4 with
  |some i,some z=>(if z.cells.size=i.size/\0<i.size/\(0:Int)<=(n:Int)/\(n:Int)<=(n:Int)/\(n:Int)*i.bytes<=140737488355328/\(n:Int)<=1099511627776 then some (bw.cells (bG z.cells.toList (n:Int).toNat) 4 i.size true,λk=>Value.slice (some ⟨k,0,none⟩) (n:Int).toNat (n:Int).toNat)else none)
  |_,_=>none)=_
 rw[abZ,aeg];dsimp only;rw[VS,Rt,if_pos ⟨rfl,by omega,by omega,Int.le_refl _,by omega,by omega⟩];have e:((n:Int)).toNat=n:=by omega
 rw[e,show(Value.bool false).cells.toList=[Value.bool false]from rfl,lj,List.map_replicate];rfl
structure BR(hb:aa)(kt N:Nat)(L:List Bool)(g:aa):Prop where
 len:L.length=N
 row:uB hb kt 4 (L.map Value.bool) g
theorem BR.trans{L:List Bool}{a:aa}(b:BR h n m L g)(o:Ok g a):BR h n m L a:=⟨b.len,b.row.trans o⟩
theorem BR.get{c:Nat}{L:List Bool}(i:BR h n m L g){x:Int}(l:0<=x)(j:x<m):ai SS.P 68 (.slice (some ⟨n,0,none⟩) m c) (.int .i64 x)=some (.pointer (some ⟨n,x.toNat,none⟩))/\ae SS.P 4 g (.pointer (some ⟨n,x.toNat,none⟩))=some (.bool (L.getD x.toNat false))/\
  ∀b:Bool,Wf h->∃u:aY,aj SS.P 4 (.pointer (some ⟨n,x.toNat,none⟩)) (.bool b) g=some (undef,u)/\BR h n m (L.set x.toNat b) (u.app g)/\(∀a B,g.get a=some B->a≠n->(u.app g).get a=some B):=by
 have e:0+x.toNat*1=x.toNat:=by omega
 have d:x.toNat<L.length:=by rw[i.len];omega
 refine⟨by rw[<-e];exact F0 Rb abQ l j,?_,?_⟩
 ·rw[aN un4 ag4 i.row.row (by rw[lM];exact d),gD,getElem?_map,gD,gE d];rfl
 ·intro b w;refine⟨_,bC abQ i.row.row (by rw[lM];exact d) rfl rfl,⟨by rw[length_set];exact i.len,?_⟩,λa B k f=>?_⟩
  ·have:=i.row.set w x.toNat (.bool b);rw[Zk Value.bool L x.toNat b]at this⊢;exact this
  ·show(g.set n _).get a=_;rw[aa.aw,if_neg f];exact k
theorem BR.new(w:Wf h)(n:Nat):BR h h.next n (List.replicate n false) (h.push (.cells ((List.replicate n false).map Value.bool) 4 1 true)):=
 ⟨length_replicate,aI h _,Nat.le_refl _,(Ok.refl w).push _⟩
theorem Ly{L:List Bool}{x:Nat}(a:x<L.length):(L.set x b).getD n false=if n=x then b else L.getD n false:=by
 rw[gD,List.getElem?_set,gD];split
 ·next e=>subst e;simp
 ·next e=>rw[if_neg (λc=>e c.symm)]
noncomputable def ZF:FD:=ei Tryz.f173 []
theorem Wc(s:Int)(e d:Nat)(h:aa)(Q:VH)(r:xL (ae SS.P 68 h (pA e)) λy p v=>xP (ai SS.P 68 (.slice y p v) (.int .i64 s)) λx=>xB (ae SS.P 4 h (.pointer (some x))) λu=>aQ (!u) (xL (ae SS.P 68 h (pA e)) λq w t=>xP (ai SS.P 68 (.slice q w t) (.int .i64 s)) λz=>xU (aj SS.P 4 (.pointer (some z)) (.bool true) h) h λC a=>xL (ae SS.P 27 a (pA d)) λi k m=>xR (az SS.P 27 1 [(0,(.int .i64 s))]) a λD j f b=>xE (aE SS.P 27 27 (.slice i k m) (sA (a.next) j f) b) b λn o g B c=>xU (aj SS.P 27 (pA d) (.slice n o g) c) c λA l=>Q (.tuple ⟨[]⟩) l) (Q (.tuple ⟨[]⟩) h)):FW SS 173 [(.int .i64 s),(pA e),(pA d)] h Q:=eu ZF Tryz.func173 (ax r)
noncomputable def YI:FD:=ei Tryz.f133 []
theorem Ug(s:Int)(k:Nat)(h:aa)(Q:VH)(c:xL (ae SS.P 126 h (pA k)) λi a e=>xP (ai SS.P 126 (.slice i a e) (.int .i64 s)) λg=>xL (ae SS.P 27 h (.pointer (some g))) λf d b=>Q (.slice f d b) h):FW SS 133 [(.int .i64 s),(pA k)] h Q:=eu YI Tryz.func133 (ax c)
noncomputable def YJ:FD:=ei Tryz.f134 []
theorem Ui(s:Int)(k:Nat)(h:aa)(Q:VH)(c:xL (ae SS.P 126 h (pA k)) λi a e=>xP (ai SS.P 126 (.slice i a e) (.int .i64 s)) λg=>xL (ae SS.P 27 h (.pointer (some g))) λf d b=>Q (.slice f d b) h):FW SS 134 [(.int .i64 s),(pA k)] h Q:=eu YJ Tryz.func134 (ax c)
noncomputable def cC:FD:=ei Tryz.f132 [([1,1,1,1,0,1,0,0],[0,1,2,7,8,9,18,19,20]),([1,1,1,1,1,0,0,0],[0,1,2,7,8,9]),([1,1,1,1,1,0,0,0,1,0,1,1,1,0,0],[0,1,2,7,8,9,44,45,46])]
abbrev mQ(N:Int)(a:OA)(n c f e d b:Nat)(i:Nat):LV:=[(.int .i64 N),(.slice a n c),(.func (.func f) ⟨[]⟩ ⟨[(.pointer (some ⟨e,0,none⟩))]⟩),(pA d),(pA b),(.func (.func 173) ⟨[]⟩ ⟨[(pA d),(pA b)]⟩),(.slice a n c),(iA n),(iA i)]
abbrev hI(N:Int)(a:OA)(n c f e d b:Nat)(g:Nat):LV:=[(.int .i64 N),(.slice a n c),(.func (.func f) ⟨[]⟩ ⟨[(.pointer (some ⟨e,0,none⟩))]⟩),(pA d),(pA b),(.func (.func 173) ⟨[]⟩ ⟨[(pA d),(pA b)]⟩)]
abbrev mS(N:Int)(a:OA)(n c f h g e:Nat)(b:OA)(m d:Nat)(j:Nat):LV:=[(.int .i64 N),(.slice a n c),(.func (.func f) ⟨[]⟩ ⟨[(.pointer (some ⟨h,0,none⟩))]⟩),(pA g),(pA e),(.func (.func 173) ⟨[]⟩ ⟨[(pA g),(pA e)]⟩),(.slice b m d),(iA m),(iA j)]
theorem Q9(N:Int)(a:OA)(n c f g:Nat)(h:aa)(Q:VH)(k:xR (aR SS.P 68 (.int .i64 N) (.int .i64 N)) h λm j l b=>xN (aA SS.P 68) b λq e=>xU (aj SS.P 68 (pA (b.next)) (sA (h.next) j l) e) e λp d=>xN (aA SS.P 27) d λo i=>LL SS cC [1,1,1,1,0,1,0,0] [(.int .i64 N),(.slice a n c),(.func (.func f) ⟨[]⟩ ⟨[(.pointer (some ⟨g,0,none⟩))]⟩),(pA (b.next)),(pA (d.next)),(.func (.func 173) ⟨[]⟩ ⟨[(pA (b.next)),(pA (d.next))]⟩),(.slice a n c),(iA n),(.int .i64 0)] i (KK SS cC [1,1,1,1,0,1,0] [] (EE SS cC Q))):FW SS 132 [(.int .i64 N),(.slice a n c),(.func (.func f) ⟨[]⟩ ⟨[(.pointer (some ⟨g,0,none⟩))]⟩)] h Q:=eu cC Tryz.func132 (ax k)
theorem wm(N:Int)(a:OA)(n c f j:Nat)(d b:Nat)(g:Nat->Nat->aa->Prop)(Q:VH)(step:∀(e:Nat) (i:Nat) (l:Nat->Value) (h:aa),g e i h->aQ (decide (((i:Int):Int)<(n:Int))) (xP (ai SS.P 27 (.slice a n c) (iA i)) λo=>xI .i64 (ae SS.P 3 h (.pointer (some o))) λm=>FW SS 173 [(.int .i64 m),(pA d),(pA b)] h λp q=>p=(.tuple ⟨[]⟩)/\aJ (fB (mQ N a n c f j d b) g) e [(.int .i64 N),(.slice a n c),(.func (.func f) ⟨[]⟩ ⟨[(.pointer (some ⟨j,0,none⟩))]⟩),(pA d),(pA b),(.func (.func 173) ⟨[]⟩ ⟨[(pA d),(pA b)]⟩),(.slice a n c),(iA n),(.int .i64 (wrap .i64 ((i:Int)+1)))] q) (LL SS cC [1,1,1,1,1,0,0,0] [(.int .i64 N),(.slice a n c),(.func (.func f) ⟨[]⟩ ⟨[(.pointer (some ⟨j,0,none⟩))]⟩),(pA d),(pA b),(.func (.func 173) ⟨[]⟩ ⟨[(pA d),(pA b)]⟩)] h (KK SS cC [1,1,1,1,1,0,0] [] (EE SS cC Q))))(e:Nat){i:Nat}{h:aa}(k:g e i h):LL SS cC [1,1,1,1,0,1,0,0] (mQ N a n c f j d b i) h (KK SS cC [1,1,1,1,0,1,0] [] (EE SS cC Q)):=
 dQ (mQ N a n c f j d b) g (λe i l h k=>ax (step e i l h k)) e k
theorem wo(N:Int)(a:OA)(n c f j:Nat)(i b:Nat)(e:Nat->Nat->aa->Prop)(Q:VH)(step:∀(d:Nat) (g:Nat) (G:Nat->Value) (h:aa),e d g h->xL (ae SS.P 27 h (pA b)) λM q K=>aQ (decide (((q:Int):Int)>0)) (xL (ae SS.P 27 h (pA b)) λw A y=>xL (ae SS.P 27 h (pA b)) λP J L=>xP (ai SS.P 27 (.slice w A y) (.int .i64 (wrap .i64 ((J:Int)-1)))) λE=>xI .i64 (ae SS.P 3 h (.pointer (some E))) λp=>xL (ae SS.P 27 h (pA b)) λm B z=>xL (ae SS.P 27 h (pA b)) λO t R=>xL (bm SS.P 27 (.slice m B z) none (some (.int .i64 (wrap .i64 ((t:Int)-1)))) none h) λv s x=>xU (aj SS.P 27 (pA b) (.slice v s x) h) h λS u=>aQ (Nat.blt f YB) (FW SS f ([]++[(.int .i64 p)]++[(.pointer (some ⟨j,0,none⟩))]) u λC H=>yL C λo k r=>LL SS cC [1,1,1,1,1,0,0,0,1,0,1,1,1,0,0] [(.int .i64 N),(.slice a n c),(.func (.func f) ⟨[]⟩ ⟨[(.pointer (some ⟨j,0,none⟩))]⟩),(pA i),(pA b),(.func (.func 173) ⟨[]⟩ ⟨[(pA i),(pA b)]⟩),(.slice o k r),(iA k),(.int .i64 0)] H (KK SS cC [1,0,1,1,1,0] [1,1,1,1,1,0,0,0] (RR cC [1,1,1,1,1,0,0,0] (fB (hI N a n c f j i b) e) d (KK SS cC [1,1,1,1,1,0,0] [] (EE SS cC Q))))) False) (xL (ae SS.P 68 h (pA i)) λF I D=>Q (.slice F I D) h))(d:Nat){g:Nat}{h:aa}(l:e d g h):LL SS cC [1,1,1,1,1,0,0,0] (hI N a n c f j i b g) h (KK SS cC [1,1,1,1,1,0,0] [] (EE SS cC Q)):=
 dQ (hI N a n c f j i b) e (λd g G h l=>ax (step d g G h l)) d l
theorem wq(N:Int)(a:OA)(n c f l:Nat)(i g:Nat)(b:OA)(m d:Nat)(o:Nat->Nat->aa->Prop)(p:Nat)(k:Nat->Nat->aa->Prop)(Q:VH)(step:∀(e:Nat) (j:Nat) (t:Nat->Value) (h:aa),k e j h->aQ (decide (((j:Int):Int)<(m:Int))) (xP (ai SS.P 27 (.slice b m d) (iA j)) λu=>xI .i64 (ae SS.P 3 h (.pointer (some u))) λs=>FW SS 173 [(.int .i64 s),(pA i),(pA g)] h λr v=>r=(.tuple ⟨[]⟩)/\aJ (fB (mS N a n c f l i g b m d) k) e [(.int .i64 N),(.slice a n c),(.func (.func f) ⟨[]⟩ ⟨[(.pointer (some ⟨l,0,none⟩))]⟩),(pA i),(pA g),(.func (.func 173) ⟨[]⟩ ⟨[(pA i),(pA g)]⟩),(.slice b m d),(iA m),(.int .i64 (wrap .i64 ((j:Int)+1)))] v) (aJ (fB (hI N a n c f l i g) o) p [(.int .i64 N),(.slice a n c),(.func (.func f) ⟨[]⟩ ⟨[(.pointer (some ⟨l,0,none⟩))]⟩),(pA i),(pA g),(.func (.func 173) ⟨[]⟩ ⟨[(pA i),(pA g)]⟩)] h))(e:Nat){j:Nat}{h:aa}(q:k e j h):LL SS cC [1,1,1,1,1,0,0,0,1,0,1,1,1,0,0] (mS N a n c f l i g b m d j) h (KK SS cC [1,0,1,1,1,0] [1,1,1,1,1,0,0,0] (RR cC [1,1,1,1,1,0,0,0] (fB (hI N a n c f l i g) o) p (KK SS cC [1,1,1,1,1,0,0] [] (EE SS cC Q)))):=
 dQ (mS N a n c f l i g b m d) k (λe j t h q=>ax (step e j t h q)) e q
variable{a:Option Addr}
section
theorem Vn{a g:aa}(h:Wf a)(i:Ok a g){v:Value}{d:List Value}(o:ie a g 3 v d){z:Int}{f:Nat}(e:g.get f=some (.cells [.int .i64 z] 3 1 true))(k:d.length<=100000):
  ∃(b:Option Addr)(n c:Nat)(u:aY),aE SS.P 27 27 v (.slice (some ⟨f,0,none⟩) 1 1) g=some (.slice b n c,u)/\n=d.length+1/\ie a (u.app g) 3 (.slice b n c) (d++[.int .i64 z])/\Ok a (u.app g)/\
   (∀j B,g.get j=some B->bE v≠some j->(u.app g).get j=some B)/\
   (∀j,bE (.slice b n c)=some j->g.next<=j\/bE v=some j)/\g.next<=(u.app g).next:=
 ie.snoc cQ rk kX h i o rfl e (by rw[iV];omega) (by omega)
theorem ef:au SS.P 27=some 1:=by kernel_rfl
theorem adR:au SS.P 68=some 1:=by kernel_rfl
theorem gL:Go.Ab.isAgg SS.P 27=false:=by kernel_rfl
theorem aaB:Go.Ab.isAgg SS.P 68=false:=by kernel_rfl
theorem iY:SS.P.underlying 126=some (.slice 27):=by kernel_rfl
theorem MX:au SS.P 126=some 1:=by kernel_rfl
theorem oa:Go.Ab.isAgg SS.P 126=false:=by kernel_rfl
theorem aS(a:Option Addr)(n c:Nat):bc (.slice a n c)=true:=by cases a<;>rfl
def wG(g:aa)(k:Nat)(t:TypeId)(v:Value):Prop:=g.get k=some (.cells [v] t 0 true)
theorem wG.ok{g a:aa}{t:TypeId}(b:wG g k t v)(o:Ok g a):wG a k t v:=o.ext _ _ b
theorem wG.ld{g:aa}{t:TypeId}{d:TypeDesc}(c:SS.P.underlying t=some d)(a:Go.Ab.isAgg SS.P t=false)(b:wG g k t v):ae SS.P t g (.pointer (some ⟨k,0,none⟩))=some v:=aN c a b (by simp)
theorem wG.st{g:aa}{t:TypeId}(c:au SS.P t=some 1)(b:wG g k t v){v':Value}(a:bc v'=true)(d:v'.cells = #[v']):aj SS.P t (.pointer (some ⟨k,0,none⟩)) v' g=some (undef,.set k (.cells [v'] t 0 true)):=bC c b (by simp) a d
structure ZQ(h:aa)(k7 k8 kt N:Nat)(L:List Bool)(T:List Nat)(g:aa):Prop where
 b7:wG g k7 68 (.slice (some ⟨kt,0,none⟩) N N)
 b8:∃tv,wG g k8 27 tv/\ie h g 3 tv (T.map iv)/\bE tv≠some kt/\bE tv≠some k7/\bE tv≠some k8
 row:BR h kt N L g
 n7:h.next<=k7
 n8:h.next<=k8
 d1:k7≠kt
 d2:k8≠kt
 d3:k7≠k8
section
variable {h:aa} {k7 k8 kt N:Nat} {L:List Bool} {T:List Nat} {g:aa}
theorem Wd(w:Wf h)(a:ZQ h k7 k8 kt N L T g){s:Nat}(hs:s<N)(hT:T.length<=100000):
  FW SS 173 [.int .i64 (s:Int),.pointer (some ⟨k7,0,none⟩),.pointer (some ⟨k8,0,none⟩)] g (λv K=>v = .tuple ⟨[]⟩/\((L.getD s false=true/\ZQ h k7 k8 kt N L T K)\/(L.getD s false=false/\ZQ h k7 k8 kt N (L.set s true) (T++[s]) K))):=by
 obtain⟨X,t1,Z,I,Q,H⟩:=a.b8;obtain⟨E,U,M⟩:=a.row.get (c:=N) (x:=(s:Int)) (by omega) (by omega);rw[toNat_natCast]at E U M;refine Wc s k7 k8 g _ ⟨_,_,_,a.b7.ld Rb aaB,_,E,_,U,ah (λq=>?_) (λq=>?_)⟩
 ·rw[not_eq_true']at q;obtain⟨u,s1,o,F⟩:=M true w;refine⟨_,_,_,a.b7.ld Rb aaB,_,E,u,s1,?_⟩;have A:wG (u.app g) k7 68 (.slice (some ⟨kt,0,none⟩) N N):=F _ _ a.b7 a.d1;have r:wG (u.app g) k8 27 X:=F _ _ t1 a.d2;have S:ie h (u.app g) 3 X (T.map iv):=Z.jb λj B t G=>F j B G (λe=>I (by rw[t,e]));generalize u.app g=m at*;obtain⟨ta,tc,rfl⟩:=S.mU;rw[lM]at*;refine⟨_,_,_,r.ld cQ gL,?_⟩;have f:=o.row.ok;have p:=(Ok.refl f.wf).push (.cells [.int .i64 (s:Int)] 3 1 true);have hk:=aI m (.cells [.int .i64 (s:Int)] 3 1 true);obtain⟨b,l,i,C,a1,a2,a3,V,J,a6,a7⟩:=Vn w (f.trans p) (S.ok p) hk (by rw[lM];exact hT);refine⟨_,_,_,tH _,b,l,i,C,a1,?_⟩;have D:=J _ _ (A.ok p) Q;have n:wG (C.app (m.push (.cells [.int .i64 (s:Int)] 3 1 true))) k8 27 _:=J _ _ (r.ok p) H;have W:=J _ _ (p.ext _ _ o.row.row) I;have x0:m.next<=(m.push (.cells [.int .i64 (s:Int)] 3 1 true)).next:=Nat.le_succ _;have Y:=f.wf _ _ A;have O:=f.wf _ _ r;have lt:=o.row.lt;generalize m.push (.cells [.int .i64 (s:Int)] 3 1 true)=gp at*;generalize C.app gp=k at*;refine⟨_,n.st ef (aS _ _ _) rfl,rfl,.inr ⟨q,?_⟩⟩;have P:Ok h ((aY.set k8 (.cells [.slice b l i] 27 0 true)).app k):=V.set _ a.n8 (V.wf _ _ n) w;have d:∀j,j≠k8->((aY.set k8 (.cells [.slice b l i] 27 0 true)).app k).get j=k.get j:=λj t=>by
   show(k.set k8 _).get j=_;rw[aa.aw,if_neg t]
  have y:((aY.set k8 (.cells [.slice b l i] 27 0 true)).app k).get k8=some (.cells [.slice b l i] 27 0 true):=by
   show(k.set k8 _).get k8=_;rw[aa.aw,if_pos rfl]
  have z:∀j,bE (.slice ta T.length tc)≠some j->j<m.next->bE (.slice b l i)≠some j:=λj h1 h2 e=>by
   rcases a6 j e with R|R
   ·omega
   ·exact h1 R
  refine⟨?_,⟨_,y,?_,z _ I lt,z _ Q Y,z _ H O⟩,⟨o.len,?_,o.row.new,P⟩,a.n7,a.n8,a.d1,a.d2,a.d3⟩
  ·show _=_;rw[d _ a.d3];exact D
  ·rw[map_append];exact a3.jb λj B t G=>by rw[d j (λe=>z _ H O (by rw[t,e]))];exact G
  ·rw[d _ (λe=>a.d2 e.symm)];exact W
 ·rw[not_eq_false']at q;exact⟨rfl,.inl ⟨q,a⟩⟩
def Hy(g:aa)(a:Option Addr)(N c:Nat)(A:List (List Nat)):Prop:=A.length=N/\∃e:List Value,Rd g 27 (.slice a N c) e/\e.length=N/\∀(i:Nat)(l:List Nat),A[i]?=some l->∃(b:Option Addr)(m d:Nat),e[i]?=some (.slice b m d)/\Rd g 3 (.slice b m d) (l.map iv)
theorem Hy.ok{g e:aa}{N c:Nat}{A:List (List Nat)}(r:Hy g a N c A)(o:Ok g e):Hy e a N c A:=by
 obtain⟨n,f,p,j,q⟩:=r;exact⟨n,f,p.ok o,j,λi l k=>let⟨b,m,d,h,s⟩:=q i l k;⟨b,m,d,h,s.ok o⟩⟩
theorem Hy.Ky{h g:aa}{N c:Nat}{A:List (List Nat)}(r:Hy h a N c A)(o:Ok h g){i:Nat}{l:List Nat}(e:A[i]?=some l):
  ∃(p:Addr)(b:Option Addr)(m d:Nat),ai SS.P 126 (.slice a N c) (.int .i64 (i:Int))=some (.pointer (some p))/\ae SS.P 27 g (.pointer (some p))=some (.slice b m d)/\Rd h 3 (.slice b m d) (l.map iv):=by
 obtain⟨w,u,n,v,q⟩:=r;obtain⟨b,m,d,j,t⟩:=q i l e;have x:=(List.getElem?_eq_some_iff.1 e).1;obtain⟨p,s,f⟩:=(n.ok o).at_ iY ef cQ gL (k:= .i64) (i:=(i:Int)) (by omega) (by omega);rw[toNat_natCast,gD,j]at f;exact⟨p,b,m,d,s,f,t⟩
def Fj(h:aa)(f c:Nat)(A:List (List Nat)):Prop:=Nat.blt f YB=true/\∀(g:aa),Ok h g->∀(s:Nat)(l:List Nat),A[s]?=some l->FW SS f [.int .i64 (s:Int),.pointer (some ⟨c,0,none⟩)] g (λv a=>∃(b:Option Addr)(m d:Nat),v = .slice b m d/\Rd h 3 (.slice b m d) (l.map iv)/\a=g)
theorem Uh{c:Nat}{A:List (List Nat)}(w:Wf h)(e:wG h n 126 (.slice a N c))(r:Hy h a N c A):Fj h 133 n A:=by
 refine⟨by decide +kernel,λg o s l i=>?_⟩;obtain⟨p,b,m,d,f,k,j⟩:=r.Ky o i;exact Ug s n g _ ⟨_,_,_,(e.ok o).ld iY oa,_,f,_,_,_,k,b,m,d,rfl,j,rfl⟩
theorem Uj{c:Nat}{A:List (List Nat)}(w:Wf h)(e:wG h n 126 (.slice a N c))(r:Hy h a N c A):Fj h 134 n A:=by
 refine⟨by decide +kernel,λg o s l i=>?_⟩;obtain⟨p,b,m,d,f,k,j⟩:=r.Ky o i;exact Ui s n g _ ⟨_,_,_,(e.ok o).ld iY oa,_,f,_,_,_,k,b,m,d,rfl,j,rfl⟩
def Da(A:List (List Nat))(y x:Nat):Prop:=x∈A.getD y []
end
end
section
theorem atG{h:aa}{a:Option Addr}{n c:Nat}{l:List Nat}(r:Rd h 3 (.slice a n c) (l.map iv)){i:Nat}{x:Nat}(d:l[i]?=some x):∃p:Addr,ai SS.P 27 (.slice a n c) (.int .i64 (i:Int))=some (.pointer (some p))/\ae SS.P 3 h (.pointer (some p))=some (.int .i64 (x:Int)):=by
 have f:=(List.getElem?_eq_some_iff.1 d).1;obtain⟨p,e,b⟩:=r.at_ cQ wF lp ll (k:= .i64) (i:=(i:Int)) (by omega) (by rw[lM];omega);rw[toNat_natCast,gD,getElem?_map,d]at b;exact⟨p,e,b⟩
theorem UP{h:aa}{a:Option Addr}{n c:Nat}{l:List Nat}(r:Rd h 3 (.slice a n c) (l.map iv)):n=l.length:=by have:=r.len;rwa[lM]at this
theorem Ro{T:List Nat}(h:0<T.length):∃s,T[T.length-1]?=some s/\(∀x∈T.take (T.length-1),x∈T)/\(∀x∈T,x∈T.take (T.length-1)\/x=s)/\s∈T:=by
 obtain⟨s,c⟩:∃s,T[T.length-1]?=some s:=⟨_,gE (by omega)⟩
 have e:T=T.take (T.length-1)++[s]:=by
  have a:(T.take (T.length-1+1))=T:=take_of_length_le (by omega);rw[take_add_one,c]at a;exact a.symm
 refine⟨s,c,λx b=>List.mem_of_mem_take b,λx b=>?_,List.mem_of_getElem? c⟩;rw[e]at b;rcases mem_append.1 b with a|a
 ·exact .inl a
 ·rw[mem_singleton]at a;exact .inr a
structure Sq(h:aa)(E:Nat->Nat->Prop)(F:List Nat)(k7 k8 kt N:Nat)(ex:Nat->Prop)(L:List Bool)(T:List Nat)(g:aa):Prop where
 st:ZQ h k7 k8 kt N L T g
 inv:jG E (· ∈F) N L T ex
 bd:2*jf L+T.length<=2*N
section
variable {h:aa} {E:Nat->Nat->Prop} {F:List Nat} {k7 k8 kt N:Nat} {ex:Nat->Prop} {L:List Bool} {T:List Nat} {g:aa}
theorem J5(w:Wf h)(o:N<=1000)(q:Sq h E F k7 k8 kt N ex L T g){s:Nat}(b:s<N)(l:ij E (· ∈F) s):
  FW SS 173 [.int .i64 (s:Int),.pointer (some ⟨k7,0,none⟩),.pointer (some ⟨k8,0,none⟩)] g (λv e=>v = .tuple ⟨[]⟩/\∃a i,Sq h E F k7 k8 kt N ex a i e/\(∀x,L.getD x false=true->a.getD x false=true)/\a.getD s false=true/\2*jf a+i.length<=2*jf L+T.length):=by
 have m:=q.bd;refine(Wd w q.st b (by omega)).mono ?_;rintro _ e ⟨rfl,⟨c,d⟩|⟨c,d⟩⟩
 ·exact⟨rfl,L,T,⟨d,q.inv,q.bd⟩,λ_ h=>h,c,Nat.le_refl _⟩
 ·obtain⟨j,n⟩:=q.inv.see b l c;have f:s<L.length:=by rw[q.inv.len];exact b
  refine⟨rfl,_,_,⟨d,j,?_⟩,λx k=>?_,?_,?_⟩
  ·rw[length_append,length_singleton];omega
  ·rw[kI f];split
   ·rfl
   ·exact k
  ·rw[kI f,if_pos rfl]
  ·rw[length_append,length_singleton];omega
theorem ZQ.put(w:Wf h)(a:ZQ h k7 k8 kt N L T g){o:List Nat}{b:Option Addr}{m d:Nat}(v:ie h g 3 (.slice b m d) (o.map iv))(r:∀i,wG g k8 27 i->bE (.slice b m d)=bE i):
  ∃u:aY,aj SS.P 27 (.pointer (some ⟨k8,0,none⟩)) (.slice b m d) g=some (undef,u)/\ZQ h k7 k8 kt N L o (u.app g)/\Ok h (u.app g):=by
 obtain⟨i,n,y,x,s,p⟩:=a.b8;have e:=r i n;refine⟨_,n.st ef (aS _ _ _) rfl,?_⟩;have q:=a.row.row.ok;have k:Ok h ((aY.set k8 (.cells [.slice b m d] 27 0 true)).app g):=q.set _ a.n8 (q.wf _ _ n) w;have f:∀j,j≠k8->((aY.set k8 (.cells [.slice b m d] 27 0 true)).app g).get j=g.get j:=λj l=>by
  show(g.set k8 _).get j=_;rw[aa.aw,if_neg l]
 refine⟨⟨?_,⟨.slice b m d,?_,v.jb λj B l t=>by rw[f j (λc=>p (by rw[<-e,l,c]))];exact t,by rw[e];exact x,by rw[e];exact s,by rw[e];exact p⟩,⟨a.row.len,?_,a.row.row.new,k⟩,a.n7,a.n8,a.d1,a.d2,a.d3⟩,k⟩
 ·show _=_;rw[f _ a.d3];exact a.b7
 ·show(g.set k8 _).get k8=_;rw[aa.aw,if_pos rfl]
 ·rw[f _ (λc=>a.d2 c.symm)];exact a.row.row.row
end
section
variable {h:aa} {N:Nat} {A:List (List Nat)} {f kn:Nat} {a:Option Addr} {n c:Nat} {F:List Nat} {k7 k8 kt:Nat}
def sI1(h:aa)(A:List (List Nat))(F:List Nat)(k7 k8 kt N n:Nat)(a i:Nat)(g:aa):Prop:=i<=n/\a=n-i/\∃L T,Sq h (Da A) F k7 k8 kt N (λ_=>False) L T g/\∀x∈F.take i,L.getD x false=true
def sI2(h:aa)(A:List (List Nat))(F:List Nat)(k7 k8 kt N:Nat)(a b:Nat)(g:aa):Prop:=∃L T,Sq h (Da A) F k7 k8 kt N (λ_=>False) L T g/\(∀x∈F,L.getD x false=true)/\2*jf L+T.length<=a
def sI3(h:aa)(A:List (List Nat))(F:List Nat)(k7 k8 kt N:Nat)(l:List Nat)(s m a:Nat)(b j:Nat)(g:aa):Prop:=j<=m/\b=m-j/\∃L T,Sq h (Da A) F k7 k8 kt N (λy=>y=s) L T g/\(∀x∈F,L.getD x false=true)/\2*jf L+T.length+1<=a/\(∀z∈l.take j,L.getD z false=true)/\ij (Da A) (· ∈F) s
def sQ(h:aa)(A:List (List Nat))(F:List Nat)(N:Nat):VH:=λv a=>∃kt L,v = .slice (some ⟨kt,0,none⟩) N N/\BR h kt N L a/\∀x,L.getD x false=true↔ij (Da A) (· ∈F) x
set_option linter.defProp false in
def Zg(w:Wf h)(R:N<=1000)(D:∀l∈A,∀x∈l,x<N){s:Nat}{l:List Nat}(t:A[s]?=some l)(X:l.length<=100000){b:Option Addr}{m d:Nat}(I:Rd h 3 (.slice b m d) (l.map iv))(e:Nat)(Y:0<e):=
 wq (N:Int) a n c f kn k7 k8 b m d (sI2 h A F k7 k8 kt N) e (sI3 h A F k7 k8 kt N l s m e) (sQ h A F N) (by
  intro G j;intros;rename_i g E;obtain⟨f1,f2,L,T,q,J,W,C,K⟩:=E;have Z:=UP I;refine ah (λk=>?_) (λk=>?_)
  ·have k:=dT k;obtain⟨x,v⟩:∃x,l[j]?=some x:=⟨_,gE (by omega)⟩
   obtain⟨p,O,U⟩:=atG (I.ok q.st.row.row.ok) v;have r:=List.mem_of_getElem? v;have u:Da A s x:=by
    show x∈A.getD s [];rw[gD,t];exact r
   refine⟨_,O,_,U,(J5 w R q (D l (List.mem_of_getElem? t) x r) (.step K u)).mono ?_⟩;rintro _ g2 ⟨rfl,M,P,Q,H,S,h3⟩;refine⟨rfl,?_⟩;rw[bF (i:=j) (n:=m) (by omega) (by omega)];refine cK (G-1) (by omega) ⟨by omega,by omega,M,P,Q,λy V=>H y (J y V),by omega,λz o=>?_,K⟩;rw[take_add_one,v]at o;rcases mem_append.1 o with B|B
   ·exact H z (C z B)
   ·have:z=x:=by simpa using B
    rw[this];exact S
  ·have k:=dF k;rw[take_of_length_le (by omega)]at C;refine cK (e-1) (a:=0) (by omega) ⟨L,T,⟨q.st,q.inv.done λz u=>C z ?_,q.bd⟩,J,by omega⟩;have:z∈A.getD s []:=u;rw[gD,t]at this;exact this)
set_option linter.defProp false in
def Zh(w:Wf h)(W:N<=1000)(hA:A.length=N)(t:∀l∈A,∀x∈l,x<N)(M:∀l∈A,l.length<=100000)(I:Fj h f kn A):=
 wo (N:Int) a n c f kn k7 k8 (sI2 h A F k7 k8 kt N) (sQ h A F N) (by
  intro B dm;intros;rename_i g y;obtain⟨L,T,q,K,x0⟩:=y;obtain⟨tv,e,o,t3,t4,t5⟩:=q.st.b8;obtain⟨V,tc,k⟩:=o.mU;rw[lM]at k;subst k;refine⟨_,_,_,e.ld cQ gL,ah (λi=>?_) (λi=>?_)⟩
  ·have i:=dT i;obtain⟨s,R,p1,Q,J⟩:=Ro (T:=T) (by omega);have hb:=q.bd;have E:wrap .i64 ((T.length:Int)-1)=((T.length-1:Nat):Int):=by rw[aO (by omega) (by omega)];omega
   obtain⟨p,P,e2⟩:=atG o.rd R;refine⟨_,_,_,e.ld cQ gL,_,_,_,e.ld cQ gL,p,by rw[E];exact P,_,e2,_,_,_,e.ld cQ gL,_,_,_,e.ld cQ gL,?_⟩;dsimp only;rw[E];obtain⟨b,m,d,x1,C,x3⟩:=o.upto cQ wF (z:=T.length-1) (by rw[lM];omega) (by rw[lM];omega);rw[<-List.map_take]at C;obtain⟨u,Y,O,S⟩:=q.st.put w C (λD v=>by
    have:Value.slice V T.length tc=D:=by
     have:=e.symm.trans v;injection this with this;injection this with this;injection this with this
    rw[<-this];exact x3)
   refine⟨b,m,d,x1,u,Y,adO I.1 ?_⟩;have x4:=(q.inv.tin s J).1;obtain⟨l,r⟩:∃l,A[s]?=some l:=⟨_,gE (by omega)⟩
   refine(I.2 _ S s l r).mono ?_;rintro _ g2 ⟨Z,G,U,rfl,X,rfl⟩;refine⟨Z,G,U,rfl,?_⟩;have x5:(T.take (T.length-1)).length=T.length-1:=by rw[length_take];omega
   exact Zg w W t r (M l (List.mem_of_getElem? r)) X B (by omega) G (j:=0) ⟨by omega,by omega,L,T.take (T.length-1),⟨O,q.inv.take p1 Q,by omega⟩,K,by omega,λz H=>(by rw[take_zero]at H;cases H),q.inv.snd s (q.inv.tin s J).2⟩
  ·have i:=dF i;obtain rfl:T=[]:=List.eq_nil_of_length_eq_zero (by omega);exact⟨_,_,_,q.st.b7.ld Rb aaB,kt,L,rfl,q.st.row,q.inv.final K⟩)
theorem ET(w:Wf h)(D:N<=1000)(Y:A.length=N)(y:∀l∈A,∀x∈l,x<N)(H:∀l∈A,l.length<=100000)(V:Fj h f kn A)(G:Rd h 3 (.slice a n c) (F.map iv))(X:∀x∈F,x<N)(x0:F.length<=100000):
  FW SS 132 [.int .i64 (N:Int),.slice a n c,.func (.func f) ⟨[]⟩ ⟨[.pointer (some ⟨kn,0,none⟩)]⟩] h (sQ h A F N):=by
 have m:=BR.new w N;have j:aA SS.P 68=some (.cells [.slice none 0 0] 68 0 true,dX):=by kernel_rfl
 have k:aA SS.P 27=some (.cells [.slice none 0 0] 27 0 true,dX):=by kernel_rfl
 refine Q9 (N:Int) a n c f kn h _ ⟨_,_,_,adq N (by omega),_,j,?_⟩;have t:=m.row.ok;have x1:=m.row.lt;have n0:=m.row.new;generalize h.push (.cells ((List.replicate N false).map Value.bool) 4 1 true)=d at*;have J:=(Ok.refl t.wf).push (.cells [.slice none 0 0] 68 0 true);have C:wG (d.push (.cells [.slice none 0 0] 68 0 true)) d.next 68 (.slice none 0 0):=aI d _;refine⟨_,C.st adR (aS _ _ _) rfl,_,k,?_⟩;obtain⟨o,B⟩:=lF (cs:=[.slice (some ⟨h.next,0,none⟩) N N]) t.wf J C (Nat.le_refl _);generalize (aY.set d.next (.cells [.slice (some ⟨h.next,0,none⟩) N N] 68 0 true)).app (d.push (.cells [.slice none 0 0] 68 0 true))=b at*;have E:=(Ok.refl o.wf).push (.cells [.slice none 0 0] 27 0 true);have Z:wG (b.push (.cells [.slice none 0 0] 27 0 true)) b.next 27 (.slice none 0 0):=aI b _;have l1:=o.nx;have l2:=o.wf _ _ B;have l0:=t.nx;have U:ZQ h d.next b.next h.next N (List.replicate N false) [] (b.push (.cells [.slice none 0 0] 27 0 true)):=
  ⟨wG.ok (show wG b d.next 68 _ from B) E,⟨_,Z,ie.nil _ _ _,by simp[bE],by simp[bE],by simp[bE]⟩,(m.trans o).trans E,by omega,by omega,by omega,by omega,by omega⟩
 generalize b.push (.cells [.slice none 0 0] 27 0 true)=g2 at*;have hc:jf (List.replicate N false)=N:=by simp[jf]
 refine wm (N:Int) a n c f kn d.next b.next (sI1 h A F d.next b.next h.next N n) (sQ h A F N) (λK i=>?_) n (i:=0) ⟨by omega,rfl,_,_,⟨U,KN N _,by rw[hc];simp⟩,λx e=>(by rw[take_zero]at e;cases e)⟩;intros;rename_i gg S;obtain⟨f1,f2,L,T,q,v⟩:=S;have hn:=UP G;refine ah (λg=>?_) (λg=>?_)
 ·have g:=dT g;obtain⟨x,e⟩:∃x,F[i]?=some x:=⟨_,gE (by omega)⟩
  obtain⟨p,M,W⟩:=atG (G.ok q.st.row.row.ok) e;have s:=List.mem_of_getElem? e;refine⟨_,M,_,W,(J5 w D q (X x s) (.base s)).mono ?_⟩;rintro _ g3 ⟨rfl,I,O,Q,P,R,h3⟩;refine⟨rfl,?_⟩;rw[bF (i:=i) (n:=n) (by omega) (by omega)];refine cK (K-1) (by omega) ⟨by omega,by omega,I,O,Q,λz r=>?_⟩;rw[take_add_one,e]at r;rcases mem_append.1 r with u|u
  ·exact P z (v z u)
  ·have:z=x:=by simpa using u
   rw[this];exact R
 ·have g:=dF g;rw[take_of_length_le (by omega)]at v;exact Zh w D Y y H V (2*jf L+T.length) (show sI2 _ _ _ _ _ _ _ _ 0 _ from⟨L,T,q,v,Nat.le_refl _⟩)
end
end
variable{j:Nat}
section
theorem br{l:List A}{x y:A}(h:(l.set i x)[j]?=some y):(j=i/\y=x)\/(j≠i/\l[j]?=some y):=by
 rw[List.getElem?_set]at h;split at h
 ·next e=>
  split at h
  ·exact .inl ⟨e.symm,(oI h).symm⟩
  ·cases h
 ·next e=>exact .inr ⟨λc=>e c.symm,h⟩
structure Kv(hb g:aa)(X:Nat->Prop)(vs:List Value)(F:List (List Nat)):Prop where
 len:vs.length=F.length
 own:∀(i:Nat)(v:Value)(l:List Nat),vs[i]?=some v->F[i]?=some l->ie hb g 3 v (l.map iv)
 Lj:∀(i j:Nat)(v v':Value),i≠j->vs[i]?=some v->vs[j]?=some v'->∀k,bE v=some k->bE v'≠some k
 out:∀(i:Nat)(v:Value),vs[i]?=some v->∀k,bE v=some k->¬X k
section
variable {hb g:aa} {X:Nat->Prop} {vs:List Value} {F:List (List Nat)}
theorem Kv.jb(f:Kv hb g X vs F){a:aa}(h:∀(k:Nat) (B:bw),¬X k->g.get k=some B->a.get k=some B):Kv hb a X vs F:=
 ⟨f.len,λi v l b d=>(f.own i v l b d).jb λk B e c=>h k B (f.out i v b k e) c,f.Lj,f.out⟩
theorem Kv.ok(f:Kv hb g X vs F){a:aa}(o:Ok g a):Kv hb a X vs F:=f.jb λk B _ b=>o.ext k B b
theorem Kv.at_(f:Kv hb g X vs F){i:Nat}{l:List Nat}(d:F[i]?=some l):∃(a:Option Addr)(c:Nat),vs[i]?=some (.slice a l.length c)/\ie hb g 3 (.slice a l.length c) (l.map iv):=by
 have e:=(List.getElem?_eq_some_iff.1 d).1;obtain⟨v,b⟩:∃v,vs[i]?=some v:=⟨_,gE (by rw[f.len];exact e)⟩
 have o:=f.own i v l b d;obtain⟨a,c,rfl⟩:=o.mU;rw[lM]at*;exact⟨a,c,b,o⟩
theorem Kv.snoc(w:Wf hb)(N:Ok hb g)(f:Kv hb g X vs F)(S:∀k,X k->k<g.next){a:Nat}{v:Value}{l:List Nat}(t:vs[a]?=some v)(R:F[a]?=some l){x:Nat}{O:Nat}(H:g.get O=some (.cells [.int .i64 (x:Int)] 3 1 true))(L:l.length<=100000):
  ∃(b:Option Addr)(n c:Nat)(u:aY),aE SS.P 27 27 v (.slice (some ⟨O,0,none⟩) 1 1) g=some (.slice b n c,u)/\n=l.length+1/\Kv hb (u.app g) X (vs.set a (.slice b n c)) (F.set a (l++[x]))/\Ok hb (u.app g)/\
   (∀j B,g.get j=some B->bE v≠some j->(u.app g).get j=some B)/\g.next<=(u.app g).next:=by
 have Q:=f.own a v l t R;obtain⟨b,n,c,u,W,J,T,U,M,D,V⟩:=Vn w N Q H (by rw[lM];exact L);rw[lM]at J;refine⟨b,n,c,u,W,J,⟨by rw[length_set,length_set];exact f.len,λi v' l' y A=>?_,λi j E p C h d k r m=>?_,λi v' y k z s=>?_⟩,U,M,V⟩
 ·rcases br y with⟨e,rfl⟩|⟨e,h⟩
  ·rcases br A with⟨_,rfl⟩|⟨o,_⟩
   ·rw[map_append];exact T
   ·exact absurd e o
  ·rcases br A with⟨o,_⟩|⟨_,d⟩
   ·exact absurd o e
   ·exact(f.own i v' l' h d).jb λk B z P=>M k B P λc=>f.Lj i a v' v e h t k z c
 ·have I:∀(j:Nat)(p:Value),vs[j]?=some p->bE p=some k->k<g.next:=λj p d m=>by
   obtain⟨G,K⟩:∃G,F[j]?=some G:=⟨_,gE (by rw[<-f.len];exact(List.getElem?_eq_some_iff.1 d).1)⟩
   exact((f.own j p G d K).lt N.wf m).1
  rcases br h with⟨e,rfl⟩|⟨e,h⟩
  ·rcases br d with⟨o,_⟩|⟨o,d⟩
   ·exact C (by rw[e,o])
   ·rcases D k r with q|q
    ·have:=I j p d m;omega
    ·exact f.Lj a j v p (λc=>o c.symm) t d k q m
  ·rcases br d with⟨o,rfl⟩|⟨o,d⟩
   ·rcases D k m with q|q
    ·have:=I i E h r;omega
    ·exact f.Lj a i v E (λc=>e c.symm) t h k q r
   ·exact f.Lj i j E p C h d k r m
 ·rcases br y with⟨e,rfl⟩|⟨e,h⟩
  ·rcases D k z with q|q
   ·have:=S k s;omega
   ·exact f.out a v t k q s
  ·exact f.out i v' h k z s
end
structure Us(hb:aa)(R:Nat)(kt:Nat->Nat)(N:Nat)(X:Nat->Prop)(vs:List Value)(F:List (List Nat))(g:aa):Prop where
 cc:∀r,r<R->g.get (kt r)=some (.cells ((vs.drop (r*N)).take N) 27 1 true)
 Kz:Kv hb g X vs F
 ok:Ok hb g
 len:F.length=R*N+1
 xt:∀r,r<R->X (kt r)/\hb.next<=kt r
 inj:∀r r',r<R->r'<R->r≠r'->kt r≠kt r'
 xlt:∀k,X k->k<g.next
section
variable {hb g:aa} {R:Nat} {kt:Nat->Nat} {N:Nat} {X:Nat->Prop} {vs:List Value} {F:List (List Nat)}
theorem Us.ext(s:Us hb R kt N X vs F g){a:aa}(o:Ok g a):Us hb R kt N X vs F a:=
 ⟨λr c=>o.ext _ _ (s.cc r c),s.Kz.ok o,s.ok.trans o,s.len,s.xt,s.inj,λk b=>lt_of_lt_of_le (s.xlt k b) o.nx⟩
theorem Vf(a:n<R)(b:i<N):n*N+i<R*N+1:=by
 have:(n+1)*N<=R*N:=mul_le_mul_right _ a;rw[add_mul,one_mul]at this;omega
theorem Us.ld(s:Us hb R kt N X vs F g){r i:Nat}(o:r<R)(m:i<N):∃(l:List Nat)(a:Option Addr)(c:Nat),F[r*N+i]?=some l/\vs[r*N+i]?=some (.slice a l.length c)/\ai SS.P 126 (.slice (some ⟨kt r,0,none⟩) N N) (.int .i64 (i:Int))=some (.pointer (some ⟨kt r,i,none⟩))/\∀b,Us hb R kt N X vs F b->ae SS.P 27 b (.pointer (some ⟨kt r,i,none⟩))=some (.slice a l.length c)/\Rd b 3 (.slice a l.length c) (l.map iv):=by
 have f:=Vf o m;obtain⟨l,e⟩:∃l,F[r*N+i]?=some l:=⟨_,gE (by rw[s.len];exact f)⟩
 obtain⟨a,c,d,_⟩:=s.Kz.at_ e;refine⟨l,a,c,e,d,?_,λb h=>⟨?_,?_⟩⟩
 ·have:=F0 (P:=SS.P) iY ef (k:=kt r) (off:=0) (n:=N) (c:=N) (ik:= .i64) (i:=(i:Int)) (by omega) (by omega);rw[this,toNat_natCast,zero_add,Nat.mul_one]
 ·have j:((vs.drop (r*N)).take N)[i]?=some (.slice a l.length c):=by rw[getElem?_take,if_pos m,getElem?_drop];exact d
  rw[aN cQ gL (h.cc r o) (List.getElem?_eq_some_iff.1 j).1,gD,j];rfl
 ·exact(h.Kz.own _ _ _ d e).rd
theorem Dg(vs:List A)(o N i:Nat)(x:A)(a:i<N):((vs.set (o+i) x).drop o).take N=((vs.drop o).take N).set i x:=by
 rw[List.drop_set,if_neg (by omega),show o+i-o=i by omega,List.take_set]
theorem vh(vs:List A)(o N j:Nat)(x:A)(h:j<o\/o+N<=j):((vs.set j x).drop o).take N=(vs.drop o).take N:=by
 apply List.ext_getElem?;intro i;rw[getElem?_take,getElem?_take,getElem?_drop,getElem?_drop];split
 ·rw[List.getElem?_set,if_neg (by omega)]
 ·rfl
theorem Us.put(w:Wf hb)(s:Us hb R kt N X vs F g){r i:Nat}(f:r<R)(z:i<N){h:List Value}{q:List (List Nat)}{b:Option Addr}{n c:Nat}{l':List Nat}(x:h=vs.set (r*N+i) (.slice b n c))(E:q=F.set (r*N+i) l'){a:aa}(I:Kv hb a X h q)(o:Ok hb a)(A:∀j B,g.get j=some B->X j->a.get j=some B)(D:g.next<=a.next):
  ∃u:aY,aj SS.P 27 (.pointer (some ⟨kt r,i,none⟩)) (.slice b n c) a=some (undef,u)/\Us hb R kt N X h q (u.app a)/\(∀j B,a.get j=some B->j≠kt r->(u.app a).get j=some B):=by
 have C:=A _ _ (s.cc r f) (s.xt r f).1;have K:=Vf f z;have H:i<((vs.drop (r*N)).take N).length:=by
  have p:(R*N+1)=vs.length:=by rw[s.Kz.len,s.len]
  have J:(r+1)*N<=R*N:=mul_le_mul_right _ f;rw[add_mul,one_mul]at J;rw[length_take,length_drop];omega
 refine⟨_,bC ef C H (aS _ _ _) rfl,?_,λj B v y=>?_⟩
 ·have m:∀j,j≠kt r->((aY.set (kt r) (.cells (((vs.drop (r*N)).take N).set i (.slice b n c)) 27 1 true)).app a).get j=a.get j:=λj v=>by
   show(a.set (kt r) _).get j=_;rw[aa.aw,if_neg v]
  refine⟨λd l=>?_,I.jb λk B t G=>?_,o.set _ (s.xt r f).2 (o.wf _ _ C) w,by rw[E,length_set];exact s.len,s.xt,s.inj,λk t=>lt_of_lt_of_le (s.xlt k t) D⟩
  ·by_cases e:d=r
   ·subst e;show(a.set (kt d) _).get (kt d)=_;rw[aa.aw,if_pos rfl,x,Dg _ _ _ _ _ z]
   ·rw[m _ (s.inj d r l f e),A _ _ (s.cc d l) (s.xt d l).1,x,vh];rcases lt_or_ge r d with p|p
    ·have:=mul_le_mul_right N (show r+1<=d from p);rw[add_mul,one_mul]at this;exact .inl (by omega)
    ·have:=mul_le_mul_right N (show d+1<=r by omega);rw[add_mul,one_mul]at this;exact .inr (by omega)
  ·rw[m k (λc=>t (c▸(s.xt r f).1))];exact G
 ·show(a.set (kt r) _).get j=_;rw[aa.aw,if_neg y];exact v
theorem Us.adj(s:Us hb R kt N X vs F g){r:Nat}(e:r<R):Hy g (some ⟨kt r,0,none⟩) N N ((F.drop (r*N)).take N):=by
 have h:(r+1)*N<=R*N:=mul_le_mul_right _ e;rw[add_mul,one_mul]at h;have n:=s.len;have m:=s.Kz.len;have d:((vs.drop (r*N)).take N).length=N:=by rw[length_take,length_drop];omega
 refine⟨by rw[length_take,length_drop];omega,(vs.drop (r*N)).take N,.inr ⟨kt r,0,_,N,true,by rw[d],s.cc r e,by rw[drop_zero,List.take_length]⟩,d,λi l b=>?_⟩;rw[getElem?_take]at b;split at b
 ·next k=>
  rw[getElem?_drop]at b;obtain⟨a,c,f,j⟩:=s.Kz.at_ b;exact⟨a,_,c,by rw[getElem?_take,if_pos k,getElem?_drop];exact f,j.rd⟩
 ·cases b
end
theorem vV{g:aa}(w:Wf g){n j:Nat}(a:j<n)(B:bw):Ok g (av (Go.Ab.room g n) g.next [(j,B)])/\(av (Go.Ab.room g n) g.next [(j,B)]).get (g.next+j)=some B:=by
 refine⟨((Ok.refl w).room n).set B (Nat.le_add_right _ _) (Nat.add_lt_add_left a _) w,?_⟩;show((Go.Ab.room g n).set (g.next+j) B).get (g.next+j)=_;rw[aa.aw,if_pos rfl]
end
noncomputable def bO:FD:=ei Tryz.f96 [([1,1,1,1,0,1,0,0],[1,2,3,4,5,6,22,23,24]),([1,1,1,1,0,1,0,0,1,1,0,0,1,1,1,0,0],[1,2,3,4,5,6,7,8,22,23,24,37,38,39]),([1,1,1,1,1,1,0,1,0,0],[11,77,78,79])]
abbrev fA(k f g:Nat)(a:OA)(n c:Nat)(i:Nat)(e:OA)(b d:Nat):LV:=[(pA k),nA,(iA n),(pA f),(pA g),(.slice e b d),(.slice a n c),(iA n),(iA i)]
abbrev hJ(k l o:Nat)(a:OA)(n c f:Nat)(e:OA)(g h:Nat)(b:OA)(m d i:Nat)(j:Nat):LV:=[(pA k),nA,(iA n),(pA l),(pA o),(.slice e g h),(iA i),(pA f),(.slice a n c),(iA n),(iA i),(.slice b m d),(iA m),(iA j)]
abbrev jC(n a b:Nat)(i:Nat):LV:=[(sA a n n),(sA b n n),(iA n),(iA i)]
theorem RA(j:LV)(h:aa)(Q:VH)(r:xN (dK SS.P 24 (.agg ⟨j⟩)) h λw a=>xP (af SS.P 24 (pA (h.next)) 3) λt=>xL (ae SS.P 22 a (.pointer (some t))) λx b y=>zR (aR SS.P 126 (iA b) (iA b)) λm s q=>zR (aR SS.P 126 (iA b) (iA b)) λd n p=>zN (aA SS.P 126) λc=>zN (aA SS.P 126) λi=>xU (aj SS.P 126 (pA (a.next+4)) (sA (a.next+1) s q) (av (room a 8) a.next [(5,i),(4,c),(1,m)])) (av (room a 8) a.next [(5,i),(4,c),(1,m)]) λv f=>xU (aj SS.P 126 (pA (a.next+5)) (sA (a.next+3) n p) (av f a.next [(3,d)])) (av f a.next [(3,d)]) λu e=>xP (af SS.P 24 (pA (h.next)) 3) λl=>xL (ae SS.P 22 e (.pointer (some l))) λo g k=>LL SS bO [1,1,1,1,0,1,0,0] [(pA (h.next)),nA,(iA b),(pA (a.next+4)),(pA (a.next+5)),nA,(.slice o g k),(iA g),(.int .i64 0)] e (KK SS bO [1,1,1,1,0,1,0] [] (EE SS bO Q))):FW SS 96 [(.agg ⟨j⟩)] h Q:=eu bO Tryz.func96 (ax r)
theorem wz(mv:LV)(k g j:Nat)(a:OA)(n c:Nat)(b:Nat->Nat->OA->Nat->Nat->aa->Prop)(Q:VH)(step:∀(d:Nat) (i:Nat) (e:OA) (en ec:Nat) (J:Nat->Value) (h:aa),b d i e en ec h->aQ (decide (((i:Int):Int)<(n:Int))) (xP (ai SS.P 22 (.slice a n c) (iA i)) λs=>xA (ae SS.P 44 h (.pointer (some s))) λR=>xN (aA SS.P 44) h λx0 o=>xU (aj SS.P 44 (pA (h.next)) (.agg ⟨R⟩) o) o λY f=>xP (af SS.P 44 (pA (h.next)) 0) λU=>xS (ae SS.P 9 f (.pointer (some U))) λI=>aQ (!((I:LB)==[])) (xR (az SS.P 27 1 [(0,(iA i))]) f λx1 X O l=>xE (aE SS.P 27 27 (.slice e en ec) (sA (f.next) X O) l) l λv t H x2 m=>xP (af SS.P 44 (pA (h.next)) 1) λD=>xL (ae SS.P 42 m (.pointer (some D))) λw x W=>LL SS bO [1,1,1,1,0,1,0,0,1,1,0,0,1,1,1,0,0] (hJ k g j a n c (h.next) v t H w x W i 0) m (KK SS bO [1,1,0,0,1,1,1,0] [1,1,1,1,0,1,0,0] (RR bO [1,1,1,1,0,1,0,0] (RL (fA k g j a n c) b) d (KK SS bO [1,1,1,1,0,1,0] [] (EE SS bO Q))))) (xP (af SS.P 44 (pA (h.next)) 1) λV=>xL (ae SS.P 42 f (.pointer (some V))) λL E N=>LL SS bO [1,1,1,1,0,1,0,0,1,1,0,0,1,1,1,0,0] (hJ k g j a n c (h.next) e en ec L E N i 0) f (KK SS bO [1,1,0,0,1,1,1,0] [1,1,1,1,0,1,0,0] (RR bO [1,1,1,1,0,1,0,0] (RL (fA k g j a n c) b) d (KK SS bO [1,1,1,1,0,1,0] [] (EE SS bO Q)))))) (xP (af SS.P 24 (pA k) 1) λu=>xI .i64 (ae SS.P 3 h (.pointer (some u))) λP=>xR (az SS.P 27 1 [(0,(.int .i64 P))]) h λZ K M S=>FW SS 132 [(iA n),(sA (h.next) K M),(.func (.func 133) ⟨[]⟩ ⟨[(pA g)]⟩)] S λr z=>yL r λA G C=>FW SS 132 [(iA n),(.slice e en ec),(.func (.func 134) ⟨[]⟩ ⟨[(pA j)]⟩)] z λB F=>yL B λT p y=>LL SS bO [1,1,1,1,1,1,0,1,0,0] [(.slice A G C),(.slice T p y),(iA p),(.int .i64 0)] F (KK SS bO [1,1,1,1,1,1,0,1,0] [] (EE SS bO Q))))(d:Nat){i:Nat}{e:OA}{en ec:Nat}{h:aa}(q:b d i e en ec h):LL SS bO [1,1,1,1,0,1,0,0] (fA k g j a n c i e en ec) h (KK SS bO [1,1,1,1,0,1,0] [] (EE SS bO Q)):=
 Va (fA k g j a n c) b (λd i e en ec J h q=>ax (step d i e en ec J h q)) d q
theorem wA(mv:LV)(k o p:Nat)(a:OA)(n c:Nat)(D:Nat)(e:OA)(A B:Nat)(b:OA)(m d:Nat)(F:Nat->Nat->OA->Nat->Nat->aa->Prop)(mz i:Nat)(r:Nat->Nat->aa->Prop)(Q:VH)(step:∀(l:Nat) (j:Nat) (zz:Nat->Value) (h:aa),r l j h->aQ (decide (((j:Int):Int)<(m:Int))) (xP (ai SS.P 42 (.slice b m d) (iA j)) λx9=>xA (ae SS.P 46 h (.pointer (some x9))) λy5=>xN (aA SS.P 46) h λz1 E=>xU (aj SS.P 46 (pA (h.next)) (.agg ⟨y5⟩) E) E λz0 g=>xL (ae SS.P 126 (room g 12) (pA o)) λv s w=>xL (ae SS.P 126 (room g 12) (pA o)) λy2 y0 y1=>xP (ai SS.P 126 (.slice y2 y0 y1) (iA i)) λy4=>xL (ae SS.P 27 (room g 12) (.pointer (some y4))) λx3 x8 x0=>xP (af SS.P 46 (pA (h.next)) 3) λx7=>xI .i64 (ae SS.P 3 (room g 12) (.pointer (some x7))) λx4=>zR (az SS.P 27 1 [(0,(.int .i64 x4))]) λH x6 x5=>xE (aE SS.P 27 27 (.slice x3 x8 x0) (sA (g.next+8) x6 x5) (av (room g 12) g.next [(8,H)])) (av (room g 12) g.next [(8,H)]) λx2 Z y6 z2 z=>xP (ai SS.P 126 (.slice v s w) (iA i)) λx1=>xU (aj SS.P 27 (.pointer (some x1)) (.slice x2 Z y6) z) z λy9 f=>(ae SS.P 126 z (pA o)=some (.slice v s w)/\cZ 4 (.slice v s w) (.slice v s w)=true)/\xL (ae SS.P 126 (room f 13) (pA p)) λu y t=>xP (af SS.P 46 (pA (h.next)) 3) λG=>xI .i64 (ae SS.P 3 (room f 13) (.pointer (some G))) λx=>xL (ae SS.P 126 (room f 13) (pA p)) λy3 Y X=>xP (af SS.P 46 (pA (h.next)) 3) λV=>xI .i64 (ae SS.P 3 (room f 13) (.pointer (some V))) λP=>xP (ai SS.P 126 (.slice y3 Y X) (.int .i64 P)) λM=>xL (ae SS.P 27 (room f 13) (.pointer (some M))) λT O K=>zR (az SS.P 27 1 [(0,(iA i))]) λC U J=>xE (aE SS.P 27 27 (.slice T O K) (sA (f.next+9) U J) (av (room f 13) f.next [(9,C)])) (av (room f 13) f.next [(9,C)]) λS N L y8 q=>xP (ai SS.P 126 (.slice u y t) (.int .i64 x)) λI=>xU (aj SS.P 27 (.pointer (some I)) (.slice S N L) q) q λy7 W=>(ae SS.P 126 q (pA p)=some (.slice u y t)/\cZ 4 (.slice u y t) (.slice u y t)=true)/\(ae SS.P 3 q (.pointer (some G))=some (.int .i64 x)/\cZ 4 (.int .i64 x) (.int .i64 x)=true)/\aJ (fB (hJ k o p a n c D e A B b m d i) r) l [(pA k),nA,(iA n),(pA o),(pA p),(.slice e A B),(iA i),(pA D),(.slice a n c),(iA n),(iA i),(.slice b m d),(iA m),(.int .i64 (wrap .i64 ((j:Int)+1)))] W) (aJ (RL (fA k o p a n c) F) mz [(pA k),nA,(iA n),(pA o),(pA p),(.slice e A B),(.slice a n c),(iA n),(.int .i64 (wrap .i64 ((i:Int)+1)))] h))(l:Nat){j:Nat}{h:aa}(R:r l j h):LL SS bO [1,1,1,1,0,1,0,0,1,1,0,0,1,1,1,0,0] (hJ k o p a n c D e A B b m d i j) h (KK SS bO [1,1,0,0,1,1,1,0] [1,1,1,1,0,1,0,0] (RR bO [1,1,1,1,0,1,0,0] (RL (fA k o p a n c) F) mz (KK SS bO [1,1,1,1,0,1,0] [] (EE SS bO Q)))):=
 dQ (hJ k o p a n c D e A B b m d i) r (λl j zz h R=>ax (step l j zz h R)) l R
theorem wB(t:LV)(n c d:Nat)(b:Nat->Nat->aa->Prop)(Q:VH)(step:∀(a:Nat) (i:Nat) (q:Nat->Value) (h:aa),b a i h->aQ (decide (((i:Int):Int)<(n:Int))) (xP (ai SS.P 68 (sA d n n) (iA i)) λo=>xB (ae SS.P 4 h (.pointer (some o))) λf=>xP (ai SS.P 68 (sA c n n) (iA i)) λj=>xB (ae SS.P 4 h (.pointer (some j))) λe=>aQ e (xP (ai SS.P 68 (sA c n n) (iA i)) λg=>xU (aj SS.P 4 (.pointer (some g)) (.bool f) h) h λr l=>aJ (fB (jC n c d) b) a [(sA c n n),(sA d n n),(iA n),(.int .i64 (wrap .i64 ((i:Int)+1)))] l) (xP (ai SS.P 68 (sA c n n) (iA i)) λp=>xU (aj SS.P 4 (.pointer (some p)) (.bool false) h) h λs m=>aJ (fB (jC n c d) b) a [(sA c n n),(sA d n n),(iA n),(.int .i64 (wrap .i64 ((i:Int)+1)))] m)) (Q (sA c n n) h))(a:Nat){i:Nat}{h:aa}(k:b a i h):LL SS bO [1,1,1,1,1,1,0,1,0,0] (jC n c d i) h (KK SS bO [1,1,1,1,1,1,0,1,0] [] (EE SS bO Q)):=
 dQ (jC n c d) b (λa i q h k=>ax (step a i q h k)) a k
noncomputable def TY:FD:=ei Tryz.f104 []
theorem Qc(e:LV)(h:aa)(Q:VH)(q:xN (dK SS.P 24 (.agg ⟨e⟩)) h λs f=>xA (ae SS.P 24 (room f 12) (pA (h.next))) λr=>FW SS 30 [(.agg ⟨r⟩)] (room f 12) λm b=>yB m λn=>aQ n (xA (ae SS.P 24 b (pA (h.next))) λo=>FW SS 96 [(.agg ⟨o⟩)] b λp d=>yL p λi j l=>xP (af SS.P 24 (pA (h.next)) 1) λc=>xI .i64 (ae SS.P 3 d (.pointer (some c))) λa=>xP (ai SS.P 68 (.slice i j l) (.int .i64 a)) λg=>xB (ae SS.P 4 d (.pointer (some g))) λk=>(ae SS.P 3 b (.pointer (some c))=some (.int .i64 a)/\cZ 4 (.int .i64 a) (.int .i64 a)=true)/\Q (.bool (!k)) d) (Q (.bool false) b)):FW SS 104 [(.agg ⟨e⟩)] h Q:=eu TY Tryz.func104 (ax q)
variable{N:eC}
theorem Gh{t:TypeId}{b:aa}(o:Ok g b){a v:Value}(h:ae P t g a=some v):ae P t b a=some v:=by
 unfold ae at h⊢;split at h
 ·next d k i l=>
  split at h
  ·next cs e f j c=>
   rw[o.ext _ _ c];exact h
  ·cases h
 ·cases h
theorem ep.Ky{c:Nat}{l:List eC}(r:ep h (.slice a n c) l)(d:Ok h g){i:Nat}{s:eC}(j:l[i]?=some s):
  ∃(b o:Nat)(x:Option Addr)(y z:Nat),ai SS.P 22 (.slice a n c) (.int .i64 (i:Int))=some (.pointer (some ⟨b,o,none⟩))/\ae SS.P 44 g (.pointer (some ⟨b,o,none⟩))=some (.agg ⟨[strOf s.f,.slice x y z]⟩)/\
   ae SS.P 9 g (.pointer (some ⟨b,o+0,none⟩))=some (strOf s.f)/\ae SS.P 42 g (.pointer (some ⟨b,o+1,none⟩))=some (.slice x y z)/\gk h (.slice x y z) s.an:=by
 obtain⟨b,o,x,y,z,f,p,k,m,e⟩:=r.at_ j;exact⟨b,o,x,y,z,f,Gh d p,Gh d k,Gh d m,e⟩
noncomputable def abV:TypeInfo:=(SS.P.info? 27).getD default
theorem Zv:SS.P.info? 27=some abV:=by kernel_rfl
theorem Rp:abV.size=1:=by kernel_rfl
theorem M7:abV.bytes=24:=by kernel_rfl
def xM:Value:= .slice none 0 0
theorem acd:zeroOf SS.P 27=some xM:=by kernel_rfl
theorem T6(n:Nat)(a:n<=100000):aR SS.P 126 (.int .i64 (n:Int)) (.int .i64 (n:Int))=some (.cells (List.replicate n xM) 27 1 true,jc n n):=by
 unfold aR aT;dsimp only;rw[iY]
 try dsimp only
 change (match SS.P.info? 27,zeroOf SS.P 27 with
  |some i,some z=>(if z.cells.size=i.size/\0<i.size/\(0:Int)<=(n:Int)/\(n:Int)<=(n:Int)/\(n:Int)*i.bytes<=140737488355328/\(n:Int)<=1099511627776 then some (bw.cells (bG z.cells.toList (n:Int).toNat) 27 i.size true,λk=>Value.slice (some ⟨k,0,none⟩) (n:Int).toNat (n:Int).toNat)else none)
  |_,_=>none)=_
 rw[Zv,acd];dsimp only;rw[Rp,M7,if_pos ⟨rfl,by omega,by omega,Int.le_refl _,by omega,by omega⟩];have e:((n:Int)).toNat=n:=by omega
 rw[e,show(xM).cells.toList=[xM]from rfl,lj];rfl
def zl(s:eC):List Nat:=s.an.map λq=>q.t.toNat
def iD(M:aH)(y x:Nat):Prop:=∃s,M.ak[y]?=some s/\x∈zl s
def PE(M:aH)(x:Nat):Prop:=∃s,M.ak[x]?=some s/\s.f≠[]
def fU(M:aH)(x:Nat):Prop:=ij (iD M) (λy=>y=M.start.toNat) x/\ij (λy x=>iD M x y) (PE M) x
def WI(M:aH)(i j y x:Nat):Prop:=(y<i/\iD M y x)\/(y=i/\∃s,M.ak[i]?=some s/\x∈(zl s).take j)
theorem oy{x:Nat}:WI M i 0 n x↔n<i/\iD M n x:=by
 unfold WI;constructor
 ·rintro(h|⟨_,s,_,h⟩)
  ·exact h
  ·rw[take_zero]at h;cases h
 ·exact .inl
theorem Jw{x:Nat}(f:M.ak[i]?=some N)(g:N.an.length<=j):WI M i j n x↔n<i+1/\iD M n x:=by
 unfold WI;constructor
 ·rintro(⟨c,a⟩|⟨rfl,b,c,a⟩)
  ·exact⟨by omega,a⟩
  ·exact⟨by omega,b,c,List.mem_of_mem_take a⟩
 ·rintro⟨c,a⟩;rcases lt_or_ge n i with e|e
  ·exact .inl ⟨e,a⟩
  ·obtain rfl:n=i:=by omega
   obtain⟨b,d,h⟩:=a;refine .inr ⟨rfl,b,d,?_⟩;rw[f]at d;obtain rfl:=oI d;rw[take_of_length_le (by unfold zl;rw[lM];exact g)];exact h
theorem Jx{x:Nat}(d:M.ak[i]?=some N)(k:N.an[j]?=some D):WI M i (j+1) n x↔WI M i j n x\/(n=i/\x=D.t.toNat):=by
 have f:(zl N)[j]?=some D.t.toNat:=by unfold zl;rw[getElem?_map,k];rfl
 have e:(zl N).take (j+1)=(zl N).take j++[D.t.toNat]:=by rw[take_add_one,f];rfl
 unfold WI;constructor
 ·rintro(h|⟨c,g,b,a⟩)
  ·exact .inl (.inl h)
  ·rw[d]at b;obtain rfl:=oI b;rw[e,mem_append,mem_singleton]at a;rcases a with a|a
   ·exact .inl (.inr ⟨c,N,d,a⟩)
   ·exact .inr ⟨c,a⟩
 ·rintro((h|⟨c,g,b,a⟩)|⟨c,b⟩)
  ·exact .inl h
  ·rw[d]at b;obtain rfl:=oI b;exact .inr ⟨c,N,d,by rw[e];exact mem_append.2 (.inl a)⟩
  ·exact .inr ⟨c,N,d,by rw[e,b];exact mem_append.2 (.inr (mem_singleton.2 rfl))⟩
structure Dn(M:aH)(n i j i' cN:Nat)(F:List (List Nat)):Prop where
 fw:∀y l,y<n->F[0*n+y]?=some l->∀x,x∈l↔WI M i j y x
 bk:∀t l,t<n->F[1*n+t]?=some l->∀x,x∈l↔WI M i j x t
 en:∀l,F[2*n]?=some l->∀x,x∈l↔x<i'/\PE M x
 ln:∀l∈F,l.length<=cN
theorem LR{F:List (List Nat)}{l':List Nat}{c:Nat}(h:∀l∈F,l.length<=c)(d:l'.length<=c+1):∀l∈F.set n l',l.length<=c+1:=λl b=>by
 rcases List.mem_or_eq_of_mem_set b with a|a
 ·exact Nat.le_succ_of_le (h l a)
 ·rw[a];exact d
theorem Dn.arc{F:List (List Nat)}(d:Dn M n i j m k F)(A:i<n){s:eC}{q:cq}(p:M.ak[i]?=some s)(u:s.an[j]?=some q)(C:q.t.toNat<n){b f:List Nat}(r:F[0*n+i]?=some b)(v:F[1*n+q.t.toNat]?=some f):
  Dn M n i (j+1) m (k+1) ((F.set (0*n+i) (b++[q.t.toNat])).set (1*n+q.t.toNat) (f++[i])):=by
 have B:=d.ln b (List.mem_of_getElem? r);have D:=d.ln f (List.mem_of_getElem? v);refine⟨λy l w a x=>?_,λt l g a x=>?_,λl a x=>?_,λl a=>?_⟩
 ·rw[Jx p u];rcases br a with⟨e,_⟩|⟨_,a⟩
  ·omega
  ·rcases br a with⟨e,rfl⟩|⟨e,a⟩
   ·obtain rfl:y=i:=by omega
    rw[mem_append,mem_singleton,d.fw y b w r x];exact⟨λc=>c.imp id λc=>⟨rfl,c⟩,λc=>c.imp id λc=>c.2⟩
   ·rw[d.fw y l w a x];exact⟨.inl,λc=>c.elim id λc=>absurd (by rw[c.1]) e⟩
 ·rw[Jx p u];rcases br a with⟨e,rfl⟩|⟨e,a⟩
  ·obtain rfl:t=q.t.toNat:=by omega
   rw[mem_append,mem_singleton,d.bk _ f g v x];exact⟨λc=>c.imp id λc=>⟨c,rfl⟩,λc=>c.imp id λc=>c.1⟩
  ·rcases br a with⟨z,_⟩|⟨_,a⟩
   ·omega
   ·rw[d.bk t l g a x];exact⟨.inl,λc=>c.elim id λc=>absurd (by rw[c.2]) e⟩
 ·rcases br a with⟨e,_⟩|⟨_,a⟩
  ·omega
  ·rcases br a with⟨e,_⟩|⟨_,a⟩
   ·omega
   ·exact d.en l a x
 ·rcases List.mem_or_eq_of_mem_set a with h|h
  ·rcases List.mem_or_eq_of_mem_set h with o|o
   ·have:=d.ln l o;omega
   ·rw[o,length_append,length_singleton];omega
  ·rw[h,length_append,length_singleton];omega
theorem Dn.fin{F:List (List Nat)}(d:Dn M n i 0 i m F)(q:i<n){s:eC}(j:M.ak[i]?=some s)(g:s.f≠[]){l:List Nat}(f:F[2*n]?=some l):Dn M n i 0 (i+1) (m+1) (F.set (2*n) (l++[i])):=by
 have r:=d.ln l (List.mem_of_getElem? f);refine⟨λy l' p a x=>?_,λt l' o a x=>?_,λl' a x=>?_,LR d.ln (by rw[length_append,length_singleton];omega)⟩
 ·rcases br a with⟨e,_⟩|⟨_,h⟩
  ·omega
  ·exact d.fw y l' p h x
 ·rcases br a with⟨e,_⟩|⟨_,h⟩
  ·omega
  ·exact d.bk t l' o h x
 ·rcases br a with⟨_,rfl⟩|⟨e,_⟩
  ·rw[mem_append,mem_singleton,d.en l f x];constructor
   ·rintro(⟨k,b⟩|rfl)
    ·exact⟨by omega,b⟩
    ·exact⟨by omega,s,j,g⟩
   ·rintro⟨k,b⟩;rcases lt_or_ge x i with c|c
    ·exact .inl ⟨c,b⟩
    ·exact .inr (by omega)
  ·exact absurd rfl e
theorem Dn.adt{F:List (List Nat)}(d:Dn M n i 0 i m F){s:eC}(g:M.ak[i]?=some s)(f:s.f=[]):Dn M n i 0 (i+1) (m+1) F:=by
 refine⟨d.fw,d.bk,λl b x=>?_,λl b=>Nat.le_succ_of_le (d.ln l b)⟩;rw[d.en l b x];constructor
 ·rintro⟨h,a⟩;exact⟨by omega,a⟩
 ·rintro⟨h,a⟩;refine⟨?_,a⟩;rcases lt_or_ge x i with c|c
  ·exact c
  ·obtain rfl:x=i:=by omega
   obtain⟨k,e,j⟩:=a;rw[g]at e;obtain rfl:=oI e;exact absurd f j
theorem Dn.next{F:List (List Nat)}(d:Dn M n i j (i+1) m F){s:eC}(b:M.ak[i]?=some s)(c:s.an.length<=j):Dn M n (i+1) 0 (i+1) m F:=by
 refine⟨λy l f a x=>?_,λt l e a x=>?_,d.en,d.ln⟩
 ·rw[d.fw y l f a x,Jw b c,oy]
 ·rw[d.bk t l e a x,Jw b c,oy]
theorem Dn.new(M:aH)(n:Nat):Dn M n 0 0 0 0 (List.replicate (2*n+1) []):=by
 have h:∀{i:Nat}{l:List Nat},(List.replicate (2*n+1) ([]:List Nat))[i]?=some l->l=[]:=λ{i l} a=>by
  rw[List.getElem?_replicate]at a;split at a
  ·exact(oI a).symm
  ·cases a
 refine⟨λy l d a x=>?_,λt l b a x=>?_,λl a x=>?_,λl a=>?_⟩
 ·rw[h a,oy];exact⟨λc=>(by cases c),λc=>absurd c.1 (Nat.not_lt_zero _)⟩
 ·rw[h a,oy];exact⟨λc=>(by cases c),λc=>absurd c.1 (Nat.not_lt_zero _)⟩
 ·rw[h a];exact⟨λc=>(by cases c),λc=>absurd c.1 (Nat.not_lt_zero _)⟩
 ·rw[List.eq_of_mem_replicate a];exact Nat.le_refl _
theorem Us.tail{f:Nat->Nat}{X:Nat->Prop}{vs:List Value}{F:List (List Nat)}(s:Us h n f m X vs F g){b:List Value}{c:List (List Nat)}{v:Value}{l':List Nat}(p:b=vs.set (n*m) v)(o:c=F.set (n*m) l'){a:aa}(q:Kv h a X b c)(i:Ok h a)(u:∀j B,g.get j=some B->X j->a.get j=some B)(l:g.next<=a.next):Us h n f m X b c a:=by
 refine⟨λr d=>?_,q,i,by rw[o,length_set];exact s.len,s.xt,s.inj,λk t=>lt_of_lt_of_le (s.xlt k t) l⟩;have e:(r+1)*m<=n*m:=mul_le_mul_right _ d;rw[add_mul,one_mul]at e;rw[u _ _ (s.cc r d) (s.xt r d).1,p,vh _ _ _ _ _ (.inr e)]
theorem pM(k o n c:Nat):cZ 4 (.slice (some ⟨k,o,none⟩) n c) (.slice (some ⟨k,o,none⟩) n c)=true:=by simp[cZ]
end Go.Proofs.YtnlccnpbjeiccaaGreatDoor
end
