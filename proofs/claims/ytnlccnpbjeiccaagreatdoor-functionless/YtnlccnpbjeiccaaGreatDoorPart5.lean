/- Laws and walks that the proof leans on (part 5): P42; P43; P44; P45; P46; P47 and others. No condition. -/
import Derived.Test.YtnlccnpbjeiccaaGreatDoorPart4
import Derived.Test.YtnlccnpbjeiccaaGreatDoorPart3
import Derived.Test.YtnlccnpbjeiccaaGreatDoorPart2
set_option linter.unusedVariables false
set_option linter.unusedSimpArgs false
set_option maxRecDepth 100000
open List (all_eq_true append_assoc append_nil cons_append countP_cons drop_zero filterMap_append filterMap_cons flatten_cons foldl_append getElem?_map getElem?_replicate getElem?_set length_append length_cons length_replicate length_set length_singleton length_take map_append map_replicate map_set mem_append mem_cons mem_cons_self mem_map mem_singleton nil_append nodup_cons set_set take_add_one take_of_length_le)
open Nat (mul_one not_lt_zero one_mul sub_self zero_add zero_le)
open Int (toNat_natCast)
open Go.IntKind (wrap)
section
namespace Go.Proofs.YtnlccnpbjeiccaaGreatDoor
open Go Go.Ab Go.Num
variable{h:aa}{d:List Value}
section
theorem Kv.lt{hb:aa}{X:Nat->Prop}{F:List (List Nat)}(f:Kv hb h X d F)(w:Wf h){i:Nat}{v:Value}(b:d[i]?=some v){k:Nat}(e:bE v=some k):k<h.next:=by
 obtain⟨a,c⟩:∃a,F[i]?=some a:=⟨_,gE (by rw[<-f.len];exact(List.getElem?_eq_some_iff.1 b).1)⟩
 exact((f.own i v a b c).lt w e).1
def usX(hb:aa):Nat->Prop:=λk=>k=hb.next+1\/k=hb.next+3\/k=hb.next+4\/k=hb.next+5
def Rz(hb:aa):Nat->Nat:=λr=>hb.next+1+2*r
structure Ub(hb:aa)(M:aH)(n i j i' cN:Nat)(vs:List Value)(F:List (List Nat))(g:aa):Prop where
 us:Us hb 2 (Rz hb) n (usX hb) vs F g
 b4:wG g (hb.next+4) 126 (.slice (some ⟨Rz hb 0,0,none⟩) n n)
 b5:wG g (hb.next+5) 126 (.slice (some ⟨Rz hb 1,0,none⟩) n n)
 dn:Dn M n i j i' cN F
section
variable {hb:aa} {M:aH} {a:Option Addr} {n c k:Nat}
def adZ(hb:aa)(M:aH)(n:Nat)(c i:Nat)(e:Option Addr)(d f:Nat)(g:aa):Prop:=i<=n/\c=n-i/\∃a F b,Ub hb M n i 0 i b a F g/\a[2*n]?=some (.slice e d f)/\b+iR (M.ak.drop i)+(n-i)<=2300
def uIn(hb:aa)(M:aH)(n:Nat)(e:Option Addr)(d f m i:Nat)(b j:Nat)(g:aa):Prop:=j<=m/\b=m-j/\∃a F c,Ub hb M n i j (i+1) c a F g/\a[2*n]?=some (.slice e d f)/\c+(m-j)+iR (M.ak.drop (i+1))+(n-(i+1))<=2300
set_option linter.defProp false in
def Kl(w:Wf hb)(gd:Good M)(w1:n=M.ak.length)(hn:n<=300){s:eC}{b:Option Addr}{m d i k8:Nat}(hs:M.ak[i]?=some s)(W:i<n)(ar:gk hb (.slice b m d) s.an)(v7:s.an.length<=2000)(mv:List Value)(e:Option Addr)(en ec mz:Nat)(v9:mz=n-i)(Q:VH):=
 wA mv k (hb.next+4) (hb.next+5) a n c k8 e en ec b m d (adZ hb M n) mz i (uIn hb M n e en ec m i) Q (by
  intro z3 j;intros;rename_i g t;obtain⟨f1,f2,vs,F,cN,f,x4,v6⟩:=t;have hm:=ar.len;have ok:=f.us.ok;refine ah (λJ=>?_) (λJ=>?_)
  ·have J:=dT J;obtain⟨q,hq⟩:∃q,s.an[j]?=some q:=⟨_,gE (by omega)⟩
   obtain⟨bb,o,e1,e2,_⟩:=(ar.ok ok).at_ hq;have t:=gd.an s (List.mem_of_getElem? hs) q (List.mem_of_getElem? hq);obtain⟨T,hT⟩:∃T:Nat,q.t=(T:Int):=⟨q.t.toNat,by have:=t.t0;omega⟩
   have E:T<n:=by have:=t.t1;omega
   have N:q.t.toNat=T:=by omega
   obtain⟨u1,p1,p2,p3⟩:=wb ok.wf q;have V:∀g',AB g' g.next q->ae SS.P 3 g' (.pointer (some ⟨g.next,0+3,none⟩))=some (.int .i64 (T:Int)):=λg' h=>by rw[<-hT];exact AB.l3 h
   have x0:∀(x8:Nat)(v:Value),vs[x8]?=some v->bE v≠some g.next:=λx8 v hv e=>by have:=f.us.Kz.lt ok.wf hv e;omega
   have z8:=f.us.xlt;have Z:=f.us.ext p2;have B4:=f.b4.ok p2;have B5:=f.b5.ok p2;refine⟨_,e1,_,e2,_,Fp,u1,p1,?_⟩;generalize u1.app (g.push Hu)=g2 at*;have w2:=Z.ok.wf;have Y:=(Ok.refl w2).room 12;obtain⟨r1,a1,c1,H,K,y1,v1⟩:=Z.ld (r:=0) (i:=i) (by omega) W;have v5:=f.dn.ln r1 (List.mem_of_getElem? H);obtain⟨P,y8⟩:=vV w2 (n:=12) (j:=8) (by omega) (.cells [.int .i64 (T:Int)] 3 1 true);have u0:=(v1 _ (Z.ext Y)).1;have B:=Z.ext P;have u2:=B4.ok P;have u7:=B5.ok P;have A3:=AB.ok p3 P;obtain⟨b',n',c',x2,y5,v4,u6,v0,x,y6⟩:=B.Kz.snoc w B.ok B.xlt K H y8 (by omega);have z5:bE (.slice a1 r1.length c1)≠some g.next:=x0 _ _ K;have G:∀k,usX hb k->bE (.slice a1 r1.length c1)≠some k:=λk p e=>B.Kz.out _ _ K k e p;refine⟨_,_,_,(B4.ok Y).ld iY oa,_,_,_,(B4.ok Y).ld iY oa,_,y1,_,_,_,u0,_,eU _ _,_,V _ (p3.ok Y),_,_,_,tH _,b',n',c',x2,y5,_,y1,?_⟩;generalize av (Go.Ab.room g2 12) g2.next [(8,.cells [.int .i64 (T:Int)] 3 1 true)]=S at*;have x5:=x _ _ u2 (G _ (.inr (.inr (.inl rfl))));have z2:=x _ _ u7 (G _ (.inr (.inr (.inr rfl))));have A4:=x _ _ A3 z5;obtain⟨x6,z1,X,C⟩:=B.put w (r:=0) (i:=i) (by omega) W rfl rfl u6 v0 (λy B' hj p=>x y B' hj (G y p)) y6;refine⟨x6,z1,⟨wG.ld iY oa x5,pM _ _ _ _⟩,?_⟩;have z0:wG _ _ _ _:=C _ _ x5 (by unfold Rz;omega);have L:wG _ _ _ _:=C _ _ z2 (by unfold Rz;omega);have A5:AB _ _ q:=C _ _ A4 (by have:=z8 _ (f.us.xt 0 (by omega)).1;omega);generalize x2.app S=g4 at*;generalize x6.app g4=g5 at*;have w5:=X.ok.wf;have l:=(Ok.refl w5).room 13;obtain⟨U,a2,c2,x9,x1,y0,u3⟩:=X.ld (r:=1) (i:=T) (by omega) E;obtain⟨O,k9⟩:=vV w5 (n:=13) (j:=9) (by omega) (.cells [.int .i64 (i:Int)] 3 1 true);have y2:=(u3 _ (X.ext l)).1;have R:=X.ext O;have A:vs[1*n+T]?=some (.slice a2 U.length c2):=by
    rcases br x1 with⟨e,_⟩|⟨_,h⟩
    ·omega
    ·exact h
   have I:F[1*n+T]?=some U:=by
    rcases br x9 with⟨e,_⟩|⟨_,h⟩
    ·omega
    ·exact h
   have v8:=f.dn.ln U (List.mem_of_getElem? I);have z9:=x0 _ _ A;have z:∀k,usX hb k->bE (.slice a2 U.length c2)≠some k:=λk p e=>f.us.Kz.out _ _ A k e p;obtain⟨y9,u8,z4,y4,u9,w0,v3,u4,u,z7⟩:=R.Kz.snoc w R.ok R.xlt x1 x9 k9 (by omega);refine⟨_,_,_,(L.ok l).ld iY oa,_,eU _ _,_,V _ (A5.ok l),_,_,_,(L.ok l).ld iY oa,_,eU _ _,_,V _ (A5.ok l),_,y0,_,_,_,y2,_,_,_,tH _,y9,u8,z4,y4,u9,_,y0,?_⟩;have v2:=u _ _ (z0.ok O) (z _ (.inr (.inr (.inl rfl))));have x7:=u _ _ (L.ok O) (z _ (.inr (.inr (.inr rfl))));have A6:AB _ _ q:=u _ _ (A5.ok O) z9;obtain⟨y3,y7,U8,x3⟩:=R.put w (r:=1) (i:=T) (by omega) E rfl rfl v3 u4 (λy B' hj p=>u y B' hj (z y p)) z7;refine⟨y3,y7,⟨wG.ld iY oa x7,pM _ _ _ _⟩,⟨V _ A6,OR _⟩,?_⟩;rw[bF (i:=j) (n:=m) (by omega) (by omega)];have u5:=x3 _ _ v2 (by unfold Rz;omega);have z6:=x3 _ _ x7 (by unfold Rz;omega);have D:=f.dn.arc W hs hq (by rw[N];exact E) H (by rw[N];exact I);rw[N]at D;refine cK (z3-1) (by omega) ⟨by omega,by omega,_,_,cN+1,⟨U8,u5,z6,D⟩,?_,by omega⟩;rw[getElem?_set,if_neg (by omega),getElem?_set,if_neg (by omega)];exact x4
  ·have J:=dF J;obtain rfl:m=j:=by omega
   rw[bF W (by omega)];exact NX (n-(i+1)) (by omega) ⟨by omega,rfl,vs,F,cN,⟨f.us,f.b4,f.b5,f.dn.next hs (by omega)⟩,x4,by omega⟩)
end
end
variable{m:Nat}{j:Nat}{g:aa}{n:Nat}
def mZ(n:Nat):bw:= .cells (List.replicate n xM) 27 1 true
def lq:bw:= .cells [.slice none 0 0] 126 0 true
theorem ZZ:aA SS.P 126=some (lq,dX):=by kernel_rfl
theorem EH{E a:Nat->Nat->Prop}{F b:Nat->Prop}(d:∀y x,E y x↔a y x)(f:∀x,F x↔b x)(x:Nat):ij E F x↔ij a b x:=by
 have c:E=a:=funext λy=>funext λx=>propext (d y x);have e:F=b:=funext λx=>propext (f x);rw[c,e]
theorem Hj(w:Wf h)(M:aH)(n:Nat):
  ∃m:aY,aj SS.P 126 (.pointer (some ⟨h.next+4,0,none⟩)) (.slice (some ⟨h.next+1,0,none⟩) n n) (av (Go.Ab.room h 8) h.next [(5,lq),(4,lq),(1,mZ n)])=some (undef,m)/\
  ∃s:aY,aj SS.P 126 (.pointer (some ⟨h.next+5,0,none⟩)) (.slice (some ⟨h.next+3,0,none⟩) n n) (av (m.app (av (Go.Ab.room h 8) h.next [(5,lq),(4,lq),(1,mZ n)])) h.next [(3,mZ n)])=some (undef,s)/\
   Ub h M n 0 0 0 0 (List.replicate (2*n+1) xM) (List.replicate (2*n+1) []) (s.app (av (m.app (av (Go.Ab.room h 8) h.next [(5,lq),(4,lq),(1,mZ n)])) h.next [(3,mZ n)])):=by
 obtain⟨N,b⟩:∃N,h.next=N:=⟨_,rfl⟩
 have A:(Go.Ab.room h 8).next=N+8:=by rw[<-b];rfl
 rw[b];have B:wG (av (Go.Ab.room h 8) N [(5,lq),(4,lq),(1,mZ n)]) (N+4) 126 (.slice none 0 0):=by
  show(((Go.Ab.room h 8).set (N+1) _).set (N+4) lq |>.set (N+5) lq).get (N+4)=_;rw[aa.aw,if_neg (by omega),aa.aw,if_pos rfl];rfl
 refine⟨_,B.st MX (aS _ _ _) rfl,?_⟩;have D:wG (av ((aY.set (N+4) (.cells [.slice (some ⟨N+1,0,none⟩) n n] 126 0 true)).app (av (Go.Ab.room h 8) N [(5,lq),(4,lq),(1,mZ n)])) N [(3,mZ n)]) (N+5) 126 (.slice none 0 0):=by
  show(((((Go.Ab.room h 8).set (N+1) (mZ n)).set (N+4) lq |>.set (N+5) lq).set (N+4) _).set (N+3) (mZ n)).get (N+5)=_;rw[aa.aw,if_neg (by omega),aa.aw,if_neg (by omega),aa.aw,if_pos rfl];rfl
 refine⟨_,D.st MX (aS _ _ _) rfl,?_⟩;show Ub h M n 0 0 0 0 _ _ ((((((Go.Ab.room h 8).set (N+1) (mZ n)).set (N+4) lq |>.set (N+5) lq).set (N+4) (.cells [.slice (some ⟨N+1,0,none⟩) n n] 126 0 true)).set (N+3) (mZ n)).set (N+5) (.cells [.slice (some ⟨N+3,0,none⟩) n n] 126 0 true));have c:∀j,((((((Go.Ab.room h 8).set (N+1) (mZ n)).set (N+4) lq |>.set (N+5) lq).set (N+4) (.cells [.slice (some ⟨N+1,0,none⟩) n n] 126 0 true)).set (N+3) (mZ n)).set (N+5) (.cells [.slice (some ⟨N+3,0,none⟩) n n] 126 0 true)).get j =
   if j=N+5 then some (.cells [.slice (some ⟨N+3,0,none⟩) n n] 126 0 true)else if j=N+3 then some (mZ n)else if j=N+4 then some (.cells [.slice (some ⟨N+1,0,none⟩) n n] 126 0 true)else if j=N+5 then some lq else if j=N+4 then some lq else if j=N+1 then some (mZ n)else h.get j:=λj=>by
  rw[aa.aw,aa.aw,aa.aw,aa.aw,aa.aw,aa.aw];rfl
 have d:Ok h ((((((Go.Ab.room h 8).set (N+1) (mZ n)).set (N+4) lq |>.set (N+5) lq).set (N+4) (.cells [.slice (some ⟨N+1,0,none⟩) n n] 126 0 true)).set (N+3) (mZ n)).set (N+5) (.cells [.slice (some ⟨N+3,0,none⟩) n n] 126 0 true)):=by
  refine((((((Ok.refl w).room 8).set _ ?_ ?_ w).set _ ?_ ?_ w).set _ ?_ ?_ w).set _ ?_ ?_ w).set _ ?_ ?_ w |>.set _ ?_ ?_ w
  all_goals first
   |(rw[b];omega)
   |(show _<(Go.Ab.room h 8).next;rw[A];omega)
 generalize ((((((Go.Ab.room h 8).set (N+1) (mZ n)).set (N+4) lq |>.set (N+5) lq).set (N+4) (.cells [.slice (some ⟨N+1,0,none⟩) n n] 126 0 true)).set (N+3) (mZ n)).set (N+5) (.cells [.slice (some ⟨N+3,0,none⟩) n n] 126 0 true))=g at*;have x:g.get (N+1)=some (mZ n):=by rw[c,if_neg (by omega),if_neg (by omega),if_neg (by omega),if_neg (by omega),if_neg (by omega),if_pos rfl]
 have z:g.get (N+3)=some (mZ n):=by rw[c,if_neg (by omega),if_pos rfl]
 have u:g.get (N+4)=some (.cells [.slice (some ⟨N+1,0,none⟩) n n] 126 0 true):=by rw[c,if_neg (by omega),if_neg (by omega),if_pos rfl]
 have y:g.get (N+5)=some (.cells [.slice (some ⟨N+3,0,none⟩) n n] 126 0 true):=by rw[c,if_pos rfl]
 have f:∀{i:Nat}{v:Value},(List.replicate (2*n+1) xM)[i]?=some v->v=xM:=λ{i v} a=>by
  rw[getElem?_replicate]at a;split at a
  ·exact(oI a).symm
  ·cases a
 have q:∀{i:Nat}{l:List Nat},(List.replicate (2*n+1) ([]:List Nat))[i]?=some l->l=[]:=λ{i l} a=>by
  rw[getElem?_replicate]at a;split at a
  ·exact(oI a).symm
  ·cases a
 refine⟨⟨λr C=>?_,⟨by rw[length_replicate,length_replicate],λi v l o a=>?_,λi j v v' _ o _ k p=>?_,λi v o k p=>?_⟩,d,length_replicate,λr C=>⟨?_,?_⟩,λr F _ _ E=>?_,λk t=>?_⟩,?_,?_,Dn.new M n⟩
 ·have e:((List.replicate (2*n+1) xM).drop (r*n)).take n=List.replicate n xM:=by
   rw[List.drop_replicate,List.take_replicate];congr 1;have:r=0\/r=1:=by omega
   rcases this with rfl|rfl<;>omega
  rw[e];have:r=0\/r=1:=by omega
  unfold Rz;rw[b];rcases this with rfl|rfl
  ·exact x
  ·exact z
 ·rw[f o,q a];exact ie.nil _ _ _
 ·rw[f o]at p;cases p
 ·rw[f o]at p;cases p
 ·unfold usX Rz;rw[b];have:r=0\/r=1:=by omega
  rcases this with rfl|rfl<;>omega
 ·unfold Rz;omega
 ·unfold Rz;omega
 ·unfold usX at t;rw[b]at t;rcases t with rfl|rfl|rfl|rfl
  ·exact d.wf _ _ x
  ·exact d.wf _ _ z
  ·exact d.wf _ _ u
  ·exact d.wf _ _ y
 ·rw[b];show g.get (N+4)=_;rw[u];unfold Rz;rw[b]
 ·rw[b];show g.get (N+5)=_;rw[y];unfold Rz;rw[b]
theorem qG{c:Nat}{L:List Bool}(a:h.get m=some (.cells (L.map Value.bool) 4 1 true))(b:L.length=j){x:Nat}(d:x<j):ai SS.P 68 (.slice (some ⟨m,0,none⟩) j c) (.int .i64 (x:Int))=some (.pointer (some ⟨m,x,none⟩))/\ae SS.P 4 h (.pointer (some ⟨m,x,none⟩))=some (.bool (L.getD x false)):=by
 refine⟨?_,?_⟩
 ·have:=F0 (P:=SS.P) Rb abQ (k:=m) (off:=0) (n:=j) (c:=c) (ik:= .i64) (i:=(x:Int)) (by omega) (by omega);rw[this,toNat_natCast,zero_add,mul_one]
 ·rw[aN un4 ag4 a (by rw[lM];omega),gD,getElem?_map,gD,gE (by omega)];rfl
def aaE(f:aa)(d e n:Nat)(b a:List Bool)(c i:Nat)(g:aa):Prop:=i<=n/\c=n-i/\∃L,BR f d n L g/\g.get e=some (.cells (a.map Value.bool) 4 1 true)/\∀x,L.getD x false=if x<i then(b.getD x false&&a.getD x false)else b.getD x false
theorem DW(w:Wf g){a f n:Nat}{j d:List Bool}{l i:Nat}{r:aa}(h:aaE g a f n j d l i r)(B:d.length=n)(o:f≠a)(y:i<n){b:Bool}(q:b=(j.getD i false&&d.getD i false)):
  ∃u:aY,aj SS.P 4 (.pointer (some ⟨a,i,none⟩)) (.bool b) r=some (undef,u)/\aaE g a f n j d (l-1) (i+1) (u.app r):=by
 obtain⟨F,E,L,m,A,t⟩:=h;obtain⟨C,D,k⟩:=m.get (c:=n) (x:=(i:Int)) (by omega) (by omega);rw[toNat_natCast]at k;obtain⟨u,z,v,s⟩:=k b w;refine⟨u,z,by omega,by omega,_,v,s _ _ A o,λx=>?_⟩;rw[Ly (by rw[m.len];exact y),t x];by_cases e:x=i
 ·subst e;rw[if_pos rfl,if_pos (by omega),q]
 ·rw[if_neg e];by_cases p:x<i
  ·rw[if_pos p,if_pos (by omega)]
  ·rw[if_neg p,if_neg (by omega)]
def uQ(h:aa)(M:aH)(n:Nat):VH:=λv b=>∃a L,v = .slice (some ⟨a,0,none⟩) n n/\BR h a n L b/\∀x,x<n->(L.getD x false=true↔fU M x)
theorem BR.base{a:aa}{L:List Bool}(b:BR g n m L a)(o:Ok h g):BR h n m L a:=⟨b.len,b.row.row,Nat.le_trans o.nx b.row.new,o.trans b.row.ok⟩
variable{i:Nat}{b:Bool}
section
section
variable {h:aa} {M:aH} {a:Option Addr} {n c:Nat}
theorem Et(a:i<M.ak.length):∃s,M.ak[i]?=some s:=⟨_,gE a⟩
theorem OG(d:Good M){y x:Nat}(h:iD M y x):x<M.ak.length:=by
 obtain⟨s,c,a⟩:=h;unfold zl at a;obtain⟨q,b,rfl⟩:=mem_map.1 a;have:=d.an s (List.mem_of_getElem? c) q b;have:=this.t1;have:= ‹HA _ q›.t0;omega
theorem CB{x:Nat}(h:iD M m x):m<M.ak.length:=by
 obtain⟨s,a,b⟩:=h;exact(List.getElem?_eq_some_iff.1 a).1
set_option linter.defProp false in
def Km(B:Wf h){k p:Nat}{E l:List Bool}(F:∀x,E.getD x false=true↔ij (iD M) (λy=>y=M.start.toNat) x)(D:∀x,l.getD x false=true↔ij (λy x=>iD M x y) (PE M) x)(f:l.length=n)(o:p≠k)(O:n<=300)(Q:VH)(J:∀v A,uQ h M n v A->Q v A)(G:List Value):=
 wB G n k p (aaE h k p n E l) Q (by
  intro m i;intros;rename_i g d;have H:=d;obtain⟨S,R,L,q,K,C⟩:=H;refine ah (λj=>?_) (λj=>?_)
  ·have j:=dT j;have a:i<n:=by omega
   obtain⟨N,I⟩:=qG (c:=n) K f a;obtain⟨s,z⟩:=qG (c:=n) q.row.row q.len a;have e:=C i;rw[if_neg (Nat.lt_irrefl i)]at e;rw[e]at z;refine⟨_,N,_,I,_,s,_,z,ah (λt=>?_) (λt=>?_)⟩
   ·obtain⟨u,w,r⟩:=DW B d f o a (b:=l.getD i false) (by rw[t];rfl);refine⟨_,s,u,w,?_⟩;rw[bF a (by omega)];exact cK (m-1) (by omega) r
   ·obtain⟨u,w,r⟩:=DW B d f o a (b:=false) (by rw[t];rfl);refine⟨_,s,u,w,?_⟩;rw[bF a (by omega)];exact cK (m-1) (by omega) r
  ·have j:=dF j;refine J _ _ ⟨k,L,rfl,q,λx P=>?_⟩;rw[C x,if_pos (by omega),Bool.and_eq_true,F,D];exact Iff.rfl)
theorem E7(w:Wf h)(sm:Small M)(O:Good M)(r:ep h (.slice a n c) M.ak):FW SS 96 [.agg ⟨ba M a n c⟩] h (uQ h M n):=by
 obtain⟨T,ok⟩:=oQ w r;have hl:=T.len;have hn:n<=300:=by rw[hl];exact sm.He
 refine RA (ba M a n c) h _ ⟨_,pZ M a n c,_,dp _,_,_,_,T.l3,_,_,_,T6 n (by omega),_,_,_,T6 n (by omega),_,ZZ,_,ZZ,?_⟩;generalize h.push (Bm M a n c)=g0 at*;have Z:=ok.wf;obtain⟨x3,y3,y6,z1,x0⟩:=Hj Z M n;refine⟨x3,y3,y6,z1,?_⟩;have x9:=T.ok x0.us.ok;refine⟨_,dp _,_,_,_,x9.l3,?_⟩;refine wz (ba M a n c) h.next (g0.next+4) (g0.next+5) a n c (adZ g0 M n) (uQ h M n) (λmz i e en ec=>?_) n (i:=0) (e:=none) (en:=0) (ec:=0) ⟨by omega,rfl,_,_,0,x0,?_,?_⟩
 rotate_left
 ·rw[getElem?_replicate,if_pos (by omega)];rfl
 ·rw[drop_zero];have:=sm.tot;omega
 intros;rename_i P hi;obtain⟨f1,f2,vs,F,cN,d,D,z8⟩:=hi;have t:=d.us.ok;refine ah (λJ=>?_) (λJ=>?_)
 ·have J:=dT J;obtain⟨s,E⟩:=Et (M:=M) (i:=i) (by omega);obtain⟨b,o,x',y,z,e1,e2,e3,e4,ar⟩:=T.row.Ky t E;obtain⟨V,l2,l3⟩:=Ap sm E;have f:=ar.len;have hd:iR (M.ak.drop i)=s.an.length+iR (M.ak.drop (i+1)):=by rw[rR E,fz]
  obtain⟨u,p1,p2,p3⟩:=aal t.wf s.f x' y z;refine⟨_,e1,_,e2,_,acC,u,p1,_,pc _ _,_,p3.l0,?_⟩;have U2:=d.us.ext p2;have B4:=d.b4.ok p2;have B5:=d.b5.ok p2;have z9:=d.us.xlt;have y7:=d.us.Kz;have z3:=t.wf;generalize u.app (P.push RU)=g2 at*;refine ah (λB=>?_) (λB=>?_)
  ·have B:s.f≠[]:=by simpa using B
   have C:=(Ok.refl U2.ok.wf).push (.cells [.int .i64 (i:Int)] 3 1 true);have kp:=aI g2 (.cells [.int .i64 (i:Int)] 3 1 true);have A:=U2.ext C;obtain⟨p,m⟩:∃p,F[2*n]?=some p:=⟨_,gE (by rw[d.us.len];omega)⟩
   have x2:=d.dn.ln p (List.mem_of_getElem? m);obtain⟨b',n',c',y5,x4,z7,y9,z2,N,x5⟩:=A.Kz.snoc Z A.ok A.xlt D m kp (by omega);have nX:∀k,usX g0 k->bE (.slice e en ec)≠some k:=λk hX e'=>A.Kz.out _ _ D k e' hX;have U4:=A.tail rfl rfl y9 z2 (λj' B' hj hX=>N j' B' hj (nX j' hX)) x5;have RU:=N _ _ (B4.ok C) (nX _ (.inr (.inr (.inl rfl))));have y2:=N _ _ (B5.ok C) (nX _ (.inr (.inr (.inr rfl))));have S4:=N _ _ (p3.ok C) (λe'=>by have:=y7.lt z3 D e';omega);refine⟨_,_,_,tH _,b',n',c',y5,x4,_,fL _ _,_,_,_,SB.l1 S4,?_⟩;have z4:(vs.length)=2*n+1:=by rw[d.us.Kz.len];exact d.us.len
   exact Kl Z O hl hn E (by omega) ar V [] b' n' c' mz f2 _ y (j:=0) ⟨by omega,by omega,_,_,cN+1,⟨U4,RU,y2,d.dn.fin (by omega) E B m⟩,by rw[getElem?_set,if_pos rfl,if_pos (by omega)],by omega⟩
  ·have B:s.f=[]:=by simpa using B
   refine⟨_,fL _ _,_,_,_,p3.l1,?_⟩;exact Kl Z O hl hn E (by omega) ar V [] e en ec mz f2 _ y (j:=0) ⟨by omega,by omega,vs,F,cN+1,⟨U2,B4,B5,d.dn.adt E B⟩,D,by omega⟩
 ·have J:=dF J;obtain rfl:n=i:=by omega
  have y0:=T.ok t;have z6:=O.nR;have z5:=O.rB;obtain⟨S,hS⟩:∃S:Nat,M.start=(S:Int):=⟨M.start.toNat,by omega⟩
  have u0:S<n:=by omega
  have x6:M.start.toNat=S:=by omega
  have V:=y0.l1;rw[hS]at V;have C:=(Ok.refl t.wf).push (.cells [.int .i64 (S:Int)] 3 1 true);have kp:=aI P (.cells [.int .i64 (S:Int)] 3 1 true);refine⟨_,pb _,_,V,_,_,_,tH _,?_⟩;have A:=d.us.ext C;have B4:=d.b4.ok C;have B5:=d.b5.ok C;have rf:Rd (P.push (.cells [.int .i64 (S:Int)] 3 1 true)) 3 (.slice (some ⟨P.next,0,none⟩) 1 1) ([S].map iv):= .inr ⟨P.next,0,_,1,true,rfl,kp,rfl⟩;have x1:=ok.trans (t.trans C);generalize P.push (.cells [.int .i64 (S:Int)] 3 1 true)=h1 at*;have w1:=x1.wf;have I:=A.adj (r:=0) (by omega);have H:=A.adj (r:=1) (by omega);have X:∀{y:Nat}{l:List Nat},((F.drop (0*n)).take n)[y]?=some l->y<n/\l.length<=2300/\∀x,x∈l↔iD M y x:=λ{y l} f=>by
   rw[List.getElem?_take]at f;split at f
   ·next q=>
    rw[List.getElem?_drop]at f;refine⟨q,by have:=d.dn.ln l (List.mem_of_getElem? f);omega,λx=>?_⟩;rw[d.dn.fw y l q f x,oy];exact⟨λc=>c.2,λc=>⟨q,c⟩⟩
   ·cases f
  have Y:∀{y:Nat}{l:List Nat},((F.drop (1*n)).take n)[y]?=some l->y<n/\l.length<=2300/\∀x,x∈l↔iD M x y:=λ{y l} f=>by
   rw[List.getElem?_take]at f;split at f
   ·next q=>
    rw[List.getElem?_drop]at f;refine⟨q,by have:=d.dn.ln l (List.mem_of_getElem? f);omega,λx=>?_⟩;rw[d.dn.bk y l q f x,oy];exact⟨λc=>c.2,λc=>⟨by rw[hl];exact CB c,c⟩⟩
   ·cases f
  have x8:∀y x,Da ((F.drop (0*n)).take n) y x↔iD M y x:=λy x=>by
   unfold Da;rw[gD]
   cases U:((F.drop (0*n)).take n)[y]? with
   |some l=>exact(X U).2.2 x
   |none=>
    refine⟨λc=>(by cases c),λc=>?_⟩;have:=CB c;rw[List.getElem?_eq_none_iff,I.1]at U;omega
  have x7:∀y x,Da ((F.drop (1*n)).take n) y x↔iD M x y:=λy x=>by
   unfold Da;rw[gD]
   cases U:((F.drop (1*n)).take n)[y]? with
   |some l=>exact(Y U).2.2 x
   |none=>
    refine⟨λc=>(by cases c),λc=>?_⟩;have:=OG O c;rw[List.getElem?_eq_none_iff,H.1]at U;omega
  obtain⟨p,m⟩:∃p,F[2*n]?=some p:=⟨_,gE (by rw[d.us.len];omega)⟩
  have x2:=d.dn.ln p (List.mem_of_getElem? m);have y8:Rd h1 3 (.slice e en ec) (p.map iv):=(A.Kz.own _ _ _ D m).rd;have R:∀x,x∈p↔PE M x:=λx=>by
   rw[d.dn.en p m x];refine⟨λc=>c.2,λc=>⟨?_,c⟩⟩;obtain⟨s,h2,_⟩:=c;have:=(List.getElem?_eq_some_iff.1 h2).1;omega
  refine(ET w1 (by omega) I.1 (λl g x G=>?_) (λl g=>?_) (Uh w1 B4 I) rf (λx G=>?_) (by simp)).mono ?_
  ·obtain⟨y,f⟩:=List.mem_iff_getElem?.1 g;have:=OG O ((X f).2.2 x |>.1 G);omega
  ·obtain⟨y,f⟩:=List.mem_iff_getElem?.1 g;have:=(X f).2.1;omega
  ·rw[mem_singleton]at G;omega
  rintro _ g3 ⟨kl,L1,rfl,Q,z0⟩;refine⟨_,_,_,rfl,?_⟩;have W:=Q.row.ok;refine(ET W.wf (by omega) H.1 (λl g x G=>?_) (λl g=>?_) (Uj W.wf (B5.ok W) (H.ok W)) (y8.ok W) (λx G=>?_) (by omega)).mono ?_
  ·obtain⟨y,f⟩:=List.mem_iff_getElem?.1 g;have:=CB ((Y f).2.2 x |>.1 G);omega
  ·obtain⟨y,f⟩:=List.mem_iff_getElem?.1 g;have:=(Y f).2.1;omega
  ·obtain⟨s,h2,_⟩:=(R x).1 G;have:=(List.getElem?_eq_some_iff.1 h2).1;omega
  rintro _ g4 ⟨kr,L2,rfl,K,y1⟩;refine⟨_,_,_,rfl,?_⟩;have y4:kr≠kl:=by have:=Q.row.lt;have:=K.row.new;omega
  have J:∀x,L1.getD x false=true↔ij (iD M) (λy=>y=M.start.toNat) x:=λx=>by
   rw[z0 x];exact EH x8 (λx=>by rw[mem_singleton,x6]) x
  have B:∀x,L2.getD x false=true↔ij (λy x=>iD M x y) (PE M) x:=λx=>by
   rw[y1 x];exact EH x7 R x
  exact Km (n:=n) w1 J B K.len y4 hn (uQ h M n) (λv g' ⟨k1,L,e1,e2,e3⟩=>⟨k1,L,e1,e2.base x1,e3⟩) (ba M a n c) n (i:=0) ⟨by omega,rfl,L1,Q.trans K.row.ok,K.row.row,λx=>by rw[if_neg (not_lt_zero _)]⟩
noncomputable def A9(M:aH):Bool:=cn M && !(@decide (fU M M.start.toNat) (Classical.propDecidable _))
theorem H4{p:Prop}(h:b=true↔p):b=@decide p (Classical.propDecidable _):=by
 cases b with
 |true=>exact(@decide_eq_true p (Classical.propDecidable _) (h.1 rfl)).symm
 |false=>exact(@decide_eq_false p (Classical.propDecidable _) (λc=>by cases h.2 c)).symm
theorem Er(A:sO h)(w:Wf h)(k:Small M)(r:ep h (.slice a n c) M.ak):FW SS 104 [.agg ⟨ba M a n c⟩] h (λv z=>v = .bool (A9 M)/\Ok h z):=by
 obtain⟨u,p⟩:=oQ w r;refine Qc (ba M a n c) h _ ⟨_,pZ M a n c,?_⟩;generalize h.push (Bm M a n c)=g at*;have o:=(Ok.refl p.wf).room 12;have d:=u.ok o;have e:=p.trans o;refine⟨_,d.all,(xJ (A.ok e) e.wf k d.row).mono ?_⟩;rintro _ C ⟨rfl,m⟩;have f:=e.trans m;have b:=d.ok m;refine⟨_,rfl,ah (λq=>?_) (λq=>⟨?_,f⟩)⟩
 rotate_left
 ·unfold A9;rw[q];rfl
 have j:=rE q;have D:=b.len;have F:=j.nR;have E:=j.rB;refine⟨_,b.all,(E7 f.wf k j b.row).mono ?_⟩;rintro _ G ⟨B,L,rfl,i,t⟩;have l:=b.ok i.row.ok;obtain⟨s,y⟩:=qG (c:=n) i.row.row i.len (x:=M.start.toNat) (by omega);rw[show((M.start.toNat:Nat):Int)=M.start by omega]at s;refine⟨_,_,_,rfl,_,pb _,_,l.l1,_,s,_,y,⟨b.l1,OR _⟩,?_,f.trans i.row.ok⟩;unfold A9;rw[q,Bool.true_and,H4 (t M.start.toNat (by omega))]
end
end
section
section
variable {h:aa} {M:aH} {a:Option Addr} {n c:Nat}
theorem Kn(r:ep g (.slice a n c) M.ak):cZ 4 (.agg ⟨ba M a n c⟩) (.agg ⟨ba M a n c⟩)=true:=by
 obtain⟨h,j,⟨_,⟨b|b,_⟩|⟨k,e,cs,i,z,f,l,b,_⟩⟩,_,d⟩:=r
 ·rw[show ba M a n c=[.int .i64 M.kind,.int .i64 M.start,strOf M.lead,.slice none 0 0] by unfold ba;rw[b]];simp[cZ,yN,strOf]
 ·exact absurd b d
 ·rw[show ba M a n c=[.int .i64 M.kind,.int .i64 M.start,strOf M.lead,.slice (some ⟨k,e,none⟩) (h.map jd).length f] by unfold ba;rw[b]];simp[cZ,yN,strOf]
end
end
variable{T:TypeId}
section
noncomputable def abD:TypeInfo:=(dG SS.P 46).getD default
theorem GS:dG SS.P 46=some abD:=by kernel_rfl
theorem xX:abD.size=4:=by kernel_rfl
theorem uc:abD.bytes=40:=by kernel_rfl
theorem ab0:bZ SS.P 42=true:=by kernel_rfl
theorem aeu(q:cq):az SS.P 42 1 [(0,.agg ⟨dk q⟩)]=some (.cells (dk q) 46 4 true,jc 1 1):=by kernel_rfl
theorem Hc{l:List (eC×Value)}:∀r∈l.map jd,r.length=2:=λr a=>by
 obtain⟨q,_,rfl⟩:=mem_map.1 a;rfl
theorem rL:∀l:List cq,(l.map dk).flatten.all bc=true
 |[]=>rfl
 |q::l=>by rw[List.map_cons,flatten_cons,List.all_append,rL l];rfl
structure iq(h0 h:aa)(v:Value)(ps:List (eC×Value)):Prop where
 row:cT h0 h 44 2 v (ps.map jd)
 an:∀(i:Nat)(p:eC×Value),ps[i]?=some p->cT h0 h 46 4 p.2 (p.1.an.map dk)
 ne:∀(i:Nat)(p:eC×Value),ps[i]?=some p->∀k,bE p.2=some k->bE v≠some k
 Lj:∀(i j:Nat)(p q:eC×Value),i≠j->ps[i]?=some p->ps[j]?=some q->∀k,bE p.2=some k->bE q.2≠some k
section
variable {hb g g':aa} {v:Value} {ps:List (eC×Value)}
theorem iq.ok(m:iq hb g v ps)(o:Ok g g'):iq hb g' v ps:=⟨m.row.ok o,λi p a=>(m.an i p a).ok o,m.ne,m.Lj⟩
theorem iq.nd(m:iq hb g v ps):v≠sV:=by
 obtain⟨_,⟨a,_⟩|⟨k,b,cs,c,a,_⟩⟩:=m.row
 ·rw[a];intro e;unfold sV at e;injection e with e _ _;cases e
 ·rw[a];intro e;unfold sV at e;injection e with e _ _;injection e with e;injection e with _ _ e;cases e
theorem iq.st(m:iq hb g v ps):ep g v (ps.map (·.1)):=
 ⟨ps,rfl,m.row.rd,λp b=>by
  obtain⟨i,a,e⟩:=List.mem_iff_getElem.1 b;exact(m.an i p (by rw[gE a,e])).rd,m.nd⟩
theorem iq.nil(hb g:aa):iq hb g (.slice none 0 0) []:=⟨cT.nil _ _ _ _,λi p a=>by simp at a,λi p a=>by simp at a,λi j p q _ a=>by simp at a⟩
theorem Hb{cs:List Value}{z:Nat}(a:g.get n=some (.cells cs T z b))(c:cs.length=m):cI g m (.slice (some ⟨n,0,none⟩) 1 1)=some (([cs]:List (List Value)).flatten,1):=by
 show(match g.get n with|some (.cells cs ..)=>if((cs.drop 0).take (1*m)).length=1*m then some ((cs.drop 0).take (1*m),1)else none|_=>none)=_;rw[a];dsimp only;rw[drop_zero,one_mul,take_of_length_le (by omega),if_pos c];simp
theorem Si(w:Wf hb)(m:Ok hb g){x:Value}{a:List cq}(k:cT hb g 46 4 x (a.map dk)){q:cq}{f:Nat}(e:g.get f=some (.cells (dk q) 46 4 true))(p:a.length<=100000):
  ∃(b:Option Addr)(n c:Nat)(u:aY),aE SS.P 42 42 x (.slice (some ⟨f,0,none⟩) 1 1) g=some (.slice b n c,u)/\cT hb (u.app g) 46 4 (.slice b n c) ((a++[q]).map dk)/\Ok hb (u.app g)/\
   (∀j B,g.get j=some B->bE x≠some j->(u.app g).get j=some B)/\(∀j,bE (.slice b n c)=some j->g.next<=j\/bE x=some j)/\g.next<=(u.app g).next:=by
 have d:(a.map dk).length=a.length:=lM ..;obtain⟨b,n,c,u,i,s,h,l⟩:=cT.add zQ GS xX ab0 w m k (ns:=[dk q]) (Hb e rfl) (λr o=>by rw[mem_singleton.1 o];rfl) rfl (by rw[uc,d,length_singleton];omega) (by rw[d,length_singleton];omega) (.inl (Nat.le_refl _));exact⟨b,n,c,u,i,by rw[map_append];exact h,l⟩
end
end
section
section
variable {hb g g':aa} {k off n c:Nat} {ps:List (eC×Value)}
theorem BQ{ps:List (eC×Value)}(p:eC×Value):(ps.set i p).map jd=(ps.map jd).set i (jd p):=by rw[map_set]
theorem iq.abI(w:Wf hb)(K:Ok hb g)(m:iq hb g (.slice (some ⟨k,off,none⟩) n c) ps){i:Nat}{p:eC×Value}(C:ps[i]?=some p)(f:List UInt8):
  ∃u:aY,aj SS.P 9 (.pointer (some ⟨k,off+i*2+0,none⟩)) (strOf f) g=some (undef,u)/\iq hb (u.app g) (.slice (some ⟨k,off,none⟩) n c) (ps.set i (⟨f,p.1.an⟩,p.2))/\Ok hb (u.app g)/\(∀j B,g.get j=some B->k≠j->(u.app g).get j=some B)/\(u.app g).next=g.next:=by
 obtain⟨u,H,I,F,A,M⟩:=m.row.put (e:=44) (t':=9) (by kernel_rfl) w K (i:=i) (j:=0) (r:=jd p) (by rw[getElem?_map,C];rfl) (by omega) (v':=strOf f) rfl rfl;have h:∀{j:Nat}{q:eC×Value},(ps.set i (⟨f,p.1.an⟩,p.2))[j]?=some q->∃d,ps[j]?=some d/\q.2=d.2/\q.1.an=d.1.an:=λ{j q} b=>by
  rw[getElem?_set]at b;split at b
  ·next e=>
   subst e;split at b
   ·obtain rfl:=oI b;exact⟨p,C,rfl,rfl⟩
   ·cases b
  ·exact⟨q,b,rfl,rfl⟩
 refine⟨u,H,⟨by rw[BQ];exact I,λj q b=>?_,λj q b l a=>?_,λG N Q O z v D l a=>?_⟩,F,A,M⟩
 ·obtain⟨d,o,s,t⟩:=h b;rw[s,t];exact(m.an j d o).jb λl B a E=>A l B E (λe=>m.ne j d o l a (by rw[<-e];rfl))
 ·obtain⟨d,o,s,t⟩:=h b;rw[s]at a;exact m.ne j d o l a
 ·obtain⟨x,o,s,t⟩:=h v;obtain⟨y,J,L,P⟩:=h D;rw[s]at a;rw[L];exact m.Lj G N x y z o J l a
theorem iq.adJ(w:Wf hb)(I:Ok hb g')(m:iq hb g (.slice (some ⟨k,off,none⟩) n c) ps){i:Nat}{p:eC×Value}(v:ps[i]?=some p)(H:∀j B,g.get j=some B->bE p.2≠some j->g'.get j=some B){b:Option Addr}{o l:Nat}{s:List cq}(Y:cT hb g' 46 4 (.slice b o l) (s.map dk))(L:∀j,bE (.slice b o l)=some j->g.next<=j\/bE p.2=some j)(J:Wf g):
  ∃u:aY,aj SS.P 42 (.pointer (some ⟨k,off+i*2+1,none⟩)) (.slice b o l) g'=some (undef,u)/\iq hb (u.app g') (.slice (some ⟨k,off,none⟩) n c) (ps.set i (⟨p.1.f,s⟩,.slice b o l))/\Ok hb (u.app g')/\(∀j B,g'.get j=some B->k≠j->(u.app g').get j=some B)/\(u.app g').next=g'.next:=by
 have P:bE p.2≠some k:=λe=>m.ne i p v k e rfl;have D:cT hb g' 44 2 (.slice (some ⟨k,off,none⟩) n c) (ps.map jd):=m.row.jb λd B a y=>H d B y (λe=>m.ne i p v d e a);obtain⟨u,U,W,R,E,h5⟩:=D.put (e:=44) (t':=42) (by kernel_rfl) w I (i:=i) (j:=1) (r:=jd p) (by rw[getElem?_map,v];rfl) (by omega) (v':= .slice b o l) (aS ..) (by cases b<;>rfl);have x0:i<ps.length:=(List.getElem?_eq_some_iff.1 v).1;have C:bE (.slice b o l)≠some k:=λe=>by
  rcases L k e with h|h
  ·have:=(m.row.lt J (k:=k) rfl).1;omega
  ·exact P h
 have t:∀{j:Nat}{q:eC×Value},(ps.set i (⟨p.1.f,s⟩,.slice b o l))[j]?=some q->(j=i/\q=(⟨p.1.f,s⟩,.slice b o l))\/(j≠i/\ps[j]?=some q):=λ{j q} f=>by
  rcases br f with⟨e,F⟩|⟨e,f⟩
  ·exact .inl ⟨e,F⟩
  ·exact .inr ⟨e,f⟩
 have z:∀{j:Nat}{q:eC×Value},j≠i->ps[j]?=some q->∀d,bE q.2=some d->bE (.slice b o l)≠some d:=λ{j q} x f d a e=>by
  rcases L d e with h|h
  ·have:=((m.an j q f).lt J a).1;omega
  ·exact m.Lj j i q p x f v d a h
 refine⟨u,U,⟨by rw[BQ];exact W,λj q f=>?_,λj q f d a=>?_,λS j2 Z T A G N d a=>?_⟩,R,E,h5⟩
 ·rcases t f with⟨rfl,rfl⟩|⟨x,f⟩
  ·exact Y.jb λd B a y=>E d B y (λe=>C (by rw[e];exact a))
  ·exact(m.an j q f).jb λd B a y=>E d B (H d B y (λe=>m.Lj j i q p x f v d a e)) (λe=>m.ne j q f d a (by rw[<-e];rfl))
 ·rcases t f with⟨rfl,rfl⟩|⟨x,f⟩
  ·exact λe=>C (by rw[a,<-e];rfl)
  ·exact m.ne j q f d a
 ·rcases t G with⟨Q,F⟩|⟨x,O⟩<;>rcases t N with⟨V,X⟩|⟨M,K⟩
  ·exact absurd (Q.trans V.symm) A
  ·rw[F]at a;exact λe=>z M K d e a
  ·rw[X];exact z x O d a
  ·exact m.Lj S j2 Z T A O K d a
theorem iq.at_(m:iq hb g (.slice (some ⟨k,off,none⟩) n c) ps){i:Nat}{p:eC×Value}(e:ps[i]?=some p):
  ai SS.P 22 (.slice (some ⟨k,off,none⟩) n c) (.int .i64 (i:Int))=some (.pointer (some ⟨k,off+i*2,none⟩))/\ae SS.P 42 g (.pointer (some ⟨k,off+i*2+1,none⟩))=some p.2/\ae SS.P 44 g (.pointer (some ⟨k,off+i*2,none⟩))=some (.agg ⟨jd p⟩):=by
 obtain⟨b,d,a⟩:=m.row.at_ rz Ka (i:=i) (r:=jd p) (by rw[getElem?_map,e];rfl) .i64;exact⟨b,by rw[d 42 _ 1 zQ WN (by omega)];rfl,a _ ad6 acp⟩
end
noncomputable def abX:TypeInfo:=(SS.P.info? 44).getD default
theorem Zw:SS.P.info? 44=some abX:=by kernel_rfl
theorem Rr:abX.size=2:=by kernel_rfl
theorem M8:abX.bytes=40:=by kernel_rfl
def Aq:eC×Value:=(⟨[],[]⟩,.slice none 0 0)
theorem ace:zeroOf SS.P 44=some (.agg ⟨jd Aq⟩):=by kernel_rfl
theorem abi(n:Nat)(a:n<=100000):aR SS.P 22 (.int .i64 (n:Int)) (.int .i64 (n:Int))=some (.cells ((List.replicate n Aq).map jd).flatten 44 2 true,jc n n):=by
 unfold aR aT;dsimp only;rw[rz]
 try dsimp only
 change (match SS.P.info? 44,zeroOf SS.P 44 with
  |some i,some z=>(if z.cells.size=i.size/\0<i.size/\(0:Int)<=(n:Int)/\(n:Int)<=(n:Int)/\(n:Int)*i.bytes<=140737488355328/\(n:Int)<=1099511627776 then some (bw.cells (bG z.cells.toList (n:Int).toNat) 44 i.size true,λk=>Value.slice (some ⟨k,0,none⟩) (n:Int).toNat (n:Int).toNat)else none)
  |_,_=>none)=_
 rw[Zw,ace];dsimp only;rw[Rr,M8,if_pos ⟨rfl,by omega,by omega,Int.le_refl _,by omega,by omega⟩];have e:((n:Int)).toNat=n:=by omega
 rw[e,show(Value.agg ⟨jd Aq⟩).cells.toList=jd Aq from rfl,pR,map_replicate];rfl
theorem iq.made{hb g:aa}{k n:Nat}(h:g.get k=some (.cells ((List.replicate n Aq).map jd).flatten 44 2 true))(e:hb.next<=k)(l:n<=100000):iq hb g (.slice (some ⟨k,0,none⟩) n n) (List.replicate n Aq):=by
 have c:∀{i:Nat}{p:eC×Value},(List.replicate n Aq)[i]?=some p->p=Aq:=λ{i p} a=>by
  rw[getElem?_replicate]at a;split at a
  ·exact(oI a).symm
  ·cases a
 have d:((List.replicate n Aq).map jd).length=n:=by simp
 have:=cT.made (h0:=hb) h Hc e (by rw[d];unfold ca;omega);rw[d]at this;exact⟨this,λi p a=>(by rw[c a];exact cT.nil _ _ _ _),λi p a f b=>(by rw[c a]at b;cases b),λi j p q _ a m f b=>(by rw[c a]at b;cases b)⟩
def eP:List Nat->Nat->Nat->Int
 |[],_,_=> -1
 |o::r,i,x=>if o=x then(i:Int)else eP r (i+1) x
theorem Ex:∀(l:List Nat)(i o x:Nat),o∉l->eP (l++[o]) i x=if x=o then((i+l.length:Nat):Int)else eP l i x
 |[],i,o,x,_=>by
  show(if o=x then(i:Int)else -1)=if x=o then((i+0:Nat):Int)else -1;by_cases h:x=o
  ·rw[if_pos h,if_pos h.symm];rfl
  ·rw[if_neg h,if_neg (λe=>h e.symm)]
 |y::l,i,o,x,a=>by
  have b:¬o=y:=λe=>a (e▸mem_cons_self ..);have c:=Ex l (i+1) o x (λh=>a (List.mem_cons_of_mem _ h));show(if y=x then(i:Int)else eP (l++[o]) (i+1) x)=if x=o then _ else(if y=x then(i:Int)else eP l (i+1) x);rw[c,length_cons];by_cases h:x=o
  ·rw[if_pos h,if_pos h,if_neg (by rw[h];exact λe=>b e.symm)];congr 1;omega
  ·rw[if_neg h,if_neg h]
theorem ou:∀(l:List Nat)(i x:Nat),eP l i x = -1\/((i:Int)<=eP l i x/\eP l i x<((i+l.length:Nat):Int))
 |[],i,x=> .inl rfl
 | o::l,i,x=>by
  unfold eP;split
  ·right;rw[length_cons];omega
  ·rcases ou l (i+1) x with h|h
   ·exact .inl h
   ·right;rw[length_cons];omega
theorem Jm:∀(l:List Nat)(i x:Nat),eP l i x≠ -1↔x∈l
 |[],i,x=>by simp[eP]
 | o::l,i,x=>by
  unfold eP;split
  ·next h=>exact⟨λ_=>h▸mem_cons_self ..,λ_=>by omega⟩
  ·next h=>
   rw[Jm l (i+1) x];exact⟨λa=>List.mem_cons_of_mem _ a,λa=>(mem_cons.1 a).resolve_left λe=>h e.symm⟩
def fR(a:List Nat)(q:cq):Option cq:=if eP a 0 q.t.toNat = -1 then none else some ⟨q.i,q.o,q.w,eP a 0 q.t.toNat⟩
def qg(M:aH)(a:List Nat)(s:Nat):eC:=⟨(M.ak.getD s ⟨[],[]⟩).f,(M.ak.getD s ⟨[],[]⟩).an.filterMap (fR a)⟩
def ig(M:aH)(a:List Nat):aH:=⟨M.kind,eP a 0 M.start.toNat,M.lead,a.map (qg M a)⟩
def YR(h:aa)(M:aH):VH:=λv b=>∃(a:Option Addr)(n c:Nat)(ps:List (eC×Value)),v = .agg ⟨ba M a n c⟩/\ps.map (·.1)=M.ak/\iq h b (.slice a n c) ps/\Ok h b
structure AH(N:Nat)(ord:List Nat):Prop where
 lt:∀x∈ord,x<N
 nd:ord.Nodup
end
noncomputable def LO:FD:=ei Tryz.f97 []
theorem I5(a:Int)(h:aa)(Q:VH)(l:xN (aA SS.P 24) h λr b=>aQ (decide ((a:Int)<1)) (xA (aD SS.P 24 []) λm=>xU (aj SS.P 24 (pA (h.next)) (.agg ⟨m⟩) b) b λs p=>di SS [((pA (h.next)),some 24),((.int .i64 1),none)] p Q) (aQ (decide ((a:Int)>3)) (xA (aD SS.P 24 []) λn=>xU (aj SS.P 24 (pA (h.next)) (.agg ⟨n⟩) b) b λt k=>di SS [((pA (h.next)),some 24),((.int .i64 1),none)] k Q) (FW SS 24 [(.int .i64 a)] (room b 7) λo d=>yS o λj=>zR (aR SS.P 22 (.int .i64 1) (.int .i64 1)) λc e f=>xA (aD SS.P 24 [(0,(.int .i64 a)),(2,(strOf j)),(3,(sA (b.next+3) e f))]) λi=>xU (aj SS.P 24 (pA (h.next)) (.agg ⟨i⟩) (av d b.next [(3,c)])) (av d b.next [(3,c)]) λq g=>di SS [((pA (h.next)),some 24),((.int .i64 0),none)] g Q))):FW SS 97 [(.int .i64 a)] h Q:=eu LO Tryz.func97 (ax l)
noncomputable def abG:FD:=ei Tryz.f24 []
theorem Ze(a:Int)(h:aa)(Q:VH)(g:FW SS 67 [(.int .i64 a)] h λj c=>∃b:LV,∃i:Bool,j=(.tuple ⟨[(.agg ⟨b⟩),(.bool i)]⟩)/\xN (aA SS.P 100) c λm f=>xU (aj SS.P 100 (pA (c.next)) (.agg ⟨b⟩) f) f λl d=>xP (af SS.P 100 (pA (c.next)) 1) λk=>xS (ae SS.P 9 d (.pointer (some k))) λe=>Q (strOf e) d):FW SS 24 [(.int .i64 a)] h Q:=eu abG Tryz.func24 (ax g)
noncomputable def aaH:FD:=ei Tryz.f164 []
theorem WX(x y:Int)(h:aa)(Q:VH)(c:FW SS 197 [(.int .u64 x),(.int .u64 y)] h λe d=>∃a:Int,∃b:Int,e=(.tuple ⟨[(.int .u64 a),(.int .u64 b)]⟩)/\Q (.tuple ⟨[(.int .u64 a),(.int .u64 b)]⟩) d):FW SS 164 [(.int .u64 x),(.int .u64 y)] h Q:=eu aaH Tryz.func164 (ax c)
noncomputable def iC:FD:=ei Tryz.f135 [([1,1,1,1,1,1,0,0,0],[7,8])]
abbrev mM(e:OA)(a b:Nat)(j:Int):LV:=[(.slice e a b),(.int .i64 j)]
theorem Q4(a:OA)(n c:Nat)(x:Int)(h:aa)(Q:VH)(l:aQ (decide ((x:Int)<0)) (False) (FW SS 164 [(.int .u64 (wrap .u64 (n:Int))),(.int .u64 (wrap .u64 x))] h λm d=>∃e:Int,∃b:Int,m=(.tuple ⟨[(.int .u64 e),(.int .u64 b)]⟩)/\aQ (decide ((e:Int)>0)) (False) (aQ (decide ((b:Int)>9223372036854775807)) (False) (xR (aR SS.P 27 (.int .i64 (wrap .i64 b)) (.int .i64 (wrap .i64 b))) d λp i f g=>xC (copyV SS.P 27 (sA (d.next) i f) (.slice a n c) g) g λk o j=>LL SS iC [1,1,1,1,1,1,0,0,0] [(sA (d.next) i f),(.int .i64 k)] j (KK SS iC [1,1,1,1,1,1,0,0] [] (EE SS iC Q)))))):FW SS 135 [(.slice a n c),(.int .i64 x)] h Q:=eu iC Tryz.func135 (ax l)
theorem we(a:OA)(n c:Nat)(x:Int)(e:OA)(b f:Nat)(g:Nat->Int->aa->Prop)(Q:VH)(step:∀(d:Nat) (j:Int) (r:Nat->Value) (h:aa),g d j h->aQ (decide ((j:Int)<(b:Int))) (xL (bm SS.P 27 (.slice e b f) (some (.int .i64 j)) none none (room h 10)) λl p s=>xL (bm SS.P 27 (.slice e b f) none (some (.int .i64 j)) none (room h 10)) λm o k=>xC (copyV SS.P 27 (.slice l p s) (.slice m o k) (room h 10)) (room h 10) λq u t=>aJ (fB (mM e b f) g) d [(.slice e b f),(.int .i64 (wrap .i64 (j+q)))] t) (Q (.slice e b f) h))(d:Nat){j:Int}{h:aa}(i:g d j h):LL SS iC [1,1,1,1,1,1,0,0,0] (mM e b f j) h (KK SS iC [1,1,1,1,1,1,0,0] [] (EE SS iC Q)):=
 dQ (mM e b f) g (λd j r h i=>ax (step d j r h i)) d i
noncomputable def ey:FD:=ei Tryz.f98 [([1,1,0,1,0,0],[1,2,4,5,19,20,21]),([1,1,1,1,0,1,0,0],[2,4,5,8,44,45,46]),([1,1,1,1,0,1,0,0,1,1,0,0,1,1,1,1,0,0],[2,4,5,8,11,44,45,46,69,70,71])]
abbrev lR(a:OA)(n c k f:Nat)(e:OA)(b d:Nat)(i:Nat):LV:=[(.slice a n c),(pA k),(pA f),(.slice e b d),(.slice a n c),(iA n),(iA i)]
abbrev ia(a:OA)(n c k g b:Nat)(e:OA)(d f:Nat)(i:Nat):LV:=[(pA k),(pA g),(.slice e d f),(pA b),(.slice a n c),(iA n),(iA i)]
abbrev lT(a:OA)(n c k o f p l:Nat)(e:OA)(g h:Nat)(b:OA)(m d i:Nat)(j:Nat):LV:=[(pA k),(pA o),(.slice e g h),(pA f),(.pointer (some ⟨p,l,none⟩)),(.slice a n c),(iA n),(iA i),(.slice b m d),(iA m),(iA j)]
theorem Yy(d:LV)(a:OA)(n c:Nat)(h:aa)(Q:VH)(p:xN (dK SS.P 24 (.agg ⟨d⟩)) h λu f=>xN (aA SS.P 24) f λv i=>xR (az SS.P 27 1 [(0,(.int .i64 (-1)))]) i λw q o j=>xP (af SS.P 24 (pA (h.next)) 3) λr=>xL (ae SS.P 22 j (.pointer (some r))) λs k t=>FW SS 135 [(sA (i.next) q o),(iA k)] j λl m=>yL l λe g b=>LL SS ey [1,1,0,1,0,0] (lR a n c (h.next) (f.next) e g b 0) m (KK SS ey [1,1,0,1,0] [] (EE SS ey Q))):FW SS 98 [(.agg ⟨d⟩),(.slice a n c)] h Q:=eu ey Tryz.func98 (ax p)
theorem zI(I:LV)(a:OA)(n c:Nat)(k j:Nat)(e:OA)(d f:Nat)(g:Nat->Nat->aa->Prop)(Q:VH)(step:∀(b:Nat) (i:Nat) (w:Nat->Value) (h:aa),g b i h->aQ (decide (((i:Int):Int)<(n:Int))) (xP (ai SS.P 27 (.slice a n c) (iA i)) λz=>xI .i64 (ae SS.P 3 h (.pointer (some z))) λu=>xP (ai SS.P 27 (.slice e d f) (.int .i64 u)) λx=>xU (aj SS.P 3 (.pointer (some x)) (iA i) h) h λG q=>aJ (fB (lR a n c k j e d f) g) b [(.slice a n c),(pA k),(pA j),(.slice e d f),(.slice a n c),(iA n),(.int .i64 (wrap .i64 ((i:Int)+1)))] q) (xP (af SS.P 24 (pA k) 0) λp=>xI .i64 (ae SS.P 3 (room h 15) (.pointer (some p))) λr=>xP (af SS.P 24 (pA k) 1) λs=>xI .i64 (ae SS.P 3 (room h 15) (.pointer (some s))) λB=>xP (ai SS.P 27 (.slice e d f) (.int .i64 B)) λC=>xI .i64 (ae SS.P 3 (room h 15) (.pointer (some C))) λy=>xP (af SS.P 24 (pA k) 2) λE=>xS (ae SS.P 9 (room h 15) (.pointer (some E))) λv=>zR (aR SS.P 22 (iA n) (iA n)) λm F A=>xA (aD SS.P 24 [(0,(.int .i64 r)),(1,(.int .i64 y)),(2,(strOf v)),(3,(sA (h.next+11) F A))]) λt=>zN (aA SS.P 24) λl=>xU (aj SS.P 24 (pA (h.next+13)) (.agg ⟨t⟩) (av (room h 15) h.next [(13,l),(11,m)])) (av (room h 15) h.next [(13,l),(11,m)]) λH D=>LL SS ey [1,1,1,1,0,1,0,0] (ia a n c k j (h.next+13) e d f 0) D (KK SS ey [1,1,1,1,0,1,0] [] (EE SS ey Q))))(b:Nat){i:Nat}{h:aa}(o:g b i h):LL SS ey [1,1,0,1,0,0] (lR a n c k j e d f i) h (KK SS ey [1,1,0,1,0] [] (EE SS ey Q)):=
 dQ (lR a n c k j e d f) g (λb i w h o=>ax (step b i w h o)) b o
theorem zJ(T:LV)(a:OA)(n c:Nat)(k g f:Nat)(e:OA)(l m:Nat)(d:Nat->Nat->aa->Prop)(Q:VH)(step:∀(b:Nat) (i:Nat) (H:Nat->Value) (h:aa),d b i h->aQ (decide (((i:Int):Int)<(n:Int))) (xP (ai SS.P 27 (.slice a n c) (iA i)) λP=>xI .i64 (ae SS.P 3 h (.pointer (some P))) λp=>xP (af SS.P 24 (pA f) 3) λA=>xL (ae SS.P 22 h (.pointer (some A))) λt v O=>xP (ai SS.P 22 (.slice t v O) (iA i)) λq=>xP (af SS.P 24 (pA k) 3) λJ=>xL (ae SS.P 22 h (.pointer (some J))) λK G C=>xP (ai SS.P 22 (.slice K G C) (.int .i64 p)) λE=>xP (af SS.P 44 (.pointer (some E)) 0) λs=>xS (ae SS.P 9 h (.pointer (some s))) λN=>xP (af SS.P 44 (.pointer (some q)) 0) λB=>xU (aj SS.P 9 (.pointer (some B)) (strOf N) h) h λS j=>xP (af SS.P 24 (pA k) 3) λF=>xL (ae SS.P 22 j (.pointer (some F))) λy D z=>xP (ai SS.P 22 (.slice y D z) (.int .i64 p)) λu=>xP (af SS.P 44 (.pointer (some u)) 1) λw=>xL (ae SS.P 42 j (.pointer (some w))) λL o x=>LL SS ey [1,1,1,1,0,1,0,0,1,1,0,0,1,1,1,1,0,0] [(pA k),(pA g),(.slice e l m),(pA f),(.pointer (some q)),(.slice a n c),(iA n),(iA i),(.slice L o x),(iA o),(.int .i64 0)] j (KK SS ey [1,1,0,0,1,1,1,1,0] [1,1,1,1,0,1,0,0] (RR ey [1,1,1,1,0,1,0,0] (fB (ia a n c k g f e l m) d) b (KK SS ey [1,1,1,1,0,1,0] [] (EE SS ey Q))))) (xA (ae SS.P 24 h (pA f)) λI=>xU (aj SS.P 24 (pA g) (.agg ⟨I⟩) h) h λR M=>di SS [((pA g),some 24)] M Q))(b:Nat){i:Nat}{h:aa}(r:d b i h):LL SS ey [1,1,1,1,0,1,0,0] (ia a n c k g f e l m i) h (KK SS ey [1,1,1,1,0,1,0] [] (EE SS ey Q)):=
 dQ (ia a n c k g f e l m) d (λb i H h r=>ax (step b i H h r)) b r
theorem zK(mv:LV)(a:OA)(n c:Nat)(k r q t s:Nat)(e:OA)(o p:Nat)(b:OA)(m d:Nat)(v:Nat->Nat->aa->Prop)(x i:Nat)(l:Nat->Nat->aa->Prop)(Q:VH)(step:∀(g:Nat) (j:Nat) (P:Nat->Value) (h:aa),l g j h->aQ (decide (((j:Int):Int)<(m:Int))) (xP (ai SS.P 42 (.slice b m d) (iA j)) λS=>xA (ae SS.P 46 h (.pointer (some S))) λU=>xN (aA SS.P 46) h λx1 z=>xU (aj SS.P 46 (pA (h.next)) (.agg ⟨U⟩) z) z λx2 u=>xP (af SS.P 46 (pA (h.next)) 3) λH=>xI .i64 (ae SS.P 3 u (.pointer (some H))) λR=>xP (ai SS.P 27 (.slice e o p) (.int .i64 R)) λG=>xI .i64 (ae SS.P 3 u (.pointer (some G))) λJ=>xP (af SS.P 46 (pA (h.next)) 3) λD=>xU (aj SS.P 3 (.pointer (some D)) (.int .i64 J) u) u λZ f=>xP (af SS.P 46 (pA (h.next)) 3) λL=>xI .i64 (ae SS.P 3 f (.pointer (some L))) λI=>aQ (((I:Int) !=(-1))) (xP (af SS.P 44 (.pointer (some ⟨t,s,none⟩)) 1) λW=>xL (ae SS.P 42 (room f 11) (.pointer (some W))) λX T N=>xA (ae SS.P 46 (room f 11) (pA (h.next))) λO=>zR (az SS.P 42 1 [(0,(.agg ⟨O⟩))]) λw K M=>xE (aE SS.P 42 42 (.slice X T N) (sA (f.next+6) K M) (av (room f 11) f.next [(6,w)])) (av (room f 11) f.next [(6,w)]) λB C E Y y=>xP (af SS.P 44 (.pointer (some ⟨t,s,none⟩)) 1) λV=>xU (aj SS.P 42 (.pointer (some V)) (.slice B C E) y) y λx0 F=>aJ (fB (lT a n c k r q t s e o p b m d i) l) g [(pA k),(pA r),(.slice e o p),(pA q),(.pointer (some ⟨t,s,none⟩)),(.slice a n c),(iA n),(iA i),(.slice b m d),(iA m),(.int .i64 (wrap .i64 ((j:Int)+1)))] F) (aJ (fB (lT a n c k r q t s e o p b m d i) l) g [(pA k),(pA r),(.slice e o p),(pA q),(.pointer (some ⟨t,s,none⟩)),(.slice a n c),(iA n),(iA i),(.slice b m d),(iA m),(.int .i64 (wrap .i64 ((j:Int)+1)))] f)) (aJ (fB (ia a n c k r q e o p) v) x [(pA k),(pA r),(.slice e o p),(pA q),(.slice a n c),(iA n),(.int .i64 (wrap .i64 ((i:Int)+1)))] h))(g:Nat){j:Nat}{h:aa}(A:l g j h):LL SS ey [1,1,1,1,0,1,0,0,1,1,0,0,1,1,1,1,0,0] (lT a n c k r q t s e o p b m d i j) h (KK SS ey [1,1,0,0,1,1,1,1,0] [1,1,1,1,0,1,0,0] (RR ey [1,1,1,1,0,1,0,0] (fB (ia a n c k r q e o p) v) x (KK SS ey [1,1,1,1,0,1,0] [] (EE SS ey Q)))):=
 dQ (lT a n c k r q t s e o p b m d i) l (λg j P h A=>ax (step g j P h A)) g A
noncomputable def pj:FD:=ei Tryz.f39 [([1,1,1,1,1,0,1,0,0],[1,2,5,25,26,27])]
abbrev iz(k b:Nat)(a:OA)(n c:Nat)(i:Nat)(t:OA)(tn tc:Nat):LV:=[(pA k),(pA b),(.slice t tn tc),(.slice a n c),(iA n),(iA i)]
theorem TZ(l:LV)(h:aa)(Q:VH)(A:xN (dK SS.P 24 (.agg ⟨l⟩)) h λE b=>xN (aA SS.P 24) b λF n=>xA (ae SS.P 24 n (pA (h.next))) λB=>FW SS 30 [(.agg ⟨B⟩)] n λx d=>yB x λz=>aQ (!z) (xA (aD SS.P 24 []) λy=>xU (aj SS.P 24 (pA (b.next)) (.agg ⟨y⟩) d) d λD s=>di SS [((pA (b.next)),some 24),((.int .i64 1),none)] s Q) (xA (ae SS.P 24 d (pA (h.next))) λw=>FW SS 96 [(.agg ⟨w⟩)] d λv a=>yL v λf g e=>xP (af SS.P 24 (pA (h.next)) 1) λu=>xI .i64 (ae SS.P 3 a (.pointer (some u))) λq=>xP (ai SS.P 68 (.slice f g e) (.int .i64 q)) λt=>xB (ae SS.P 4 a (.pointer (some t))) λo=>aQ (!o) (xP (af SS.P 24 (pA (h.next)) 0) λm=>xI .i64 (ae SS.P 3 a (.pointer (some m))) λr=>FW SS 97 [(.int .i64 r)] a λk i=>∃c:LV,∃j:Int,k=(.tuple ⟨[(.agg ⟨c⟩),(.int .i64 j)]⟩)/\xU (aj SS.P 24 (pA (b.next)) (.agg ⟨c⟩) i) i λC p=>di SS [((pA (b.next)),some 24),((.int .i64 j),none)] p Q) (LL SS pj [1,1,1,1,1,0,1,0,0] (iz (h.next) (b.next) f g e 0 none 0 0) a (KK SS pj [1,1,1,1,1,0,1,0] [] (EE SS pj Q))))):FW SS 39 [(.agg ⟨l⟩)] h Q:=eu pj Tryz.func39 (ax A)
theorem xH(D:LV)(k e:Nat)(a:OA)(n c:Nat)(b:Nat->Nat->OA->Nat->Nat->aa->Prop)(Q:VH)(step:∀(d:Nat) (i:Nat) (t:OA) (tn tc:Nat) (z:Nat->Value) (h:aa),b d i t tn tc h->aQ (decide (((i:Int):Int)<(n:Int))) (xP (ai SS.P 68 (.slice a n c) (iA i)) λp=>xB (ae SS.P 4 h (.pointer (some p))) λu=>aQ u (xR (az SS.P 27 1 [(0,(iA i))]) h λC w x f=>xE (aE SS.P 27 27 (.slice t tn tc) (sA (h.next) w x) f) f λo v l B m=>aJ (RL (iz k e a n c) b) d [(pA k),(pA e),(.slice o v l),(.slice a n c),(iA n),(.int .i64 (wrap .i64 ((i:Int)+1)))] m) (aJ (RL (iz k e a n c) b) d [(pA k),(pA e),(.slice t tn tc),(.slice a n c),(iA n),(.int .i64 (wrap .i64 ((i:Int)+1)))] h)) (xA (ae SS.P 24 h (pA k)) λr=>FW SS 98 [(.agg ⟨r⟩),(.slice t tn tc)] h λs g=>yA s λy=>xU (aj SS.P 24 (pA e) (.agg ⟨y⟩) g) g λA q=>di SS [((pA e),some 24),((.int .i64 0),none)] q Q))(d:Nat){i:Nat}{t:OA}{tn tc:Nat}{h:aa}(j:b d i t tn tc h):LL SS pj [1,1,1,1,1,0,1,0,0] (iz k e a n c i t tn tc) h (KK SS pj [1,1,1,1,1,0,1,0] [] (EE SS pj Q)):=
 Va (iz k e a n c) b (λd i t tn tc z h j=>ax (step d i t tn tc z h j)) d j
variable{k:Nat}
theorem Sc{v:Nat}(a:v<4294967296):(((BitVec.ofInt (IntKind.bits .u64) (v:Int)&&&BitVec.ofInt (IntKind.bits .u64) 4294967295).toNat:Nat):Int)=(v:Int):=by
 have e:IntKind.bits .u64=64:=rfl;rw[e,BitVec.toNat_and];have b:(BitVec.ofInt 64 (v:Int)).toNat=v:=by
  rw[BitVec.toNat_ofInt];omega
 have c:(BitVec.ofInt 64 4294967295).toNat=2^32-1:=rfl;rw[b,c,Nat.and_two_pow_sub_one_eq_mod,Nat.mod_eq_of_lt a]
theorem Vh{v:Nat}(a:v<4294967296):ay SS.P .shr 240 (.int .u64 (v:Int)) (.int .u64 32)=some (.int .u64 ((0:Nat):Int)):=by
 have e:((v:Int)).fdiv (2^(min ((32:Int)).toNat (IntKind.bits .u64)))=((0:Nat):Int):=by
  rw[show min ((32:Int)).toNat (IntKind.bits .u64)=32 from rfl,Int.fdiv_eq_ediv_of_nonneg _ (by decide),show(2:Int)^32=4294967296 from rfl];omega
 show(if(0:Int)<=32 then some (Value.int .u64 (((v:Int)).fdiv (2^(min ((32:Int)).toNat (IntKind.bits .u64)))))else none)=_;rw[if_pos (by decide),e]
theorem Qi(b:n<4294967296)(h:aa):FW SS 197 [.int .u64 1,.int .u64 (n:Int)] h (λv m=>v = .tuple ⟨[.int .u64 0,.int .u64 (n:Int)]⟩/\m=h):=by
 refine T8 1 (n:Int) h _ ?_;have a:∀z:Nat,z<4294967296->wrap .u64 (z:Int)=(z:Int):=λz r=>dZ (by omega) (by omega);have f:(((BitVec.ofInt (IntKind.bits .u64) 1&&&BitVec.ofInt (IntKind.bits .u64) 4294967295).toNat:Nat):Int)=((1:Nat):Int):=Sc (v:=1) (by decide);have d:=Sc b;have q:=Vh (v:=1) (by decide);have e:=Vh b;have i:=Vh (v:=0) (by decide);have k:=Sc (v:=0) (by decide);have o:wrap .u64 (((1:Nat):Int)*(n:Int))=(n:Int):=by rw[show((1:Nat):Int)*(n:Int)=((n:Nat):Int) by omega];exact a n b
 have g:wrap .u64 (((0:Nat):Int)*(n:Int))=((0:Nat):Int):=by rw[show((0:Nat):Int)*(n:Int)=((0:Nat):Int) by omega];exact a 0 (by decide)
 have c:wrap .u64 (((0:Nat):Int)+((0:Nat):Int))=((0:Nat):Int):=a 0 (by decide);have p:wrap .u64 (((1:Nat):Int)*((0:Nat):Int))=((0:Nat):Int):=a 0 (by decide);have l:wrap .u64 (((0:Nat):Int)*((0:Nat):Int))=((0:Nat):Int):=a 0 (by decide);have j:wrap .u64 ((1:Int)*(n:Int))=(n:Int):=by rw[Int.one_mul];exact a n b
 refine⟨((0:Nat):Int),q,((0:Nat):Int),e,((0:Nat):Int),?_,((0:Nat):Int),?_,((0:Nat):Int),?_,?_⟩
 ·rw[f,d,a 1 (by decide),a n b,o];exact e
 ·rw[d,a n b,g,c];exact i
 ·rw[f,d,a 1 (by decide),a n b,g,c,k,a 0 (by decide),p,c];exact i
 ·rw[l,c];dsimp only;rw[c,j];exact⟨rfl,rfl⟩
theorem Sl(b:n<4294967296)(h:aa):FW SS 164 [.int .u64 1,.int .u64 (n:Int)] h (λv a=>v = .tuple ⟨[.int .u64 0,.int .u64 (n:Int)]⟩/\a=h):=by
 refine WX 1 (n:Int) h _ ((Qi b h).mono ?_);rintro _ _ ⟨rfl,rfl⟩;exact⟨_,_,rfl,rfl,rfl⟩
theorem Vi{cs:List Value}(c:h.get n=some (.cells cs 3 1 true))(g:cs.length=m)(f:m<ca)(i:j<=m):
  bm SS.P 27 (.slice (some ⟨n,0,none⟩) m m) (some (.int .i64 (j:Int))) none none h=some (.slice (some ⟨n,j,none⟩) (m-j) (m-j))/\
  bm SS.P 27 (.slice (some ⟨n,0,none⟩) m m) none (some (.int .i64 (j:Int))) none h=some (.slice (some ⟨n,0,none⟩) j m):=by
 have a:aV m=m:=by unfold aV;rw[if_neg (by omega)]
 constructor
 ·unfold bm;dsimp only;rw[cQ];dsimp only[dq];rw[wF,c];dsimp only;rw[if_pos (by omega),a,if_pos (by omega)];have d:((j:Int)).toNat=j:=by omega
  have b:((m:Int)-(j:Int)).toNat=m-j:=by omega
  rw[d,b,mul_one,zero_add]
 ·unfold bm;dsimp only;rw[cQ];dsimp only[dq];rw[wF,c];dsimp only;rw[if_pos (by omega),a,if_pos (by omega)];have b:((j:Int)-((0:Nat):Int)).toNat=j:=by omega
  have e:((0:Nat):Int).toNat=0:=rfl;rw[b,e];rfl
theorem NL{c:Nat}{cs:List Value}(p:h.get m=some (.cells cs 3 1 true))(s:i+n<=cs.length){b:Value}{a:List Value}(j:cI h 1 b=some (a,k))(t:a.length=k)(r:n≠0)(q:k≠0)(f:a.all bc=true):
  copyV SS.P 27 (.slice (some ⟨m,i,none⟩) n c) b h=some (.int .i64 ((min k n:Nat):Int),.set m (.cells (cs.take i++a.take (min k n)++cs.drop (i+min k n)) 3 1 true)):=by
 have o:=Nat.min_le_right k n;have g:=Nat.min_le_left k n;have d:(a.take (min k n)).length=min k n:=by rw[length_take];omega
 have e:(a.take (min k n)).all bc=true:=all_eq_true.2 λx l=>all_eq_true.1 f x (List.mem_of_mem_take l);unfold copyV;rw[cQ];dsimp only;rw[wF];dsimp only;rw[j];dsimp only;rw[if_neg (by omega),mul_one];unfold storeAt;rw[p];dsimp only;rw[if_pos ⟨by omega,e⟩,d];rfl
def iS(x z:Value)(j n:Nat):List Value:=List.replicate j x++List.replicate (n-j) z
theorem PC{x z:Value}(c:j<=n):(iS x z j n).take j++(List.replicate j x).take (min j (n-j))++(iS x z j n).drop (j+min j (n-j))=iS x z (j+min j (n-j)) n:=by
 have b:=Nat.min_le_right j (n-j);have a:=Nat.min_le_left j (n-j);generalize min j (n-j)=m at*;unfold iS;rw[List.take_append_of_le_length (by simp),take_of_length_le (by simp),List.take_replicate,Nat.min_eq_left a,List.drop_append,List.drop_eq_nil_of_le (by simp),nil_append,length_replicate,List.drop_replicate,List.replicate_append_replicate];congr 1;congr 1;omega
theorem GZ(w:Wf h){d n:Nat}(C:h.get d=some (.cells [.int .i64 (-1)] 3 1 true))(L:n<=100000):FW SS 135 [.slice (some ⟨d,0,none⟩) 1 1,.int .i64 (n:Int)] h (λv y=>∃o,v = .slice (some ⟨o,0,none⟩) n n/\uB h o 3 (List.replicate n (.int .i64 (-1))) y):=by
 have N:wrap .u64 (n:Int)=(n:Int):=dZ (by omega) (by omega);have D:wrap .u64 ((1:Nat):Int)=((1:Nat):Int):=dZ (by omega) (by omega);have F:wrap .i64 (n:Int)=(n:Int):=aO (by omega) (by omega);refine Q4 (some ⟨d,0,none⟩) 1 1 (n:Int) h _ (ah (λg=>?_) (λ_=>?_))
 ·have g:=dT g;omega
 rw[N,D];refine(Sl (by omega) h).mono ?_;rintro _ T ⟨rfl,R⟩;rw[R];refine⟨_,_,rfl,ah (λg=>?_) (λ_=>ah (λg=>?_) (λ_=>?_))⟩
 ·exact absurd (dT g) (by omega)
 ·have g:=dT g;omega
 rw[F];have H:=aeH n L;rw[show(List.replicate n 0).map iv=iS (.int .i64 (-1)) (.int .i64 0) 0 n by unfold iS;rw[map_replicate];rfl]at H;refine⟨_,_,_,H,?_⟩;have r:=(Ok.refl w).push (.cells (iS (.int .i64 (-1)) (.int .i64 0) 0 n) 3 1 true);have A:=aI h (.cells (iS (.int .i64 (-1)) (.int .i64 0) 0 n) 3 1 true);have u:=r.ext _ _ C;generalize h.push (.cells (iS (.int .i64 (-1)) (.int .i64 0) 0 n) 3 1 true)=g at*;have f:∀j,j<=n->(iS (.int .i64 (-1)) (.int .i64 0) j n).length=n:=λj I=>by unfold iS;simp;omega
 have p:∀(j:Nat)(g:aa),j<=n->(j=0->n=0)->uB h h.next 3 (iS (.int .i64 (-1)) (.int .i64 0) j n) g->LL SS iC [1,1,1,1,1,1,0,0,0] [(sA (h.next) n n),(.int .i64 (j:Int))] g (KK SS iC [1,1,1,1,1,1,0,0] [] (EE SS iC λv y=>∃o,v = .slice (some ⟨o,0,none⟩) n n/\uB h o 3 (List.replicate n (.int .i64 (-1))) y)):=by
  intro j g I t a;refine we (some ⟨d,0,none⟩) 1 1 (n:Int) (some ⟨h.next,0,none⟩) n n (λE j g=>∃i:Nat,j=(i:Int)/\i<=n/\(i=0->n=0)/\E=n-i/\uB h h.next 3 (iS (.int .i64 (-1)) (.int .i64 0) i n) g) _ (λE j=>?_) (n-j) (j:=(j:Int)) ⟨j,rfl,I,t,rfl,a⟩;intros;rename_i z P;obtain⟨i,rfl,k,S,rfl,a⟩:=P;refine ah (λq=>?_) (λq=>?_)
  ·have q:=dT q;have B:=(Ok.refl a.ok.wf).room 10;have s:=B.ext _ _ a.row;obtain⟨Q,O⟩:=Vi s (f i k) (by unfold ca;omega) k;have G:cI (Go.Ab.room z 10) 1 (.slice (some ⟨h.next,0,none⟩) i n)=some (List.replicate i (.int .i64 (-1)),i):=by
    show(match (Go.Ab.room z 10).get h.next with|some (.cells cs ..)=>if((cs.drop 0).take (i*1)).length=i*1 then some ((cs.drop 0).take (i*1),i)else none|_=>none)=_;rw[s];dsimp only;rw[mul_one,drop_zero,if_pos (by rw[length_take,f i k];omega)];unfold iS;rw[List.take_append_of_le_length (by simp),take_of_length_le (by simp)]
   have b:=NL (c:=n-i) s (by rw[f i k];omega) (i:=i) (n:=n-i) G (by simp) (by omega) (by omega) (all_eq_true.2 λx u=>by rw[List.eq_of_mem_replicate u];rfl);rw[PC k]at b;refine⟨_,_,_,Q,_,_,_,O,_,_,b,?_⟩;have M:min i (n-i)<=n-i:=Nat.min_le_right _ _;have J:0<min i (n-i):=by omega
   have K:min i (n-i)<=i:=Nat.min_le_left _ _;generalize min i (n-i)=m at*;dsimp only;rw[show wrap .i64 ((i:Int)+(m:Int))=((i+m:Nat):Int) by rw[aO (by omega) (by omega)];omega];refine cK (n-(i+m)) (by omega) ⟨i+m,rfl,by omega,by omega,rfl,?_,a.new,?_⟩
   ·show((Go.Ab.room z 10).set h.next _).get h.next=_;rw[aa.aw,if_pos rfl]
   ·exact(a.ok.trans B).set _ (Nat.le_refl _) (B.wf _ _ s) w
  ·have q:=dF q;obtain rfl:i=n:=by omega
   refine⟨h.next,rfl,?_⟩;have e:iS (.int .i64 (-1)) (.int .i64 0) i i=List.replicate i (.int .i64 (-1)):=by unfold iS;rw[sub_self];simp
   rw[e]at a;exact a
 have l:cI g 1 (.slice (some ⟨d,0,none⟩) 1 1)=some ([.int .i64 (-1)],1):=by
  show(match g.get d with|some (.cells cs ..)=>if((cs.drop 0).take (1*1)).length=1*1 then some ((cs.drop 0).take (1*1),1)else none|_=>none)=_;rw[u];rfl
 by_cases t:n=0
 ·subst t;have b:copyV SS.P 27 (.slice (some ⟨h.next,0,none⟩) 0 0) (.slice (some ⟨d,0,none⟩) 1 1) g=some (.int .i64 0,.no):=by
   unfold copyV;rw[cQ];dsimp only;rw[wF];dsimp only;rw[l];dsimp only;rw[if_pos (.inl rfl)]
  exact⟨_,_,b,p 0 _ (Nat.le_refl _) (λ_=>rfl) ⟨A,Nat.le_refl _,r⟩⟩
 ·have b:=NL (c:=n) A (by rw[f 0 (by omega)];omega) (i:=0) (n:=n) l rfl t (by decide) rfl;have e:(iS (.int .i64 (-1)) (.int .i64 0) 0 n).take 0++([.int .i64 (-1)]:List Value).take (min 1 n)++(iS (.int .i64 (-1)) (.int .i64 0) 0 n).drop (0+min 1 n)=iS (.int .i64 (-1)) (.int .i64 0) 1 n:=by
   rw[show min 1 n=1 by omega];unfold iS;rw[List.drop_append];simp
  rw[e,show min 1 n=1 by omega]at b;refine⟨_,_,b,p 1 _ (by omega) (by omega) ⟨?_,Nat.le_refl _,r.set _ (Nat.le_refl _) (r.wf _ _ A) w⟩⟩;show(g.set h.next _).get h.next=_;rw[aa.aw,if_pos rfl]
variable{D:cq}{v:Value}
section
def mY:bw:= .cells [.int .i64 0,.int .i64 0,strOf [],.slice none 0 0] 24 0 true
theorem HQ:aA SS.P 24=some (mY,dX):=by kernel_rfl
theorem acI(k s:Int)(l:List UInt8)(a:Option Addr)(n c:Nat):aD SS.P 24 [(0,(.int .i64 k)),(1,(.int .i64 s)),(2,(strOf l)),(3,(.slice a n c))]=some (.agg ⟨[.int .i64 k,.int .i64 s,strOf l,.slice a n c]⟩):=by cases a<;>kernel_rfl
theorem xK(M:aH)(a:Option Addr)(n c:Nat):(ba M a n c).all bc=true:=by cases a<;>rfl
section
variable {hb g g':aa} {k8 k22 N:Nat} {M':aH} {ps:List (eC×Value)}
structure sj(hb:aa)(k8 k22 N:Nat)(M':aH)(ps:List (eC×Value))(g:aa):Prop where
 own:iq hb g (.slice (some ⟨k22,0,none⟩) N N) ps
 ok:Ok hb g
 box:g.get k8=some (Bm M' (some ⟨k22,0,none⟩) N N)
 hi:∀(i:Nat)(p:eC×Value),ps[i]?=some p->∀j,bE p.2=some j->k8<j
 nk:k22≠k8
theorem sj.ext(r:sj hb k8 k22 N M' ps g)(o:Ok g g'):sj hb k8 k22 N M' ps g':=⟨r.own.ok o,r.ok.trans o,o.ext _ _ r.box,r.hi,r.nk⟩
theorem sj.l3(r:sj hb k8 k22 N M' ps g):ae SS.P 22 g (.pointer (some ⟨k8,3,none⟩))=some (.slice (some ⟨k22,0,none⟩) N N):=aN rz zG r.box (by simp[ba])
theorem sj.all(r:sj hb k8 k22 N M' ps g):ae SS.P 24 g (.pointer (some ⟨k8,0,none⟩))=some (.agg ⟨ba M' (some ⟨k22,0,none⟩) N N⟩):=fE ym wQ iZ r.box (by simp[ba])
theorem sj.abI(w:Wf hb)(r:sj hb k8 k22 N M' ps g){i:Nat}{p:eC×Value}(d:ps[i]?=some p)(f:List UInt8):
  ∃u:aY,aj SS.P 9 (.pointer (some ⟨k22,i*2+0,none⟩)) (strOf f) g=some (undef,u)/\sj hb k8 k22 N M' (ps.set i (⟨f,p.1.an⟩,p.2)) (u.app g)/\g.next<=(u.app g).next:=by
 obtain⟨u,c,l,h,m,n⟩:=r.own.abI w r.ok d f;rw[zero_add]at c;refine⟨u,c,⟨l,h,m _ _ r.box r.nk,λj q a k b=>?_,r.nk⟩,Nat.le_of_eq n.symm⟩;rcases br a with⟨_,e⟩|⟨_,a⟩
 ·rw[e]at b;exact r.hi i p d k b
 ·exact r.hi j q a k b
theorem sj.arc(w:Wf hb)(r:sj hb k8 k22 N M' ps g){i:Nat}{p:eC×Value}(d:ps[i]?=some p){q:cq}{C:Nat}(o:g.get C=some (.cells (dk q) 46 4 true))(G:p.1.an.length<=100000):
  ∃(x:Option Addr)(y z:Nat),ae SS.P 42 g (.pointer (some ⟨k22,i*2+1,none⟩))=some (.slice x y z)/\p.2 = .slice x y z/\∃(b:Option Addr)(n c:Nat)(u:aY),aE SS.P 42 42 (.slice x y z) (.slice (some ⟨C,0,none⟩) 1 1) g=some (.slice b n c,u)/\
   ∃f:aY,aj SS.P 42 (.pointer (some ⟨k22,i*2+1,none⟩)) (.slice b n c) (u.app g)=some (undef,f)/\sj hb k8 k22 N M' (ps.set i (⟨p.1.f,p.1.an++[q]⟩,.slice b n c)) (f.app (u.app g)):=by
 obtain⟨L,l,_⟩:=r.own.at_ d;rw[zero_add]at L l;have t:=r.own.an i p d;obtain⟨x,z,e⟩:=t.mU;obtain⟨b,n,c,u,s,J,F,v,B,P⟩:=Si w r.ok t o G;obtain⟨f,A,K,E,H,M⟩:=r.own.adJ w F d v J B r.ok.wf;rw[zero_add]at A;rw[e]at s l;refine⟨x,_,z,l,e,b,n,c,u,s,f,A,⟨K,E,H _ _ (v _ _ r.box (λD=>by have:=r.hi i p d _ D;omega)) r.nk,λj I a k m=>?_,r.nk⟩⟩;have O:k8<g.next:=r.ok.wf _ _ r.box;rcases br a with⟨_,e⟩|⟨_,a⟩
 ·rw[e]at m;rcases B k m with h|h
  ·omega
  ·exact r.hi i p d k h
 ·exact r.hi j I a k m
end
theorem AB.ae2{hb g:aa}(w:Wf hb)(a:Ok hb g){k:Nat}{q:cq}(b:AB g k q)(c:hb.next<=k)(z:Int):∃u:aY,aj SS.P 3 (.pointer (some ⟨k,0+3,none⟩)) (.int .i64 z) g=some (undef,u)/\Ok hb (u.app g)/\AB (u.app g) k ⟨q.i,q.o,q.w,z⟩:=by
 refine⟨_,bC wF b (by simp[dk]) rfl rfl,a.set _ c (a.wf _ _ b) w,?_⟩;show(g.set k _).get k=_;rw[aa.aw,if_pos rfl];rfl
theorem AB.all{g:aa}(b:AB g k D):ae SS.P 46 g (.pointer (some ⟨k,0,none⟩))=some (.agg ⟨dk D⟩):=fE ad8 acq E1 b (by simp[dk])
def Ue(N:Nat)(ord:List Nat):List Value:=(List.range N).map λx=> .int .i64 (eP ord 0 x)
theorem Od(N:Nat)(ord:List Nat):(Ue N ord).length=N:=by simp[Ue]
theorem YG(N:Nat):Ue N []=List.replicate N (.int .i64 (-1)):=by
 refine List.ext_getElem? λi=>?_;unfold Ue;rw[getElem?_map,getElem?_replicate];by_cases h:i<N
 ·rw[List.getElem?_range h,if_pos h];rfl
 ·rw[List.getElem?_eq_none (by simpa using h),if_neg h];rfl
theorem Uf{N:Nat}{ord:List Nat}(b:k∉ord):Ue N (ord++[k])=(Ue N ord).set k (.int .i64 ((ord.length:Nat):Int)):=by
 refine List.ext_getElem? λi=>?_;unfold Ue;rw[getElem?_set,getElem?_map,getElem?_map,lM,List.length_range];by_cases h:i<N
 ·rw[List.getElem?_range h];simp only[Option.map_some];rw[Ex _ _ _ _ b,zero_add];by_cases a:i=k
  ·rw[if_pos a,if_pos a.symm,if_pos (by omega)]
  ·rw[if_neg a,if_neg (λe=>a e.symm)]
 ·rw[List.getElem?_eq_none (by simpa using h)];by_cases a:k=i
  ·rw[if_pos a,if_neg (by omega)];rfl
  ·rw[if_neg a];rfl
theorem L0{g:aa}{N c:Nat}{ord:List Nat}(d:g.get j=some (.cells (Ue N ord) 3 1 true)){x:Nat}(a:x<N):ai SS.P 27 (.slice (some ⟨j,0,none⟩) N c) (.int .i64 (x:Int))=some (.pointer (some ⟨j,x,none⟩))/\ae SS.P 3 g (.pointer (some ⟨j,x,none⟩))=some (.int .i64 (eP ord 0 x)):=by
 have b:=F0 (P:=SS.P) cQ wF (k:=j) (off:=0) (n:=N) (c:=c) (ik:= .i64) (i:=(x:Int)) (by omega) (by omega);rw[toNat_natCast,zero_add,mul_one]at b;refine⟨b,?_⟩;rw[aN lp ll d (by rw[Od];exact a)];unfold Ue;rw[gD,getElem?_map,List.getElem?_range a];rfl
theorem Ew:∀{l:List Nat},l.Nodup->∀{i j x:Nat},l[i]?=some x->l[j]?=some x->i=j
 |[],_,i,j,x,h,_=>by simp at h
 |y::l,a,0,0,x,_,_=>rfl
 |y::l,a,0,j+1,x,h,b=>by
  obtain rfl:y=x:=by simpa using h
  exact absurd (List.mem_of_getElem? (by simpa using b)) (nodup_cons.1 a).1
 |y::l,a,i+1,0,x,h,b=>by
  obtain rfl:y=x:=by simpa using b
  exact absurd (List.mem_of_getElem? (by simpa using h)) (nodup_cons.1 a).1
 |y::l,a,i+1,j+1,x,h,b=>by
  exact congrArg (· + 1) (Ew (nodup_cons.1 a).2 (x:=x) (by simpa using h) (by simpa using b))
theorem ot:∀(N:Nat){l:List Nat},l.Nodup->(∀x∈l,x<N)->l.length<=N
 |0,l,_,h=>by
  cases l with
  |nil=>exact Nat.le_refl _
  |cons x l=>exact absurd (h x (mem_cons_self ..)) (not_lt_zero _)
 | N+1,l,b,h=>by
  by_cases c:N∈l
  ·have f:=List.length_erase_of_mem c;have g:=ot N (b.erase N) (λx a=>by
    have d:=(b.mem_erase_iff).1 a;have:=h x d.2;omega)
   have i:0<l.length:=List.length_pos_of_mem c;omega
  ·exact Nat.le_succ_of_le (ot N b λx a=>by
    have:=h x a;have:x≠N:=λe=>c (e▸a);omega)
theorem ON{g:aa}(w:Wf g){n i j:Nat}(b:i<n)(c:j<n)(d:i≠j)(A B:bw):Ok g (av (Go.Ab.room g n) g.next [(j,B),(i,A)])/\(av (Go.Ab.room g n) g.next [(j,B),(i,A)]).get (g.next+i)=some A/\(av (Go.Ab.room g n) g.next [(j,B),(i,A)]).get (g.next+j)=some B:=by
 have a:Ok g ((Go.Ab.room g n).set (g.next+i) A):=((Ok.refl w).room n).set A (Nat.le_add_right _ _) (Nat.add_lt_add_left b _) w;refine⟨a.set B (Nat.le_add_right _ _) (Nat.add_lt_add_left c _) w,?_,?_⟩
 ·show(((Go.Ab.room g n).set (g.next+i) A).set (g.next+j) B).get (g.next+i)=_;rw[aa.aw,if_neg (by omega),aa.aw,if_pos rfl]
 ·show(((Go.Ab.room g n).set (g.next+i) A).set (g.next+j) B).get (g.next+j)=_;rw[aa.aw,if_pos rfl]
def zP(M:aH)(ord:List Nat)(i:Nat):List eC:=(ord.take i).map (qg M ord)++List.replicate (ord.length-i) Aq.1
theorem Q0(M:aH)(ord:List Nat):zP M ord 0=List.replicate ord.length Aq.1:=by simp[zP]
theorem QY(M:aH)(ord:List Nat):zP M ord ord.length=ord.map (qg M ord):=by simp[zP]
theorem Oq{M:aH}{ord:List Nat}(a:i<ord.length):(zP M ord i)[i]?=some Aq.1:=by
 unfold zP;rw[List.getElem?_append_right (by rw[lM,length_take];omega),lM,length_take,Nat.min_eq_left (by omega),sub_self,getElem?_replicate,if_pos (by omega)]
theorem QZ{M:aH}{ord:List Nat}(a:ord[i]?=some k):(zP M ord i).set i (qg M ord k)=zP M ord (i+1):=by
 have c:i<ord.length:=(List.getElem?_eq_some_iff.1 a).1;unfold zP;have b:((ord.take i).map (qg M ord)).length=i:=by simp;omega
 rw[List.set_append,if_neg (by omega),b,sub_self,take_add_one,a,map_append,append_assoc];congr 1;rw[show ord.length-i=(ord.length-(i+1))+1 by omega,List.replicate_succ,List.set_cons_zero];rfl
theorem iq.low{h hb g g':aa}{ps:List (eC×Value)}(m:iq hb g v ps)(o:Ok h hb)(s:∀j B,g.get j=some B->hb.next<=j->g'.get j=some B):iq h g' v ps:=by
 have a:∀{e:TypeId}{b:Nat}{v:Value}{d:List (List Value)},cT hb g e b v d->cT h g' e b v d:=λ{e b v d} r=>by
  obtain⟨f,r|⟨k,l,cs,c,t,n,q,u⟩⟩:=r
  ·exact⟨f,.inl r⟩
  ·exact⟨f,.inr ⟨k,l,cs,c,t,Nat.le_trans o.nx n,s _ _ q n,u⟩⟩
 exact⟨a m.row,λi p w=>a (m.an i p w),m.ne,m.Lj⟩
section
variable {h:aa} {M:aH} {a:Option Addr} {n c:Nat} {b:Option Addr} {m d:Nat} {ord:List Nat}
theorem Yd{M:aH}{x:Nat}{s:eC}(a:M.ak[x]?=some s):M.ak.getD x ⟨[],[]⟩=s:=by rw[gD,a];rfl
def GV(M:aH)(ord:List Nat)(i j:Nat)(s:eC):List eC:=(zP M ord i).set i ⟨s.f,(s.an.take j).filterMap (fR ord)⟩
def rP2(hb:aa)(M:aH)(ord:List Nat)(k8 k22:Nat)(a i:Nat)(g:aa):Prop:=i<=ord.length/\a=ord.length-i/\∃ps,ps.map (·.1)=zP M ord i/\sj hb k8 k22 ord.length (ig M ord) ps g
def rP3(hb:aa)(M:aH)(ord:List Nat)(k8 k22 i:Nat)(s:eC)(a j:Nat)(g:aa):Prop:=j<=s.an.length/\a=s.an.length-j/\∃ps,ps.map (·.1)=GV M ord i j s/\sj hb k8 k22 ord.length (ig M ord) ps g
theorem HV{M:aH}{ord:List Nat}{s:eC}(c:s.an[j]?=some D)(d:i<ord.length):GV M ord i (j+1) s=(match fR ord D with|none=>GV M ord i j s|some a=>(GV M ord i j s).set i ⟨s.f,(s.an.take j).filterMap (fR ord)++[a]⟩):=by
 unfold GV;rw[take_add_one,c,filterMap_append];show(zP M ord i).set i ⟨s.f,_++List.filterMap (fR ord) [D]⟩=_
 cases b:fR ord D with
 |none=>simp[b]
 |some a=>simp[b,set_set]
theorem Y8{M:aH}{ord:List Nat}{s:eC}(a:i<ord.length):(GV M ord i j s)[i]?=some ⟨s.f,(s.an.take j).filterMap (fR ord)⟩:=by
 unfold GV;rw[getElem?_set,if_pos rfl,if_pos];exact(List.getElem?_eq_some_iff.1 (Oq (M:=M) a)).1
theorem T0{ps:List (eC×Value)}{L:List eC}(h:ps.map (·.1)=L){i:Nat}{s:eC}(a:L[i]?=some s):∃p,ps[i]?=some p/\p.1=s:=by
 rw[<-h,getElem?_map]at a;obtain⟨p,b,c⟩:=Option.map_eq_some_iff.1 a;exact⟨p,b,c⟩
set_option linter.defProp false in
def LP{hb h0:aa}(w:Wf hb)(gd:Good M){k k4 k8 k22 V:Nat}(U:MB h0 k M a n c)(o0:Ok h0 hb)(hn:n<=300)(nb:hb.get V=some (.cells (Ue n ord) 3 1 true)){i x:Nat}{s:eC}(K:ord[i]?=some x)(H:M.ak[x]?=some s)(y0:s.an.length<=2000)(x6:ord.length<=300){S:Option Addr}{P J:Nat}(F:gk hb (.slice S P J) s.an)(e:Option Addr)(en ec:Nat)(A:Nat)(y2:A=ord.length-i)(mv:List Value)(Q:VH):=
 zK mv b m d k k4 k8 k22 (i*2) (some ⟨V,0,none⟩) n n S P J (rP2 hb M ord k8 k22) A i (rP3 hb M ord k8 k22 i s) Q (by
  intro x9 j;intros;rename_i g l;obtain⟨f1,rfl,ps,o,v⟩:=l;have z:i<ord.length:=(List.getElem?_eq_some_iff.1 K).1;have x5:n=M.ak.length:=U.len;have x7:=F.len;refine ah (λt=>?_) (λt=>?_)
  ·have t:=dT t;obtain⟨q,y⟩:∃q,s.an[j]?=some q:=⟨_,gE (by omega)⟩
   obtain⟨bb,oo,d1,d2,d3,d4,d5,d6⟩:=(F.ok v.ok).at_ y;have l:=gd.an s (List.mem_of_getElem? H) q (List.mem_of_getElem? y);obtain⟨Y,hY⟩:∃Y:Nat,q.t=(Y:Int):=⟨q.t.toNat,by have:=l.t0;omega⟩
   have x2:Y<n:=by have:=l.t1;omega
   have T:=v.ok.wf;obtain⟨u,p1,G,p3⟩:=wb T q;refine⟨_,d1,_,d2,_,Fp,u,p1,_,eU _ _,_,p3.l3,?_⟩;have I:=G.ext _ _ (v.ok.ext _ _ nb);generalize u.app (g.push Hu)=x3 at*;obtain⟨n1,n2⟩:=L0 (c:=n) I x2;rw[hY];obtain⟨E,t1,t2,O⟩:=p3.ae2 T G (Nat.le_refl _) (eP ord 0 Y);refine⟨_,n1,_,n2,_,eU _ _,E,t1,_,eU _ _,_,O.l3,?_⟩;have f:=v.ext t2;generalize E.app x3=x8 at*;have N:wrap .i64 ((j:Int)+1)=((j+1:Nat):Int):=bF (n:=s.an.length) (by omega) (by omega);have C:s.an.length-(j+1)<s.an.length-j:=by omega
   have B:q.t.toNat=Y:=by omega
   refine ah (λh=>?_) (λh=>?_)
   ·have h:¬eP ord 0 Y = -1:=by simpa using h
    have r:fR ord q=some ⟨q.i,q.o,q.w,eP ord 0 Y⟩:=by unfold fR;rw[B,if_neg h]
    obtain⟨p,X,D⟩:=T0 o (Y8 (M:=M) (j:=j) (s:=s) z);obtain⟨o6,k6⟩:=vV f.ok.wf (n:=11) (j:=6) (by omega) (.cells (dk ⟨q.i,q.o,q.w,eP ord 0 Y⟩) 46 4 true);have W:=(Ok.refl f.ok.wf).room 11;have L:=f.ext o6;have x4:p.1.an.length<=2000:=by rw[D];exact Nat.le_trans (List.length_filterMap_le ..) (by rw[length_take];omega)
    obtain⟨x1,y1,z1,a1,e1,b2,x0,c2,u3,a2,u4,a3,R⟩:=L.arc w X k6 (by omega);have Z:=((f.ext W).own.at_ X).2.1;rw[zero_add,e1]at Z;refine⟨_,fL _ _,x1,y1,z1,Z,_,(O.ok W).all,_,_,_,aeu _,b2,x0,c2,u3,a2,_,fL _ _,u4,a3,?_⟩;dsimp only;rw[N];refine cK (s.an.length-(j+1)) C ⟨by omega,rfl,_,?_,R⟩;rw[map_set,o,HV y z,r,D]
   ·have h:eP ord 0 Y = -1:=by simpa using h
    have r:fR ord q=none:=by unfold fR;rw[B,if_pos h]
    rw[N];exact cK (s.an.length-(j+1)) C ⟨by omega,rfl,ps,by rw[o,HV y z,r],f⟩
  ·have t:=dF t;rw[bF z (by omega)];refine cK (ord.length-(i+1)) (by omega) ⟨by omega,rfl,ps,?_,v⟩;rw[o,<-QZ K];unfold GV qg;rw[Yd H,take_of_length_le (by omega)])
theorem Yz(w:Wf h)(gd:Good M)(hN:M.ak.length<=300)(hA:∀s∈M.ak,s.an.length<=2000)(r:ep h (.slice a n c) M.ak)(ro:Rd h 3 (.slice b m d) (ord.map iv))(O:AH M.ak.length ord):FW SS 98 [.agg ⟨ba M a n c⟩,.slice b m d] h (YR h (ig M ord)):=by
 obtain⟨W,E⟩:=oQ w r;have y7:n=M.ak.length:=W.len;have hm:m=ord.length:=by have:=ro.len;rwa[lM]at this
 have x6:ord.length<=300:=by
  have:=ot M.ak.length O.nd O.lt;omega
 refine Yy (ba M a n c) b m d h _ ⟨_,pZ M a n c,_,HQ,_,_,_,tH _,?_⟩;have Y:=E.push mY;have k4:=aI (h.push (Bm M a n c)) mY;have y3:=W.ok ((Ok.refl E.wf).push mY);have n4:h.next<=(h.push (Bm M a n c)).next:=E.nx;generalize h.push (Bm M a n c)=g0 at*;generalize z3:g0.next=Q at*;generalize g0.push mY=g4 at*;have o8:=(Ok.refl Y.wf).push (.cells [.int .i64 (-1)] 3 1 true);have D:=Y.trans o8;have kx:=aI g4 (.cells [.int .i64 (-1)] 3 1 true);have X:=y3.ok o8;have R:=o8.ext _ _ k4;generalize g4.push (.cells [.int .i64 (-1)] 3 1 true)=g8 at*;refine⟨_,dp _,_,_,_,X.l3,(GZ D.wf kx (n:=n) (by omega)).mono ?_⟩;rintro _ g9 ⟨kn,rfl,k⟩;refine⟨_,_,_,rfl,?_⟩;rw[<-YG n]at k;have mx:∀{i x:Nat},ord[i]?=some x->x<n:=λq=>by have:=O.lt _ (List.mem_of_getElem? q);omega
 refine zI (ba M a n c) b m d h.next Q (some ⟨kn,0,none⟩) n n (λmz i g=>i<=m/\mz=m-i/\uB g8 kn 3 (Ue n (ord.take i)) g) _ (λmz i=>?_) m (i:=0) ⟨zero_le _,rfl,k⟩;intros;rename_i g F;obtain⟨f1,rfl,k⟩:=F;have f:=D.trans k.ok;refine ah (λJ=>?_) (λJ=>?_)
 ·have J:=dT J;obtain⟨x,q⟩:∃x,ord[i]?=some x:=⟨_,gE (by omega)⟩
  obtain⟨p,e1,e2⟩:=atG (ro.ok f) q;have G:=mx q;obtain⟨n1,_⟩:=L0 (c:=n) k.row G;have st:=bC (t:=3) wF k.row (i:=x) (by rw[Od];exact G) (v:= .int .i64 (i:Int)) rfl rfl;have y4:x∉ord.take i:=λx1=>by
   obtain⟨j,L,e⟩:=List.mem_iff_getElem.1 x1;rw[length_take]at L;rw[List.getElem_take]at e;have e':ord[j]?=some x:=by rw[gE (by omega),e]
   have:=Ew O.nd e' q;omega
  have hl:(ord.take i).length=i:=by rw[length_take];omega
  refine⟨_,e1,_,e2,_,n1,_,st,?_⟩;rw[bF (n:=m) (by omega) (by omega)];refine cK (m-(i+1)) (by omega) ⟨by omega,rfl,?_⟩;have e3:ord.take (i+1)=ord.take i++[x]:=by rw[take_add_one,q];rfl
  rw[e3,Uf y4,hl];exact k.set D.wf x _
 ·have J:=dF J;obtain rfl:m=i:=by omega
  rw[take_of_length_le (by omega)]at k;have A:=X.ok k.ok;have oR:=(Ok.refl f.wf).room 15;have I:=A.ok oR;have y6:=gd.nR;have y5:=gd.rB;obtain⟨S,hS⟩:∃S:Nat,M.start=(S:Int):=⟨M.start.toNat,by omega⟩
  have y0:S<n:=by omega
  have lS:=I.l1;rw[hS]at lS;obtain⟨n1,n2⟩:=L0 (c:=n) (oR.ext _ _ k.row) y0;have mk:=abi m (by omega);refine⟨_,tP _,_,I.l0,_,pb _,_,lS,_,n1,_,n2,_,Te _,_,I.l2,_,_,_,mk,_,acI _ _ _ _ _ _,_,HQ,?_⟩;obtain⟨o2,x5,V⟩:=ON f.wf (n:=15) (i:=11) (j:=13) (by omega) (by omega) (by omega) (.cells ((List.replicate m Aq).map jd).flatten 44 2 true) mY;have z5:=f.ext;generalize y8:av (Go.Ab.room g 15) g.next [(13,mY),(11,.cells ((List.replicate m Aq).map jd).flatten 44 2 true)]=S2 at*;have pa:=du (t:=24) iZ (cs0:=[.int .i64 0,.int .i64 0,strOf [],.slice none 0 0]) rfl V (cs:=[.int .i64 M.kind,.int .i64 (eP ord 0 S),strOf M.lead,.slice (some ⟨g.next+11,0,none⟩) m m]) rfl rfl;refine⟨_,pa,?_⟩;obtain⟨o3,x2⟩:=lF (cs:=[.int .i64 M.kind,.int .i64 (eP ord 0 S),strOf M.lead,.slice (some ⟨g.next+11,0,none⟩) m m]) f.wf o2 V (by omega);have x4:((aY.set (g.next+13) (.cells [.int .i64 M.kind,.int .i64 (eP ord 0 S),strOf M.lead,.slice (some ⟨g.next+11,0,none⟩) m m] 24 0 true)).app S2).get (g.next+11)=some (.cells ((List.replicate m Aq).map jd).flatten 44 2 true):=by
   show(S2.set (g.next+13) _).get (g.next+11)=_;rw[aa.aw,if_neg (by omega)];exact x5
  generalize (aY.set (g.next+13) (.cells [.int .i64 M.kind,.int .i64 (eP ord 0 S),strOf M.lead,.slice (some ⟨g.next+11,0,none⟩) m m] 24 0 true)).app S2=x9 at*;have x0:M.start.toNat=S:=by omega
  have l:sj g (g.next+13) (g.next+11) m (ig M ord) (List.replicate m Aq) x9:=⟨iq.made x4 (by omega) (by omega),o3,by unfold Bm ba ig;rw[x0];exact x2,λi p P j L=>(by
   rw[getElem?_replicate]at P;split at P
   ·obtain rfl:=oI P;cases L
   ·cases P),by omega⟩
  subst hm;refine zJ (ba M a n c) b ord.length d h.next Q (g.next+13) (some ⟨kn,0,none⟩) n n (rP2 g M ord (g.next+13) (g.next+11)) _ (λy9 i=>?_) ord.length (i:=0) ⟨zero_le _,rfl,_,by rw[Q0,map_replicate],l⟩;intros;rename_i gg F;obtain⟨f2,rfl,ps,C,l⟩:=F;have x7:=A.ok l.ok;refine ah (λH=>?_) (λH=>?_)
  ·have H:=dT H;have hi:i<ord.length:=by omega
   obtain⟨x,q⟩:∃x,ord[i]?=some x:=⟨_,gE hi⟩
   have G:=mx q;obtain⟨s,N⟩:=Et (M:=M) (i:=x) (by omega);obtain⟨p,e1,e2⟩:=atG (ro.ok (f.trans l.ok)) q;obtain⟨p0,U,x8⟩:=T0 C (Oq (M:=M) hi);obtain⟨i1,i2,i3⟩:=l.own.at_ U;rw[zero_add]at i1;obtain⟨u,s1,K,_⟩:=l.abI f.wf U s.f;obtain⟨bb,o,x',y,z,j1,j2,j3,j4,ar⟩:=A.row.Ky l.ok N;obtain⟨z4,o',z0,y2,z2,l1,l2,l3,l4,T⟩:=A.row.Ky K.ok N;have x3:=A.ok K.ok;refine⟨_,e1,_,e2,_,dp _,_,_,_,l.l3,_,i1,_,dp _,_,_,_,x7.l3,_,j1,_,pc _ _,_,j3,_,pc _ _,u,s1,_,dp _,_,_,_,x3.l3,_,l1,_,fL _ _,_,_,_,l4,?_⟩;refine LP (h0:=g) f.wf gd A (Ok.refl f.wf) (by omega) k.row q N (hA s (List.mem_of_getElem? N)) x6 T none 0 0 _ rfl (ba M a n c) _ y2 (j:=0) ⟨zero_le _,T.len.trans rfl,_,?_,K⟩;rw[map_set,C];unfold GV;rw[List.take_zero,x8];rfl
  ·have H:=dF H;obtain rfl:i=ord.length:=by omega
   rw[QY]at C;have oG:=f.trans l.ok;have Z:=l.ok.ext _ _ (k.ok.ext _ _ R);have hK:Q<g.next:=f.wf _ _ (k.ok.ext _ _ R);have y1:=du (t:=24) iZ (cs0:=[.int .i64 0,.int .i64 0,strOf [],.slice none 0 0]) rfl Z (cs:=ba (ig M ord) (some ⟨g.next+11,0,none⟩) ord.length ord.length) rfl (xK _ _ _ _);obtain⟨o5,k5⟩:=lF (cs:=ba (ig M ord) (some ⟨g.next+11,0,none⟩) ord.length ord.length) w oG Z (by omega);refine⟨_,l.all,_,y1,Bb (v:= .agg ⟨ba (ig M ord) (some ⟨g.next+11,0,none⟩) ord.length ord.length⟩) (fE ym wQ iZ k5 (by simp[ba])) ?_⟩;refine⟨_,_,_,ps,rfl,by rw[C];rfl,?_,o5⟩;exact l.own.low f (λj B L z1=>by
    show(gg.set Q _).get j=_;rw[aa.aw,if_neg (by omega)];exact L)
end
end
def zM(a:Int):List UInt8:=if a=1 then[48]else if a=2\/a=3 then[49]else[]
theorem XW(k:Nat):af SS.P 100 (.pointer (some ⟨k,0,none⟩)) 1=some (.pointer (some ⟨k,1,none⟩)):=by kernel_rfl
theorem Zf(a:Int){h:aa}(w:Wf h):FW SS 24 [.int .i64 a] h (λv s=>v=strOf (zM a)/\Ok h s):=by
 refine Ze a h _ ((JX a w).mono ?_);rintro _ g ⟨rfl,o⟩;have d:∀(c:List Value)(b:Bool),c.length=8->c.all bc=true->c.getD 1 undef=strOf (zM a)->∃cs:List Value,∃t:Bool,(Value.tuple ⟨[.agg ⟨c⟩,.bool b]⟩)=(.tuple ⟨[.agg ⟨cs⟩,.bool t]⟩)/\∃B:bw,aA SS.P 100=some (B,dX)/\∃u:aY,aj SS.P 100 (.pointer (some ⟨g.next,0,none⟩)) (.agg ⟨cs⟩) (g.push B)=some (undef,u)/\∃p:Addr,af SS.P 100 (.pointer (some ⟨g.next,0,none⟩)) 1=some (.pointer (some p))/\∃l:List UInt8,ae SS.P 9 (u.app (g.push B)) (.pointer (some p))=some (strOf l)/\(strOf l=strOf (zM a)/\Ok h (u.app (g.push B))):=by
  intro c b n q r;have j:=aI g zv;have k:=(Ok.refl o.wf).push zv;obtain⟨x,m⟩:=lF (cs:=c) o.wf k j (Nat.le_refl _);refine⟨c,b,rfl,zv,NB,_,du CC rfl j n q,_,XW _,zM a,?_,rfl,o.trans x⟩;rw[aN WD ZW m (by omega),r]
 unfold ofV;split
 ·next e=>exact d ze true rfl rfl (by unfold zM;rw[if_pos e];rfl)
 ·next e=>
  split
  ·next f=>exact d zf true rfl rfl (by unfold zM;rw[if_neg e,if_pos (.inl f)];rfl)
  ·next f=>
   split
   ·next i=>exact d zg true rfl rfl (by unfold zM;rw[if_neg e,if_pos (.inr i)];rfl)
   ·next i=>exact d kY false rfl rfl (by unfold zM;rw[if_neg e,if_neg (by rintro(h|h)<;>contradiction)];rfl)
def JL(h:aa)(R:aH×Int):VH:=λv b=>∃(a:Option Addr)(n c:Nat)(d:List (eC×Value)),v = .tuple ⟨[.agg ⟨ba R.1 a n c⟩,.int .i64 R.2]⟩/\d.map (·.1)=R.1.ak/\iq h b (.slice a n c) d/\Ok h b
def CW:aH:=⟨0,0,[],[]⟩
def sZ(a:Int):aH×Int:=if 1<=a/\a<=3 then(⟨a,0,zM a,[⟨[],[]⟩]⟩,0)else(CW,1)
theorem Ss:aD SS.P 24 []=some (.agg ⟨ba CW none 0 0⟩):=by kernel_rfl
theorem aaM(k:Int)(l:List UInt8)(a:Option Addr)(n c:Nat):aD SS.P 24 [(0,(.int .i64 k)),(2,(strOf l)),(3,(.slice a n c))]=some (.agg ⟨[.int .i64 k,.int .i64 0,strOf l,.slice a n c]⟩):=by cases a<;>kernel_rfl
theorem wh(w:Wf h)(o:Ok h g){k:Nat}(f:g.get k=some mY)(i:h.next<=k){R:aH×Int}{a:Option Addr}{n c:Nat}{ps:List (eC×Value)}(e:ps.map (·.1)=R.1.ak){d:aa}(q:iq d g (.slice a n c) ps)(r:Ok h d)(b:k<d.next\/ps=[]/\a=none/\n=0/\c=0):
  ∃u:aY,aj SS.P 24 (.pointer (some ⟨k,0,none⟩)) (.agg ⟨ba R.1 a n c⟩) g=some (undef,u)/\di SS [(.pointer (some ⟨k,0,none⟩),some 24),(.int .i64 R.2,none)] (u.app g) (JL h R):=by
 refine⟨_,du (t:=24) iZ (cs0:=[.int .i64 0,.int .i64 0,strOf [],.slice none 0 0]) rfl f (cs:=ba R.1 a n c) rfl (xK ..),?_⟩;obtain⟨l,m⟩:=lF (cs:=ba R.1 a n c) w o f i;refine vj (v:= .agg ⟨ba R.1 a n c⟩) (fE ym wQ iZ m (by simp[ba])) ⟨a,n,c,ps,rfl,e,?_,l⟩;rcases b with b|⟨rfl,rfl,rfl,rfl⟩
 ·exact q.low r (λj B p s=>by
   show(g.set k _).get j=_;rw[aa.aw,if_neg (by omega)];exact p)
 ·exact iq.nil _ _
theorem yX(w:Wf h)(o:Ok h g){k:Nat}(d:g.get k=some mY)(c:h.next<=k){a:Int}(b:¬(1<=a/\a<=3)):∃cs:List Value,aD SS.P 24 []=some (.agg ⟨cs⟩)/\∃u:aY,aj SS.P 24 (.pointer (some ⟨k,0,none⟩)) (.agg ⟨cs⟩) g=some (undef,u)/\di SS [(.pointer (some ⟨k,0,none⟩),some 24),(.int .i64 1,none)] (u.app g) (JL h (sZ a)):=by
 have e:sZ a=(CW,1):=by unfold sZ;rw[if_neg b]
 rw[e];exact⟨_,Ss,wh w o d c (R:=(CW,1)) (ps:=[]) rfl (iq.nil h g) (Ok.refl w) (.inr ⟨rfl,rfl,rfl,rfl⟩)⟩
theorem Md(w:Wf h)(o:Ok h g){k:Nat}(p:g.get k=some mY)(j:h.next<=k){b:aa}(q:Wf b)(l:Ok h b)(r:Ok b g)(f:k<b.next){c:Nat}(m:b.next<=c)(d:g.get c=some (.cells ((List.replicate 1 Aq).map jd).flatten 44 2 true)){a:Int}(i:1<=a/\a<=3):
  ∃cs:List Value,aD SS.P 24 [(0,(.int .i64 a)),(2,(strOf (zM a))),(3,(.slice (some ⟨c,0,none⟩) 1 1))]=some (.agg ⟨cs⟩)/\∃u:aY,aj SS.P 24 (.pointer (some ⟨k,0,none⟩)) (.agg ⟨cs⟩) g=some (undef,u)/\di SS [(.pointer (some ⟨k,0,none⟩),some 24),(.int .i64 0,none)] (u.app g) (JL h (sZ a)):=by
 have e:sZ a=(⟨a,0,zM a,[⟨[],[]⟩]⟩,0):=by unfold sZ;rw[if_pos i]
 rw[e];exact⟨_,aaM _ _ _ _ _,wh w o p j (R:=(⟨a,0,zM a,[⟨[],[]⟩]⟩,0)) (ps:=[Aq]) rfl (iq.made (hb:=b) (n:=1) d m (by omega)) l (.inl f)⟩
theorem Ox(w:Wf h){n j:Nat}(b:j<n)(o:Ok (Go.Ab.room h n) g)(B:bw):Ok h (av g h.next [(j,B)])/\(av g h.next [(j,B)]).get (h.next+j)=some B:=by
 have a:h.next+n<=g.next:=o.nx;refine⟨(((Ok.refl w).room n).trans o).set B (Nat.le_add_right _ _) (by omega) w,?_⟩;show(g.set (h.next+j) B).get (h.next+j)=_;rw[aa.aw,if_pos rfl]
theorem I6(a:Int){h:aa}(w:Wf h):FW SS 97 [.int .i64 a] h (JL h (sZ a)):=by
 have b:=(Ok.refl w).push mY;have d:=aI h mY;refine I5 a h _ ⟨_,HQ,ah (λq=>?_) (λq=>ah (λc=>?_) (λc=>?_))⟩
 ·have q:=dT q;exact yX w b d (Nat.le_refl _) (by omega)
 ·have c:=dT c;exact yX w b d (Nat.le_refl _) (by omega)
 ·have q:=dF q;have c:=dF c;have m:(h.push mY).next=h.next+1:=rfl;generalize h.push mY=g at*;have l:=(Ok.refl b.wf).room 7;refine(Zf a l.wf).mono ?_;rintro _ o ⟨rfl,k⟩;obtain⟨e,i⟩:=Ox b.wf (n:=7) (j:=3) (by omega) k (.cells ((List.replicate 1 Aq).map jd).flatten 44 2 true);have f:=e.ext _ _ d;refine⟨_,rfl,_,_,_,abi 1 (by omega),?_⟩;exact Md w (b.trans e) f (Nat.le_refl _) b.wf b e (by omega) (by omega) i (by omega)
section
noncomputable def iB(M:aH):List Nat:=(List.range M.ak.length).filter λx=>@decide (fU M x) (Classical.propDecidable _)
noncomputable def dR(M:aH):aH×Int:=@ite _ (cn M=true) _ (@ite _ (fU M M.start.toNat) (Classical.propDecidable _) (ig M (iB M),0) (sZ M.kind)) (CW,1)
theorem yl{M:aH}(h:cn M=false):dR M=(CW,1):=by unfold dR;rw[h];rfl
theorem CG{M:aH}(h:cn M=true)(a:¬fU M M.start.toNat):dR M=sZ M.kind:=by unfold dR;rw[if_pos h,if_neg a]
theorem Ki{M:aH}(h:cn M=true)(a:fU M M.start.toNat):dR M=(ig M (iB M),0):=by unfold dR;rw[if_pos h,if_pos a]
theorem pw(M:aH):AH M.ak.length (iB M):=⟨λx a=>List.mem_range.1 (List.mem_filter.1 a).1,List.nodup_range.filter _⟩
theorem YQ{M:aH}{L:List Bool}(c:m=M.ak.length)(a:∀x,x<m->(L.getD x false=true↔fU M x)):(List.range m).filter (λx=>L.getD x false)=iB M:=by
 unfold iB;subst c;refine List.filter_congr λx b=>?_;exact H4 (a x (List.mem_range.1 b))
section
variable {h:aa} {M:aH} {a:Option Addr} {n c:Nat}
def QA(L:List Bool)(i:Nat):List Nat:=(List.range i).filter λx=>L.getD x false
theorem QB(L:List Bool)(i:Nat):QA L (i+1)=QA L i++(if L.getD i false=true then[i]else[]):=by
 unfold QA;rw[List.range_succ,List.filter_append];congr 1;split<;>simp_all
theorem Uq(L:List Bool)(i:Nat):(QA L i).length<=i:=by
 have:=List.length_filter_le (λx=>L.getD x false) (List.range i);rwa[List.length_range]at this
theorem VZ{h d:aa}(w:Wf h)(o:Ok h g){b:Nat}(i:g.get b=some mY)(e:h.next<=b){R:aH}{v:Value}(k:YR g R v d):∃cs:List Value,v = .agg ⟨cs⟩/\∃u:aY,aj SS.P 24 (.pointer (some ⟨b,0,none⟩)) (.agg ⟨cs⟩) d=some (undef,u)/\di SS [(.pointer (some ⟨b,0,none⟩),some 24),(.int .i64 0,none)] (u.app d) (JL h (R,0)):=by
 obtain⟨a,n,c,m,rfl,f,l,j⟩:=k;exact⟨_,rfl,wh w (o.trans j) (j.ext _ _ i) e (R:=(R,0)) f l o (.inl (o.wf _ _ i))⟩
theorem V0{h d:aa}(w:Wf h)(o:Ok h g){b:Nat}(j:g.get b=some mY)(f:h.next<=b){R:aH×Int}{v:Value}(l:JL g R v d):∃cs:List Value,∃e:Int,v = .tuple ⟨[.agg ⟨cs⟩,.int .i64 e]⟩/\∃u:aY,aj SS.P 24 (.pointer (some ⟨b,0,none⟩)) (.agg ⟨cs⟩) d=some (undef,u)/\di SS [(.pointer (some ⟨b,0,none⟩),some 24),(.int .i64 e,none)] (u.app d) (JL h R):=by
 obtain⟨a,n,c,p,rfl,i,m,k⟩:=l;exact⟨_,_,rfl,wh w (o.trans k) (k.ext _ _ j) f i m o (.inl (o.wf _ _ j))⟩
def tI(a:aa)(L:List Bool)(n:Nat)(b i:Nat)(t:Option Addr)(tn tc:Nat)(g:aa):Prop:=i<=n/\b=n-i/\ie a g 3 (.slice t tn tc) ((QA L i).map iv)/\Ok a g
theorem I7(tb:sO h)(w:Wf h)(p:Small M)(r:ep h (.slice a n c) M.ak):FW SS 39 [.agg ⟨ba M a n c⟩] h (JL h (dR M)):=by
 obtain⟨O,m⟩:=oQ w r;have G:n=M.ak.length:=O.len;have hn:n<=300:=by rw[G];exact p.He
 refine TZ (ba M a n c) h _ ⟨_,pZ M a n c,_,HQ,?_⟩;have n0:h.next<=(h.push (Bm M a n c)).next:=m.nx;generalize h.push (Bm M a n c)=Z at*;have k4:=aI Z mY;have o1:=(Ok.refl m.wf).push mY;have o:=m.trans o1;have y:=O.ok o1;generalize Z.push mY=g1 at*;generalize Z.next=K at*;refine⟨_,y.all,(xJ (tb.ok o) o.wf p y.row).mono ?_⟩;rintro _ g2 ⟨rfl,Y⟩;have C:=o.trans Y;have x:=y.ok Y;have J:=Y.ext _ _ k4;refine⟨_,rfl,ah (λq=>?_) (λq=>?_)⟩
 ·have q:cn M=false:=by simpa using q
  rw[yl q];exact⟨_,Ss,wh w C J n0 (R:=(CW,1)) (ps:=[]) rfl (iq.nil h g2) (Ok.refl w) (.inr ⟨rfl,rfl,rfl,rfl⟩)⟩
 have q:cn M=true:=by simpa using q
 have E:=rE q;have h0:=E.nR;have h1:=E.rB;refine⟨_,x.all,(E7 C.wf p E x.row).mono ?_⟩;rintro _ g3 ⟨kl,L,rfl,A,T⟩;have W:=A.row.ok;have d:=C.trans W;have B:=x.ok W;have I:=W.ext _ _ J;obtain⟨S,hS⟩:∃S:Nat,M.start=(S:Int):=⟨M.start.toNat,by omega⟩
 have H:M.start.toNat=S:=by omega
 have D:S<n:=by omega
 have lS:=B.l1;rw[hS]at lS;obtain⟨x1,x2⟩:=qG (c:=n) A.row.row A.len D;refine⟨_,_,_,rfl,_,pb _,_,lS,_,x1,_,x2,ah (λf=>?_) (λf=>?_)⟩
 ·have f:L.getD S false=false:=by simpa using f
  have V:¬fU M M.start.toNat:=by rw[H,<-T S D,f];exact Bool.false_ne_true
  rw[CG q V];refine⟨_,tP _,_,B.l0,(I6 M.kind d.wf).mono ?_⟩;intro v g4 U;exact V0 w d I n0 U
 ·have f:L.getD S false=true:=by simpa using f
  have V:fU M M.start.toNat:=by rw[H,<-T S D];exact f
  rw[Ki q V];refine xH (ba M a n c) h.next K (some ⟨kl,0,none⟩) n n (tI g3 L n) _ (λmz i t tn tc=>?_) n (i:=0) ⟨zero_le _,rfl,ie.nil _ _ _,Ok.refl d.wf⟩;intros;rename_i g x0;obtain⟨f1,rfl,F,k⟩:=x0;refine ah (λz=>?_) (λz=>?_)
  ·have z:=dT z;have X:i<n:=by omega
   obtain⟨y1,y2⟩:=qG (c:=n) (k.ext _ _ A.row.row) A.len X;have l:=QB L i;refine⟨_,y1,_,y2,ah (λQ=>?_) (λQ=>?_)⟩
   ·rw[if_pos Q]at l;have oP:=(Ok.refl k.wf).push (.cells [.int .i64 (i:Int)] 3 1 true);have kP:=aI g (.cells [.int .i64 (i:Int)] 3 1 true);have hl:=Uq L i;obtain⟨b,n',c',u,a1,a2,a3,a4,_⟩:=Vn d.wf (k.trans oP) (F.ok oP) kP (by rw[lM];omega);refine⟨_,_,_,tH _,b,n',c',u,a1,?_⟩;dsimp only;rw[bF X (by omega)];refine NX (n-(i+1)) (by omega) ⟨by omega,rfl,?_,a4⟩;rw[l,map_append];exact a3
   ·rw[if_neg (by rw[Q];exact Bool.false_ne_true),append_nil]at l;rw[bF X (by omega)];exact NX (n-(i+1)) (by omega) ⟨by omega,rfl,by rw[l];exact F,k⟩
  ·have z:=dF z;obtain rfl:n=i:=by omega
   have N:=d.trans k;have P:=B.ok k;have eo:QA L n=iB M:=YQ G T;rw[eo]at F;refine⟨_,P.all,(Yz N.wf E p.He (λs hs=>?_) P.row F.rd (pw M)).mono ?_⟩
   ·obtain⟨j,hj,e⟩:=List.mem_iff_getElem.1 hs;exact(Ap p (i:=j) (by rw[gE hj,e])).1
   ·intro v g5 U;exact VZ w N (k.ext _ _ I) n0 U
end
end
variable{w:Value}{Q:VH}
noncomputable def mC:FD:=ei Tryz.f108 [([1,1,0,1,0,0],[0,1,12,13])]
abbrev jq(a:OA)(n c:Nat)(b:OA)(m d:Nat)(i:Nat):LV:=[(.slice a n c),(.slice b m d),(iA n),(iA i)]
theorem Py(a:OA)(n c:Nat)(b:OA)(m d:Nat)(h:aa)(Q:VH)(e:aQ ((((n:Int):Int) !=(m:Int))) (Q (.bool false) h) (LL SS mC [1,1,0,1,0,0] (jq a n c b m d 0) h (KK SS mC [1,1,0,1,0] [] (EE SS mC Q)))):FW SS 108 [(.slice a n c),(.slice b m d)] h Q:=eu mC Tryz.func108 (ax e)
theorem vn(a:OA)(n c:Nat)(b:OA)(m d:Nat)  (f:Nat->Nat->aa->Prop) (Q:VH) (step:∀(e:Nat)(i:Nat)(j:Nat->Value)(h:aa),f e i h->aQ (decide (((i:Int):Int)<(n:Int))) (xP (ai SS.P 27 (.slice a n c) (iA i)) λl=>xI .i64 (ae SS.P 3 (room h 9) (.pointer (some l))) λk=>xP (ai SS.P 27 (.slice b m d) (iA i)) λo=>xI .i64 (ae SS.P 3 (room h 9) (.pointer (some o))) λp=>aQ (((k:Int) !=p)) (Q (.bool false) (room h 9)) (aJ (fB (jq a n c b m d) f) e [(.slice a n c),(.slice b m d),(iA n),(.int .i64 (wrap .i64 ((i:Int)+1)))] (room h 9))) (Q (.bool true) h)) (e:Nat) {i:Nat} {h:aa} (g:f e i h):LL SS mC [1,1,0,1,0,0] (jq a n c b m d i) h (KK SS mC [1,1,0,1,0] [] (EE SS mC Q)):=
 dQ (jq a n c b m d) f (λe i j h g=>ax (step e i j h g)) e g
noncomputable def jS:FD:=ei Tryz.f122 [([1,0,0],[0,2,3])]
abbrev iF(a:OA)(n c:Nat)(i:Nat)(j:Int):LV:=[(.slice a n c),(iA i),(.int .i64 j)]
theorem MA(a:OA)(n c:Nat)(h:aa)(Q:VH)(b:LL SS jS [1,0,0] (iF a n c 0 (wrap .i64 ((n:Int)-1))) h (KK SS jS [1,0] [] (EE SS jS Q))):FW SS 122 [(.slice a n c)] h Q:=eu jS Tryz.func122 (ax b)
theorem uh(a:OA)(n c:Nat)  (d:Nat->Nat->Int->aa->Prop) (Q:VH) (step:∀(b:Nat)(i:Nat)(j:Int)(g:Nat->Value)(h:aa),d b i j h->aQ (decide (((i:Int):Int)<j)) (xP (ai SS.P 27 (.slice a n c) (.int .i64 j)) λp=>xI .i64 (ae SS.P 3 (room h 16) (.pointer (some p))) λl=>xP (ai SS.P 27 (.slice a n c) (iA i)) λq=>xI .i64 (ae SS.P 3 (room h 16) (.pointer (some q))) λr=>xP (ai SS.P 27 (.slice a n c) (iA i)) λo=>xU (aj SS.P 3 (.pointer (some o)) (.int .i64 l) (room h 16)) (room h 16) λs f=>xP (ai SS.P 27 (.slice a n c) (.int .i64 j)) λm=>xU (aj SS.P 3 (.pointer (some m)) (.int .i64 r) f) f λt k=>aJ (C1 (iF a n c) d) b [(.slice a n c),(.int .i64 (wrap .i64 ((i:Int)+1))),(.int .i64 (wrap .i64 (j-1)))] k) (Q (.tuple ⟨[]⟩) h)) (b:Nat) {i:Nat} {j:Int} {h:aa} (e:d b i j h):LL SS jS [1,0,0] (iF a n c i j) h (KK SS jS [1,0] [] (EE SS jS Q)):=
 tl (iF a n c) d (λb i j g h e=>ax (step b i j g h e)) b e
noncomputable def Pn:FD:=ei Tryz.f148 []
theorem Ld(p:Addr)(n c:Nat)(h:aa)(Q:VH)(e:xR (az SS.P 27 0 []) h λl b g a=>xE (aE SS.P 27 27 (sA (h.next) b g) (.slice (some p) n c) a) a λi f d k j=>Q (.slice i f d) j):FW SS 148 [(.slice (some p) n c)] h Q:=eu Pn Tryz.func148 (ax e)
noncomputable def SK:FD:=ei Tryz.f148 []
theorem Pm  (h:aa) (Q:VH) (a:Q nA h):FW SS 148 [nA] h Q:=eu SK Tryz.func148 (ax a)
noncomputable def YS:FD:=ei Tryz.f109 []
theorem Ur(s k:LV)(h:aa)(Q:VH)(w:xN (dK SS.P 66 (.agg ⟨s⟩)) h λA b=>xN (dK SS.P 105 (.agg ⟨k⟩)) b λB a=>xP (af SS.P 66 (pA (h.next)) 0) λv=>xP (af SS.P 24 (.pointer (some v)) 3) λz=>xL (ae SS.P 22 a (.pointer (some z))) λx y u=>xP (af SS.P 105 (pA (b.next)) 0) λj=>xI .i64 (ae SS.P 3 a (.pointer (some j))) λm=>xP (ai SS.P 22 (.slice x y u) (.int .i64 m)) λn=>xP (af SS.P 44 (.pointer (some n)) 0) λp=>xS (ae SS.P 9 a (.pointer (some p))) λe=>aQ (!((e:LB)==[])) (xP (af SS.P 66 (pA (h.next)) 1) λg=>xP (af SS.P 24 (.pointer (some g)) 3) λl=>xL (ae SS.P 22 a (.pointer (some l))) λt i o=>xP (af SS.P 105 (pA (b.next)) 1) λq=>xI .i64 (ae SS.P 3 a (.pointer (some q))) λr=>xP (ai SS.P 22 (.slice t i o) (.int .i64 r)) λd=>xP (af SS.P 44 (.pointer (some d)) 0) λc=>xS (ae SS.P 9 a (.pointer (some c))) λf=>Q (.bool (!((f:LB)==[]))) a) (Q (.bool false) a)):FW SS 109 [(.agg ⟨s⟩),(.agg ⟨k⟩)] h Q:=eu YS Tryz.func109 (ax w)
noncomputable def df:FD:=ei Tryz.f111 [([1,0,1,0,0],[2,3,4,19,20,21]),([1,0,1,0,0,1,1,0,0,1,1,1,0,0],[2,3,4,7,19,20,21,45,46,47]),([1,1,1,0,0],[2,3,4,79,80,81])]
abbrev gi(b:Nat)(e f:LV)(g d:Nat)(a:OA)(n c:Nat)(i:Nat):LV:=[(.func (.func b) ⟨e⟩ ⟨f⟩),(pA g),(pA d),(.slice a n c),(iA n),(iA i)]
abbrev kA(e:Nat)(g h:LV)(l f:Nat)(a:OA)(n c k:Nat)(b:OA)(m d i:Nat)(j:Nat):LV:=[(.func (.func e) ⟨g⟩ ⟨h⟩),(pA l),(pA f),(pA k),(.slice a n c),(iA n),(iA i),(.slice b m d),(iA m),(iA j)]
abbrev kC(b:Nat)(e f:LV)(g d:Nat)(a:OA)(n c:Nat)(i:Nat):LV:=[(.func (.func b) ⟨e⟩ ⟨f⟩),(pA g),(pA d),(.slice a n c),(iA n),(iA i)]
theorem Vs(o g:LV)(e:Nat)(l n:LV)(h:aa)(Q:VH)(r:xN (dK SS.P 66 (.agg ⟨o⟩)) h λv c=>xN (dK SS.P 105 (.agg ⟨g⟩)) c λw a=>xP (af SS.P 66 (pA (h.next)) 0) λq=>xP (af SS.P 24 (.pointer (some q)) 3) λu=>xL (ae SS.P 22 a (.pointer (some u))) λs t p=>xP (af SS.P 105 (pA (c.next)) 0) λf=>xI .i64 (ae SS.P 3 a (.pointer (some f))) λi=>xP (ai SS.P 22 (.slice s t p) (.int .i64 i)) λj=>xP (af SS.P 44 (.pointer (some j)) 1) λm=>xL (ae SS.P 42 a (.pointer (some m))) λd b k=>LL SS df [1,0,1,0,0] [(.func (.func e) ⟨l⟩ ⟨n⟩),(pA (h.next)),(pA (c.next)),(.slice d b k),(iA b),(.int .i64 0)] a (KK SS df [1,0,1,0] [] (EE SS df Q))):FW SS 111 [(.agg ⟨o⟩),(.agg ⟨g⟩),(.func (.func e) ⟨l⟩ ⟨n⟩)] h Q:=eu df Tryz.func111 (ax r)
theorem yh(pv kv:LV)(e:Nat)(k l:LV)(f d:Nat)(a:OA)(n c:Nat)(g:Nat->Nat->aa->Prop)(Q:VH)(step:∀(j:Nat) (i:Nat) (O:Nat->Value) (h:aa),g j i h->aQ (decide (((i:Int):Int)<(n:Int))) (xP (ai SS.P 42 (.slice a n c) (iA i)) λG=>xA (ae SS.P 46 h (.pointer (some G))) λs=>xN (aA SS.P 46) h λx4 p=>xU (aj SS.P 46 (pA (h.next)) (.agg ⟨s⟩) p) p λx3 b=>xP (af SS.P 46 (pA (h.next)) 0) λr=>xI .i64 (ae SS.P 3 b (.pointer (some r))) λF=>aQ (((F:Int)==0)) (xP (af SS.P 46 (pA (h.next)) 1) λJ=>xI .i64 (ae SS.P 3 b (.pointer (some J))) λW=>xA (aD SS.P 116 [(0,(.int .i64 0)),(1,(.int .i64 W)),(2,(.int .i64 0))]) λC=>xP (af SS.P 46 (pA (h.next)) 3) λP=>xI .i64 (ae SS.P 3 b (.pointer (some P))) λx=>xP (af SS.P 105 (pA d) 1) λw=>xI .i64 (ae SS.P 3 b (.pointer (some w))) λK=>xA (aD SS.P 105 [(0,(.int .i64 x)),(1,(.int .i64 K))]) λI=>aQ (Nat.blt e YB) (FW SS e (k++[(.agg ⟨C⟩),(.agg ⟨I⟩)]++l) b λA M=>A=(.tuple ⟨[]⟩)/\aJ (fB (gi e k l f d a n c) g) j [(.func (.func e) ⟨k⟩ ⟨l⟩),(pA f),(pA d),(.slice a n c),(iA n),(.int .i64 (wrap .i64 ((i:Int)+1)))] M) False) (xP (af SS.P 66 (pA f) 1) λV=>xP (af SS.P 24 (.pointer (some V)) 3) λy=>xL (ae SS.P 22 b (.pointer (some y))) λu x0 X=>xP (af SS.P 105 (pA d) 1) λE=>xI .i64 (ae SS.P 3 b (.pointer (some E))) λR=>xP (ai SS.P 22 (.slice u x0 X) (.int .i64 R)) λx1=>xP (af SS.P 44 (.pointer (some x1)) 1) λU=>xL (ae SS.P 42 b (.pointer (some U))) λD m S=>LL SS df [1,0,1,0,0,1,1,0,0,1,1,1,0,0] [(.func (.func e) ⟨k⟩ ⟨l⟩),(pA f),(pA d),(pA (h.next)),(.slice a n c),(iA n),(iA i),(.slice D m S),(iA m),(.int .i64 0)] b (KK SS df [1,1,0,0,1,1,1,0] [1,0,1,0,0] (RR df [1,0,1,0,0] (fB (gi e k l f d a n c) g) j (KK SS df [1,0,1,0] [] (EE SS df Q)))))) (xP (af SS.P 66 (pA f) 1) λT=>xP (af SS.P 24 (.pointer (some T)) 3) λt=>xL (ae SS.P 22 h (.pointer (some t))) λY Z x2=>xP (af SS.P 105 (pA d) 1) λH=>xI .i64 (ae SS.P 3 h (.pointer (some H))) λv=>xP (ai SS.P 22 (.slice Y Z x2) (.int .i64 v)) λL=>xP (af SS.P 44 (.pointer (some L)) 1) λN=>xL (ae SS.P 42 h (.pointer (some N))) λz o B=>LL SS df [1,1,1,0,0] [(.func (.func e) ⟨k⟩ ⟨l⟩),(pA f),(pA d),(.slice z o B),(iA o),(.int .i64 0)] h (KK SS df [1,1,1,0] [] (EE SS df Q))))(j:Nat){i:Nat}{h:aa}(q:g j i h):LL SS df [1,0,1,0,0] (gi e k l f d a n c i) h (KK SS df [1,0,1,0] [] (EE SS df Q)):=
 dQ (gi e k l f d a n c) g (λj i O h q=>ax (step j i O h q)) j q
theorem yi(V U:LV)(g:Nat)(l o:LV)(r q:Nat)(a:OA)(n c:Nat)(p:Nat)(b:OA)(m d:Nat)(s:Nat->Nat->aa->Prop)(w i:Nat)(k:Nat->Nat->aa->Prop)(Q:VH)(step:∀(f:Nat) (j:Nat) (C:Nat->Value) (h:aa),k f j h->aQ (decide (((j:Int):Int)<(m:Int))) (xP (ai SS.P 42 (.slice b m d) (iA j)) λv=>xA (ae SS.P 46 h (.pointer (some v))) λP=>xN (aA SS.P 46) h λT t=>xU (aj SS.P 46 (pA (h.next)) (.agg ⟨P⟩) t) t λS e=>xP (af SS.P 46 (pA (h.next)) 0) λL=>xI .i64 (ae SS.P 3 e (.pointer (some L))) λy=>xP (af SS.P 46 (pA p) 0) λH=>xI .i64 (ae SS.P 3 e (.pointer (some H))) λJ=>aQ (((y:Int)==J)) (xP (af SS.P 46 (pA p) 0) λI=>xI .i64 (ae SS.P 3 e (.pointer (some I))) λR=>xP (af SS.P 46 (pA p) 1) λM=>xI .i64 (ae SS.P 3 e (.pointer (some M))) λN=>xP (af SS.P 46 (pA (h.next)) 1) λz=>xI .i64 (ae SS.P 3 e (.pointer (some z))) λE=>xA (aD SS.P 116 [(0,(.int .i64 R)),(1,(.int .i64 N)),(2,(.int .i64 E))]) λF=>xP (af SS.P 46 (pA p) 3) λK=>xI .i64 (ae SS.P 3 e (.pointer (some K))) λD=>xP (af SS.P 46 (pA (h.next)) 3) λx=>xI .i64 (ae SS.P 3 e (.pointer (some x))) λB=>xA (aD SS.P 105 [(0,(.int .i64 D)),(1,(.int .i64 B))]) λO=>aQ (Nat.blt g YB) (FW SS g (l++[(.agg ⟨F⟩),(.agg ⟨O⟩)]++o) e λG A=>G=(.tuple ⟨[]⟩)/\aJ (fB (kA g l o r q a n c p b m d i) k) f [(.func (.func g) ⟨l⟩ ⟨o⟩),(pA r),(pA q),(pA p),(.slice a n c),(iA n),(iA i),(.slice b m d),(iA m),(.int .i64 (wrap .i64 ((j:Int)+1)))] A) False) (aJ (fB (kA g l o r q a n c p b m d i) k) f [(.func (.func g) ⟨l⟩ ⟨o⟩),(pA r),(pA q),(pA p),(.slice a n c),(iA n),(iA i),(.slice b m d),(iA m),(.int .i64 (wrap .i64 ((j:Int)+1)))] e)) (aJ (fB (gi g l o r q a n c) s) w [(.func (.func g) ⟨l⟩ ⟨o⟩),(pA r),(pA q),(.slice a n c),(iA n),(.int .i64 (wrap .i64 ((i:Int)+1)))] h))(f:Nat){j:Nat}{h:aa}(u:k f j h):LL SS df [1,0,1,0,0,1,1,0,0,1,1,1,0,0] (kA g l o r q a n c p b m d i j) h (KK SS df [1,1,0,0,1,1,1,0] [1,0,1,0,0] (RR df [1,0,1,0,0] (fB (gi g l o r q a n c) s) w (KK SS df [1,0,1,0] [] (EE SS df Q)))):=
 dQ (kA g l o r q a n c p b m d i) k (λf j C h u=>ax (step f j C h u)) f u
theorem yj(H G:LV)(f:Nat)(j k:LV)(l g:Nat)(a:OA)(n c:Nat)(d:Nat->Nat->aa->Prop)(Q:VH)(step:∀(b:Nat) (i:Nat) (w:Nat->Value) (h:aa),d b i h->aQ (decide (((i:Int):Int)<(n:Int))) (xP (ai SS.P 42 (.slice a n c) (iA i)) λC=>xA (ae SS.P 46 h (.pointer (some C))) λu=>xN (aA SS.P 46) h λF m=>xU (aj SS.P 46 (pA (h.next)) (.agg ⟨u⟩) m) m λE e=>xP (af SS.P 46 (pA (h.next)) 0) λD=>xI .i64 (ae SS.P 3 e (.pointer (some D))) λs=>aQ (((s:Int)==0)) (xP (af SS.P 46 (pA (h.next)) 1) λq=>xI .i64 (ae SS.P 3 e (.pointer (some q))) λy=>xA (aD SS.P 116 [(0,(.int .i64 0)),(1,(.int .i64 0)),(2,(.int .i64 y))]) λr=>xP (af SS.P 105 (pA g) 0) λA=>xI .i64 (ae SS.P 3 e (.pointer (some A))) λv=>xP (af SS.P 46 (pA (h.next)) 3) λt=>xI .i64 (ae SS.P 3 e (.pointer (some t))) λB=>xA (aD SS.P 105 [(0,(.int .i64 v)),(1,(.int .i64 B))]) λz=>aQ (Nat.blt f YB) (FW SS f (j++[(.agg ⟨r⟩),(.agg ⟨z⟩)]++k) e λx o=>x=(.tuple ⟨[]⟩)/\aJ (fB (kC f j k l g a n c) d) b [(.func (.func f) ⟨j⟩ ⟨k⟩),(pA l),(pA g),(.slice a n c),(iA n),(.int .i64 (wrap .i64 ((i:Int)+1)))] o) False) (aJ (fB (kC f j k l g a n c) d) b [(.func (.func f) ⟨j⟩ ⟨k⟩),(pA l),(pA g),(.slice a n c),(iA n),(.int .i64 (wrap .i64 ((i:Int)+1)))] e)) (Q (.tuple ⟨[]⟩) h))(b:Nat){i:Nat}{h:aa}(p:d b i h):LL SS df [1,1,1,0,0] (kC f j k l g a n c i) h (KK SS df [1,1,1,0] [] (EE SS df Q)):=
 dQ (kC f j k l g a n c) d (λb i w h p=>ax (step b i w h p)) b p
noncomputable def cd:FD:=ei Tryz.f105 [([1,1,1,0,1,0,0],[1,2,3,5])]
abbrev ft(b a c:Nat)(i:Nat):LV:=[(pA b),(pA a),(pA c),(iA i)]
theorem Js(g:LV)(h:aa)(Q:VH)(p:xN (dK SS.P 66 (.agg ⟨g⟩)) h λs j=>xN (aA SS.P 162) j λt k=>xN (aA SS.P 163) k λu a=>xP (af SS.P 66 (pA (h.next)) 0) λm=>xP (af SS.P 24 (.pointer (some m)) 1) λl=>xI .i64 (ae SS.P 3 a (.pointer (some l))) λi=>xP (af SS.P 66 (pA (h.next)) 1) λb=>xP (af SS.P 24 (.pointer (some b)) 1) λf=>xI .i64 (ae SS.P 3 a (.pointer (some f))) λe=>xA (aD SS.P 105 [(0,(.int .i64 i)),(1,(.int .i64 e))]) λd=>xN (aA SS.P 105) a λr c=>xU (aj SS.P 105 (pA (a.next)) (.agg ⟨d⟩) c) c λq n=>wpD SS cd.nm (UT (jD [1,1,0] cd.body)) (fr (uN [(.agg ⟨g⟩),(pA (h.next)),(pA (j.next)),(pA (k.next)),(pA (a.next)),undef,(.pointer (some m)),(.pointer (some l)),(.int .i64 i),(.pointer (some b)),(.pointer (some f)),(.int .i64 e),(.agg ⟨d⟩)] 20)) n (lift cd.nm λo h=>(KK SS cd [1,1,0] [] (EE SS cd Q)) .normal o h)):FW SS 105 [(.agg ⟨g⟩)] h Q:=eu cd Tryz.func105 (ax p)
theorem zO{E H F I u x c r j A C q z y d b a g l D t o f s p e B:Value}(G:LL SS cd [1,1,1,0,1,0,0] (ft n m k 0) h (KK SS cd [1,1,1,0,1,0] [] (EE SS cd Q))):(KK SS cd [1,1,0] [] (EE SS cd Q)) .normal [v,(pA n),(pA m),(pA k),(pA i),w,E,H,F,I,u,x,c,r,j,A,C,q,z,y,d,b,a,g,l,D,t,o,f,s,p,e,B] h:=ax G
theorem sE(C:LV)(g a b:Nat)(d:Nat->Nat->aa->Prop)(Q:VH)(step:∀(c:Nat) (i:Nat) (t:Nat->Value) (h:aa),d c i h->xL (ae SS.P 162 h (pA a)) λz q A=>aQ (decide (((i:Int):Int)<(q:Int))) (xA (ae SS.P 66 (room h 7) (pA g)) λk=>xL (ae SS.P 162 (room h 7) (pA a)) λr s w=>xP (ai SS.P 162 (.slice r s w) (iA i)) λp=>xA (ae SS.P 105 (room h 7) (.pointer (some p))) λu=>FW SS 111 [(.agg ⟨k⟩),(.agg ⟨u⟩),(.func (.func 144) ⟨[]⟩ ⟨[(pA b),(pA a)]⟩)] (room h 7) λx v=>x=(.tuple ⟨[]⟩)/\aJ (fB (ft g a b) d) c [(pA g),(pA a),(pA b),(.int .i64 (wrap .i64 ((i:Int)+1)))] v) (xL (ae SS.P 162 (room h 4) (pA a)) λl n m=>xV (ae SS.P 163 (room h 4) (pA b)) λe=>xU (aj SS.P 162 (pA a) (.slice l n m) (room h 4)) (room h 4) λy f=>xU (aj SS.P 163 (pA b) e f) f λB o=>(ae SS.P 163 f (pA b)=some e/\cZ 4 e e=true)/\di SS [((pA a),some 162),((pA b),some 163)] o Q))(c:Nat){i:Nat}{h:aa}(j:d c i h):LL SS cd [1,1,1,0,1,0,0] (ft g a b i) h (KK SS cd [1,1,1,0,1,0] [] (EE SS cd Q)):=
 dQ (ft g a b) d (λc i t h j=>ax (step c i t h j)) c j
noncomputable def QF:FD:=ei Tryz.f144 []
theorem Mj(l n:LV)(g c:Nat)(h:aa)(Q:VH)(x:xN (dK SS.P 116 (.agg ⟨l⟩)) h λI d=>xN (dK SS.P 105 (.agg ⟨n⟩)) d λJ a=>xV (ae SS.P 163 a (pA g)) λy=>xA (ae SS.P 105 a (pA (d.next))) λA=>∃z:Int,∃m:Bool,(jF SS.P 163 y (.agg ⟨A⟩) true a)=some (.tuple ⟨[(.int .i64 z),(.bool m)]⟩)/\aQ (!m) (xV (ae SS.P 163 a (pA g)) λB=>xA (ae SS.P 105 a (pA (d.next))) λv=>xL (ae SS.P 162 a (pA c)) λE q G=>xU (gG SS.P 163 B (.agg ⟨v⟩) (iA q) a) a λC b=>xL (ae SS.P 162 b (pA c)) λo w i=>xA (ae SS.P 105 b (pA (d.next))) λs=>xR (az SS.P 162 1 [(0,(.agg ⟨s⟩))]) b λH t j f=>xE (aE SS.P 162 162 (.slice o w i) (sA (b.next) t j) f) f λp k r F e=>xU (aj SS.P 162 (pA c) (.slice p k r) e) e λD u=>Q (.tuple ⟨[]⟩) u) (Q (.tuple ⟨[]⟩) a)):FW SS 144 [(.agg ⟨l⟩),(.agg ⟨n⟩),(pA g),(pA c)] h Q:=eu QF Tryz.func144 (ax x)
noncomputable def QG:FD:=ei Tryz.f145 []
theorem Mk(r A:LV)(i k u:Nat)(h:aa)(Q:VH)(I:xN (dK SS.P 116 (.agg ⟨r⟩)) h λL f=>xN (dK SS.P 105 (.agg ⟨A⟩)) f λM a=>xL (ae SS.P 126 (room a 15) (pA i)) λl j g=>xV (ae SS.P 163 (room a 15) (pA k)) λe=>xA (ae SS.P 105 (room a 15) (pA (f.next))) λd=>xI .i64 (jF SS.P 163 e (.agg ⟨d⟩) false (room a 15)) λc=>xL (ae SS.P 126 (room a 15) (pA i)) λo C x=>xV (ae SS.P 163 (room a 15) (pA k)) λn=>xA (ae SS.P 105 (room a 15) (pA (f.next))) λH=>xI .i64 (jF SS.P 163 n (.agg ⟨H⟩) false (room a 15)) λq=>xP (ai SS.P 126 (.slice o C x) (.int .i64 q)) λw=>xL (ae SS.P 27 (room a 15) (.pointer (some w))) λv z y=>xI .i64 (ae SS.P 3 (room a 15) (pA u)) λE=>zR (az SS.P 27 1 [(0,(.int .i64 E))]) λm B G=>xE (aE SS.P 27 27 (.slice v z y) (sA (a.next+11) B G) (av (room a 15) a.next [(11,m)])) (av (room a 15) a.next [(11,m)]) λs F t J b=>xP (ai SS.P 126 (.slice l j g) (.int .i64 c)) λp=>xU (aj SS.P 27 (.pointer (some p)) (.slice s F t) b) b λK D=>(ae SS.P 126 b (pA i)=some (.slice l j g)/\cZ 4 (.slice l j g) (.slice l j g)=true)/\(ae SS.P 163 b (pA k)=some e/\cZ 4 e e=true)/\(ae SS.P 105 b (pA (f.next))=some (.agg ⟨d⟩)/\cZ 4 (.agg ⟨d⟩) (.agg ⟨d⟩)=true)/\(jF SS.P 163 e (.agg ⟨d⟩) false b=some (.int .i64 c)/\cZ 4 (.int .i64 c) (.int .i64 c)=true)/\Q (.tuple ⟨[]⟩) D):FW SS 145 [(.agg ⟨r⟩),(.agg ⟨A⟩),(pA i),(pA k),(pA u)] h Q:=eu QG Tryz.func145 (ax I)
noncomputable def QH:FD:=ei Tryz.f147 []
theorem Ml(s F:LV)(M j c d i:Nat)(h:aa)(Q:VH)(T:xN (dK SS.P 116 (.agg ⟨s⟩)) h λB1 p=>xN (dK SS.P 105 (.agg ⟨F⟩)) p λB3 a=>xV (ae SS.P 163 (room a 12) (pA M)) λU=>xA (ae SS.P 105 (room a 12) (pA (p.next))) λW=>xI .i64 (jF SS.P 163 U (.agg ⟨W⟩) false (room a 12)) λV=>xI .i64 (ae SS.P 3 (room a 12) (pA j)) λX=>aQ (((V:Int)==X)) (xL (ae SS.P 166 (room a 12) (pA c)) λS x N=>xI .i64 (ae SS.P 3 (room a 12) (pA d)) λI=>xP (ai SS.P 166 (.slice S x N) (.int .i64 I)) λJ=>xO (ae SS.P 168 (room a 12) (.pointer (some J))) λm=>xB (ay SS.P .eql 168 (.pointer m) (.pointer none)) λt=>aQ t (xL (ae SS.P 166 (room (room a 12) 11) (pA c)) λG P k=>xI .i64 (ae SS.P 3 (room (room a 12) 11) (pA d)) λE=>xA (ae SS.P 116 (room (room a 12) 11) (pA (h.next))) λD=>xL (ae SS.P 166 (room (room a 12) 11) (pA c)) λq R o=>xI .i64 (ae SS.P 3 (room (room a 12) 11) (pA j)) λA=>xP (ai SS.P 166 (.slice q R o) (.int .i64 A)) λB=>xO (ae SS.P 168 (room (room a 12) 11) (.pointer (some B))) λn=>xA (aD SS.P 170 [(0,(.agg ⟨D⟩)),(1,(.pointer n))]) λy=>zN (dK SS.P 170 (.agg ⟨y⟩)) λg=>xP (ai SS.P 166 (.slice G P k) (.int .i64 E)) λO=>xU (aj SS.P 168 (.pointer (some O)) (pA ((room a 12).next+8)) (av (room (room a 12) 11) (room a 12).next [(8,g)])) (av (room (room a 12) 11) (room a 12).next [(8,g)]) λx0 b=>xL (ae SS.P 27 b (pA i)) λz w C=>xI .i64 (ae SS.P 3 b (pA d)) λv=>xR (az SS.P 27 1 [(0,(.int .i64 v))]) b λZ u l e=>xE (aE SS.P 27 27 (.slice z w C) (sA (b.next) u l) e) e λK L H x1 f=>xU (aj SS.P 27 (pA i) (.slice K L H) f) f λY r=>Q (.tuple ⟨[]⟩) r) (Q (.tuple ⟨[]⟩) (room a 12))) (Q (.tuple ⟨[]⟩) (room a 12))):FW SS 147 [(.agg ⟨s⟩),(.agg ⟨F⟩),(pA M),(pA j),(pA c),(pA d),(pA i)] h Q:=eu QH Tryz.func147 (ax T)
variable{M:aH}
section
abbrev NN:=Nat×Nat
def kV(k:NN):List Value:=[.int .i64 (k.1:Int),.int .i64 (k.2:Int)]
def rZ(m:Mv):List Value:=[.int .i64 m.i,.int .i64 m.l,.int .i64 m.r]
theorem XC(a b c d:Int):eF SS.P 3 105 (.agg ⟨[.int .i64 a,.int .i64 b]⟩) (.agg ⟨[.int .i64 c,.int .i64 d]⟩)=some ((a==c)&&(b==d)):=by
 have e:eF SS.P 3 105 (.agg ⟨[.int .i64 a,.int .i64 b]⟩) (.agg ⟨[.int .i64 c,.int .i64 d]⟩)=Bool.rec (motive:=λ_=>Option Bool) (some false) (Bool.rec (motive:=λ_=>Option Bool) (some false) (some true) (b==d)) (a==c):=by kernel_rfl
 rw[e]
 cases (a==c)<;>cases (b==d)<;>rfl
theorem Ty(x y:NN):qd SS.P 105 (.agg ⟨kV x⟩) (.agg ⟨kV y⟩)=some (decide (x=y)):=by
 unfold qd;rw[if_pos (show xy (Value.agg ⟨kV y⟩)=true from rfl)];rw[show eF SS.P 3 105 (.agg ⟨kV x⟩) (.agg ⟨kV y⟩)=_ from XC ..];by_cases h:x=y
 ·subst h;simp[kV,JS,zh,EO]
 ·have:((x.1:Int)==(y.1:Int)&&(x.2:Int)==(y.2:Int))=false:=by
   rw[Bool.and_eq_false_iff];refine Classical.byContradiction λe=>h ?_;rw[not_or]at e;obtain⟨a,b⟩:=e;simp only[Bool.not_eq_false,beq_iff_eq]at a b;exact Prod.ext (by omega) (by omega)
  rw[this];simp[h]
def BA(x:NN):List NN->Nat->Option Nat
 |[],_=>none
 |k::r,i=>if x=k then some i else BA x r (i+1)
def jo:List NN->Nat->List (Value×Value)
 |[],_=>[]
 |k::r,i=>(.agg ⟨kV k⟩,.int .i64 (i:Int))::jo r (i+1)
theorem Is:∀(l m:List NN)(i:Nat),jo (l++m) i=jo l i++jo m (i+l.length)
 |[],m,i=>by simp[jo]
 |k::l,m,i=>by rw[cons_append,jo,jo,Is l m (i+1),cons_append,length_cons,show i+1+l.length=i+(l.length+1) by omega]
theorem Ti(x:NN):∀(l:List NN)(i:Nat),od SS.P 105 (.agg ⟨kV x⟩) (jo l i)=some ((BA x l i).map λj:Nat=> .int .i64 (j:Int))
 |[],_=>rfl
 |k::l,i=>by
  show(match qd SS.P 105 (.agg ⟨kV x⟩) (.agg ⟨kV k⟩)with|some true=>some (some (Value.int .i64 (i:Int)))|some false=>od SS.P 105 (.agg ⟨kV x⟩) (jo l (i+1))|none=>none)=_;rw[Ty];by_cases h:x=k
  ·rw[decide_eq_true h,BA,if_pos h];rfl
  ·rw[decide_eq_false h,BA,if_neg h];exact Ti x l (i+1)
theorem IS{x:NN}:∀{l:List NN}{i:Nat}(v:Value),x∉l->ju SS.P 105 (.agg ⟨kV x⟩) v (jo l i)=some (jo l i++[(.agg ⟨kV x⟩,v)])
 |[],_,_,_=>rfl
 |k::l,i,v,h=>by
  show(match qd SS.P 105 (.agg ⟨kV x⟩) (.agg ⟨kV k⟩)with|some true=>some ((Value.agg ⟨kV x⟩,v)::jo l (i+1))|some false=>(ju SS.P 105 (.agg ⟨kV x⟩) v (jo l (i+1))).map ((Value.agg ⟨kV k⟩,Value.int .i64 (i:Int))::·)|none=>none)=_;rw[Ty,decide_eq_false (λe=>h (by rw[e];exact mem_cons_self ..))];dsimp only;rw[IS v λe=>h (List.mem_cons_of_mem _ e)];rfl
theorem Ek{x:NN}:∀{l:List NN}{i j:Nat},BA x l i=some j->i<=j/\l[j-i]?=some x
 |[],_,_,h=>by cases h
 | k::l,i,j,h=>by
  rw[BA]at h;split at h
  ·next e=>
   obtain rfl:=oI h;exact⟨Nat.le_refl _,by rw[sub_self,e];rfl⟩
  ·obtain⟨b,a⟩:=Ek h;refine⟨by omega,?_⟩;rw[show j-i=(j-(i+1))+1 by omega];exact a
theorem xv{x:NN}:∀{l:List NN}{i:Nat},BA x l i=none->x∉l
 |[],_,_=>by simp
 | k::l,i,h=>by
  rw[BA]at h;split at h
  ·cases h
  ·next e=>
   intro b;rcases mem_cons.1 b with a|a
   ·exact e a
   ·exact xv h a
def nc(a:List NN)(x:NN):Option Nat:=BA x a 0
theorem r8{a:List NN}{x:NN}(h:nc a x=some j):a[j]?=some x:=(Ek h).2
theorem qT{a:List NN}{x:NN}(h:x∈a):∃j,nc a x=some j/\a[j]?=some x:=by
 cases e:nc a x with
 |none=>exact absurd h (xv e)
 |some j=>exact⟨j,rfl,r8 e⟩
theorem oq:SS.P.underlying 163=some (.map 105 3):=by kernel_rfl
theorem aeh:zeroOf SS.P 3=some (.int .i64 0):=by kernel_rfl
theorem Ac{k:Nat}{a:List NN}(e:h.get k=some (.map (jo a 0)))(x:NN):jF SS.P 163 (.map (some k)) (.agg ⟨kV x⟩) true h=some (.tuple ⟨[.int .i64 (((nc a x).getD 0:Nat):Int),.bool (nc a x).isSome]⟩)/\jF SS.P 163 (.map (some k)) (.agg ⟨kV x⟩) false h=some (.int .i64 (((nc a x).getD 0:Nat):Int)):=by
 have c:∀b,jF SS.P 163 (.map (some k)) (.agg ⟨kV x⟩) b h=match (match h.get k with|some (.map d)=>some d|_=>none),zeroOf SS.P 3 with
  |some d,some z=>if kO SS.P 105 (.agg ⟨kV x⟩)then match od SS.P 105 (.agg ⟨kV x⟩) d with
   |some (some v)=>some (if b then .tuple #[v,.bool true]else v)
   |some none=>some (if b then .tuple #[z,.bool false]else z)
   |none=>none else none
  |_,_=>none:=λb=>by
  unfold jF bj;dsimp only;rw[oq];rfl
 rw[c,c,e,aeh];dsimp only;rw[show kO SS.P 105 (.agg ⟨kV x⟩)=true by kernel_rfl,if_pos rfl,Ti];unfold nc
 cases BA x a 0<;>exact⟨rfl,rfl⟩
theorem Wb{k:Nat}{a:List NN}(c:h.get k=some (.map (jo a 0))){x:NN}(b:x∉a):gG SS.P 163 (.map (some k)) (.agg ⟨kV x⟩) (.int .i64 (a.length:Int)) h=some (undef,.set k (.map (jo (a++[x]) 0))):=by
 unfold gG;rw[oq];dsimp only;rw[c];dsimp only;rw[show kO SS.P 105 (.agg ⟨kV x⟩)=true by kernel_rfl,if_pos rfl,IS _ b,Is];simp[jo]
structure eB where
 A:aH
 a:Option Addr
 n:Nat
 c:Nat
 B:aH
 b:Option Addr
 m:Nat
 d:Nat
def eB.arg(T:eB):List Value:=ba T.A T.a T.n T.c++ba T.B T.b T.m T.d
structure eB.Rows(T:eB)(g:aa):Prop where
 ra:ep g (.slice T.a T.n T.c) T.A.ak
 rb:ep g (.slice T.b T.m T.d) T.B.ak
theorem eB.Rows.ok{T:eB}{g:aa}(r:T.Rows g)(o:Ok g h):T.Rows h:=⟨r.ra.ok o,r.rb.ok o⟩
def kc(T:eB):bw:= .cells T.arg 66 0 true
def dh(k:NN):bw:= .cells (kV k) 105 0 true
def iG(m:Mv):bw:= .cells (rZ m) 116 0 true
theorem H5(T:eB):dK SS.P 66 (.agg ⟨T.arg⟩)=some (kc T,dX):=by kernel_rfl
theorem xg(k:NN):dK SS.P 105 (.agg ⟨kV k⟩)=some (dh k,dX):=by kernel_rfl
theorem AP(m:Mv):dK SS.P 116 (.agg ⟨rZ m⟩)=some (iG m,dX):=by kernel_rfl
theorem FP(k:Nat):af SS.P 66 (.pointer (some ⟨k,0,none⟩)) 0=some (.pointer (some ⟨k,0,none⟩)):=by kernel_rfl
theorem Br(k:Nat):af SS.P 66 (.pointer (some ⟨k,0,none⟩)) 1=some (.pointer (some ⟨k,4,none⟩)):=by kernel_rfl
theorem aa7(k:Nat):af SS.P 24 (.pointer (some ⟨k,4,none⟩)) 1=some (.pointer (some ⟨k,5,none⟩)):=by kernel_rfl
theorem Lp(k:Nat):af SS.P 24 (.pointer (some ⟨k,4,none⟩)) 3=some (.pointer (some ⟨k,7,none⟩)):=by kernel_rfl
theorem rT(k o:Nat):af SS.P 105 (.pointer (some ⟨k,o,none⟩)) 0=some (.pointer (some ⟨k,o+0,none⟩)):=by kernel_rfl
theorem nw(k o:Nat):af SS.P 105 (.pointer (some ⟨k,o,none⟩)) 1=some (.pointer (some ⟨k,o+1,none⟩)):=by kernel_rfl
theorem K0(a b c:Int):aD SS.P 116 [(0,(.int .i64 a)),(1,(.int .i64 b)),(2,(.int .i64 c))]=some (.agg ⟨rZ ⟨a,b,c⟩⟩):=by kernel_rfl
theorem mw(p q:Int):aD SS.P 105 [(0,(.int .i64 p)),(1,(.int .i64 q))]=some (.agg ⟨[.int .i64 p,.int .i64 q]⟩):=by kernel_rfl
theorem aeq:Go.Ab.isAgg SS.P 66=true:=by kernel_rfl
theorem R5:Go.Ab.isAgg SS.P 105=true:=by kernel_rfl
theorem ZU:Go.Ab.isAgg SS.P 116=true:=by kernel_rfl
theorem adQ:au SS.P 66=some 8:=by kernel_rfl
theorem CD:au SS.P 105=some 2:=by kernel_rfl
theorem Vz:au SS.P 116=some 3:=by kernel_rfl
noncomputable def aea:TypeDesc:=(SS.P.underlying 66).getD .bool
theorem ae4:SS.P.underlying 66=some aea:=by kernel_rfl
noncomputable def ab5:TypeDesc:=(SS.P.underlying 105).getD .bool
theorem V3:SS.P.underlying 105=some ab5:=by kernel_rfl
noncomputable def ab7:TypeDesc:=(SS.P.underlying 116).getD .bool
theorem aat:SS.P.underlying 116=some ab7:=by kernel_rfl
section
variable {g:aa} {k:Nat} {T:eB} {x:NN} {m:Mv}
theorem kc.all(h:g.get k=some (kc T)):ae SS.P 66 g (.pointer (some ⟨k,0,none⟩))=some (.agg ⟨T.arg⟩):=fE ae4 aeq adQ h (by simp[eB.arg,ba])
theorem kc.a1(h:g.get k=some (kc T)):ae SS.P 3 g (.pointer (some ⟨k,1,none⟩))=some (.int .i64 T.A.start):=aN lp ll h (by simp[eB.arg,ba])
theorem kc.a3(h:g.get k=some (kc T)):ae SS.P 22 g (.pointer (some ⟨k,3,none⟩))=some (.slice T.a T.n T.c):=aN rz zG h (by simp[eB.arg,ba])
theorem kc.b1(h:g.get k=some (kc T)):ae SS.P 3 g (.pointer (some ⟨k,5,none⟩))=some (.int .i64 T.B.start):=aN lp ll h (by simp[eB.arg,ba])
theorem kc.b3(h:g.get k=some (kc T)):ae SS.P 22 g (.pointer (some ⟨k,7,none⟩))=some (.slice T.b T.m T.d):=aN rz zG h (by simp[eB.arg,ba])
theorem dh.all(h:g.get k=some (dh x)):ae SS.P 105 g (.pointer (some ⟨k,0,none⟩))=some (.agg ⟨kV x⟩):=fE V3 R5 CD h (by simp[kV])
theorem dh.l0(h:g.get k=some (dh x)):ae SS.P 3 g (.pointer (some ⟨k,0+0,none⟩))=some (.int .i64 (x.1:Int)):=aN lp ll h (by simp[kV])
theorem dh.l1(h:g.get k=some (dh x)):ae SS.P 3 g (.pointer (some ⟨k,0+1,none⟩))=some (.int .i64 (x.2:Int)):=aN lp ll h (by simp[kV])
theorem iG.all(h:g.get k=some (iG m)):ae SS.P 116 g (.pointer (some ⟨k,0,none⟩))=some (.agg ⟨rZ m⟩):=fE aat ZU Vz h (by simp[rZ])
end
def gF(a:cq)(q:Nat)(c:List cq):List (Mv×NN):=if a.i=0 then[(⟨0,a.o,0⟩,(a.t.toNat,q))]else c.filterMap λb=>if b.i=a.i then some (⟨a.i,a.o,b.o⟩,(a.t.toNat,b.t.toNat))else none
def kW(p:Nat)(b:cq):Option (Mv×NN):=if b.i=0 then some (⟨0,0,b.o⟩,(p,b.t.toNat))else none
def dP(A B:aH)(k:NN):List (Mv×NN):=((bD A k.1).flatMap λa=>gF a k.2 (bD B k.2))++(bD B k.2).filterMap (kW k.1)
theorem fM{B:aH}{k j:NN}{m:Mv}:(m,j)∈dP M B k↔DQ M B k m j:=by
 obtain⟨p,q⟩:=k;unfold dP;rw[mem_append,List.mem_flatMap,List.mem_filterMap];constructor
 ·rintro(⟨a,f,h⟩|⟨b,d,h⟩)
  ·unfold gF at h;split at h
   ·next c=>
    rw[mem_singleton]at h;injection h with g i
    subst g;subst i;exact .left f c
   ·next c=>
    obtain⟨b,d,h⟩:=List.mem_filterMap.1 h;split at h
    ·next e=>
     injection h with h
     injection h with g i
     subst g;subst i;exact .both f d c e.symm
    ·cases h
  ·unfold kW at h;split at h
   ·next c=>
    injection h with h
    injection h with g i
    subst g;subst i;exact .right d c
   ·cases h
 ·intro h
  cases h with
  |left f c=>exact .inl ⟨_,f,by unfold gF;rw[if_pos c];exact mem_singleton.2 rfl⟩
  |right d c=>exact .inr ⟨_,d,by unfold kW;rw[if_pos c]⟩
  |both f d c e=>exact .inl ⟨_,f,by unfold gF;rw[if_neg c];exact List.mem_filterMap.2 ⟨_,d,if_pos e.symm⟩⟩
end
variable{A:Type}{z:Int}
section
def PD(M:aH)(s:Nat):Bool:= !((M.ak.getD s ⟨[],[]⟩).f==[])
theorem fY:PD M n=true↔fX M n:=by
 unfold PD fX
 cases (M.ak.getD n ⟨[],[]⟩).f<;>simp
theorem jB(h:n<M.ak.length):∃x:eC,M.ak[n]?=some x/\bD M n=x.an/\PD M n = !(x.f==[])/\x∈M.ak:=by
 refine⟨M.ak[n],gE h,?_,?_,List.getElem_mem h⟩
 ·unfold bD;rw[gD,gE h];rfl
 ·unfold PD;rw[gD,gE h];rfl
theorem Jr(w:Wf h){T:eB}(r:T.Rows h){k:NN}(x:k.1<T.A.ak.length)(n:k.2<T.B.ak.length):FW SS 109 [.agg ⟨T.arg⟩,.agg ⟨kV k⟩] h (λv o=>v = .bool (PD T.A k.1&&PD T.B k.2)/\Ok h o):=by
 refine Ur T.arg (kV k) h _ ⟨_,H5 T,_,xg k,?_⟩;have c:=(Ok.refl w).push (kc T);have a:=aI h (kc T);generalize h.push (kc T)=g at*;have d:=(Ok.refl c.wf).push (dh k);have f:=aI g (dh k);have a:=d.ext _ _ a;generalize g.push (dh k)=z at*;have b:=c.trans d;obtain⟨s,l,_,e,_⟩:=jB x;obtain⟨t,y,_,p,_⟩:=jB n;obtain⟨B,D,_,_,_,u,_,i,_⟩:=r.ra.Ky b l;obtain⟨C,A,_,_,_,m,_,j,_⟩:=r.rb.Ky b y;refine⟨_,FP _,_,dp _,_,_,_,kc.a3 a,_,rT _ _,_,dh.l0 f,_,u,_,pc _ _,_,i,ah (λq=>?_) (λq=>?_)⟩
 ·refine⟨_,Br _,_,Lp _,_,_,_,kc.b3 a,_,nw _ _,_,dh.l1 f,_,m,_,pc _ _,_,j,?_,b⟩;rw[e,p,q];rfl
 ·exact⟨by rw[e,q];rfl,b⟩
theorem fT{l:List A}{a:A}(h:l[i]?=some a):l=l.take i++a::l.drop (i+1)/\l.take (i+1)=l.take i++[a]:=by
 obtain⟨b,rfl⟩:=List.getElem?_eq_some_iff.1 h;exact⟨by simp,by rw[take_add_one,h];rfl⟩
theorem OK{x:Int}(a:x=(n:Int))(b:z=(m:Int)):([.int .i64 x,.int .i64 z]:List Value)=kV (n,m):=by rw[a,b];rfl
section
variable {h0:aa} {T:eB}
theorem wy(w0:Wf h0)(K:T.Rows h0)(gA:Good T.A)(gB:Good T.B)(sA:∀s∈T.A.ak,s.an.length<=2000)(sB:∀s∈T.B.ak,s.an.length<=2000){h:aa}{L:List cD}{k:NN}(hp:k.1<T.A.ak.length)(hq:k.2<T.B.ak.length){N:Nat}{fa fc:List Value}(hf:Nat.blt N YB=true)
  (I:List (Mv×NN)->aa->List cD->Prop) (O:∀l g L,I l g L->OL h0 g L) (hG:∀l g L p,I l g L->Ok g p->I l p L) (hi:I [] h L)
  (hs:∀x5 x y4,dP T.A T.B k=x5++x::y4->∀g L,I x5 g L->FW SS N (fa++[.agg ⟨rZ x.1⟩,.agg ⟨kV x.2⟩]++fc) g (λv p=>v = .tuple ⟨[]⟩/\∃n,I (x5++[x]) p n/\eS g L p n)):
  FW SS 111 [.agg ⟨T.arg⟩,.agg ⟨kV k⟩,.func (.func N) ⟨fa⟩ ⟨fc⟩] h (λv p=>v = .tuple ⟨[]⟩/\∃n,I (dP T.A T.B k) p n/\eS h L p n):=by
 refine Vs T.arg (kV k) N fa fc h _ ⟨_,H5 T,_,xg k,?_⟩;have o:=O _ _ _ hi;have e1:=(Ok.refl o.ok.wf).push (kc T);have m1:=o.fe (kc T);have i1:=hG _ _ _ _ hi e1;have c1:=(o.grow e1).2;generalize h.push (kc T)=g1 at*;have o1:=O _ _ _ i1;have e2:=(Ok.refl o1.ok.wf).push (dh k);have m2:=o1.fe (dh k);have i2:=hG _ _ _ _ i1 e2;have y3:=(o1.grow e2).2;have m1:=y3 _ _ m1;have c2:=c1.trans y3;generalize g1.push (dh k)=g2 at*;obtain⟨s,y6,ea,_,ms⟩:=jB hp;obtain⟨d,y0,eb,_,x7⟩:=jB hq;obtain⟨b,o,x,y,z,d1,d2,d3,d4,ar⟩:=K.ra.Ky (O _ _ _ i2).ok y6;have hy:y=s.an.length:=ar.len;have z0:=sA s ms;have y9:=sB d x7;refine⟨_,FP _,_,dp _,_,_,_,kc.a3 m1.1,_,rT _ _,_,dh.l0 m2.1,_,d1,_,fL _ _,_,_,_,d4,?_⟩;have x4:dP T.A T.B k=(s.an.flatMap λa=>gF a k.2 d.an)++d.an.filterMap (kW k.1):=by unfold dP;rw[ea,eb]
 refine yh T.arg (kV k) N fa fc h.next g1.next x y z (λmz i g=>i<=s.an.length/\mz=s.an.length-i/\∃n,I ((s.an.take i).flatMap λa=>gF a k.2 d.an) g n/\eS g2 L g n) _ (λmz i=>?_) s.an.length (i:=0) ⟨zero_le _,rfl,L,i2,eS.refl _ _⟩;intros;rename_i g Z;obtain⟨f1,rfl,n,iL,V⟩:=Z;have Y:=O _ _ _ iL;have t:=V _ _ m1;have r:=V _ _ m2;refine ah (λq=>?_) (λq=>?_)
 ·have q:=dT q;have x8:i<s.an.length:=by omega
  obtain⟨a,ha⟩:∃a,s.an[i]?=some a:=⟨_,gE x8⟩
  have Z:=gA.an s ms a (List.mem_of_getElem? ha);obtain⟨t1,t2⟩:=fT ha;obtain⟨bb,o1,x1,x2,_⟩:=(ar.ok Y.ok).at_ ha;obtain⟨u,p1,p2,p3⟩:=wb Y.ok.wf a;refine⟨_,x1,_,x2,_,Fp,u,p1,?_⟩;have i3:=hG _ _ _ _ iL p2;have c3:=(Y.grow p2).2;have B:Im (u.app (g.push Hu)) n g.next _:=Y.new (Nat.le_refl _) p3;have t:=c3 _ _ t;have r:=c3 _ _ r;have V:=V.trans c3;generalize u.app (g.push Hu)=g3 at*;have o3:=O _ _ _ i3;have W:dP T.A T.B k=((s.an.take i).flatMap λa=>gF a k.2 d.an)++(gF a k.2 d.an++(((s.an.drop (i+1)).flatMap λa=>gF a k.2 d.an)++d.an.filterMap (kW k.1))):=by
   rw[x4]
   conv=>lhs;rw[t1,List.flatMap_append,List.flatMap_cons]
   simp only[append_assoc]
  have X:((s.an.take (i+1)).flatMap λa=>gF a k.2 d.an)=((s.an.take i).flatMap λa=>gF a k.2 d.an)++gF a k.2 d.an:=by
   rw[t2,List.flatMap_append];simp
  have hw:wrap .i64 ((i:Int)+1)=((i+1:Nat):Int):=bF x8 (by omega);have x9:a.t=((a.t.toNat:Nat):Int):=by have:=Z.t0;omega
  refine⟨_,js _ _,_,p3.l0,ah (λP=>?_) (λP=>?_)⟩
  ·have P:a.i=0:=by simpa using P
   have hF:gF a k.2 d.an=[(⟨0,a.o,0⟩,(a.t.toNat,k.2))]:=by unfold gF;rw[if_pos P]
   refine⟨_,Bq _ _,_,p3.l1,_,K0 _ _ _,_,eU _ _,_,p3.l3,_,nw _ _,_,dh.l1 r.1,_,mw _ _,ah (λ_=>?_) (λq=>by rw[hf]at q;cases q)⟩;rw[OK x9 rfl];rw[hF]at W X;refine(hs _ _ _ W g3 n i3).mono ?_;rintro _ g4 ⟨rfl,L4,i4,c4⟩;refine⟨rfl,?_⟩;rw[hw];refine cK (s.an.length-(i+1)) (by omega) ⟨by omega,rfl,L4,?_,V.trans c4⟩;rw[X];exact i4
  ·have P:a.i≠0:=by simpa using P
   have hF:gF a k.2 d.an=d.an.filterMap λb=>if b.i=a.i then some (⟨a.i,a.o,b.o⟩,(a.t.toNat,b.t.toNat))else none:=by unfold gF;rw[if_neg P]
   rw[hF]at W X;obtain⟨b',o',x',y',z',x6,y7,y5,x3,E⟩:=K.rb.Ky o3.ok y0;have y8:y'=d.an.length:=E.len;refine⟨_,Br _,_,Lp _,_,_,_,kc.b3 t.1,_,nw _ _,_,dh.l1 r.1,_,x6,_,fL _ _,_,_,_,x3,?_⟩;refine yi T.arg (kV k) N fa fc h.next g1.next x y z g.next x' y' z' _ _ i (λD j p=>j<=d.an.length/\D=d.an.length-j/\∃G,I (((s.an.take i).flatMap λa=>gF a k.2 d.an)++(d.an.take j).filterMap λb=>if b.i=a.i then some (⟨a.i,a.o,b.o⟩,(a.t.toNat,b.t.toNat))else none) p G/\eS g3 n p G) _ (λD j=>?_) d.an.length (j:=0) ⟨zero_le _,rfl,n,by simpa using i3,eS.refl _ _⟩;intros;rename_i g5 U;obtain⟨f5,rfl,R,A,f⟩:=U;have Q:=O _ _ _ A;have t:=f _ _ t;have r:=f _ _ r;have B:=f _ _ B;refine ah (λq=>?_) (λq=>?_)
   ·have q:=dT q;have F:j<d.an.length:=by omega
    obtain⟨c,w⟩:∃c,d.an[j]?=some c:=⟨_,gE F⟩
    have M:=gB.an d x7 c (List.mem_of_getElem? w);obtain⟨v1,v2⟩:=fT w;obtain⟨cc,oc,y1,y2,_⟩:=(E.ok Q.ok).at_ w;obtain⟨u5,r1,r2,J⟩:=wb Q.ok.wf c;refine⟨_,y1,_,y2,_,Fp,u5,r1,?_⟩;have i6:=hG _ _ _ _ A r2;have H:=(Q.grow r2).2;have t:=H _ _ t;have r:=H _ _ r;have B:AB _ _ a:=(H _ _ B).1;have f:=f.trans H;generalize u5.app (g5.push Hu)=g6 at*;have C:wrap .i64 ((j:Int)+1)=((j+1:Nat):Int):=bF F (by omega);have x0:c.t=((c.t.toNat:Nat):Int):=by have:=M.t0;omega
    refine⟨_,js _ _,_,J.l0,_,js _ _,_,B.l0,ah (λm=>?_) (λm=>?_)⟩
    ·have m:c.i=a.i:=by simpa using m
     refine⟨_,js _ _,_,B.l0,_,Bq _ _,_,B.l1,_,Bq _ _,_,J.l1,_,K0 _ _ _,_,eU _ _,_,B.l3,_,eU _ _,_,J.l3,_,mw _ _,ah (λ_=>?_) (λq=>by rw[hf]at q;cases q)⟩;rw[OK x9 x0];have S:dP T.A T.B k=(((s.an.take i).flatMap λa=>gF a k.2 d.an)++(d.an.take j).filterMap λb=>if b.i=a.i then some (⟨a.i,a.o,b.o⟩,(a.t.toNat,b.t.toNat))else none)++(⟨a.i,a.o,c.o⟩,(a.t.toNat,c.t.toNat))::(((d.an.drop (j+1)).filterMap λb=>if b.i=a.i then some ((⟨a.i,a.o,b.o⟩:Mv),(a.t.toNat,b.t.toNat))else none)++(((s.an.drop (i+1)).flatMap λa=>gF a k.2 d.an)++d.an.filterMap (kW k.1))):=by
      rw[W];have:(d.an.filterMap λb=>if b.i=a.i then some ((⟨a.i,a.o,b.o⟩:Mv),(a.t.toNat,b.t.toNat))else none)=((d.an.take j).filterMap λb=>if b.i=a.i then some (⟨a.i,a.o,b.o⟩,(a.t.toNat,b.t.toNat))else none)++(⟨a.i,a.o,c.o⟩,(a.t.toNat,c.t.toNat))::((d.an.drop (j+1)).filterMap λb=>if b.i=a.i then some ((⟨a.i,a.o,b.o⟩:Mv),(a.t.toNat,b.t.toNat))else none):=by
       conv=>lhs;rw[v1,filterMap_append,filterMap_cons,if_pos m]
      rw[this];simp only[append_assoc,cons_append]
     refine(hs _ _ _ S g6 R i6).mono ?_;rintro _ g7 ⟨rfl,L7,i7,c7⟩;refine⟨rfl,?_⟩;rw[C];refine cK (d.an.length-(j+1)) (by omega) ⟨by omega,rfl,L7,?_,f.trans c7⟩;rw[v2,filterMap_append,filterMap_cons,if_pos m,<-append_assoc];exact i7
    ·have m:c.i≠a.i:=by simpa using m
     rw[C];refine cK (d.an.length-(j+1)) (by omega) ⟨by omega,rfl,R,?_,f⟩;rw[v2,filterMap_append,filterMap_cons,if_neg m];simpa using i6
   ·have q:=dF q;have e:d.an.take j=d.an:=take_of_length_le (by omega);rw[e]at A;rw[hw];refine cK (s.an.length-(i+1)) (by omega) ⟨by omega,rfl,R,?_,V.trans f⟩;rw[X];exact A
 ·have q:=dF q;have e:s.an.take i=s.an:=take_of_length_le (by omega);rw[e]at iL;obtain⟨b',o',x',y',z',x6,y7,y5,x3,E⟩:=K.rb.Ky Y.ok y0;have y8:y'=d.an.length:=E.len;refine⟨_,Br _,_,Lp _,_,_,_,kc.b3 t.1,_,nw _ _,_,dh.l1 r.1,_,x6,_,fL _ _,_,_,_,x3,?_⟩;refine yj T.arg (kV k) N fa fc h.next g1.next x' y' z' (λD j p=>j<=d.an.length/\D=d.an.length-j/\∃G,I ((s.an.flatMap λa=>gF a k.2 d.an)++(d.an.take j).filterMap (kW k.1)) p G/\eS g n p G) _ (λD j=>?_) d.an.length (i:=0) ⟨zero_le _,rfl,n,by simpa using iL,eS.refl _ _⟩;intros;rename_i g5 U;obtain⟨f5,rfl,R,A,f⟩:=U;have Q:=O _ _ _ A;have t:=f _ _ t;have r:=f _ _ r;refine ah (λq=>?_) (λq=>?_)
  ·have q:=dT q;have F:j<d.an.length:=by omega
   obtain⟨c,w⟩:∃c,d.an[j]?=some c:=⟨_,gE F⟩
   have M:=gB.an d x7 c (List.mem_of_getElem? w);obtain⟨v1,v2⟩:=fT w;obtain⟨cc,oc,y1,y2,_⟩:=(E.ok Q.ok).at_ w;obtain⟨u5,r1,r2,J⟩:=wb Q.ok.wf c;refine⟨_,y1,_,y2,_,Fp,u5,r1,?_⟩;have i6:=hG _ _ _ _ A r2;have H:=(Q.grow r2).2;have t:=H _ _ t;have r:=H _ _ r;have f:=f.trans H;generalize u5.app (g5.push Hu)=g6 at*;have C:wrap .i64 ((j:Int)+1)=((j+1:Nat):Int):=bF F (by omega);have x0:c.t=((c.t.toNat:Nat):Int):=by have:=M.t0;omega
   refine⟨_,js _ _,_,J.l0,ah (λm=>?_) (λm=>?_)⟩
   ·have m:c.i=0:=by simpa using m
    refine⟨_,Bq _ _,_,J.l1,_,K0 _ _ _,_,rT _ _,_,dh.l0 r.1,_,eU _ _,_,J.l3,_,mw _ _,ah (λ_=>?_) (λq=>by rw[hf]at q;cases q)⟩;rw[OK rfl x0];have hR:kW k.1 c=some (⟨0,0,c.o⟩,(k.1,c.t.toNat)):=by unfold kW;rw[if_pos m]
    have S:dP T.A T.B k=((s.an.flatMap λa=>gF a k.2 d.an)++(d.an.take j).filterMap (kW k.1))++(⟨0,0,c.o⟩,(k.1,c.t.toNat))::(d.an.drop (j+1)).filterMap (kW k.1):=by
     rw[x4];have:d.an.filterMap (kW k.1)=(d.an.take j).filterMap (kW k.1)++(⟨0,0,c.o⟩,(k.1,c.t.toNat))::(d.an.drop (j+1)).filterMap (kW k.1):=by
      conv=>lhs;rw[v1,filterMap_append,filterMap_cons,hR]
     rw[this];simp only[append_assoc]
    refine(hs _ _ _ S g6 R i6).mono ?_;rintro _ g7 ⟨rfl,L7,i7,c7⟩;refine⟨rfl,?_⟩;rw[C];refine cK (d.an.length-(j+1)) (by omega) ⟨by omega,rfl,L7,?_,f.trans c7⟩;rw[v2,filterMap_append,filterMap_cons,hR,<-append_assoc];exact i7
   ·have m:c.i≠0:=by simpa using m
    rw[C];refine cK (d.an.length-(j+1)) (by omega) ⟨by omega,rfl,R,?_,f⟩;rw[v2,filterMap_append,filterMap_cons,show kW k.1 c=none by unfold kW;rw[if_neg m]];simpa using i6
  ·have q:=dF q;have e:d.an.take j=d.an:=take_of_length_le (by omega);rw[e]at A;refine⟨rfl,R,?_,c2.trans (V.trans f)⟩;rw[x4];exact A
end
end
section
theorem wu:SS.P.underlying 162=some (.slice 105):=by kernel_rfl
theorem DS:Go.Ab.isAgg SS.P 162=false:=by kernel_rfl
theorem qD:Go.Ab.isAgg SS.P 163=false:=by kernel_rfl
noncomputable def VG:TypeInfo:=(SS.P.info? 105).getD default
theorem adC:dG SS.P 105=some VG:=by kernel_rfl
theorem M1:VG.size=2:=by kernel_rfl
theorem Kd:VG.bytes=16:=by kernel_rfl
theorem adY:bZ SS.P 162=true:=by kernel_rfl
theorem MY:au SS.P 162=some 1:=by kernel_rfl
theorem MZ:au SS.P 163=some 1:=by kernel_rfl
theorem Z1(x:NN):az SS.P 162 1 [(0,(.agg ⟨kV x⟩))]=some (.cells (kV x) 105 2 true,jc 1 1):=by kernel_rfl
def uL(ord:List NN)(x:NN):List NN:=if x∈ord then ord else ord++[x]
def RO(kl kn km:Nat)(v:Value)(ord:List NN)(G:cD):List cD:=[[(kl,.cells [v] 162 0 true)],[(kn,.cells [.map (some km)] 163 0 true)],G,[(km,.map (jo ord 0))]]
def RS(h0:aa)(kl kn km:Nat)(ord:List NN)(g:aa)(L:List cD):Prop:=OL h0 g L/\∃v G,fh 105 2 v (ord.map kV) G/\L=RO kl kn km v ord G
section
variable {h0:aa} {kl kn km:Nat} {ord:List NN} {g:aa} {L:List cD}
theorem RS.grow(r:RS h0 kl kn km ord g L)(o:Ok g h):RS h0 kl kn km ord h L:=⟨(r.1.grow o).1,r.2⟩
theorem QV(k:Wf h0)(w:RS h0 kl kn km ord g L)(Y:ord.length<=100000)(m:Mv)(x:NN):FW SS 144 [.agg ⟨rZ m⟩,.agg ⟨kV x⟩,pA kn,pA kl] g (λv z=>v = .tuple ⟨[]⟩/\∃y,RS h0 kl kn km (uL ord x) z y/\eS g L z y):=by
 refine Mj (rZ m) (kV x) kn kl g _ ⟨_,AP m,_,xg x,?_⟩;obtain⟨o,v,G,t,rfl⟩:=w;obtain⟨l,Q⟩:=o.grow ((Ok.refl o.ok.wf).push (iG m));generalize g.push (iG m)=T at*;have b:=l.fe (dh x);obtain⟨d,R⟩:=l.grow ((Ok.refl l.ok.wf).push (dh x));have c:=Q.trans R;generalize T.push (dh x)=I at*;obtain⟨a,n,A⟩:=t.mU;rw[lM]at A;subst A;refine⟨_,aN oq qD (d.get 1 rfl) (by simp),_,dh.all b.1,_,_,(Ac (d.get 3 rfl) x).1,ah (λq=>?_) (λq=>?_)⟩
 ·have f:x∉ord:=by
   refine xv (i:=0) ?_
   cases e:BA x ord 0 with
   |none=>rfl
   |some j=>unfold nc at q;rw[e]at q;cases q
  have h:uL ord x=ord++[x]:=by unfold uL;rw[if_neg f]
  obtain⟨s,F⟩:=d.kF k 3 rfl (.map (jo (ord++[x]) 0));refine⟨_,aN oq qD (d.get 1 rfl) (by simp),_,dh.all b.1,_,_,_,aN wu DS (d.get 0 rfl) (by simp),_,Wb (d.get 3 rfl) f,?_⟩;have J:=F _ _ b;have c:=c.trans F;generalize (aY.set km (.map (jo (ord++[x]) 0))).app I=H at*;refine⟨_,_,_,aN wu DS (s.get 0 rfl) (by simp),_,dh.all J.1,_,_,_,Z1 x,?_⟩;have P:=aI H (.cells (kV x) 105 2 true);obtain⟨O,N⟩:=s.grow ((Ok.refl s.ok.wf).push (.cells (kV x) 105 2 true));have c:=c.trans N;generalize H.push (.cells (kV x) 105 2 true)=K at*;obtain⟨p,E,B,u,U,X,W,D,C,V⟩:=t.add wu adC M1 adY k O (j:=2) rfl (Hb P rfl) (λr w=>by rw[mem_singleton.1 w];rfl) rfl (by rw[Kd,lM,length_singleton];omega) (by rw[lM,length_singleton];omega) (.inl (Nat.le_refl _));refine⟨_,_,_,_,U,?_⟩;have c:=c.trans V;generalize u.app K=Z at*;obtain⟨M,S⟩:=C.kF k 0 rfl (.cells [.slice p E B] 162 0 true);refine⟨_,bC MY (C.get 0 rfl) (by simp) (aS ..) (by cases p<;>rfl),rfl,_,⟨M,.slice p E B,W,?_,?_⟩,c.trans S⟩
  ·rw[h,map_append];exact D
  ·rw[h];rfl
 ·have f:x∈ord:=Classical.byContradiction λf=>by
   have e:nc ord x=none:=by
    cases e:nc ord x with
    |none=>rfl
    |some j=>exact absurd (List.mem_of_getElem? (r8 e)) f
   rw[e]at q;cases q
  have h:uL ord x=ord:=by unfold uL;rw[if_pos f]
  exact⟨rfl,_,⟨d,_,G,by rw[h];exact t,by rw[h]⟩,c⟩
end
end
variable{P:Program}{U:Array Oper}{q:Oper}{r:Operand->Value}{I:bw}
section
noncomputable def DB:Array Oper:=UT (jD [1,1,0] cd.body)
noncomputable def oR(j:Nat):Oper:=(DB[j]?).getD default
theorem kZ{a:Nat->Bool}{s:yx}{u:Option (Nat×bw)}(b:U[j]?=some q)(c:q.guard=none)(h:GF P (ev a s.1) q (n+j) s.2.1=some (v,u)):wx P a U n j s=some (BK s q.dst v u):=by
 unfold wx;rw[b];dsimp only;unfold dY;rw[c];dsimp only;rw[h]
theorem Ez{h:aa}{t:TypeId}{a:Operand}(e:q.op = .load t a)(d:ae P t h (r a)=some v):GF P r q k h=some (v,none):=by
 obtain⟨g,j,i,f,c,b⟩:=q;subst e;show(match ae P t h (r a)with|some v=>some (v,none)|none=>_)=_;rw[d]
theorem Qy{h:aa}{a:Operand}(d:q.op = .move a):GF P r q k h=some (r a,none):=by
 obtain⟨f,i,g,e,c,b⟩:=q;subst d;rfl
theorem YM{h:aa}{t:TypeId}{x:Operand}{f:Nat->Value}(m:q.op = .buildSlice t 1 #[(0,x)])(l:r x=v)(j:az P t 1 [(0,v)]=some (I,f)):GF P r q k h=some (f k,some (k,I)):=by
 obtain⟨g,n,i,d,c,a⟩:=q;subst m;subst l;have e:aT P r ⟨g,.buildSlice t 1 #[(0,x)],i,d,c,a⟩=az P t 1 [(0,r x)]:=rfl;show(match aT P r ⟨g,.buildSlice t 1 #[(0,x)],i,d,c,a⟩with|some (b,f)=>some (f k,some (k,b))|none=>_)=_;rw[e,j]
theorem YN{h:aa}{t:TypeId}{f:Nat->Value}(l:q.op = .makeMap t none)(j:oj P t=some (I,f)):GF P r q k h=some (f k,some (k,I)):=by
 obtain⟨g,m,i,d,c,a⟩:=q;subst l;have e:aT P r ⟨g,.makeMap t none,i,d,c,a⟩=oj P t:=rfl;show(match aT P r ⟨g,.makeMap t none,i,d,c,a⟩with|some (b,f)=>some (f k,some (k,b))|none=>_)=_;rw[e,j]
theorem Up{h:aa}{t:TypeId}{m a b:Operand}(n:q.op = .insert t m a b)(l:gG P t (r m) (r a) (r b) h=some (undef,.set i I)):GF P r q k h=some (undef,some (i,I)):=by
 obtain⟨g,o,j,f,d,c⟩:=q;subst n;have e:cL P fZ r ⟨g,.insert t m a b,j,f,d,c⟩ h=gG P t (r m) (r a) (r b) h:=rfl;show(match cL P fZ r ⟨g,.insert t m a b,j,f,d,c⟩ h with|some (v,.no)=>some (v,none)|some (v,.set i b)=>some (v,some (i,b))|_=>none)=_;rw[e,l]
theorem B0{h:aa}{t:TypeId}{a x:Operand}(m:q.op = .store t a x)(l:aj P t (r a) (r x) h=some (undef,.set i I)):GF P r q k h=some (undef,some (i,I)):=by
 obtain⟨g,n,j,f,d,c⟩:=q;subst m;have e:cL P fZ r ⟨g,.store t a x,j,f,d,c⟩ h=aj P t (r a) (r x) h:=rfl;show(match cL P fZ r ⟨g,.store t a x,j,f,d,c⟩ h with|some (v,.no)=>some (v,none)|some (v,.set i b)=>some (v,some (i,b))|_=>none)=_;rw[e,l]
theorem Ol{l:List Value}(h:n<l.length)(v:Value)(t:Nat):(eZ l (some n) v).getD t undef=if t=n then v else l.getD t undef:=by
 show(l.set n v).getD t undef=_;simp only[gD,getElem?_set];by_cases a:t=n
 ·subst a;rw[if_pos rfl,if_pos rfl,if_pos h];rfl
 ·rw[if_neg a,if_neg (λe=>a e.symm)]
theorem adn:oj SS.P 163=some (.map [],λk=> .map (some k)):=by kernel_rfl
section
variable (tm:List Value) (h:aa) (k2 k3 k4:Nat) (x:NN)
def vT(D:Nat->Bool)(t:Nat):Value:=if t=13/\D 0=true then .agg ⟨kV x⟩else if t=14/\D 1=true then sA (h.next+1) 1 1 else if t=15/\D 2=true then .map (some (h.next+2))else if t=16/\D 3=true then .agg ⟨kV x⟩else if t=17/\D 5=true then .map (some (h.next+2))else tm.getD t undef
def mT(b:Bool):List (Value×Value):=if b=true then jo [x] 0 else[]
noncomputable def hT(D:Nat->Bool)(k:Nat):Option bw:=if k=h.next+1/\D 1=true then some (.cells (kV x) 105 2 true)else if k=h.next+2/\D 2=true then some (.map (mT x (D 4)))else if k=k2/\D 6=true then some (.cells [sA (h.next+1) 1 1] 162 0 true)else if k=k3/\D 7=true then some (.cells [.map (some (h.next+2))] 163 0 true)else h.get k
structure Wz(D:Nat->Bool)(s:yx):Prop where
 len:s.1.length=33
 val:∀t,s.1.getD t undef=vT tm h x D t
 nx:s.2.1.next=h.next+8
 get:∀k,s.2.1.get k=hT h k2 k3 x D k
 wr:∀k∈s.2.2,k=h.next+1\/k=h.next+2\/k=k2\/k=k3
 cl:D 4=true->D 2=true
end
theorem NK{D:Nat->Bool}(h:D 4=true->D 2=true)(b:j=4->D 2=true):(4==j||D 4)=true->(2==j||D 2)=true:=by
 intro e;by_cases a:j=4
 ·rw[b a,Bool.or_true]
 ·rw[show(4==j)=false by simpa using λe=>a e.symm,Bool.false_or]at e;rw[h e,Bool.or_true]
section
variable {tm:List Value} {h:aa} {k2 k3 k4:Nat} {x:NN}
theorem YP{D:Nat->Bool}{s:yx}(a:Wz tm h k2 k3 x D s)(t:Nat):ev SS.gl s.1 (.tmp t)=vT tm h x D t:=a.val t
theorem Wz.pure{D:Nat->Bool}{s:yx}(a:Wz tm h k2 k3 x D s){j d:Nat}(g:j≠4)(f:d<33){v:Value}(b:∀t,vT tm h x (λi=>i==j||D i) t=if t=d then v else vT tm h x D t)(c:∀k,hT h k2 k3 x (λi=>i==j||D i) k=hT h k2 k3 x D k):Wz tm h k2 k3 x (λi=>i==j||D i) (BK s (some d) v none):=by
 refine⟨?_,λt=>?_,a.nx,λk=>?_,a.wr,NK a.cl λe=>absurd e g⟩
 ·show(s.1.set d v).length=33;rw[length_set];exact a.len
 ·rw[b];show(eZ s.1 (some d) v).getD t undef=_;rw[Ol (by rw[a.len];exact f),a.val]
 ·rw[c];exact a.get k
theorem Wz.qc{D:Nat->Bool}{s:yx}(a:Wz tm h k2 k3 x D s){j:Nat}(m:j=4->D 2=true){b:Option Tmp}{v:Value}{i:Nat}{B:bw}(c:b=none/\(∀t,vT tm h x (λi=>i==j||D i) t=vT tm h x D t)\/ ∃d,b=some d/\d<33/\∀t,vT tm h x (λi=>i==j||D i) t=if t=d then v else vT tm h x D t)(l:i=h.next+1\/i=h.next+2\/i=k2\/i=k3)(g:∀k,hT h k2 k3 x (λi=>i==j||D i) k=if k=i then some B else hT h k2 k3 x D k):Wz tm h k2 k3 x (λi=>i==j||D i) (BK s b v (some (i,B))):=by
 refine⟨?_,λt=>?_,a.nx,λk=>?_,λk f=>?_,NK a.cl m⟩
 ·rcases c with⟨rfl,_⟩|⟨d,rfl,_⟩
  ·exact a.len
  ·show(s.1.set d v).length=33;rw[length_set];exact a.len
 ·rcases c with⟨rfl,e⟩|⟨d,rfl,c,e⟩
  ·rw[e];exact a.val t
  ·rw[e];show(eZ s.1 (some d) v).getD t undef=_;rw[Ol (by rw[a.len];exact c),a.val]
 ·rw[g];show(s.2.1.set i B).get k=_;rw[aa.aw,a.get]
 ·rcases mem_cons.1 f with rfl|f
  ·exact l
  ·exact a.wr k f
theorem yY(h:j<8):DB[j]?=some (oR j):=by
 have a:DB.size=8:=by kernel_rfl
 unfold oR;rw[Array.getElem?_eq_getElem (by omega)];rfl
theorem UU(R:tm.getD 2 undef=pA k2)(N:tm.getD 3 undef=pA k3)(O:tm.getD 4 undef=pA k4)(M:h.get k4=some (dh x))(V:h.get k2=some (.cells [nA] 162 0 true))(J:h.get k3=some (.cells [.map none] 163 0 true))(p:k2≠k3)(y:k2≠k4)(r:k3≠k4)(Z:k2<h.next)(W:k3<h.next)(X:k4<h.next):
  ∀D s j,j<8->D j=false->(∀i,i<j->cE (fi DB) j i=true->D i=true)->Wz tm h k2 k3 x D s->∃A,wx SS.P SS.gl DB h.next j s=some A/\Wz tm h k2 k3 x (λi=>i==j||D i) A:=by
 intro D s j Y q l c;have z:s.2.1.get k4=some (dh x):=by
  rw[c.get];unfold hT;rw[if_neg (λe=>by omega),if_neg (λe=>by omega),if_neg (λe=>y e.1.symm),if_neg (λe=>r e.1.symm)];exact M
 have w:ev SS.gl s.1 (.tmp 4)=pA k4:=by
  rw[YP c];unfold vT;rw[if_neg (λe=>by omega),if_neg (λe=>by omega),if_neg (λe=>by omega),if_neg (λe=>by omega),if_neg (λe=>by omega)];exact O
 have H:ev SS.gl s.1 (.tmp 2)=pA k2:=by
  rw[YP c];unfold vT;rw[if_neg (λe=>by omega),if_neg (λe=>by omega),if_neg (λe=>by omega),if_neg (λe=>by omega),if_neg (λe=>by omega)];exact R
 have G:ev SS.gl s.1 (.tmp 3)=pA k3:=by
  rw[YP c];unfold vT;rw[if_neg (λe=>by omega),if_neg (λe=>by omega),if_neg (λe=>by omega),if_neg (λe=>by omega),if_neg (λe=>by omega)];exact N
 have E:j=0\/j=1\/j=2\/j=3\/j=4\/j=5\/j=6\/j=7:=by omega
 rcases E with rfl|rfl|rfl|rfl|rfl|rfl|rfl|rfl
 ·refine⟨_,kZ (yY (by omega)) (by kernel_rfl) (Ez (t:=105) (a:= .tmp 4) (v:= .agg ⟨kV x⟩) (by kernel_rfl) (by rw[w];exact dh.all z)),?_⟩;rw[show(oR 0).dst=some 13 by kernel_rfl];refine c.pure (j:=0) (d:=13) (by omega) (by omega) (λt=>?_) (λk=>?_)
  ·unfold vT;by_cases g:t=13
   ·subst g;simp
   ·simp[g]
  ·unfold hT;simp
 ·have L:=l 0 (by omega) (by kernel_rfl);have C:ev SS.gl s.1 (.tmp 13) = .agg ⟨kV x⟩:=by rw[YP c];unfold vT;simp[L]
  refine⟨_,kZ (yY (by omega)) (by kernel_rfl) (YM (t:=162) (x:= .tmp 13) (by kernel_rfl) C (Z1 x)),?_⟩;rw[show(oR 1).dst=some 14 by kernel_rfl];refine c.qc (j:=1) (λe=>by cases e) (.inr ⟨14,rfl,by decide,λt=>?_⟩) (.inl rfl) (λk=>?_)
  ·unfold vT;by_cases g:t=14
   ·subst g;simp[jc]
   ·simp[g]
  ·unfold hT;by_cases f:k=h.next+1
   ·subst f;simp
   ·simp[f]
 ·refine⟨_,kZ (yY (by omega)) (by kernel_rfl) (YN (t:=163) (by kernel_rfl) adn),?_⟩;rw[show(oR 2).dst=some 15 by kernel_rfl];have Q:D 4=false:=by
   cases e:D 4 with
   |false=>rfl
   |true=>have:=c.cl e;rw[q]at this;cases this
  refine c.qc (j:=2) (λe=>by cases e) (.inr ⟨15,rfl,by decide,λt=>?_⟩) (.inr (.inl rfl)) (λk=>?_)
  ·unfold vT;by_cases g:t=15
   ·subst g;simp
   ·simp[g]
  ·unfold hT mT;by_cases f:k=h.next+2
   ·subst f;simp[Q]
   ·simp[f]
 ·refine⟨_,kZ (yY (by omega)) (by kernel_rfl) (Ez (t:=105) (a:= .tmp 4) (v:= .agg ⟨kV x⟩) (by kernel_rfl) (by rw[w];exact dh.all z)),?_⟩;rw[show(oR 3).dst=some 16 by kernel_rfl];refine c.pure (j:=3) (d:=16) (by omega) (by omega) (λt=>?_) (λk=>?_)
  ·unfold vT;by_cases g:t=16
   ·subst g;simp
   ·simp[g]
  ·unfold hT;simp
 ·have n:=l 2 (by omega) (by kernel_rfl);have T:=l 3 (by omega) (by kernel_rfl);have o:ev SS.gl s.1 (.tmp 15) = .map (some (h.next+2)):=by rw[YP c];unfold vT;simp[n]
  have B:ev SS.gl s.1 (.tmp 16) = .agg ⟨kV x⟩:=by rw[YP c];unfold vT;simp[T]
  have P:s.2.1.get (h.next+2)=some (.map (jo [] 0)):=by
   rw[c.get];unfold hT mT;simp[n,q,jo]
  refine⟨_,kZ (yY (by omega)) (by kernel_rfl) (Up (t:=163) (m:= .tmp 15) (a:= .tmp 16) (b:= .const (.int .i64 0)) (by kernel_rfl) (by rw[o,B];exact Wb P (List.not_mem_nil))),?_⟩;rw[show(oR 4).dst=none by kernel_rfl];refine c.qc (j:=4) (λ_=>n) (.inl ⟨rfl,λt=>?_⟩) (.inr (.inl rfl)) (λk=>?_)
  ·unfold vT;simp
  ·unfold hT mT;by_cases f:k=h.next+2
   ·subst f;simp[n]
   ·simp[f]
 ·have n:=l 2 (by omega) (by kernel_rfl);have o:ev SS.gl s.1 (.tmp 15) = .map (some (h.next+2)):=by rw[YP c];unfold vT;simp[n]
  refine⟨_,kZ (yY (by omega)) (by kernel_rfl) (Qy (a:= .tmp 15) (by kernel_rfl)),?_⟩;rw[show(oR 5).dst=some 17 by kernel_rfl,o];refine c.pure (j:=5) (d:=17) (by omega) (by omega) (λt=>?_) (λk=>?_)
  ·unfold vT;by_cases g:t=17
   ·subst g;simp
   ·simp[g]
  ·unfold hT;simp
 ·have S:=l 1 (by omega) (by kernel_rfl);have u:ev SS.gl s.1 (.tmp 14)=sA (h.next+1) 1 1:=by rw[YP c];unfold vT;simp[S]
  have I:s.2.1.get k2=some (.cells [nA] 162 0 true):=by
   rw[c.get];unfold hT;rw[if_neg (λe=>by omega),if_neg (λe=>by omega),if_neg (λe=>by rw[q]at e;cases e.2),if_neg (λe=>p e.1)];exact V
  refine⟨_,kZ (yY (by omega)) (by kernel_rfl) (B0 (t:=162) (a:= .tmp 2) (x:= .tmp 14) (by kernel_rfl) (by rw[H,u];exact bC MY I (by simp) rfl rfl)),?_⟩;rw[show(oR 6).dst=none by kernel_rfl];refine c.qc (j:=6) (λe=>by cases e) (.inl ⟨rfl,λt=>?_⟩) (.inr (.inr (.inl rfl))) (λk=>?_)
  ·unfold vT;simp
  ·unfold hT;by_cases f:k=k2
   ·subst f;rw[if_neg (λe=>by omega),if_neg (λe=>by omega)];simp
   ·simp[f]
 ·have K:=l 5 (by omega) (by kernel_rfl);have F:ev SS.gl s.1 (.tmp 17) = .map (some (h.next+2)):=by rw[YP c];unfold vT;simp[K]
  have U:s.2.1.get k3=some (.cells [.map none] 163 0 true):=by
   rw[c.get];unfold hT;rw[if_neg (λe=>by omega),if_neg (λe=>by omega),if_neg (λe=>p e.1.symm),if_neg (λe=>by rw[q]at e;cases e.2)];exact J
  refine⟨_,kZ (yY (by omega)) (by kernel_rfl) (B0 (t:=163) (a:= .tmp 3) (x:= .tmp 17) (by kernel_rfl) (by rw[G,F];exact bC MZ U (by simp) rfl rfl)),?_⟩;rw[show(oR 7).dst=none by kernel_rfl];refine c.qc (j:=7) (λe=>by cases e) (.inl ⟨rfl,λt=>?_⟩) (.inr (.inr (.inr rfl))) (λk=>?_)
  ·unfold vT;simp
  ·unfold hT;by_cases f:k=k3
   ·subst f;rw[if_neg (λe=>by omega),if_neg (λe=>by omega),if_neg (λe=>p e.1.symm)];simp
   ·simp[f]
theorem S9{l l':List Value}(c:l.length=l'.length)(e:∀t,l.getD t undef=l'.getD t undef)(d:∀t,cZ 4 (l.getD t undef) (l.getD t undef)=true):yN (cZ 4) l l'=true:=by
 induction l generalizing l' with
 |nil=>cases l' with
  |nil=>rfl
  |cons b l'=>cases c
 | cons a l f=>cases l' with
  |nil=>cases c
  |cons b l'=>
   obtain rfl:a=b:=e 0;show(cZ 4 a a&&yN (cZ 4) l l')=true;rw[show cZ 4 a a=true from d 0,f (by simpa using c) (λt=>e (t+1)) (λt=>d (t+1))];rfl
theorem YZ(K:tm.length=33)(Y:tm.getD 2 undef=pA k2)(O:tm.getD 3 undef=pA k3)(R:tm.getD 4 undef=pA k4)(E:∀t,cZ 4 (tm.getD t undef) (tm.getD t undef)=true)(M:h.get k4=some (dh x))(b2:h.get k2=some (.cells [nA] 162 0 true))(F:h.get k3=some (.cells [.map none] 163 0 true))(y:k2≠k3)(u:k2≠k4)(r:k3≠k4)(l2:k2<h.next)(S:k3<h.next)(X:k4<h.next):
  ∃l o,l.length=33/\vc SS.P SS.gl DB (cE (fi DB)) tm h=some (l,o)/\(∀t,t<13->l.getD t undef=tm.getD t undef)/\o.next=h.next+8/\∀k,o.get k=hT h k2 k3 x (λ_=>true) k:=by
 have b:∀D:Nat->Bool,(∀i,i<8->D i=true)->(∀t,vT tm h x D t=vT tm h x (λ_=>true) t)/\∀k,hT h k2 k3 x D k=hT h k2 k3 x (λ_=>true) k:=λD d=>by
  have I:=d 0 (by omega);have j:=d 1 (by omega);have g:=d 2 (by omega);have p:=d 3 (by omega);have m:=d 4 (by omega);have V:=d 5 (by omega);have J:=d 6 (by omega);have U:=d 7 (by omega);exact⟨λt=>by unfold vT;rw[I,j,g,p,V],λk=>by unfold hT;rw[j,g,m,J,U]⟩
 have H:∀t,cZ 4 (vT tm h x (λ_=>true) t) (vT tm h x (λ_=>true) t)=true:=λt=>by
  unfold vT;split
  ·simp[cZ,yN,kV]
  split
  ·simp[cZ]
  split
  ·simp[cZ]
  split
  ·simp[cZ,yN,kV]
  split
  ·simp[cZ]
  exact E t
 have W:∀k,k=h.next+1\/k=h.next+2\/k=k2\/k=k3->∃B,hT h k2 k3 x (λ_=>true) k=some B/\yG B B=true:=λk a=>by
  unfold hT;split
  ·exact⟨_,rfl,by simp[yG,yN,kV,cZ]⟩
  split
  ·exact⟨_,rfl,by simp[yG,mT,jo,tM,yN,kV,cZ]⟩
  split
  ·exact⟨_,rfl,by simp[yG,yN,cZ]⟩
  split
  ·exact⟨_,rfl,by simp[yG,yN,cZ]⟩
  next C w q A=>
   exfalso;simp only[and_true]at C w q A;rcases a with a|a|a|a
   ·exact C a
   ·exact w a
   ·exact q a
   ·exact A a
 obtain⟨s,c,Z⟩:=SZ (P:=SS.P) (gl:=SS.gl) (ops:=DB) (bf:=cE (fi DB)) (base:=h.next) (N:=8) (by kernel_rfl) (Wz tm h k2 k3 x) (UU Y O R M b2 F y u r l2 S X) (tm:=tm) (h:=h) rfl
  ⟨K,λt=>(by unfold vT;simp),(by rw[show DB.size=8 by kernel_rfl]),λk=>(by unfold hT;simp;rfl),λk a=>(by cases a),λe=>e⟩
  (λD G s v d z c f=>by
   obtain⟨j,g⟩:=b D d;obtain⟨p,m⟩:=b G z;have ga:∀k,s.2.1.get k=v.2.1.get k:=λk=>by rw[c.get,f.get,g,m]
   have n:∀k,(k=h.next+1\/k=h.next+2\/k=k2\/k=k3)->O7 s.2.1 v.2.1 k=true:=λk a=>by
    obtain⟨B,L,Q⟩:=W k a;unfold O7;rw[c.get,f.get,g,m,L];exact Q
   unfold Eb;rw[S9 (by rw[c.len,f.len]) (λt=>by rw[c.val,f.val,j,p]) (λt=>by rw[c.val,j];exact H t),all_eq_true.2 λk a=>n k (c.wr k a),all_eq_true.2 λk a=>n k (f.wr k a)];rfl)
 obtain⟨j,g⟩:=b (λi=>decide (i<8)) (λi T=>by simpa using T);refine⟨_,_,c.len,Z,λt ht=>?_,c.nx,λk=>by rw[c.get,g]⟩;rw[c.val];unfold vT;rw[if_neg (λe=>by omega),if_neg (λe=>by omega),if_neg (λe=>by omega),if_neg (λe=>by omega),if_neg (λe=>by omega)]
end
end
variable{c:List Value}{X:Sx}
section
theorem T1(h:c.length=n):(List.range n).map (fr c)=c:=by
 subst h;refine List.ext_getElem (by simp) λi b a=>?_;simp[fr,gD,gE a]
theorem XU{a b:Value}{t t':TypeId}{h:aa}(d:ae X.P t h a=some v)(c:ae X.P t' h b=some w)(e:Q (.tuple ⟨[v,w]⟩) h):di X [(a,some t),(b,some t')] h Q:=by
 unfold di;simp only[JJ,d,c];exact e
theorem R2{a:List NN}{x y:NN}:y∈uL a x↔y∈a\/y=x:=by
 unfold uL;split
 ·next h=>
  constructor
  ·exact .inl
  ·rintro(b|rfl)
   ·exact b
   ·exact h
 ·simp
theorem WM{c:List NN}{x:NN}(h:c.Nodup):(uL c x).Nodup:=by
 unfold uL;split
 ·exact h
 ·next f=>exact List.nodup_append.2 ⟨h,by simp,λa g b d e=>by rw[mem_singleton.1 d]at e;exact f (e▸g)⟩
def wO(a:List NN)(l:List (Mv×NN)):List NN:=l.foldl (λo x=>uL o x.2) a
theorem O1(a:List NN)(l:List (Mv×NN))(x:Mv×NN):wO a (l++[x])=uL (wO a l) x.2:=by unfold wO;rw[foldl_append];rfl
theorem nY:∀{l:List (Mv×NN)}{a:List NN}{y:NN},y∈wO a l↔y∈a\/ ∃x∈l,y=x.2
 |[],a,y=>by simp[wO]
 |x::l,a,y=>by
  show y∈wO (uL a x.2) l↔_;rw[nY,R2];simp only[mem_cons,exists_eq_or_imp,or_assoc]
theorem Fo:∀{l:List (Mv×NN)}{a:List NN},a.Nodup->(wO a l).Nodup
 |[],_,h=>h
 |x::l,a,h=>Fo (l:=l) (WM h)
theorem uM:∀{l:List (Mv×NN)}{ord:List NN}{j:Nat}{y:NN},ord[j]?=some y->(wO ord l)[j]?=some y
 |[],_,_,_,h=>h
 |x::l,ord,j,y,h=>by
  refine uM (l:=l) (ord:=uL ord x.2) ?_;unfold uL;split
  ·exact h
  ·rw[List.getElem?_append_left (List.getElem?_eq_some_iff.1 h).1];exact h
def inB(A B:aH)(k:NN):Prop:=k.1<A.ak.length/\k.2<B.ak.length
theorem nD{N M:Nat}{c:List NN}(o:c.Nodup)(d:∀k∈c,k.1<N/\k.2<M):c.length<=N*M:=by
 have h:=BW (N*M) (l:=c.map λk=>k.1*M+k.2) ?_ ?_
 ·rwa[lM]at h
 ·refine(List.pairwise_map).2 ((List.Pairwise.imp_of_mem (λq n g e=>?_)) o);obtain⟨m,f⟩:=d _ q;obtain⟨u,t⟩:=d _ n;rename_i a b;have j:a.2=b.2:=by
   have:=congrArg (· % M) e;simpa[Nat.mul_add_mod',Nat.mod_eq_of_lt f,Nat.mod_eq_of_lt t]using this
  have p:a.1=b.1:=by
   rw[j]at e;exact Nat.eq_of_mul_eq_mul_right (by omega) (Nat.add_right_cancel e)
  exact g (Prod.ext p j)
 ·intro i r;obtain⟨k,s,rfl⟩:=mem_map.1 r;obtain⟨m,f⟩:=d _ s
  calc k.1*M+k.2<k.1*M+M:=by omega
   _=(k.1+1)*M:=by rw[Nat.add_mul,one_mul]
   _<=N*M:=Nat.mul_le_mul_right _ m
theorem Vt{B:aH}(o:Good M)(l:Good B){k j:NN}{m:Mv}(d:inB M B k)(s:DQ M B k m j):inB M B j:=by
 have b:∀{n:aH},Good n->∀{s:Nat}{a:cq},a∈bD n s->s<n.ak.length->a.t.toNat<n.ak.length:=λ{n} g {s} {a} c q=>by
  obtain⟨x,_,e,_,p⟩:=jB q;rw[e]at c;have h:=g.an x p a c;have i:=h.t0;have r:=h.t1;omega
 cases s with
 |left c i=>exact⟨b o c d.1,d.2⟩
 |right f i=>exact⟨d.1,b l f d.2⟩
 |both c f i e=>exact⟨b o c d.1,b l f d.2⟩
structure WJ(A B:aH)(ord:List NN):Prop where
 nd:ord.Nodup
 hd:ord[0]?=some (sI A B)
 lt:∀k∈ord,inB A B k
 rc:∀k∈ord,∃ms,PR A B (sI A B) ms k
 cl:∀k∈ord,∀m k',DQ A B k m k'->k'∈ord
structure Nx(A B:aH)(i:Nat)(ord:List NN):Prop where
 nd:ord.Nodup
 hd:ord[0]?=some (sI A B)
 lt:∀k∈ord,inB A B k
 rc:∀k∈ord,∃ms,PR A B (sI A B) ms k
 cl:∀j k,j<i->ord[j]?=some k->∀m k',DQ A B k m k'->k'∈ord
theorem Nx.step{B:aH}(s:Good M)(q:Good B){i:Nat}{a:List NN}(r:Nx M B i a){k:NN}(g:a[i]?=some k):Nx M B (i+1) (wO a (dP M B k)):=by
 have p:=List.mem_of_getElem? g;refine⟨Fo r.nd,uM r.hd,λx f=>?_,λx f=>?_,λj y v t m o d=>?_⟩
 ·rcases nY.1 f with h|⟨z,n,rfl⟩
  ·exact r.lt x h
  ·exact Vt s q (r.lt k p) (fM.1 n)
 ·rcases nY.1 f with h|⟨z,n,rfl⟩
  ·exact r.rc x h
  ·obtain⟨u,h⟩:=r.rc k p;exact⟨_,h.snoc (fM.1 n)⟩
 ·have b:j<a.length:=by
   have:=(List.getElem?_eq_some_iff.1 g).1;omega
  have c:=uM (l:=dP M B k) (gE b);rw[t]at c;obtain rfl:=oI c;by_cases h:j=i
  ·subst h;have e:a[j]=k:=by
    have:=gE b;rw[g]at this;exact(oI this).symm
   rw[e]at d;exact nY.2 (.inr ⟨(m,o),fM.2 d,rfl⟩)
  ·exact nY.2 (.inl (r.cl j _ (by omega) (gE b) m o d))
def UR(h:aa)(T:eB):VH:=λv g=>∃(b:List NN)(a:Option Addr)(n c d:Nat),v = .tuple ⟨[.slice a n c,.map (some d)]⟩/\WJ T.A T.B b/\cT h g 105 2 (.slice a n c) (b.map kV)/\g.get d=some (.map (jo b 0))/\h.next<=d/\bE (.slice a n c)≠some d/\Ok h g
section
variable {h:aa} {T:eB}
theorem acu:aA SS.P 162=some (.cells [nA] 162 0 true,dX):=by kernel_rfl
theorem acv:aA SS.P 163=some (.cells [.map none] 163 0 true,dX):=by kernel_rfl
def mX:bw:= .cells [.int .i64 0,.int .i64 0] 105 0 true
theorem R7:aA SS.P 105=some (mX,dX):=by kernel_rfl
theorem UH(x:NN)(g:aa):aj SS.P 105 (pA g.next) (.agg ⟨kV x⟩) (g.push mX)=some (undef,.set g.next (dh x)):=du CD rfl (aI g mX) rfl rfl
theorem aed(r:T.Rows h):cZ 4 (.agg ⟨T.arg⟩) (.agg ⟨T.arg⟩)=true:=by
 have a:=Kn r.ra;have b:=Kn r.rb;simp only[cZ,eB.arg,ba,yN,Bool.and_eq_true,cons_append,nil_append]at a b⊢
 simp_all
theorem Dy(w:Wf h)(O:T.Rows h)(I:Good T.A)(F:Good T.B)(zA:∀s∈T.A.ak,s.an.length<=2000)(zB:∀s∈T.B.ak,s.an.length<=2000)(x3:T.A.ak.length<=300)(nB:T.B.ak.length<=300){K f t d:Nat}{U:aa}{S:List cD}(m0:Im U S K (kc T))(r0:RS h f t d [sI T.A T.B] U S):LL SS cd [1,1,1,0,1,0,0] (ft K f t 0) U (KK SS cd [1,1,1,0,1,0] [] (EE SS cd (UR h T))):=by
 have x0:inB T.A T.B (sI T.A T.B):=by
  have a0:=I.nR;have a1:=I.rB;have b0:=F.nR;have b1:=F.rB;exact⟨by unfold sI;dsimp only;omega,by unfold sI;dsimp only;omega⟩
 have R:T.A.ak.length*T.B.ak.length<=90000:=Nat.mul_le_mul x3 nB;refine sE T.arg K f t (λZ i g=>∃b L,RS h f t d b g L/\Im g L K (kc T)/\Nx T.A T.B i b/\i<=b.length/\Z=T.A.ak.length*T.B.ak.length-i) _ (λZ i=>?_) (T.A.ak.length*T.B.ak.length) (i:=0) ⟨_,S,r0,m0,⟨by simp,rfl,λk u=>by rw[mem_singleton.1 u];exact x0,λk u=>by rw[mem_singleton.1 u];exact⟨[],.nil _⟩,λj k E=>absurd E (not_lt_zero _)⟩,zero_le _,rfl⟩;intros;rename_i g A;obtain⟨b,L,rs,m1,p,x6,rfl⟩:=A;have x5:=nD p.nd p.lt;obtain⟨o,v,G,D,rfl⟩:=rs;obtain⟨a,c,hv⟩:=D.mU;rw[lM]at hv;subst hv;refine⟨_,_,_,aN wu DS (o.get 0 rfl) (by simp),ah (λq=>?_) (λq=>?_)⟩
 ·have q:=dT q;have hi:i<b.length:=by omega
  obtain⟨k,u⟩:∃k,b[i]?=some k:=⟨_,gE hi⟩
  obtain⟨C,c2⟩:=o.grow ((Ok.refl o.ok.wf).room 7);have m2:=c2 _ _ m1;generalize Go.Ab.room g 7=J at*;obtain⟨kk,oo,d1,Y,_⟩:=(D.rd C (i:=2) rfl).at_ wu CD V3 R5 (ik:= .i64) (i:=(i:Int)) (by omega) (by rw[lM];omega);have e4:(b.map kV).getD (i:Int).toNat []=kV k:=by
   rw[toNat_natCast,gD,getElem?_map,u];rfl
  rw[e4]at Y;have A:=p.lt k (List.mem_of_getElem? u);have x1:=p.step I F u;refine⟨_,kc.all m2.1,_,_,_,aN wu DS (C.get 0 rfl) (by simp),_,d1,_,Y,?_⟩;refine(wy w O I F zA zB (h:=J) (L:=RO f t d _ b G) A.1 A.2 (fa:=[]) (fc:=[pA t,pA f]) (by decide +kernel) (λl g L=>RS h f t d (wO b l) g L/\(wO b l).length<=90000) (λl g L r=>r.1.1) (λl g L X r o=>⟨r.1.grow o,r.2⟩) ⟨⟨C,_,G,D,rfl⟩,by show b.length<=90000;omega⟩ (λx7 x x4 x2 g L r=>?_)).mono ?_
  ·refine(QV w r.1 (by omega) x.1 x.2).mono ?_;rintro _ X ⟨rfl,N,V,Q⟩;refine⟨rfl,N,⟨by rw[O1];exact V,?_⟩,Q⟩;refine Nat.le_trans (nD (Fo p.nd) λy hy=>?_) R;rcases nY.1 hy with h1|⟨z,H,rfl⟩
   ·exact p.lt y h1
   ·refine Vt I F A (fM.1 ?_) (m:=z.1);rw[x2];rcases mem_append.1 H with H|H
    ·exact List.mem_append_left _ H
    ·rw[mem_singleton.1 H];simp
  ·rintro _ X ⟨rfl,N,⟨V,_⟩,Q⟩;refine⟨rfl,?_⟩;rw[bF (n:=b.length) hi (by omega)];refine cK (T.A.ak.length*T.B.ak.length-(i+1)) (by omega) ⟨_,N,V,Q _ _ m2,x1,?_,rfl⟩;have E:=uM (l:=dP T.A T.B k) u;exact(List.getElem?_eq_some_iff.1 E).1
 ·have q:=dF q;have x8:i=b.length:=by omega
  obtain⟨C,c2⟩:=o.grow ((Ok.refl o.ok.wf).room 4);generalize Go.Ab.room g 4=J at*;obtain⟨M,c3⟩:=C.kF w 0 rfl (.cells [.slice a b.length c] 162 0 true);refine⟨_,_,_,aN wu DS (C.get 0 rfl) (by simp),.map (some d),aN oq qD (C.get 1 rfl) (by simp),_,bC MY (C.get 0 rfl) (by simp) (aS ..) (by cases a<;>rfl),?_⟩;change OL h ((aY.set f (.cells (([.slice a b.length c]:List Value).set 0 (.slice a b.length c)) 162 0 true)).app J) (RO f t d (.slice a b.length c) b G)at M;generalize (aY.set f (.cells (([.slice a b.length c]:List Value).set 0 (.slice a b.length c)) 162 0 true)).app J=g3 at*;obtain⟨B,c4⟩:=M.kF w 1 rfl (.cells [.map (some d)] 163 0 true);refine⟨_,bC MZ (M.get 1 rfl) (by simp) rfl rfl,⟨aN oq qD (M.get 1 rfl) (by simp),by simp[cZ]⟩,?_⟩;change OL h ((aY.set t (.cells (([.map (some d)]:List Value).set 0 (.map (some d))) 163 0 true)).app g3) (RO f t d (.slice a b.length c) b G)at B;generalize (aY.set t (.cells (([.map (some d)]:List Value).set 0 (.map (some d))) 163 0 true)).app g3=g4 at*;refine XU (aN wu DS (B.get 0 rfl) (by simp)) (aN oq qD (B.get 1 rfl) (by simp)) ⟨b,a,b.length,c,d,rfl,⟨p.nd,p.hd,p.lt,p.rc,λk u m k' hs=>?_⟩,D.own B (i:=2) rfl,B.get 3 rfl,?_,?_,B.ok⟩
  ·obtain⟨j,E⟩:=List.getElem?_of_mem u;exact p.cl j k (by have:=(List.getElem?_eq_some_iff.1 E).1;omega) E m k' hs
  ·exact B.lo d (by unfold keys RO;simp)
  ·intro e;have W:=D.blk;rw[e]at W;have P:=B.nd;unfold keys RO at P;simp only[flatten_cons,List.flatten_nil,map_append,List.map_cons,List.map_nil,append_nil,W]at P;simp at P
theorem Jt(w:Wf h)(m:T.Rows h)(L:Good T.A)(G:Good T.B)(O:∀s∈T.A.ak,s.an.length<=2000)(S:∀s∈T.B.ak,s.an.length<=2000)(K:T.A.ak.length<=300)(U:T.B.ak.length<=300):FW SS 105 [.agg ⟨T.arg⟩] h (UR h T):=by
 refine Js T.arg h _ ⟨_,H5 T,_,acu,_,acv,?_⟩;have F:=(Ok.refl w).push (kc T);have j:=aI h (kc T);have Z:(h.push (kc T)).next=h.next+1:=rfl;generalize h.push (kc T)=g at*;have D:=(Ok.refl F.wf).push (.cells [nA] 162 0 true);have v:=aI g (.cells [nA] 162 0 true);have j:=D.ext _ _ j;have n2:(g.push (.cells [nA] 162 0 true)).next=g.next+1:=rfl;generalize g.push (.cells [nA] 162 0 true)=f at*;have q:=(Ok.refl D.wf).push (.cells [.map none] 163 0 true);have C:=aI f (.cells [.map none] 163 0 true);have j:=q.ext _ _ j;have v:=q.ext _ _ v;have Y:(f.push (.cells [.map none] 163 0 true)).next=f.next+1:=rfl;generalize f.push (.cells [.map none] 163 0 true)=b at*;have X:=L.nR;have eb:=G.nR;have P:([.int .i64 T.A.start,.int .i64 T.B.start]:List Value)=kV (sI T.A T.B):=OK (by omega) (by omega);refine⟨_,FP _,_,pb _,_,kc.a1 j,_,Br _,_,aa7 _,_,kc.b1 j,_,mw _ _,_,R7,?_⟩;rw[P];have R:=(Ok.refl q.wf).push mX;have b4:=aI b mX;have n4:(b.push mX).next=b.next+1:=rfl;have y:Ok b ((aY.set b.next (dh (sI T.A T.B))).app (b.push mX)):=R.set _ (Nat.le_refl _) (by omega) q.wf;have V:((aY.set b.next (dh (sI T.A T.B))).app (b.push mX)).get b.next=some (dh (sI T.A T.B)):=by
  show((b.push mX).set _ _).get _=_;rw[aa.aw,if_pos rfl]
 have W:((aY.set b.next (dh (sI T.A T.B))).app (b.push mX)).next=b.next+1:=rfl;refine⟨_,UH _ b,?_⟩;have j:=y.ext _ _ j;have v:=y.ext _ _ v;have C:=y.ext _ _ C;have z:=((F.trans D).trans q).trans y;generalize (aY.set b.next (dh (sI T.A T.B))).app (b.push mX)=i at*;refine .inr ⟨by kernel_rfl,?_⟩;have l:cd.nm=33:=by kernel_rfl
 obtain⟨a,u,l',d,v',nx,A⟩:=YZ (tm:=uN [(.agg ⟨T.arg⟩),(pA (h.next)),(pA (g.next)),(pA (f.next)),(pA (b.next)),undef,(.pointer (some ⟨h.next,0,none⟩)),(.pointer (some ⟨h.next,1,none⟩)),(.int .i64 T.A.start),(.pointer (some ⟨h.next,4,none⟩)),(.pointer (some ⟨h.next,5,none⟩)),(.int .i64 T.B.start),(.agg ⟨kV (sI T.A T.B)⟩)] 20) (h:=i) (x:=sI T.A T.B) rfl rfl rfl rfl (λt=>by
  have J:∀n,cZ 4 ((List.replicate n undef:List Value).getD t undef) ((List.replicate n undef:List Value).getD t undef)=true:=λn=>by
   rw[gD,getElem?_replicate];split<;>rfl
  match t with
  |0=>exact aed m
  |1=>simp[cZ]
  |2=>simp[cZ]
  |3=>simp[cZ]
  |4=>simp[cZ]
  |5=>rfl
  |6=>simp[cZ]
  |7=>simp[cZ]
  |8=>simp[cZ]
  |9=>simp[cZ]
  |10=>simp[cZ]
  |11=>simp[cZ]
  |12=>simp[cZ,yN,kV]
  |t+13=>
   show cZ 4 ((List.replicate 20 undef:List Value).getD t undef) ((List.replicate 20 undef:List Value).getD t undef)=true;rw[gD,getElem?_replicate];split<;>rfl) V v C (by omega) (by omega) (by omega) (by omega) (by omega) (by omega)
 have o:∀k,k<h.next+1->∀B,i.get k=some B->u.get k=some B:=λk c B M=>by
  rw[A];unfold hT;rw[if_neg (λe=>by omega),if_neg (λe=>by omega),if_neg (λe=>by omega),if_neg (λe=>by omega)];exact M
 have H:Ok h u:=⟨λk B c=>by
   rw[A]at c;unfold hT at c;split at c
   ·omega
   split at c
   ·omega
   split at c
   ·omega
   split at c
   ·omega
   ·have:=z.wf _ _ c;omega,λk B c=>o k (by have:=w _ _ c;omega) B (z.ext _ _ c),by omega⟩
 have I:RS h g.next f.next (i.next+2) [sI T.A T.B] u (RO g.next f.next (i.next+2) (sA (i.next+1) 1 1) [sI T.A T.B] [(i.next+1,.cells (kV (sI T.A T.B)) 105 2 true)]):=by
  refine⟨⟨H,?_,λk c=>?_,λp E=>?_⟩,_,_,?_,rfl⟩
  ·unfold keys RO;simp only[flatten_cons,List.flatten_nil,map_append,List.map_cons,List.map_nil,append_nil,cons_append,nil_append,nodup_cons,mem_cons,List.not_mem_nil,or_false,not_or,List.nodup_nil,not_false_eq_true,and_true];omega
  ·unfold keys RO at c;simp at c;omega
  ·unfold RO at E;simp only[flatten_cons,List.flatten_nil,append_nil,cons_append,nil_append,mem_cons,List.not_mem_nil,or_false]at E;rw[A];unfold hT;rcases E with rfl|rfl|rfl|rfl
   ·rw[if_neg (λe=>by have:=e.1;dsimp only at this;omega),if_neg (λe=>by have:=e.1;dsimp only at this;omega),if_pos ⟨rfl,rfl⟩]
   ·rw[if_neg (λe=>by have:=e.1;dsimp only at this;omega),if_neg (λe=>by have:=e.1;dsimp only at this;omega),if_neg (λe=>by have:=e.1;dsimp only at this;omega),if_pos ⟨rfl,rfl⟩]
   ·rw[if_pos ⟨rfl,rfl⟩]
   ·rw[if_neg (λe=>by have:=e.1;dsimp only at this;omega),if_pos ⟨rfl,rfl⟩];rfl
  ·exact fh.made (rs:=[kV (sI T.A T.B)]) (λr J=>by rw[mem_singleton.1 J];rfl) (by rw[length_singleton];decide)
 have N:Im u (RO g.next f.next (i.next+2) (sA (i.next+1) 1 1) [sI T.A T.B] [(i.next+1,.cells (kV (sI T.A T.B)) 105 2 true)]) h.next (kc T):=⟨o _ (Nat.lt_succ_self _) _ j,λc=>by
  unfold keys RO at c;simp at c;omega⟩
 have Q:=Dy w m L G O S K U N I;refine⟨a,u,by rw[l];exact l',by rw[l,T1 (n:=33) rfl];exact d,a,by rw[l];exact l',rfl,?_⟩;have e:a=[fr a 0,fr a 1,fr a 2,fr a 3,fr a 4,fr a 5,fr a 6,fr a 7,fr a 8,fr a 9,fr a 10,fr a 11,fr a 12,fr a 13,fr a 14,fr a 15,fr a 16,fr a 17,fr a 18,fr a 19,fr a 20,fr a 21,fr a 22,fr a 23,fr a 24,fr a 25,fr a 26,fr a 27,fr a 28,fr a 29,fr a 30,fr a 31,fr a 32]:=(T1 l').symm;rw[show fr a 1=pA h.next from v' 1 (by omega),show fr a 2=pA g.next from v' 2 (by omega),show fr a 3=pA f.next from v' 3 (by omega),show fr a 4=pA b.next from v' 4 (by omega)]at e;rw[e];exact zO Q
end
end
noncomputable def bh:FD:=ei Tryz.f106 [([1,1,1,0,1,0,0],[1,3,5,7,8,23,24,25]),([1,1,1,1,1,0,1,0,0],[1,3,5,7,8,11,40,41,42]),([1,1,1,1,1,1,0,0,0],[1,3,5,7,8,11]),([1,1,1,1,1,1,0,0,0,1,0,1,1,1,0,0],[1,3,5,7,8,11,14,71,72,73])]
abbrev gX(a:OA)(n c f d e b:Nat)(i:Nat):LV:=[(.slice a n c),(pA f),(pA d),(pA e),(pA b),(.slice a n c),(iA n),(iA i)]
abbrev fv(a:OA)(n c g e f d b:Nat)(i:Nat):LV:=[(.slice a n c),(pA g),(pA e),(pA f),(pA d),(pA b),(.slice a n c),(iA n),(iA i)]
abbrev fx(a:OA)(n c g e f d b:Nat)(z:Unit):LV:=[(.slice a n c),(pA g),(pA e),(pA f),(pA d),(pA b)]
abbrev gY(a:OA)(n c k h i g e f:Nat)(b:OA)(m d:Nat)(j:Nat):LV:=[(.slice a n c),(pA k),(pA h),(pA i),(pA g),(pA e),(pA f),(.slice b m d),(iA m),(iA j)]
theorem QI(a:OA)(n c:Nat)(o:LV)(l:Nat)(h:aa)(Q:VH)(r:xN (dK SS.P 66 (.agg ⟨o⟩)) h λx j=>xN (dK SS.P 163 (.map (some l))) j λz k=>xR (aR SS.P 166 (iA n) (iA n)) k λA s q g=>xN (aA SS.P 166) g λy f=>xU (aj SS.P 166 (pA (g.next)) (sA (k.next) s q) f) f λu d=>xR (aR SS.P 126 (iA n) (iA n)) d λt i p b=>xN (aA SS.P 126) b λw e=>xU (aj SS.P 126 (pA (b.next)) (sA (d.next) i p) e) e λv m=>LL SS bh [1,1,1,0,1,0,0] (gX a n c (h.next) (j.next) (g.next) (b.next) 0) m (KK SS bh [1,1,1,0,1,0] [] (EE SS bh Q))):FW SS 106 [(.agg ⟨o⟩),(.slice a n c),(.map (some l))] h Q:=eu bh Tryz.func106 (ax r)
theorem vX(a:OA)(n c:Nat)(O:LV)(N:Nat)(j g m d:Nat)(e:Nat->Nat->aa->Prop)(Q:VH)(step:∀(b:Nat) (i:Nat) (C:Nat->Value) (h:aa),e b i h->aQ (decide (((i:Int):Int)<(n:Int))) (xP (ai SS.P 162 (.slice a n c) (iA i)) λv=>xA (ae SS.P 105 h (.pointer (some v))) λs=>xN (aA SS.P 3) h λL k=>xN (aA SS.P 105) k λM p=>xU (aj SS.P 3 (pA (h.next)) (iA i) p) p λK o=>xU (aj SS.P 105 (pA (k.next)) (.agg ⟨s⟩) o) o λI l=>xA (ae SS.P 66 l (pA j)) λx=>xA (ae SS.P 105 l (pA (k.next))) λA=>FW SS 111 [(.agg ⟨x⟩),(.agg ⟨A⟩),(.func (.func 145) ⟨[]⟩ ⟨[(pA d),(pA g),(pA (h.next))]⟩)] l λy f=>y=(.tuple ⟨[]⟩)/\xL (ae SS.P 126 f (pA d)) λt r B=>xI .i64 (ae SS.P 3 f (pA (h.next))) λG=>xP (ai SS.P 126 (.slice t r B) (.int .i64 G)) λz=>xL (ae SS.P 27 f (.pointer (some z))) λE F D=>FW SS 146 [(.slice E F D)] f λH u=>H=(.tuple ⟨[]⟩)/\aJ (fB (gX a n c j g m d) e) b [(.slice a n c),(pA j),(pA g),(pA m),(pA d),(.slice a n c),(iA n),(.int .i64 (wrap .i64 ((i:Int)+1)))] u) (xN (aA SS.P 27) h λJ w=>LL SS bh [1,1,1,1,1,0,1,0,0] (fv a n c j g m d (h.next) 0) w (KK SS bh [1,1,1,1,1,0,1,0] [] (EE SS bh Q))))(b:Nat){i:Nat}{h:aa}(q:e b i h):LL SS bh [1,1,1,0,1,0,0] (gX a n c j g m d i) h (KK SS bh [1,1,1,0,1,0] [] (EE SS bh Q)):=
 dQ (gX a n c j g m d) e (λb i C h q=>ax (step b i C h q)) b q
theorem vY(a:OA)(n c:Nat)(Y:LV)(X:Nat)(g k f j:Nat)(b:Nat)(e:Nat->Nat->aa->Prop)(Q:VH)(step:∀(d:Nat) (i:Nat) (F:Nat->Value) (h:aa),e d i h->aQ (decide (((i:Int):Int)<(n:Int))) (xP (ai SS.P 162 (.slice a n c) (iA i)) λI=>xA (ae SS.P 105 h (.pointer (some I))) λC=>xN (aA SS.P 105) h λR r=>xU (aj SS.P 105 (pA (h.next)) (.agg ⟨C⟩) r) r λU m=>xA (ae SS.P 66 m (pA g)) λH=>xA (ae SS.P 105 m (pA (h.next))) λL=>FW SS 109 [(.agg ⟨H⟩),(.agg ⟨L⟩)] m λK l=>yB K λz=>aQ z (xL (ae SS.P 166 l (pA f)) λu v N=>xA (aD SS.P 170 []) λA=>xN (dK SS.P 170 (.agg ⟨A⟩)) l λT q=>xP (ai SS.P 166 (.slice u v N) (iA i)) λD=>xU (aj SS.P 168 (.pointer (some D)) (pA (l.next)) q) q λP o=>xL (ae SS.P 27 o (pA b)) λM J x=>xR (az SS.P 27 1 [(0,(iA i))]) o λS w B p=>xE (aE SS.P 27 27 (.slice M J x) (sA (o.next) w B) p) p λy G E V s=>xU (aj SS.P 27 (pA b) (.slice y G E) s) s λW O=>aJ (fB (fv a n c g k f j b) e) d [(.slice a n c),(pA g),(pA k),(pA f),(pA j),(pA b),(.slice a n c),(iA n),(.int .i64 (wrap .i64 ((i:Int)+1)))] O) (aJ (fB (fv a n c g k f j b) e) d [(.slice a n c),(pA g),(pA k),(pA f),(pA j),(pA b),(.slice a n c),(iA n),(.int .i64 (wrap .i64 ((i:Int)+1)))] l)) (LL SS bh [1,1,1,1,1,1,0,0,0] [(.slice a n c),(pA g),(pA k),(pA f),(pA j),(pA b)] h (KK SS bh [1,1,1,1,1,1,0,0] [] (EE SS bh Q))))(d:Nat){i:Nat}{h:aa}(t:e d i h):LL SS bh [1,1,1,1,1,0,1,0,0] (fv a n c g k f j b i) h (KK SS bh [1,1,1,1,1,0,1,0] [] (EE SS bh Q)):=
 dQ (fv a n c g k f j b) e (λd i F h t=>ax (step d i F h t)) d t
theorem vZ(a:OA)(n c:Nat)(V:LV)(U:Nat)(l k j i:Nat)(b:Nat)(e:Nat->Unit->aa->Prop)(Q:VH)(step:∀(d:Nat) (z:Unit) (J:Nat->Value) (h:aa),e d z h->xL (ae SS.P 27 h (pA b)) λS F R=>aQ (decide (((F:Int):Int)>0)) (xL (ae SS.P 27 h (pA b)) λC H I=>xP (ai SS.P 27 (.slice C H I) (.int .i64 0)) λB=>xI .i64 (ae SS.P 3 h (.pointer (some B))) λG=>xN (aA SS.P 3) h λO m=>xU (aj SS.P 3 (pA (h.next)) (.int .i64 G) m) m λP g=>xL (ae SS.P 27 g (pA b)) λE N D=>xL (bm SS.P 27 (.slice E N D) (some (.int .i64 1)) none none g) λM L K=>xU (aj SS.P 27 (pA b) (.slice M L K) g) g λT f=>xL (ae SS.P 126 f (pA i)) λA u y=>xI .i64 (ae SS.P 3 f (pA (h.next))) λp=>xP (ai SS.P 126 (.slice A u y) (.int .i64 p)) λx=>xL (ae SS.P 27 f (.pointer (some x))) λo w q=>LL SS bh [1,1,1,1,1,1,0,0,0,1,0,1,1,1,0,0] (gY a n c l k j i b (h.next) o w q 0) f (KK SS bh [1,0,1,1,1,0] [1,1,1,1,1,1,0,0,0] (RR bh [1,1,1,1,1,1,0,0,0] (fB (fx a n c l k j i b) e) d (KK SS bh [1,1,1,1,1,1,0,0] [] (EE SS bh Q))))) (xL (ae SS.P 166 h (pA j)) λt s r=>Q (.slice t s r) h))(d:Nat){z:Unit}{h:aa}(v:e d z h):LL SS bh [1,1,1,1,1,1,0,0,0] (fx a n c l k j i b z) h (KK SS bh [1,1,1,1,1,1,0,0] [] (EE SS bh Q)):=
 dQ (fx a n c l k j i b) e (λd z J h v=>ax (step d z J h v)) d v
theorem wa(a:OA)(n c:Nat)(P:LV)(O:Nat)(p o k q:Nat)(f i:Nat)(b:OA)(m d:Nat)(s:Nat->Unit->aa->Prop)(t:Nat)(z:Unit)(l:Nat->Nat->aa->Prop)(Q:VH)(step:∀(g:Nat) (j:Nat) (L:Nat->Value) (h:aa),l g j h->aQ (decide (((j:Int):Int)<(m:Int))) (xP (ai SS.P 27 (.slice b m d) (iA j)) λB=>xI .i64 (ae SS.P 3 h (.pointer (some B))) λH=>xN (aA SS.P 3) h λM r=>xU (aj SS.P 3 (pA (h.next)) (.int .i64 H) r) r λN e=>xL (ae SS.P 166 e (pA k)) λK D F=>xI .i64 (ae SS.P 3 e (pA (h.next))) λI=>xP (ai SS.P 166 (.slice K D F) (.int .i64 I)) λy=>xO (ae SS.P 168 e (.pointer (some y))) λu=>xB (ay SS.P .neq 168 (.pointer u) (.pointer none)) λA=>aQ A (aJ (fB (gY a n c p o k q f i b m d) l) g [(.slice a n c),(pA p),(pA o),(pA k),(pA q),(pA f),(pA i),(.slice b m d),(iA m),(.int .i64 (wrap .i64 ((j:Int)+1)))] e) (xA (ae SS.P 66 (room e 7) (pA p)) λw=>xI .i64 (ae SS.P 3 (room e 7) (pA (h.next))) λv=>xP (ai SS.P 162 (.slice a n c) (.int .i64 v)) λJ=>xA (ae SS.P 105 (room e 7) (.pointer (some J))) λx=>FW SS 111 [(.agg ⟨w⟩),(.agg ⟨x⟩),(.func (.func 147) ⟨[]⟩ ⟨[(pA o),(pA i),(pA k),(pA (h.next)),(pA f)]⟩)] (room e 7) λG E=>G=(.tuple ⟨[]⟩)/\aJ (fB (gY a n c p o k q f i b m d) l) g [(.slice a n c),(pA p),(pA o),(pA k),(pA q),(pA f),(pA i),(.slice b m d),(iA m),(.int .i64 (wrap .i64 ((j:Int)+1)))] E)) (aJ (fB (fx a n c p o k q f) s) t [(.slice a n c),(pA p),(pA o),(pA k),(pA q),(pA f)] h))(g:Nat){j:Nat}{h:aa}(C:l g j h):LL SS bh [1,1,1,1,1,1,0,0,0,1,0,1,1,1,0,0] (gY a n c p o k q f i b m d j) h (KK SS bh [1,0,1,1,1,0] [1,1,1,1,1,1,0,0,0] (RR bh [1,1,1,1,1,1,0,0,0] (fB (fx a n c p o k q f) s) t (KK SS bh [1,1,1,1,1,1,0,0] [] (EE SS bh Q)))):=
 dQ (gY a n c p o k q f i b m d) l (λg j L h C=>ax (step g j L h C)) g C
section
theorem oD{n:Nat}(h:i<n)(a:n<=4611686018427387904):wrap .i64 ((i:Int)+1)=((i+1:Nat):Int):=by rw[aO (by omega) (by omega)];omega
theorem UF:SS.pr 146=some Cu:=by kernel_rfl
theorem Na:bZ SS.P 27=true:=by kernel_rfl
theorem Ih:∀l:List Int,Li (l.map zV)=some l
 |[]=>rfl
 |z::l=>by
  show(Li (l.map zV)).map (z::·)=_;rw[Ih l];rfl
def mV(l:List Nat):List Nat:=(zk (l.map λx:Nat=>(x:Int))).map Int.toNat
theorem pG(l:List Nat):(zk (l.map λx:Nat=>(x:Int))).Perm (l.map λx:Nat=>(x:Int)):=List.mergeSort_perm ..
theorem Rg{l:List Nat}{x:Nat}:x∈mV l↔x∈l:=by
 unfold mV;rw[mem_map];constructor
 ·rintro⟨z,a,rfl⟩;obtain⟨y,b,rfl⟩:=mem_map.1 ((pG l).mem_iff.1 a);simpa using b
 ·intro h;exact⟨(x:Int),(pG l).mem_iff.2 (mem_map.2 ⟨x,h,rfl⟩),by simp⟩
theorem oB(l:List Nat):(mV l).length=l.length:=by
 unfold mV;rw[lM,(pG l).length_eq,lM]
theorem Vp(l:List Nat):(mV l).map iv=(zk (l.map λx:Nat=>(x:Int))).map zV:=by
 unfold mV;rw[List.map_map];refine List.map_congr_left λz a=>?_;obtain⟨y,b,rfl⟩:=mem_map.1 ((pG l).mem_iff.1 a);show iv (Int.toNat (y:Int))=zV (y:Int);rw[toNat_natCast];rfl
theorem MK{h0 g:aa}{L:List cD}{l:List Nat}{G:cD}(A:Wf h0)(r:dy 3 v (l.map iv) G)(o:OL h0 g L){i:Nat}(m:L[i]?=some G)(K:l.length<=4611686018427387903):FW SS 146 [v] g (λx d=>x = .tuple ⟨[]⟩/\∃u,dy 3 v ((mV l).map iv) u/\OL h0 d (L.set i u)/\eS g L d (L.set i u)):=by
 obtain⟨J,⟨rfl,C,rfl⟩|⟨k,a,cs,c,rfl,rfl,q,D,z⟩⟩:=r
 ·have f:l=[]:=by simpa[po]using C
  subst f;refine rU (h':=g) (v:= .tuple ⟨[]⟩) (by kernel_rfl) UF (λy=>?_) ⟨rfl,[],?_,?_⟩
  ·rfl
  ·have:mV []=[]:=List.eq_nil_of_length_eq_zero (oB []);rw[this];exact dy.nil 3
  ·exact o.UX m o.ok (λp s=>by cases s) (by simp) (λk n=>by cases n) (λ_ _ h _=>h)
 ·rw[dw,lM]at q z;rw[jR,mul_one]at q;rw[mul_one]at D;have n:=o.get i m;have b:(po (l.map iv)).length=l.length:=by rw[dw,lM]
  have e:(po ((mV l).map iv)).length=l.length:=by rw[dw,lM,oB]
  have w:l.map iv=(l.map λx:Nat=>(x:Int)).map zV:=by rw[List.map_map];rfl
  have I:((mV l).map iv).length=l.length:=by rw[lM,oB]
  obtain⟨F,E⟩:=o.kF A i m (.cells (cs.take a++(mV l).map iv++cs.drop (a+l.length)) 3 1 true);by_cases h0:l.length=0
  ·have f:l=[]:=List.eq_nil_of_length_eq_zero h0;subst f;refine rU (h':=g) (v:= .tuple ⟨[]⟩) (by kernel_rfl) UF (λy=>?_) ⟨rfl,[(k,.cells cs 3 1 true)],?_,?_⟩
   ·rfl
   ·have:mV []=[]:=List.eq_nil_of_length_eq_zero (oB []);rw[this];exact⟨vU,.inr ⟨k,a,cs,c,rfl,rfl,by simp[po],by omega,zero_le _⟩⟩
   ·exact o.UX m o.ok (λp s=>by obtain rfl:=mem_singleton.1 s;exact n) (by simp) (λj H=> .inl H) (λ_ _ h _=>h)
  ·refine rU (h':=(aY.set k (.cells (cs.take a++(mV l).map iv++cs.drop (a+l.length)) 3 1 true)).app g) (v:= .tuple ⟨[]⟩) (by kernel_rfl) UF (λy=>?_) ⟨rfl,_,⟨vU,.inr ⟨k,a,_,c,by rw[b,e],rfl,?_,?_,by rw[e];exact z⟩⟩,F,E⟩
   ·rw[b];show(if l.length=0 then some (Value.tuple ⟨[]⟩,g)else match g.get k with
     |some (.cells cs t B true)=>if l.length<4611686018427387904/\a+l.length<=cs.length then(Li ((cs.drop a).take l.length)).map λl'=>(Value.tuple ⟨[]⟩,g.set k (.cells (cs.take a++(zk l').map zV++cs.drop (a+l.length)) t B true))else none
     |_=>none)=_
    rw[if_neg h0,n];dsimp only;rw[if_pos (⟨by omega,by omega⟩:l.length<4611686018427387904/\a+l.length<=cs.length),q,w,Ih,Vp];rfl
   ·rw[e,mul_one,jR,append_assoc,List.drop_append,List.drop_eq_nil_of_le (by rw[length_take];omega),nil_append,show a-(cs.take a).length=0 by rw[length_take];omega,drop_zero,List.take_append_of_le_length (by omega),take_of_length_le (by omega)]
   ·rw[length_append,length_append,length_take,List.length_drop,I];omega
def bkL(ko kb n:Nat)(a:List Value)(b:List cD):List cD:=[(ko,.cells (List.replicate n (.pointer none)) 168 1 true)]::[(kb,.cells a 27 1 true)]::b
structure BkR(n:Nat)(bs:List (List Nat))(vs:List Value)(Gs:List cD):Prop where
 lv:vs.length=n
 lg:Gs.length=n
 lb:bs.length=n
 row:∀(j:Nat)(v:Value)(b:List Nat)(G:cD),vs[j]?=some v->bs[j]?=some b->Gs[j]?=some G->dy 3 v (b.map iv) G
theorem BkR.at_{n:Nat}{f:List (List Nat)}{g:List cD}(r:BkR n f d g){t:Nat}(h:t<n):∃b a c G,d[t]?=some (.slice a b.length c)/\f[t]?=some b/\g[t]?=some G/\dy 3 (.slice a b.length c) (b.map iv) G:=by
 have e:=gE (l:=d) (i:=t) (by rw[r.lv];exact h);have o:=gE (l:=f) (i:=t) (by rw[r.lb];exact h);have m:=gE (l:=g) (i:=t) (by rw[r.lg];exact h);have j:=r.row t _ _ _ e o m;obtain⟨a,c,k⟩:=j.mU;rw[lM]at k;rw[k]at j e;exact⟨_,a,c,_,e,o,m,j⟩
theorem BkR.set{n:Nat}{g:List (List Nat)}{i:List cD}(r:BkR n g c i)(t:Nat){v:Value}{b:List Nat}{G:cD}(h:dy 3 v (b.map iv) G):BkR n (g.set t b) (c.set t v) (i.set t G):=by
 refine⟨by rw[length_set];exact r.lv,by rw[length_set];exact r.lg,by rw[length_set];exact r.lb,λj v' k l d f a=>?_⟩;rw[getElem?_set]at d f a;by_cases e:t=j
 ·rw[if_pos e]at d f a;split at d
  ·split at f
   ·split at a
    ·obtain rfl:=oI d;obtain rfl:=oI f;obtain rfl:=oI a;exact h
    ·cases a
   ·cases f
  ·cases d
 ·rw[if_neg e]at d f a;exact r.row j _ _ _ d f a
def BS(h0:aa)(ko kb n:Nat)(c:List (List Nat))(g:aa)(L:List cD):Prop:=OL h0 g L/\∃a b,BkR n c a b/\L=bkL ko kb n a b
structure Still(k3 k5 k8 km:Nat)(T:eB)(ord:List NN)(kb n:Nat)(g:aa)(L:List cD):Prop where
 m3:Im g L k3 (kc T)
 m5:Im g L k5 (.cells [.map (some km)] 163 0 true)
 m8:Im g L k8 (.cells [sA kb n n] 126 0 true)
 mm:Im g L km (.map (jo ord 0))
section
variable {h0:aa} {T:eB} {ord:List NN} {k3 k5 k8 km ko kb n:Nat} {g:aa} {L:List cD}
theorem Still.cS{a:List cD}(s:Still k3 k5 k8 km T ord kb n g L)(c:eS g L h a):Still k3 k5 k8 km T ord kb n h a:=⟨c _ _ s.m3,c _ _ s.m5,c _ _ s.m8,c _ _ s.mm⟩
def C9(ord:List NN)(i:Nat)(a:List (List Nat))(x:Mv×NN):List (List Nat):=match nc ord x.2 with
 |some t=>a.set t (a.getD t []++[i])
 |none=>a
theorem Q6(J:Wf h0){r:List (List Nat)}(hr:BS h0 ko kb n r g L)(S:Still k3 k5 k8 km T ord kb n g L){B i:Nat}(mi:Im g L B (.cells [iA i] 3 0 true)){x:NN}{t:Nat}(W:nc ord x=some t)(d:t<n)(Z:∀b∈r,b.length<=500000000000)(m:Mv):
  FW SS 145 [.agg ⟨rZ m⟩,.agg ⟨kV x⟩,pA k8,pA k5,pA B] g (λv f=>v = .tuple ⟨[]⟩/\∃I,BS h0 ko kb n (C9 ord i r (m,x)) f I/\eS g L f I):=by
 refine Mk (rZ m) (kV x) k8 k5 B g _ ⟨_,AP m,_,xg x,?_⟩;obtain⟨o,k,V,q,rfl⟩:=hr;obtain⟨w,c1⟩:=o.grow ((Ok.refl o.ok.wf).push (iG m));generalize g.push (iG m)=g1 at*;have b:=w.fe (dh x);obtain⟨E,c2⟩:=w.grow ((Ok.refl w.ok.wf).push (dh x));have c:=c1.trans c2;generalize g1.push (dh x)=y at*;obtain⟨o3,D⟩:=E.grow ((Ok.refl E.ok.wf).room 15);have e:=S.cS (c.trans D);have N:=D _ _ b;have P:=(c.trans D) _ _ mi;have H:∀{f:aa},f.get km=some (.map (jo ord 0))->jF SS.P 163 (.map (some km)) (.agg ⟨kV x⟩) false f=some (.int .i64 (t:Int)):=λh=>by
  have:=(Ac h x).2;rw[W]at this;exact this
 obtain⟨l,a,cc,G,e1,U,e3,X⟩:=q.at_ d;have R:k.getD t undef = .slice a l.length cc:=by rw[gD,e1];rfl
 have K:ae SS.P 27 (Go.Ab.room y 15) (.pointer (some ⟨kb,t,none⟩))=some (.slice a l.length cc):=by rw[aN cQ gL (o3.get 1 rfl) (by rw[q.lv];exact d),R]
 refine⟨_,_,_,e.m8.ld iY oa,.map (some km),e.m5.ld oq qD,_,dh.all N.1,_,H e.mm.1,_,_,_,e.m8.ld iY oa,.map (some km),e.m5.ld oq qD,_,dh.all N.1,_,H e.mm.1,_,mF iY ef d,_,_,_,K,_,P.ld lp ll,_,_,_,tH _,?_⟩;obtain⟨o4,A,m4⟩:=E.LC (n:=15) (j:=11) (by omega) (.cells [.int .i64 (i:Int)] 3 1 true);have s4:=S.cS (c.trans A);have b4:=A _ _ b;generalize av (Go.Ab.room y 15) y.next [(11,.cells [.int .i64 (i:Int)] 3 1 true)]=g4 at*;have x0:=Z l (List.mem_of_getElem? U);obtain⟨C,Q,M,u,p1,p2,Y,s,p,F⟩:=X.snoc cQ rk kX Na J o4 (j:=t+2) (by exact e3) (x:= .int .i64 (i:Int)) rfl m4.1 (by rw[iV,lM];omega) (by rw[lM];omega);refine⟨_,_,_,_,p1,?_⟩;have z:=s4.cS F;have b5:=F _ _ b4;generalize u.app g4=g5 at*;have p:OL h0 g5 (bkL ko kb n k (V.set t Y)):=p;obtain⟨o6,c6⟩:=p.kF J 1 rfl (.cells (k.set t (.slice C Q M)) 27 1 true);refine⟨_,mF iY ef d,_,bC ef (p.get 1 rfl) (by rw[q.lv];exact d) (aS ..) (by cases C<;>rfl),⟨z.m8.ld iY oa,by simp[cZ]⟩,⟨z.m5.ld oq qD,by simp[cZ]⟩,⟨dh.all b5.1,by simp[cZ,yN,kV]⟩,⟨H z.mm.1,by simp[cZ]⟩,rfl,_,⟨o6,k.set t (.slice C Q M),V.set t Y,?_,rfl⟩,(c.trans A).trans (F.trans c6)⟩;unfold C9;rw[show nc ord (m,x).2=some t from W];dsimp only;have O:r.getD t []=l:=by rw[gD,U];rfl
 rw[O];exact q.set t (by rw[map_append];exact s)
end
def uC(ord:List NN)(W:Nat->(Mv×NN)->Prop)(c:List (List Nat)):Prop:=∀t b,c[t]?=some b->∀a,a∈b↔ ∃x,W a x/\nc ord x.2=some t
theorem uC.add{ord:List NN}{W:Nat->(Mv×NN)->Prop}{j:List (List Nat)}(h:uC ord W j)(i:Nat)(x:Mv×NN):uC ord (λa y=>W a y\/(a=i/\y=x)) (C9 ord i j x):=by
 intro t b f a;unfold C9 at f
 cases g:nc ord x.2 with
 | none=>
  rw[g]at f;rw[h t b f a];constructor
  ·rintro⟨y,d,c⟩;exact⟨y,.inl d,c⟩
  ·rintro⟨y,d|⟨_,rfl⟩,c⟩
   ·exact⟨y,d,c⟩
   ·rw[g]at c;cases c
 | some s=>
  rw[g]at f;dsimp only at f;rw[getElem?_set]at f;by_cases e:s=t
  ·subst e;rw[if_pos rfl]at f;split at f
   ·next k=>
    obtain rfl:=oI f;have h0:=h s _ (gE k) a;have l:j.getD s []=j[s]:=by rw[gD,gE k];rfl
    rw[l,mem_append,h0,mem_singleton];constructor
    ·rintro(⟨y,d,c⟩|rfl)
     ·exact⟨y,.inl d,c⟩
     ·exact⟨x,.inr ⟨rfl,rfl⟩,g⟩
    ·rintro⟨y,d|⟨d,_⟩,c⟩
     ·exact .inl ⟨y,d,c⟩
     ·exact .inr d
   ·cases f
  ·rw[if_neg e]at f;rw[h t b f a];constructor
   ·rintro⟨y,d,c⟩;exact⟨y,.inl d,c⟩
   ·rintro⟨y,d|⟨_,rfl⟩,c⟩
    ·exact⟨y,d,c⟩
    ·rw[g]at c;exact absurd (oI c) e
theorem uC.congr{ord:List NN}{W f:Nat->(Mv×NN)->Prop}{g:List (List Nat)}(h:uC ord W g)(e:∀a x,W a x↔f a x):uC ord f g:=λt b i a=>by
 rw[h t b i a];exact⟨λ⟨x,c,d⟩=>⟨x,(e a x).1 c,d⟩,λ⟨x,c,d⟩=>⟨x,(e a x).2 c,d⟩⟩
theorem uC.sort{ord:List NN}{W:Nat->(Mv×NN)->Prop}{d:List (List Nat)}(h:uC ord W d){i:Nat}{b:List Nat}(g:d[i]?=some b):uC ord W (d.set i (mV b)):=by
 intro t f c a;rw[getElem?_set]at c;by_cases e:i=t
 ·subst e;rw[if_pos rfl]at c;split at c
  ·obtain rfl:=oI c;rw[Rg];exact h i b g a
  ·cases c
 ·rw[if_neg e]at c;exact h t f c a
theorem R1{ord:List NN}{d:List (List Nat)}{x:Mv×NN}(h:∀b∈d,b.length<=m):∀b∈C9 ord i d x,b.length<=m+1:=by
 intro b a;unfold C9 at a;split at a
 ·next t _=>
  rcases List.mem_or_eq_of_mem_set a with f|rfl
  ·exact Nat.le_succ_of_le (h b f)
  ·rw[length_append,length_singleton];refine Nat.succ_le_succ ?_;rw[gD]
   cases e:d[t]? with
   |none=>exact zero_le _
   |some c=>exact h c (List.mem_of_getElem? e)
 ·exact Nat.le_succ_of_le (h b a)
theorem PY{a:cq}{b:List cq}(h:b.length<=2000):(gF a m b).length<=2000:=by
 unfold gF;split
 ·exact(by decide:(1:Nat)<=2000)
 ·exact Nat.le_trans (List.length_filterMap_le ..) h
theorem oe{b c:Type}{f:b->List c}{N:Nat}(h:∀a,(f a).length<=N):∀l:List b,(l.flatMap f).length<=l.length*N
 |[]=>by simp
 |a::l=>by
  rw[List.flatMap_cons,length_append,length_cons,Nat.add_mul,one_mul];have:=h a;have:=oe h l;omega
theorem MP{B:aH}(h:∀s∈M.ak,s.an.length<=2000)(b:∀s∈B.ak,s.an.length<=2000){k:NN}(c:inB M B k):(dP M B k).length<=4002000:=by
 obtain⟨s,_,e,_,g⟩:=jB c.1;obtain⟨t,_,i,_,d⟩:=jB c.2;unfold dP;rw[e,i,length_append];have l:=oe (f:=λa=>gF a k.2 t.an) (λa=>PY (b t d)) s.an;have m:=List.length_filterMap_le (kW k.1) t.an;have j:=b t d;have n:=Nat.mul_le_mul_right 2000 (h s g);omega
end
variable{x:List Nat}{l:Nat}
section
def qo(m:Mv)(p:Option Addr):bw:= .cells (rZ m++[.pointer p]) 170 0 true
inductive Aw(I:Nat->bw->Prop):Nat->List Mv->Prop
 |nil {k:Nat} (m:Mv) (h:I k (qo m none)):Aw I k []
 |cons {k k':Nat} {m:Mv} {ms:List Mv} (h:I k (qo m (some ⟨k',0,none⟩))) (r:Aw I k' ms):Aw I k (m::ms)
theorem Aw.mono{I I':Nat->bw->Prop}(b:∀k B,I k B->I' k B){k:Nat}{a:List Mv}(r:Aw I k a):Aw I' k a:=by
 induction r with
 |nil m h=>exact .nil m (b _ _ h)
 |cons h _ c=>exact .cons (b _ _ h) c
def Dz(o:Option Nat):Value:= .pointer (o.map λk=>⟨k,0,none⟩)
def zZ(a:List (Option Nat))(j:Nat):Prop:=∃k:Nat,a[j]?=some (some k)
def cY{b:Type}(a:List (Option b)):Nat:=a.countP Option.isNone
theorem pg{a:List (Option Nat)}(h:zZ a j):zZ (a.set i (some k)) j:=by
 obtain⟨b,h⟩:=h;unfold zZ;rw[getElem?_set];by_cases e:i=j
 ·rw[if_pos e,if_pos (by rw[e];exact(List.getElem?_eq_some_iff.1 h).1)];exact⟨k,rfl⟩
 ·rw[if_neg e];exact⟨b,h⟩
theorem vC{a:List (Option Nat)}(h:i<a.length):zZ (a.set i (some k)) i:=⟨k,by rw[getElem?_set,if_pos rfl,if_pos h]⟩
theorem N1{a:List (Option Nat)}(h:zZ (a.set i (some k)) j):j=i\/zZ a j:=by
 obtain⟨b,h⟩:=h;rw[getElem?_set]at h;by_cases e:i=j
 ·exact .inl e.symm
 ·rw[if_neg e]at h;exact .inr ⟨b,h⟩
theorem iT{a:Type}:∀{outs:List (Option a)}{i:Nat}(k:a),outs[i]?=some none->cY (outs.set i (some k))+1=cY outs
 |[],i,_,h=>by simp at h
 |o::outs,0,k,h=>by
  obtain rfl:o=none:=by simpa using h
  unfold cY;rw[List.set_cons_zero,List.countP_cons_of_neg (by simp),List.countP_cons_of_pos (by simp)]
 |o::outs,i+1,k,h=>by
  have:=iT (outs:=outs) (i:=i) k (by simpa using h);unfold cY at this⊢;rw[List.set_cons_succ,countP_cons,countP_cons];omega
theorem Jj(a:List (Option A)):cY a<=a.length:=List.countP_le_length
theorem BX{b:Type}:∀(a:List (Option b))(i:Nat)(k:b),cY (a.set i (some k))<=cY a
 |[],_,_=>Nat.le_refl _
 |o::a,0,k=>by
  unfold cY;rw[List.set_cons_zero,countP_cons,countP_cons];simp
 |o::a,i+1,k=>by
  have:=BX a i k;unfold cY at this⊢;rw[List.set_cons_succ,countP_cons,countP_cons];omega
def DK(h g:aa)(L:List cD)(k:Nat)(B:bw):Prop:=Im g L k B/\h.next<=k
theorem DK.cS{h g b:aa}{L a:List cD}(c:eS g L b a):∀k B,DK h g L k B->DK h b a k B:=λk B m=>⟨c _ _ m.1,m.2⟩
def pX(I:Nat->bw->Prop)(A B:aH)(ord:List NN)(a:List (Option Nat)):Prop:=∀(j k:Nat),a[j]?=some (some k)->∃(x:NN)(b:List Mv)(e:NN),ord[j]?=some x/\Aw I k b/\PR A B x b e/\lI A B e/\(lI A B x->b=[])/\b.length+cY a<=a.length
theorem pX.mono{I I':Nat->bw->Prop}{B:aH}{ord:List NN}{a:List (Option Nat)}(c:∀k B,I k B->I' k B)(o:pX I M B ord a):pX I' M B ord a:=λj k h=>by
 obtain⟨x,b,e,f,g,d⟩:=o j k h;exact⟨x,b,e,f,g.mono c,d⟩
theorem pX.set{I:Nat->bw->Prop}{B:aH}{ord:List NN}{a:List (Option Nat)}(o:pX I M B ord a){i k:Nat}{x e:NN}{b:List Mv}(n:ord[i]?=some x)(m:Aw I k b)(u:PR M B x b e)(g:lI M B e)(s:lI M B x->b=[])(f:b.length+cY (a.set i (some k))<=a.length):pX I M B ord (a.set i (some k)):=λj d h=>by
 rw[getElem?_set]at h;by_cases c:i=j
 ·rw[if_pos c]at h;split at h
  ·obtain rfl:=oI (oI h);exact⟨x,b,e,by rw[<-c];exact n,m,u,g,s,by rw[length_set];exact f⟩
  ·cases h
 ·rw[if_neg c]at h;obtain⟨x,b,e,p,q,l,r,t,v⟩:=o j d h;exact⟨x,b,e,p,q,l,r,t,by rw[length_set];have:=BX a i k;omega⟩
def otL(ko ix:Nat)(a:List (Option Nat))(b:Value)(c:cD):List cD:=[[(ko,.cells (a.map Dz) 168 1 true)],[(ix,.cells [b] 27 0 true)],c]
def P2(h:aa)(ko ix:Nat)(a:List (Option Nat))(b:List Nat)(g:aa)(L:List cD):Prop:=OL h g L/\∃c d,dy 3 c (b.map iv) d/\L=otL ko ix a c d
structure tD(k3 k5 k7 k8 km:Nat)(T:eB)(ord:List NN)(ko kb n:Nat)(vs:List Value)(bs:List (List Nat))(g:aa)(L:List cD):Prop where
 st:Still k3 k5 k8 km T ord kb n g L
 m7:Im g L k7 (.cells [sA ko n n] 166 0 true)
 mb:Im g L kb (.cells vs 27 1 true)
 lv:vs.length=n
 lb:bs.length=n
 rows:∀(t:Nat)(v:Value)(b:List Nat),vs[t]?=some v->bs[t]?=some b->sL g L 3 v (b.map iv)
theorem ib:SS.P.underlying 166=some (.slice 168):=by kernel_rfl
theorem uO:Go.Ab.isAgg SS.P 166=false:=by kernel_rfl
theorem VA:au SS.P 166=some 1:=by kernel_rfl
theorem jV:au SS.P 168=some 1:=by kernel_rfl
theorem Kk:SS.P.underlying 168=some (.pointer 170):=by kernel_rfl
theorem HP:Go.Ab.isAgg SS.P 168=false:=by kernel_rfl
theorem FI(a:Option Addr):ay SS.P .eql 168 (.pointer a) (.pointer none)=some (.bool a.isNone):=by cases a<;>kernel_rfl
theorem Ma(a:Option Addr):ay SS.P .neq 168 (.pointer a) (.pointer none)=some (.bool !a.isNone):=by cases a<;>kernel_rfl
theorem aaJ(m:Mv)(a:Option Addr):aD SS.P 170 [(0,(.agg ⟨rZ m⟩)),(1,(.pointer a))]=some (.agg ⟨rZ m++[.pointer a]⟩):=by cases a<;>kernel_rfl
theorem Sw(m:Mv)(a:Option Addr):dK SS.P 170 (.agg ⟨rZ m++[.pointer a]⟩)=some (qo m a,dX):=by cases a<;>kernel_rfl
section
variable {h:aa} {T:eB} {ord:List NN} {k3 k5 k7 k8 km ko kb n ix:Nat} {vs:List Value} {bs:List (List Nat)} {g:aa} {L:List cD}
theorem tD.cS{d:aa}{a:List cD}(s:tD k3 k5 k7 k8 km T ord ko kb n vs bs g L)(c:eS g L d a):tD k3 k5 k7 k8 km T ord ko kb n vs bs d a:=⟨s.st.cS c,c _ _ s.m7,c _ _ s.mb,s.lv,s.lb,λt v b e f=>(s.rows t v b e f).cS c⟩
theorem P2.grow{b:aa}{a:List (Option Nat)}(p:P2 h ko ix a x g L)(o:Ok g b):P2 h ko ix a x b L:=⟨(p.1.grow o).1,p.2⟩
theorem Om(w:Wf h){a:List (Option Nat)}{b:List Nat}(p:P2 h ko ix a b g L)(q:a.length=n){i kx:Nat}(m:i<n):∃u:aY,aj SS.P 168 (.pointer (some ⟨ko,i,none⟩)) (pA kx) g=some (undef,u)/\∃c,P2 h ko ix (a.set i (some kx)) b (u.app g) c/\eS g L (u.app g) c:=by
 obtain⟨o,k,l,d,rfl⟩:=p;have e:(a.map Dz).set i (pA kx)=(a.set i (some kx)).map Dz:=by rw[map_set];rfl
 obtain⟨j,f⟩:=o.kF w 0 rfl (.cells ((a.map Dz).set i (pA kx)) 168 1 true);refine⟨_,bC jV (o.get 0 rfl) (by rw[lM];omega) rfl rfl,_,⟨j,k,l,d,?_⟩,f⟩;rw[e];rfl
theorem JA(w:Wf h){e:List (Option Nat)}{b:List Nat}(p:P2 h ko ix e b g L)(J:b.length<=100000)(i:Nat):
  ∃(a:Option Addr)(m c:Nat),ae SS.P 27 g (pA ix)=some (.slice a m c)/\∃(v:Option Addr)(y d:Nat)(u:aY),aE SS.P 27 27 (.slice a m c) (sA g.next 1 1) (g.push (.cells [.int .i64 (i:Int)] 3 1 true))=some (.slice v y d,u)/\∃q:aY,aj SS.P 27 (pA ix) (.slice v y d) (u.app (g.push (.cells [.int .i64 (i:Int)] 3 1 true)))=some (undef,q)/\∃r,P2 h ko ix e (b++[i]) (q.app (u.app (g.push (.cells [.int .i64 (i:Int)] 3 1 true)))) r/\eS g L (q.app (u.app (g.push (.cells [.int .i64 (i:Int)] 3 1 true)))) r:=by
 obtain⟨o,K,N,k,rfl⟩:=p;obtain⟨a,c,s⟩:=k.mU;rw[lM]at s;subst s;have B:=aI g (.cells [.int .i64 (i:Int)] 3 1 true);obtain⟨D,C⟩:=o.grow ((Ok.refl o.ok.wf).push (.cells [.int .i64 (i:Int)] 3 1 true));refine⟨_,_,_,aN cQ gL (o.get 1 rfl) (by simp),?_⟩;generalize g.push (.cells [.int .i64 (i:Int)] 3 1 true)=z at*;obtain⟨f,n,d,u,F,I,H,l,t,G⟩:=k.snoc cQ rk kX Na w D (j:=2) rfl (x:= .int .i64 (i:Int)) rfl B (by rw[iV,lM];omega) (by rw[lM];omega);refine⟨f,n,d,u,F,?_⟩;generalize u.app z=M at*;obtain⟨A,E⟩:=t.kF w 1 rfl (.cells [.slice f n d] 27 0 true);refine⟨_,bC ef (t.get 1 rfl) (by simp) (aS ..) (by cases f<;>rfl),_,⟨A,.slice f n d,H,?_,rfl⟩,C.trans (G.trans E)⟩;rw[map_append];exact l
def VI(h:aa)(T:eB)(ord:List NN)(k3 k5 k7 k8 km ko kb n ix d c:Nat)(vs:List Value)(bs:List (List Nat))(a:List (Option Nat))(b:List Nat)(e i:Nat)(f:List (Mv×NN))(g:aa)(L:List cD):Prop:=
 tD k3 k5 k7 k8 km T ord ko kb n vs bs g L/\Im g L d (.cells [iA e] 3 0 true)/\Im g L c (.cells [iA i] 3 0 true)/\
  (((∀x∈f,nc ord x.2≠some e)/\P2 h ko ix a b g L/\pX (DK h g L) T.A T.B ord a)\/
   ∃k,P2 h ko ix (a.set i (some k)) (b++[i]) g L/\pX (DK h g L) T.A T.B ord (a.set i (some k)))
theorem VI.grow{e:List (Option Nat)}{q:List (Mv×NN)}{r:aa}(v:VI h T ord k3 k5 k7 k8 km ko kb n ix m j vs bs e x l i q g L)(o:Ok g r):VI h T ord k3 k5 k7 k8 km ko kb n ix m j vs bs e x l i q r L:=by
 obtain⟨a,b,c,d⟩:=v;have f:eS g L r L:=by
  rcases d with⟨_,p,_⟩|⟨_,p,_⟩<;>exact(p.1.grow o).2
 refine⟨a.cS f,f _ _ b,f _ _ c,?_⟩;rcases d with⟨t,p,s⟩|⟨k,p,s⟩
 ·exact .inl ⟨t,p.grow o,s.mono (DK.cS f)⟩
 ·exact .inr ⟨k,p.grow o,s.mono (DK.cS f)⟩
theorem VI.ol{a:List (Option Nat)}{b:List (Mv×NN)}(v:VI h T ord k3 k5 k7 k8 km ko kb n ix m k vs bs a x j i b g L):OL h g L:=by
 rcases v.2.2.2 with⟨_,p,_⟩|⟨_,p,_⟩<;>exact p.1
theorem Q7(w:Wf h){F E C i:Nat}{f:List (Option Nat)}{s:List Nat}{W:List (Mv×NN)}(hv:VI h T ord k3 k5 k7 k8 km ko kb n ix F E vs bs f s C i W g L)(V:f.length=n)(hl:s.length<=99999)(U:i<n)(x2:C<n)(h0:f[i]?=some none)(ht:∃k,f[C]?=some (some k)){Y:NN}(x8:ord[i]?=some Y)(y0:¬lI T.A T.B Y){m:Mv}{x:NN}(hs:DQ T.A T.B Y m x)(hx:∃t,nc ord x=some t):
  FW SS 147 [.agg ⟨rZ m⟩,.agg ⟨kV x⟩,pA k5,pA F,pA k7,pA E,pA ix] g (λv H=>v = .tuple ⟨[]⟩/\∃M,VI h T ord k3 k5 k7 k8 km ko kb n ix F E vs bs f s C i (W++[(m,x)]) H M/\eS g L H M):=by
 refine Ml (rZ m) (kV x) k5 F k7 E ix g _ ⟨_,AP m,_,xg x,?_⟩;have o:=hv.ol;have e1:=(Ok.refl o.ok.wf).push (iG m);have Q:=o.fe (iG m);have c1:=(o.grow e1).2;have v1:=hv.grow e1;generalize g.push (iG m)=g1 at*;have Z:=v1.ol;have e2:=(Ok.refl Z.ok.wf).push (dh x);have b:=Z.fe (dh x);have c2:=(Z.grow e2).2;have Q:=c2 _ _ Q;have v2:=v1.grow e2;have c:=c1.trans c2;generalize g1.push (dh x)=g2 at*;have o2:=v2.ol;have e3:=(Ok.refl o2.ok.wf).room 12;have c3:=(o2.grow e3).2;have v3:=v2.grow e3;have c:=c.trans c3;have Q:=c3 _ _ Q;have b:=c3 _ _ b;dsimp only;generalize Go.Ab.room g2 12=A at*;obtain⟨t,K⟩:=hx;have G:=v3;obtain⟨z,l,a,d⟩:=v3;have lk:jF SS.P 163 (.map (some km)) (.agg ⟨kV x⟩) false A=some (.int .i64 (t:Int)):=by
  have:=(Ac z.st.mm.1 x).2;rw[K]at this;exact this
 refine⟨.map (some km),z.st.m5.ld oq qD,_,dh.all b.1,_,lk,_,l.ld lp ll,ah (λq=>?_) (λq=>?_)⟩
 ·have q:t=C:=by
   have:(t:Int)=C:=by simpa using q
   omega
  subst q;have N:∀{r:List (Option Nat)}{D:List Nat}{H:aa}{M:List cD},P2 h ko ix r D H M->r.length=n->∀{j:Nat}{v:Option Nat},r[j]?=some v->ae SS.P 168 H (.pointer (some ⟨ko,j,none⟩))=some (Dz v):=by
   rintro r D H M ⟨o',tv,Gq,_,rfl⟩ y8 j v hj;have x5:=(List.getElem?_eq_some_iff.1 hj).1;rw[aN Kk HP (o'.get 0 rfl) (by rw[lM];exact x5),gD,getElem?_map,hj];rfl
  rcases d with⟨d1,p,O⟩|⟨k,p,O⟩
  ·obtain⟨I,X⟩:=ht;refine⟨_,_,_,z.m7.ld ib uO,_,a.ld lp ll,_,mF ib jV U,none,N p V h0,_,FI none,ah (λ_=>?_) (λq=>by cases q)⟩;have e4:=(Ok.refl G.ol.ok.wf).room 11;have S:=(G.ol.grow e4).2;have s4:=z.cS S;have x0:=S _ _ l;have x1:=S _ _ a;have x6:=S _ _ Q;refine⟨_,_,_,s4.m7.ld ib uO,_,x1.ld lp ll,_,iG.all x6.1,_,_,_,s4.m7.ld ib uO,_,x0.ld lp ll,_,mF ib jV x2,some ⟨I,0,none⟩,N (p.grow e4) V X,_,aaJ _ _,_,Sw _ _,_,mF ib jV U,?_⟩;obtain⟨o5,R,m5⟩:=G.ol.LC (n:=11) (j:=8) (by omega) (qo m (some ⟨I,0,none⟩));have z0:=G.ol.ok.nx;have p5:P2 h ko ix f s (av (Go.Ab.room A 11) A.next [(8,qo m (some ⟨I,0,none⟩))]) L:=⟨o5,p.2⟩
   have s5:=z.cS R;have l:=R _ _ l;have a:=R _ _ a;have d5:=O.mono (DK.cS R);generalize av (Go.Ab.room A 11) A.next [(8,qo m (some ⟨I,0,none⟩))]=g5 at*;obtain⟨u,u1,L6,p6,J⟩:=Om w p5 V U (kx:=A.next+8);refine⟨u,u1,?_⟩;have s6:=s5.cS J;have l:=J _ _ l;have a:=J _ _ a;have d6:=d5.mono (DK.cS J);have m5:=J _ _ m5;generalize u.app g5=g6 at*;obtain⟨a7,m7,x9,l7,a8,m8,y9,u8,x4,u9,x7,L9,p9,P⟩:=JA w p6 (by omega) i;refine⟨a7,m7,x9,l7,_,a.ld lp ll,_,_,_,tH _,_,_,_,_,x4,_,x7,rfl,L9,⟨s6.cS P,P _ _ l,P _ _ a,.inr ⟨_,p9,?_⟩⟩,c.trans (R.trans (J.trans P))⟩;obtain⟨y,ms,e,y1,y2,y3,y4,y6,y5⟩:=d6 t I X;have z1:=iT (A.next+8) h0;have B:=r8 K;rw[y1]at B;obtain rfl:=oI B;have x3:DK h g6 L6 (A.next+8) (qo m (some ⟨I,0,none⟩)):=⟨m5,by omega⟩
   exact(d6.set x8 (.cons x3 y2) (.cons hs y3) y4 (λh=>absurd h y0) (by rw[length_cons];omega)).mono (DK.cS P)
  ·have y7:(f.set i (some k))[i]?=some (some k):=by rw[getElem?_set,if_pos rfl,if_pos (by omega)]
   refine⟨_,_,_,z.m7.ld ib uO,_,a.ld lp ll,_,mF ib jV U,some ⟨k,0,none⟩,N p (by rw[length_set];exact V) y7,_,FI _,ah (λq=>by cases q) (λ_=>?_)⟩;exact⟨rfl,L,⟨z,l,a,.inr ⟨k,p,O⟩⟩,c⟩
 ·have q:t≠C:=λe=>by rw[e]at q;simp at q
  refine⟨rfl,L,⟨z,l,a,?_⟩,c⟩;rcases d with⟨d1,p,O⟩|d
  ·refine .inl ⟨λy B=>?_,p,O⟩;rcases mem_append.1 B with B|B
   ·exact d1 y B
   ·rw[mem_singleton.1 B,K];exact λe=>q (oI e)
  ·exact .inr d
end
end
variable{a:Option Addr}
section
def Clo(bs:List (List Nat))(a:List (Option Nat))(j:Nat):Prop:=∀b,bs[j]?=some b->∀i∈b,zZ a i
theorem Clo.set{bs:List (List Nat)}{c:List (Option Nat)}(h:Clo bs c j):Clo bs (c.set i (some k)) j:=λb d a e=>pg (h b d a e)
def stW(A B:aH)(ord:List NN)(a:Nat)(x:Mv×NN):Prop:=∃b,ord[a]?=some b/\x∈dP A B b
theorem Sp{B:aH}{ord:List NN}(n:WJ M B ord){bs:List (List Nat)}(p:uC ord (stW M B ord) bs)(w:bs.length=ord.length){a:List (Option Nat)}(fin:∀j x,ord[j]?=some x->lI M B x->zZ a j)(o:∀j,zZ a j->Clo bs a j){x e:NN}{d:List Mv}(r:PR M B x d e)(f:lI M B e):∀j,ord[j]?=some x->zZ a j:=by
 induction r with
 |nil s=>exact λj b=>fin j s b f
 |@cons s k e m d g r q=>
  intro j b;obtain⟨t,u,h⟩:=qT (n.cl s (List.mem_of_getElem? b) m k g);have v:=(List.getElem?_eq_some_iff.1 h).1;have c:=gE (l:=bs) (i:=t) (by omega);exact o t (q f t h) _ c j ((p t _ c j).2 ⟨(m,k),⟨s,b,fM.2 g⟩,u⟩)
def Ov(h:aa)(T:eB)(ord:List NN):VH:=λv g=>∃(ko:Nat)(a:List (Option Nat)),v=sA ko ord.length ord.length/\g.get ko=some (.cells (a.map Dz) 168 1 true)/\h.next<=ko/\a.length=ord.length/\pX (λk B=>g.get k=some B/\h.next<=k) T.A T.B ord a/\(∀(j:Nat)(x:NN),ord[j]?=some x->Co T.A T.B x->zZ a j)/\Ok h g
theorem al3:aA SS.P 3=some (.cells [.int .i64 0] 3 0 true,dX):=by kernel_rfl
theorem HR:aA SS.P 27=some (.cells [nA] 27 0 true,dX):=by kernel_rfl
section
variable {h:aa} {T:eB} {ord:List NN} {k3 k5 k7 k8 km ko kb n ix:Nat} {vs:List Value} {bs:List (List Nat)}
structure R3(h:aa)(T:eB)(ord:List NN)(k3 k5 k7 k8 km ko kb n ix:Nat)(vs:List Value)(bs:List (List Nat))(outs:List (Option Nat))(todo:List Nat)(g:aa)(L:List cD):Prop where
 p:P2 h ko ix outs todo g L
 s:tD k3 k5 k7 k8 km T ord ko kb n vs bs g L
 ok:pX (DK h g L) T.A T.B ord outs
 len:outs.length=n
 fin:∀j x,ord[j]?=some x->lI T.A T.B x->zZ outs j
 td:∀j∈todo,zZ outs j
 bd:todo.length+cY outs<=n
theorem R3.jb{a:List (Option Nat)}{d:aa}{L b:List cD}(r:R3 h T ord k3 k5 k7 k8 km ko kb n ix vs bs a x g L)(c:eS g L d b)(p:P2 h ko ix a x d b):R3 h T ord k3 k5 k7 k8 km ko kb n ix vs bs a x d b:=⟨p,r.s.cS c,r.ok.mono (DK.cS c),r.len,r.fin,r.td,r.bd⟩
theorem R3.grow{a:List (Option Nat)}{b:aa}{L:List cD}(r:R3 h T ord k3 k5 k7 k8 km ko kb n ix vs bs a x g L)(o:Ok g b):R3 h T ord k3 k5 k7 k8 km ko kb n ix vs bs a x b L:=r.jb (r.p.1.grow o).2 (r.p.grow o)
theorem P2.out(a:List (Option Nat)){b:List Nat}{g:aa}{L:List cD}(p:P2 h ko ix a b g L){j:Nat}{v:Option Nat}(d:a[j]?=some v):ae SS.P 168 g (.pointer (some ⟨ko,j,none⟩))=some (Dz v):=by
 obtain⟨e,f,i,_,rfl⟩:=p;have c:=(List.getElem?_eq_some_iff.1 d).1;rw[aN Kk HP (e.get 0 rfl) (by rw[lM];exact c),gD,getElem?_map,d];rfl
theorem Cb{c:Nat}(e:qA g 105 2 (.slice a ord.length c) (ord.map kV)){i:Nat}{x:NN}(b:ord[i]?=some x):∃(k o:Nat),ai SS.P 162 (.slice a ord.length c) (.int .i64 (i:Int))=some (.pointer (some ⟨k,o,none⟩))/\ae SS.P 105 g (.pointer (some ⟨k,o,none⟩))=some (.agg ⟨kV x⟩):=by
 have l:=(List.getElem?_eq_some_iff.1 b).1;obtain⟨f,h,j,d,_⟩:=e.at_ wu CD V3 R5 (ik:= .i64) (i:=(i:Int)) (by omega) (by rw[lM];omega);refine⟨f,h,j,?_⟩;rw[d,toNat_natCast,gD,getElem?_map,b];rfl
theorem U0(w:Wf h)(y1:T.Rows h)(gA:Good T.A)(gB:Good T.B)(zA:∀s∈T.A.ak,s.an.length<=2000)(zB:∀s∈T.B.ak,s.an.length<=2000)(ro:WJ T.A T.B ord)(hn:ord.length<=90000){a:Option Addr}{c:Nat}(rl:qA h 105 2 (.slice a ord.length c) (ord.map kV))(mb:uC ord (stW T.A T.B ord) bs)(zb:∀b∈bs,b.length<=500000000000){mz:Nat}{g:aa}(J:∃d u L,R3 h T ord k3 k5 k7 k8 km ko kb ord.length ix vs bs d u g L/\(∀j,zZ d j->j∈u\/Clo bs d j)/\mz=2*cY d+u.length):
  LL SS bh [1,1,1,1,1,1,0,0,0] (fx a ord.length c k3 k5 k7 k8 ix ()) g (KK SS bh [1,1,1,1,1,1,0,0] [] (EE SS bh (Ov h T ord))):=by
 refine vZ a ord.length c T.arg km k3 k5 k7 k8 ix (λmz _ g=>∃d u L,R3 h T ord k3 k5 k7 k8 km ko kb ord.length ix vs bs d u g L/\(∀j,zZ d j->j∈u\/Clo bs d j)/\mz=2*cY d+u.length) _ (λz8 z=>?_) mz J;clear J g mz;intro zz g J;obtain⟨d,u,L,r,cl,rfl⟩:=J;obtain⟨o,tv,Gq,x3,rfl⟩:=r.p;obtain⟨ta,tc,hv⟩:=x3.mU;rw[lM]at hv;subst hv;have x4:ae SS.P 27 g (pA ix)=some (.slice ta u.length tc):=aN cQ gL (o.get 1 rfl) (by simp);refine⟨_,_,_,x4,ah (λq=>?_) (λq=>?_)⟩
 ·have q:=dT q
  cases u with
  |nil=>simp at q
  |cons C I=>
  obtain⟨kt,x8⟩:=r.td C (mem_cons_self ..);have V:C<ord.length:=by rw[<-r.len];exact(List.getElem?_eq_some_iff.1 x8).1
  obtain⟨D,W⟩:∃b,bs[C]?=some b:=⟨_,gE (by rw[r.s.lb];exact V)⟩
  obtain⟨vt,x1⟩:∃v,vs[C]?=some v:=⟨_,gE (by rw[r.s.lv];exact V)⟩
  obtain⟨p0,i1,i2⟩:=(x3.rd o (i:=2) rfl).at_ cQ wF lp ll (k:= .i64) (i:=((0:Nat):Int)) (by omega) (by simp);have i2:ae SS.P 3 g (.pointer (some p0))=some (iA C):=i2;refine⟨_,_,_,x4,_,i1,_,i2,_,al3,?_⟩;obtain⟨u1,y4,e1,m1⟩:=o.cell (P:=SS.P) wF (.int .i64 0) (v:=iA C) rfl rfl;refine⟨u1,y4,?_⟩;have r1:=r.grow e1;have Z:=(o.grow e1).1;generalize u1.app (g.push (.cells [.int .i64 0] 3 0 true))=g1 at*;obtain⟨N,Q,R,sl,y0⟩:=dy.tail (g:=g1) (x:=iv C) (vs:=I.map iv) cQ wF x3 (Z.PJ (i:=2) rfl);obtain⟨o2,c2⟩:=Z.kF w 1 rfl (.cells [.slice N Q R] 27 0 true);refine⟨_,_,_,aN cQ gL (Z.get 1 rfl) (by simp),_,_,_,sl,_,bC ef (Z.get 1 rfl) (by simp) (aS ..) (by cases N<;>rfl),?_⟩;have nn:cY d=cY d:=rfl;have r2:R3 h T ord k3 k5 k7 k8 km ko kb ord.length ix vs bs d I ((aY.set ix (.cells (([.slice ta (C::I).length tc]:List Value).set 0 (.slice N Q R)) 27 0 true)).app g1) (otL ko ix d (.slice N Q R) Gq):=⟨⟨o2,_,Gq,y0,rfl⟩,r1.s.cS c2,r1.ok.mono (DK.cS c2),r.len,r.fin,λj A=>r.td j (List.mem_cons_of_mem _ A),by have:=r.bd;rw[length_cons]at this;omega⟩
  have m2:=c2 _ _ m1;have gn:=o.ok.nx;change Im ((aY.set ix (.cells (([.slice ta (C::I).length tc]:List Value).set 0 (.slice N Q R)) 27 0 true)).app g1) (otL ko ix d (.slice N Q R) Gq) g.next _ at m2;generalize (aY.set ix (.cells (([.slice ta (C::I).length tc]:List Value).set 0 (.slice N Q R)) 27 0 true)).app g1=g2 at*;generalize otL ko ix d (.slice N Q R) Gq=L2 at*;have ir:=r2.s.rows C vt D x1 W;obtain⟨b',m',d',y7⟩:∃b' m' d',vt = .slice b' m' d':=by
   obtain⟨G,n,_⟩:=ir;obtain⟨x,y,e⟩:=n.mU;exact⟨x,_,y,e⟩
  subst y7;have z5:m'=D.length:=by have:=ir.rd.len;rwa[lM]at this
  have y6:ae SS.P 27 g2 (.pointer (some ⟨kb,C,none⟩))=some (.slice b' m' d'):=by
   rw[aN cQ gL r2.s.mb.1 (by rw[r2.s.lv];exact V),gD,x1];rfl
  refine⟨_,_,_,r2.s.st.m8.ld iY oa,_,m2.ld lp ll,_,mF iY ef V,_,_,_,y6,?_⟩;have z3:=zb D (List.mem_of_getElem? W);refine wa a ord.length c T.arg km k3 k5 k7 k8 ix g.next b' m' d' _ _ () (λx6 M g'=>∃H U L',R3 h T ord k3 k5 k7 k8 km ko kb ord.length ix vs bs H U g' L'/\Im g' L' g.next (.cells [iA C] 3 0 true)/\zZ H C/\(∀j,zZ H j->j∈U\/j=C\/Clo bs H j)/\(∀i∈D.take M,zZ H i)/\2*cY H+U.length+1<=2*cY d+(C::I).length/\M<=D.length/\x6=D.length-M) _ (λx6 M=>?_) D.length (j:=0) ⟨d,I,L2,r2,m2,⟨kt,x8⟩,λj A=>?_,λi X=>by simp at X,by rw[length_cons];omega,zero_le _,rfl⟩
  rotate_left
  ·rcases cl j A with n|n
   ·rcases mem_cons.1 n with n|n
    ·exact .inr (.inl n)
    ·exact .inl n
   ·exact .inr (.inr n)
  intros;rename_i _ g4 J;obtain⟨p,F,L4,K,m4,s4,x2,Y,y2,jl,rfl⟩:=J;refine ah (λq=>?_) (λq=>?_)
  ·have q:=dT q;have A:M<D.length:=by omega
   obtain⟨i,x0⟩:∃i,D[M]?=some i:=⟨_,gE A⟩
   obtain⟨y,⟨ki,S,hy⟩,z1⟩:=(mb C D W i).1 (List.mem_of_getElem? x0);have X:=(List.getElem?_eq_some_iff.1 S).1;have y5:=(K.s.rows C _ D x1 W).rd;obtain⟨p1,j1,j2⟩:=y5.at_ cQ wF lp ll (k:= .i64) (i:=(M:Int)) (by omega) (by rw[lM];omega);have e2:(D.map iv).getD (M:Int).toNat undef=iA i:=by
    rw[toNat_natCast,gD,getElem?_map,x0];rfl
   rw[e2]at j2;refine⟨_,j1,_,j2,_,al3,?_⟩;obtain⟨u5,y9,e5,m5⟩:=K.p.1.cell (P:=SS.P) wF (.int .i64 0) (v:=iA i) rfl rfl;refine⟨u5,y9,?_⟩;have c5:=(K.p.1.grow e5).2;have r5:=K.grow e5;have m4:=c5 _ _ m4;generalize u5.app (g4.push (.cells [.int .i64 0] 3 0 true))=g5 at*;obtain⟨oi,O⟩:∃v,p[i]?=some v:=⟨_,gE (by rw[K.len];exact X)⟩
   have x9:D.take (M+1)=D.take M++[i]:=(fT x0).2;refine⟨_,_,_,r5.s.m7.ld ib uO,_,m5.ld lp ll,_,mF ib jV X,_,r5.p.out _ O,_,Ma _,ah (λq2=>?_) (λq2=>?_)⟩
   ·have hs:zZ p i:=by
     cases oi with
     |none=>cases q2
     |some k=>exact⟨k,O⟩
    rw[oD A (by omega)];refine cK (D.length-(M+1)) (by omega) ⟨p,F,L4,r5,m4,s4,x2,λx E=>?_,y2,by omega,rfl⟩;rw[x9]at E;rcases mem_append.1 E with E|E
    ·exact Y x E
    ·rw[mem_singleton.1 E];exact hs
   ·have O:p[i]?=some none:=by
     cases oi with
     |none=>exact O
     |some k=>cases q2
    have e6:=(Ok.refl r5.p.1.ok.wf).room 7;have c6:=(r5.p.1.grow e6).2;have r6:=r5.grow e6;have m4:=c6 _ _ m4;have m5:=c6 _ _ m5;generalize Go.Ab.room g5 7=g6 at*;obtain⟨kk,z9,d1,d2⟩:=Cb (rl.ok r6.p.1.ok) S;have J:=ro.lt ki (List.mem_of_getElem? S);refine⟨_,kc.all r6.s.st.m3.1,_,m5.ld lp ll,_,d1,_,d2,?_⟩;have y3:F.length<=99999:=by have:=K.bd;omega
    have z0:¬lI T.A T.B ki:=λhf=>by
     obtain⟨k,hk⟩:=K.fin i ki S hf;rw[O]at hk;cases hk
    refine(wy w y1 gA gB zA zB (h:=g6) (L:=L4) J.1 J.2 (fa:=[]) (fc:=[pA k5,pA g.next,pA k7,pA g4.next,pA ix]) (by decide +kernel) (VI h T ord k3 k5 k7 k8 km ko kb ord.length ix g.next g4.next vs bs p F C i) (λl g L r=>r.ol) (λl g L g' r o=>r.grow o) ⟨r6.s,m4,m5,.inl ⟨λx E=>(by cases E),r6.p,r6.ok⟩⟩ (λz4 x z2 y8 g' L' hv=>?_)).mono ?_
    ·have E:x∈dP T.A T.B ki:=by rw[y8];simp
     have x7:=fM.1 (show(x.1,x.2)∈dP T.A T.B ki from E);obtain⟨t,ht,_⟩:=qT (ro.cl ki (List.mem_of_getElem? S) _ _ x7);exact Q7 w hv K.len y3 X V O s4 S z0 x7 ⟨t,ht⟩
    ·rintro _ g7 ⟨rfl,L7,⟨s7,m7,m8,d7⟩,c7⟩;refine⟨rfl,?_⟩;rcases d7 with⟨d7,_⟩|⟨k,p7,o7⟩
     ·exact absurd z1 (d7 y hy)
     ·have x5:i<p.length:=by rw[K.len];exact X
      have z7:=iT k O;have z6:=K.bd;rw[oD A (by omega)];refine cK (D.length-(M+1)) (by omega) ⟨p.set i (some k),F++[i],L7,⟨p7,s7,o7,by rw[length_set];exact K.len,λj x n h2=>pg (K.fin j x n h2),λj A=>?_,by rw[length_append,length_singleton];omega⟩,m7,pg s4,λj A=>?_,λx E=>?_,by rw[length_append,length_singleton];omega,by omega,rfl⟩
      ·rcases mem_append.1 A with A|A
       ·exact pg (K.td j A)
       ·rw[mem_singleton.1 A];exact vC x5
      ·rcases N1 A with rfl|A
       ·exact .inl (List.mem_append_right _ (mem_singleton.2 rfl))
       ·rcases x2 j A with n|n|n
        ·exact .inl (List.mem_append_left _ n)
        ·exact .inr (.inl n)
        ·exact .inr (.inr n.set)
      ·rw[x9]at E;rcases mem_append.1 E with E|E
       ·exact pg (Y x E)
       ·rw[mem_singleton.1 E];exact vC x5
  ·have q:=dF q;have e:D.take M=D:=take_of_length_le (by omega);rw[e]at Y;refine cK (a:=()) (2*cY p+F.length) (by omega) ⟨p,F,L4,K,λj A=>?_,rfl⟩;rcases x2 j A with n|rfl|n
   ·exact .inl n
   ·refine .inr λb hb i X=>?_;rw[W]at hb;obtain rfl:=oI hb;exact Y i X
   ·exact .inr n
 ·have q:=dF q;have ht:u=[]:=List.eq_nil_of_length_eq_zero (by omega);subst ht;refine⟨_,_,_,r.s.m7.ld ib uO,ko,d,rfl,o.get 0 rfl,?_,r.len,r.ok.mono λk B m=>⟨m.1.1,m.2⟩,λj x A ⟨ms,e,pr,f⟩=>Sp ro mb (by rw[r.s.lb]) r.fin (λj A=>?_) pr f j A,o.ok⟩
  ·exact o.lo ko (by unfold keys otL;simp)
  ·rcases cl j A with n|n
   ·cases n
   ·exact n
end
end
section
def wZ:Nat:=4002000
theorem Fu(h:i<=90000):i*wZ<=360180000000:=by unfold wZ;omega
theorem Xa:aD SS.P 170 []=some (.agg ⟨rZ ⟨0,0,0⟩++[.pointer none]⟩):=by kernel_rfl
noncomputable def VL:TypeInfo:=(SS.P.info? 168).getD default
theorem VM:SS.P.info? 168=some VL:=by kernel_rfl
theorem M4:VL.size=1:=by kernel_rfl
theorem Kf:VL.bytes=8:=by kernel_rfl
theorem ZK:zeroOf SS.P 168=some (.pointer none):=by kernel_rfl
theorem ado(n:Nat)(a:n<=100000):aR SS.P 166 (.int .i64 (n:Int)) (.int .i64 (n:Int))=some (.cells (List.replicate n (.pointer none)) 168 1 true,jc n n):=by
 unfold aR aT;dsimp only;rw[ib]
 try dsimp only
 change (match SS.P.info? 168,zeroOf SS.P 168 with
  |some i,some z=>(if z.cells.size=i.size/\0<i.size/\(0:Int)<=(n:Int)/\(n:Int)<=(n:Int)/\(n:Int)*i.bytes<=140737488355328/\(n:Int)<=1099511627776 then some (bw.cells (bG z.cells.toList (n:Int).toNat) 168 i.size true,λk=>Value.slice (some ⟨k,0,none⟩) (n:Int).toNat (n:Int).toNat)else none)
  |_,_=>none)=_
 rw[VM,ZK];dsimp only;rw[M4,Kf,if_pos ⟨rfl,by omega,by omega,Int.le_refl _,by omega,by omega⟩];have e:((n:Int)).toNat=n:=by omega
 rw[e,show(Value.pointer none).cells.toList=[.pointer none]from rfl,lj];rfl
theorem Z0:aA SS.P 166=some (.cells [nA] 166 0 true,dX):=by kernel_rfl
theorem aaC:aA SS.P 126=some (.cells [nA] 126 0 true,dX):=by kernel_rfl
theorem aaO(k:Nat):dK SS.P 163 (.map (some k))=some (.cells [.map (some k)] 163 0 true,dX):=by kernel_rfl
section
variable {h:aa} {T:eB} {ord:List NN} {k3 k5 k7 k8 km ko kb ix:Nat} {vs:List Value} {bs:List (List Nat)}
theorem abo{L:List cD}(o:OL h g L)(x:NN):∃u:aY,aj SS.P 105 (pA g.next) (.agg ⟨kV x⟩) (g.push mX)=some (undef,u)/\Ok g (u.app (g.push mX))/\Im (u.app (g.push mX)) L g.next (dh x):=by
 have e:Ok g ((g.push mX).set g.next (dh x)):=((Ok.refl o.ok.wf).push _).set _ (Nat.le_refl _) (Nat.lt_succ_self _) o.ok.wf;exact⟨_,UH x g,e,o.new (Nat.le_refl _) (by show((g.push _).set _ _).get _=_;rw[aa.aw,if_pos rfl])⟩
theorem UZ(w:Wf h)(v:T.Rows h)(gA:Good T.A)(gB:Good T.B)(zA:∀s∈T.A.ak,s.an.length<=2000)(zB:∀s∈T.B.ak,s.an.length<=2000)(O:WJ T.A T.B ord)(hn:ord.length<=90000){a:Option Addr}{c:Nat}(P:qA h 105 2 (.slice a ord.length c) (ord.map kV))(mb:uC ord (stW T.A T.B ord) bs)(zb:∀b∈bs,b.length<=500000000000){g:aa}{L:List cD}(p:P2 h ko ix (List.replicate ord.length none) [] g L)(s:tD k3 k5 k7 k8 km T ord ko kb ord.length vs bs g L):
  LL SS bh [1,1,1,1,1,0,1,0,0] (fv a ord.length c k3 k5 k7 k8 ix 0) g (KK SS bh [1,1,1,1,1,0,1,0] [] (EE SS bh (Ov h T ord))):=by
 refine vY a ord.length c T.arg km k3 k5 k7 k8 ix (λI i g=>∃d l L,P2 h ko ix d l g L/\tD k3 k5 k7 k8 km T ord ko kb ord.length vs bs g L/\pX (DK h g L) T.A T.B ord d/\d.length=ord.length/\(∀j x,j<i->ord[j]?=some x->lI T.A T.B x->zZ d j)/\(∀j,zZ d j↔j∈l)/\(∀j,i<=j->j<ord.length->d[j]?=some none)/\l.length+cY d=ord.length/\i<=ord.length/\I=ord.length-i) _ (λI i=>?_) ord.length (i:=0) ⟨_,_,L,p,s,λj k f=>?_,length_replicate,λj x f=>absurd f (not_lt_zero _),λj=>?_,λj _ f=>?_,?_,zero_le _,rfl⟩
 rotate_left
 ·rw[getElem?_replicate]at f;split at f<;>cases f
 ·constructor
  ·rintro⟨k,M⟩;rw[getElem?_replicate]at M;split at M<;>cases M
  ·intro f;cases f
 ·rw[getElem?_replicate,if_pos f]
 ·unfold cY;rw[List.countP_replicate];simp
 clear p s g L;intro zz g o;obtain⟨d,l,L,p,s,ok,r,fin,B,N,bd,hi,rfl⟩:=o;refine ah (λq=>?_) (λq=>?_)
 ·have q:=dT q;have m:i<ord.length:=by omega
  obtain⟨x,E⟩:∃x,ord[i]?=some x:=⟨_,gE m⟩
  have o:=O.lt x (List.mem_of_getElem? E);obtain⟨kk,x6,d1,d2⟩:=Cb (P.ok p.1.ok) E;obtain⟨U,V,Q,m1⟩:=abo p.1 x;refine⟨_,d1,_,d2,_,R7,U,V,?_⟩;have c1:=(p.1.grow Q).2;have F:=p.grow Q;have s1:=s.cS c1;generalize U.app (g.push mX)=g1 at*;refine⟨_,kc.all s1.st.m3.1,_,dh.all m1.1,(Jr F.1.ok.wf (v.ok F.1.ok) o.1 o.2).mono ?_⟩;rintro _ z ⟨rfl,e2⟩;have c2:=c1.trans (F.1.grow e2).2;have t:=F.grow e2;have K:=s.cS c2;have H:=ok.mono (DK.cS c2);have Y:wrap .i64 ((i:Int)+1)=((i+1:Nat):Int):=oD m (by omega);refine⟨_,rfl,ah (λu=>?_) (λu=>?_)⟩
  ·rw[Bool.and_eq_true]at u;have f2:lI T.A T.B x:=⟨fY.1 u.1,fY.1 u.2⟩
   refine⟨_,_,_,K.m7.ld ib uO,_,Xa,_,Sw _ _,_,mF ib jV m,?_⟩;have X:=(Ok.refl t.1.ok.wf).push (qo ⟨0,0,0⟩ none);have m3:=t.1.fe (qo ⟨0,0,0⟩ none);have c3:=(t.1.grow X).2;have p3:=t.grow X;have gn:=t.1.ok.nx;have s3:=K.cS c3;have Z:=H.mono (DK.cS c3);generalize z.push (qo ⟨0,0,0⟩ none)=g3 at*;obtain⟨W,x3,L4,p4,J⟩:=Om w p3 r m (kx:=z.next);refine⟨W,x3,?_⟩;have s4:=s3.cS J;have x2:=Z.mono (DK.cS J);have m4:=J _ _ m3;generalize W.app g3=g4 at*;obtain⟨a7,m7,x1,l7,a8,m8,x4,u8,S,u9,x0,L9,p9,R⟩:=JA w p4 (by omega) i;refine⟨a7,m7,x1,l7,_,_,_,tH _,_,_,_,_,S,_,x0,?_⟩;rw[Y];have h0:=N i (Nat.le_refl _) m;have x5:=iT z.next h0;have G:i<d.length:=by omega
   refine cK (ord.length-(i+1)) (by omega) ⟨d.set i (some z.next),l++[i],L9,p9,s4.cS R,?_,by rw[length_set];exact r,λj y f D n=>?_,λj=>?_,λj f A=>?_,by rw[length_append,length_singleton];omega,by omega,rfl⟩
   ·exact(x2.set E (.nil ⟨0,0,0⟩ (show DK h g4 L4 z.next _ from⟨m4,gn⟩)) (.nil _) f2 (λ_=>rfl) (by rw[List.length_nil];omega)).mono (DK.cS R)
   ·by_cases e:j=i
    ·subst e;exact vC G
    ·exact pg (fin j y (by omega) D n)
   ·rw[mem_append,mem_singleton];constructor
    ·intro f;rcases N1 f with C|C
     ·exact .inr C
     ·exact .inl ((B j).1 C)
    ·rintro(C|rfl)
     ·exact pg ((B j).2 C)
     ·exact vC G
   ·rw[getElem?_set,if_neg (by omega)];exact N j (by omega) A
  ·rw[Y];refine cK (ord.length-(i+1)) (by omega) ⟨d,l,L,t,K,H,r,λj y f D n=>?_,B,λj f A=>N j (by omega) A,bd,by omega,rfl⟩;by_cases e:j=i
   ·subst e;rw[E]at D;obtain rfl:=oI D;rw[fY.2 n.1,fY.2 n.2]at u
    cases u
   ·exact fin j y (by omega) D n
 ·have q:=dF q;exact U0 w v gA gB zA zB O hn P mb zb (mz:=2*cY d+l.length) ⟨d,l,L,⟨p,s,ok,r,λj x f n=>fin j x (by have:=(List.getElem?_eq_some_iff.1 f).1;omega) f n,λj f=>(B j).2 f,by omega⟩,λj f=> .inl ((B j).1 f),rfl⟩
theorem UY(w:Wf h)(O:T.Rows h)(gA:Good T.A)(gB:Good T.B)(zA:∀s∈T.A.ak,s.an.length<=2000)(zB:∀s∈T.B.ak,s.an.length<=2000)(ro:WJ T.A T.B ord)(hn:ord.length<=90000){a:Option Addr}{c:Nat}(rl:qA h 105 2 (.slice a ord.length c) (ord.map kV)){g:aa}{L:List cD}(b:BS h ko kb ord.length (List.replicate ord.length []) g L)(s:Still k3 k5 k8 km T ord kb ord.length g L)(V:Im g L k7 (.cells [sA ko ord.length ord.length] 166 0 true)):
  LL SS bh [1,1,1,0,1,0,0] (gX a ord.length c k3 k5 k7 k8 0) g (KK SS bh [1,1,1,0,1,0] [] (EE SS bh (Ov h T ord))):=by
 refine vX a ord.length c T.arg km k3 k5 k7 k8 (λmz i g=>∃bs L,BS h ko kb ord.length bs g L/\Still k3 k5 k8 km T ord kb ord.length g L/\Im g L k7 (.cells [sA ko ord.length ord.length] 166 0 true)/\uC ord (λa x=>a<i/\stW T.A T.B ord a x) bs/\(∀b∈bs,b.length<=i*wZ)/\i<=ord.length/\mz=ord.length-i) _ (λmz i=>?_) ord.length (i:=0) ⟨_,L,b,s,V,λt b f x=>?_,λb f=>?_,zero_le _,rfl⟩
 rotate_left
 ·rw[getElem?_replicate]at f;split at f
  ·obtain rfl:=oI f;constructor
   ·intro h;cases h
   ·rintro⟨_,⟨h,_⟩,_⟩;exact absurd h (not_lt_zero _)
  ·cases f
 ·rw[List.eq_of_mem_replicate f];exact zero_le _
 clear b s V g L;intro zz g C;obtain⟨bs,L,b,s,V,x4,zb,hi,rfl⟩:=C;refine ah (λq=>?_) (λq=>?_)
 ·have q:=dT q;have n:i<ord.length:=by omega
  obtain⟨x,U⟩:∃x,ord[i]?=some x:=⟨_,gE n⟩
  have C:=ro.lt x (List.mem_of_getElem? U);obtain⟨kk,z7,d1,d2⟩:=Cb (rl.ok b.1.ok) U;have e0:=(Ok.refl b.1.ok.wf).push (.cells [.int .i64 0] 3 0 true);have o0:=(b.1.grow e0).1;have n0:(g.push (.cells [.int .i64 0] 3 0 true)).next=g.next+1:=rfl;have k0:=aI g (.cells [.int .i64 0] 3 0 true);have Y:=e0.push mX;have k1:((g.push (.cells [.int .i64 0] 3 0 true)).push mX).get g.next=some (.cells [.int .i64 0] 3 0 true):=by
   rw[aa.aM,if_neg (by omega)];exact k0
  have k2:=aI (g.push (.cells [.int .i64 0] 3 0 true)) mX;have n1:((g.push (.cells [.int .i64 0] 3 0 true)).push mX).next=g.next+2:=rfl;refine⟨_,d1,_,d2,_,al3,_,R7,_,bC wF k1 (by simp) rfl rfl,?_⟩;generalize I:((aY.set g.next (.cells (([.int .i64 0]:List Value).set 0 (iA i)) 3 0 true)).app ((g.push (.cells [.int .i64 0] 3 0 true)).push mX))=A;have W:Ok g A:=by rw[<-I];exact Y.set _ (Nat.le_refl _) (by omega) b.1.ok.wf
  have n2:A.next=g.next+2:=by rw[<-I];rfl
  have x9:A.get g.next=some (.cells [iA i] 3 0 true):=by
   rw[<-I];show(aa.set _ _ _).get _=_;rw[aa.aw,if_pos rfl];rfl
  have k4:A.get (g.next+1)=some mX:=by
   rw[<-I];show(aa.set _ _ _).get _=_;rw[aa.aw,if_neg (by omega)];exact k2
  have z0:aj SS.P 105 (pA (g.push (.cells [.int .i64 0] 3 0 true)).next) (.agg ⟨kV x⟩) A=some (undef,.set (g.next+1) (dh x)):=du CD rfl k4 rfl rfl;refine⟨_,z0,?_⟩;generalize u:((aY.set (g.next+1) (dh x)).app A)=B;have e3:Ok g B:=by rw[<-u];exact W.set _ (by omega) (by omega) b.1.ok.wf
  have c3:=(b.1.grow e3).2;have mi:Im B L g.next (.cells [iA i] 3 0 true):=b.1.new (Nat.le_refl _) (by
   rw[<-u];show(aa.set _ _ _).get _=_;rw[aa.aw,if_neg (by omega)];exact x9)
  have mx:Im B L (g.next+1) (dh x):=b.1.new (by omega) (by
   rw[<-u];show(aa.set _ _ _).get _=_;rw[aa.aw,if_pos rfl])
  have b3:BS h ko kb ord.length bs B L:=⟨(b.1.grow e3).1,b.2⟩
  have s3:=s.cS c3;have y1:=c3 _ _ V;have z4:(dP T.A T.B x).length<=wZ:=MP zA zB C;refine⟨_,kc.all s3.m3.1,_,dh.all mx.1,?_⟩;refine(wy w O gA gB zA zB (h:=B) (L:=L) C.1 C.2 (fa:=[]) (fc:=[pA k8,pA k5,pA g.next]) (by decide +kernel) (λl g L=>BS h ko kb ord.length (l.foldl (C9 ord i) bs) g L/\Still k3 k5 k8 km T ord kb ord.length g L/\Im g L k7 (.cells [sA ko ord.length ord.length] 166 0 true)/\Im g L B.next.pred.pred (.cells [iA i] 3 0 true)/\uC ord (λa y=>(a<i/\stW T.A T.B ord a y)\/(a=i/\y∈l)) (l.foldl (C9 ord i) bs)/\∀b∈l.foldl (C9 ord i) bs,b.length<=i*wZ+l.length) (λl g L r=>r.1.1) (λl g L g' r o=>?_) ?_ (λJ y z1 x3 g' L' hv=>?_)).mono ?_
  ·obtain⟨E,F,M,D,S⟩:=r;have c:=(E.1.grow o).2;exact⟨⟨(E.1.grow o).1,E.2⟩,F.cS c,c _ _ M,c _ _ D,S⟩
  ·refine⟨b3,s3,y1,?_,x4.congr λa y=>⟨.inl,λh=>h.elim id λh=>by cases h.2⟩,λb f=>Nat.le_trans (zb b f) (Nat.le_add_right _ _)⟩;have:B.next.pred.pred=g.next:=by
    rw[<-u];show A.next.pred.pred=_;rw[n2];rfl
   rw[this];exact mi
  ·have Z:B.next.pred.pred=g.next:=by
    rw[<-u];show A.next.pred.pred=_;rw[n2];rfl
   obtain⟨E,F,M,D,S,K⟩:=hv;rw[Z]at D;have hy:y∈dP T.A T.B x:=by rw[x3];simp
   have y4:=fM.1 (show(y.1,y.2)∈dP T.A T.B x from hy);obtain⟨t,ht,y8⟩:=qT (ro.cl x (List.mem_of_getElem? U) _ _ y4);have z3:J.length<=wZ:=by
    have:=congrArg List.length x3;rw[length_append]at this;omega
   have R:=Fu (i:=i) (by omega);have x0:wZ=4002000:=rfl;refine(Q6 w E F D ht (List.getElem?_eq_some_iff.1 y8).1 (λb f=>by have:=K b f;omega) y.1).mono ?_;rintro _ g5 ⟨rfl,L5,b5,X⟩;refine⟨rfl,L5,⟨by rw[foldl_append];exact b5,F.cS X,X _ _ M,by rw[Z];exact X _ _ D,?_,?_⟩,X⟩
   ·rw[foldl_append];refine(S.add i y).congr λa z=>?_;rw[mem_append,mem_singleton];constructor
    ·rintro((d|d)|d)
     ·exact .inl d
     ·exact .inr ⟨d.1,.inl d.2⟩
     ·exact .inr ⟨d.1,.inr d.2⟩
    ·rintro(d|⟨d,k|k⟩)
     ·exact .inl (.inl d)
     ·exact .inl (.inr ⟨d,k⟩)
     ·exact .inr ⟨d,k⟩
   ·rw[foldl_append,length_append,length_singleton];rw[show i*wZ+(J.length+1)=(i*wZ+J.length)+1 by omega];generalize i*wZ+J.length=N at K⊢;exact R1 K
  ·rintro _ g5 ⟨rfl,L5,⟨E,F,M,D,S,K⟩,X⟩;have Z:B.next.pred.pred=g.next:=by
    rw[<-u];show A.next.pred.pred=_;rw[n2];rfl
   rw[Z]at D;refine⟨rfl,?_⟩;generalize (dP T.A T.B x).foldl (C9 ord i) bs=x1 at*;obtain⟨o5,vs,Gs,m,rfl⟩:=E;obtain⟨P,x2,ct,G,Y,W,y2,y9⟩:=m.at_ n;have y7:ae SS.P 27 g5 (.pointer (some ⟨kb,i,none⟩))=some (.slice x2 P.length ct):=by
    rw[aN cQ gL (o5.get 1 rfl) (by rw[m.lv];exact n),gD,Y];rfl
   have z2:=K P (List.mem_of_getElem? W);have R:=Fu (i:=i) (by omega);have x0:wZ=4002000:=rfl;refine⟨_,_,_,F.m8.ld iY oa,_,D.ld lp ll,_,mF iY ef n,_,_,_,y7,(MK w y9 o5 (i:=i+2) (by exact y2) (by omega)).mono ?_⟩;rintro _ g6 ⟨rfl,G',x7,o6,c6⟩;refine⟨rfl,?_⟩;rw[oD n (by omega)];have x6:=m.set i x7;have y6:vs.set i (.slice x2 P.length ct)=vs:=by
    refine List.ext_getElem? λj=>?_;rw[getElem?_set];by_cases e:i=j
    ·subst e;rw[if_pos rfl,if_pos (by rw[m.lv];exact n),Y]
    ·rw[if_neg e]
   rw[y6]at x6;refine cK (ord.length-(i+1)) (by omega) ⟨x1.set i (mV P),_,⟨o6,vs,Gs.set i G',x6,rfl⟩,F.cS c6,c6 _ _ M,?_,λb f=>?_,by omega,rfl⟩
   ·refine(S.sort W).congr λa y=>?_;constructor
    ·rintro(⟨d,k⟩|⟨rfl,k⟩)
     ·exact⟨by omega,k⟩
     ·exact⟨by omega,x,U,k⟩
    ·rintro⟨d,ka,k,Q⟩;by_cases e:a=i
     ·subst e;rw[U]at k;obtain rfl:=oI k;exact .inr ⟨rfl,Q⟩
     ·exact .inl ⟨by omega,ka,k,Q⟩
   ·have x5:∀b∈x1,b.length<=(i+1)*wZ:=λb f=>by have:=K b f;rw[Nat.add_mul,one_mul];omega
    rcases List.mem_or_eq_of_mem_set f with d|rfl
    ·exact x5 b d
    ·rw[oB];exact x5 P (List.mem_of_getElem? W)
 ·have q:=dF q;have z5:i=ord.length:=by omega
  obtain⟨o,vs,Gs,m,rfl⟩:=b;have ol:OL h g ([[(ko,.cells (List.replicate ord.length (.pointer none)) 168 1 true)]]++([(kb,.cells vs 27 1 true)]::Gs)):=o;obtain⟨o1,c1⟩:=ol.left;have im:=ol.Ys;have s1:=s.cS c1;have y5:=c1 _ _ V;have y0:Im g [[(ko,.cells (List.replicate ord.length (.pointer none)) 168 1 true)]] kb (.cells vs 27 1 true):=im (kb,.cells vs 27 1 true) (by simp);have x8:∀(t:Nat)(v:Value)(b:List Nat),vs[t]?=some v->bs[t]?=some b->sL g [[(ko,.cells (List.replicate ord.length (.pointer none)) 168 1 true)]] 3 v (b.map iv):=λt v b d k=>by
   have y3:t<Gs.length:=by rw[m.lg,<-m.lv];exact(List.getElem?_eq_some_iff.1 d).1
   have Q:=gE y3;exact⟨_,m.row t v b _ d k Q,λp hp=>im p (by rw[flatten_cons];exact List.mem_append_right _ (List.mem_flatten.2 ⟨_,List.mem_of_getElem? Q,hp⟩))⟩
  refine⟨_,HR,?_⟩;obtain⟨o2,c2⟩:=o1.push (.cells [nA] 27 0 true);have z6:=c2;obtain⟨o3,c3⟩:=o2.none;have H:=c2.trans c3;have R:=Fu (i:=i) (by omega);have x0:wZ=4002000:=rfl;refine UZ (bs:=bs) (vs:=vs) (ko:=ko) (kb:=kb) w O gA gB zA zB ro hn rl (x4.congr λa x=>⟨λh=>h.2,λh=>⟨by obtain⟨ka,d,_⟩:=h;have:=(List.getElem?_eq_some_iff.1 d).1;omega,h⟩⟩) (λb f=>Nat.le_trans (zb b f) (by omega)) (L:=otL ko g.next (List.replicate ord.length none) nA []) ⟨?_,nA,[],dy.nil 3,rfl⟩ ⟨s1.cS ?_,?_,?_,m.lv,m.lb,λt v b d k=>(x8 t v b d k).cS ?_⟩
  all_goals
   have eo:otL ko g.next (List.replicate ord.length none) nA []=[[(ko,.cells (List.replicate ord.length (.pointer none)) 168 1 true)]]++[[(g.next,.cells [nA] 27 0 true)]]++[[]]:=by
    unfold otL;rw[map_replicate];rfl
   rw[eo]
  ·exact o3
  ·exact H
  ·exact H _ _ y5
  ·exact H _ _ y0
  ·exact H
theorem QJ(w:Wf h)(p:T.Rows h)(gA:Good T.A)(Q:Good T.B)(R:∀s∈T.A.ak,s.an.length<=2000)(V:∀s∈T.B.ak,s.an.length<=2000)(N:WJ T.A T.B ord)(M:ord.length<=90000){a:Option Addr}{c:Nat}(O:qA h 105 2 (.slice a ord.length c) (ord.map kV))(W:h.get km=some (.map (jo ord 0))):
  FW SS 106 [.agg ⟨T.arg⟩,.slice a ord.length c,.map (some km)] h (Ov h T ord):=by
 refine QI a ord.length c T.arg km h _ ⟨_,H5 T,_,aaO km,_,_,_,ado _ (by omega),_,Z0,?_⟩;have l:=OL.nil (Ok.refl w);have B:=(Ok.refl w).push (kc T);have e:=l.fe (kc T);have d:=(l.grow B).2 _ _ (l.old w W);have k:=(l.grow B).1;generalize h.push (kc T)=Y at*;have I:=(Ok.refl k.ok.wf).push (.cells [.map (some km)] 163 0 true);have f:=k.fe (.cells [.map (some km)] 163 0 true);have H:=(k.grow I).2;have X:=(k.grow I).1;have e:=H _ _ e;have d:=H _ _ d;generalize Y.push (.cells [.map (some km)] 163 0 true)=q at*;obtain⟨z,A⟩:=X.push (.cells (List.replicate ord.length (.pointer none)) 168 1 true);have e:=A _ _ e;have f:=A _ _ f;have d:=A _ _ d;generalize q.push (.cells (List.replicate ord.length (.pointer none)) 168 1 true)=g3 at*;obtain⟨C,K,D,i⟩:=z.cell (P:=SS.P) VA nA (v:=sA q.next ord.length ord.length) rfl rfl;refine⟨C,K,_,_,_,T6 _ (by omega),_,aaC,?_⟩;have u:=(z.grow D).2;have U:=(z.grow D).1;have e:=u _ _ e;have f:=u _ _ f;have d:=u _ _ d;generalize C.app (g3.push (.cells [nA] 166 0 true))=r at*;obtain⟨x,o⟩:=U.push (.cells (List.replicate ord.length xM) 27 1 true);have e:=o _ _ e;have f:=o _ _ f;have d:=o _ _ d;have i:=o _ _ i;generalize r.push (.cells (List.replicate ord.length xM) 27 1 true)=Z at*;obtain⟨F,J,E,m8⟩:=x.cell (P:=SS.P) MX nA (v:=sA r.next ord.length ord.length) rfl rfl;refine⟨F,J,?_⟩;have n:=(x.grow E).2;have S:=(x.grow E).1;have e:=n _ _ e;have f:=n _ _ f;have d:=n _ _ d;have i:=n _ _ i;generalize F.app (Z.push (.cells [nA] 126 0 true))=g6 at*;obtain⟨o7,g⟩:=S.cY ord.length;refine UY w p gA Q R V N M O (L:=bkL q.next r.next ord.length (List.replicate ord.length xM) (List.replicate ord.length [])) ⟨o7,_,_,⟨length_replicate,length_replicate,length_replicate,λj v b G m y t=>?_⟩,rfl⟩ ⟨g _ _ e,g _ _ f,g _ _ m8,g _ _ d⟩ (g _ _ i);rw[getElem?_replicate]at m y t;split at m
 ·next hj=>
  rw[if_pos hj]at y t;obtain rfl:=oI m;obtain rfl:=oI y;obtain rfl:=oI t;exact dy.nil 3
 ·cases m
end
end
noncomputable def cU:FD:=ei Tryz.f68 [([1,0,0,0],[0,2,3,4]),([1,0,0,0,1,0,0,1,0,0],[0,2,3,4,31,32])]
abbrev eH(a c b:Nat)(t:OA):LV:=[(.pointer t),(pA a),(pA c),(pA b)]
abbrev gb(t:OA)(a d b:Nat)(c:LV)(i:Nat):LV:=[(.pointer t),(pA a),(pA d),(pA b),(.agg ⟨c⟩),(iA i)]
theorem Nd(a:OA)(h:aa)(Q:VH)(d:xN (aA SS.P 27) h λf b=>xN (aA SS.P 27) b λg c=>xN (aA SS.P 27) c λi e=>LL SS cU [1,0,0,0] (eH (h.next) (b.next) (c.next) a) e (KK SS cU [1,0,0] [] (EE SS cU Q))):FW SS 68 [(.pointer a)] h Q:=eu cU Tryz.func68 (ax d)
theorem uk(t0:OA)(a c b:Nat)(f:Nat->OA->aa->Prop)(Q:VH)(step:∀(e:Nat) (t:OA) (G:Nat->Value) (h:aa),f e t h->xB (ay SS.P .neq 112 (.pointer t) (.pointer none)) λb7=>aQ b7 (DG SS.P t (room h 20) λv8 h9=>xP (af SS.P 118 v8 0) λu=>xP (af SS.P 116 (.pointer (some u)) 0) λK=>xI .i64 (ae SS.P 3 (room h 20) (.pointer (some K))) λI=>xA (aD SS.P 187 [(0,(.int .i64 I)),(1,(pA a))]) λA=>DG SS.P t (room h 20) λo x0=>xP (af SS.P 118 o 0) λC=>xP (af SS.P 116 (.pointer (some C)) 1) λz=>xI .i64 (ae SS.P 3 (room h 20) (.pointer (some z))) λr=>xA (aD SS.P 187 [(0,(.int .i64 r)),(1,(pA c))]) λL=>DG SS.P t (room h 20) λO x1=>xP (af SS.P 118 O 0) λp=>xP (af SS.P 116 (.pointer (some p)) 2) λm=>xI .i64 (ae SS.P 3 (room h 20) (.pointer (some m))) λx=>xA (aD SS.P 187 [(0,(.int .i64 x)),(1,(pA b))]) λq=>xA (aD SS.P 188 [(0,(.agg ⟨A⟩)),(1,(.agg ⟨L⟩)),(2,(.agg ⟨q⟩))]) λJ=>LL SS cU [1,0,0,0,1,0,0,1,0,0] (gb t a c b J 0) (room h 20) (KK SS cU [1,0,0,1,0] [1,0,0,0] (RR cU [1,0,0,0] (fB (eH a c b) f) e (KK SS cU [1,0,0] [] (EE SS cU Q))))) (xL (ae SS.P 27 h (pA a)) λU N P=>FW SS 122 [(.slice U N P)] h λE k=>E=(.tuple ⟨[]⟩)/\xL (ae SS.P 27 k (pA c)) λv s B=>FW SS 122 [(.slice v s B)] k λy g=>y=(.tuple ⟨[]⟩)/\xL (ae SS.P 27 g (pA b)) λn X S=>FW SS 122 [(.slice n X S)] g λT d=>T=(.tuple ⟨[]⟩)/\xL (ae SS.P 27 d (pA a)) λF W D=>xL (ae SS.P 27 d (pA c)) λH w M=>xL (ae SS.P 27 d (pA b)) λY R V=>xU (aj SS.P 27 (pA a) (.slice F W D) d) d λx2 i=>xU (aj SS.P 27 (pA c) (.slice H w M) i) i λx4 j=>xU (aj SS.P 27 (pA b) (.slice Y R V) j) j λx3 Z=>di SS [((pA a),some 27),((pA c),some 27),((pA b),some 27)] Z Q))(e:Nat){t:OA}{h:aa}(l:f e t h):LL SS cU [1,0,0,0] (eH a c b t) h (KK SS cU [1,0,0] [] (EE SS cU Q)):=
 dQ (eH a c b) f (λe t G h l=>ax (step e t G h l)) e l
theorem um(W:OA)(t:OA)(d f e:Nat)(g:LV)(l:Nat->OA->aa->Prop)(s:Nat)(c:Nat->Nat->aa->Prop)(Q:VH)(step:∀(b:Nat) (i:Nat) (G:Nat->Value) (h:aa),c b i h->aQ (decide (((i:Int):Int)<3)) (xA (bH SS.P 188 (.agg ⟨g⟩) (iA i)) λx=>xN (aA SS.P 187) h λU n=>xU (aj SS.P 187 (pA (h.next)) (.agg ⟨x⟩) n) n λS a=>xP (af SS.P 187 (pA (h.next)) 0) λJ=>xI .i64 (ae SS.P 3 a (.pointer (some J))) λB=>aQ (decide ((B:Int)>0)) (xP (af SS.P 187 (pA (h.next)) 1) λo=>xO (ae SS.P 186 (room a 12) (.pointer (some o))) λj=>xP (af SS.P 187 (pA (h.next)) 1) λM=>xO (ae SS.P 186 (room a 12) (.pointer (some M))) λL=>DG SS.P L (room a 12) λz R=>xL (ae SS.P 27 (room a 12) z) λA v E=>xP (af SS.P 187 (pA (h.next)) 0) λy=>xI .i64 (ae SS.P 3 (room a 12) (.pointer (some y))) λI=>zR (az SS.P 27 1 [(0,(.int .i64 I))]) λp C H=>xE (aE SS.P 27 27 (.slice A v E) (sA (a.next+8) C H) (av (room a 12) a.next [(8,p)])) (av (room a 12) a.next [(8,p)]) λu F N P k=>DG SS.P j k λw V=>xU (aj SS.P 27 w (.slice u F N) k) k λT D=>(ae SS.P 186 k (.pointer (some o))=some (.pointer j)/\cZ 4 (.pointer j) (.pointer j)=true)/\aJ (fB (gb t d f e g) c) b [(.pointer t),(pA d),(pA f),(pA e),(.agg ⟨g⟩),(.int .i64 (wrap .i64 ((i:Int)+1)))] D) (aJ (fB (gb t d f e g) c) b [(.pointer t),(pA d),(pA f),(pA e),(.agg ⟨g⟩),(.int .i64 (wrap .i64 ((i:Int)+1)))] a)) (DG SS.P t h λO m=>xP (af SS.P 118 O 1) λK=>xO (ae SS.P 112 m (.pointer (some K))) λr=>aJ (fB (eH d f e) l) s [(.pointer r),(pA d),(pA f),(pA e)] m))(b:Nat){i:Nat}{h:aa}(q:c b i h):LL SS cU [1,0,0,0,1,0,0,1,0,0] (gb t d f e g i) h (KK SS cU [1,0,0,1,0] [1,0,0,0] (RR cU [1,0,0,0] (fB (eH d f e) l) s (KK SS cU [1,0,0] [] (EE SS cU Q)))):=
 dQ (gb t d f e g) c (λb i G h q=>ax (step b i G h q)) b q
noncomputable def mK:FD:=ei Tryz.f107 [([1,0,0,0],[0,1,2,3,4])]
abbrev jy(a b c:Nat)(t r:OA):LV:=[(.pointer t),(.pointer r),(pA a),(pA b),(pA c)]
theorem QD(a b:OA)(c d e:Nat)(h:aa)(Q:VH)(f:LL SS mK [1,0,0,0] (jy c d e a b) h (KK SS mK [1,0,0] [] (EE SS mK Q))):FW SS 107 [(.pointer a),(.pointer b),(pA c),(pA d),(pA e)] h Q:=eu mK Tryz.func107 (ax f)
theorem vW(t0 r0:OA)(f c d:Nat)  (b:Nat->OA->OA->aa->Prop) (Q:VH) (step:∀(a:Nat)(t r:OA)(G:Nat->Value)(h:aa),b a t r h->DG SS.P r h λV w=>xP (af SS.P 170 V 1) λW=>xO (ae SS.P 168 w (.pointer (some W))) λT=>xB (ay SS.P .neq 168 (.pointer T) (.pointer none)) λU=>aQ U (DG SS.P r w λP x=>xP (af SS.P 170 P 0) λS=>xA (ae SS.P 116 x (.pointer (some S))) λR=>xA (aD SS.P 118 [(0,(.agg ⟨R⟩)),(1,(.pointer t))]) λN=>xN (dK SS.P 118 (.agg ⟨N⟩)) x λY A=>DG SS.P r A λJ v=>xP (af SS.P 170 J 1) λB=>xO (ae SS.P 168 v (.pointer (some B))) λF=>aJ (C1 (jy f c d) b) a [(pA (x.next)),(.pointer F),(pA f),(pA c),(pA d)] v) (FW SS 68 [(.pointer t)] w λO k=>∃(s:OA)(u g:Nat),∃(m:OA)(n q:Nat),∃(i:OA)(p j:Nat),O=(.tuple ⟨[(.slice s u g),(.slice m n q),(.slice i p j)]⟩)/\xU (aj SS.P 27 (pA f) (.slice s u g) k) k λX l=>xU (aj SS.P 27 (pA c) (.slice m n q) l) l λZ o=>xU (aj SS.P 27 (pA d) (.slice i p j) o) o λx0 e=>xL (ae SS.P 27 e (pA c)) λE D C=>xL (ae SS.P 27 e (pA d)) λz M K=>FW SS 108 [(.slice E D C),(.slice z M K)] e λL H=>yB L λI=>Q (.bool (!I)) H)) (a:Nat) {t r:OA} {h:aa} (y:b a t r h):LL SS mK [1,0,0,0] (jy f c d t r) h (KK SS mK [1,0,0] [] (EE SS mK Q)):=
 tl (jy f c d) b (λa t r G h y=>ax (step a t r G h y)) a y
noncomputable def XB:FD:=ei Tryz.f110 []
theorem SV(f n:LV)(h:aa)(Q:VH)(y:xN (dK SS.P 175 (.agg ⟨f⟩)) h λC b=>xN (dK SS.P 175 (.agg ⟨n⟩)) b λD c=>xP (af SS.P 175 (pA (h.next)) 0) λw=>xL (ae SS.P 27 c (.pointer (some w))) λx A z=>xP (af SS.P 175 (pA (b.next)) 0) λB=>xL (ae SS.P 27 c (.pointer (some B))) λj p u=>FW SS 108 [(.slice x A z),(.slice j p u)] c λs a=>yB s λm=>aQ m (xP (af SS.P 175 (pA (h.next)) 1) λo=>xL (ae SS.P 27 a (.pointer (some o))) λt l q=>xP (af SS.P 175 (pA (b.next)) 1) λr=>xL (ae SS.P 27 a (.pointer (some r))) λg v e=>FW SS 108 [(.slice t l q),(.slice g v e)] a λd k=>yB d λi=>Q (.bool i) k) (Q (.bool false) a)):FW SS 110 [(.agg ⟨f⟩),(.agg ⟨n⟩)] h Q:=eu XB Tryz.func110 (ax y)
noncomputable def ch:FD:=ei Tryz.f113 [([1,1,1,1,0,0,0],[4,6])]
abbrev mB(b a:Nat)(z:Unit):LV:=[(pA b),(pA a)]
theorem Pv(B J:LV)(h:aa)(Q:VH)(hx:xN (dK SS.P 175 (.agg ⟨B⟩)) h λB1 d=>xN (dK SS.P 116 (.agg ⟨J⟩)) d λB3 i=>xN (aA SS.P 175) i λB5 b=>xP (af SS.P 175 (pA (h.next)) 0) λp7=>xL (ae SS.P 27 (room b 9) (.pointer (some p7))) λa8 n9 z1=>FW SS 148 [(.slice a8 n9 z1)] (room b 9) λA n=>yL A λX C y5=>xP (af SS.P 175 (pA (h.next)) 1) λm=>xL (ae SS.P 27 n (.pointer (some m))) λg e f=>FW SS 148 [(.slice g e f)] n λx5 l=>yL x5 λU W y0=>xA (aD SS.P 175 [(0,(.slice X C y5)),(1,(.slice U W y0))]) λF=>zN (aA SS.P 175) λp=>xU (aj SS.P 175 (pA (b.next+7)) (.agg ⟨F⟩) (av l b.next [(7,p)])) (av l b.next [(7,p)]) λz7 a=>(ae SS.P 27 (room b 9) (.pointer (some m))=some (.slice g e f)/\cZ 4 (.slice g e f) (.slice g e f)=true)/\xP (af SS.P 116 (pA (d.next)) 1) λy9=>xI .i64 (ae SS.P 3 a (.pointer (some y9))) λM=>aQ (decide ((M:Int)>0)) (xP (af SS.P 175 (pA (b.next+7)) 0) λu=>xL (ae SS.P 27 a (.pointer (some u))) λN L R=>xP (af SS.P 116 (pA (d.next)) 1) λx9=>xI .i64 (ae SS.P 3 a (.pointer (some x9))) λt=>xR (az SS.P 27 1 [(0,(.int .i64 t))]) a λu1 z0 y4 j=>xE (aE SS.P 27 27 (.slice N L R) (sA (a.next) z0 y4) j) j λw y z3 z8 q=>xP (af SS.P 175 (pA (b.next+7)) 0) λK=>xU (aj SS.P 27 (.pointer (some K)) (.slice w y z3) q) q λu2 c=>xP (af SS.P 116 (pA (d.next)) 2) λT=>xI .i64 (ae SS.P 3 c (.pointer (some T))) λy7=>aQ (decide ((y7:Int)>0)) (xP (af SS.P 175 (pA (b.next+7)) 1) λx2=>xL (ae SS.P 27 c (.pointer (some x2))) λY v y1=>xP (af SS.P 116 (pA (d.next)) 2) λV=>xI .i64 (ae SS.P 3 c (.pointer (some V))) λx1=>xR (az SS.P 27 1 [(0,(.int .i64 x1))]) c λu0 D x6 o=>xE (aE SS.P 27 27 (.slice Y v y1) (sA (c.next) D x6) o) o λy3 x7 E z5 r=>xP (af SS.P 175 (pA (b.next+7)) 1) λy8=>xU (aj SS.P 27 (.pointer (some y8)) (.slice y3 x7 E) r) r λu3 x0=>LL SS ch [1,1,1,1,0,0,0] [(pA (i.next)),(pA (b.next+7))] x0 (KK SS ch [1,1,1,1,0,0] [] (EE SS ch Q))) (LL SS ch [1,1,1,1,0,0,0] [(pA (i.next)),(pA (b.next+7))] c (KK SS ch [1,1,1,1,0,0] [] (EE SS ch Q)))) (xP (af SS.P 116 (pA (d.next)) 2) λx4=>xI .i64 (ae SS.P 3 a (.pointer (some x4))) λz2=>aQ (decide ((z2:Int)>0)) (xP (af SS.P 175 (pA (b.next+7)) 1) λy2=>xL (ae SS.P 27 a (.pointer (some y2))) λx Z y6=>xP (af SS.P 116 (pA (d.next)) 2) λG=>xI .i64 (ae SS.P 3 a (.pointer (some G))) λO=>xR (az SS.P 27 1 [(0,(.int .i64 O))]) a λz9 S z s=>xE (aE SS.P 27 27 (.slice x Z y6) (sA (a.next) S z) s) s λx8 H I z6 k=>xP (af SS.P 175 (pA (b.next+7)) 1) λP=>xU (aj SS.P 27 (.pointer (some P)) (.slice x8 H I) k) k λz4 x3=>LL SS ch [1,1,1,1,0,0,0] [(pA (i.next)),(pA (b.next+7))] x3 (KK SS ch [1,1,1,1,0,0] [] (EE SS ch Q))) (LL SS ch [1,1,1,1,0,0,0] [(pA (i.next)),(pA (b.next+7))] a (KK SS ch [1,1,1,1,0,0] [] (EE SS ch Q))))):FW SS 113 [(.agg ⟨B⟩),(.agg ⟨J⟩)] h Q:=eu ch Tryz.func113 (ax hx)
theorem uY(dv ov:LV)(b a:Nat)(i:Nat->Unit->aa->Prop)(Q:VH)(step:∀(f:Nat) (z:Unit) (T:Nat->Value) (h:aa),i f z h->xP (af SS.P 175 (pA a) 0) λW=>xL (ae SS.P 27 h (.pointer (some W))) λx2 P x4=>aQ (decide (((P:Int):Int)>0)) (xP (af SS.P 175 (pA a) 1) λR=>xL (ae SS.P 27 h (.pointer (some R))) λx5 S x3=>aQ (decide (((S:Int):Int)>0)) (xP (af SS.P 175 (pA a) 0) λV=>xL (ae SS.P 27 (room h 9) (.pointer (some V))) λU O L=>xP (ai SS.P 27 (.slice U O L) (.int .i64 0)) λJ=>xI .i64 (ae SS.P 3 (room h 9) (.pointer (some J))) λy=>xP (af SS.P 175 (pA a) 1) λv=>xL (ae SS.P 27 (room h 9) (.pointer (some v))) λH x r=>xP (ai SS.P 27 (.slice H x r) (.int .i64 0)) λN=>xI .i64 (ae SS.P 3 (room h 9) (.pointer (some N))) λI=>aQ (((y:Int) !=I)) (xA (ae SS.P 175 (room h 9) (pA a)) λq=>xU (aj SS.P 175 (pA b) (.agg ⟨q⟩) (room h 9)) (room h 9) λx0 m=>di SS [((pA b),some 175),((.bool false),none)] m Q) (xP (af SS.P 175 (pA a) 0) λA=>xL (ae SS.P 27 (room (room h 9) 10) (.pointer (some A))) λC t o=>xL (bm SS.P 27 (.slice C t o) (some (.int .i64 1)) none none (room (room h 9) 10)) λK M G=>xP (af SS.P 175 (pA a) 1) λw=>xL (ae SS.P 27 (room (room h 9) 10) (.pointer (some w))) λj k l=>xL (bm SS.P 27 (.slice j k l) (some (.int .i64 1)) none none (room (room h 9) 10)) λc e d=>xP (af SS.P 175 (pA a) 0) λE=>xU (aj SS.P 27 (.pointer (some E)) (.slice K M G) (room (room h 9) 10)) (room (room h 9) 10) λX g=>xP (af SS.P 175 (pA a) 1) λp=>xU (aj SS.P 27 (.pointer (some p)) (.slice c e d) g) g λx1 D=>(bm SS.P 27 (.slice j k l) (some (.int .i64 1)) none none g=some (.slice c e d)/\cZ 4 (.slice c e d) (.slice c e d)=true)/\aJ (fB (mB b a) i) f [(pA b),(pA a)] D)) (xA (ae SS.P 175 h (pA a)) λF=>xU (aj SS.P 175 (pA b) (.agg ⟨F⟩) h) h λZ u=>di SS [((pA b),some 175),((.bool true),none)] u Q)) (xA (ae SS.P 175 h (pA a)) λs=>xU (aj SS.P 175 (pA b) (.agg ⟨s⟩) h) h λY n=>di SS [((pA b),some 175),((.bool true),none)] n Q))(f:Nat){z:Unit}{h:aa}(B:i f z h):LL SS ch [1,1,1,1,0,0,0] (mB b a z) h (KK SS ch [1,1,1,1,0,0] [] (EE SS ch Q)):=
 dQ (mB b a) i (λf z T h B=>ax (step f z T h B)) f B
variable{p:List Int}
section
theorem zat{g:aa}{l:List Int}(r:Rd g 3 v (l.map zV)){i:Nat}{z:Int}(a:l[i]?=some z):∃p:Addr,ai SS.P 27 v (.int .i64 (i:Int))=some (.pointer (some p))/\ae SS.P 3 g (.pointer (some p))=some (.int .i64 z):=by
 have d:=(List.getElem?_eq_some_iff.1 a).1;obtain⟨p,b,c⟩:=r.at_ cQ wF lp ll (k:= .i64) (i:=(i:Int)) (by omega) (by rw[lM];omega);refine⟨p,b,?_⟩;rw[c,toNat_natCast,gD,getElem?_map,a];rfl
theorem xp(w:Wf h){a:Option Addr}{n c:Nat}{b:Option Addr}{m d:Nat}{l l':List Int}(r:Rd h 3 (.slice a n c) (l.map zV))(A:Rd h 3 (.slice b m d) (l'.map zV))(F:l.length<=1000000000):FW SS 108 [.slice a n c,.slice b m d] h (λv g=>v = .bool (decide (l=l'))/\Ok h g):=by
 have B:n=l.length:=by have:=r.len;rwa[lM]at this
 have C:m=l'.length:=by have:=A.len;rwa[lM]at this
 refine Py a n c b m d h _ (ah (λq=>?_) (λq=>?_))
 ·refine⟨?_,Ok.refl w⟩;rw[decide_eq_false];intro e;rw[B,C,e]at q;simp at q
 ·have I:n=m:=by
   have:(n:Int)=m:=by simpa using q
   omega
  refine vn a n c b m d (λu i g=>i<=l.length/\u=l.length-i/\Ok h g/\l.take i=l'.take i) _ (λu i=>?_) l.length (i:=0) ⟨zero_le _,rfl,Ok.refl w,by simp⟩;intro K g t;obtain⟨M,rfl,z,o⟩:=t;refine ah (λq=>?_) (λq=>?_)
  ·have q:=dT q;obtain⟨x,f⟩:∃p,l[i]?=some p:=⟨_,gE (by omega)⟩
   obtain⟨y,s⟩:∃p,l'[i]?=some p:=⟨_,gE (by omega)⟩
   have j:=z.room 9;obtain⟨L,D,E⟩:=zat (r.ok j) f;obtain⟨J,G,H⟩:=zat (A.ok j) s;refine⟨_,D,_,E,_,G,_,H,ah (λk=>?_) (λk=>?_)⟩
   ·refine⟨?_,j⟩;rw[decide_eq_false];intro e;rw[e,s]at f;obtain rfl:=oI f;simp at k
   ·have e:x=y:=by simpa using k
    subst e;rw[bF (n:=l.length) (by omega) F];refine cK (l.length-(i+1)) (by omega) ⟨by omega,rfl,j,?_⟩;rw[(fT f).2,(fT s).2,o]
  ·have q:=dF q;rw[take_of_length_le (by omega),take_of_length_le (by omega)]at o;exact⟨by rw[decide_eq_true o],z⟩
theorem A0(w:Wf h){v:Value}{l:List Int}(r:Rd h 3 v (l.map zV))(t:l.length<=1000000000):FW SS 148 [v] h (λx g=>na h g 3 x (l.map zV)/\Ok h g):=by
 have d:(l.map zV).length=l.length:=lM ..;rcases r with⟨rfl,e⟩|⟨k,a,cs,c,n,rfl,e,j⟩
 ·rw[e];exact Pm h _ ⟨⟨[],dy.nil 3,λp o=>by cases o⟩,Ok.refl w⟩
 ·have r:Rd h 3 (.slice (some ⟨k,a,none⟩) (l.map zV).length c) (l.map zV):= .inr ⟨k,a,cs,c,n,rfl,e,j⟩;refine Ld ⟨k,a,none⟩ (l.map zV).length c h _ ⟨_,0,0,(by kernel_rfl:az SS.P 27 0 []=some (.cells [] 3 1 true,jc 0 0)),?_⟩;obtain⟨b,m,f,u,q,i,s⟩:=WV cQ rk kX Na w (x:= .slice (some ⟨k,a,none⟩) (l.map zV).length c) (abL (r.ok ((Ok.refl w).push _))) (by rw[List.all_map];simp[zV,bc]) (by rw[iV,d];omega) (by rw[d];omega);exact⟨b,m,f,u,q,i,s⟩
structure O0(l cur:List Int)(i j:Int):Prop where
 len:cur.length=l.length
 out:∀p:Nat,p<l.length->((p:Int)<i\/j<(p:Int))->cur[p]?=l[l.length-1-p]?
 mid:∀p:Nat,i<=(p:Int)->(p:Int)<=j->cur[p]?=l[p]?
 sum:i+j=(l.length:Int)-1
theorem O0.done{l:List Int}{i j:Int}(t:O0 l p i j)(h:j<=i):p=l.reverse:=by
 refine List.ext_getElem? λa=>?_;by_cases c:a<l.length
 ·rw[List.getElem?_reverse c];by_cases b:(a:Int)<i\/j<(a:Int)
  ·exact t.out a c b
  ·rw[not_or]at b;have:=t.sum;rw[t.mid a (by omega) (by omega)];congr 1;omega
 ·rw[List.getElem?_eq_none (by rw[t.len];omega),List.getElem?_eq_none (by rw[List.length_reverse];omega)]
theorem O0.step{l:List Int}(t:O0 l p i j)(h:i<j){x y:Int}(k:p[i]?=some x)(e:p[j]?=some y):O0 l ((p.set i y).set j x) ((i:Int)+1) ((j:Int)-1):=by
 have o:=t.sum;have b:j<p.length:=(List.getElem?_eq_some_iff.1 e).1;have g:=t.len;have n:=t.mid i (Int.le_refl _) (by omega);have f:=t.mid j (by omega) (Int.le_refl _);refine⟨by rw[length_set,length_set];exact g,λc m s=>?_,λc q r=>?_,by omega⟩
 ·rw[getElem?_set];by_cases a:j=c
  ·subst a;rw[if_pos rfl,if_pos (by rw[length_set];exact b),<-k,n];congr 1;omega
  ·rw[if_neg a,getElem?_set];by_cases d:i=c
   ·subst d;rw[if_pos rfl,if_pos (by omega),<-e,f];congr 1;omega
   ·rw[if_neg d];exact t.out c m (by omega)
 ·rw[getElem?_set,if_neg (by omega),getElem?_set,if_neg (by omega)];exact t.mid c (by omega) (by omega)
theorem JN{c:Nat}{G:cD}(r:dy T (.slice a n c) d G):n=d.length:=by
 obtain⟨e,b,h⟩:=r.mU;injection h
theorem EK{g:aa}{L:List cD}(t:Wf h){a:Option Addr}{n c:Nat}{b:List Int}{G:cD}(r:dy 3 (.slice a n c) (b.map zV) G)(o:OL h g L){j:Nat}(B:L[j]?=some G){i:Nat}(s:i<b.length)(y:Int):∃p:Addr,ai SS.P 27 (.slice a n c) (.int .i64 (i:Int))=some (.pointer (some p))/\∃u:aY,aj SS.P 3 (.pointer (some p)) (.int .i64 y) g=some (undef,u)/\∃d,dy 3 (.slice a n c) ((b.set i y).map zV) d/\OL h (u.app g) (L.set j d)/\eS g L (u.app g) (L.set j d):=by
 have v:=JN r;rw[lM]at v;have w:=r;obtain⟨D,⟨_,f,_⟩|⟨k,C,cs,E,l,_⟩⟩:=w
 ·have:b=[]:=by simpa[po]using f
  subst this;exact absurd s (not_lt_zero _)
 ·injection l with l hv2 m
  subst l;subst m;obtain⟨u,A,d,f,z⟩:=fh.put (P:=SS.P) (t':=3) wF t (e:=3) (sz:=1) (i:=i) (q:=0) (x:=[zV b[i]]) (v':= .int .i64 y) r o B (by unfold po;rw[getElem?_map,getElem?_map,gE s];rfl) (by omega) rfl rfl;refine⟨_,F0 cQ wF (by omega) (by omega),u,by rw[toNat_natCast];exact A,d,?_,z⟩;have e:(po (b.map zV)).set i (([zV b[i]]:List Value).set 0 (.int .i64 y))=po ((b.set i y).map zV):=by
   unfold po;rw[map_set,map_set];rfl
  rw[e]at f;exact f
theorem ue{g:aa}{L:List cD}(E:Wf h){a:Option Addr}{n c:Nat}{l:List Int}{G:cD}(r:dy 3 (.slice a n c) (l.map zV) G)(o:OL h g L){k:Nat}(Q:L[k]?=some G)(hl:l.length<=1000000000):FW SS 122 [.slice a n c] g (λv u=>v = .tuple ⟨[]⟩/\∃f,dy 3 (.slice a n c) (l.reverse.map zV) f/\OL h u (L.set k f)/\eS g L u (L.set k f)):=by
 have hn:n=l.length:=by have:=JN r;rwa[lM]at this
 refine MA a n c g _ ?_;rw[aO (by omega) (by omega)];have x:=(List.getElem?_eq_some_iff.1 Q).1;have w:L.set k G=L:=List.ext_getElem? λp=>by
  rw[getElem?_set];by_cases e:k=p
  ·subst e;rw[if_pos rfl,if_pos x,Q]
  ·rw[if_neg e]
 refine uh a n c (λH i j u=>∃b f,O0 l b i j/\dy 3 (.slice a n c) (b.map zV) f/\OL h u (L.set k f)/\eS g L u (L.set k f)/\i<=l.length/\H=l.length-i) _ (λH i j=>?_) l.length (i:=0) ⟨l,G,⟨rfl,λp hp ho=>by omega,λp _ _=>rfl,by omega⟩,r,by rw[w];exact o,by rw[w];exact eS.refl _ _,zero_le _,rfl⟩;intro zz g1 F;obtain⟨b,B,t,y,z,N,hi,rfl⟩:=F;have hs:=t.sum;have x0:=t.len;refine ah (λq=>?_) (λq=>?_)
 ·have q:=dT q;obtain⟨d,rfl⟩:∃d:Nat,j=(d:Int):=⟨j.toNat,by omega⟩
  have S:d<b.length:=by omega
  have s:i<b.length:=by omega
  have K:=gE s;have T:=gE S;have D:(L.set k B)[k]?=some B:=by rw[getElem?_set,if_pos rfl,if_pos x]
  obtain⟨C,c2⟩:=z.grow ((Ok.refl z.ok.wf).room 16);generalize Go.Ab.room g1 16=g2 at*;obtain⟨p1,W,Y⟩:=zat (y.rd C D) T;obtain⟨Z,A,j2⟩:=zat (y.rd C D) K;obtain⟨q1,m,u1,s2,R,V,O,P⟩:=EK E y C D s b[d];rw[A]at m;obtain rfl:Z=q1:=by injection m with m;injection m with m;injection m
  refine⟨_,W,_,Y,_,A,_,j2,_,A,u1,s2,?_⟩;rw[set_set]at O P;have M:(L.set k R)[k]?=some R:=by rw[getElem?_set,if_pos rfl,if_pos x]
  obtain⟨q2,s3,U,s4,G4,r4,J,I⟩:=EK E V O M (i:=d) (by rw[length_set];exact S) b[i];rw[set_set]at J I;refine⟨_,s3,U,s4,?_⟩;have ts:=t.step (by omega) K T;have X:wrap .i64 ((i:Int)+1)=((i+1:Nat):Int):=bF s (by omega);have e2:wrap .i64 ((d:Int)-1)=(d:Int)-1:=aO (by omega) (by omega);rw[X,e2];refine mE (l.length-(i+1)) (by omega) ⟨_,G4,?_,r4,J,N.trans (c2.trans (P.trans I)),by omega,rfl⟩;have:((i+1:Nat):Int)=(i:Int)+1:=by omega
  rw[this];exact ts
 ·have q:=dF q;have e:=t.done (by omega);subst e;exact⟨rfl,B,y,z,N⟩
abbrev sK:=List Int×List Int
noncomputable def ab8:TypeDesc:=(SS.P.underlying 175).getD .bool
theorem aau:SS.P.underlying 175=some ab8:=by kernel_rfl
theorem ZV:Go.Ab.isAgg SS.P 175=true:=by kernel_rfl
theorem uj:au SS.P 175=some 2:=by kernel_rfl
theorem lO(k o:Nat):af SS.P 175 (.pointer (some ⟨k,o,none⟩)) 0=some (.pointer (some ⟨k,o+0,none⟩)):=by kernel_rfl
theorem lP(k o:Nat):af SS.P 175 (.pointer (some ⟨k,o,none⟩)) 1=some (.pointer (some ⟨k,o+1,none⟩)):=by kernel_rfl
def bP(x y:Value):bw:= .cells [x,y] 175 0 true
theorem K6(a:Option Addr)(n c:Nat)(b:Option Addr)(m d:Nat):dK SS.P 175 (.agg ⟨[.slice a n c,.slice b m d]⟩)=some (bP (.slice a n c) (.slice b m d),dX):=by cases a<;>cases b<;>kernel_rfl
section
variable {g:aa} {k:Nat} {x y:Value}
theorem bP.l0(h:g.get k=some (bP x y)):ae SS.P 27 g (.pointer (some ⟨k,0+0,none⟩))=some x:=aN cQ gL h (by simp)
theorem bP.l1(h:g.get k=some (bP x y)):ae SS.P 27 g (.pointer (some ⟨k,0+1,none⟩))=some y:=aN cQ gL h (by simp)
theorem bP.all(h:g.get k=some (bP x y)):ae SS.P 175 g (.pointer (some ⟨k,0,none⟩))=some (.agg ⟨[x,y]⟩):=fE aau ZV uj h (by simp)
end
theorem Ig(w:Wf h){a:Option Addr}{n c:Nat}{b:Option Addr}{m d:Nat}{o:Option Addr}{l j:Nat}{r:Option Addr}{p k:Nat}{x y:sK}(F:Rd h 3 (.slice a n c) (x.1.map zV))(H:Rd h 3 (.slice b m d) (x.2.map zV))(D:Rd h 3 (.slice o l j) (y.1.map zV))(J:Rd h 3 (.slice r p k) (y.2.map zV))(G:x.1.length<=1000000000)(A:x.2.length<=1000000000):FW SS 110 [.agg ⟨[.slice a n c,.slice b m d]⟩,.agg ⟨[.slice o l j,.slice r p k]⟩] h (λv g=>v = .bool (decide (x=y))/\Ok h g):=by
 refine SV _ _ h _ ⟨_,K6 ..,_,K6 ..,?_⟩;have z:=(Ok.refl w).push (bP (.slice a n c) (.slice b m d));have i:=aI h (bP (.slice a n c) (.slice b m d));generalize h.push (bP (.slice a n c) (.slice b m d))=B at*;have C:=(Ok.refl z.wf).push (bP (.slice o l j) (.slice r p k));have t:=aI B (bP (.slice o l j) (.slice r p k));have i:=C.ext _ _ i;have s:=z.trans C;generalize B.push (bP (.slice o l j) (.slice r p k))=K at*;refine⟨_,lO _ _,_,_,_,bP.l0 i,_,lO _ _,_,_,_,bP.l0 t,(xp s.wf (F.ok s) (D.ok s) G).mono ?_⟩;rintro _ M ⟨rfl,u⟩;have f:=s.trans u;have i:=u.ext _ _ i;have t:=u.ext _ _ t;refine⟨_,rfl,ah (λq=>?_) (λq=>?_)⟩
 ·have q:=dT q;refine⟨_,lP _ _,_,_,_,bP.l1 i,_,lP _ _,_,_,_,bP.l1 t,(xp f.wf (H.ok f) (J.ok f) A).mono ?_⟩;rintro _ L ⟨rfl,I⟩;refine⟨_,rfl,?_,f.trans I⟩;by_cases e:x.2=y.2
  ·rw[decide_eq_true e,decide_eq_true (Prod.ext q e)]
  ·rw[decide_eq_false e,decide_eq_false (λE=>e (by rw[E]))]
 ·have q:=dF q;exact⟨by rw[decide_eq_false (λe=>q (by rw[e]))],f⟩
end
end Go.Proofs.YtnlccnpbjeiccaaGreatDoor
end
