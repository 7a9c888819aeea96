/- Laws and walks that the proof leans on (part 5): P31; P32; W15; P33; P34; P35 and others. No condition. -/
import Derived.Test.YtnlccnpbjeiccaaGreatDoorPart4
import Derived.Test.YtnlccnpbjeiccaaGreatDoorPart3
set_option linter.unusedVariables false
set_option linter.unusedSimpArgs false
set_option maxRecDepth 100000
open List (all_cons all_eq_true append_assoc append_nil cons_append drop_eq_nil_of_le drop_zero filterMap_append filterMap_cons getElem?_drop getElem?_map getElem?_replicate getElem?_set getElem?_take length_append length_cons length_replicate length_set length_singleton length_take map_append map_replicate map_set mem_append mem_cons mem_cons_self mem_map mem_singleton nil_append nodup_cons take_add_one take_of_length_le take_zero)
open Nat (add_mul lt_or_ge mul_le_mul_right mul_one not_lt_zero one_mul sub_self zero_add zero_le)
open Bool (and_eq_true not_eq_false' not_eq_true')
open Int (toNat_natCast)
open Go.IntKind (wrap)
section
namespace Go.Proofs.YtnlccnpbjeiccaaGreatDoor
open Go Go.Ab Go.Num
variable{A:Type}{i:Nat}
section
theorem mf{l:List A}{s:A}(h:l[i]?=some s):l.drop i=s::l.drop (i+1):=by
 obtain⟨a,rfl⟩:=List.getElem?_eq_some_iff.1 h;exact List.drop_eq_getElem_cons a
theorem EX(s:Int)(h:aa):FW SS 74 [.int .i64 s] h (λv a=>v = .bool (EW s)/\a=h):=by
 refine Rl s h _ (ah (λg=>⟨?_,rfl⟩) (λg=>⟨?_,rfl⟩))
 ·have g:=dT g;unfold EW;rw[decide_eq_true (show 0<=s from g),Bool.true_and]
 ·have g:=dF g;unfold EW;rw[decide_eq_false (show ¬0<=s from g),Bool.false_and]
section
variable {h:aa} {k:Nat} {M:aG} {a:Option Addr} {n c:Nat}
def bQ(h:aa)(V:Bool):VH:=λv a=>v = .bool V/\Ok h a
def ads(h:aa)(k:Nat)(M:aG)(a:Option Addr)(n c:Nat)(V:Bool)(d i:Nat)(b:Int)(g:aa):Prop:=i<=n/\d=n-i/\0<=b/\b<=30000/\MB g k M a n c/\Ok h g/\tp M.kind n b (M.ak.drop i)=V
def mIn(h:aa)(k:Nat)(M:aG)(a:Option Addr)(n c:Nat)(s:fF)(b:Option Addr)(m d i:Nat)(f:Int)(V:Bool)(e j:Nat)(g:aa):Prop:=j<=m/\e=m-j/\MB g k M a n c/\Ok h g/\eT g (.slice b m d) s.an/\((s.an.drop j).all (qe M.kind n)&&tp M.kind n f (M.ak.drop (i+1)))=V
theorem bA{n:Nat}(h:i<n)(a:n<=1000000000):wrap .i64 ((i:Int)+1)=((i+1:Nat):Int):=by rw[aO (by omega) (by omega)];omega
theorem wB(a:Small M){s:fF}{i:Nat}(b:M.ak[i]?=some s):s.an.length<=2000/\s.f.length<=281474976710656/\∀q∈s.an,q.w.length<=281474976710656:=by
 have h:=List.mem_of_getElem? b;exact⟨a.an s h,Nat.le_trans (a.fin s h) (by decide),λq c=>Nat.le_trans (a.w s h q c) (by decide)⟩
set_option linter.defProp false in
def I8(w:Wf h)(Z:rK h)(O:Small M)(V:Bool){s:fF}{b:Option Addr}{m d i T:Nat}{l:Int}(U:M.ak[i]?=some s)(Y:i<n)(h0:0<=l)(W:l<=30000)(Q:List Value)(K:Nat)(x0:K=n-i):=
 vM Q k a n c T b m d (ads h k M a n c V) K i l (mIn h k M a n c s b m d i l V) (bQ h V) (by
  intro P j;intros;rename_i g J;obtain⟨f1,f2,E,H,C,f⟩:=J;have hn:n<=300:=by rw[E.len];exact O.RL
  obtain⟨l1,l2,X⟩:=wB O U;have hm:=C.len;refine ah (λy=>?_) (λy=>?_)
  ·have y:=dT y;obtain⟨q,F⟩:∃q,s.an[j]?=some q:=⟨_,gE (by omega)⟩
   obtain⟨bb,o,S,e2,e3⟩:=C.at_ F;have R:=X q (List.mem_of_getElem? F);rw[mf F,all_cons]at f;obtain⟨u,p1,D,z⟩:=wc H.wf q;refine⟨_,S,_,e2,_,Fk,u,p1,?_⟩;have e:=H.trans D;have B:=E.ok D;generalize u.app (g.push Hr)=L at*;refine⟨_,gj _ _,_,z.l0,(EX _ _).mono ?_⟩;rintro _ I ⟨rfl,G⟩;obtain rfl:L=I:=G.symm;refine⟨_,rfl,ah (λt=>⟨?_,e⟩) (λt=>?_)⟩
   ·rw[not_eq_true']at t;rw[<-f];unfold qe;rw[t];simp
   rw[not_eq_false']at t;refine⟨_,xy _ _,_,z.l1,(EX _ _).mono ?_⟩;rintro _ I ⟨rfl,G⟩;obtain rfl:L=I:=G.symm;refine⟨_,rfl,ah (λp=>⟨?_,e⟩) (λp=>?_)⟩
   ·rw[not_eq_true']at p;rw[<-f];unfold qe;rw[p];simp
   rw[not_eq_false']at p;refine⟨_,eV _ _,_,z.l3,ah (λx=>⟨?_,e⟩) (λx=>?_)⟩
   ·have x:=dT x;rw[<-f];unfold qe;rw[decide_eq_false (show ¬0<=q.t by omega)];simp
   have x:=dF x;refine⟨_,eV _ _,_,z.l3,ah (λr=>⟨?_,e⟩) (λr=>?_)⟩
   ·have r:=dT r;rw[<-f];unfold qe;rw[decide_eq_false (show ¬q.t<n by omega)];simp
   have r:=dF r;refine⟨_,tO _,_,B.l0,_,abh _ _,_,z.l2,(pO M.kind q.w R (Z.ok e) e.wf).mono ?_⟩;rintro _ g4 ⟨rfl,A⟩;refine⟨_,rfl,ah (λv=>⟨?_,e.trans A⟩) (λv=>?_)⟩
   ·rw[not_eq_true']at v;rw[<-f];unfold qe;rw[v];simp
   rw[not_eq_false']at v;have N:qe M.kind n q=true:=by
    unfold qe;rw[t,p,v,decide_eq_true (show 0<=q.t by omega),decide_eq_true (show q.t<n by omega)];rfl
   rw[N,Bool.true_and]at f;rw[bA (i:=j) (n:=m) (by omega) (by omega)];exact cG (P-1) (by omega) ⟨by omega,by omega,B.ok A,e.trans A,(C.ok D).ok A,f⟩
  ·have y:=dF y;obtain rfl:m=j:=by omega
   rw[drop_eq_nil_of_le (by omega)]at f;rw[bA Y (by omega)];exact ju (n-(i+1)) (by omega) ⟨by omega,rfl,h0,W,E,H,by simpa using f⟩)
theorem rW{h:aa}(N:rK h)(w:Wf h){M:aG}(q:Small M){a:Option Addr}{n c:Nat}(r:ey h (.slice a n c) M.ak):FW SS 30 [.agg ⟨bD M a n c⟩] h (λv h'=>v = .bool (cL M)/\Ok h h'):=by
 obtain⟨f,k⟩:=nT w r;refine Qa (bD M a n c) h _ ⟨_,oy M a n c,?_⟩;have Y:=f.len;have hn:n<=300:=by rw[Y];exact q.RL
 generalize h.push (Bm M a n c)=g at*;refine⟨_,eJ _,_,_,_,f.l3,_,tO _,_,f.l0,ah (λJ=>⟨?_,k⟩) (λJ=>?_)⟩
 ·have J:=dT J;unfold cL;rw[decide_eq_false (show ¬1<=M.kind by omega)];simp
 have J:=dF J;refine⟨_,tO _,_,f.l0,ah (λp=>⟨?_,k⟩) (λp=>ah (λF=>⟨?_,k⟩) (λF=>ah (λT=>⟨?_,k⟩) (λT=>?_)))⟩
 ·have p:=dT p;unfold cL;rw[decide_eq_false (show ¬M.kind<=3 by omega)];simp
 ·have F:=dT F;unfold cL;rw[decide_eq_false (show ¬1<=M.ak.length by omega)];simp
 ·have T:=dT T;omega
 have p:=dF p;have F:=dF F;refine⟨_,pk _,_,f.l1,ah (λC=>⟨?_,k⟩) (λC=>?_)⟩
 ·have C:=dT C;unfold cL;rw[decide_eq_false (show ¬0<=M.start by omega)];simp
 have C:=dF C;refine⟨_,pk _,_,f.l1,ah (λD=>⟨?_,k⟩) (λD=>?_)⟩
 ·have D:=dT D;unfold cL;rw[decide_eq_false (show ¬M.start<M.ak.length by omega)];simp
 have D:=dF D;refine⟨_,tO _,_,f.l0,_,Te _,_,f.l2,(pO M.kind M.lead (Nat.le_trans q.lead (by decide)) (N.ok k) k.wf).mono ?_⟩;rintro _ g2 ⟨rfl,o2⟩;have R:=k.trans o2;have O:=f.ok o2;refine⟨_,rfl,ah (λI=>⟨?_,R⟩) (λI=>?_)⟩
 ·rw[not_eq_true']at I;unfold cL;rw[I];simp
 rw[not_eq_false']at I;have hV:cL M=tp M.kind n 0 M.ak:=by
  unfold cL;rw[I,decide_eq_true (show 1<=M.kind by omega),decide_eq_true (show M.kind<=3 by omega),decide_eq_true (show 1<=M.ak.length by omega),decide_eq_true (show M.ak.length<=3000 by omega),decide_eq_true (show 0<=M.start by omega),decide_eq_true (show M.start<M.ak.length by omega),Y];rfl
 obtain⟨V,S⟩:∃V,V=tp M.kind n 0 M.ak:=⟨_,rfl⟩
 rw[hV,<-S];refine⟨_,eJ _,_,_,_,O.l3,?_⟩;refine vL (bD M a n c) h.next a n c (ads h h.next M a n c V) (bQ h V) (λW i l=>?_) n (i:=0) (acc:=0) ⟨by omega,rfl,by omega,by omega,O,R,S.symm⟩;intros;rename_i gg hi;obtain⟨f1,Z,f3,f4,Q,G,d⟩:=hi;refine ah (λH=>?_) (λH=>?_)
 ·have H:=dT H;obtain⟨s,t⟩:∃s,M.ak[i]?=some s:=⟨_,gE (by omega)⟩
  obtain⟨b,o,x,y,z,e1,e2,e3,e4,X⟩:=Q.row.at_ t;obtain⟨l1,l2,l3⟩:=wB q t;have hy:=X.len;rw[mf t]at d;unfold tp at d;obtain⟨u,p1,U,K⟩:=UK G.wf s.f x y z;refine⟨_,e1,_,e2,_,aaQ,u,p1,?_⟩;have e:=G.trans U;have L:=Q.ok U;have P:=X.ok U;generalize u.app (gg.push RO)=g3 at*;have hw:wrap .i64 (l+(y:Int))=l+(s.an.length:Int):=by rw[hy,aO (by omega) (by omega)]
  refine⟨_,iw _ _,_,_,_,K.l1,?_⟩;dsimp only;rw[hw];refine ah (λA=>⟨?_,e⟩) (λA=>?_)
  ·have A:=dT A;rw[<-d,decide_eq_false (show ¬l+(s.an.length:Int)<=30000 by omega)];simp
  have A:=dF A;rw[decide_eq_true (show l+(s.an.length:Int)<=30000 by omega),Bool.true_and]at d;refine⟨_,pn _ _,_,K.l0,ah (λm=>?_) (λm=>?_)⟩
  ·refine⟨_,tO _,_,L.l0,_,pn _ _,_,K.l0,(pO M.kind s.f l2 (N.ok e) e.wf).mono ?_⟩;rintro _ g4 ⟨rfl,B⟩;have m:(s.f==[])=false:=by simpa using m
   rw[m,Bool.false_or]at d;refine⟨_,rfl,ah (λE=>⟨?_,e.trans B⟩) (λE=>?_)⟩
   ·rw[not_eq_true']at E;rw[<-d,E];simp
   rw[not_eq_false']at E;rw[E,Bool.true_and]at d;refine⟨_,iw _ _,_,_,_,(K.ok B).l1,?_⟩;exact I8 w N q _ t (by omega) (by omega) (by omega) [] W Z y (j:=0) ⟨by omega,rfl,L.ok B,e.trans B,P.ok B,by rw[drop_zero];exact d⟩
  ·have m:(s.f==[])=true:=by simpa using m
   rw[m,Bool.true_or,Bool.true_and]at d;refine⟨_,iw _ _,_,_,_,K.l1,?_⟩;exact I8 w N q _ t (by omega) (by omega) (by omega) [] W Z y (j:=0) ⟨by omega,rfl,L,e,P,by rw[drop_zero];exact d⟩
 ·have H:=dF H;refine⟨?_,G⟩;rw[drop_eq_nil_of_le (by omega)]at d;rw[<-d];rfl
end
end
noncomputable def aaH:FD:=dY Tryz.f76 []
theorem WT(b:LV)(h:aa)(Q:VH)(d:xN (dp SS.P 46 (.agg ⟨b⟩)) h λi a=>xP (af SS.P 46 (pA (h.next)) 0) λf=>xI .i64 (ae SS.P 3 a (.pointer (some f))) λg=>xP (af SS.P 46 (pA (h.next)) 1) λc=>xI .i64 (ae SS.P 3 a (.pointer (some c))) λe=>Q (.bool (((g:Int)==e))) a):FW SS 76 [(.agg ⟨b⟩)] h Q:=eh aaH Tryz.func76 (av d)
noncomputable def aaR:FD:=dY Tryz.f124 []
theorem WY(c:LV)(k:Nat)(h:aa)(Q:VH)(f:xN (dp SS.P 46 (.agg ⟨c⟩)) h λm a=>xF (ae SS.P 130 a (pA k)) λb i l=>xA (ae SS.P 46 a (pA (h.next))) λj=>aS (Nat.blt b YB) (FW SS b (i++[(.agg ⟨j⟩)]++l) a λd e=>yB d λg=>Q (.bool (!g)) e) False):FW SS 124 [(.agg ⟨c⟩),(pA k)] h Q:=eh aaR Tryz.func124 (av f)
noncomputable def jN:FD:=dY Tryz.f162 [([1,0,1,0,0],[0,1,7,8])]
abbrev lF(b:OA)(m d k:Nat)(j:Nat):LV:=[(.slice b m d),(.func (.func 124) ⟨[]⟩ ⟨[(pA k)]⟩),(iA m),(iA j)]
theorem Lw(b:OA)(m d k:Nat)(h:aa)(Q:VH)(a:LL SS jN [1,0,1,0,0] [(.slice b m d),(.func (.func 124) ⟨[]⟩ ⟨[(pA k)]⟩),(iA m),(.int .i64 0)] h (KK SS jN [1,0,1,0] [] (EE SS jN Q))):FW SS 162 [(.slice b m d),(.func (.func 124) ⟨[]⟩ ⟨[(pA k)]⟩)] h Q:=eh jN Tryz.func162 (av a)
theorem tP(b:OA)(m d k:Nat)  (c:Nat->Nat->aa->Prop) (Q:VH) (step:∀(a:Nat)(j:Nat)(f:Nat->Value)(h:aa),c a j h->aS (decide (((j:Int):Int)<(m:Int))) (xP (ai SS.P 42 (.slice b m d) (iA j)) λo=>xA (ae SS.P 46 h (.pointer (some o))) λn=>FW SS 124 [(.agg ⟨n⟩),(pA k)] h λi g=>yB i λl=>aS l (Q (iA j) g) (aH (fD (lF b m d k) c) a [(.slice b m d),(.func (.func 124) ⟨[]⟩ ⟨[(pA k)]⟩),(iA m),(.int .i64 (wrap .i64 ((j:Int)+1)))] g)) (Q (.int .i64 (-1)) h)) (a:Nat) {j:Nat} {h:aa} (e:c a j h):LL SS jN [1,0,1,0,0] (lF b m d k j) h (KK SS jN [1,0,1,0] [] (EE SS jN Q)):=
 dN (lF b m d k) c (λa j f h e=>av (step a j f h e)) a e
noncomputable def Pn:FD:=dY Tryz.f123 []
theorem K8(b:OA)(m d k:Nat)(h:aa)(Q:VH)(c:FW SS 162 [(.slice b m d),(.func (.func 124) ⟨[]⟩ ⟨[(pA k)]⟩)] h λf e=>yI .i64 f λa=>Q (.bool (decide ((a:Int)>=0))) e):FW SS 123 [(.slice b m d),(.func (.func 124) ⟨[]⟩ ⟨[(pA k)]⟩)] h Q:=eh Pn Tryz.func123 (av c)
noncomputable def tV:FD:=dY Tryz.f75 [([1,1,0,1,0,0],[2,3,4,11,12,13])]
abbrev lT(k b:Nat)(a:OA)(n c:Nat)(i:Nat):LV:=[(pA k),(pA b),(.bool false),(.slice a n c),(iA n),(iA i)]
theorem YF(b:LV)(f:Nat)(h:aa)(Q:VH)(l:xN (dp SS.P 24 (.agg ⟨b⟩)) h λo c=>xN (dp SS.P 130 (.func (.func f) ⟨[]⟩ ⟨[]⟩)) c λp d=>xA (ae SS.P 24 d (pA (h.next))) λn=>FW SS 30 [(.agg ⟨n⟩)] d λj a=>yB j λk=>aS (!k) (Q (.bool false) a) (xP (af SS.P 24 (pA (h.next)) 3) λm=>xL (ae SS.P 22 a (.pointer (some m))) λe g i=>LL SS tV [1,1,0,1,0,0] (lT (h.next) (c.next) e g i 0) a (KK SS tV [1,1,0,1,0] [] (EE SS tV Q)))):FW SS 75 [(.agg ⟨b⟩),(.func (.func f) ⟨[]⟩ ⟨[]⟩)] h Q:=eh tV Tryz.func75 (av l)
theorem zH(z:LV)(f:Nat)(k e:Nat)(a:OA)(n c:Nat)(d:Nat->Nat->aa->Prop)(Q:VH)(step:∀(b:Nat) (i:Nat) (s:Nat->Value) (h:aa),d b i h->aS (decide (((i:Int):Int)<(n:Int))) (xP (ai SS.P 22 (.slice a n c) (iA i)) λu=>xA (ae SS.P 44 h (.pointer (some u))) λt=>xN (aA SS.P 44) h λy l=>xU (aj SS.P 44 (pA (h.next)) (.agg ⟨t⟩) l) l λx g=>xP (af SS.P 44 (pA (h.next)) 1) λq=>xL (ae SS.P 42 g (.pointer (some q))) λw v p=>FW SS 123 [(.slice w v p),(.func (.func 124) ⟨[]⟩ ⟨[(pA e)]⟩)] g λr j=>yB r λo=>aS o (Q (.bool false) j) (aH (fD (lT k e a n c) d) b [(pA k),(pA e),(.bool false),(.slice a n c),(iA n),(.int .i64 (wrap .i64 ((i:Int)+1)))] j)) (Q (.bool true) h))(b:Nat){i:Nat}{h:aa}(m:d b i h):LL SS tV [1,1,0,1,0,0] (lT k e a n c i) h (KK SS tV [1,1,0,1,0] [] (EE SS tV Q)):=
 dN (lT k e a n c) d (λb i s h m=>av (step b i s h m)) b m
noncomputable def abr:FD:=dY Tryz.f31 []
theorem YD(a:LV)(h:aa)(Q:VH)(e:xN (dp SS.P 24 (.agg ⟨a⟩)) h λi b=>xA (ae SS.P 24 b (pA (h.next))) λf=>FW SS 75 [(.agg ⟨f⟩),(.func (.func 76) ⟨[]⟩ ⟨[]⟩)] b λc g=>yB c λd=>Q (.bool d) g):FW SS 31 [(.agg ⟨a⟩)] h Q:=eh abr Tryz.func31 (av e)
variable{h:aa}{g:aa}{k:Nat}
section
def O0(t:bJ->Bool)(l:List fF):Bool:=l.all λs=>s.an.all t
def aaJ(q:bJ):Bool:=q.i==q.o
def RX(f:Nat)(t:bJ->Bool):Prop:=∀(q:bJ)(g:aa),Wf g->FW SS f [.agg ⟨gV q⟩] g (λv a=>v = .bool (t q)/\Ok g a)
def Bq(q:bJ):bu:= .cells (gV q) 46 0 true
theorem aaa(q:bJ):dp SS.P 46 (.agg ⟨gV q⟩)=some (Bq q,dR):=by kernel_rfl
theorem WU:RX 76 aaJ:=λq g w=>by
 have b:AB (g.push (Bq q)) g.next q:=aI g _;exact WT _ g _ ⟨_,aaa q,_,gj _ _,_,b.l0,_,xy _ _,_,b.l1,rfl,(Ok.refl w).push _⟩
noncomputable def ach:TypeDesc:=(SS.P.underlying 130).getD .bool
theorem aea:SS.P.underlying 130=some ach:=by kernel_rfl
theorem acw:Go.Ab.isAgg SS.P 130=false:=by kernel_rfl
def ZX(g:aa)(k f:Nat):Prop:=g.get k=some (.cells [CS f] 130 0 true)
theorem ZX.ok{f:Nat}(x:ZX h k f)(o:Ok h g):ZX g k f:=o.ext _ _ x
section
variable {f:Nat} {t:bJ->Bool} (hf:Nat.blt f YB=true) (ht:RX f t)
include hf ht
theorem WZ(q:bJ){k:Nat}{g:aa}(w:Wf g)(b:ZX g k f):FW SS 124 [.agg ⟨gV q⟩,.pointer (some ⟨k,0,none⟩)] g (λv a=>v = .bool (!t q)/\Ok g a):=by
 have o:=(Ok.refl w).push (Bq q);have c:=aI g (Bq q);refine WY _ k g _ ⟨_,aaa q,f,[],[],aR aea acw (b.ok o) (by simp),_,gG acm aaM OD c (by simp[gV]),?_⟩;refine D1 (K:=λv a=>(match v with|.bool x=>Value.bool (!x) = .bool (!t q)|_=>False)/\Ok g a) hf ((ht q _ o.wf).mono ?_);rintro _ e ⟨rfl,d⟩;exact⟨_,rfl,rfl,o.trans d⟩
theorem Lx(w:Wf h)(y:ZX h k f){b:Option Addr}{m d:Nat}{l:List bJ}(s:eT h (.slice b m d) l)(E:l.length<=2000):
  FW SS 162 [.slice b m d,.func (.func 124) ⟨[]⟩ ⟨[.pointer (some ⟨k,0,none⟩)]⟩] h (λv p=>∃n:Int,v = .int .i64 n/\decide (n>=0)=(!l.all t)/\Ok h p):=by
 have C:=s.len;refine Lw b m d k h _ (tP b m d k (λr j p=>j<=m/\r=m-j/\Ok h p/\(l.drop j).all t=l.all t) _ (λr j=>?_) m (j:=0) ⟨by omega,rfl,Ok.refl w,rfl⟩);intros;rename_i p A;obtain⟨F,H,c,a⟩:=A;refine ah (λe=>?_) (λe=>?_)
 ·have e:=dT e;obtain⟨q,u⟩:∃q,l[j]?=some q:=⟨_,gE (by omega)⟩
  obtain⟨I,o,z,B,G⟩:=(s.ok c).at_ u;rw[mf u,all_cons]at a;refine⟨_,z,_,B,(WZ hf ht q c.wf (y.ok c)).mono ?_⟩;rintro _ D ⟨rfl,x⟩;refine⟨_,rfl,ah (λg=>⟨_,rfl,?_,c.trans x⟩) (λg=>?_)⟩
  ·rw[not_eq_true']at g;rw[<-a,g];simp
  ·rw[not_eq_false']at g;rw[g,Bool.true_and]at a;rw[bA (i:=j) (n:=m) (by omega) (by omega)];exact cG (r-1) (by omega) ⟨by omega,by omega,c.trans x,a⟩
 ·have e:=dF e;refine⟨_,rfl,?_,c⟩;rw[drop_eq_nil_of_le (by omega)]at a;rw[<-a];rfl
theorem K9(w:Wf h)(c:ZX h k f){b:Option Addr}{m d:Nat}{l:List bJ}(e:eT h (.slice b m d) l)(g:l.length<=2000):
  FW SS 123 [.slice b m d,.func (.func 124) ⟨[]⟩ ⟨[.pointer (some ⟨k,0,none⟩)]⟩] h (λv a=>v = .bool (!l.all t)/\Ok h a):=by
 refine K8 b m d k h _ ((Lx hf ht w c e g).mono ?_);rintro _ j ⟨n,rfl,i,o⟩;exact⟨_,rfl,by rw[i],o⟩
theorem YG(Z:rK h)(w:Wf h){M:aG}(J:Small M){a:Option Addr}{n c:Nat}(r:ey h (.slice a n c) M.ak):FW SS 75 [.agg ⟨bD M a n c⟩,CS f] h (λv W=>v = .bool (cL M&&O0 t M.ak)/\Ok h W):=by
 obtain⟨Q,D⟩:=nT w r;refine YF (bD M a n c) f h _ ⟨_,oy M a n c,.cells [CS f] 130 0 true,by kernel_rfl,?_⟩;generalize h.push (Bm M a n c)=e at*;have P:=(Ok.refl D.wf).push (.cells [CS f] 130 0 true);have S:ZX (e.push (.cells [CS f] 130 0 true)) e.next f:=aI e _;have C:=Q.ok P;have N:=D.trans P;generalize e.push (.cells [CS f] 130 0 true)=g at*;refine⟨_,C.all,(rW (Z.ok N) N.wf J C.row).mono ?_⟩;rintro _ g2 ⟨rfl,L⟩;have F:=N.trans L;have E:=C.ok L;have R:=S.ok L;have hn:n<=300:=by rw[C.len];exact J.RL
 refine⟨_,rfl,ah (λq=>⟨?_,F⟩) (λq=>?_)⟩
 ·rw[not_eq_true']at q;rw[q];rfl
 rw[not_eq_false']at q;rw[q,Bool.true_and];refine⟨_,eJ _,_,_,_,E.l3,?_⟩;obtain⟨V,O⟩:∃V,V=O0 t M.ak:=⟨_,rfl⟩
 rw[<-O];refine zH (bD M a n c) f h.next e.next a n c (λI i H=>i<=n/\I=n-i/\MB H h.next M a n c/\ZX H e.next f/\Ok h H/\O0 t (M.ak.drop i)=V) (bQ h V) (λI i=>?_) n (i:=0) ⟨by omega,rfl,E,R,F,O.symm⟩;intros;rename_i gg Y;obtain⟨f1,f2,p,G,m,d⟩:=Y;have hl:=p.len;refine ah (λA=>?_) (λA=>?_)
 ·have A:=dT A;obtain⟨s,K⟩:∃s,M.ak[i]?=some s:=⟨_,gE (by omega)⟩
  obtain⟨b,o,x,y,z,U,e2,e3,e4,T⟩:=p.row.at_ K;obtain⟨X,l2,l3⟩:=wB J K;rw[mf K]at d;unfold O0 at d;rw[all_cons]at d;obtain⟨u,p1,j,p3⟩:=UK m.wf s.f x y z;refine⟨_,U,_,e2,_,aaQ,u,p1,_,iw _ _,_,_,_,p3.l1,?_⟩;have l:=m.trans j;refine(K9 hf ht l.wf (G.ok j) (T.ok j) X).mono ?_;rintro _ g4 ⟨rfl,B⟩;refine⟨_,rfl,ah (λk=>⟨?_,l.trans B⟩) (λk=>?_)⟩
  ·rw[not_eq_true']at k;rw[<-d,k];rfl
  ·rw[not_eq_false']at k;rw[k,Bool.true_and]at d;rw[bA (i:=i) (n:=n) (by omega) (by omega)];exact cG (I-1) (by omega) ⟨by omega,by omega,(p.ok j).ok B,(G.ok j).ok B,l.trans B,d⟩
 ·have A:=dF A;refine⟨?_,m⟩;rw[drop_eq_nil_of_le (by omega)]at d;rw[<-d];rfl
end
def aaI(M:aG):Bool:=cL M&&O0 aaJ M.ak
theorem YE(i:rK h)(w:Wf h){M:aG}(e:Small M){a:Option Addr}{n c:Nat}(r:ey h (.slice a n c) M.ak):FW SS 31 [.agg ⟨bD M a n c⟩] h (λv f=>v = .bool (aaI M)/\Ok h f):=by
 obtain⟨d,b⟩:=nT w r;refine YD _ h _ ⟨_,oy M a n c,_,d.all,(YG (by decide +kernel) WU (i.ok b) b.wf e d.row).mono ?_⟩;rintro _ g ⟨rfl,o⟩;exact⟨_,rfl,rfl,b.trans o⟩
end
section
section
variable {h:aa} {k:Nat} {M:aG} {a:Option Addr} {n c:Nat}
def iQ(h:aa)(V:Int):VH:=λv a=>v = .int .i64 V/\Ok h a
end
end
section
theorem si(s:fF)(l:List fF):mX (s::l)=s.an.length+mX l:=by simp[mX]
theorem OC{B:Nat}:∀{l:List fF},(∀s∈l,s.an.length<=B)->mX l<=l.length*B
 |[],_=>by simp[mX]
 |x::l,h=>by
  rw[si,length_cons,add_mul,one_mul];have b:=h x (mem_cons_self ..);have c:=OC (l:=l) λs a=>h s (List.mem_cons_of_mem _ a);omega
def Bnd(M:aG):Prop:=∀s∈M.ak,s.an.length<=281474976710656
section
variable {h:aa} {k:Nat} {M:aG} {a:Option Addr} {n c:Nat}
theorem UO(w:Wf h)(D:Bnd M)(t:M.ak.length<=300)(r:ey h (.slice a n c) M.ak):FW SS 23 [.agg ⟨bD M a n c⟩] h (λv E=>v = .int .i64 (mX M.ak:Nat)/\Ok h E):=by
 obtain⟨x,I⟩:=nT w r;refine UN (bD M a n c) h _ ⟨_,oy M a n c,?_⟩;generalize h.push (Bm M a n c)=g at*;have J:=x.len;have C:=OC D;have u:M.ak.length*281474976710656<=300*281474976710656:=mul_le_mul_right _ t;have P:mX M.ak<=300*281474976710656:=Nat.le_trans C u;refine xY (bD M a n c) h.next (λm i f p=>i<=n/\m=n-i/\MB p h.next M a n c/\Ok h p/\∃j:Nat,f=(j:Int)/\j+mX (M.ak.drop i)=mX M.ak) (iQ h (mX M.ak:Nat)) (λm i f=>?_) n (i:=0) (acc:=0) ⟨by omega,rfl,x,I,0,rfl,by rw[drop_zero];omega⟩;intros;rename_i N H;obtain⟨R,O,d,l,j,rfl,k⟩:=H;refine⟨_,eJ _,_,_,_,d.l3,ah (λe=>?_) (λe=>?_)⟩
 ·have e:=dT e;obtain⟨s,q⟩:∃s,M.ak[i]?=some s:=⟨_,gE (by omega)⟩
  obtain⟨b,o,K,y,z,B,Q,L,F,A⟩:=d.row.at_ q;have S:=A.len;rw[mf q,si]at k;refine⟨_,eJ _,_,_,_,d.l3,_,B,_,iw _ _,_,_,_,F,?_⟩;have G:wrap .i64 ((j:Int)+(y:Int))=((j+y:Nat):Int):=by rw[aO (by omega) (by omega)];omega
  dsimp only;rw[G,bA (i:=i) (n:=n) (by omega) (by omega)];exact ju (m-1) (by omega) ⟨by omega,by omega,d,l,_,rfl,by omega⟩
 ·have e:=dF e;rw[drop_eq_nil_of_le (by omega)]at k;refine⟨?_,l⟩;rw[show mX []=0 from rfl,Nat.add_zero]at k;rw[k]
end
end
variable{z:Int}{n:Nat}{D:bJ}{M:aG}
theorem EV{a:Int}{N:Nat}:∀{l:List fF}{c:Int},tp a N c l=true->∀s∈l,(s.f==[]||cY a s.f)=true/\∀q∈s.an,qe a N q=true
 |[],_,_,s,b=>by cases b
 |x::l,c,h,s,b=>by
  unfold tp at h;simp only[and_eq_true]at h;obtain⟨⟨⟨i,f⟩,d⟩,g⟩:=h;rcases mem_cons.1 b with rfl|b
  ·exact⟨f,λq e=>all_eq_true.1 d q e⟩
  ·exact EV g s b
structure Hx(N:Nat)(q:bJ):Prop where
 i0:0<=q.i
 i1:q.i<=500
 o0:0<=q.o
 o1:q.o<=500
 t0:0<=q.t
 t1:q.t<N
theorem Sf(h:qe z n D=true):Hx n D:=by
 unfold qe EW at h;simp only[and_eq_true,decide_eq_true_eq]at h;obtain⟨⟨⟨⟨⟨b,c⟩,a,d⟩,f⟩,e⟩,g⟩:=h;exact⟨b,c,a,d,f,e⟩
structure Good(M:aG):Prop where
 ob:0<=M.start
 rA:M.start<M.ak.length
 an:∀s∈M.ak,∀q∈s.an,Hx M.ak.length q
theorem rD(h:cL M=true):Good M:=by
 unfold cL at h;simp only[and_eq_true,decide_eq_true_eq]at h;obtain⟨⟨⟨⟨⟨⟨⟨g,i⟩,f⟩,k⟩,e⟩,d⟩,j⟩,a⟩:=h;exact⟨e,d,λs b q c=>Sf ((EV a s b).2 q c)⟩
variable{m:Nat}{b:Bool}
theorem Q9:SS.P.underlying 68=some (.slice 4):=by kernel_rfl
theorem ab0:au SS.P 4=some 1:=by kernel_rfl
noncomputable def ti4:TypeInfo:=(SS.P.info? 4).getD default
theorem ab8:SS.P.info? 4=some ti4:=by kernel_rfl
theorem VX:ti4.size=1:=by kernel_rfl
theorem Rq:ti4.bytes=1:=by kernel_rfl
theorem aep:zeroOf SS.P 4=some (.bool false):=by kernel_rfl
theorem adA(n:Nat)(a:n<=100000):aX SS.P 68 (.int .i64 (n:Int)) (.int .i64 (n:Int))=some (.cells ((List.replicate n false).map Value.bool) 4 1 true,jE n n):=by
 unfold aX aT;dsimp only;rw[Q9]
 try dsimp only
 change (match SS.P.info? 4,zeroOf SS.P 4 with
  |some i,some z=>(if z.cells.size=i.size/\0<i.size/\(0:Int)<=(n:Int)/\(n:Int)<=(n:Int)/\(n:Int)*i.bytes<=140737488355328/\(n:Int)<=1099511627776 then some (bu.cells (bO z.cells.toList (n:Int).toNat) 4 i.size true,λk=>Value.slice (some ⟨k,0,none⟩) (n:Int).toNat (n:Int).toNat)else none)
  |_,_=>none)=_
 rw[ab8,aep];dsimp only;rw[VX,Rq,if_pos ⟨rfl,by omega,by omega,Int.le_refl _,by omega,by omega⟩];have e:((n:Int)).toNat=n:=by omega
 rw[e,show(Value.bool false).cells.toList=[Value.bool false]from rfl,lA,map_replicate];rfl
structure BR(hb:aa)(kt N:Nat)(L:List Bool)(g:aa):Prop where
 len:L.length=N
 row:uE hb kt 4 (L.map Value.bool) g
theorem BR.trans{L:List Bool}{a:aa}(b:BR h n m L g)(o:Ok g a):BR h n m L a:=⟨b.len,b.row.trans o⟩
theorem BR.get{c:Nat}{L:List Bool}(i:BR h n m L g){x:Int}(l:0<=x)(j:x<m):ai SS.P 68 (.slice (some ⟨n,0,none⟩) m c) (.int .i64 x)=some (.pointer (some ⟨n,x.toNat,none⟩))/\ae SS.P 4 g (.pointer (some ⟨n,x.toNat,none⟩))=some (.bool (L.getD x.toNat false))/\
  ∀b:Bool,Wf h->∃u:bp,aj SS.P 4 (.pointer (some ⟨n,x.toNat,none⟩)) (.bool b) g=some (undef,u)/\BR h n m (L.set x.toNat b) (u.app g)/\(∀a B,g.get a=some B->a≠n->(u.app g).get a=some B):=by
 have e:0+x.toNat*1=x.toNat:=by omega
 have d:x.toNat<L.length:=by rw[i.len];omega
 refine⟨by rw[<-e];exact FU Q9 ab0 l j,?_,?_⟩
 ·rw[aR un4 ag4 i.row.row (by rw[lM];exact d),gD,getElem?_map,gD,gE d];rfl
 ·intro b w;refine⟨_,bG ab0 i.row.row (by rw[lM];exact d) rfl rfl,⟨by rw[length_set];exact i.len,?_⟩,λa B k f=>?_⟩
  ·have:=i.row.set w x.toNat (.bool b);rw[Zt Value.bool L x.toNat b]at this⊢;exact this
  ·show(g.set n _).get a=_;rw[aa.ay,if_neg f];exact k
theorem BR.new(w:Wf h)(n:Nat):BR h h.next n (List.replicate n false) (h.push (.cells ((List.replicate n false).map Value.bool) 4 1 true)):=
 ⟨length_replicate,aI h _,Nat.le_refl _,(Ok.refl w).push _⟩
theorem Lt{L:List Bool}{x:Nat}(a:x<L.length):(L.set x b).getD n false=if n=x then b else L.getD n false:=by
 rw[gD,getElem?_set,gD];split
 ·next e=>subst e;simp
 ·next e=>rw[if_neg (λc=>e c.symm)]
noncomputable def ZN:FD:=dY Tryz.f173 []
theorem Wi(s:Int)(e d:Nat)(h:aa)(Q:VH)(r:xL (ae SS.P 68 h (pA e)) λy p v=>xP (ai SS.P 68 (.slice y p v) (.int .i64 s)) λx=>xB (ae SS.P 4 h (.pointer (some x))) λu=>aS (!u) (xL (ae SS.P 68 h (pA e)) λq w t=>xP (ai SS.P 68 (.slice q w t) (.int .i64 s)) λz=>xU (aj SS.P 4 (.pointer (some z)) (.bool true) h) h λC a=>xL (ae SS.P 27 a (pA d)) λi k m=>xR (az SS.P 27 1 [(0,(.int .i64 s))]) a λD j f b=>xE (aJ SS.P 27 27 (.slice i k m) (sA (a.next) j f) b) b λn o g B c=>xU (aj SS.P 27 (pA d) (.slice n o g) c) c λA l=>Q (.tuple ⟨[]⟩) l) (Q (.tuple ⟨[]⟩) h)):FW SS 173 [(.int .i64 s),(pA e),(pA d)] h Q:=eh ZN Tryz.func173 (av r)
noncomputable def YQ:FD:=dY Tryz.f133 []
theorem Ue(s:Int)(k:Nat)(h:aa)(Q:VH)(c:xL (ae SS.P 126 h (pA k)) λi a e=>xP (ai SS.P 126 (.slice i a e) (.int .i64 s)) λg=>xL (ae SS.P 27 h (.pointer (some g))) λf d b=>Q (.slice f d b) h):FW SS 133 [(.int .i64 s),(pA k)] h Q:=eh YQ Tryz.func133 (av c)
noncomputable def YR:FD:=dY Tryz.f134 []
theorem Ug(s:Int)(k:Nat)(h:aa)(Q:VH)(c:xL (ae SS.P 126 h (pA k)) λi a e=>xP (ai SS.P 126 (.slice i a e) (.int .i64 s)) λg=>xL (ae SS.P 27 h (.pointer (some g))) λf d b=>Q (.slice f d b) h):FW SS 134 [(.int .i64 s),(pA k)] h Q:=eh YR Tryz.func134 (av c)
noncomputable def cA:FD:=dY Tryz.f132 [([1,1,1,1,0,1,0,0],[0,1,2,7,8,9,18,19,20]),([1,1,1,1,1,0,0,0],[0,1,2,7,8,9]),([1,1,1,1,1,0,0,0,1,0,1,1,1,0,0],[0,1,2,7,8,9,44,45,46])]
abbrev mU(N:Int)(a:OA)(n c f e d b:Nat)(i:Nat):LV:=[(.int .i64 N),(.slice a n c),(.func (.func f) ⟨[]⟩ ⟨[(.pointer (some ⟨e,0,none⟩))]⟩),(pA d),(pA b),(.func (.func 173) ⟨[]⟩ ⟨[(pA d),(pA b)]⟩),(.slice a n c),(iA n),(iA i)]
abbrev hZ(N:Int)(a:OA)(n c f e d b:Nat)(g:Nat):LV:=[(.int .i64 N),(.slice a n c),(.func (.func f) ⟨[]⟩ ⟨[(.pointer (some ⟨e,0,none⟩))]⟩),(pA d),(pA b),(.func (.func 173) ⟨[]⟩ ⟨[(pA d),(pA b)]⟩)]
abbrev mV(N:Int)(a:OA)(n c f h g e:Nat)(b:OA)(m d:Nat)(j:Nat):LV:=[(.int .i64 N),(.slice a n c),(.func (.func f) ⟨[]⟩ ⟨[(.pointer (some ⟨h,0,none⟩))]⟩),(pA g),(pA e),(.func (.func 173) ⟨[]⟩ ⟨[(pA g),(pA e)]⟩),(.slice b m d),(iA m),(iA j)]
theorem Q7(N:Int)(a:OA)(n c f g:Nat)(h:aa)(Q:VH)(k:xR (aX SS.P 68 (.int .i64 N) (.int .i64 N)) h λm j l b=>xN (aA SS.P 68) b λq e=>xU (aj SS.P 68 (pA (b.next)) (sA (h.next) j l) e) e λp d=>xN (aA SS.P 27) d λo i=>LL SS cA [1,1,1,1,0,1,0,0] [(.int .i64 N),(.slice a n c),(.func (.func f) ⟨[]⟩ ⟨[(.pointer (some ⟨g,0,none⟩))]⟩),(pA (b.next)),(pA (d.next)),(.func (.func 173) ⟨[]⟩ ⟨[(pA (b.next)),(pA (d.next))]⟩),(.slice a n c),(iA n),(.int .i64 0)] i (KK SS cA [1,1,1,1,0,1,0] [] (EE SS cA Q))):FW SS 132 [(.int .i64 N),(.slice a n c),(.func (.func f) ⟨[]⟩ ⟨[(.pointer (some ⟨g,0,none⟩))]⟩)] h Q:=eh cA Tryz.func132 (av k)
theorem wq(N:Int)(a:OA)(n c f j:Nat)(d b:Nat)(g:Nat->Nat->aa->Prop)(Q:VH)(step:∀(e:Nat) (i:Nat) (l:Nat->Value) (h:aa),g e i h->aS (decide (((i:Int):Int)<(n:Int))) (xP (ai SS.P 27 (.slice a n c) (iA i)) λo=>xI .i64 (ae SS.P 3 h (.pointer (some o))) λm=>FW SS 173 [(.int .i64 m),(pA d),(pA b)] h λp q=>p=(.tuple ⟨[]⟩)/\aH (fD (mU N a n c f j d b) g) e [(.int .i64 N),(.slice a n c),(.func (.func f) ⟨[]⟩ ⟨[(.pointer (some ⟨j,0,none⟩))]⟩),(pA d),(pA b),(.func (.func 173) ⟨[]⟩ ⟨[(pA d),(pA b)]⟩),(.slice a n c),(iA n),(.int .i64 (wrap .i64 ((i:Int)+1)))] q) (LL SS cA [1,1,1,1,1,0,0,0] [(.int .i64 N),(.slice a n c),(.func (.func f) ⟨[]⟩ ⟨[(.pointer (some ⟨j,0,none⟩))]⟩),(pA d),(pA b),(.func (.func 173) ⟨[]⟩ ⟨[(pA d),(pA b)]⟩)] h (KK SS cA [1,1,1,1,1,0,0] [] (EE SS cA Q))))(e:Nat){i:Nat}{h:aa}(k:g e i h):LL SS cA [1,1,1,1,0,1,0,0] (mU N a n c f j d b i) h (KK SS cA [1,1,1,1,0,1,0] [] (EE SS cA Q)):=
 dN (mU N a n c f j d b) g (λe i l h k=>av (step e i l h k)) e k
theorem wu(N:Int)(a:OA)(n c f j:Nat)(i b:Nat)(e:Nat->Nat->aa->Prop)(Q:VH)(step:∀(d:Nat) (g:Nat) (G:Nat->Value) (h:aa),e d g h->xL (ae SS.P 27 h (pA b)) λM q K=>aS (decide (((q:Int):Int)>0)) (xL (ae SS.P 27 h (pA b)) λw A y=>xL (ae SS.P 27 h (pA b)) λP J L=>xP (ai SS.P 27 (.slice w A y) (.int .i64 (wrap .i64 ((J:Int)-1)))) λE=>xI .i64 (ae SS.P 3 h (.pointer (some E))) λp=>xL (ae SS.P 27 h (pA b)) λm B z=>xL (ae SS.P 27 h (pA b)) λO t R=>xL (bE SS.P 27 (.slice m B z) none (some (.int .i64 (wrap .i64 ((t:Int)-1)))) none h) λv s x=>xU (aj SS.P 27 (pA b) (.slice v s x) h) h λS u=>aS (Nat.blt f YB) (FW SS f ([]++[(.int .i64 p)]++[(.pointer (some ⟨j,0,none⟩))]) u λC H=>yL C λo k r=>LL SS cA [1,1,1,1,1,0,0,0,1,0,1,1,1,0,0] [(.int .i64 N),(.slice a n c),(.func (.func f) ⟨[]⟩ ⟨[(.pointer (some ⟨j,0,none⟩))]⟩),(pA i),(pA b),(.func (.func 173) ⟨[]⟩ ⟨[(pA i),(pA b)]⟩),(.slice o k r),(iA k),(.int .i64 0)] H (KK SS cA [1,0,1,1,1,0] [1,1,1,1,1,0,0,0] (RR cA [1,1,1,1,1,0,0,0] (fD (hZ N a n c f j i b) e) d (KK SS cA [1,1,1,1,1,0,0] [] (EE SS cA Q))))) False) (xL (ae SS.P 68 h (pA i)) λF I D=>Q (.slice F I D) h))(d:Nat){g:Nat}{h:aa}(l:e d g h):LL SS cA [1,1,1,1,1,0,0,0] (hZ N a n c f j i b g) h (KK SS cA [1,1,1,1,1,0,0] [] (EE SS cA Q)):=
 dN (hZ N a n c f j i b) e (λd g G h l=>av (step d g G h l)) d l
theorem wv(N:Int)(a:OA)(n c f l:Nat)(i g:Nat)(b:OA)(m d:Nat)(o:Nat->Nat->aa->Prop)(p:Nat)(k:Nat->Nat->aa->Prop)(Q:VH)(step:∀(e:Nat) (j:Nat) (t:Nat->Value) (h:aa),k e j h->aS (decide (((j:Int):Int)<(m:Int))) (xP (ai SS.P 27 (.slice b m d) (iA j)) λu=>xI .i64 (ae SS.P 3 h (.pointer (some u))) λs=>FW SS 173 [(.int .i64 s),(pA i),(pA g)] h λr v=>r=(.tuple ⟨[]⟩)/\aH (fD (mV N a n c f l i g b m d) k) e [(.int .i64 N),(.slice a n c),(.func (.func f) ⟨[]⟩ ⟨[(.pointer (some ⟨l,0,none⟩))]⟩),(pA i),(pA g),(.func (.func 173) ⟨[]⟩ ⟨[(pA i),(pA g)]⟩),(.slice b m d),(iA m),(.int .i64 (wrap .i64 ((j:Int)+1)))] v) (aH (fD (hZ N a n c f l i g) o) p [(.int .i64 N),(.slice a n c),(.func (.func f) ⟨[]⟩ ⟨[(.pointer (some ⟨l,0,none⟩))]⟩),(pA i),(pA g),(.func (.func 173) ⟨[]⟩ ⟨[(pA i),(pA g)]⟩)] h))(e:Nat){j:Nat}{h:aa}(q:k e j h):LL SS cA [1,1,1,1,1,0,0,0,1,0,1,1,1,0,0] (mV N a n c f l i g b m d j) h (KK SS cA [1,0,1,1,1,0] [1,1,1,1,1,0,0,0] (RR cA [1,1,1,1,1,0,0,0] (fD (hZ N a n c f l i g) o) p (KK SS cA [1,1,1,1,1,0,0] [] (EE SS cA Q)))):=
 dN (mV N a n c f l i g b m d) k (λe j t h q=>av (step e j t h q)) e q
variable{v:Value}{a:Option Addr}
section
theorem Vq{a g:aa}(h:Wf a)(i:Ok a g){v:Value}{d:List Value}(o:iu a g 3 v d){z:Int}{f:Nat}(e:g.get f=some (.cells [.int .i64 z] 3 1 true))(k:d.length<=100000):
  ∃(b:Option Addr)(n c:Nat)(u:bp),aJ SS.P 27 27 v (.slice (some ⟨f,0,none⟩) 1 1) g=some (.slice b n c,u)/\n=d.length+1/\iu a (u.app g) 3 (.slice b n c) (d++[.int .i64 z])/\Ok a (u.app g)/\
   (∀j B,g.get j=some B->bZ v≠some j->(u.app g).get j=some B)/\
   (∀j,bZ (.slice b n c)=some j->g.next<=j\/bZ v=some j)/\g.next<=(u.app g).next:=
 iu.snoc cO rk lj h i o rfl e (by rw[jd];omega) (by omega)
theorem ej:au SS.P 27=some 1:=by kernel_rfl
theorem ad0:au SS.P 68=some 1:=by kernel_rfl
theorem gM:Go.Ab.isAgg SS.P 27=false:=by kernel_rfl
theorem aaN:Go.Ab.isAgg SS.P 68=false:=by kernel_rfl
theorem jg:SS.P.underlying 126=some (.slice 27):=by kernel_rfl
theorem MT:au SS.P 126=some 1:=by kernel_rfl
theorem ox:Go.Ab.isAgg SS.P 126=false:=by kernel_rfl
theorem aV(a:Option Addr)(n c:Nat):bw (.slice a n c)=true:=by cases a<;>rfl
def wO(g:aa)(k:Nat)(t:TypeId)(v:Value):Prop:=g.get k=some (.cells [v] t 0 true)
theorem wO.ok{g a:aa}{t:TypeId}(b:wO g k t v)(o:Ok g a):wO a k t v:=o.ext _ _ b
theorem wO.ld{g:aa}{t:TypeId}{d:TypeDesc}(c:SS.P.underlying t=some d)(a:Go.Ab.isAgg SS.P t=false)(b:wO g k t v):ae SS.P t g (.pointer (some ⟨k,0,none⟩))=some v:=aR c a b (by simp)
theorem wO.st{g:aa}{t:TypeId}(d:au SS.P t=some 1)(b:wO g k t v){a:Value}(c:bw a=true)(e:a.cells = #[a]):aj SS.P t (.pointer (some ⟨k,0,none⟩)) a g=some (undef,.set k (.cells [a] t 0 true)):=bG d b (by simp) c e
structure ZZ(h:aa)(k7 k8 kt N:Nat)(L:List Bool)(T:List Nat)(g:aa):Prop where
 b7:wO g k7 68 (.slice (some ⟨kt,0,none⟩) N N)
 b8:∃tv,wO g k8 27 tv/\iu h g 3 tv (T.map iv)/\bZ tv≠some kt/\bZ tv≠some k7/\bZ tv≠some k8
 row:BR h kt N L g
 n7:h.next<=k7
 n8:h.next<=k8
 d1:k7≠kt
 d2:k8≠kt
 d3:k7≠k8
section
variable {h:aa} {k7 k8 kt N:Nat} {L:List Bool} {T:List Nat} {g:aa}
theorem Wj(w:Wf h)(a:ZZ h k7 k8 kt N L T g){s:Nat}(hs:s<N)(hT:T.length<=100000):
  FW SS 173 [.int .i64 (s:Int),.pointer (some ⟨k7,0,none⟩),.pointer (some ⟨k8,0,none⟩)] g (λv K=>v = .tuple ⟨[]⟩/\((L.getD s false=true/\ZZ h k7 k8 kt N L T K)\/(L.getD s false=false/\ZZ h k7 k8 kt N (L.set s true) (T++[s]) K))):=by
 obtain⟨X,t1,Z,I,Q,H⟩:=a.b8;obtain⟨E,U,M⟩:=a.row.get (c:=N) (x:=(s:Int)) (by omega) (by omega);rw[toNat_natCast]at E U M;refine Wi s k7 k8 g _ ⟨_,_,_,a.b7.ld Q9 aaN,_,E,_,U,ah (λq=>?_) (λq=>?_)⟩
 ·rw[not_eq_true']at q;obtain⟨u,s1,o,F⟩:=M true w;refine⟨_,_,_,a.b7.ld Q9 aaN,_,E,u,s1,?_⟩;have A:wO (u.app g) k7 68 (.slice (some ⟨kt,0,none⟩) N N):=F _ _ a.b7 a.d1;have r:wO (u.app g) k8 27 X:=F _ _ t1 a.d2;have S:iu h (u.app g) 3 X (T.map iv):=Z.jO λj B t G=>F j B G (λe=>I (by rw[t,e]));generalize u.app g=m at*;obtain⟨ta,tc,rfl⟩:=S.oa;rw[lM]at*;refine⟨_,_,_,r.ld cO gM,?_⟩;have f:=o.row.ok;have p:=(Ok.refl f.wf).push (.cells [.int .i64 (s:Int)] 3 1 true);have hk:=aI m (.cells [.int .i64 (s:Int)] 3 1 true);obtain⟨b,l,i,C,a1,a2,a3,V,J,a6,a7⟩:=Vq w (f.trans p) (S.ok p) hk (by rw[lM];exact hT);refine⟨_,_,_,tG _,b,l,i,C,a1,?_⟩;have D:=J _ _ (A.ok p) Q;have n:wO (C.app (m.push (.cells [.int .i64 (s:Int)] 3 1 true))) k8 27 _:=J _ _ (r.ok p) H;have W:=J _ _ (p.ext _ _ o.row.row) I;have x0:m.next<=(m.push (.cells [.int .i64 (s:Int)] 3 1 true)).next:=Nat.le_succ _;have Y:=f.wf _ _ A;have O:=f.wf _ _ r;have lt:=o.row.lt;generalize m.push (.cells [.int .i64 (s:Int)] 3 1 true)=gp at*;generalize C.app gp=k at*;refine⟨_,n.st ej (aV _ _ _) rfl,rfl,.inr ⟨q,?_⟩⟩;have P:Ok h ((bp.set k8 (.cells [.slice b l i] 27 0 true)).app k):=V.set _ a.n8 (V.wf _ _ n) w;have d:∀j,j≠k8->((bp.set k8 (.cells [.slice b l i] 27 0 true)).app k).get j=k.get j:=λj t=>by
   show(k.set k8 _).get j=_;rw[aa.ay,if_neg t]
  have y:((bp.set k8 (.cells [.slice b l i] 27 0 true)).app k).get k8=some (.cells [.slice b l i] 27 0 true):=by
   show(k.set k8 _).get k8=_;rw[aa.ay,if_pos rfl]
  have z:∀j,bZ (.slice ta T.length tc)≠some j->j<m.next->bZ (.slice b l i)≠some j:=λj h1 h2 e=>by
   rcases a6 j e with R|R
   ·omega
   ·exact h1 R
  refine⟨?_,⟨_,y,?_,z _ I lt,z _ Q Y,z _ H O⟩,⟨o.len,?_,o.row.new,P⟩,a.n7,a.n8,a.d1,a.d2,a.d3⟩
  ·show _=_;rw[d _ a.d3];exact D
  ·rw[map_append];exact a3.jO λj B t G=>by rw[d j (λe=>z _ H O (by rw[t,e]))];exact G
  ·rw[d _ (λe=>a.d2 e.symm)];exact W
 ·rw[not_eq_false']at q;exact⟨rfl,.inl ⟨q,a⟩⟩
def Hv(g:aa)(a:Option Addr)(N c:Nat)(A:List (List Nat)):Prop:=A.length=N/\∃e:List Value,Rd g 27 (.slice a N c) e/\e.length=N/\∀(i:Nat)(l:List Nat),A[i]?=some l->∃(b:Option Addr)(m d:Nat),e[i]?=some (.slice b m d)/\Rd g 3 (.slice b m d) (l.map iv)
theorem Hv.ok{g e:aa}{N c:Nat}{A:List (List Nat)}(r:Hv g a N c A)(o:Ok g e):Hv e a N c A:=by
 obtain⟨n,f,p,j,q⟩:=r;exact⟨n,f,p.ok o,j,λi l k=>let⟨b,m,d,h,s⟩:=q i l k;⟨b,m,d,h,s.ok o⟩⟩
theorem Hv.Kr{h g:aa}{N c:Nat}{A:List (List Nat)}(r:Hv h a N c A)(o:Ok h g){i:Nat}{l:List Nat}(e:A[i]?=some l):
  ∃(p:Addr)(b:Option Addr)(m d:Nat),ai SS.P 126 (.slice a N c) (.int .i64 (i:Int))=some (.pointer (some p))/\ae SS.P 27 g (.pointer (some p))=some (.slice b m d)/\Rd h 3 (.slice b m d) (l.map iv):=by
 obtain⟨w,u,n,v,q⟩:=r;obtain⟨b,m,d,j,t⟩:=q i l e;have x:=(List.getElem?_eq_some_iff.1 e).1;obtain⟨p,s,f⟩:=(n.ok o).at_ jg ej cO gM (k:= .i64) (i:=(i:Int)) (by omega) (by omega);rw[toNat_natCast,gD,j]at f;exact⟨p,b,m,d,s,f,t⟩
def Ff(h:aa)(f c:Nat)(A:List (List Nat)):Prop:=Nat.blt f YB=true/\∀(g:aa),Ok h g->∀(s:Nat)(l:List Nat),A[s]?=some l->FW SS f [.int .i64 (s:Int),.pointer (some ⟨c,0,none⟩)] g (λv a=>∃(b:Option Addr)(m d:Nat),v = .slice b m d/\Rd h 3 (.slice b m d) (l.map iv)/\a=g)
theorem Uf{c:Nat}{A:List (List Nat)}(w:Wf h)(e:wO h n 126 (.slice a N c))(r:Hv h a N c A):Ff h 133 n A:=by
 refine⟨by decide +kernel,λg o s l i=>?_⟩;obtain⟨p,b,m,d,f,k,j⟩:=r.Kr o i;exact Ue s n g _ ⟨_,_,_,(e.ok o).ld jg ox,_,f,_,_,_,k,b,m,d,rfl,j,rfl⟩
theorem Uh{c:Nat}{A:List (List Nat)}(w:Wf h)(e:wO h n 126 (.slice a N c))(r:Hv h a N c A):Ff h 134 n A:=by
 refine⟨by decide +kernel,λg o s l i=>?_⟩;obtain⟨p,b,m,d,f,k,j⟩:=r.Kr o i;exact Ug s n g _ ⟨_,_,_,(e.ok o).ld jg ox,_,f,_,_,_,k,b,m,d,rfl,j,rfl⟩
def C3(A:List (List Nat))(y x:Nat):Prop:=x∈A.getD y []
end
end
section
theorem atG{h:aa}{a:Option Addr}{n c:Nat}{l:List Nat}(r:Rd h 3 (.slice a n c) (l.map iv)){i:Nat}{x:Nat}(d:l[i]?=some x):∃p:Addr,ai SS.P 27 (.slice a n c) (.int .i64 (i:Int))=some (.pointer (some p))/\ae SS.P 3 h (.pointer (some p))=some (.int .i64 (x:Int)):=by
 have f:=(List.getElem?_eq_some_iff.1 d).1;obtain⟨p,e,b⟩:=r.at_ cO wM lC lB (k:= .i64) (i:=(i:Int)) (by omega) (by rw[lM];omega);rw[toNat_natCast,gD,getElem?_map,d]at b;exact⟨p,e,b⟩
theorem UQ{h:aa}{a:Option Addr}{n c:Nat}{l:List Nat}(r:Rd h 3 (.slice a n c) (l.map iv)):n=l.length:=by have:=r.len;rwa[lM]at this
theorem Rm{T:List Nat}(h:0<T.length):∃s,T[T.length-1]?=some s/\(∀x∈T.take (T.length-1),x∈T)/\(∀x∈T,x∈T.take (T.length-1)\/x=s)/\s∈T:=by
 obtain⟨s,c⟩:∃s,T[T.length-1]?=some s:=⟨_,gE (by omega)⟩
 have e:T=T.take (T.length-1)++[s]:=by
  have a:(T.take (T.length-1+1))=T:=take_of_length_le (by omega);rw[take_add_one,c]at a;exact a.symm
 refine⟨s,c,λx b=>List.mem_of_mem_take b,λx b=>?_,List.mem_of_getElem? c⟩;rw[e]at b;rcases mem_append.1 b with a|a
 ·exact .inl a
 ·rw[mem_singleton]at a;exact .inr a
structure Sq(h:aa)(E:Nat->Nat->Prop)(F:List Nat)(k7 k8 kt N:Nat)(ex:Nat->Prop)(L:List Bool)(T:List Nat)(g:aa):Prop where
 st:ZZ h k7 k8 kt N L T g
 inv:jG E (· ∈F) N L T ex
 bd:2*jj L+T.length<=2*N
section
variable {h:aa} {E:Nat->Nat->Prop} {F:List Nat} {k7 k8 kt N:Nat} {ex:Nat->Prop} {L:List Bool} {T:List Nat} {g:aa}
theorem J2(w:Wf h)(o:N<=1000)(q:Sq h E F k7 k8 kt N ex L T g){s:Nat}(b:s<N)(l:iz E (· ∈F) s):
  FW SS 173 [.int .i64 (s:Int),.pointer (some ⟨k7,0,none⟩),.pointer (some ⟨k8,0,none⟩)] g (λv e=>v = .tuple ⟨[]⟩/\∃a i,Sq h E F k7 k8 kt N ex a i e/\(∀x,L.getD x false=true->a.getD x false=true)/\a.getD s false=true/\2*jj a+i.length<=2*jj L+T.length):=by
 have m:=q.bd;refine(Wj w q.st b (by omega)).mono ?_;rintro _ e ⟨rfl,⟨c,d⟩|⟨c,d⟩⟩
 ·exact⟨rfl,L,T,⟨d,q.inv,q.bd⟩,λ_ h=>h,c,Nat.le_refl _⟩
 ·obtain⟨j,n⟩:=q.inv.see b l c;have f:s<L.length:=by rw[q.inv.len];exact b
  refine⟨rfl,_,_,⟨d,j,?_⟩,λx k=>?_,?_,?_⟩
  ·rw[length_append,length_singleton];omega
  ·rw[kN f];split
   ·rfl
   ·exact k
  ·rw[kN f,if_pos rfl]
  ·rw[length_append,length_singleton];omega
theorem ZZ.put(w:Wf h)(a:ZZ h k7 k8 kt N L T g){o:List Nat}{b:Option Addr}{m d:Nat}(v:iu h g 3 (.slice b m d) (o.map iv))(r:∀i,wO g k8 27 i->bZ (.slice b m d)=bZ i):
  ∃u:bp,aj SS.P 27 (.pointer (some ⟨k8,0,none⟩)) (.slice b m d) g=some (undef,u)/\ZZ h k7 k8 kt N L o (u.app g)/\Ok h (u.app g):=by
 obtain⟨i,n,y,x,s,p⟩:=a.b8;have e:=r i n;refine⟨_,n.st ej (aV _ _ _) rfl,?_⟩;have q:=a.row.row.ok;have k:Ok h ((bp.set k8 (.cells [.slice b m d] 27 0 true)).app g):=q.set _ a.n8 (q.wf _ _ n) w;have f:∀j,j≠k8->((bp.set k8 (.cells [.slice b m d] 27 0 true)).app g).get j=g.get j:=λj l=>by
  show(g.set k8 _).get j=_;rw[aa.ay,if_neg l]
 refine⟨⟨?_,⟨.slice b m d,?_,v.jO λj B l t=>by rw[f j (λc=>p (by rw[<-e,l,c]))];exact t,by rw[e];exact x,by rw[e];exact s,by rw[e];exact p⟩,⟨a.row.len,?_,a.row.row.new,k⟩,a.n7,a.n8,a.d1,a.d2,a.d3⟩,k⟩
 ·show _=_;rw[f _ a.d3];exact a.b7
 ·show(g.set k8 _).get k8=_;rw[aa.ay,if_pos rfl]
 ·rw[f _ (λc=>a.d2 c.symm)];exact a.row.row.row
end
section
variable {h:aa} {N:Nat} {A:List (List Nat)} {f kn:Nat} {a:Option Addr} {n c:Nat} {F:List Nat} {k7 k8 kt:Nat}
def sI1(h:aa)(A:List (List Nat))(F:List Nat)(k7 k8 kt N n:Nat)(a i:Nat)(g:aa):Prop:=i<=n/\a=n-i/\∃L T,Sq h (C3 A) F k7 k8 kt N (λ_=>False) L T g/\∀x∈F.take i,L.getD x false=true
def sI2(h:aa)(A:List (List Nat))(F:List Nat)(k7 k8 kt N:Nat)(a b:Nat)(g:aa):Prop:=∃L T,Sq h (C3 A) F k7 k8 kt N (λ_=>False) L T g/\(∀x∈F,L.getD x false=true)/\2*jj L+T.length<=a
def sI3(h:aa)(A:List (List Nat))(F:List Nat)(k7 k8 kt N:Nat)(l:List Nat)(s m a:Nat)(b j:Nat)(g:aa):Prop:=j<=m/\b=m-j/\∃L T,Sq h (C3 A) F k7 k8 kt N (λy=>y=s) L T g/\(∀x∈F,L.getD x false=true)/\2*jj L+T.length+1<=a/\(∀z∈l.take j,L.getD z false=true)/\iz (C3 A) (· ∈F) s
def sQ(h:aa)(A:List (List Nat))(F:List Nat)(N:Nat):VH:=λv a=>∃kt L,v = .slice (some ⟨kt,0,none⟩) N N/\BR h kt N L a/\∀x,L.getD x false=true↔iz (C3 A) (· ∈F) x
set_option linter.defProp false in
def Zo(w:Wf h)(R:N<=1000)(D:∀l∈A,∀x∈l,x<N){s:Nat}{l:List Nat}(t:A[s]?=some l)(X:l.length<=100000){b:Option Addr}{m d:Nat}(I:Rd h 3 (.slice b m d) (l.map iv))(e:Nat)(Y:0<e):=
 wv (N:Int) a n c f kn k7 k8 b m d (sI2 h A F k7 k8 kt N) e (sI3 h A F k7 k8 kt N l s m e) (sQ h A F N) (by
  intro G j;intros;rename_i g E;obtain⟨f1,f2,L,T,q,J,W,C,K⟩:=E;have Z:=UQ I;refine ah (λk=>?_) (λk=>?_)
  ·have k:=dT k;obtain⟨x,v⟩:∃x,l[j]?=some x:=⟨_,gE (by omega)⟩
   obtain⟨p,O,U⟩:=atG (I.ok q.st.row.row.ok) v;have r:=List.mem_of_getElem? v;have u:C3 A s x:=by
    show x∈A.getD s [];rw[gD,t];exact r
   refine⟨_,O,_,U,(J2 w R q (D l (List.mem_of_getElem? t) x r) (.step K u)).mono ?_⟩;rintro _ g2 ⟨rfl,M,P,Q,H,S,h3⟩;refine⟨rfl,?_⟩;rw[bA (i:=j) (n:=m) (by omega) (by omega)];refine cG (G-1) (by omega) ⟨by omega,by omega,M,P,Q,λy V=>H y (J y V),by omega,λz o=>?_,K⟩;rw[take_add_one,v]at o;rcases mem_append.1 o with B|B
   ·exact H z (C z B)
   ·have:z=x:=by simpa using B
    rw[this];exact S
  ·have k:=dF k;rw[take_of_length_le (by omega)]at C;refine cG (e-1) (a:=0) (by omega) ⟨L,T,⟨q.st,q.inv.done λz u=>C z ?_,q.bd⟩,J,by omega⟩;have:z∈A.getD s []:=u;rw[gD,t]at this;exact this)
set_option linter.defProp false in
def Zp(w:Wf h)(W:N<=1000)(hA:A.length=N)(t:∀l∈A,∀x∈l,x<N)(M:∀l∈A,l.length<=100000)(I:Ff h f kn A):=
 wu (N:Int) a n c f kn k7 k8 (sI2 h A F k7 k8 kt N) (sQ h A F N) (by
  intro B dm;intros;rename_i g y;obtain⟨L,T,q,K,x0⟩:=y;obtain⟨tv,e,o,t3,t4,t5⟩:=q.st.b8;obtain⟨V,tc,k⟩:=o.oa;rw[lM]at k;subst k;refine⟨_,_,_,e.ld cO gM,ah (λi=>?_) (λi=>?_)⟩
  ·have i:=dT i;obtain⟨s,R,p1,Q,J⟩:=Rm (T:=T) (by omega);have hb:=q.bd;have E:wrap .i64 ((T.length:Int)-1)=((T.length-1:Nat):Int):=by rw[aO (by omega) (by omega)];omega
   obtain⟨p,P,e2⟩:=atG o.rd R;refine⟨_,_,_,e.ld cO gM,_,_,_,e.ld cO gM,p,by rw[E];exact P,_,e2,_,_,_,e.ld cO gM,_,_,_,e.ld cO gM,?_⟩;dsimp only;rw[E];obtain⟨b,m,d,x1,C,x3⟩:=o.upto cO wM (z:=T.length-1) (by rw[lM];omega) (by rw[lM];omega);rw[<-List.map_take]at C;obtain⟨u,Y,O,S⟩:=q.st.put w C (λD v=>by
    have:Value.slice V T.length tc=D:=by
     have:=e.symm.trans v;injection this with this;injection this with this;injection this with this
    rw[<-this];exact x3)
   refine⟨b,m,d,x1,u,Y,adX I.1 ?_⟩;have x4:=(q.inv.tin s J).1;obtain⟨l,r⟩:∃l,A[s]?=some l:=⟨_,gE (by omega)⟩
   refine(I.2 _ S s l r).mono ?_;rintro _ g2 ⟨Z,G,U,rfl,X,rfl⟩;refine⟨Z,G,U,rfl,?_⟩;have x5:(T.take (T.length-1)).length=T.length-1:=by rw[length_take];omega
   exact Zo w W t r (M l (List.mem_of_getElem? r)) X B (by omega) G (j:=0) ⟨by omega,by omega,L,T.take (T.length-1),⟨O,q.inv.take p1 Q,by omega⟩,K,by omega,λz H=>(by rw[take_zero]at H;cases H),q.inv.snd s (q.inv.tin s J).2⟩
  ·have i:=dF i;obtain rfl:T=[]:=List.eq_nil_of_length_eq_zero (by omega);exact⟨_,_,_,q.st.b7.ld Q9 aaN,kt,L,rfl,q.st.row,q.inv.final K⟩)
theorem EN(w:Wf h)(D:N<=1000)(Y:A.length=N)(y:∀l∈A,∀x∈l,x<N)(H:∀l∈A,l.length<=100000)(V:Ff h f kn A)(G:Rd h 3 (.slice a n c) (F.map iv))(X:∀x∈F,x<N)(x0:F.length<=100000):
  FW SS 132 [.int .i64 (N:Int),.slice a n c,.func (.func f) ⟨[]⟩ ⟨[.pointer (some ⟨kn,0,none⟩)]⟩] h (sQ h A F N):=by
 have m:=BR.new w N;have j:aA SS.P 68=some (.cells [.slice none 0 0] 68 0 true,dR):=by kernel_rfl
 have k:aA SS.P 27=some (.cells [.slice none 0 0] 27 0 true,dR):=by kernel_rfl
 refine Q7 (N:Int) a n c f kn h _ ⟨_,_,_,adA N (by omega),_,j,?_⟩;have t:=m.row.ok;have x1:=m.row.lt;have n0:=m.row.new;generalize h.push (.cells ((List.replicate N false).map Value.bool) 4 1 true)=d at*;have J:=(Ok.refl t.wf).push (.cells [.slice none 0 0] 68 0 true);have C:wO (d.push (.cells [.slice none 0 0] 68 0 true)) d.next 68 (.slice none 0 0):=aI d _;refine⟨_,C.st ad0 (aV _ _ _) rfl,_,k,?_⟩;obtain⟨o,B⟩:=mM (cs:=[.slice (some ⟨h.next,0,none⟩) N N]) t.wf J C (Nat.le_refl _);generalize (bp.set d.next (.cells [.slice (some ⟨h.next,0,none⟩) N N] 68 0 true)).app (d.push (.cells [.slice none 0 0] 68 0 true))=b at*;have E:=(Ok.refl o.wf).push (.cells [.slice none 0 0] 27 0 true);have Z:wO (b.push (.cells [.slice none 0 0] 27 0 true)) b.next 27 (.slice none 0 0):=aI b _;have l1:=o.nx;have l2:=o.wf _ _ B;have l0:=t.nx;have U:ZZ h d.next b.next h.next N (List.replicate N false) [] (b.push (.cells [.slice none 0 0] 27 0 true)):=
  ⟨wO.ok (show wO b d.next 68 _ from B) E,⟨_,Z,iu.nil _ _ _,by simp[bZ],by simp[bZ],by simp[bZ]⟩,(m.trans o).trans E,by omega,by omega,by omega,by omega,by omega⟩
 generalize b.push (.cells [.slice none 0 0] 27 0 true)=g2 at*;have hc:jj (List.replicate N false)=N:=by simp[jj]
 refine wq (N:Int) a n c f kn d.next b.next (sI1 h A F d.next b.next h.next N n) (sQ h A F N) (λK i=>?_) n (i:=0) ⟨by omega,rfl,_,_,⟨U,KF N _,by rw[hc];simp⟩,λx e=>(by rw[take_zero]at e;cases e)⟩;intros;rename_i gg S;obtain⟨f1,f2,L,T,q,v⟩:=S;have hn:=UQ G;refine ah (λg=>?_) (λg=>?_)
 ·have g:=dT g;obtain⟨x,e⟩:∃x,F[i]?=some x:=⟨_,gE (by omega)⟩
  obtain⟨p,M,W⟩:=atG (G.ok q.st.row.row.ok) e;have s:=List.mem_of_getElem? e;refine⟨_,M,_,W,(J2 w D q (X x s) (.base s)).mono ?_⟩;rintro _ g3 ⟨rfl,I,O,Q,P,R,h3⟩;refine⟨rfl,?_⟩;rw[bA (i:=i) (n:=n) (by omega) (by omega)];refine cG (K-1) (by omega) ⟨by omega,by omega,I,O,Q,λz r=>?_⟩;rw[take_add_one,e]at r;rcases mem_append.1 r with u|u
  ·exact P z (v z u)
  ·have:z=x:=by simpa using u
   rw[this];exact R
 ·have g:=dF g;rw[take_of_length_le (by omega)]at v;exact Zp w D Y y H V (2*jj L+T.length) (show sI2 _ _ _ _ _ _ _ _ 0 _ from ⟨L,T,q,v,Nat.le_refl _⟩)
end
end
variable{j:Nat}
section
theorem br{l:List A}{x y:A}(h:(l.set i x)[j]?=some y):(j=i/\y=x)\/(j≠i/\l[j]?=some y):=by
 rw[getElem?_set]at h;split at h
 ·next e=>
  split at h
  ·exact .inl ⟨e.symm,(oI h).symm⟩
  ·cases h
 ·next e=>exact .inr ⟨λc=>e c.symm,h⟩
structure Kp(hb g:aa)(X:Nat->Prop)(vs:List Value)(F:List (List Nat)):Prop where
 len:vs.length=F.length
 own:∀(i:Nat)(v:Value)(l:List Nat),vs[i]?=some v->F[i]?=some l->iu hb g 3 v (l.map iv)
 RH:∀(i j:Nat)(v v':Value),i≠j->vs[i]?=some v->vs[j]?=some v'->∀k,bZ v=some k->bZ v'≠some k
 out:∀(i:Nat)(v:Value),vs[i]?=some v->∀k,bZ v=some k->¬X k
section
variable {hb g:aa} {X:Nat->Prop} {vs:List Value} {F:List (List Nat)}
theorem Kp.jO(f:Kp hb g X vs F){a:aa}(h:∀(k:Nat) (B:bu),¬X k->g.get k=some B->a.get k=some B):Kp hb a X vs F:=
 ⟨f.len,λi v l b d=>(f.own i v l b d).jO λk B e c=>h k B (f.out i v b k e) c,f.RH,f.out⟩
theorem Kp.ok(f:Kp hb g X vs F){a:aa}(o:Ok g a):Kp hb a X vs F:=f.jO λk B _ b=>o.ext k B b
theorem Kp.at_(f:Kp hb g X vs F){i:Nat}{l:List Nat}(d:F[i]?=some l):∃(a:Option Addr)(c:Nat),vs[i]?=some (.slice a l.length c)/\iu hb g 3 (.slice a l.length c) (l.map iv):=by
 have e:=(List.getElem?_eq_some_iff.1 d).1;obtain⟨v,b⟩:∃v,vs[i]?=some v:=⟨_,gE (by rw[f.len];exact e)⟩
 have o:=f.own i v l b d;obtain⟨a,c,rfl⟩:=o.oa;rw[lM]at*;exact⟨a,c,b,o⟩
theorem Kp.snoc(w:Wf hb)(O:Ok hb g)(f:Kp hb g X vs F)(T:∀k,X k->k<g.next){a:Nat}{v:Value}{l:List Nat}(t:vs[a]?=some v)(S:F[a]?=some l){x:Nat}{P:Nat}(I:g.get P=some (.cells [.int .i64 (x:Int)] 3 1 true))(M:l.length<=100000):
  ∃(b:Option Addr)(n c:Nat)(u:bp),aJ SS.P 27 27 v (.slice (some ⟨P,0,none⟩) 1 1) g=some (.slice b n c,u)/\n=l.length+1/\Kp hb (u.app g) X (vs.set a (.slice b n c)) (F.set a (l++[x]))/\Ok hb (u.app g)/\
   (∀j B,g.get j=some B->bZ v≠some j->(u.app g).get j=some B)/\g.next<=(u.app g).next:=by
 have R:=f.own a v l t S;obtain⟨b,n,c,u,Y,K,U,V,N,E,W⟩:=Vq w O R I (by rw[lM];exact M);rw[lM]at K;refine⟨b,n,c,u,Y,K,⟨by rw[length_set,length_set];exact f.len,λi A l' y C=>?_,λi j G p D h d k r m=>?_,λi A y k z s=>?_⟩,V,N,W⟩
 ·rcases br y with⟨e,rfl⟩|⟨e,h⟩
  ·rcases br C with⟨_,rfl⟩|⟨o,_⟩
   ·rw[map_append];exact U
   ·exact absurd e o
  ·rcases br C with⟨o,_⟩|⟨_,d⟩
   ·exact absurd o e
   ·exact(f.own i A l' h d).jO λk B z Q=>N k B Q λc=>f.RH i a A v e h t k z c
 ·have J:∀(j:Nat)(p:Value),vs[j]?=some p->bZ p=some k->k<g.next:=λj p d m=>by
   obtain⟨H,L⟩:∃H,F[j]?=some H:=⟨_,gE (by rw[<-f.len];exact(List.getElem?_eq_some_iff.1 d).1)⟩
   exact((f.own j p H d L).lt O.wf m).1
  rcases br h with⟨e,rfl⟩|⟨e,h⟩
  ·rcases br d with⟨o,_⟩|⟨o,d⟩
   ·exact D (by rw[e,o])
   ·rcases E k r with q|q
    ·have:=J j p d m;omega
    ·exact f.RH a j v p (λc=>o c.symm) t d k q m
  ·rcases br d with⟨o,rfl⟩|⟨o,d⟩
   ·rcases E k m with q|q
    ·have:=J i G h r;omega
    ·exact f.RH a i v G (λc=>e c.symm) t h k q r
   ·exact f.RH i j G p D h d k r m
 ·rcases br y with⟨e,rfl⟩|⟨e,h⟩
  ·rcases E k z with q|q
   ·have:=T k s;omega
   ·exact f.out a v t k q s
  ·exact f.out i A h k z s
end
structure Us(hb:aa)(R:Nat)(kt:Nat->Nat)(N:Nat)(X:Nat->Prop)(vs:List Value)(F:List (List Nat))(g:aa):Prop where
 cc:∀r,r<R->g.get (kt r)=some (.cells ((vs.drop (r*N)).take N) 27 1 true)
 Ks:Kp hb g X vs F
 ok:Ok hb g
 len:F.length=R*N+1
 xt:∀r,r<R->X (kt r)/\hb.next<=kt r
 inj:∀r r',r<R->r'<R->r≠r'->kt r≠kt r'
 xlt:∀k,X k->k<g.next
section
variable {hb g:aa} {R:Nat} {kt:Nat->Nat} {N:Nat} {X:Nat->Prop} {vs:List Value} {F:List (List Nat)}
theorem Us.ext(s:Us hb R kt N X vs F g){a:aa}(o:Ok g a):Us hb R kt N X vs F a:=
 ⟨λr c=>o.ext _ _ (s.cc r c),s.Ks.ok o,s.ok.trans o,s.len,s.xt,s.inj,λk b=>Nat.lt_of_lt_of_le (s.xlt k b) o.nx⟩
theorem Vh(a:n<R)(b:i<N):n*N+i<R*N+1:=by
 have:(n+1)*N<=R*N:=mul_le_mul_right _ a;rw[add_mul,one_mul]at this;omega
theorem Us.ld(s:Us hb R kt N X vs F g){r i:Nat}(o:r<R)(m:i<N):∃(l:List Nat)(a:Option Addr)(c:Nat),F[r*N+i]?=some l/\vs[r*N+i]?=some (.slice a l.length c)/\ai SS.P 126 (.slice (some ⟨kt r,0,none⟩) N N) (.int .i64 (i:Int))=some (.pointer (some ⟨kt r,i,none⟩))/\∀b,Us hb R kt N X vs F b->ae SS.P 27 b (.pointer (some ⟨kt r,i,none⟩))=some (.slice a l.length c)/\Rd b 3 (.slice a l.length c) (l.map iv):=by
 have f:=Vh o m;obtain⟨l,e⟩:∃l,F[r*N+i]?=some l:=⟨_,gE (by rw[s.len];exact f)⟩
 obtain⟨a,c,d,_⟩:=s.Ks.at_ e;refine⟨l,a,c,e,d,?_,λb h=>⟨?_,?_⟩⟩
 ·have:=FU (P:=SS.P) jg ej (k:=kt r) (off:=0) (n:=N) (c:=N) (ik:= .i64) (i:=(i:Int)) (by omega) (by omega);rw[this,toNat_natCast,zero_add,mul_one]
 ·have j:((vs.drop (r*N)).take N)[i]?=some (.slice a l.length c):=by rw[getElem?_take,if_pos m,getElem?_drop];exact d
  rw[aR cO gM (h.cc r o) (List.getElem?_eq_some_iff.1 j).1,gD,j];rfl
 ·exact(h.Ks.own _ _ _ d e).rd
theorem C9(vs:List A)(o N i:Nat)(x:A)(a:i<N):((vs.set (o+i) x).drop o).take N=((vs.drop o).take N).set i x:=by
 rw[List.drop_set,if_neg (by omega),show o+i-o=i by omega,List.take_set]
theorem vn(vs:List A)(o N j:Nat)(x:A)(h:j<o\/o+N<=j):((vs.set j x).drop o).take N=(vs.drop o).take N:=by
 apply List.ext_getElem?;intro i;rw[getElem?_take,getElem?_take,getElem?_drop,getElem?_drop];split
 ·rw[getElem?_set,if_neg (by omega)]
 ·rfl
theorem Us.put(w:Wf hb)(s:Us hb R kt N X vs F g){r i:Nat}(f:r<R)(z:i<N){h:List Value}{q:List (List Nat)}{b:Option Addr}{n c:Nat}{l':List Nat}(x:h=vs.set (r*N+i) (.slice b n c))(E:q=F.set (r*N+i) l'){a:aa}(I:Kp hb a X h q)(o:Ok hb a)(A:∀j B,g.get j=some B->X j->a.get j=some B)(D:g.next<=a.next):
  ∃u:bp,aj SS.P 27 (.pointer (some ⟨kt r,i,none⟩)) (.slice b n c) a=some (undef,u)/\Us hb R kt N X h q (u.app a)/\(∀j B,a.get j=some B->j≠kt r->(u.app a).get j=some B):=by
 have C:=A _ _ (s.cc r f) (s.xt r f).1;have K:=Vh f z;have H:i<((vs.drop (r*N)).take N).length:=by
  have p:(R*N+1)=vs.length:=by rw[s.Ks.len,s.len]
  have J:(r+1)*N<=R*N:=mul_le_mul_right _ f;rw[add_mul,one_mul]at J;rw[length_take,List.length_drop];omega
 refine⟨_,bG ej C H (aV _ _ _) rfl,?_,λj B v y=>?_⟩
 ·have m:∀j,j≠kt r->((bp.set (kt r) (.cells (((vs.drop (r*N)).take N).set i (.slice b n c)) 27 1 true)).app a).get j=a.get j:=λj v=>by
   show(a.set (kt r) _).get j=_;rw[aa.ay,if_neg v]
  refine⟨λd l=>?_,I.jO λk B t G=>?_,o.set _ (s.xt r f).2 (o.wf _ _ C) w,by rw[E,length_set];exact s.len,s.xt,s.inj,λk t=>Nat.lt_of_lt_of_le (s.xlt k t) D⟩
  ·by_cases e:d=r
   ·subst e;show(a.set (kt d) _).get (kt d)=_;rw[aa.ay,if_pos rfl,x,C9 _ _ _ _ _ z]
   ·rw[m _ (s.inj d r l f e),A _ _ (s.cc d l) (s.xt d l).1,x,vn];rcases lt_or_ge r d with p|p
    ·have:=mul_le_mul_right N (show r+1<=d from p);rw[add_mul,one_mul]at this;exact .inl (by omega)
    ·have:=mul_le_mul_right N (show d+1<=r by omega);rw[add_mul,one_mul]at this;exact .inr (by omega)
  ·rw[m k (λc=>t (c▸(s.xt r f).1))];exact G
 ·show(a.set (kt r) _).get j=_;rw[aa.ay,if_neg y];exact v
theorem Us.adj(s:Us hb R kt N X vs F g){r:Nat}(e:r<R):Hv g (some ⟨kt r,0,none⟩) N N ((F.drop (r*N)).take N):=by
 have h:(r+1)*N<=R*N:=mul_le_mul_right _ e;rw[add_mul,one_mul]at h;have n:=s.len;have m:=s.Ks.len;have d:((vs.drop (r*N)).take N).length=N:=by rw[length_take,List.length_drop];omega
 refine⟨by rw[length_take,List.length_drop];omega,(vs.drop (r*N)).take N,.inr ⟨kt r,0,_,N,true,by rw[d],s.cc r e,by rw[drop_zero,List.take_length]⟩,d,λi l b=>?_⟩;rw[getElem?_take]at b;split at b
 ·next k=>
  rw[getElem?_drop]at b;obtain⟨a,c,f,j⟩:=s.Ks.at_ b;exact⟨a,_,c,by rw[getElem?_take,if_pos k,getElem?_drop];exact f,j.rd⟩
 ·cases b
end
theorem Ag{g:aa}(w:Wf g){n j:Nat}(a:j<n)(B:bu):Ok g (aw (Go.Ab.room g n) g.next [(j,B)])/\(aw (Go.Ab.room g n) g.next [(j,B)]).get (g.next+j)=some B:=by
 refine⟨((Ok.refl w).room n).set B (Nat.le_add_right _ _) (Nat.add_lt_add_left a _) w,?_⟩;show((Go.Ab.room g n).set (g.next+j) B).get (g.next+j)=_;rw[aa.ay,if_pos rfl]
end
noncomputable def bS:FD:=dY Tryz.f96 [([1,1,1,1,0,1,0,0],[1,2,3,4,5,6,22,23,24]),([1,1,1,1,0,1,0,0,1,1,0,0,1,1,1,0,0],[1,2,3,4,5,6,7,8,22,23,24,37,38,39]),([1,1,1,1,1,1,0,1,0,0],[11,77,78,79])]
abbrev fC(k f g:Nat)(a:OA)(n c:Nat)(i:Nat)(e:OA)(b d:Nat):LV:=[(pA k),nA,(iA n),(pA f),(pA g),(.slice e b d),(.slice a n c),(iA n),(iA i)]
abbrev ia(k l o:Nat)(a:OA)(n c f:Nat)(e:OA)(g h:Nat)(b:OA)(m d i:Nat)(j:Nat):LV:=[(pA k),nA,(iA n),(pA l),(pA o),(.slice e g h),(iA i),(pA f),(.slice a n c),(iA n),(iA i),(.slice b m d),(iA m),(iA j)]
abbrev jC(n a b:Nat)(i:Nat):LV:=[(sA a n n),(sA b n n),(iA n),(iA i)]
theorem Rx(j:LV)(h:aa)(Q:VH)(r:xN (dp SS.P 24 (.agg ⟨j⟩)) h λw a=>xP (af SS.P 24 (pA (h.next)) 3) λt=>xL (ae SS.P 22 a (.pointer (some t))) λx b y=>zR (aX SS.P 126 (iA b) (iA b)) λm s q=>zR (aX SS.P 126 (iA b) (iA b)) λd n p=>zN (aA SS.P 126) λc=>zN (aA SS.P 126) λi=>xU (aj SS.P 126 (pA (a.next+4)) (sA (a.next+1) s q) (aw (room a 8) a.next [(5,i),(4,c),(1,m)])) (aw (room a 8) a.next [(5,i),(4,c),(1,m)]) λv f=>xU (aj SS.P 126 (pA (a.next+5)) (sA (a.next+3) n p) (aw f a.next [(3,d)])) (aw f a.next [(3,d)]) λu e=>xP (af SS.P 24 (pA (h.next)) 3) λl=>xL (ae SS.P 22 e (.pointer (some l))) λo g k=>LL SS bS [1,1,1,1,0,1,0,0] [(pA (h.next)),nA,(iA b),(pA (a.next+4)),(pA (a.next+5)),nA,(.slice o g k),(iA g),(.int .i64 0)] e (KK SS bS [1,1,1,1,0,1,0] [] (EE SS bS Q))):FW SS 96 [(.agg ⟨j⟩)] h Q:=eh bS Tryz.func96 (av r)
theorem wD(mv:LV)(k g j:Nat)(a:OA)(n c:Nat)(b:Nat->Nat->OA->Nat->Nat->aa->Prop)(Q:VH)(step:∀(d:Nat) (i:Nat) (e:OA) (en ec:Nat) (J:Nat->Value) (h:aa),b d i e en ec h->aS (decide (((i:Int):Int)<(n:Int))) (xP (ai SS.P 22 (.slice a n c) (iA i)) λs=>xA (ae SS.P 44 h (.pointer (some s))) λR=>xN (aA SS.P 44) h λx0 o=>xU (aj SS.P 44 (pA (h.next)) (.agg ⟨R⟩) o) o λY f=>xP (af SS.P 44 (pA (h.next)) 0) λU=>xS (ae SS.P 9 f (.pointer (some U))) λI=>aS (!((I:LB)==[])) (xR (az SS.P 27 1 [(0,(iA i))]) f λx1 X O l=>xE (aJ SS.P 27 27 (.slice e en ec) (sA (f.next) X O) l) l λv t H x2 m=>xP (af SS.P 44 (pA (h.next)) 1) λD=>xL (ae SS.P 42 m (.pointer (some D))) λw x W=>LL SS bS [1,1,1,1,0,1,0,0,1,1,0,0,1,1,1,0,0] (ia k g j a n c (h.next) v t H w x W i 0) m (KK SS bS [1,1,0,0,1,1,1,0] [1,1,1,1,0,1,0,0] (RR bS [1,1,1,1,0,1,0,0] (RF (fC k g j a n c) b) d (KK SS bS [1,1,1,1,0,1,0] [] (EE SS bS Q))))) (xP (af SS.P 44 (pA (h.next)) 1) λV=>xL (ae SS.P 42 f (.pointer (some V))) λL E N=>LL SS bS [1,1,1,1,0,1,0,0,1,1,0,0,1,1,1,0,0] (ia k g j a n c (h.next) e en ec L E N i 0) f (KK SS bS [1,1,0,0,1,1,1,0] [1,1,1,1,0,1,0,0] (RR bS [1,1,1,1,0,1,0,0] (RF (fC k g j a n c) b) d (KK SS bS [1,1,1,1,0,1,0] [] (EE SS bS Q)))))) (xP (af SS.P 24 (pA k) 1) λu=>xI .i64 (ae SS.P 3 h (.pointer (some u))) λP=>xR (az SS.P 27 1 [(0,(.int .i64 P))]) h λZ K M S=>FW SS 132 [(iA n),(sA (h.next) K M),(.func (.func 133) ⟨[]⟩ ⟨[(pA g)]⟩)] S λr z=>yL r λA G C=>FW SS 132 [(iA n),(.slice e en ec),(.func (.func 134) ⟨[]⟩ ⟨[(pA j)]⟩)] z λB F=>yL B λT p y=>LL SS bS [1,1,1,1,1,1,0,1,0,0] [(.slice A G C),(.slice T p y),(iA p),(.int .i64 0)] F (KK SS bS [1,1,1,1,1,1,0,1,0] [] (EE SS bS Q))))(d:Nat){i:Nat}{e:OA}{en ec:Nat}{h:aa}(q:b d i e en ec h):LL SS bS [1,1,1,1,0,1,0,0] (fC k g j a n c i e en ec) h (KK SS bS [1,1,1,1,0,1,0] [] (EE SS bS Q)):=
 Vb (fC k g j a n c) b (λd i e en ec J h q=>av (step d i e en ec J h q)) d q
theorem wE(mv:LV)(k o p:Nat)(a:OA)(n c:Nat)(D:Nat)(e:OA)(A B:Nat)(b:OA)(m d:Nat)(F:Nat->Nat->OA->Nat->Nat->aa->Prop)(mz i:Nat)(r:Nat->Nat->aa->Prop)(Q:VH)(step:∀(l:Nat) (j:Nat) (zz:Nat->Value) (h:aa),r l j h->aS (decide (((j:Int):Int)<(m:Int))) (xP (ai SS.P 42 (.slice b m d) (iA j)) λx9=>xA (ae SS.P 46 h (.pointer (some x9))) λy5=>xN (aA SS.P 46) h λz1 E=>xU (aj SS.P 46 (pA (h.next)) (.agg ⟨y5⟩) E) E λz0 g=>xL (ae SS.P 126 (room g 12) (pA o)) λv s w=>xL (ae SS.P 126 (room g 12) (pA o)) λy2 y0 y1=>xP (ai SS.P 126 (.slice y2 y0 y1) (iA i)) λy4=>xL (ae SS.P 27 (room g 12) (.pointer (some y4))) λx3 x8 x0=>xP (af SS.P 46 (pA (h.next)) 3) λx7=>xI .i64 (ae SS.P 3 (room g 12) (.pointer (some x7))) λx4=>zR (az SS.P 27 1 [(0,(.int .i64 x4))]) λH x6 x5=>xE (aJ SS.P 27 27 (.slice x3 x8 x0) (sA (g.next+8) x6 x5) (aw (room g 12) g.next [(8,H)])) (aw (room g 12) g.next [(8,H)]) λx2 Z y6 z2 z=>xP (ai SS.P 126 (.slice v s w) (iA i)) λx1=>xU (aj SS.P 27 (.pointer (some x1)) (.slice x2 Z y6) z) z λy9 f=>(ae SS.P 126 z (pA o)=some (.slice v s w)/\df 4 (.slice v s w) (.slice v s w)=true)/\xL (ae SS.P 126 (room f 13) (pA p)) λu y t=>xP (af SS.P 46 (pA (h.next)) 3) λG=>xI .i64 (ae SS.P 3 (room f 13) (.pointer (some G))) λx=>xL (ae SS.P 126 (room f 13) (pA p)) λy3 Y X=>xP (af SS.P 46 (pA (h.next)) 3) λV=>xI .i64 (ae SS.P 3 (room f 13) (.pointer (some V))) λP=>xP (ai SS.P 126 (.slice y3 Y X) (.int .i64 P)) λM=>xL (ae SS.P 27 (room f 13) (.pointer (some M))) λT O K=>zR (az SS.P 27 1 [(0,(iA i))]) λC U J=>xE (aJ SS.P 27 27 (.slice T O K) (sA (f.next+9) U J) (aw (room f 13) f.next [(9,C)])) (aw (room f 13) f.next [(9,C)]) λS N L y8 q=>xP (ai SS.P 126 (.slice u y t) (.int .i64 x)) λI=>xU (aj SS.P 27 (.pointer (some I)) (.slice S N L) q) q λy7 W=>(ae SS.P 126 q (pA p)=some (.slice u y t)/\df 4 (.slice u y t) (.slice u y t)=true)/\(ae SS.P 3 q (.pointer (some G))=some (.int .i64 x)/\df 4 (.int .i64 x) (.int .i64 x)=true)/\aH (fD (ia k o p a n c D e A B b m d i) r) l [(pA k),nA,(iA n),(pA o),(pA p),(.slice e A B),(iA i),(pA D),(.slice a n c),(iA n),(iA i),(.slice b m d),(iA m),(.int .i64 (wrap .i64 ((j:Int)+1)))] W) (aH (RF (fC k o p a n c) F) mz [(pA k),nA,(iA n),(pA o),(pA p),(.slice e A B),(.slice a n c),(iA n),(.int .i64 (wrap .i64 ((i:Int)+1)))] h))(l:Nat){j:Nat}{h:aa}(R:r l j h):LL SS bS [1,1,1,1,0,1,0,0,1,1,0,0,1,1,1,0,0] (ia k o p a n c D e A B b m d i j) h (KK SS bS [1,1,0,0,1,1,1,0] [1,1,1,1,0,1,0,0] (RR bS [1,1,1,1,0,1,0,0] (RF (fC k o p a n c) F) mz (KK SS bS [1,1,1,1,0,1,0] [] (EE SS bS Q)))):=
 dN (ia k o p a n c D e A B b m d i) r (λl j zz h R=>av (step l j zz h R)) l R
theorem wF(t:LV)(n c d:Nat)(b:Nat->Nat->aa->Prop)(Q:VH)(step:∀(a:Nat) (i:Nat) (q:Nat->Value) (h:aa),b a i h->aS (decide (((i:Int):Int)<(n:Int))) (xP (ai SS.P 68 (sA d n n) (iA i)) λo=>xB (ae SS.P 4 h (.pointer (some o))) λf=>xP (ai SS.P 68 (sA c n n) (iA i)) λj=>xB (ae SS.P 4 h (.pointer (some j))) λe=>aS e (xP (ai SS.P 68 (sA c n n) (iA i)) λg=>xU (aj SS.P 4 (.pointer (some g)) (.bool f) h) h λr l=>aH (fD (jC n c d) b) a [(sA c n n),(sA d n n),(iA n),(.int .i64 (wrap .i64 ((i:Int)+1)))] l) (xP (ai SS.P 68 (sA c n n) (iA i)) λp=>xU (aj SS.P 4 (.pointer (some p)) (.bool false) h) h λs m=>aH (fD (jC n c d) b) a [(sA c n n),(sA d n n),(iA n),(.int .i64 (wrap .i64 ((i:Int)+1)))] m)) (Q (sA c n n) h))(a:Nat){i:Nat}{h:aa}(k:b a i h):LL SS bS [1,1,1,1,1,1,0,1,0,0] (jC n c d i) h (KK SS bS [1,1,1,1,1,1,0,1,0] [] (EE SS bS Q)):=
 dN (jC n c d) b (λa i q h k=>av (step a i q h k)) a k
noncomputable def TX:FD:=dY Tryz.f104 []
theorem P0(e:LV)(h:aa)(Q:VH)(q:xN (dp SS.P 24 (.agg ⟨e⟩)) h λs f=>xA (ae SS.P 24 (room f 12) (pA (h.next))) λr=>FW SS 30 [(.agg ⟨r⟩)] (room f 12) λm b=>yB m λn=>aS n (xA (ae SS.P 24 b (pA (h.next))) λo=>FW SS 96 [(.agg ⟨o⟩)] b λp d=>yL p λi j l=>xP (af SS.P 24 (pA (h.next)) 1) λc=>xI .i64 (ae SS.P 3 d (.pointer (some c))) λa=>xP (ai SS.P 68 (.slice i j l) (.int .i64 a)) λg=>xB (ae SS.P 4 d (.pointer (some g))) λk=>(ae SS.P 3 b (.pointer (some c))=some (.int .i64 a)/\df 4 (.int .i64 a) (.int .i64 a)=true)/\Q (.bool (!k)) d) (Q (.bool false) b)):FW SS 104 [(.agg ⟨e⟩)] h Q:=eh TX Tryz.func104 (av q)
variable{P:Program}
theorem Gb{t:TypeId}{b:aa}(o:Ok g b){a v:Value}(h:ae P t g a=some v):ae P t b a=some v:=by
 unfold ae at h⊢;split at h
 ·next d k i l=>
  split at h
  ·next cs e f j c=>
   rw[o.ext _ _ c];exact h
  ·cases h
 ·cases h
theorem ey.Kr{c:Nat}{l:List fF}(r:ey h (.slice a n c) l)(d:Ok h g){i:Nat}{s:fF}(j:l[i]?=some s):
  ∃(b o:Nat)(x:Option Addr)(y z:Nat),ai SS.P 22 (.slice a n c) (.int .i64 (i:Int))=some (.pointer (some ⟨b,o,none⟩))/\ae SS.P 44 g (.pointer (some ⟨b,o,none⟩))=some (.agg ⟨[strOf s.f,.slice x y z]⟩)/\
   ae SS.P 9 g (.pointer (some ⟨b,o+0,none⟩))=some (strOf s.f)/\ae SS.P 42 g (.pointer (some ⟨b,o+1,none⟩))=some (.slice x y z)/\eT h (.slice x y z) s.an:=by
 obtain⟨b,o,x,y,z,f,p,k,m,e⟩:=r.at_ j;exact⟨b,o,x,y,z,f,Gb d p,Gb d k,Gb d m,e⟩
noncomputable def ab5:TypeInfo:=(SS.P.info? 27).getD default
theorem ZE:SS.P.info? 27=some ab5:=by kernel_rfl
theorem Rn:ab5.size=1:=by kernel_rfl
theorem M4:ab5.bytes=24:=by kernel_rfl
def xQ:Value:= .slice none 0 0
theorem aco:zeroOf SS.P 27=some xQ:=by kernel_rfl
theorem T4(n:Nat)(a:n<=100000):aX SS.P 126 (.int .i64 (n:Int)) (.int .i64 (n:Int))=some (.cells (List.replicate n xQ) 27 1 true,jE n n):=by
 unfold aX aT;dsimp only;rw[jg]
 try dsimp only
 change (match SS.P.info? 27,zeroOf SS.P 27 with
  |some i,some z=>(if z.cells.size=i.size/\0<i.size/\(0:Int)<=(n:Int)/\(n:Int)<=(n:Int)/\(n:Int)*i.bytes<=140737488355328/\(n:Int)<=1099511627776 then some (bu.cells (bO z.cells.toList (n:Int).toNat) 27 i.size true,λk=>Value.slice (some ⟨k,0,none⟩) (n:Int).toNat (n:Int).toNat)else none)
  |_,_=>none)=_
 rw[ZE,aco];dsimp only;rw[Rn,M4,if_pos ⟨rfl,by omega,by omega,Int.le_refl _,by omega,by omega⟩];have e:((n:Int)).toNat=n:=by omega
 rw[e,show(xQ).cells.toList=[xQ]from rfl,lA];rfl
def zl(s:fF):List Nat:=s.an.map λq=>q.t.toNat
def iK(M:aG)(y x:Nat):Prop:=∃s,M.ak[y]?=some s/\x∈zl s
def PC(M:aG)(x:Nat):Prop:=∃s,M.ak[x]?=some s/\s.f≠[]
def fU(M:aG)(x:Nat):Prop:=iz (iK M) (λy=>y=M.start.toNat) x/\iz (λy x=>iK M x y) (PC M) x
def WN(M:aG)(i j y x:Nat):Prop:=(y<i/\iK M y x)\/(y=i/\∃s,M.ak[i]?=some s/\x∈(zl s).take j)
theorem oH{x:Nat}:WN M i 0 n x↔n<i/\iK M n x:=by
 unfold WN;constructor
 ·rintro(h|⟨_,s,_,h⟩)
  ·exact h
  ·rw[take_zero]at h;cases h
 ·exact .inl
theorem Ju{x:Nat}{s:fF}(f:M.ak[i]?=some s)(g:s.an.length<=j):WN M i j n x↔n<i+1/\iK M n x:=by
 unfold WN;constructor
 ·rintro(⟨c,a⟩|⟨rfl,b,c,a⟩)
  ·exact⟨by omega,a⟩
  ·exact⟨by omega,b,c,List.mem_of_mem_take a⟩
 ·rintro⟨c,a⟩;rcases lt_or_ge n i with e|e
  ·exact .inl ⟨e,a⟩
  ·obtain rfl:n=i:=by omega
   obtain⟨b,d,h⟩:=a;refine .inr ⟨rfl,b,d,?_⟩;rw[f]at d;obtain rfl:=oI d;rw[take_of_length_le (by unfold zl;rw[lM];exact g)];exact h
theorem Jv{x:Nat}{s:fF}(d:M.ak[i]?=some s)(k:s.an[j]?=some D):WN M i (j+1) n x↔WN M i j n x\/(n=i/\x=D.t.toNat):=by
 have f:(zl s)[j]?=some D.t.toNat:=by unfold zl;rw[getElem?_map,k];rfl
 have e:(zl s).take (j+1)=(zl s).take j++[D.t.toNat]:=by rw[take_add_one,f];rfl
 unfold WN;constructor
 ·rintro(h|⟨c,g,b,a⟩)
  ·exact .inl (.inl h)
  ·rw[d]at b;obtain rfl:=oI b;rw[e,mem_append,mem_singleton]at a;rcases a with a|a
   ·exact .inl (.inr ⟨c,s,d,a⟩)
   ·exact .inr ⟨c,a⟩
 ·rintro((h|⟨c,g,b,a⟩)|⟨c,b⟩)
  ·exact .inl h
  ·rw[d]at b;obtain rfl:=oI b;exact .inr ⟨c,s,d,by rw[e];exact mem_append.2 (.inl a)⟩
  ·exact .inr ⟨c,s,d,by rw[e,b];exact mem_append.2 (.inr (mem_singleton.2 rfl))⟩
structure Dn(M:aG)(n i j i' cN:Nat)(F:List (List Nat)):Prop where
 fw:∀y l,y<n->F[0*n+y]?=some l->∀x,x∈l↔WN M i j y x
 bk:∀t l,t<n->F[1*n+t]?=some l->∀x,x∈l↔WN M i j x t
 en:∀l,F[2*n]?=some l->∀x,x∈l↔x<i'/\PC M x
 ln:∀l∈F,l.length<=cN
theorem LM{F:List (List Nat)}{l':List Nat}{c:Nat}(h:∀l∈F,l.length<=c)(d:l'.length<=c+1):∀l∈F.set n l',l.length<=c+1:=λl b=>by
 rcases List.mem_or_eq_of_mem_set b with a|a
 ·exact Nat.le_succ_of_le (h l a)
 ·rw[a];exact d
theorem Dn.arc{F:List (List Nat)}(d:Dn M n i j m k F)(A:i<n){s:fF}{q:bJ}(p:M.ak[i]?=some s)(u:s.an[j]?=some q)(C:q.t.toNat<n){b f:List Nat}(r:F[0*n+i]?=some b)(v:F[1*n+q.t.toNat]?=some f):
  Dn M n i (j+1) m (k+1) ((F.set (0*n+i) (b++[q.t.toNat])).set (1*n+q.t.toNat) (f++[i])):=by
 have B:=d.ln b (List.mem_of_getElem? r);have D:=d.ln f (List.mem_of_getElem? v);refine⟨λy l w a x=>?_,λt l g a x=>?_,λl a x=>?_,λl a=>?_⟩
 ·rw[Jv p u];rcases br a with⟨e,_⟩|⟨_,a⟩
  ·omega
  ·rcases br a with⟨e,rfl⟩|⟨e,a⟩
   ·obtain rfl:y=i:=by omega
    rw[mem_append,mem_singleton,d.fw y b w r x];exact⟨λc=>c.imp id λc=>⟨rfl,c⟩,λc=>c.imp id λc=>c.2⟩
   ·rw[d.fw y l w a x];exact⟨.inl,λc=>c.elim id λc=>absurd (by rw[c.1]) e⟩
 ·rw[Jv p u];rcases br a with⟨e,rfl⟩|⟨e,a⟩
  ·obtain rfl:t=q.t.toNat:=by omega
   rw[mem_append,mem_singleton,d.bk _ f g v x];exact⟨λc=>c.imp id λc=>⟨c,rfl⟩,λc=>c.imp id λc=>c.1⟩
  ·rcases br a with⟨z,_⟩|⟨_,a⟩
   ·omega
   ·rw[d.bk t l g a x];exact⟨.inl,λc=>c.elim id λc=>absurd (by rw[c.2]) e⟩
 ·rcases br a with⟨e,_⟩|⟨_,a⟩
  ·omega
  ·rcases br a with⟨e,_⟩|⟨_,a⟩
   ·omega
   ·exact d.en l a x
 ·rcases List.mem_or_eq_of_mem_set a with h|h
  ·rcases List.mem_or_eq_of_mem_set h with o|o
   ·have:=d.ln l o;omega
   ·rw[o,length_append,length_singleton];omega
  ·rw[h,length_append,length_singleton];omega
theorem Dn.fin{F:List (List Nat)}(d:Dn M n i 0 i m F)(q:i<n){s:fF}(j:M.ak[i]?=some s)(g:s.f≠[]){l:List Nat}(f:F[2*n]?=some l):Dn M n i 0 (i+1) (m+1) (F.set (2*n) (l++[i])):=by
 have r:=d.ln l (List.mem_of_getElem? f);refine⟨λy l' p a x=>?_,λt l' o a x=>?_,λl' a x=>?_,LM d.ln (by rw[length_append,length_singleton];omega)⟩
 ·rcases br a with⟨e,_⟩|⟨_,h⟩
  ·omega
  ·exact d.fw y l' p h x
 ·rcases br a with⟨e,_⟩|⟨_,h⟩
  ·omega
  ·exact d.bk t l' o h x
 ·rcases br a with⟨_,rfl⟩|⟨e,_⟩
  ·rw[mem_append,mem_singleton,d.en l f x];constructor
   ·rintro(⟨k,b⟩|rfl)
    ·exact⟨by omega,b⟩
    ·exact⟨by omega,s,j,g⟩
   ·rintro⟨k,b⟩;rcases lt_or_ge x i with c|c
    ·exact .inl ⟨c,b⟩
    ·exact .inr (by omega)
  ·exact absurd rfl e
theorem Dn.adD{F:List (List Nat)}(d:Dn M n i 0 i m F){s:fF}(g:M.ak[i]?=some s)(f:s.f=[]):Dn M n i 0 (i+1) (m+1) F:=by
 refine⟨d.fw,d.bk,λl b x=>?_,λl b=>Nat.le_succ_of_le (d.ln l b)⟩;rw[d.en l b x];constructor
 ·rintro⟨h,a⟩;exact⟨by omega,a⟩
 ·rintro⟨h,a⟩;refine⟨?_,a⟩;rcases lt_or_ge x i with c|c
  ·exact c
  ·obtain rfl:x=i:=by omega
   obtain⟨k,e,j⟩:=a;rw[g]at e;obtain rfl:=oI e;exact absurd f j
theorem Dn.next{F:List (List Nat)}(d:Dn M n i j (i+1) m F){s:fF}(b:M.ak[i]?=some s)(c:s.an.length<=j):Dn M n (i+1) 0 (i+1) m F:=by
 refine⟨λy l f a x=>?_,λt l e a x=>?_,d.en,d.ln⟩
 ·rw[d.fw y l f a x,Ju b c,oH]
 ·rw[d.bk t l e a x,Ju b c,oH]
theorem Dn.new(M:aG)(n:Nat):Dn M n 0 0 0 0 (List.replicate (2*n+1) []):=by
 have h:∀{i:Nat}{l:List Nat},(List.replicate (2*n+1) ([]:List Nat))[i]?=some l->l=[]:=λ{i l} a=>by
  rw[getElem?_replicate]at a;split at a
  ·exact(oI a).symm
  ·cases a
 refine⟨λy l d a x=>?_,λt l b a x=>?_,λl a x=>?_,λl a=>?_⟩
 ·rw[h a,oH];exact⟨λc=>(by cases c),λc=>absurd c.1 (not_lt_zero _)⟩
 ·rw[h a,oH];exact⟨λc=>(by cases c),λc=>absurd c.1 (not_lt_zero _)⟩
 ·rw[h a];exact⟨λc=>(by cases c),λc=>absurd c.1 (not_lt_zero _)⟩
 ·rw[List.eq_of_mem_replicate a];exact Nat.le_refl _
theorem Us.tail{f:Nat->Nat}{X:Nat->Prop}{vs:List Value}{F:List (List Nat)}(s:Us h n f m X vs F g){b:List Value}{c:List (List Nat)}{v:Value}{l':List Nat}(p:b=vs.set (n*m) v)(o:c=F.set (n*m) l'){a:aa}(q:Kp h a X b c)(i:Ok h a)(u:∀j B,g.get j=some B->X j->a.get j=some B)(l:g.next<=a.next):Us h n f m X b c a:=by
 refine⟨λr d=>?_,q,i,by rw[o,length_set];exact s.len,s.xt,s.inj,λk t=>Nat.lt_of_lt_of_le (s.xlt k t) l⟩;have e:(r+1)*m<=n*m:=mul_le_mul_right _ d;rw[add_mul,one_mul]at e;rw[u _ _ (s.cc r d) (s.xt r d).1,p,vn _ _ _ _ _ (.inr e)]
theorem CA(k o n c:Nat):df 4 (.slice (some ⟨k,o,none⟩) n c) (.slice (some ⟨k,o,none⟩) n c)=true:=by simp[df]
variable{d:List Value}
section
theorem Kp.lt{hb:aa}{X:Nat->Prop}{F:List (List Nat)}(f:Kp hb h X d F)(w:Wf h){i:Nat}{v:Value}(b:d[i]?=some v){k:Nat}(e:bZ v=some k):k<h.next:=by
 obtain⟨a,c⟩:∃a,F[i]?=some a:=⟨_,gE (by rw[<-f.len];exact(List.getElem?_eq_some_iff.1 b).1)⟩
 exact((f.own i v a b c).lt w e).1
def usX(hb:aa):Nat->Prop:=λk=>k=hb.next+1\/k=hb.next+3\/k=hb.next+4\/k=hb.next+5
def Rw(hb:aa):Nat->Nat:=λr=>hb.next+1+2*r
structure Ub(hb:aa)(M:aG)(n i j i' cN:Nat)(vs:List Value)(F:List (List Nat))(g:aa):Prop where
 us:Us hb 2 (Rw hb) n (usX hb) vs F g
 b4:wO g (hb.next+4) 126 (.slice (some ⟨Rw hb 0,0,none⟩) n n)
 b5:wO g (hb.next+5) 126 (.slice (some ⟨Rw hb 1,0,none⟩) n n)
 dn:Dn M n i j i' cN F
section
variable {hb:aa} {M:aG} {a:Option Addr} {n c k:Nat}
def ad8(hb:aa)(M:aG)(n:Nat)(c i:Nat)(e:Option Addr)(d f:Nat)(g:aa):Prop:=i<=n/\c=n-i/\∃a F b,Ub hb M n i 0 i b a F g/\a[2*n]?=some (.slice e d f)/\b+mX (M.ak.drop i)+(n-i)<=2300
def uIn(hb:aa)(M:aG)(n:Nat)(e:Option Addr)(d f m i:Nat)(b j:Nat)(g:aa):Prop:=j<=m/\b=m-j/\∃a F c,Ub hb M n i j (i+1) c a F g/\a[2*n]?=some (.slice e d f)/\c+(m-j)+mX (M.ak.drop (i+1))+(n-(i+1))<=2300
set_option linter.defProp false in
def Kf(w:Wf hb)(gd:Good M)(w1:n=M.ak.length)(hn:n<=300){s:fF}{b:Option Addr}{m d i k8:Nat}(hs:M.ak[i]?=some s)(W:i<n)(ar:eT hb (.slice b m d) s.an)(v7:s.an.length<=2000)(mv:List Value)(e:Option Addr)(en ec mz:Nat)(v9:mz=n-i)(Q:VH):=
 wE mv k (hb.next+4) (hb.next+5) a n c k8 e en ec b m d (ad8 hb M n) mz i (uIn hb M n e en ec m i) Q (by
  intro z3 j;intros;rename_i g t;obtain⟨f1,f2,vs,F,cN,f,x4,v6⟩:=t;have hm:=ar.len;have ok:=f.us.ok;refine ah (λJ=>?_) (λJ=>?_)
  ·have J:=dT J;obtain⟨q,hq⟩:∃q,s.an[j]?=some q:=⟨_,gE (by omega)⟩
   obtain⟨bb,o,e1,e2,_⟩:=(ar.ok ok).at_ hq;have t:=gd.an s (List.mem_of_getElem? hs) q (List.mem_of_getElem? hq);obtain⟨T,hT⟩:∃T:Nat,q.t=(T:Int):=⟨q.t.toNat,by have:=t.t0;omega⟩
   have E:T<n:=by have:=t.t1;omega
   have N:q.t.toNat=T:=by omega
   obtain⟨u1,p1,p2,p3⟩:=wc ok.wf q;have V:∀g',AB g' g.next q->ae SS.P 3 g' (.pointer (some ⟨g.next,0+3,none⟩))=some (.int .i64 (T:Int)):=λg' h=>by rw[<-hT];exact AB.l3 h
   have x0:∀(x8:Nat)(v:Value),vs[x8]?=some v->bZ v≠some g.next:=λx8 v hv e=>by have:=f.us.Ks.lt ok.wf hv e;omega
   have z8:=f.us.xlt;have Z:=f.us.ext p2;have B4:=f.b4.ok p2;have B5:=f.b5.ok p2;refine⟨_,e1,_,e2,_,Fk,u1,p1,?_⟩;generalize u1.app (g.push Hr)=g2 at*;have w2:=Z.ok.wf;have Y:=(Ok.refl w2).room 12;obtain⟨r1,a1,c1,H,K,y1,v1⟩:=Z.ld (r:=0) (i:=i) (by omega) W;have v5:=f.dn.ln r1 (List.mem_of_getElem? H);obtain⟨P,y8⟩:=Ag w2 (n:=12) (j:=8) (by omega) (.cells [.int .i64 (T:Int)] 3 1 true);have u0:=(v1 _ (Z.ext Y)).1;have B:=Z.ext P;have u2:=B4.ok P;have u7:=B5.ok P;have A3:=AB.ok p3 P;obtain⟨b',n',c',x2,y5,v4,u6,v0,x,y6⟩:=B.Ks.snoc w B.ok B.xlt K H y8 (by omega);have z5:bZ (.slice a1 r1.length c1)≠some g.next:=x0 _ _ K;have G:∀k,usX hb k->bZ (.slice a1 r1.length c1)≠some k:=λk p e=>B.Ks.out _ _ K k e p;refine⟨_,_,_,(B4.ok Y).ld jg ox,_,_,_,(B4.ok Y).ld jg ox,_,y1,_,_,_,u0,_,eV _ _,_,V _ (p3.ok Y),_,_,_,tG _,b',n',c',x2,y5,_,y1,?_⟩;generalize aw (Go.Ab.room g2 12) g2.next [(8,.cells [.int .i64 (T:Int)] 3 1 true)]=S at*;have x5:=x _ _ u2 (G _ (.inr (.inr (.inl rfl))));have z2:=x _ _ u7 (G _ (.inr (.inr (.inr rfl))));have A4:=x _ _ A3 z5;obtain⟨x6,z1,X,C⟩:=B.put w (r:=0) (i:=i) (by omega) W rfl rfl u6 v0 (λy B' hj p=>x y B' hj (G y p)) y6;refine⟨x6,z1,⟨wO.ld jg ox x5,CA _ _ _ _⟩,?_⟩;have z0:wO _ _ _ _:=C _ _ x5 (by unfold Rw;omega);have L:wO _ _ _ _:=C _ _ z2 (by unfold Rw;omega);have A5:AB _ _ q:=C _ _ A4 (by have:=z8 _ (f.us.xt 0 (by omega)).1;omega);generalize x2.app S=g4 at*;generalize x6.app g4=g5 at*;have w5:=X.ok.wf;have l:=(Ok.refl w5).room 13;obtain⟨U,a2,c2,x9,x1,y0,u3⟩:=X.ld (r:=1) (i:=T) (by omega) E;obtain⟨O,k9⟩:=Ag w5 (n:=13) (j:=9) (by omega) (.cells [.int .i64 (i:Int)] 3 1 true);have y2:=(u3 _ (X.ext l)).1;have R:=X.ext O;have A:vs[1*n+T]?=some (.slice a2 U.length c2):=by
    rcases br x1 with⟨e,_⟩|⟨_,h⟩
    ·omega
    ·exact h
   have I:F[1*n+T]?=some U:=by
    rcases br x9 with⟨e,_⟩|⟨_,h⟩
    ·omega
    ·exact h
   have v8:=f.dn.ln U (List.mem_of_getElem? I);have z9:=x0 _ _ A;have z:∀k,usX hb k->bZ (.slice a2 U.length c2)≠some k:=λk p e=>f.us.Ks.out _ _ A k e p;obtain⟨y9,u8,z4,y4,u9,w0,v3,u4,u,z7⟩:=R.Ks.snoc w R.ok R.xlt x1 x9 k9 (by omega);refine⟨_,_,_,(L.ok l).ld jg ox,_,eV _ _,_,V _ (A5.ok l),_,_,_,(L.ok l).ld jg ox,_,eV _ _,_,V _ (A5.ok l),_,y0,_,_,_,y2,_,_,_,tG _,y9,u8,z4,y4,u9,_,y0,?_⟩;have v2:=u _ _ (z0.ok O) (z _ (.inr (.inr (.inl rfl))));have x7:=u _ _ (L.ok O) (z _ (.inr (.inr (.inr rfl))));have A6:AB _ _ q:=u _ _ (A5.ok O) z9;obtain⟨y3,y7,U8,x3⟩:=R.put w (r:=1) (i:=T) (by omega) E rfl rfl v3 u4 (λy B' hj p=>u y B' hj (z y p)) z7;refine⟨y3,y7,⟨wO.ld jg ox x7,CA _ _ _ _⟩,⟨V _ A6,OM _⟩,?_⟩;rw[bA (i:=j) (n:=m) (by omega) (by omega)];have u5:=x3 _ _ v2 (by unfold Rw;omega);have z6:=x3 _ _ x7 (by unfold Rw;omega);have D:=f.dn.arc W hs hq (by rw[N];exact E) H (by rw[N];exact I);rw[N]at D;refine cG (z3-1) (by omega) ⟨by omega,by omega,_,_,cN+1,⟨U8,u5,z6,D⟩,?_,by omega⟩;rw[getElem?_set,if_neg (by omega),getElem?_set,if_neg (by omega)];exact x4
  ·have J:=dF J;obtain rfl:m=j:=by omega
   rw[bA W (by omega)];exact NT (n-(i+1)) (by omega) ⟨by omega,rfl,vs,F,cN,⟨f.us,f.b4,f.b5,f.dn.next hs (by omega)⟩,x4,by omega⟩)
end
end
def ng(n:Nat):bu:= .cells (List.replicate n xQ) 27 1 true
def lD:bu:= .cells [.slice none 0 0] 126 0 true
theorem Z8:aA SS.P 126=some (lD,dR):=by kernel_rfl
theorem ED{E a:Nat->Nat->Prop}{F b:Nat->Prop}(d:∀y x,E y x↔a y x)(f:∀x,F x↔b x)(x:Nat):iz E F x↔iz a b x:=by
 have c:E=a:=funext λy=>funext λx=>propext (d y x);have e:F=b:=funext λx=>propext (f x);rw[c,e]
theorem Hd(w:Wf h)(M:aG)(n:Nat):
  ∃m:bp,aj SS.P 126 (.pointer (some ⟨h.next+4,0,none⟩)) (.slice (some ⟨h.next+1,0,none⟩) n n) (aw (Go.Ab.room h 8) h.next [(5,lD),(4,lD),(1,ng n)])=some (undef,m)/\
  ∃s:bp,aj SS.P 126 (.pointer (some ⟨h.next+5,0,none⟩)) (.slice (some ⟨h.next+3,0,none⟩) n n) (aw (m.app (aw (Go.Ab.room h 8) h.next [(5,lD),(4,lD),(1,ng n)])) h.next [(3,ng n)])=some (undef,s)/\
   Ub h M n 0 0 0 0 (List.replicate (2*n+1) xQ) (List.replicate (2*n+1) []) (s.app (aw (m.app (aw (Go.Ab.room h 8) h.next [(5,lD),(4,lD),(1,ng n)])) h.next [(3,ng n)])):=by
 obtain⟨N,b⟩:∃N,h.next=N:=⟨_,rfl⟩
 have A:(Go.Ab.room h 8).next=N+8:=by rw[<-b];rfl
 rw[b];have B:wO (aw (Go.Ab.room h 8) N [(5,lD),(4,lD),(1,ng n)]) (N+4) 126 (.slice none 0 0):=by
  show(((Go.Ab.room h 8).set (N+1) _).set (N+4) lD |>.set (N+5) lD).get (N+4)=_;rw[aa.ay,if_neg (by omega),aa.ay,if_pos rfl];rfl
 refine⟨_,B.st MT (aV _ _ _) rfl,?_⟩;have D:wO (aw ((bp.set (N+4) (.cells [.slice (some ⟨N+1,0,none⟩) n n] 126 0 true)).app (aw (Go.Ab.room h 8) N [(5,lD),(4,lD),(1,ng n)])) N [(3,ng n)]) (N+5) 126 (.slice none 0 0):=by
  show(((((Go.Ab.room h 8).set (N+1) (ng n)).set (N+4) lD |>.set (N+5) lD).set (N+4) _).set (N+3) (ng n)).get (N+5)=_;rw[aa.ay,if_neg (by omega),aa.ay,if_neg (by omega),aa.ay,if_pos rfl];rfl
 refine⟨_,D.st MT (aV _ _ _) rfl,?_⟩;show Ub h M n 0 0 0 0 _ _ ((((((Go.Ab.room h 8).set (N+1) (ng n)).set (N+4) lD |>.set (N+5) lD).set (N+4) (.cells [.slice (some ⟨N+1,0,none⟩) n n] 126 0 true)).set (N+3) (ng n)).set (N+5) (.cells [.slice (some ⟨N+3,0,none⟩) n n] 126 0 true));have c:∀j,((((((Go.Ab.room h 8).set (N+1) (ng n)).set (N+4) lD |>.set (N+5) lD).set (N+4) (.cells [.slice (some ⟨N+1,0,none⟩) n n] 126 0 true)).set (N+3) (ng n)).set (N+5) (.cells [.slice (some ⟨N+3,0,none⟩) n n] 126 0 true)).get j =
   if j=N+5 then some (.cells [.slice (some ⟨N+3,0,none⟩) n n] 126 0 true)else if j=N+3 then some (ng n)else if j=N+4 then some (.cells [.slice (some ⟨N+1,0,none⟩) n n] 126 0 true)else if j=N+5 then some lD else if j=N+4 then some lD else if j=N+1 then some (ng n)else h.get j:=λj=>by
  rw[aa.ay,aa.ay,aa.ay,aa.ay,aa.ay,aa.ay];rfl
 have d:Ok h ((((((Go.Ab.room h 8).set (N+1) (ng n)).set (N+4) lD |>.set (N+5) lD).set (N+4) (.cells [.slice (some ⟨N+1,0,none⟩) n n] 126 0 true)).set (N+3) (ng n)).set (N+5) (.cells [.slice (some ⟨N+3,0,none⟩) n n] 126 0 true)):=by
  refine((((((Ok.refl w).room 8).set _ ?_ ?_ w).set _ ?_ ?_ w).set _ ?_ ?_ w).set _ ?_ ?_ w).set _ ?_ ?_ w |>.set _ ?_ ?_ w
  all_goals first
   |(rw[b];omega)
   |(show _<(Go.Ab.room h 8).next;rw[A];omega)
 generalize ((((((Go.Ab.room h 8).set (N+1) (ng n)).set (N+4) lD |>.set (N+5) lD).set (N+4) (.cells [.slice (some ⟨N+1,0,none⟩) n n] 126 0 true)).set (N+3) (ng n)).set (N+5) (.cells [.slice (some ⟨N+3,0,none⟩) n n] 126 0 true))=g at*;have x:g.get (N+1)=some (ng n):=by rw[c,if_neg (by omega),if_neg (by omega),if_neg (by omega),if_neg (by omega),if_neg (by omega),if_pos rfl]
 have z:g.get (N+3)=some (ng n):=by rw[c,if_neg (by omega),if_pos rfl]
 have u:g.get (N+4)=some (.cells [.slice (some ⟨N+1,0,none⟩) n n] 126 0 true):=by rw[c,if_neg (by omega),if_neg (by omega),if_pos rfl]
 have y:g.get (N+5)=some (.cells [.slice (some ⟨N+3,0,none⟩) n n] 126 0 true):=by rw[c,if_pos rfl]
 have f:∀{i:Nat}{v:Value},(List.replicate (2*n+1) xQ)[i]?=some v->v=xQ:=λ{i v} a=>by
  rw[getElem?_replicate]at a;split at a
  ·exact(oI a).symm
  ·cases a
 have q:∀{i:Nat}{l:List Nat},(List.replicate (2*n+1) ([]:List Nat))[i]?=some l->l=[]:=λ{i l} a=>by
  rw[getElem?_replicate]at a;split at a
  ·exact(oI a).symm
  ·cases a
 refine⟨⟨λr C=>?_,⟨by rw[length_replicate,length_replicate],λi v l o a=>?_,λi j v F _ o _ k p=>?_,λi v o k p=>?_⟩,d,length_replicate,λr C=>⟨?_,?_⟩,λr G _ _ E=>?_,λk t=>?_⟩,?_,?_,Dn.new M n⟩
 ·have e:((List.replicate (2*n+1) xQ).drop (r*n)).take n=List.replicate n xQ:=by
   rw[List.drop_replicate,List.take_replicate];congr 1;have:r=0\/r=1:=by omega
   rcases this with rfl|rfl<;>omega
  rw[e];have:r=0\/r=1:=by omega
  unfold Rw;rw[b];rcases this with rfl|rfl
  ·exact x
  ·exact z
 ·rw[f o,q a];exact iu.nil _ _ _
 ·rw[f o]at p;cases p
 ·rw[f o]at p;cases p
 ·unfold usX Rw;rw[b];have:r=0\/r=1:=by omega
  rcases this with rfl|rfl<;>omega
 ·unfold Rw;omega
 ·unfold Rw;omega
 ·unfold usX at t;rw[b]at t;rcases t with rfl|rfl|rfl|rfl
  ·exact d.wf _ _ x
  ·exact d.wf _ _ z
  ·exact d.wf _ _ u
  ·exact d.wf _ _ y
 ·rw[b];show g.get (N+4)=_;rw[u];unfold Rw;rw[b]
 ·rw[b];show g.get (N+5)=_;rw[y];unfold Rw;rw[b]
theorem qI{c:Nat}{L:List Bool}(a:h.get m=some (.cells (L.map Value.bool) 4 1 true))(b:L.length=j){x:Nat}(d:x<j):ai SS.P 68 (.slice (some ⟨m,0,none⟩) j c) (.int .i64 (x:Int))=some (.pointer (some ⟨m,x,none⟩))/\ae SS.P 4 h (.pointer (some ⟨m,x,none⟩))=some (.bool (L.getD x false)):=by
 refine⟨?_,?_⟩
 ·have:=FU (P:=SS.P) Q9 ab0 (k:=m) (off:=0) (n:=j) (c:=c) (ik:= .i64) (i:=(x:Int)) (by omega) (by omega);rw[this,toNat_natCast,zero_add,mul_one]
 ·rw[aR un4 ag4 a (by rw[lM];omega),gD,getElem?_map,gD,gE (by omega)];rfl
def aaS(f:aa)(d e n:Nat)(b a:List Bool)(c i:Nat)(g:aa):Prop:=i<=n/\c=n-i/\∃L,BR f d n L g/\g.get e=some (.cells (a.map Value.bool) 4 1 true)/\∀x,L.getD x false=if x<i then(b.getD x false&&a.getD x false)else b.getD x false
theorem DR(w:Wf g){a f n:Nat}{j d:List Bool}{l i:Nat}{r:aa}(h:aaS g a f n j d l i r)(B:d.length=n)(o:f≠a)(y:i<n){b:Bool}(q:b=(j.getD i false&&d.getD i false)):
  ∃u:bp,aj SS.P 4 (.pointer (some ⟨a,i,none⟩)) (.bool b) r=some (undef,u)/\aaS g a f n j d (l-1) (i+1) (u.app r):=by
 obtain⟨F,E,L,m,A,t⟩:=h;obtain⟨C,D,k⟩:=m.get (c:=n) (x:=(i:Int)) (by omega) (by omega);rw[toNat_natCast]at k;obtain⟨u,z,v,s⟩:=k b w;refine⟨u,z,by omega,by omega,_,v,s _ _ A o,λx=>?_⟩;rw[Lt (by rw[m.len];exact y),t x];by_cases e:x=i
 ·subst e;rw[if_pos rfl,if_pos (by omega),q]
 ·rw[if_neg e];by_cases p:x<i
  ·rw[if_pos p,if_pos (by omega)]
  ·rw[if_neg p,if_neg (by omega)]
def uQ(h:aa)(M:aG)(n:Nat):VH:=λv b=>∃a L,v = .slice (some ⟨a,0,none⟩) n n/\BR h a n L b/\∀x,x<n->(L.getD x false=true↔fU M x)
theorem BR.base{a:aa}{L:List Bool}(b:BR g n m L a)(o:Ok h g):BR h n m L a:=⟨b.len,b.row.row,Nat.le_trans o.nx b.row.new,o.trans b.row.ok⟩
section
section
variable {h:aa} {M:aG} {a:Option Addr} {n c:Nat}
theorem Er(a:i<M.ak.length):∃s,M.ak[i]?=some s:=⟨_,gE a⟩
theorem OB(d:Good M){y x:Nat}(h:iK M y x):x<M.ak.length:=by
 obtain⟨s,c,a⟩:=h;unfold zl at a;obtain⟨q,b,rfl⟩:=mem_map.1 a;have:=d.an s (List.mem_of_getElem? c) q b;have:=this.t1;have:= ‹Hx _ q›.t0;omega
theorem Cs{x:Nat}(h:iK M m x):m<M.ak.length:=by
 obtain⟨s,a,b⟩:=h;exact(List.getElem?_eq_some_iff.1 a).1
set_option linter.defProp false in
def Kg(B:Wf h){k p:Nat}{E l:List Bool}(F:∀x,E.getD x false=true↔iz (iK M) (λy=>y=M.start.toNat) x)(D:∀x,l.getD x false=true↔iz (λy x=>iK M x y) (PC M) x)(f:l.length=n)(o:p≠k)(O:n<=300)(Q:VH)(J:∀v A,uQ h M n v A->Q v A)(G:List Value):=
 wF G n k p (aaS h k p n E l) Q (by
  intro m i;intros;rename_i g d;have H:=d;obtain⟨S,R,L,q,K,C⟩:=H;refine ah (λj=>?_) (λj=>?_)
  ·have j:=dT j;have a:i<n:=by omega
   obtain⟨N,I⟩:=qI (c:=n) K f a;obtain⟨s,z⟩:=qI (c:=n) q.row.row q.len a;have e:=C i;rw[if_neg (Nat.lt_irrefl i)]at e;rw[e]at z;refine⟨_,N,_,I,_,s,_,z,ah (λt=>?_) (λt=>?_)⟩
   ·obtain⟨u,w,r⟩:=DR B d f o a (b:=l.getD i false) (by rw[t];rfl);refine⟨_,s,u,w,?_⟩;rw[bA a (by omega)];exact cG (m-1) (by omega) r
   ·obtain⟨u,w,r⟩:=DR B d f o a (b:=false) (by rw[t];rfl);refine⟨_,s,u,w,?_⟩;rw[bA a (by omega)];exact cG (m-1) (by omega) r
  ·have j:=dF j;refine J _ _ ⟨k,L,rfl,q,λx P=>?_⟩;rw[C x,if_pos (by omega),and_eq_true,F,D];exact Iff.rfl)
theorem E3(w:Wf h)(sm:Small M)(O:Good M)(r:ey h (.slice a n c) M.ak):FW SS 96 [.agg ⟨bD M a n c⟩] h (uQ h M n):=by
 obtain⟨T,ok⟩:=nT w r;have hl:=T.len;have hn:n<=300:=by rw[hl];exact sm.RL
 refine Rx (bD M a n c) h _ ⟨_,oy M a n c,_,eJ _,_,_,_,T.l3,_,_,_,T4 n (by omega),_,_,_,T4 n (by omega),_,Z8,_,Z8,?_⟩;generalize h.push (Bm M a n c)=g0 at*;have Z:=ok.wf;obtain⟨x3,y3,y6,z1,x0⟩:=Hd Z M n;refine⟨x3,y3,y6,z1,?_⟩;have x9:=T.ok x0.us.ok;refine⟨_,eJ _,_,_,_,x9.l3,?_⟩;refine wD (bD M a n c) h.next (g0.next+4) (g0.next+5) a n c (ad8 g0 M n) (uQ h M n) (λmz i e en ec=>?_) n (i:=0) (e:=none) (en:=0) (ec:=0) ⟨by omega,rfl,_,_,0,x0,?_,?_⟩
 rotate_left
 ·rw[getElem?_replicate,if_pos (by omega)];rfl
 ·rw[drop_zero];have:=sm.tot;omega
 intros;rename_i P hi;obtain⟨f1,f2,vs,F,cN,d,D,z8⟩:=hi;have t:=d.us.ok;refine ah (λJ=>?_) (λJ=>?_)
 ·have J:=dT J;obtain⟨s,E⟩:=Er (M:=M) (i:=i) (by omega);obtain⟨b,o,x',y,z,e1,e2,e3,e4,ar⟩:=T.row.Kr t E;obtain⟨V,l2,l3⟩:=wB sm E;have f:=ar.len;have hd:mX (M.ak.drop i)=s.an.length+mX (M.ak.drop (i+1)):=by rw[mf E,si]
  obtain⟨u,p1,p2,p3⟩:=UK t.wf s.f x' y z;refine⟨_,e1,_,e2,_,aaQ,u,p1,_,pn _ _,_,p3.l0,?_⟩;have U2:=d.us.ext p2;have B4:=d.b4.ok p2;have B5:=d.b5.ok p2;have z9:=d.us.xlt;have y7:=d.us.Ks;have z3:=t.wf;generalize u.app (P.push RO)=g2 at*;refine ah (λB=>?_) (λB=>?_)
  ·have B:s.f≠[]:=by simpa using B
   have C:=(Ok.refl U2.ok.wf).push (.cells [.int .i64 (i:Int)] 3 1 true);have kp:=aI g2 (.cells [.int .i64 (i:Int)] 3 1 true);have A:=U2.ext C;obtain⟨p,m⟩:∃p,F[2*n]?=some p:=⟨_,gE (by rw[d.us.len];omega)⟩
   have x2:=d.dn.ln p (List.mem_of_getElem? m);obtain⟨b',n',c',y5,x4,z7,y9,z2,N,x5⟩:=A.Ks.snoc Z A.ok A.xlt D m kp (by omega);have nX:∀k,usX g0 k->bZ (.slice e en ec)≠some k:=λk hX e'=>A.Ks.out _ _ D k e' hX;have U4:=A.tail rfl rfl y9 z2 (λj' B' hj hX=>N j' B' hj (nX j' hX)) x5;have RO:=N _ _ (B4.ok C) (nX _ (.inr (.inr (.inl rfl))));have y2:=N _ _ (B5.ok C) (nX _ (.inr (.inr (.inr rfl))));have S4:=N _ _ (p3.ok C) (λe'=>by have:=y7.lt z3 D e';omega);refine⟨_,_,_,tG _,b',n',c',y5,x4,_,iw _ _,_,_,_,SB.l1 S4,?_⟩;have z4:(vs.length)=2*n+1:=by rw[d.us.Ks.len];exact d.us.len
   exact Kf Z O hl hn E (by omega) ar V [] b' n' c' mz f2 _ y (j:=0) ⟨by omega,by omega,_,_,cN+1,⟨U4,RO,y2,d.dn.fin (by omega) E B m⟩,by rw[getElem?_set,if_pos rfl,if_pos (by omega)],by omega⟩
  ·have B:s.f=[]:=by simpa using B
   refine⟨_,iw _ _,_,_,_,p3.l1,?_⟩;exact Kf Z O hl hn E (by omega) ar V [] e en ec mz f2 _ y (j:=0) ⟨by omega,by omega,vs,F,cN+1,⟨U2,B4,B5,d.dn.adD E B⟩,D,by omega⟩
 ·have J:=dF J;obtain rfl:n=i:=by omega
  have y0:=T.ok t;have z6:=O.ob;have z5:=O.rA;obtain⟨S,hS⟩:∃S:Nat,M.start=(S:Int):=⟨M.start.toNat,by omega⟩
  have u0:S<n:=by omega
  have x6:M.start.toNat=S:=by omega
  have V:=y0.l1;rw[hS]at V;have C:=(Ok.refl t.wf).push (.cells [.int .i64 (S:Int)] 3 1 true);have kp:=aI P (.cells [.int .i64 (S:Int)] 3 1 true);refine⟨_,pk _,_,V,_,_,_,tG _,?_⟩;have A:=d.us.ext C;have B4:=d.b4.ok C;have B5:=d.b5.ok C;have rf:Rd (P.push (.cells [.int .i64 (S:Int)] 3 1 true)) 3 (.slice (some ⟨P.next,0,none⟩) 1 1) ([S].map iv):= .inr ⟨P.next,0,_,1,true,rfl,kp,rfl⟩;have x1:=ok.trans (t.trans C);generalize P.push (.cells [.int .i64 (S:Int)] 3 1 true)=h1 at*;have w1:=x1.wf;have I:=A.adj (r:=0) (by omega);have H:=A.adj (r:=1) (by omega);have X:∀{y:Nat}{l:List Nat},((F.drop (0*n)).take n)[y]?=some l->y<n/\l.length<=2300/\∀x,x∈l↔iK M y x:=λ{y l} f=>by
   rw[getElem?_take]at f;split at f
   ·next q=>
    rw[getElem?_drop]at f;refine⟨q,by have:=d.dn.ln l (List.mem_of_getElem? f);omega,λx=>?_⟩;rw[d.dn.fw y l q f x,oH];exact⟨λc=>c.2,λc=>⟨q,c⟩⟩
   ·cases f
  have Y:∀{y:Nat}{l:List Nat},((F.drop (1*n)).take n)[y]?=some l->y<n/\l.length<=2300/\∀x,x∈l↔iK M x y:=λ{y l} f=>by
   rw[getElem?_take]at f;split at f
   ·next q=>
    rw[getElem?_drop]at f;refine⟨q,by have:=d.dn.ln l (List.mem_of_getElem? f);omega,λx=>?_⟩;rw[d.dn.bk y l q f x,oH];exact⟨λc=>c.2,λc=>⟨by rw[hl];exact Cs c,c⟩⟩
   ·cases f
  have x8:∀y x,C3 ((F.drop (0*n)).take n) y x↔iK M y x:=λy x=>by
   unfold C3;rw[gD]
   cases U:((F.drop (0*n)).take n)[y]? with
   |some l=>exact(X U).2.2 x
   |none=>
    refine⟨λc=>(by cases c),λc=>?_⟩;have:=Cs c;rw[List.getElem?_eq_none_iff,I.1]at U;omega
  have x7:∀y x,C3 ((F.drop (1*n)).take n) y x↔iK M x y:=λy x=>by
   unfold C3;rw[gD]
   cases U:((F.drop (1*n)).take n)[y]? with
   |some l=>exact(Y U).2.2 x
   |none=>
    refine⟨λc=>(by cases c),λc=>?_⟩;have:=OB O c;rw[List.getElem?_eq_none_iff,H.1]at U;omega
  obtain⟨p,m⟩:∃p,F[2*n]?=some p:=⟨_,gE (by rw[d.us.len];omega)⟩
  have x2:=d.dn.ln p (List.mem_of_getElem? m);have y8:Rd h1 3 (.slice e en ec) (p.map iv):=(A.Ks.own _ _ _ D m).rd;have R:∀x,x∈p↔PC M x:=λx=>by
   rw[d.dn.en p m x];refine⟨λc=>c.2,λc=>⟨?_,c⟩⟩;obtain⟨s,h2,_⟩:=c;have:=(List.getElem?_eq_some_iff.1 h2).1;omega
  refine(EN w1 (by omega) I.1 (λl g x G=>?_) (λl g=>?_) (Uf w1 B4 I) rf (λx G=>?_) (by simp)).mono ?_
  ·obtain⟨y,f⟩:=List.mem_iff_getElem?.1 g;have:=OB O ((X f).2.2 x |>.1 G);omega
  ·obtain⟨y,f⟩:=List.mem_iff_getElem?.1 g;have:=(X f).2.1;omega
  ·rw[mem_singleton]at G;omega
  rintro _ g3 ⟨kl,L1,rfl,Q,z0⟩;refine⟨_,_,_,rfl,?_⟩;have W:=Q.row.ok;refine(EN W.wf (by omega) H.1 (λl g x G=>?_) (λl g=>?_) (Uh W.wf (B5.ok W) (H.ok W)) (y8.ok W) (λx G=>?_) (by omega)).mono ?_
  ·obtain⟨y,f⟩:=List.mem_iff_getElem?.1 g;have:=Cs ((Y f).2.2 x |>.1 G);omega
  ·obtain⟨y,f⟩:=List.mem_iff_getElem?.1 g;have:=(Y f).2.1;omega
  ·obtain⟨s,h2,_⟩:=(R x).1 G;have:=(List.getElem?_eq_some_iff.1 h2).1;omega
  rintro _ g4 ⟨kr,L2,rfl,K,y1⟩;refine⟨_,_,_,rfl,?_⟩;have y4:kr≠kl:=by have:=Q.row.lt;have:=K.row.new;omega
  have J:∀x,L1.getD x false=true↔iz (iK M) (λy=>y=M.start.toNat) x:=λx=>by
   rw[z0 x];exact ED x8 (λx=>by rw[mem_singleton,x6]) x
  have B:∀x,L2.getD x false=true↔iz (λy x=>iK M x y) (PC M) x:=λx=>by
   rw[y1 x];exact ED x7 R x
  exact Kg (n:=n) w1 J B K.len y4 hn (uQ h M n) (λv g' ⟨k1,L,e1,e2,e3⟩=>⟨k1,L,e1,e2.base x1,e3⟩) (bD M a n c) n (i:=0) ⟨by omega,rfl,L1,Q.trans K.row.ok,K.row.row,λx=>by rw[if_neg (not_lt_zero _)]⟩
noncomputable def A7(M:aG):Bool:=cL M && !(@decide (fU M M.start.toNat) (Classical.propDecidable _))
theorem H2{p:Prop}(h:b=true↔p):b=@decide p (Classical.propDecidable _):=by
 cases b with
 |true=>exact(@decide_eq_true p (Classical.propDecidable _) (h.1 rfl)).symm
 |false=>exact(@decide_eq_false p (Classical.propDecidable _) (λc=>by cases h.2 c)).symm
theorem En(A:rK h)(w:Wf h)(k:Small M)(r:ey h (.slice a n c) M.ak):FW SS 104 [.agg ⟨bD M a n c⟩] h (λv z=>v = .bool (A7 M)/\Ok h z):=by
 obtain⟨u,p⟩:=nT w r;refine P0 (bD M a n c) h _ ⟨_,oy M a n c,?_⟩;generalize h.push (Bm M a n c)=g at*;have o:=(Ok.refl p.wf).room 12;have d:=u.ok o;have e:=p.trans o;refine⟨_,d.all,(rW (A.ok e) e.wf k d.row).mono ?_⟩;rintro _ C ⟨rfl,m⟩;have f:=e.trans m;have b:=d.ok m;refine⟨_,rfl,ah (λq=>?_) (λq=>⟨?_,f⟩)⟩
 rotate_left
 ·unfold A7;rw[q];rfl
 have j:=rD q;have D:=b.len;have F:=j.ob;have E:=j.rA;refine⟨_,b.all,(E3 f.wf k j b.row).mono ?_⟩;rintro _ G ⟨B,L,rfl,i,t⟩;have l:=b.ok i.row.ok;obtain⟨s,y⟩:=qI (c:=n) i.row.row i.len (x:=M.start.toNat) (by omega);rw[show((M.start.toNat:Nat):Int)=M.start by omega]at s;refine⟨_,_,_,rfl,_,pk _,_,l.l1,_,s,_,y,⟨b.l1,OM _⟩,?_,f.trans i.row.ok⟩;unfold A7;rw[q,Bool.true_and,H2 (t M.start.toNat (by omega))]
end
end
section
section
variable {h:aa} {M:aG} {a:Option Addr} {n c:Nat}
theorem Kh(r:ey g (.slice a n c) M.ak):df 4 (.agg ⟨bD M a n c⟩) (.agg ⟨bD M a n c⟩)=true:=by
 obtain⟨h,j,⟨_,⟨b|b,_⟩|⟨k,e,cs,i,z,f,l,b,_⟩⟩,_,d⟩:=r
 ·rw[show bD M a n c=[.int .i64 M.kind,.int .i64 M.start,strOf M.lead,.slice none 0 0] by unfold bD;rw[b]];simp[df,wN,strOf]
 ·exact absurd b d
 ·rw[show bD M a n c=[.int .i64 M.kind,.int .i64 M.start,strOf M.lead,.slice (some ⟨k,e,none⟩) (h.map sg).length f] by unfold bD;rw[b]];simp[df,wN,strOf]
end
end
variable{T:TypeId}
section
noncomputable def abO:TypeInfo:=(dC SS.P 46).getD default
theorem Zd:dC SS.P 46=some abO:=by kernel_rfl
theorem QS:abO.size=4:=by kernel_rfl
theorem Mr:abO.bytes=40:=by kernel_rfl
theorem afc:ch SS.P 42=true:=by kernel_rfl
theorem aeC(q:bJ):az SS.P 42 1 [(0,.agg ⟨gV q⟩)]=some (.cells (gV q) 46 4 true,jE 1 1):=by kernel_rfl
theorem Zy{l:List (fF×Value)}:∀r∈l.map sg,r.length=2:=λr a=>by
 obtain⟨q,_,rfl⟩:=mem_map.1 a;rfl
structure iT(h0 h:aa)(v:Value)(ps:List (fF×Value)):Prop where
 row:eZ h0 h 44 2 v (ps.map sg)
 an:∀(i:Nat)(p:fF×Value),ps[i]?=some p->eZ h0 h 46 4 p.2 (p.1.an.map gV)
 ne:∀(i:Nat)(p:fF×Value),ps[i]?=some p->∀k,bZ p.2=some k->bZ v≠some k
 RH:∀(i j:Nat)(p q:fF×Value),i≠j->ps[i]?=some p->ps[j]?=some q->∀k,bZ p.2=some k->bZ q.2≠some k
section
variable {hb g g':aa} {v:Value} {ps:List (fF×Value)}
theorem iT.ok(m:iT hb g v ps)(o:Ok g g'):iT hb g' v ps:=⟨m.row.ok o,λi p a=>(m.an i p a).ok o,m.ne,m.RH⟩
theorem iT.nd(m:iT hb g v ps):v≠sV:=by
 obtain⟨_,⟨a,_⟩|⟨k,b,cs,c,a,_⟩⟩:=m.row
 ·rw[a];intro e;unfold sV at e;injection e with e _ _;cases e
 ·rw[a];intro e;unfold sV at e;injection e with e _ _;injection e with e;injection e with _ _ e;cases e
theorem iT.st(m:iT hb g v ps):ey g v (ps.map (·.1)):=
 ⟨ps,rfl,m.row.rd,λp b=>by
  obtain⟨i,a,e⟩:=List.mem_iff_getElem.1 b;exact(m.an i p (by rw[gE a,e])).rd,m.nd⟩
theorem iT.nil(hb g:aa):iT hb g (.slice none 0 0) []:=⟨eZ.nil _ _ _ _,λi p a=>by simp at a,λi p a=>by simp at a,λi j p q _ a=>by simp at a⟩
theorem GY{cs:List Value}{z:Nat}(a:g.get n=some (.cells cs T z b))(c:cs.length=m):cQ g m (.slice (some ⟨n,0,none⟩) 1 1)=some (([cs]:List (List Value)).flatten,1):=by
 show(match g.get n with|some (.cells cs ..)=>if((cs.drop 0).take (1*m)).length=1*m then some ((cs.drop 0).take (1*m),1)else none|_=>none)=_;rw[a];dsimp only;rw[drop_zero,one_mul,take_of_length_le (by omega),if_pos c];simp
theorem Sh(w:Wf hb)(m:Ok hb g){x:Value}{a:List bJ}(k:eZ hb g 46 4 x (a.map gV)){q:bJ}{f:Nat}(e:g.get f=some (.cells (gV q) 46 4 true))(p:a.length<=100000):
  ∃(b:Option Addr)(n c:Nat)(u:bp),aJ SS.P 42 42 x (.slice (some ⟨f,0,none⟩) 1 1) g=some (.slice b n c,u)/\eZ hb (u.app g) 46 4 (.slice b n c) ((a++[q]).map gV)/\Ok hb (u.app g)/\
   (∀j B,g.get j=some B->bZ x≠some j->(u.app g).get j=some B)/\(∀j,bZ (.slice b n c)=some j->g.next<=j\/bZ x=some j)/\g.next<=(u.app g).next:=by
 have d:(a.map gV).length=a.length:=lM ..;obtain⟨b,n,c,u,i,s,h,l⟩:=eZ.add Vk Zd QS afc w m k (ns:=[gV q]) (GY e rfl) (λr o=>by rw[mem_singleton.1 o];rfl) rfl (by rw[Mr,d,length_singleton];omega) (by rw[d,length_singleton];omega) (.inl (Nat.le_refl _));exact⟨b,n,c,u,i,by rw[map_append];exact h,l⟩
end
end
section
section
variable {hb g g':aa} {k off n c:Nat} {ps:List (fF×Value)}
theorem BH{ps:List (fF×Value)}(p:fF×Value):(ps.set i p).map sg=(ps.map sg).set i (sg p):=by rw[map_set]
theorem iT.abS(w:Wf hb)(K:Ok hb g)(m:iT hb g (.slice (some ⟨k,off,none⟩) n c) ps){i:Nat}{p:fF×Value}(C:ps[i]?=some p)(f:List UInt8):
  ∃u:bp,aj SS.P 9 (.pointer (some ⟨k,off+i*2+0,none⟩)) (strOf f) g=some (undef,u)/\iT hb (u.app g) (.slice (some ⟨k,off,none⟩) n c) (ps.set i (⟨f,p.1.an⟩,p.2))/\Ok hb (u.app g)/\(∀j B,g.get j=some B->k≠j->(u.app g).get j=some B)/\(u.app g).next=g.next:=by
 obtain⟨u,H,I,F,A,M⟩:=m.row.put (e:=44) (t':=9) (by kernel_rfl) w K (i:=i) (j:=0) (r:=sg p) (by rw[getElem?_map,C];rfl) (by omega) (v':=strOf f) rfl rfl;have h:∀{j:Nat}{q:fF×Value},(ps.set i (⟨f,p.1.an⟩,p.2))[j]?=some q->∃d,ps[j]?=some d/\q.2=d.2/\q.1.an=d.1.an:=λ{j q} b=>by
  rw[getElem?_set]at b;split at b
  ·next e=>
   subst e;split at b
   ·obtain rfl:=oI b;exact⟨p,C,rfl,rfl⟩
   ·cases b
  ·exact⟨q,b,rfl,rfl⟩
 refine⟨u,H,⟨by rw[BH];exact I,λj q b=>?_,λj q b l a=>?_,λG N Q O z v D l a=>?_⟩,F,A,M⟩
 ·obtain⟨d,o,s,t⟩:=h b;rw[s,t];exact(m.an j d o).jO λl B a E=>A l B E (λe=>m.ne j d o l a (by rw[<-e];rfl))
 ·obtain⟨d,o,s,t⟩:=h b;rw[s]at a;exact m.ne j d o l a
 ·obtain⟨x,o,s,t⟩:=h v;obtain⟨y,J,L,P⟩:=h D;rw[s]at a;rw[L];exact m.RH G N x y z o J l a
theorem iT.ae6(w:Wf hb)(I:Ok hb g')(m:iT hb g (.slice (some ⟨k,off,none⟩) n c) ps){i:Nat}{p:fF×Value}(v:ps[i]?=some p)(H:∀j B,g.get j=some B->bZ p.2≠some j->g'.get j=some B){b:Option Addr}{o l:Nat}{s:List bJ}(Y:eZ hb g' 46 4 (.slice b o l) (s.map gV))(L:∀j,bZ (.slice b o l)=some j->g.next<=j\/bZ p.2=some j)(J:Wf g):
  ∃u:bp,aj SS.P 42 (.pointer (some ⟨k,off+i*2+1,none⟩)) (.slice b o l) g'=some (undef,u)/\iT hb (u.app g') (.slice (some ⟨k,off,none⟩) n c) (ps.set i (⟨p.1.f,s⟩,.slice b o l))/\Ok hb (u.app g')/\(∀j B,g'.get j=some B->k≠j->(u.app g').get j=some B)/\(u.app g').next=g'.next:=by
 have P:bZ p.2≠some k:=λe=>m.ne i p v k e rfl;have D:eZ hb g' 44 2 (.slice (some ⟨k,off,none⟩) n c) (ps.map sg):=m.row.jO λd B a y=>H d B y (λe=>m.ne i p v d e a);obtain⟨u,U,W,R,E,h5⟩:=D.put (e:=44) (t':=42) (by kernel_rfl) w I (i:=i) (j:=1) (r:=sg p) (by rw[getElem?_map,v];rfl) (by omega) (v':= .slice b o l) (aV ..) (by cases b<;>rfl);have x0:i<ps.length:=(List.getElem?_eq_some_iff.1 v).1;have C:bZ (.slice b o l)≠some k:=λe=>by
  rcases L k e with h|h
  ·have:=(m.row.lt J (k:=k) rfl).1;omega
  ·exact P h
 have t:∀{j:Nat}{q:fF×Value},(ps.set i (⟨p.1.f,s⟩,.slice b o l))[j]?=some q->(j=i/\q=(⟨p.1.f,s⟩,.slice b o l))\/(j≠i/\ps[j]?=some q):=λ{j q} f=>by
  rcases br f with⟨e,F⟩|⟨e,f⟩
  ·exact .inl ⟨e,F⟩
  ·exact .inr ⟨e,f⟩
 have z:∀{j:Nat}{q:fF×Value},j≠i->ps[j]?=some q->∀d,bZ q.2=some d->bZ (.slice b o l)≠some d:=λ{j q} x f d a e=>by
  rcases L d e with h|h
  ·have:=((m.an j q f).lt J a).1;omega
  ·exact m.RH j i q p x f v d a h
 refine⟨u,U,⟨by rw[BH];exact W,λj q f=>?_,λj q f d a=>?_,λS j2 Z T A G N d a=>?_⟩,R,E,h5⟩
 ·rcases t f with⟨rfl,rfl⟩|⟨x,f⟩
  ·exact Y.jO λd B a y=>E d B y (λe=>C (by rw[e];exact a))
  ·exact(m.an j q f).jO λd B a y=>E d B (H d B y (λe=>m.RH j i q p x f v d a e)) (λe=>m.ne j q f d a (by rw[<-e];rfl))
 ·rcases t f with⟨rfl,rfl⟩|⟨x,f⟩
  ·exact λe=>C (by rw[a,<-e];rfl)
  ·exact m.ne j q f d a
 ·rcases t G with⟨Q,F⟩|⟨x,O⟩<;>rcases t N with⟨V,X⟩|⟨M,K⟩
  ·exact absurd (Q.trans V.symm) A
  ·rw[F]at a;exact λe=>z M K d e a
  ·rw[X];exact z x O d a
  ·exact m.RH S j2 Z T A O K d a
theorem iT.at_(m:iT hb g (.slice (some ⟨k,off,none⟩) n c) ps){i:Nat}{p:fF×Value}(e:ps[i]?=some p):
  ai SS.P 22 (.slice (some ⟨k,off,none⟩) n c) (.int .i64 (i:Int))=some (.pointer (some ⟨k,off+i*2,none⟩))/\ae SS.P 42 g (.pointer (some ⟨k,off+i*2+1,none⟩))=some p.2/\ae SS.P 44 g (.pointer (some ⟨k,off+i*2,none⟩))=some (.agg ⟨sg p⟩):=by
 obtain⟨b,d,a⟩:=m.row.at_ Cn VL (i:=i) (r:=sg p) (by rw[getElem?_map,e];rfl) .i64;exact⟨b,by rw[d 42 _ 1 Vk aaL (by omega)];rfl,a _ aeg acA⟩
end
noncomputable def ab7:TypeInfo:=(SS.P.info? 44).getD default
theorem ZF:SS.P.info? 44=some ab7:=by kernel_rfl
theorem Rp:ab7.size=2:=by kernel_rfl
theorem M5:ab7.bytes=40:=by kernel_rfl
def Hq:fF×Value:=(⟨[],[]⟩,.slice none 0 0)
theorem acp:zeroOf SS.P 44=some (.agg ⟨sg Hq⟩):=by kernel_rfl
theorem adz(n:Nat)(a:n<=100000):aX SS.P 22 (.int .i64 (n:Int)) (.int .i64 (n:Int))=some (.cells ((List.replicate n Hq).map sg).flatten 44 2 true,jE n n):=by
 unfold aX aT;dsimp only;rw[Cn]
 try dsimp only
 change (match SS.P.info? 44,zeroOf SS.P 44 with
  |some i,some z=>(if z.cells.size=i.size/\0<i.size/\(0:Int)<=(n:Int)/\(n:Int)<=(n:Int)/\(n:Int)*i.bytes<=140737488355328/\(n:Int)<=1099511627776 then some (bu.cells (bO z.cells.toList (n:Int).toNat) 44 i.size true,λk=>Value.slice (some ⟨k,0,none⟩) (n:Int).toNat (n:Int).toNat)else none)
  |_,_=>none)=_
 rw[ZF,acp];dsimp only;rw[Rp,M5,if_pos ⟨rfl,by omega,by omega,Int.le_refl _,by omega,by omega⟩];have e:((n:Int)).toNat=n:=by omega
 rw[e,show(Value.agg ⟨sg Hq⟩).cells.toList=sg Hq from rfl,wK,map_replicate];rfl
theorem iT.made{hb g:aa}{k n:Nat}(h:g.get k=some (.cells ((List.replicate n Hq).map sg).flatten 44 2 true))(e:hb.next<=k)(l:n<=100000):iT hb g (.slice (some ⟨k,0,none⟩) n n) (List.replicate n Hq):=by
 have c:∀{i:Nat}{p:fF×Value},(List.replicate n Hq)[i]?=some p->p=Hq:=λ{i p} a=>by
  rw[getElem?_replicate]at a;split at a
  ·exact(oI a).symm
  ·cases a
 have d:((List.replicate n Hq).map sg).length=n:=by simp
 have:=eZ.made (h0:=hb) h Zy e (by rw[d];unfold cj;omega);rw[d]at this;exact⟨this,λi p a=>(by rw[c a];exact eZ.nil _ _ _ _),λi p a f b=>(by rw[c a]at b;cases b),λi j p q _ a m f b=>(by rw[c a]at b;cases b)⟩
def eS:List Nat->Nat->Nat->Int
 |[],_,_=> -1
 |o::r,i,x=>if o=x then(i:Int)else eS r (i+1) x
theorem Ev:∀(l:List Nat)(i o x:Nat),o∉l->eS (l++[o]) i x=if x=o then((i+l.length:Nat):Int)else eS l i x
 |[],i,o,x,_=>by
  show(if o=x then(i:Int)else -1)=if x=o then((i+0:Nat):Int)else -1;by_cases h:x=o
  ·rw[if_pos h,if_pos h.symm];rfl
  ·rw[if_neg h,if_neg (λe=>h e.symm)]
 |y::l,i,o,x,a=>by
  have b:¬o=y:=λe=>a (e▸mem_cons_self ..);have c:=Ev l (i+1) o x (λh=>a (List.mem_cons_of_mem _ h));show(if y=x then(i:Int)else eS (l++[o]) (i+1) x)=if x=o then _ else(if y=x then(i:Int)else eS l (i+1) x);rw[c,length_cons];by_cases h:x=o
  ·rw[if_pos h,if_pos h,if_neg (by rw[h];exact λe=>b e.symm)];congr 1;omega
  ·rw[if_neg h,if_neg h]
theorem oF:∀(l:List Nat)(i x:Nat),eS l i x = -1\/((i:Int)<=eS l i x/\eS l i x<((i+l.length:Nat):Int))
 |[],i,x=> .inl rfl
 | o::l,i,x=>by
  unfold eS;split
  ·right;rw[length_cons];omega
  ·rcases oF l (i+1) x with h|h
   ·exact .inl h
   ·right;rw[length_cons];omega
theorem Jl:∀(l:List Nat)(i x:Nat),eS l i x≠ -1↔x∈l
 |[],i,x=>by simp[eS]
 | o::l,i,x=>by
  unfold eS;split
  ·next h=>exact⟨λ_=>h▸mem_cons_self ..,λ_=>by omega⟩
  ·next h=>
   rw[Jl l (i+1) x];exact⟨λa=>List.mem_cons_of_mem _ a,λa=>(mem_cons.1 a).resolve_left λe=>h e.symm⟩
def fS(a:List Nat)(q:bJ):Option bJ:=if eS a 0 q.t.toNat = -1 then none else some ⟨q.i,q.o,q.w,eS a 0 q.t.toNat⟩
def qk(M:aG)(a:List Nat)(s:Nat):fF:=⟨(M.ak.getD s ⟨[],[]⟩).f,(M.ak.getD s ⟨[],[]⟩).an.filterMap (fS a)⟩
def ix(M:aG)(a:List Nat):aG:=⟨M.kind,eS a 0 M.start.toNat,M.lead,a.map (qk M a)⟩
def adF(h:aa)(M:aG):VH:=λv b=>∃(a:Option Addr)(n c:Nat)(ps:List (fF×Value)),v = .agg ⟨bD M a n c⟩/\ps.map (·.1)=M.ak/\iT h b (.slice a n c) ps/\Ok h b
structure AF(N:Nat)(ord:List Nat):Prop where
 lt:∀x∈ord,x<N
 nd:ord.Nodup
end
noncomputable def LI:FD:=dY Tryz.f97 []
theorem I4(a:Int)(h:aa)(Q:VH)(l:xN (aA SS.P 24) h λr b=>aS (decide ((a:Int)<1)) (xA (aD SS.P 24 []) λm=>xU (aj SS.P 24 (pA (h.next)) (.agg ⟨m⟩) b) b λs p=>dq SS [((pA (h.next)),some 24),((.int .i64 1),none)] p Q) (aS (decide ((a:Int)>3)) (xA (aD SS.P 24 []) λn=>xU (aj SS.P 24 (pA (h.next)) (.agg ⟨n⟩) b) b λt k=>dq SS [((pA (h.next)),some 24),((.int .i64 1),none)] k Q) (FW SS 24 [(.int .i64 a)] (room b 7) λo d=>yS o λj=>zR (aX SS.P 22 (.int .i64 1) (.int .i64 1)) λc e f=>xA (aD SS.P 24 [(0,(.int .i64 a)),(2,(strOf j)),(3,(sA (b.next+3) e f))]) λi=>xU (aj SS.P 24 (pA (h.next)) (.agg ⟨i⟩) (aw d b.next [(3,c)])) (aw d b.next [(3,c)]) λq g=>dq SS [((pA (h.next)),some 24),((.int .i64 0),none)] g Q))):FW SS 97 [(.int .i64 a)] h Q:=eh LI Tryz.func97 (av l)
noncomputable def abR:FD:=dY Tryz.f24 []
theorem Zm(a:Int)(h:aa)(Q:VH)(g:FW SS 67 [(.int .i64 a)] h λj c=>∃b:LV,∃i:Bool,j=(.tuple ⟨[(.agg ⟨b⟩),(.bool i)]⟩)/\xN (aA SS.P 100) c λm f=>xU (aj SS.P 100 (pA (c.next)) (.agg ⟨b⟩) f) f λl d=>xP (af SS.P 100 (pA (c.next)) 1) λk=>xS (ae SS.P 9 d (.pointer (some k))) λe=>Q (strOf e) d):FW SS 24 [(.int .i64 a)] h Q:=eh abR Tryz.func24 (av g)
noncomputable def aaV:FD:=dY Tryz.f164 []
theorem Xd(x y:Int)(h:aa)(Q:VH)(c:FW SS 197 [(.int .u64 x),(.int .u64 y)] h λe d=>∃a:Int,∃b:Int,e=(.tuple ⟨[(.int .u64 a),(.int .u64 b)]⟩)/\Q (.tuple ⟨[(.int .u64 a),(.int .u64 b)]⟩) d):FW SS 164 [(.int .u64 x),(.int .u64 y)] h Q:=eh aaV Tryz.func164 (av c)
noncomputable def iJ:FD:=dY Tryz.f135 [([1,1,1,1,1,1,0,0,0],[7,8])]
abbrev mO(e:OA)(a b:Nat)(j:Int):LV:=[(.slice e a b),(.int .i64 j)]
theorem Q2(a:OA)(n c:Nat)(x:Int)(h:aa)(Q:VH)(l:aS (decide ((x:Int)<0)) (False) (FW SS 164 [(.int .u64 (wrap .u64 (n:Int))),(.int .u64 (wrap .u64 x))] h λm d=>∃e:Int,∃b:Int,m=(.tuple ⟨[(.int .u64 e),(.int .u64 b)]⟩)/\aS (decide ((e:Int)>0)) (False) (aS (decide ((b:Int)>9223372036854775807)) (False) (xR (aX SS.P 27 (.int .i64 (wrap .i64 b)) (.int .i64 (wrap .i64 b))) d λp i f g=>xC (copyV SS.P 27 (sA (d.next) i f) (.slice a n c) g) g λk o j=>LL SS iJ [1,1,1,1,1,1,0,0,0] [(sA (d.next) i f),(.int .i64 k)] j (KK SS iJ [1,1,1,1,1,1,0,0] [] (EE SS iJ Q)))))):FW SS 135 [(.slice a n c),(.int .i64 x)] h Q:=eh iJ Tryz.func135 (av l)
theorem we(a:OA)(n c:Nat)(x:Int)(e:OA)(b f:Nat)(g:Nat->Int->aa->Prop)(Q:VH)(step:∀(d:Nat) (j:Int) (r:Nat->Value) (h:aa),g d j h->aS (decide ((j:Int)<(b:Int))) (xL (bE SS.P 27 (.slice e b f) (some (.int .i64 j)) none none (room h 10)) λl p s=>xL (bE SS.P 27 (.slice e b f) none (some (.int .i64 j)) none (room h 10)) λm o k=>xC (copyV SS.P 27 (.slice l p s) (.slice m o k) (room h 10)) (room h 10) λq u t=>aH (fD (mO e b f) g) d [(.slice e b f),(.int .i64 (wrap .i64 (j+q)))] t) (Q (.slice e b f) h))(d:Nat){j:Int}{h:aa}(i:g d j h):LL SS iJ [1,1,1,1,1,1,0,0,0] (mO e b f j) h (KK SS iJ [1,1,1,1,1,1,0,0] [] (EE SS iJ Q)):=
 dN (mO e b f) g (λd j r h i=>av (step d j r h i)) d i
noncomputable def eA:FD:=dY Tryz.f98 [([1,1,0,1,0,0],[1,2,4,5,19,20,21]),([1,1,1,1,0,1,0,0],[2,4,5,8,44,45,46]),([1,1,1,1,0,1,0,0,1,1,0,0,1,1,1,1,0,0],[2,4,5,8,11,44,45,46,69,70,71])]
abbrev lU(a:OA)(n c k f:Nat)(e:OA)(b d:Nat)(i:Nat):LV:=[(.slice a n c),(pA k),(pA f),(.slice e b d),(.slice a n c),(iA n),(iA i)]
abbrev ie(a:OA)(n c k g b:Nat)(e:OA)(d f:Nat)(i:Nat):LV:=[(pA k),(pA g),(.slice e d f),(pA b),(.slice a n c),(iA n),(iA i)]
abbrev lV(a:OA)(n c k o f p l:Nat)(e:OA)(g h:Nat)(b:OA)(m d i:Nat)(j:Nat):LV:=[(pA k),(pA o),(.slice e g h),(pA f),(.pointer (some ⟨p,l,none⟩)),(.slice a n c),(iA n),(iA i),(.slice b m d),(iA m),(iA j)]
theorem YH(d:LV)(a:OA)(n c:Nat)(h:aa)(Q:VH)(p:xN (dp SS.P 24 (.agg ⟨d⟩)) h λu f=>xN (aA SS.P 24) f λv i=>xR (az SS.P 27 1 [(0,(.int .i64 (-1)))]) i λw q o j=>xP (af SS.P 24 (pA (h.next)) 3) λr=>xL (ae SS.P 22 j (.pointer (some r))) λs k t=>FW SS 135 [(sA (i.next) q o),(iA k)] j λl m=>yL l λe g b=>LL SS eA [1,1,0,1,0,0] (lU a n c (h.next) (f.next) e g b 0) m (KK SS eA [1,1,0,1,0] [] (EE SS eA Q))):FW SS 98 [(.agg ⟨d⟩),(.slice a n c)] h Q:=eh eA Tryz.func98 (av p)
theorem zI(I:LV)(a:OA)(n c:Nat)(k j:Nat)(e:OA)(d f:Nat)(g:Nat->Nat->aa->Prop)(Q:VH)(step:∀(b:Nat) (i:Nat) (w:Nat->Value) (h:aa),g b i h->aS (decide (((i:Int):Int)<(n:Int))) (xP (ai SS.P 27 (.slice a n c) (iA i)) λz=>xI .i64 (ae SS.P 3 h (.pointer (some z))) λu=>xP (ai SS.P 27 (.slice e d f) (.int .i64 u)) λx=>xU (aj SS.P 3 (.pointer (some x)) (iA i) h) h λG q=>aH (fD (lU a n c k j e d f) g) b [(.slice a n c),(pA k),(pA j),(.slice e d f),(.slice a n c),(iA n),(.int .i64 (wrap .i64 ((i:Int)+1)))] q) (xP (af SS.P 24 (pA k) 0) λp=>xI .i64 (ae SS.P 3 (room h 15) (.pointer (some p))) λr=>xP (af SS.P 24 (pA k) 1) λs=>xI .i64 (ae SS.P 3 (room h 15) (.pointer (some s))) λB=>xP (ai SS.P 27 (.slice e d f) (.int .i64 B)) λC=>xI .i64 (ae SS.P 3 (room h 15) (.pointer (some C))) λy=>xP (af SS.P 24 (pA k) 2) λE=>xS (ae SS.P 9 (room h 15) (.pointer (some E))) λv=>zR (aX SS.P 22 (iA n) (iA n)) λm F A=>xA (aD SS.P 24 [(0,(.int .i64 r)),(1,(.int .i64 y)),(2,(strOf v)),(3,(sA (h.next+11) F A))]) λt=>zN (aA SS.P 24) λl=>xU (aj SS.P 24 (pA (h.next+13)) (.agg ⟨t⟩) (aw (room h 15) h.next [(13,l),(11,m)])) (aw (room h 15) h.next [(13,l),(11,m)]) λH D=>LL SS eA [1,1,1,1,0,1,0,0] (ie a n c k j (h.next+13) e d f 0) D (KK SS eA [1,1,1,1,0,1,0] [] (EE SS eA Q))))(b:Nat){i:Nat}{h:aa}(o:g b i h):LL SS eA [1,1,0,1,0,0] (lU a n c k j e d f i) h (KK SS eA [1,1,0,1,0] [] (EE SS eA Q)):=
 dN (lU a n c k j e d f) g (λb i w h o=>av (step b i w h o)) b o
theorem zJ(T:LV)(a:OA)(n c:Nat)(k g f:Nat)(e:OA)(l m:Nat)(d:Nat->Nat->aa->Prop)(Q:VH)(step:∀(b:Nat) (i:Nat) (H:Nat->Value) (h:aa),d b i h->aS (decide (((i:Int):Int)<(n:Int))) (xP (ai SS.P 27 (.slice a n c) (iA i)) λP=>xI .i64 (ae SS.P 3 h (.pointer (some P))) λp=>xP (af SS.P 24 (pA f) 3) λA=>xL (ae SS.P 22 h (.pointer (some A))) λt v O=>xP (ai SS.P 22 (.slice t v O) (iA i)) λq=>xP (af SS.P 24 (pA k) 3) λJ=>xL (ae SS.P 22 h (.pointer (some J))) λK G C=>xP (ai SS.P 22 (.slice K G C) (.int .i64 p)) λE=>xP (af SS.P 44 (.pointer (some E)) 0) λs=>xS (ae SS.P 9 h (.pointer (some s))) λN=>xP (af SS.P 44 (.pointer (some q)) 0) λB=>xU (aj SS.P 9 (.pointer (some B)) (strOf N) h) h λS j=>xP (af SS.P 24 (pA k) 3) λF=>xL (ae SS.P 22 j (.pointer (some F))) λy D z=>xP (ai SS.P 22 (.slice y D z) (.int .i64 p)) λu=>xP (af SS.P 44 (.pointer (some u)) 1) λw=>xL (ae SS.P 42 j (.pointer (some w))) λL o x=>LL SS eA [1,1,1,1,0,1,0,0,1,1,0,0,1,1,1,1,0,0] [(pA k),(pA g),(.slice e l m),(pA f),(.pointer (some q)),(.slice a n c),(iA n),(iA i),(.slice L o x),(iA o),(.int .i64 0)] j (KK SS eA [1,1,0,0,1,1,1,1,0] [1,1,1,1,0,1,0,0] (RR eA [1,1,1,1,0,1,0,0] (fD (ie a n c k g f e l m) d) b (KK SS eA [1,1,1,1,0,1,0] [] (EE SS eA Q))))) (xA (ae SS.P 24 h (pA f)) λI=>xU (aj SS.P 24 (pA g) (.agg ⟨I⟩) h) h λR M=>dq SS [((pA g),some 24)] M Q))(b:Nat){i:Nat}{h:aa}(r:d b i h):LL SS eA [1,1,1,1,0,1,0,0] (ie a n c k g f e l m i) h (KK SS eA [1,1,1,1,0,1,0] [] (EE SS eA Q)):=
 dN (ie a n c k g f e l m) d (λb i H h r=>av (step b i H h r)) b r
theorem zK(mv:LV)(a:OA)(n c:Nat)(k r q t s:Nat)(e:OA)(o p:Nat)(b:OA)(m d:Nat)(v:Nat->Nat->aa->Prop)(x i:Nat)(l:Nat->Nat->aa->Prop)(Q:VH)(step:∀(g:Nat) (j:Nat) (P:Nat->Value) (h:aa),l g j h->aS (decide (((j:Int):Int)<(m:Int))) (xP (ai SS.P 42 (.slice b m d) (iA j)) λS=>xA (ae SS.P 46 h (.pointer (some S))) λU=>xN (aA SS.P 46) h λx1 z=>xU (aj SS.P 46 (pA (h.next)) (.agg ⟨U⟩) z) z λx2 u=>xP (af SS.P 46 (pA (h.next)) 3) λH=>xI .i64 (ae SS.P 3 u (.pointer (some H))) λR=>xP (ai SS.P 27 (.slice e o p) (.int .i64 R)) λG=>xI .i64 (ae SS.P 3 u (.pointer (some G))) λJ=>xP (af SS.P 46 (pA (h.next)) 3) λD=>xU (aj SS.P 3 (.pointer (some D)) (.int .i64 J) u) u λZ f=>xP (af SS.P 46 (pA (h.next)) 3) λL=>xI .i64 (ae SS.P 3 f (.pointer (some L))) λI=>aS (((I:Int) !=(-1))) (xP (af SS.P 44 (.pointer (some ⟨t,s,none⟩)) 1) λW=>xL (ae SS.P 42 (room f 11) (.pointer (some W))) λX T N=>xA (ae SS.P 46 (room f 11) (pA (h.next))) λO=>zR (az SS.P 42 1 [(0,(.agg ⟨O⟩))]) λw K M=>xE (aJ SS.P 42 42 (.slice X T N) (sA (f.next+6) K M) (aw (room f 11) f.next [(6,w)])) (aw (room f 11) f.next [(6,w)]) λB C E Y y=>xP (af SS.P 44 (.pointer (some ⟨t,s,none⟩)) 1) λV=>xU (aj SS.P 42 (.pointer (some V)) (.slice B C E) y) y λx0 F=>aH (fD (lV a n c k r q t s e o p b m d i) l) g [(pA k),(pA r),(.slice e o p),(pA q),(.pointer (some ⟨t,s,none⟩)),(.slice a n c),(iA n),(iA i),(.slice b m d),(iA m),(.int .i64 (wrap .i64 ((j:Int)+1)))] F) (aH (fD (lV a n c k r q t s e o p b m d i) l) g [(pA k),(pA r),(.slice e o p),(pA q),(.pointer (some ⟨t,s,none⟩)),(.slice a n c),(iA n),(iA i),(.slice b m d),(iA m),(.int .i64 (wrap .i64 ((j:Int)+1)))] f)) (aH (fD (ie a n c k r q e o p) v) x [(pA k),(pA r),(.slice e o p),(pA q),(.slice a n c),(iA n),(.int .i64 (wrap .i64 ((i:Int)+1)))] h))(g:Nat){j:Nat}{h:aa}(A:l g j h):LL SS eA [1,1,1,1,0,1,0,0,1,1,0,0,1,1,1,1,0,0] (lV a n c k r q t s e o p b m d i j) h (KK SS eA [1,1,0,0,1,1,1,1,0] [1,1,1,1,0,1,0,0] (RR eA [1,1,1,1,0,1,0,0] (fD (ie a n c k r q e o p) v) x (KK SS eA [1,1,1,1,0,1,0] [] (EE SS eA Q)))):=
 dN (lV a n c k r q t s e o p b m d i) l (λg j P h A=>av (step g j P h A)) g A
noncomputable def pz:FD:=dY Tryz.f39 [([1,1,1,1,1,0,1,0,0],[1,2,5,25,26,27])]
abbrev iH(k b:Nat)(a:OA)(n c:Nat)(i:Nat)(t:OA)(tn tc:Nat):LV:=[(pA k),(pA b),(.slice t tn tc),(.slice a n c),(iA n),(iA i)]
theorem TY(l:LV)(h:aa)(Q:VH)(A:xN (dp SS.P 24 (.agg ⟨l⟩)) h λE b=>xN (aA SS.P 24) b λF n=>xA (ae SS.P 24 n (pA (h.next))) λB=>FW SS 30 [(.agg ⟨B⟩)] n λx d=>yB x λz=>aS (!z) (xA (aD SS.P 24 []) λy=>xU (aj SS.P 24 (pA (b.next)) (.agg ⟨y⟩) d) d λD s=>dq SS [((pA (b.next)),some 24),((.int .i64 1),none)] s Q) (xA (ae SS.P 24 d (pA (h.next))) λw=>FW SS 96 [(.agg ⟨w⟩)] d λv a=>yL v λf g e=>xP (af SS.P 24 (pA (h.next)) 1) λu=>xI .i64 (ae SS.P 3 a (.pointer (some u))) λq=>xP (ai SS.P 68 (.slice f g e) (.int .i64 q)) λt=>xB (ae SS.P 4 a (.pointer (some t))) λo=>aS (!o) (xP (af SS.P 24 (pA (h.next)) 0) λm=>xI .i64 (ae SS.P 3 a (.pointer (some m))) λr=>FW SS 97 [(.int .i64 r)] a λk i=>∃c:LV,∃j:Int,k=(.tuple ⟨[(.agg ⟨c⟩),(.int .i64 j)]⟩)/\xU (aj SS.P 24 (pA (b.next)) (.agg ⟨c⟩) i) i λC p=>dq SS [((pA (b.next)),some 24),((.int .i64 j),none)] p Q) (LL SS pz [1,1,1,1,1,0,1,0,0] (iH (h.next) (b.next) f g e 0 none 0 0) a (KK SS pz [1,1,1,1,1,0,1,0] [] (EE SS pz Q))))):FW SS 39 [(.agg ⟨l⟩)] h Q:=eh pz Tryz.func39 (av A)
theorem xM(D:LV)(k e:Nat)(a:OA)(n c:Nat)(b:Nat->Nat->OA->Nat->Nat->aa->Prop)(Q:VH)(step:∀(d:Nat) (i:Nat) (t:OA) (tn tc:Nat) (z:Nat->Value) (h:aa),b d i t tn tc h->aS (decide (((i:Int):Int)<(n:Int))) (xP (ai SS.P 68 (.slice a n c) (iA i)) λp=>xB (ae SS.P 4 h (.pointer (some p))) λu=>aS u (xR (az SS.P 27 1 [(0,(iA i))]) h λC w x f=>xE (aJ SS.P 27 27 (.slice t tn tc) (sA (h.next) w x) f) f λo v l B m=>aH (RF (iH k e a n c) b) d [(pA k),(pA e),(.slice o v l),(.slice a n c),(iA n),(.int .i64 (wrap .i64 ((i:Int)+1)))] m) (aH (RF (iH k e a n c) b) d [(pA k),(pA e),(.slice t tn tc),(.slice a n c),(iA n),(.int .i64 (wrap .i64 ((i:Int)+1)))] h)) (xA (ae SS.P 24 h (pA k)) λr=>FW SS 98 [(.agg ⟨r⟩),(.slice t tn tc)] h λs g=>yA s λy=>xU (aj SS.P 24 (pA e) (.agg ⟨y⟩) g) g λA q=>dq SS [((pA e),some 24),((.int .i64 0),none)] q Q))(d:Nat){i:Nat}{t:OA}{tn tc:Nat}{h:aa}(j:b d i t tn tc h):LL SS pz [1,1,1,1,1,0,1,0,0] (iH k e a n c i t tn tc) h (KK SS pz [1,1,1,1,1,0,1,0] [] (EE SS pz Q)):=
 Vb (iH k e a n c) b (λd i t tn tc z h j=>av (step d i t tn tc z h j)) d j
theorem Sb{v:Nat}(a:v<4294967296):(((BitVec.ofInt (IntKind.bits .u64) (v:Int)&&&BitVec.ofInt (IntKind.bits .u64) 4294967295).toNat:Nat):Int)=(v:Int):=by
 have e:IntKind.bits .u64=64:=rfl;rw[e,BitVec.toNat_and];have b:(BitVec.ofInt 64 (v:Int)).toNat=v:=by
  rw[BitVec.toNat_ofInt];omega
 have c:(BitVec.ofInt 64 4294967295).toNat=2^32-1:=rfl;rw[b,c,Nat.and_two_pow_sub_one_eq_mod,Nat.mod_eq_of_lt a]
theorem Vj{v:Nat}(a:v<4294967296):ax SS.P .shr 240 (.int .u64 (v:Int)) (.int .u64 32)=some (.int .u64 ((0:Nat):Int)):=by
 have e:((v:Int)).fdiv (2^(min ((32:Int)).toNat (IntKind.bits .u64)))=((0:Nat):Int):=by
  rw[show min ((32:Int)).toNat (IntKind.bits .u64)=32 from rfl,Int.fdiv_eq_ediv_of_nonneg _ (by decide),show(2:Int)^32=4294967296 from rfl];omega
 show(if(0:Int)<=32 then some (Value.int .u64 (((v:Int)).fdiv (2^(min ((32:Int)).toNat (IntKind.bits .u64)))))else none)=_;rw[if_pos (by decide),e]
theorem Qe(b:n<4294967296)(h:aa):FW SS 197 [.int .u64 1,.int .u64 (n:Int)] h (λv m=>v = .tuple ⟨[.int .u64 0,.int .u64 (n:Int)]⟩/\m=h):=by
 refine T6 1 (n:Int) h _ ?_;have a:∀z:Nat,z<4294967296->wrap .u64 (z:Int)=(z:Int):=λz r=>eg (by omega) (by omega);have f:(((BitVec.ofInt (IntKind.bits .u64) 1&&&BitVec.ofInt (IntKind.bits .u64) 4294967295).toNat:Nat):Int)=((1:Nat):Int):=Sb (v:=1) (by decide);have d:=Sb b;have q:=Vj (v:=1) (by decide);have e:=Vj b;have i:=Vj (v:=0) (by decide);have k:=Sb (v:=0) (by decide);have o:wrap .u64 (((1:Nat):Int)*(n:Int))=(n:Int):=by rw[show((1:Nat):Int)*(n:Int)=((n:Nat):Int) by omega];exact a n b
 have g:wrap .u64 (((0:Nat):Int)*(n:Int))=((0:Nat):Int):=by rw[show((0:Nat):Int)*(n:Int)=((0:Nat):Int) by omega];exact a 0 (by decide)
 have c:wrap .u64 (((0:Nat):Int)+((0:Nat):Int))=((0:Nat):Int):=a 0 (by decide);have p:wrap .u64 (((1:Nat):Int)*((0:Nat):Int))=((0:Nat):Int):=a 0 (by decide);have l:wrap .u64 (((0:Nat):Int)*((0:Nat):Int))=((0:Nat):Int):=a 0 (by decide);have j:wrap .u64 ((1:Int)*(n:Int))=(n:Int):=by rw[Int.one_mul];exact a n b
 refine⟨((0:Nat):Int),q,((0:Nat):Int),e,((0:Nat):Int),?_,((0:Nat):Int),?_,((0:Nat):Int),?_,?_⟩
 ·rw[f,d,a 1 (by decide),a n b,o];exact e
 ·rw[d,a n b,g,c];exact i
 ·rw[f,d,a 1 (by decide),a n b,g,c,k,a 0 (by decide),p,c];exact i
 ·rw[l,c];dsimp only;rw[c,j];exact⟨rfl,rfl⟩
theorem Sk(b:n<4294967296)(h:aa):FW SS 164 [.int .u64 1,.int .u64 (n:Int)] h (λv a=>v = .tuple ⟨[.int .u64 0,.int .u64 (n:Int)]⟩/\a=h):=by
 refine Xd 1 (n:Int) h _ ((Qe b h).mono ?_);rintro _ _ ⟨rfl,rfl⟩;exact⟨_,_,rfl,rfl,rfl⟩
theorem Vl{cs:List Value}(c:h.get n=some (.cells cs 3 1 true))(g:cs.length=m)(f:m<cj)(i:j<=m):
  bE SS.P 27 (.slice (some ⟨n,0,none⟩) m m) (some (.int .i64 (j:Int))) none none h=some (.slice (some ⟨n,j,none⟩) (m-j) (m-j))/\
  bE SS.P 27 (.slice (some ⟨n,0,none⟩) m m) none (some (.int .i64 (j:Int))) none h=some (.slice (some ⟨n,0,none⟩) j m):=by
 have a:aW m=m:=by unfold aW;rw[if_neg (by omega)]
 constructor
 ·unfold bE;dsimp only;rw[cO];dsimp only[dH];rw[wM,c];dsimp only;rw[if_pos (by omega),a,if_pos (by omega)];have d:((j:Int)).toNat=j:=by omega
  have b:((m:Int)-(j:Int)).toNat=m-j:=by omega
  rw[d,b,mul_one,zero_add]
 ·unfold bE;dsimp only;rw[cO];dsimp only[dH];rw[wM,c];dsimp only;rw[if_pos (by omega),a,if_pos (by omega)];have b:((j:Int)-((0:Nat):Int)).toNat=j:=by omega
  have e:((0:Nat):Int).toNat=0:=rfl;rw[b,e];rfl
theorem NH{c:Nat}{cs:List Value}(p:h.get m=some (.cells cs 3 1 true))(s:i+n<=cs.length){b:Value}{a:List Value}(j:cQ h 1 b=some (a,k))(t:a.length=k)(r:n≠0)(q:k≠0)(f:a.all bw=true):
  copyV SS.P 27 (.slice (some ⟨m,i,none⟩) n c) b h=some (.int .i64 ((min k n:Nat):Int),.set m (.cells (cs.take i++a.take (min k n)++cs.drop (i+min k n)) 3 1 true)):=by
 have o:=Nat.min_le_right k n;have g:=Nat.min_le_left k n;have d:(a.take (min k n)).length=min k n:=by rw[length_take];omega
 have e:(a.take (min k n)).all bw=true:=all_eq_true.2 λx l=>all_eq_true.1 f x (List.mem_of_mem_take l);unfold copyV;rw[cO];dsimp only;rw[wM];dsimp only;rw[j];dsimp only;rw[if_neg (by omega),mul_one];unfold storeAt;rw[p];dsimp only;rw[if_pos ⟨by omega,e⟩,d];rfl
def ja(x z:Value)(j n:Nat):List Value:=List.replicate j x++List.replicate (n-j) z
theorem PA{x z:Value}(c:j<=n):(ja x z j n).take j++(List.replicate j x).take (min j (n-j))++(ja x z j n).drop (j+min j (n-j))=ja x z (j+min j (n-j)) n:=by
 have b:=Nat.min_le_right j (n-j);have a:=Nat.min_le_left j (n-j);generalize min j (n-j)=m at*;unfold ja;rw[List.take_append_of_le_length (by simp),take_of_length_le (by simp),List.take_replicate,Nat.min_eq_left a,List.drop_append,drop_eq_nil_of_le (by simp),nil_append,length_replicate,List.drop_replicate,List.replicate_append_replicate];congr 1;congr 1;omega
theorem GS(w:Wf h){d n:Nat}(C:h.get d=some (.cells [.int .i64 (-1)] 3 1 true))(L:n<=100000):FW SS 135 [.slice (some ⟨d,0,none⟩) 1 1,.int .i64 (n:Int)] h (λv y=>∃o,v = .slice (some ⟨o,0,none⟩) n n/\uE h o 3 (List.replicate n (.int .i64 (-1))) y):=by
 have N:wrap .u64 (n:Int)=(n:Int):=eg (by omega) (by omega);have D:wrap .u64 ((1:Nat):Int)=((1:Nat):Int):=eg (by omega) (by omega);have F:wrap .i64 (n:Int)=(n:Int):=aO (by omega) (by omega);refine Q2 (some ⟨d,0,none⟩) 1 1 (n:Int) h _ (ah (λg=>?_) (λ_=>?_))
 ·have g:=dT g;omega
 rw[N,D];refine(Sk (by omega) h).mono ?_;rintro _ T ⟨rfl,R⟩;rw[R];refine⟨_,_,rfl,ah (λg=>?_) (λ_=>ah (λg=>?_) (λ_=>?_))⟩
 ·exact absurd (dT g) (by omega)
 ·have g:=dT g;omega
 rw[F];have H:=aeP n L;rw[show(List.replicate n 0).map iv=ja (.int .i64 (-1)) (.int .i64 0) 0 n by unfold ja;rw[map_replicate];rfl]at H;refine⟨_,_,_,H,?_⟩;have r:=(Ok.refl w).push (.cells (ja (.int .i64 (-1)) (.int .i64 0) 0 n) 3 1 true);have A:=aI h (.cells (ja (.int .i64 (-1)) (.int .i64 0) 0 n) 3 1 true);have u:=r.ext _ _ C;generalize h.push (.cells (ja (.int .i64 (-1)) (.int .i64 0) 0 n) 3 1 true)=g at*;have f:∀j,j<=n->(ja (.int .i64 (-1)) (.int .i64 0) j n).length=n:=λj I=>by unfold ja;simp;omega
 have p:∀(j:Nat)(g:aa),j<=n->(j=0->n=0)->uE h h.next 3 (ja (.int .i64 (-1)) (.int .i64 0) j n) g->LL SS iJ [1,1,1,1,1,1,0,0,0] [(sA (h.next) n n),(.int .i64 (j:Int))] g (KK SS iJ [1,1,1,1,1,1,0,0] [] (EE SS iJ λv y=>∃o,v = .slice (some ⟨o,0,none⟩) n n/\uE h o 3 (List.replicate n (.int .i64 (-1))) y)):=by
  intro j g I t a;refine we (some ⟨d,0,none⟩) 1 1 (n:Int) (some ⟨h.next,0,none⟩) n n (λE j g=>∃i:Nat,j=(i:Int)/\i<=n/\(i=0->n=0)/\E=n-i/\uE h h.next 3 (ja (.int .i64 (-1)) (.int .i64 0) i n) g) _ (λE j=>?_) (n-j) (j:=(j:Int)) ⟨j,rfl,I,t,rfl,a⟩;intros;rename_i z P;obtain⟨i,rfl,k,S,rfl,a⟩:=P;refine ah (λq=>?_) (λq=>?_)
  ·have q:=dT q;have B:=(Ok.refl a.ok.wf).room 10;have s:=B.ext _ _ a.row;obtain⟨Q,O⟩:=Vl s (f i k) (by unfold cj;omega) k;have G:cQ (Go.Ab.room z 10) 1 (.slice (some ⟨h.next,0,none⟩) i n)=some (List.replicate i (.int .i64 (-1)),i):=by
    show(match (Go.Ab.room z 10).get h.next with|some (.cells cs ..)=>if((cs.drop 0).take (i*1)).length=i*1 then some ((cs.drop 0).take (i*1),i)else none|_=>none)=_;rw[s];dsimp only;rw[mul_one,drop_zero,if_pos (by rw[length_take,f i k];omega)];unfold ja;rw[List.take_append_of_le_length (by simp),take_of_length_le (by simp)]
   have b:=NH (c:=n-i) s (by rw[f i k];omega) (i:=i) (n:=n-i) G (by simp) (by omega) (by omega) (all_eq_true.2 λx u=>by rw[List.eq_of_mem_replicate u];rfl);rw[PA k]at b;refine⟨_,_,_,Q,_,_,_,O,_,_,b,?_⟩;have M:min i (n-i)<=n-i:=Nat.min_le_right _ _;have J:0<min i (n-i):=by omega
   have K:min i (n-i)<=i:=Nat.min_le_left _ _;generalize min i (n-i)=m at*;dsimp only;rw[show wrap .i64 ((i:Int)+(m:Int))=((i+m:Nat):Int) by rw[aO (by omega) (by omega)];omega];refine cG (n-(i+m)) (by omega) ⟨i+m,rfl,by omega,by omega,rfl,?_,a.new,?_⟩
   ·show((Go.Ab.room z 10).set h.next _).get h.next=_;rw[aa.ay,if_pos rfl]
   ·exact(a.ok.trans B).set _ (Nat.le_refl _) (B.wf _ _ s) w
  ·have q:=dF q;obtain rfl:i=n:=by omega
   refine⟨h.next,rfl,?_⟩;have e:ja (.int .i64 (-1)) (.int .i64 0) i i=List.replicate i (.int .i64 (-1)):=by unfold ja;rw[sub_self];simp
   rw[e]at a;exact a
 have l:cQ g 1 (.slice (some ⟨d,0,none⟩) 1 1)=some ([.int .i64 (-1)],1):=by
  show(match g.get d with|some (.cells cs ..)=>if((cs.drop 0).take (1*1)).length=1*1 then some ((cs.drop 0).take (1*1),1)else none|_=>none)=_;rw[u];rfl
 by_cases t:n=0
 ·subst t;have b:copyV SS.P 27 (.slice (some ⟨h.next,0,none⟩) 0 0) (.slice (some ⟨d,0,none⟩) 1 1) g=some (.int .i64 0,.no):=by
   unfold copyV;rw[cO];dsimp only;rw[wM];dsimp only;rw[l];dsimp only;rw[if_pos (.inl rfl)]
  exact⟨_,_,b,p 0 _ (Nat.le_refl _) (λ_=>rfl) ⟨A,Nat.le_refl _,r⟩⟩
 ·have b:=NH (c:=n) A (by rw[f 0 (by omega)];omega) (i:=0) (n:=n) l rfl t (by decide) rfl;have e:(ja (.int .i64 (-1)) (.int .i64 0) 0 n).take 0++([.int .i64 (-1)]:List Value).take (min 1 n)++(ja (.int .i64 (-1)) (.int .i64 0) 0 n).drop (0+min 1 n)=ja (.int .i64 (-1)) (.int .i64 0) 1 n:=by
   rw[show min 1 n=1 by omega];unfold ja;rw[List.drop_append];simp
  rw[e,show min 1 n=1 by omega]at b;refine⟨_,_,b,p 1 _ (by omega) (by omega) ⟨?_,Nat.le_refl _,r.set _ (Nat.le_refl _) (r.wf _ _ A) w⟩⟩;show(g.set h.next _).get h.next=_;rw[aa.ay,if_pos rfl]
section
def sk:bu:= .cells [.int .i64 0,.int .i64 0,strOf [],.slice none 0 0] 24 0 true
theorem OY:aA SS.P 24=some (sk,dR):=by kernel_rfl
theorem acQ(k s:Int)(l:List UInt8)(a:Option Addr)(n c:Nat):aD SS.P 24 [(0,(.int .i64 k)),(1,(.int .i64 s)),(2,(strOf l)),(3,(.slice a n c))]=some (.agg ⟨[.int .i64 k,.int .i64 s,strOf l,.slice a n c]⟩):=by cases a<;>kernel_rfl
theorem Eo(M:aG)(a:Option Addr)(n c:Nat):(bD M a n c).all bw=true:=by cases a<;>rfl
section
variable {hb g g':aa} {k8 k22 N:Nat} {M':aG} {ps:List (fF×Value)}
structure so(hb:aa)(k8 k22 N:Nat)(M':aG)(ps:List (fF×Value))(g:aa):Prop where
 own:iT hb g (.slice (some ⟨k22,0,none⟩) N N) ps
 ok:Ok hb g
 box:g.get k8=some (Bm M' (some ⟨k22,0,none⟩) N N)
 hi:∀(i:Nat)(p:fF×Value),ps[i]?=some p->∀j,bZ p.2=some j->k8<j
 nk:k22≠k8
theorem so.ext(r:so hb k8 k22 N M' ps g)(o:Ok g g'):so hb k8 k22 N M' ps g':=⟨r.own.ok o,r.ok.trans o,o.ext _ _ r.box,r.hi,r.nk⟩
theorem so.l3(r:so hb k8 k22 N M' ps g):ae SS.P 22 g (.pointer (some ⟨k8,3,none⟩))=some (.slice (some ⟨k22,0,none⟩) N N):=aR Cn HO r.box (by simp[bD])
theorem so.all(r:so hb k8 k22 N M' ps g):ae SS.P 24 g (.pointer (some ⟨k8,0,none⟩))=some (.agg ⟨bD M' (some ⟨k22,0,none⟩) N N⟩):=gG Dx C4 mY r.box (by simp[bD])
theorem so.abS(w:Wf hb)(r:so hb k8 k22 N M' ps g){i:Nat}{p:fF×Value}(d:ps[i]?=some p)(f:List UInt8):
  ∃u:bp,aj SS.P 9 (.pointer (some ⟨k22,i*2+0,none⟩)) (strOf f) g=some (undef,u)/\so hb k8 k22 N M' (ps.set i (⟨f,p.1.an⟩,p.2)) (u.app g)/\g.next<=(u.app g).next:=by
 obtain⟨u,c,l,h,m,n⟩:=r.own.abS w r.ok d f;rw[zero_add]at c;refine⟨u,c,⟨l,h,m _ _ r.box r.nk,λj q a k b=>?_,r.nk⟩,Nat.le_of_eq n.symm⟩;rcases br a with⟨_,e⟩|⟨_,a⟩
 ·rw[e]at b;exact r.hi i p d k b
 ·exact r.hi j q a k b
theorem so.arc(w:Wf hb)(r:so hb k8 k22 N M' ps g){i:Nat}{p:fF×Value}(d:ps[i]?=some p){q:bJ}{C:Nat}(o:g.get C=some (.cells (gV q) 46 4 true))(G:p.1.an.length<=100000):
  ∃(x:Option Addr)(y z:Nat),ae SS.P 42 g (.pointer (some ⟨k22,i*2+1,none⟩))=some (.slice x y z)/\p.2 = .slice x y z/\∃(b:Option Addr)(n c:Nat)(u:bp),aJ SS.P 42 42 (.slice x y z) (.slice (some ⟨C,0,none⟩) 1 1) g=some (.slice b n c,u)/\
   ∃f:bp,aj SS.P 42 (.pointer (some ⟨k22,i*2+1,none⟩)) (.slice b n c) (u.app g)=some (undef,f)/\so hb k8 k22 N M' (ps.set i (⟨p.1.f,p.1.an++[q]⟩,.slice b n c)) (f.app (u.app g)):=by
 obtain⟨L,l,_⟩:=r.own.at_ d;rw[zero_add]at L l;have t:=r.own.an i p d;obtain⟨x,z,e⟩:=t.oa;obtain⟨b,n,c,u,s,J,F,v,B,P⟩:=Sh w r.ok t o G;obtain⟨f,A,K,E,H,M⟩:=r.own.ae6 w F d v J B r.ok.wf;rw[zero_add]at A;rw[e]at s l;refine⟨x,_,z,l,e,b,n,c,u,s,f,A,⟨K,E,H _ _ (v _ _ r.box (λD=>by have:=r.hi i p d _ D;omega)) r.nk,λj I a k m=>?_,r.nk⟩⟩;have O:k8<g.next:=r.ok.wf _ _ r.box;rcases br a with⟨_,e⟩|⟨_,a⟩
 ·rw[e]at m;rcases B k m with h|h
  ·omega
  ·exact r.hi i p d k h
 ·exact r.hi j I a k m
end
theorem AB.afa{hb g:aa}(w:Wf hb)(a:Ok hb g){k:Nat}{q:bJ}(b:AB g k q)(c:hb.next<=k)(z:Int):∃u:bp,aj SS.P 3 (.pointer (some ⟨k,0+3,none⟩)) (.int .i64 z) g=some (undef,u)/\Ok hb (u.app g)/\AB (u.app g) k ⟨q.i,q.o,q.w,z⟩:=by
 refine⟨_,bG wM b (by simp[gV]) rfl rfl,a.set _ c (a.wf _ _ b) w,?_⟩;show(g.set k _).get k=_;rw[aa.ay,if_pos rfl];rfl
theorem AB.all{g:aa}(b:AB g k D):ae SS.P 46 g (.pointer (some ⟨k,0,none⟩))=some (.agg ⟨gV D⟩):=gG acm aaM OD b (by simp[gV])
def Uc(N:Nat)(ord:List Nat):List Value:=(List.range N).map λx=> .int .i64 (eS ord 0 x)
theorem Oa(N:Nat)(ord:List Nat):(Uc N ord).length=N:=by simp[Uc]
theorem YO(N:Nat):Uc N []=List.replicate N (.int .i64 (-1)):=by
 refine List.ext_getElem? λi=>?_;unfold Uc;rw[getElem?_map,getElem?_replicate];by_cases h:i<N
 ·rw[List.getElem?_range h,if_pos h];rfl
 ·rw[List.getElem?_eq_none (by simpa using h),if_neg h];rfl
theorem Ud{N:Nat}{ord:List Nat}{s:Nat}(b:s∉ord):Uc N (ord++[s])=(Uc N ord).set s (.int .i64 ((ord.length:Nat):Int)):=by
 refine List.ext_getElem? λi=>?_;unfold Uc;rw[getElem?_set,getElem?_map,getElem?_map,lM,List.length_range];by_cases h:i<N
 ·rw[List.getElem?_range h];simp only[Option.map_some];rw[Ev _ _ _ _ b,zero_add];by_cases a:i=s
  ·rw[if_pos a,if_pos a.symm,if_pos (by omega)]
  ·rw[if_neg a,if_neg (λe=>a e.symm)]
 ·rw[List.getElem?_eq_none (by simpa using h)];by_cases a:s=i
  ·rw[if_pos a,if_neg (by omega)];rfl
  ·rw[if_neg a];rfl
theorem LU{g:aa}{N c:Nat}{ord:List Nat}(d:g.get j=some (.cells (Uc N ord) 3 1 true)){x:Nat}(a:x<N):ai SS.P 27 (.slice (some ⟨j,0,none⟩) N c) (.int .i64 (x:Int))=some (.pointer (some ⟨j,x,none⟩))/\ae SS.P 3 g (.pointer (some ⟨j,x,none⟩))=some (.int .i64 (eS ord 0 x)):=by
 have b:=FU (P:=SS.P) cO wM (k:=j) (off:=0) (n:=N) (c:=c) (ik:= .i64) (i:=(x:Int)) (by omega) (by omega);rw[toNat_natCast,zero_add,mul_one]at b;refine⟨b,?_⟩;rw[aR lC lB d (by rw[Oa];exact a)];unfold Uc;rw[gD,getElem?_map,List.getElem?_range a];rfl
theorem Eu:∀{l:List Nat},l.Nodup->∀{i j x:Nat},l[i]?=some x->l[j]?=some x->i=j
 |[],_,i,j,x,h,_=>by simp at h
 |y::l,a,0,0,x,_,_=>rfl
 |y::l,a,0,j+1,x,h,b=>by
  obtain rfl:y=x:=by simpa using h
  exact absurd (List.mem_of_getElem? (by simpa using b)) (nodup_cons.1 a).1
 |y::l,a,i+1,0,x,h,b=>by
  obtain rfl:y=x:=by simpa using b
  exact absurd (List.mem_of_getElem? (by simpa using h)) (nodup_cons.1 a).1
 |y::l,a,i+1,j+1,x,h,b=>by
  exact congrArg (· + 1) (Eu (nodup_cons.1 a).2 (x:=x) (by simpa using h) (by simpa using b))
theorem oE:∀(N:Nat){l:List Nat},l.Nodup->(∀x∈l,x<N)->l.length<=N
 |0,l,_,h=>by
  cases l with
  |nil=>exact Nat.le_refl _
  |cons x l=>exact absurd (h x (mem_cons_self ..)) (not_lt_zero _)
 | N+1,l,b,h=>by
  by_cases c:N∈l
  ·have f:=List.length_erase_of_mem c;have g:=oE N (b.erase N) (λx a=>by
    have d:=(b.mem_erase_iff).1 a;have:=h x d.2;omega)
   have i:0<l.length:=List.length_pos_of_mem c;omega
  ·exact Nat.le_succ_of_le (oE N b λx a=>by
    have:=h x a;have:x≠N:=λe=>c (e▸a);omega)
theorem OH{g:aa}(w:Wf g){n i j:Nat}(b:i<n)(c:j<n)(d:i≠j)(A B:bu):Ok g (aw (Go.Ab.room g n) g.next [(j,B),(i,A)])/\(aw (Go.Ab.room g n) g.next [(j,B),(i,A)]).get (g.next+i)=some A/\(aw (Go.Ab.room g n) g.next [(j,B),(i,A)]).get (g.next+j)=some B:=by
 have a:Ok g ((Go.Ab.room g n).set (g.next+i) A):=((Ok.refl w).room n).set A (Nat.le_add_right _ _) (Nat.add_lt_add_left b _) w;refine⟨a.set B (Nat.le_add_right _ _) (Nat.add_lt_add_left c _) w,?_,?_⟩
 ·show(((Go.Ab.room g n).set (g.next+i) A).set (g.next+j) B).get (g.next+i)=_;rw[aa.ay,if_neg (by omega),aa.ay,if_pos rfl]
 ·show(((Go.Ab.room g n).set (g.next+i) A).set (g.next+j) B).get (g.next+j)=_;rw[aa.ay,if_pos rfl]
def zP(M:aG)(ord:List Nat)(i:Nat):List fF:=(ord.take i).map (qk M ord)++List.replicate (ord.length-i) Hq.1
theorem QY(M:aG)(ord:List Nat):zP M ord 0=List.replicate ord.length Hq.1:=by simp[zP]
theorem QW(M:aG)(ord:List Nat):zP M ord ord.length=ord.map (qk M ord):=by simp[zP]
theorem Om{M:aG}{ord:List Nat}(a:i<ord.length):(zP M ord i)[i]?=some Hq.1:=by
 unfold zP;rw[List.getElem?_append_right (by rw[lM,length_take];omega),lM,length_take,Nat.min_eq_left (by omega),sub_self,getElem?_replicate,if_pos (by omega)]
theorem QX{M:aG}{ord:List Nat}{s:Nat}(a:ord[i]?=some s):(zP M ord i).set i (qk M ord s)=zP M ord (i+1):=by
 have c:i<ord.length:=(List.getElem?_eq_some_iff.1 a).1;unfold zP;have b:((ord.take i).map (qk M ord)).length=i:=by simp;omega
 rw[List.set_append,if_neg (by omega),b,sub_self,take_add_one,a,map_append,append_assoc];congr 1;rw[show ord.length-i=(ord.length-(i+1))+1 by omega,List.replicate_succ,List.set_cons_zero];rfl
theorem iT.low{h hb g g':aa}{ps:List (fF×Value)}(m:iT hb g v ps)(o:Ok h hb)(s:∀j B,g.get j=some B->hb.next<=j->g'.get j=some B):iT h g' v ps:=by
 have a:∀{e:TypeId}{b:Nat}{v:Value}{d:List (List Value)},eZ hb g e b v d->eZ h g' e b v d:=λ{e b v d} r=>by
  obtain⟨f,r|⟨k,l,cs,c,t,n,q,u⟩⟩:=r
  ·exact⟨f,.inl r⟩
  ·exact⟨f,.inr ⟨k,l,cs,c,t,Nat.le_trans o.nx n,s _ _ q n,u⟩⟩
 exact⟨a m.row,λi p w=>a (m.an i p w),m.ne,m.RH⟩
section
variable {h:aa} {M:aG} {a:Option Addr} {n c:Nat} {b:Option Addr} {m d:Nat} {ord:List Nat}
theorem Yh{M:aG}{x:Nat}{s:fF}(a:M.ak[x]?=some s):M.ak.getD x ⟨[],[]⟩=s:=by rw[gD,a];rfl
def GO(M:aG)(ord:List Nat)(i j:Nat)(s:fF):List fF:=(zP M ord i).set i ⟨s.f,(s.an.take j).filterMap (fS ord)⟩
def rP2(hb:aa)(M:aG)(ord:List Nat)(k8 k22:Nat)(a i:Nat)(g:aa):Prop:=i<=ord.length/\a=ord.length-i/\∃ps,ps.map (·.1)=zP M ord i/\so hb k8 k22 ord.length (ix M ord) ps g
def rP3(hb:aa)(M:aG)(ord:List Nat)(k8 k22 i:Nat)(s:fF)(a j:Nat)(g:aa):Prop:=j<=s.an.length/\a=s.an.length-j/\∃ps,ps.map (·.1)=GO M ord i j s/\so hb k8 k22 ord.length (ix M ord) ps g
theorem HS{M:aG}{ord:List Nat}{s:fF}(c:s.an[j]?=some D)(d:i<ord.length):GO M ord i (j+1) s=(match fS ord D with|none=>GO M ord i j s|some a=>(GO M ord i j s).set i ⟨s.f,(s.an.take j).filterMap (fS ord)++[a]⟩):=by
 unfold GO;rw[take_add_one,c,filterMap_append];show(zP M ord i).set i ⟨s.f,_++List.filterMap (fS ord) [D]⟩=_
 cases b:fS ord D with
 |none=>simp[b]
 |some a=>simp[b,List.set_set]
theorem Zf{M:aG}{ord:List Nat}{s:fF}(a:i<ord.length):(GO M ord i j s)[i]?=some ⟨s.f,(s.an.take j).filterMap (fS ord)⟩:=by
 unfold GO;rw[getElem?_set,if_pos rfl,if_pos];exact(List.getElem?_eq_some_iff.1 (Om (M:=M) a)).1
theorem TZ{ps:List (fF×Value)}{L:List fF}(h:ps.map (·.1)=L){i:Nat}{s:fF}(a:L[i]?=some s):∃p,ps[i]?=some p/\p.1=s:=by
 rw[<-h,getElem?_map]at a;obtain⟨p,b,c⟩:=Option.map_eq_some_iff.1 a;exact⟨p,b,c⟩
set_option linter.defProp false in
def LJ{hb h0:aa}(w:Wf hb)(gd:Good M){k k4 k8 k22 V:Nat}(U:MB h0 k M a n c)(o0:Ok h0 hb)(hn:n<=300)(nb:hb.get V=some (.cells (Uc n ord) 3 1 true)){i x:Nat}{s:fF}(K:ord[i]?=some x)(H:M.ak[x]?=some s)(y0:s.an.length<=2000)(x6:ord.length<=300){S:Option Addr}{P J:Nat}(F:eT hb (.slice S P J) s.an)(e:Option Addr)(en ec:Nat)(A:Nat)(y2:A=ord.length-i)(mv:List Value)(Q:VH):=
 zK mv b m d k k4 k8 k22 (i*2) (some ⟨V,0,none⟩) n n S P J (rP2 hb M ord k8 k22) A i (rP3 hb M ord k8 k22 i s) Q (by
  intro x9 j;intros;rename_i g l;obtain⟨f1,rfl,ps,o,v⟩:=l;have z:i<ord.length:=(List.getElem?_eq_some_iff.1 K).1;have x5:n=M.ak.length:=U.len;have x7:=F.len;refine ah (λt=>?_) (λt=>?_)
  ·have t:=dT t;obtain⟨q,y⟩:∃q,s.an[j]?=some q:=⟨_,gE (by omega)⟩
   obtain⟨bb,oo,d1,d2,d3,d4,d5,d6⟩:=(F.ok v.ok).at_ y;have l:=gd.an s (List.mem_of_getElem? H) q (List.mem_of_getElem? y);obtain⟨Y,hY⟩:∃Y:Nat,q.t=(Y:Int):=⟨q.t.toNat,by have:=l.t0;omega⟩
   have x2:Y<n:=by have:=l.t1;omega
   have T:=v.ok.wf;obtain⟨u,p1,G,p3⟩:=wc T q;refine⟨_,d1,_,d2,_,Fk,u,p1,_,eV _ _,_,p3.l3,?_⟩;have I:=G.ext _ _ (v.ok.ext _ _ nb);generalize u.app (g.push Hr)=x3 at*;obtain⟨n1,n2⟩:=LU (c:=n) I x2;rw[hY];obtain⟨E,t1,t2,O⟩:=p3.afa T G (Nat.le_refl _) (eS ord 0 Y);refine⟨_,n1,_,n2,_,eV _ _,E,t1,_,eV _ _,_,O.l3,?_⟩;have f:=v.ext t2;generalize E.app x3=x8 at*;have N:wrap .i64 ((j:Int)+1)=((j+1:Nat):Int):=bA (n:=s.an.length) (by omega) (by omega);have C:s.an.length-(j+1)<s.an.length-j:=by omega
   have B:q.t.toNat=Y:=by omega
   refine ah (λh=>?_) (λh=>?_)
   ·have h:¬eS ord 0 Y = -1:=by simpa using h
    have r:fS ord q=some ⟨q.i,q.o,q.w,eS ord 0 Y⟩:=by unfold fS;rw[B,if_neg h]
    obtain⟨p,X,D⟩:=TZ o (Zf (M:=M) (j:=j) (s:=s) z);obtain⟨o6,k6⟩:=Ag f.ok.wf (n:=11) (j:=6) (by omega) (.cells (gV ⟨q.i,q.o,q.w,eS ord 0 Y⟩) 46 4 true);have W:=(Ok.refl f.ok.wf).room 11;have L:=f.ext o6;have x4:p.1.an.length<=2000:=by rw[D];exact Nat.le_trans (List.length_filterMap_le ..) (by rw[length_take];omega)
    obtain⟨x1,y1,z1,a1,e1,b2,x0,c2,u3,a2,u4,a3,R⟩:=L.arc w X k6 (by omega);have Z:=((f.ext W).own.at_ X).2.1;rw[zero_add,e1]at Z;refine⟨_,iw _ _,x1,y1,z1,Z,_,(O.ok W).all,_,_,_,aeC _,b2,x0,c2,u3,a2,_,iw _ _,u4,a3,?_⟩;dsimp only;rw[N];refine cG (s.an.length-(j+1)) C ⟨by omega,rfl,_,?_,R⟩;rw[map_set,o,HS y z,r,D]
   ·have h:eS ord 0 Y = -1:=by simpa using h
    have r:fS ord q=none:=by unfold fS;rw[B,if_pos h]
    rw[N];exact cG (s.an.length-(j+1)) C ⟨by omega,rfl,ps,by rw[o,HS y z,r],f⟩
  ·have t:=dF t;rw[bA z (by omega)];refine cG (ord.length-(i+1)) (by omega) ⟨by omega,rfl,ps,?_,v⟩;rw[o,<-QX K];unfold GO qk;rw[Yh H,take_of_length_le (by omega)])
theorem YI(w:Wf h)(gd:Good M)(hN:M.ak.length<=300)(hA:∀s∈M.ak,s.an.length<=2000)(r:ey h (.slice a n c) M.ak)(ro:Rd h 3 (.slice b m d) (ord.map iv))(O:AF M.ak.length ord):FW SS 98 [.agg ⟨bD M a n c⟩,.slice b m d] h (adF h (ix M ord)):=by
 obtain⟨W,E⟩:=nT w r;have y7:n=M.ak.length:=W.len;have hm:m=ord.length:=by have:=ro.len;rwa[lM]at this
 have x6:ord.length<=300:=by
  have:=oE M.ak.length O.nd O.lt;omega
 refine YH (bD M a n c) b m d h _ ⟨_,oy M a n c,_,OY,_,_,_,tG _,?_⟩;have Y:=E.push sk;have k4:=aI (h.push (Bm M a n c)) sk;have y3:=W.ok ((Ok.refl E.wf).push sk);have n4:h.next<=(h.push (Bm M a n c)).next:=E.nx;generalize h.push (Bm M a n c)=g0 at*;generalize z3:g0.next=Q at*;generalize g0.push sk=g4 at*;have o8:=(Ok.refl Y.wf).push (.cells [.int .i64 (-1)] 3 1 true);have D:=Y.trans o8;have kx:=aI g4 (.cells [.int .i64 (-1)] 3 1 true);have X:=y3.ok o8;have R:=o8.ext _ _ k4;generalize g4.push (.cells [.int .i64 (-1)] 3 1 true)=g8 at*;refine⟨_,eJ _,_,_,_,X.l3,(GS D.wf kx (n:=n) (by omega)).mono ?_⟩;rintro _ g9 ⟨kn,rfl,k⟩;refine⟨_,_,_,rfl,?_⟩;rw[<-YO n]at k;have mx:∀{i x:Nat},ord[i]?=some x->x<n:=λq=>by have:=O.lt _ (List.mem_of_getElem? q);omega
 refine zI (bD M a n c) b m d h.next Q (some ⟨kn,0,none⟩) n n (λmz i g=>i<=m/\mz=m-i/\uE g8 kn 3 (Uc n (ord.take i)) g) _ (λmz i=>?_) m (i:=0) ⟨zero_le _,rfl,k⟩;intros;rename_i g F;obtain⟨f1,rfl,k⟩:=F;have f:=D.trans k.ok;refine ah (λJ=>?_) (λJ=>?_)
 ·have J:=dT J;obtain⟨x,q⟩:∃x,ord[i]?=some x:=⟨_,gE (by omega)⟩
  obtain⟨p,e1,e2⟩:=atG (ro.ok f) q;have G:=mx q;obtain⟨n1,_⟩:=LU (c:=n) k.row G;have st:=bG (t:=3) wM k.row (i:=x) (by rw[Oa];exact G) (v:= .int .i64 (i:Int)) rfl rfl;have y4:x∉ord.take i:=λx1=>by
   obtain⟨j,L,e⟩:=List.mem_iff_getElem.1 x1;rw[length_take]at L;rw[List.getElem_take]at e;have e':ord[j]?=some x:=by rw[gE (by omega),e]
   have:=Eu O.nd e' q;omega
  have hl:(ord.take i).length=i:=by rw[length_take];omega
  refine⟨_,e1,_,e2,_,n1,_,st,?_⟩;rw[bA (n:=m) (by omega) (by omega)];refine cG (m-(i+1)) (by omega) ⟨by omega,rfl,?_⟩;have e3:ord.take (i+1)=ord.take i++[x]:=by rw[take_add_one,q];rfl
  rw[e3,Ud y4,hl];exact k.set D.wf x _
 ·have J:=dF J;obtain rfl:m=i:=by omega
  rw[take_of_length_le (by omega)]at k;have A:=X.ok k.ok;have oR:=(Ok.refl f.wf).room 15;have I:=A.ok oR;have y6:=gd.ob;have y5:=gd.rA;obtain⟨S,hS⟩:∃S:Nat,M.start=(S:Int):=⟨M.start.toNat,by omega⟩
  have y0:S<n:=by omega
  have lS:=I.l1;rw[hS]at lS;obtain⟨n1,n2⟩:=LU (c:=n) (oR.ext _ _ k.row) y0;have mk:=adz m (by omega);refine⟨_,tO _,_,I.l0,_,pk _,_,lS,_,n1,_,n2,_,Te _,_,I.l2,_,_,_,mk,_,acQ _ _ _ _ _ _,_,OY,?_⟩;obtain⟨o2,x5,V⟩:=OH f.wf (n:=15) (i:=11) (j:=13) (by omega) (by omega) (by omega) (.cells ((List.replicate m Hq).map sg).flatten 44 2 true) sk;have z5:=f.ext;generalize y8:aw (Go.Ab.room g 15) g.next [(13,sk),(11,.cells ((List.replicate m Hq).map sg).flatten 44 2 true)]=S2 at*;have pa:=dM (t:=24) mY (cs0:=[.int .i64 0,.int .i64 0,strOf [],.slice none 0 0]) rfl V (cs:=[.int .i64 M.kind,.int .i64 (eS ord 0 S),strOf M.lead,.slice (some ⟨g.next+11,0,none⟩) m m]) rfl rfl;refine⟨_,pa,?_⟩;obtain⟨o3,x2⟩:=mM (cs:=[.int .i64 M.kind,.int .i64 (eS ord 0 S),strOf M.lead,.slice (some ⟨g.next+11,0,none⟩) m m]) f.wf o2 V (by omega);have x4:((bp.set (g.next+13) (.cells [.int .i64 M.kind,.int .i64 (eS ord 0 S),strOf M.lead,.slice (some ⟨g.next+11,0,none⟩) m m] 24 0 true)).app S2).get (g.next+11)=some (.cells ((List.replicate m Hq).map sg).flatten 44 2 true):=by
   show(S2.set (g.next+13) _).get (g.next+11)=_;rw[aa.ay,if_neg (by omega)];exact x5
  generalize (bp.set (g.next+13) (.cells [.int .i64 M.kind,.int .i64 (eS ord 0 S),strOf M.lead,.slice (some ⟨g.next+11,0,none⟩) m m] 24 0 true)).app S2=x9 at*;have x0:M.start.toNat=S:=by omega
  have l:so g (g.next+13) (g.next+11) m (ix M ord) (List.replicate m Hq) x9:=⟨iT.made x4 (by omega) (by omega),o3,by unfold Bm bD ix;rw[x0];exact x2,λi p P j L=>(by
   rw[getElem?_replicate]at P;split at P
   ·obtain rfl:=oI P;cases L
   ·cases P),by omega⟩
  subst hm;refine zJ (bD M a n c) b ord.length d h.next Q (g.next+13) (some ⟨kn,0,none⟩) n n (rP2 g M ord (g.next+13) (g.next+11)) _ (λy9 i=>?_) ord.length (i:=0) ⟨zero_le _,rfl,_,by rw[QY,map_replicate],l⟩;intros;rename_i gg F;obtain⟨f2,rfl,ps,C,l⟩:=F;have x7:=A.ok l.ok;refine ah (λH=>?_) (λH=>?_)
  ·have H:=dT H;have hi:i<ord.length:=by omega
   obtain⟨x,q⟩:∃x,ord[i]?=some x:=⟨_,gE hi⟩
   have G:=mx q;obtain⟨s,N⟩:=Er (M:=M) (i:=x) (by omega);obtain⟨p,e1,e2⟩:=atG (ro.ok (f.trans l.ok)) q;obtain⟨p0,U,x8⟩:=TZ C (Om (M:=M) hi);obtain⟨i1,i2,i3⟩:=l.own.at_ U;rw[zero_add]at i1;obtain⟨u,s1,K,_⟩:=l.abS f.wf U s.f;obtain⟨bb,o,x',y,z,j1,j2,j3,j4,ar⟩:=A.row.Kr l.ok N;obtain⟨z4,o',z0,y2,z2,l1,l2,l3,l4,T⟩:=A.row.Kr K.ok N;have x3:=A.ok K.ok;refine⟨_,e1,_,e2,_,eJ _,_,_,_,l.l3,_,i1,_,eJ _,_,_,_,x7.l3,_,j1,_,pn _ _,_,j3,_,pn _ _,u,s1,_,eJ _,_,_,_,x3.l3,_,l1,_,iw _ _,_,_,_,l4,?_⟩;refine LJ (h0:=g) f.wf gd A (Ok.refl f.wf) (by omega) k.row q N (hA s (List.mem_of_getElem? N)) x6 T none 0 0 _ rfl (bD M a n c) _ y2 (j:=0) ⟨zero_le _,T.len.trans rfl,_,?_,K⟩;rw[map_set,C];unfold GO;rw[take_zero,x8];rfl
  ·have H:=dF H;obtain rfl:i=ord.length:=by omega
   rw[QW]at C;have oG:=f.trans l.ok;have Z:=l.ok.ext _ _ (k.ok.ext _ _ R);have hK:Q<g.next:=f.wf _ _ (k.ok.ext _ _ R);have y1:=dM (t:=24) mY (cs0:=[.int .i64 0,.int .i64 0,strOf [],.slice none 0 0]) rfl Z (cs:=bD (ix M ord) (some ⟨g.next+11,0,none⟩) ord.length ord.length) rfl (Eo _ _ _ _);obtain⟨o5,k5⟩:=mM (cs:=bD (ix M ord) (some ⟨g.next+11,0,none⟩) ord.length ord.length) w oG Z (by omega);refine⟨_,l.all,_,y1,Ip (v:= .agg ⟨bD (ix M ord) (some ⟨g.next+11,0,none⟩) ord.length ord.length⟩) (gG Dx C4 mY k5 (by simp[bD])) ?_⟩;refine⟨_,_,_,ps,rfl,by rw[C];rfl,?_,o5⟩;exact l.own.low f (λj B L z1=>by
    show(gg.set Q _).get j=_;rw[aa.ay,if_neg (by omega)];exact L)
end
end
def zM(a:Int):List UInt8:=if a=1 then[48]else if a=2\/a=3 then[49]else[]
theorem Ya(k:Nat):af SS.P 100 (.pointer (some ⟨k,0,none⟩)) 1=some (.pointer (some ⟨k,1,none⟩)):=by kernel_rfl
theorem Zn(a:Int){h:aa}(w:Wf h):FW SS 24 [.int .i64 a] h (λv s=>v=strOf (zM a)/\Ok h s):=by
 refine Zm a h _ ((JU a w).mono ?_);rintro _ g ⟨rfl,o⟩;have d:∀(c:List Value)(b:Bool),c.length=8->c.all bw=true->c.getD 1 undef=strOf (zM a)->∃cs:List Value,∃t:Bool,(Value.tuple ⟨[.agg ⟨c⟩,.bool b]⟩)=(.tuple ⟨[.agg ⟨cs⟩,.bool t]⟩)/\∃B:bu,aA SS.P 100=some (B,dR)/\∃u:bp,aj SS.P 100 (.pointer (some ⟨g.next,0,none⟩)) (.agg ⟨cs⟩) (g.push B)=some (undef,u)/\∃p:Addr,af SS.P 100 (.pointer (some ⟨g.next,0,none⟩)) 1=some (.pointer (some p))/\∃l:List UInt8,ae SS.P 9 (u.app (g.push B)) (.pointer (some p))=some (strOf l)/\(strOf l=strOf (zM a)/\Ok h (u.app (g.push B))):=by
  intro c b n q r;have j:=aI g zv;have k:=(Ok.refl o.wf).push zv;obtain⟨x,m⟩:=mM (cs:=c) o.wf k j (Nat.le_refl _);refine⟨c,b,rfl,zv,Nx,_,dM Ct rfl j n q,_,Ya _,zM a,?_,rfl,o.trans x⟩;rw[aR WJ Z5 m (by omega),r]
 unfold ofV;split
 ·next e=>exact d ze true rfl rfl (by unfold zM;rw[if_pos e];rfl)
 ·next e=>
  split
  ·next f=>exact d zf true rfl rfl (by unfold zM;rw[if_neg e,if_pos (.inl f)];rfl)
  ·next f=>
   split
   ·next i=>exact d zg true rfl rfl (by unfold zM;rw[if_neg e,if_pos (.inr i)];rfl)
   ·next i=>exact d ll false rfl rfl (by unfold zM;rw[if_neg e,if_neg (by rintro(h|h)<;>contradiction)];rfl)
def JI(h:aa)(R:aG×Int):VH:=λv b=>∃(a:Option Addr)(n c:Nat)(d:List (fF×Value)),v = .tuple ⟨[.agg ⟨bD R.1 a n c⟩,.int .i64 R.2]⟩/\d.map (·.1)=R.1.ak/\iT h b (.slice a n c) d/\Ok h b
def CP:aG:=⟨0,0,[],[]⟩
def sZ(a:Int):aG×Int:=if 1<=a/\a<=3 then(⟨a,0,zM a,[⟨[],[]⟩]⟩,0)else(CP,1)
theorem Sr:aD SS.P 24 []=some (.agg ⟨bD CP none 0 0⟩):=by kernel_rfl
theorem aa0(k:Int)(l:List UInt8)(a:Option Addr)(n c:Nat):aD SS.P 24 [(0,(.int .i64 k)),(2,(strOf l)),(3,(.slice a n c))]=some (.agg ⟨[.int .i64 k,.int .i64 0,strOf l,.slice a n c]⟩):=by cases a<;>kernel_rfl
theorem wj(w:Wf h)(o:Ok h g){k:Nat}(f:g.get k=some sk)(i:h.next<=k){R:aG×Int}{a:Option Addr}{n c:Nat}{ps:List (fF×Value)}(e:ps.map (·.1)=R.1.ak){d:aa}(q:iT d g (.slice a n c) ps)(r:Ok h d)(b:k<d.next\/ps=[]/\a=none/\n=0/\c=0):
  ∃u:bp,aj SS.P 24 (.pointer (some ⟨k,0,none⟩)) (.agg ⟨bD R.1 a n c⟩) g=some (undef,u)/\dq SS [(.pointer (some ⟨k,0,none⟩),some 24),(.int .i64 R.2,none)] (u.app g) (JI h R):=by
 refine⟨_,dM (t:=24) mY (cs0:=[.int .i64 0,.int .i64 0,strOf [],.slice none 0 0]) rfl f (cs:=bD R.1 a n c) rfl (Eo ..),?_⟩;obtain⟨l,m⟩:=mM (cs:=bD R.1 a n c) w o f i;refine vp (v:= .agg ⟨bD R.1 a n c⟩) (gG Dx C4 mY m (by simp[bD])) ⟨a,n,c,ps,rfl,e,?_,l⟩;rcases b with b|⟨rfl,rfl,rfl,rfl⟩
 ·exact q.low r (λj B p s=>by
   show(g.set k _).get j=_;rw[aa.ay,if_neg (by omega)];exact p)
 ·exact iT.nil _ _
theorem yX(w:Wf h)(o:Ok h g){k:Nat}(d:g.get k=some sk)(c:h.next<=k){a:Int}(b:¬(1<=a/\a<=3)):∃cs:List Value,aD SS.P 24 []=some (.agg ⟨cs⟩)/\∃u:bp,aj SS.P 24 (.pointer (some ⟨k,0,none⟩)) (.agg ⟨cs⟩) g=some (undef,u)/\dq SS [(.pointer (some ⟨k,0,none⟩),some 24),(.int .i64 1,none)] (u.app g) (JI h (sZ a)):=by
 have e:sZ a=(CP,1):=by unfold sZ;rw[if_neg b]
 rw[e];exact⟨_,Sr,wj w o d c (R:=(CP,1)) (ps:=[]) rfl (iT.nil h g) (Ok.refl w) (.inr ⟨rfl,rfl,rfl,rfl⟩)⟩
theorem LZ(w:Wf h)(o:Ok h g){k:Nat}(p:g.get k=some sk)(j:h.next<=k){b:aa}(q:Wf b)(l:Ok h b)(r:Ok b g)(f:k<b.next){c:Nat}(m:b.next<=c)(d:g.get c=some (.cells ((List.replicate 1 Hq).map sg).flatten 44 2 true)){a:Int}(i:1<=a/\a<=3):
  ∃cs:List Value,aD SS.P 24 [(0,(.int .i64 a)),(2,(strOf (zM a))),(3,(.slice (some ⟨c,0,none⟩) 1 1))]=some (.agg ⟨cs⟩)/\∃u:bp,aj SS.P 24 (.pointer (some ⟨k,0,none⟩)) (.agg ⟨cs⟩) g=some (undef,u)/\dq SS [(.pointer (some ⟨k,0,none⟩),some 24),(.int .i64 0,none)] (u.app g) (JI h (sZ a)):=by
 have e:sZ a=(⟨a,0,zM a,[⟨[],[]⟩]⟩,0):=by unfold sZ;rw[if_pos i]
 rw[e];exact⟨_,aa0 _ _ _ _ _,wj w o p j (R:=(⟨a,0,zM a,[⟨[],[]⟩]⟩,0)) (ps:=[Hq]) rfl (iT.made (hb:=b) (n:=1) d m (by omega)) l (.inl f)⟩
theorem Ou(w:Wf h){n j:Nat}(b:j<n)(o:Ok (Go.Ab.room h n) g)(B:bu):Ok h (aw g h.next [(j,B)])/\(aw g h.next [(j,B)]).get (h.next+j)=some B:=by
 have a:h.next+n<=g.next:=o.nx;refine⟨(((Ok.refl w).room n).trans o).set B (Nat.le_add_right _ _) (by omega) w,?_⟩;show(g.set (h.next+j) B).get (h.next+j)=_;rw[aa.ay,if_pos rfl]
theorem I5(a:Int){h:aa}(w:Wf h):FW SS 97 [.int .i64 a] h (JI h (sZ a)):=by
 have b:=(Ok.refl w).push sk;have d:=aI h sk;refine I4 a h _ ⟨_,OY,ah (λq=>?_) (λq=>ah (λc=>?_) (λc=>?_))⟩
 ·have q:=dT q;exact yX w b d (Nat.le_refl _) (by omega)
 ·have c:=dT c;exact yX w b d (Nat.le_refl _) (by omega)
 ·have q:=dF q;have c:=dF c;have m:(h.push sk).next=h.next+1:=rfl;generalize h.push sk=g at*;have l:=(Ok.refl b.wf).room 7;refine(Zn a l.wf).mono ?_;rintro _ o ⟨rfl,k⟩;obtain⟨e,i⟩:=Ou b.wf (n:=7) (j:=3) (by omega) k (.cells ((List.replicate 1 Hq).map sg).flatten 44 2 true);have f:=e.ext _ _ d;refine⟨_,rfl,_,_,_,adz 1 (by omega),?_⟩;exact LZ w (b.trans e) f (Nat.le_refl _) b.wf b e (by omega) (by omega) i (by omega)
section
noncomputable def iI(M:aG):List Nat:=(List.range M.ak.length).filter λx=>@decide (fU M x) (Classical.propDecidable _)
noncomputable def dS(M:aG):aG×Int:=@ite _ (cL M=true) _ (@ite _ (fU M M.start.toNat) (Classical.propDecidable _) (ix M (iI M),0) (sZ M.kind)) (CP,1)
theorem yl{M:aG}(h:cL M=false):dS M=(CP,1):=by unfold dS;rw[h];rfl
theorem Cy{M:aG}(h:cL M=true)(a:¬fU M M.start.toNat):dS M=sZ M.kind:=by unfold dS;rw[if_pos h,if_neg a]
theorem Kc{M:aG}(h:cL M=true)(a:fU M M.start.toNat):dS M=(ix M (iI M),0):=by unfold dS;rw[if_pos h,if_pos a]
theorem pH(M:aG):AF M.ak.length (iI M):=⟨λx a=>List.mem_range.1 (List.mem_filter.1 a).1,List.nodup_range.filter _⟩
theorem YZ{M:aG}{L:List Bool}(c:m=M.ak.length)(a:∀x,x<m->(L.getD x false=true↔fU M x)):(List.range m).filter (λx=>L.getD x false)=iI M:=by
 unfold iI;subst c;refine List.filter_congr λx b=>?_;exact H2 (a x (List.mem_range.1 b))
section
variable {h:aa} {M:aG} {a:Option Addr} {n c:Nat}
def Qx(L:List Bool)(i:Nat):List Nat:=(List.range i).filter λx=>L.getD x false
theorem Qy(L:List Bool)(i:Nat):Qx L (i+1)=Qx L i++(if L.getD i false=true then[i]else[]):=by
 unfold Qx;rw[List.range_succ,List.filter_append];congr 1;split<;>simp_all
theorem Up(L:List Bool)(i:Nat):(Qx L i).length<=i:=by
 have:=List.length_filter_le (λx=>L.getD x false) (List.range i);rwa[List.length_range]at this
theorem V4{h d:aa}(w:Wf h)(o:Ok h g){b:Nat}(i:g.get b=some sk)(e:h.next<=b){R:aG}{v:Value}(k:adF g R v d):∃cs:List Value,v = .agg ⟨cs⟩/\∃u:bp,aj SS.P 24 (.pointer (some ⟨b,0,none⟩)) (.agg ⟨cs⟩) d=some (undef,u)/\dq SS [(.pointer (some ⟨b,0,none⟩),some 24),(.int .i64 0,none)] (u.app d) (JI h (R,0)):=by
 obtain⟨a,n,c,m,rfl,f,l,j⟩:=k;exact⟨_,rfl,wj w (o.trans j) (j.ext _ _ i) e (R:=(R,0)) f l o (.inl (o.wf _ _ i))⟩
theorem V5{h d:aa}(w:Wf h)(o:Ok h g){b:Nat}(j:g.get b=some sk)(f:h.next<=b){R:aG×Int}{v:Value}(l:JI g R v d):∃cs:List Value,∃e:Int,v = .tuple ⟨[.agg ⟨cs⟩,.int .i64 e]⟩/\∃u:bp,aj SS.P 24 (.pointer (some ⟨b,0,none⟩)) (.agg ⟨cs⟩) d=some (undef,u)/\dq SS [(.pointer (some ⟨b,0,none⟩),some 24),(.int .i64 e,none)] (u.app d) (JI h R):=by
 obtain⟨a,n,c,p,rfl,i,m,k⟩:=l;exact⟨_,_,rfl,wj w (o.trans k) (k.ext _ _ j) f i m o (.inl (o.wf _ _ j))⟩
def tI(a:aa)(L:List Bool)(n:Nat)(b i:Nat)(t:Option Addr)(tn tc:Nat)(g:aa):Prop:=i<=n/\b=n-i/\iu a g 3 (.slice t tn tc) ((Qx L i).map iv)/\Ok a g
theorem I6(tb:rK h)(w:Wf h)(p:Small M)(r:ey h (.slice a n c) M.ak):FW SS 39 [.agg ⟨bD M a n c⟩] h (JI h (dS M)):=by
 obtain⟨O,m⟩:=nT w r;have G:n=M.ak.length:=O.len;have hn:n<=300:=by rw[G];exact p.RL
 refine TY (bD M a n c) h _ ⟨_,oy M a n c,_,OY,?_⟩;have n0:h.next<=(h.push (Bm M a n c)).next:=m.nx;generalize h.push (Bm M a n c)=Z at*;have k4:=aI Z sk;have o1:=(Ok.refl m.wf).push sk;have o:=m.trans o1;have y:=O.ok o1;generalize Z.push sk=g1 at*;generalize Z.next=K at*;refine⟨_,y.all,(rW (tb.ok o) o.wf p y.row).mono ?_⟩;rintro _ g2 ⟨rfl,Y⟩;have C:=o.trans Y;have x:=y.ok Y;have J:=Y.ext _ _ k4;refine⟨_,rfl,ah (λq=>?_) (λq=>?_)⟩
 ·have q:cL M=false:=by simpa using q
  rw[yl q];exact⟨_,Sr,wj w C J n0 (R:=(CP,1)) (ps:=[]) rfl (iT.nil h g2) (Ok.refl w) (.inr ⟨rfl,rfl,rfl,rfl⟩)⟩
 have q:cL M=true:=by simpa using q
 have E:=rD q;have h0:=E.ob;have h1:=E.rA;refine⟨_,x.all,(E3 C.wf p E x.row).mono ?_⟩;rintro _ g3 ⟨kl,L,rfl,A,T⟩;have W:=A.row.ok;have d:=C.trans W;have B:=x.ok W;have I:=W.ext _ _ J;obtain⟨S,hS⟩:∃S:Nat,M.start=(S:Int):=⟨M.start.toNat,by omega⟩
 have H:M.start.toNat=S:=by omega
 have D:S<n:=by omega
 have lS:=B.l1;rw[hS]at lS;obtain⟨x1,x2⟩:=qI (c:=n) A.row.row A.len D;refine⟨_,_,_,rfl,_,pk _,_,lS,_,x1,_,x2,ah (λf=>?_) (λf=>?_)⟩
 ·have f:L.getD S false=false:=by simpa using f
  have V:¬fU M M.start.toNat:=by rw[H,<-T S D,f];exact Bool.false_ne_true
  rw[Cy q V];refine⟨_,tO _,_,B.l0,(I5 M.kind d.wf).mono ?_⟩;intro v g4 U;exact V5 w d I n0 U
 ·have f:L.getD S false=true:=by simpa using f
  have V:fU M M.start.toNat:=by rw[H,<-T S D];exact f
  rw[Kc q V];refine xM (bD M a n c) h.next K (some ⟨kl,0,none⟩) n n (tI g3 L n) _ (λmz i t tn tc=>?_) n (i:=0) ⟨zero_le _,rfl,iu.nil _ _ _,Ok.refl d.wf⟩;intros;rename_i g x0;obtain⟨f1,rfl,F,k⟩:=x0;refine ah (λz=>?_) (λz=>?_)
  ·have z:=dT z;have X:i<n:=by omega
   obtain⟨y1,y2⟩:=qI (c:=n) (k.ext _ _ A.row.row) A.len X;have l:=Qy L i;refine⟨_,y1,_,y2,ah (λQ=>?_) (λQ=>?_)⟩
   ·rw[if_pos Q]at l;have oP:=(Ok.refl k.wf).push (.cells [.int .i64 (i:Int)] 3 1 true);have kP:=aI g (.cells [.int .i64 (i:Int)] 3 1 true);have hl:=Up L i;obtain⟨b,n',c',u,a1,a2,a3,a4,_⟩:=Vq d.wf (k.trans oP) (F.ok oP) kP (by rw[lM];omega);refine⟨_,_,_,tG _,b,n',c',u,a1,?_⟩;dsimp only;rw[bA X (by omega)];refine NT (n-(i+1)) (by omega) ⟨by omega,rfl,?_,a4⟩;rw[l,map_append];exact a3
   ·rw[if_neg (by rw[Q];exact Bool.false_ne_true),append_nil]at l;rw[bA X (by omega)];exact NT (n-(i+1)) (by omega) ⟨by omega,rfl,by rw[l];exact F,k⟩
  ·have z:=dF z;obtain rfl:n=i:=by omega
   have N:=d.trans k;have P:=B.ok k;have eo:Qx L n=iI M:=YZ G T;rw[eo]at F;refine⟨_,P.all,(YI N.wf E p.RL (λs hs=>?_) P.row F.rd (pH M)).mono ?_⟩
   ·obtain⟨j,hj,e⟩:=List.mem_iff_getElem.1 hs;exact(wB p (i:=j) (by rw[gE hj,e])).1
   ·intro v g5 U;exact V4 w N (k.ext _ _ I) n0 U
end
end
variable{w:Value}{Q:VH}
noncomputable def mD:FD:=dY Tryz.f108 [([1,1,0,1,0,0],[0,1,12,13])]
abbrev jt(a:OA)(n c:Nat)(b:OA)(m d:Nat)(i:Nat):LV:=[(.slice a n c),(.slice b m d),(iA n),(iA i)]
theorem Pv(a:OA)(n c:Nat)(b:OA)(m d:Nat)(h:aa)(Q:VH)(e:aS ((((n:Int):Int) !=(m:Int))) (Q (.bool false) h) (LL SS mD [1,1,0,1,0,0] (jt a n c b m d 0) h (KK SS mD [1,1,0,1,0] [] (EE SS mD Q)))):FW SS 108 [(.slice a n c),(.slice b m d)] h Q:=eh mD Tryz.func108 (av e)
theorem vw(a:OA)(n c:Nat)(b:OA)(m d:Nat)  (f:Nat->Nat->aa->Prop) (Q:VH) (step:∀(e:Nat)(i:Nat)(j:Nat->Value)(h:aa),f e i h->aS (decide (((i:Int):Int)<(n:Int))) (xP (ai SS.P 27 (.slice a n c) (iA i)) λl=>xI .i64 (ae SS.P 3 (room h 9) (.pointer (some l))) λk=>xP (ai SS.P 27 (.slice b m d) (iA i)) λo=>xI .i64 (ae SS.P 3 (room h 9) (.pointer (some o))) λp=>aS (((k:Int) !=p)) (Q (.bool false) (room h 9)) (aH (fD (jt a n c b m d) f) e [(.slice a n c),(.slice b m d),(iA n),(.int .i64 (wrap .i64 ((i:Int)+1)))] (room h 9))) (Q (.bool true) h)) (e:Nat) {i:Nat} {h:aa} (g:f e i h):LL SS mD [1,1,0,1,0,0] (jt a n c b m d i) h (KK SS mD [1,1,0,1,0] [] (EE SS mD Q)):=
 dN (jt a n c b m d) f (λe i j h g=>av (step e i j h g)) e g
noncomputable def jV:FD:=dY Tryz.f122 [([1,0,0],[0,2,3])]
abbrev iO(a:OA)(n c:Nat)(i:Nat)(j:Int):LV:=[(.slice a n c),(iA i),(.int .i64 j)]
theorem Mw(a:OA)(n c:Nat)(h:aa)(Q:VH)(b:LL SS jV [1,0,0] (iO a n c 0 (wrap .i64 ((n:Int)-1))) h (KK SS jV [1,0] [] (EE SS jV Q))):FW SS 122 [(.slice a n c)] h Q:=eh jV Tryz.func122 (av b)
theorem uk(a:OA)(n c:Nat)  (d:Nat->Nat->Int->aa->Prop) (Q:VH) (step:∀(b:Nat)(i:Nat)(j:Int)(g:Nat->Value)(h:aa),d b i j h->aS (decide (((i:Int):Int)<j)) (xP (ai SS.P 27 (.slice a n c) (.int .i64 j)) λp=>xI .i64 (ae SS.P 3 (room h 16) (.pointer (some p))) λl=>xP (ai SS.P 27 (.slice a n c) (iA i)) λq=>xI .i64 (ae SS.P 3 (room h 16) (.pointer (some q))) λr=>xP (ai SS.P 27 (.slice a n c) (iA i)) λo=>xU (aj SS.P 3 (.pointer (some o)) (.int .i64 l) (room h 16)) (room h 16) λs f=>xP (ai SS.P 27 (.slice a n c) (.int .i64 j)) λm=>xU (aj SS.P 3 (.pointer (some m)) (.int .i64 r) f) f λt k=>aH (qu (iO a n c) d) b [(.slice a n c),(.int .i64 (wrap .i64 ((i:Int)+1))),(.int .i64 (wrap .i64 (j-1)))] k) (Q (.tuple ⟨[]⟩) h)) (b:Nat) {i:Nat} {j:Int} {h:aa} (e:d b i j h):LL SS jV [1,0,0] (iO a n c i j) h (KK SS jV [1,0] [] (EE SS jV Q)):=
 oJ (iO a n c) d (λb i j g h e=>av (step b i j g h e)) b e
noncomputable def Ph:FD:=dY Tryz.f148 []
theorem K6(p:Addr)(n c:Nat)(h:aa)(Q:VH)(e:xR (az SS.P 27 0 []) h λl b g a=>xE (aJ SS.P 27 27 (sA (h.next) b g) (.slice (some p) n c) a) a λi f d k j=>Q (.slice i f d) j):FW SS 148 [(.slice (some p) n c)] h Q:=eh Ph Tryz.func148 (av e)
noncomputable def SJ:FD:=dY Tryz.f148 []
theorem Pg  (h:aa) (Q:VH) (a:Q nA h):FW SS 148 [nA] h Q:=eh SJ Tryz.func148 (av a)
noncomputable def Y6:FD:=dY Tryz.f109 []
theorem Uq(s k:LV)(h:aa)(Q:VH)(w:xN (dp SS.P 66 (.agg ⟨s⟩)) h λA b=>xN (dp SS.P 105 (.agg ⟨k⟩)) b λB a=>xP (af SS.P 66 (pA (h.next)) 0) λv=>xP (af SS.P 24 (.pointer (some v)) 3) λz=>xL (ae SS.P 22 a (.pointer (some z))) λx y u=>xP (af SS.P 105 (pA (b.next)) 0) λj=>xI .i64 (ae SS.P 3 a (.pointer (some j))) λm=>xP (ai SS.P 22 (.slice x y u) (.int .i64 m)) λn=>xP (af SS.P 44 (.pointer (some n)) 0) λp=>xS (ae SS.P 9 a (.pointer (some p))) λe=>aS (!((e:LB)==[])) (xP (af SS.P 66 (pA (h.next)) 1) λg=>xP (af SS.P 24 (.pointer (some g)) 3) λl=>xL (ae SS.P 22 a (.pointer (some l))) λt i o=>xP (af SS.P 105 (pA (b.next)) 1) λq=>xI .i64 (ae SS.P 3 a (.pointer (some q))) λr=>xP (ai SS.P 22 (.slice t i o) (.int .i64 r)) λd=>xP (af SS.P 44 (.pointer (some d)) 0) λc=>xS (ae SS.P 9 a (.pointer (some c))) λf=>Q (.bool (!((f:LB)==[]))) a) (Q (.bool false) a)):FW SS 109 [(.agg ⟨s⟩),(.agg ⟨k⟩)] h Q:=eh Y6 Tryz.func109 (av w)
noncomputable def de:FD:=dY Tryz.f111 [([1,0,1,0,0],[2,3,4,19,20,21]),([1,0,1,0,0,1,1,0,0,1,1,1,0,0],[2,3,4,7,19,20,21,45,46,47]),([1,1,1,0,0],[2,3,4,79,80,81])]
abbrev gh(b:Nat)(e f:LV)(g d:Nat)(a:OA)(n c:Nat)(i:Nat):LV:=[(.func (.func b) ⟨e⟩ ⟨f⟩),(pA g),(pA d),(.slice a n c),(iA n),(iA i)]
abbrev kG(e:Nat)(g h:LV)(l f:Nat)(a:OA)(n c k:Nat)(b:OA)(m d i:Nat)(j:Nat):LV:=[(.func (.func e) ⟨g⟩ ⟨h⟩),(pA l),(pA f),(pA k),(.slice a n c),(iA n),(iA i),(.slice b m d),(iA m),(iA j)]
abbrev kH(b:Nat)(e f:LV)(g d:Nat)(a:OA)(n c:Nat)(i:Nat):LV:=[(.func (.func b) ⟨e⟩ ⟨f⟩),(pA g),(pA d),(.slice a n c),(iA n),(iA i)]
theorem Vw(o g:LV)(e:Nat)(l n:LV)(h:aa)(Q:VH)(r:xN (dp SS.P 66 (.agg ⟨o⟩)) h λv c=>xN (dp SS.P 105 (.agg ⟨g⟩)) c λw a=>xP (af SS.P 66 (pA (h.next)) 0) λq=>xP (af SS.P 24 (.pointer (some q)) 3) λu=>xL (ae SS.P 22 a (.pointer (some u))) λs t p=>xP (af SS.P 105 (pA (c.next)) 0) λf=>xI .i64 (ae SS.P 3 a (.pointer (some f))) λi=>xP (ai SS.P 22 (.slice s t p) (.int .i64 i)) λj=>xP (af SS.P 44 (.pointer (some j)) 1) λm=>xL (ae SS.P 42 a (.pointer (some m))) λd b k=>LL SS de [1,0,1,0,0] [(.func (.func e) ⟨l⟩ ⟨n⟩),(pA (h.next)),(pA (c.next)),(.slice d b k),(iA b),(.int .i64 0)] a (KK SS de [1,0,1,0] [] (EE SS de Q))):FW SS 111 [(.agg ⟨o⟩),(.agg ⟨g⟩),(.func (.func e) ⟨l⟩ ⟨n⟩)] h Q:=eh de Tryz.func111 (av r)
theorem yi(pv kv:LV)(e:Nat)(k l:LV)(f d:Nat)(a:OA)(n c:Nat)(g:Nat->Nat->aa->Prop)(Q:VH)(step:∀(j:Nat) (i:Nat) (O:Nat->Value) (h:aa),g j i h->aS (decide (((i:Int):Int)<(n:Int))) (xP (ai SS.P 42 (.slice a n c) (iA i)) λG=>xA (ae SS.P 46 h (.pointer (some G))) λs=>xN (aA SS.P 46) h λx4 p=>xU (aj SS.P 46 (pA (h.next)) (.agg ⟨s⟩) p) p λx3 b=>xP (af SS.P 46 (pA (h.next)) 0) λr=>xI .i64 (ae SS.P 3 b (.pointer (some r))) λF=>aS (((F:Int)==0)) (xP (af SS.P 46 (pA (h.next)) 1) λJ=>xI .i64 (ae SS.P 3 b (.pointer (some J))) λW=>xA (aD SS.P 116 [(0,(.int .i64 0)),(1,(.int .i64 W)),(2,(.int .i64 0))]) λC=>xP (af SS.P 46 (pA (h.next)) 3) λP=>xI .i64 (ae SS.P 3 b (.pointer (some P))) λx=>xP (af SS.P 105 (pA d) 1) λw=>xI .i64 (ae SS.P 3 b (.pointer (some w))) λK=>xA (aD SS.P 105 [(0,(.int .i64 x)),(1,(.int .i64 K))]) λI=>aS (Nat.blt e YB) (FW SS e (k++[(.agg ⟨C⟩),(.agg ⟨I⟩)]++l) b λA M=>A=(.tuple ⟨[]⟩)/\aH (fD (gh e k l f d a n c) g) j [(.func (.func e) ⟨k⟩ ⟨l⟩),(pA f),(pA d),(.slice a n c),(iA n),(.int .i64 (wrap .i64 ((i:Int)+1)))] M) False) (xP (af SS.P 66 (pA f) 1) λV=>xP (af SS.P 24 (.pointer (some V)) 3) λy=>xL (ae SS.P 22 b (.pointer (some y))) λu x0 X=>xP (af SS.P 105 (pA d) 1) λE=>xI .i64 (ae SS.P 3 b (.pointer (some E))) λR=>xP (ai SS.P 22 (.slice u x0 X) (.int .i64 R)) λx1=>xP (af SS.P 44 (.pointer (some x1)) 1) λU=>xL (ae SS.P 42 b (.pointer (some U))) λD m S=>LL SS de [1,0,1,0,0,1,1,0,0,1,1,1,0,0] [(.func (.func e) ⟨k⟩ ⟨l⟩),(pA f),(pA d),(pA (h.next)),(.slice a n c),(iA n),(iA i),(.slice D m S),(iA m),(.int .i64 0)] b (KK SS de [1,1,0,0,1,1,1,0] [1,0,1,0,0] (RR de [1,0,1,0,0] (fD (gh e k l f d a n c) g) j (KK SS de [1,0,1,0] [] (EE SS de Q)))))) (xP (af SS.P 66 (pA f) 1) λT=>xP (af SS.P 24 (.pointer (some T)) 3) λt=>xL (ae SS.P 22 h (.pointer (some t))) λY Z x2=>xP (af SS.P 105 (pA d) 1) λH=>xI .i64 (ae SS.P 3 h (.pointer (some H))) λv=>xP (ai SS.P 22 (.slice Y Z x2) (.int .i64 v)) λL=>xP (af SS.P 44 (.pointer (some L)) 1) λN=>xL (ae SS.P 42 h (.pointer (some N))) λz o B=>LL SS de [1,1,1,0,0] [(.func (.func e) ⟨k⟩ ⟨l⟩),(pA f),(pA d),(.slice z o B),(iA o),(.int .i64 0)] h (KK SS de [1,1,1,0] [] (EE SS de Q))))(j:Nat){i:Nat}{h:aa}(q:g j i h):LL SS de [1,0,1,0,0] (gh e k l f d a n c i) h (KK SS de [1,0,1,0] [] (EE SS de Q)):=
 dN (gh e k l f d a n c) g (λj i O h q=>av (step j i O h q)) j q
theorem yj(V U:LV)(g:Nat)(l o:LV)(r q:Nat)(a:OA)(n c:Nat)(p:Nat)(b:OA)(m d:Nat)(s:Nat->Nat->aa->Prop)(w i:Nat)(k:Nat->Nat->aa->Prop)(Q:VH)(step:∀(f:Nat) (j:Nat) (C:Nat->Value) (h:aa),k f j h->aS (decide (((j:Int):Int)<(m:Int))) (xP (ai SS.P 42 (.slice b m d) (iA j)) λv=>xA (ae SS.P 46 h (.pointer (some v))) λP=>xN (aA SS.P 46) h λT t=>xU (aj SS.P 46 (pA (h.next)) (.agg ⟨P⟩) t) t λS e=>xP (af SS.P 46 (pA (h.next)) 0) λL=>xI .i64 (ae SS.P 3 e (.pointer (some L))) λy=>xP (af SS.P 46 (pA p) 0) λH=>xI .i64 (ae SS.P 3 e (.pointer (some H))) λJ=>aS (((y:Int)==J)) (xP (af SS.P 46 (pA p) 0) λI=>xI .i64 (ae SS.P 3 e (.pointer (some I))) λR=>xP (af SS.P 46 (pA p) 1) λM=>xI .i64 (ae SS.P 3 e (.pointer (some M))) λN=>xP (af SS.P 46 (pA (h.next)) 1) λz=>xI .i64 (ae SS.P 3 e (.pointer (some z))) λE=>xA (aD SS.P 116 [(0,(.int .i64 R)),(1,(.int .i64 N)),(2,(.int .i64 E))]) λF=>xP (af SS.P 46 (pA p) 3) λK=>xI .i64 (ae SS.P 3 e (.pointer (some K))) λD=>xP (af SS.P 46 (pA (h.next)) 3) λx=>xI .i64 (ae SS.P 3 e (.pointer (some x))) λB=>xA (aD SS.P 105 [(0,(.int .i64 D)),(1,(.int .i64 B))]) λO=>aS (Nat.blt g YB) (FW SS g (l++[(.agg ⟨F⟩),(.agg ⟨O⟩)]++o) e λG A=>G=(.tuple ⟨[]⟩)/\aH (fD (kG g l o r q a n c p b m d i) k) f [(.func (.func g) ⟨l⟩ ⟨o⟩),(pA r),(pA q),(pA p),(.slice a n c),(iA n),(iA i),(.slice b m d),(iA m),(.int .i64 (wrap .i64 ((j:Int)+1)))] A) False) (aH (fD (kG g l o r q a n c p b m d i) k) f [(.func (.func g) ⟨l⟩ ⟨o⟩),(pA r),(pA q),(pA p),(.slice a n c),(iA n),(iA i),(.slice b m d),(iA m),(.int .i64 (wrap .i64 ((j:Int)+1)))] e)) (aH (fD (gh g l o r q a n c) s) w [(.func (.func g) ⟨l⟩ ⟨o⟩),(pA r),(pA q),(.slice a n c),(iA n),(.int .i64 (wrap .i64 ((i:Int)+1)))] h))(f:Nat){j:Nat}{h:aa}(u:k f j h):LL SS de [1,0,1,0,0,1,1,0,0,1,1,1,0,0] (kG g l o r q a n c p b m d i j) h (KK SS de [1,1,0,0,1,1,1,0] [1,0,1,0,0] (RR de [1,0,1,0,0] (fD (gh g l o r q a n c) s) w (KK SS de [1,0,1,0] [] (EE SS de Q)))):=
 dN (kG g l o r q a n c p b m d i) k (λf j C h u=>av (step f j C h u)) f u
theorem yk(H G:LV)(f:Nat)(j k:LV)(l g:Nat)(a:OA)(n c:Nat)(d:Nat->Nat->aa->Prop)(Q:VH)(step:∀(b:Nat) (i:Nat) (w:Nat->Value) (h:aa),d b i h->aS (decide (((i:Int):Int)<(n:Int))) (xP (ai SS.P 42 (.slice a n c) (iA i)) λC=>xA (ae SS.P 46 h (.pointer (some C))) λu=>xN (aA SS.P 46) h λF m=>xU (aj SS.P 46 (pA (h.next)) (.agg ⟨u⟩) m) m λE e=>xP (af SS.P 46 (pA (h.next)) 0) λD=>xI .i64 (ae SS.P 3 e (.pointer (some D))) λs=>aS (((s:Int)==0)) (xP (af SS.P 46 (pA (h.next)) 1) λq=>xI .i64 (ae SS.P 3 e (.pointer (some q))) λy=>xA (aD SS.P 116 [(0,(.int .i64 0)),(1,(.int .i64 0)),(2,(.int .i64 y))]) λr=>xP (af SS.P 105 (pA g) 0) λA=>xI .i64 (ae SS.P 3 e (.pointer (some A))) λv=>xP (af SS.P 46 (pA (h.next)) 3) λt=>xI .i64 (ae SS.P 3 e (.pointer (some t))) λB=>xA (aD SS.P 105 [(0,(.int .i64 v)),(1,(.int .i64 B))]) λz=>aS (Nat.blt f YB) (FW SS f (j++[(.agg ⟨r⟩),(.agg ⟨z⟩)]++k) e λx o=>x=(.tuple ⟨[]⟩)/\aH (fD (kH f j k l g a n c) d) b [(.func (.func f) ⟨j⟩ ⟨k⟩),(pA l),(pA g),(.slice a n c),(iA n),(.int .i64 (wrap .i64 ((i:Int)+1)))] o) False) (aH (fD (kH f j k l g a n c) d) b [(.func (.func f) ⟨j⟩ ⟨k⟩),(pA l),(pA g),(.slice a n c),(iA n),(.int .i64 (wrap .i64 ((i:Int)+1)))] e)) (Q (.tuple ⟨[]⟩) h))(b:Nat){i:Nat}{h:aa}(p:d b i h):LL SS de [1,1,1,0,0] (kH f j k l g a n c i) h (KK SS de [1,1,1,0] [] (EE SS de Q)):=
 dN (kH f j k l g a n c) d (λb i w h p=>av (step b i w h p)) b p
noncomputable def ck:FD:=dY Tryz.f105 [([1,1,1,0,1,0,0],[1,2,3,5])]
abbrev fy(b a c:Nat)(i:Nat):LV:=[(pA b),(pA a),(pA c),(iA i)]
theorem Jr(g:LV)(h:aa)(Q:VH)(p:xN (dp SS.P 66 (.agg ⟨g⟩)) h λs j=>xN (aA SS.P 162) j λt k=>xN (aA SS.P 163) k λu a=>xP (af SS.P 66 (pA (h.next)) 0) λm=>xP (af SS.P 24 (.pointer (some m)) 1) λl=>xI .i64 (ae SS.P 3 a (.pointer (some l))) λi=>xP (af SS.P 66 (pA (h.next)) 1) λb=>xP (af SS.P 24 (.pointer (some b)) 1) λf=>xI .i64 (ae SS.P 3 a (.pointer (some f))) λe=>xA (aD SS.P 105 [(0,(.int .i64 i)),(1,(.int .i64 e))]) λd=>xN (aA SS.P 105) a λr c=>xU (aj SS.P 105 (pA (a.next)) (.agg ⟨d⟩) c) c λq n=>wpD SS ck.nm (UU (jD [1,1,0] ck.body)) (fr (uN [(.agg ⟨g⟩),(pA (h.next)),(pA (j.next)),(pA (k.next)),(pA (a.next)),undef,(.pointer (some m)),(.pointer (some l)),(.int .i64 i),(.pointer (some b)),(.pointer (some f)),(.int .i64 e),(.agg ⟨d⟩)] 20)) n (lift ck.nm λo h=>(KK SS ck [1,1,0] [] (EE SS ck Q)) .normal o h)):FW SS 105 [(.agg ⟨g⟩)] h Q:=eh ck Tryz.func105 (av p)
theorem zO{E H F I u x c r j A C q z y d b a g l D t o f s p e B:Value}(G:LL SS ck [1,1,1,0,1,0,0] (fy n m k 0) h (KK SS ck [1,1,1,0,1,0] [] (EE SS ck Q))):(KK SS ck [1,1,0] [] (EE SS ck Q)) .normal [v,(pA n),(pA m),(pA k),(pA i),w,E,H,F,I,u,x,c,r,j,A,C,q,z,y,d,b,a,g,l,D,t,o,f,s,p,e,B] h:=av G
theorem sF(C:LV)(g a b:Nat)(d:Nat->Nat->aa->Prop)(Q:VH)(step:∀(c:Nat) (i:Nat) (t:Nat->Value) (h:aa),d c i h->xL (ae SS.P 162 h (pA a)) λz q A=>aS (decide (((i:Int):Int)<(q:Int))) (xA (ae SS.P 66 (room h 7) (pA g)) λk=>xL (ae SS.P 162 (room h 7) (pA a)) λr s w=>xP (ai SS.P 162 (.slice r s w) (iA i)) λp=>xA (ae SS.P 105 (room h 7) (.pointer (some p))) λu=>FW SS 111 [(.agg ⟨k⟩),(.agg ⟨u⟩),(.func (.func 144) ⟨[]⟩ ⟨[(pA b),(pA a)]⟩)] (room h 7) λx v=>x=(.tuple ⟨[]⟩)/\aH (fD (fy g a b) d) c [(pA g),(pA a),(pA b),(.int .i64 (wrap .i64 ((i:Int)+1)))] v) (xL (ae SS.P 162 (room h 4) (pA a)) λl n m=>xV (ae SS.P 163 (room h 4) (pA b)) λe=>xU (aj SS.P 162 (pA a) (.slice l n m) (room h 4)) (room h 4) λy f=>xU (aj SS.P 163 (pA b) e f) f λB o=>(ae SS.P 163 f (pA b)=some e/\df 4 e e=true)/\dq SS [((pA a),some 162),((pA b),some 163)] o Q))(c:Nat){i:Nat}{h:aa}(j:d c i h):LL SS ck [1,1,1,0,1,0,0] (fy g a b i) h (KK SS ck [1,1,1,0,1,0] [] (EE SS ck Q)):=
 dN (fy g a b) d (λc i t h j=>av (step c i t h j)) c j
noncomputable def QC:FD:=dY Tryz.f144 []
theorem Me(l n:LV)(g c:Nat)(h:aa)(Q:VH)(x:xN (dp SS.P 116 (.agg ⟨l⟩)) h λI d=>xN (dp SS.P 105 (.agg ⟨n⟩)) d λJ a=>xV (ae SS.P 163 a (pA g)) λy=>xA (ae SS.P 105 a (pA (d.next))) λA=>∃z:Int,∃m:Bool,(jF SS.P 163 y (.agg ⟨A⟩) true a)=some (.tuple ⟨[(.int .i64 z),(.bool m)]⟩)/\aS (!m) (xV (ae SS.P 163 a (pA g)) λB=>xA (ae SS.P 105 a (pA (d.next))) λv=>xL (ae SS.P 162 a (pA c)) λE q G=>xU (gH SS.P 163 B (.agg ⟨v⟩) (iA q) a) a λC b=>xL (ae SS.P 162 b (pA c)) λo w i=>xA (ae SS.P 105 b (pA (d.next))) λs=>xR (az SS.P 162 1 [(0,(.agg ⟨s⟩))]) b λH t j f=>xE (aJ SS.P 162 162 (.slice o w i) (sA (b.next) t j) f) f λp k r F e=>xU (aj SS.P 162 (pA c) (.slice p k r) e) e λD u=>Q (.tuple ⟨[]⟩) u) (Q (.tuple ⟨[]⟩) a)):FW SS 144 [(.agg ⟨l⟩),(.agg ⟨n⟩),(pA g),(pA c)] h Q:=eh QC Tryz.func144 (av x)
noncomputable def QD:FD:=dY Tryz.f145 []
theorem Mf(r A:LV)(i k u:Nat)(h:aa)(Q:VH)(I:xN (dp SS.P 116 (.agg ⟨r⟩)) h λL f=>xN (dp SS.P 105 (.agg ⟨A⟩)) f λM a=>xL (ae SS.P 126 (room a 15) (pA i)) λl j g=>xV (ae SS.P 163 (room a 15) (pA k)) λe=>xA (ae SS.P 105 (room a 15) (pA (f.next))) λd=>xI .i64 (jF SS.P 163 e (.agg ⟨d⟩) false (room a 15)) λc=>xL (ae SS.P 126 (room a 15) (pA i)) λo C x=>xV (ae SS.P 163 (room a 15) (pA k)) λn=>xA (ae SS.P 105 (room a 15) (pA (f.next))) λH=>xI .i64 (jF SS.P 163 n (.agg ⟨H⟩) false (room a 15)) λq=>xP (ai SS.P 126 (.slice o C x) (.int .i64 q)) λw=>xL (ae SS.P 27 (room a 15) (.pointer (some w))) λv z y=>xI .i64 (ae SS.P 3 (room a 15) (pA u)) λE=>zR (az SS.P 27 1 [(0,(.int .i64 E))]) λm B G=>xE (aJ SS.P 27 27 (.slice v z y) (sA (a.next+11) B G) (aw (room a 15) a.next [(11,m)])) (aw (room a 15) a.next [(11,m)]) λs F t J b=>xP (ai SS.P 126 (.slice l j g) (.int .i64 c)) λp=>xU (aj SS.P 27 (.pointer (some p)) (.slice s F t) b) b λK D=>(ae SS.P 126 b (pA i)=some (.slice l j g)/\df 4 (.slice l j g) (.slice l j g)=true)/\(ae SS.P 163 b (pA k)=some e/\df 4 e e=true)/\(ae SS.P 105 b (pA (f.next))=some (.agg ⟨d⟩)/\df 4 (.agg ⟨d⟩) (.agg ⟨d⟩)=true)/\(jF SS.P 163 e (.agg ⟨d⟩) false b=some (.int .i64 c)/\df 4 (.int .i64 c) (.int .i64 c)=true)/\Q (.tuple ⟨[]⟩) D):FW SS 145 [(.agg ⟨r⟩),(.agg ⟨A⟩),(pA i),(pA k),(pA u)] h Q:=eh QD Tryz.func145 (av I)
noncomputable def QE:FD:=dY Tryz.f147 []
theorem Mg(s F:LV)(M j c d i:Nat)(h:aa)(Q:VH)(T:xN (dp SS.P 116 (.agg ⟨s⟩)) h λB1 p=>xN (dp SS.P 105 (.agg ⟨F⟩)) p λB3 a=>xV (ae SS.P 163 (room a 12) (pA M)) λU=>xA (ae SS.P 105 (room a 12) (pA (p.next))) λW=>xI .i64 (jF SS.P 163 U (.agg ⟨W⟩) false (room a 12)) λV=>xI .i64 (ae SS.P 3 (room a 12) (pA j)) λX=>aS (((V:Int)==X)) (xL (ae SS.P 166 (room a 12) (pA c)) λS x N=>xI .i64 (ae SS.P 3 (room a 12) (pA d)) λI=>xP (ai SS.P 166 (.slice S x N) (.int .i64 I)) λJ=>xO (ae SS.P 168 (room a 12) (.pointer (some J))) λm=>xB (ax SS.P .eql 168 (.pointer m) (.pointer none)) λt=>aS t (xL (ae SS.P 166 (room (room a 12) 11) (pA c)) λG P k=>xI .i64 (ae SS.P 3 (room (room a 12) 11) (pA d)) λE=>xA (ae SS.P 116 (room (room a 12) 11) (pA (h.next))) λD=>xL (ae SS.P 166 (room (room a 12) 11) (pA c)) λq R o=>xI .i64 (ae SS.P 3 (room (room a 12) 11) (pA j)) λA=>xP (ai SS.P 166 (.slice q R o) (.int .i64 A)) λB=>xO (ae SS.P 168 (room (room a 12) 11) (.pointer (some B))) λn=>xA (aD SS.P 170 [(0,(.agg ⟨D⟩)),(1,(.pointer n))]) λy=>zN (dp SS.P 170 (.agg ⟨y⟩)) λg=>xP (ai SS.P 166 (.slice G P k) (.int .i64 E)) λO=>xU (aj SS.P 168 (.pointer (some O)) (pA ((room a 12).next+8)) (aw (room (room a 12) 11) (room a 12).next [(8,g)])) (aw (room (room a 12) 11) (room a 12).next [(8,g)]) λx0 b=>xL (ae SS.P 27 b (pA i)) λz w C=>xI .i64 (ae SS.P 3 b (pA d)) λv=>xR (az SS.P 27 1 [(0,(.int .i64 v))]) b λZ u l e=>xE (aJ SS.P 27 27 (.slice z w C) (sA (b.next) u l) e) e λK L H x1 f=>xU (aj SS.P 27 (pA i) (.slice K L H) f) f λY r=>Q (.tuple ⟨[]⟩) r) (Q (.tuple ⟨[]⟩) (room a 12))) (Q (.tuple ⟨[]⟩) (room a 12))):FW SS 147 [(.agg ⟨s⟩),(.agg ⟨F⟩),(pA M),(pA j),(pA c),(pA d),(pA i)] h Q:=eh QE Tryz.func147 (av T)
section
abbrev NN:=Nat×Nat
def kV(k:NN):List Value:=[.int .i64 (k.1:Int),.int .i64 (k.2:Int)]
def rX(m:Mv):List Value:=[.int .i64 m.i,.int .i64 m.l,.int .i64 m.r]
theorem XG(a b c d:Int):eI SS.P 3 105 (.agg ⟨[.int .i64 a,.int .i64 b]⟩) (.agg ⟨[.int .i64 c,.int .i64 d]⟩)=some ((a==c)&&(b==d)):=by
 have e:eI SS.P 3 105 (.agg ⟨[.int .i64 a,.int .i64 b]⟩) (.agg ⟨[.int .i64 c,.int .i64 d]⟩)=Bool.rec (motive:=λ_=>Option Bool) (some false) (Bool.rec (motive:=λ_=>Option Bool) (some false) (some true) (b==d)) (a==c):=by kernel_rfl
 rw[e]
 cases (a==c)<;>cases (b==d)<;>rfl
theorem Tz(x y:NN):qi SS.P 105 (.agg ⟨kV x⟩) (.agg ⟨kV y⟩)=some (decide (x=y)):=by
 unfold qi;rw[if_pos (show xJ (Value.agg ⟨kV y⟩)=true from rfl)];rw[show eI SS.P 3 105 (.agg ⟨kV x⟩) (.agg ⟨kV y⟩)=_ from XG ..];by_cases h:x=y
 ·subst h;simp[kV,JP,zh,EK]
 ·have:((x.1:Int)==(y.1:Int)&&(x.2:Int)==(y.2:Int))=false:=by
   rw[Bool.and_eq_false_iff];refine Classical.byContradiction λe=>h ?_;rw[not_or]at e;obtain⟨a,b⟩:=e;simp only[Bool.not_eq_false,beq_iff_eq]at a b;exact Prod.ext (by omega) (by omega)
  rw[this];simp[h]
def Bs(x:NN):List NN->Nat->Option Nat
 |[],_=>none
 |k::r,i=>if x=k then some i else Bs x r (i+1)
def js:List NN->Nat->List (Value×Value)
 |[],_=>[]
 |k::r,i=>(.agg ⟨kV k⟩,.int .i64 (i:Int))::js r (i+1)
theorem Ir:∀(l m:List NN)(i:Nat),js (l++m) i=js l i++js m (i+l.length)
 |[],m,i=>by simp[js]
 |k::l,m,i=>by rw[cons_append,js,js,Ir l m (i+1),cons_append,length_cons,show i+1+l.length=i+(l.length+1) by omega]
theorem Ti(x:NN):∀(l:List NN)(i:Nat),oz SS.P 105 (.agg ⟨kV x⟩) (js l i)=some ((Bs x l i).map λj:Nat=> .int .i64 (j:Int))
 |[],_=>rfl
 |k::l,i=>by
  show(match qi SS.P 105 (.agg ⟨kV x⟩) (.agg ⟨kV k⟩)with|some true=>some (some (Value.int .i64 (i:Int)))|some false=>oz SS.P 105 (.agg ⟨kV x⟩) (js l (i+1))|none=>none)=_;rw[Tz];by_cases h:x=k
  ·rw[decide_eq_true h,Bs,if_pos h];rfl
  ·rw[decide_eq_false h,Bs,if_neg h];exact Ti x l (i+1)
theorem IQ{x:NN}:∀{l:List NN}{i:Nat}(v:Value),x∉l->jv SS.P 105 (.agg ⟨kV x⟩) v (js l i)=some (js l i++[(.agg ⟨kV x⟩,v)])
 |[],_,_,_=>rfl
 |k::l,i,v,h=>by
  show(match qi SS.P 105 (.agg ⟨kV x⟩) (.agg ⟨kV k⟩)with|some true=>some ((Value.agg ⟨kV x⟩,v)::js l (i+1))|some false=>(jv SS.P 105 (.agg ⟨kV x⟩) v (js l (i+1))).map ((Value.agg ⟨kV k⟩,Value.int .i64 (i:Int))::·)|none=>none)=_;rw[Tz,decide_eq_false (λe=>h (by rw[e];exact mem_cons_self ..))];dsimp only;rw[IQ v λe=>h (List.mem_cons_of_mem _ e)];rfl
theorem Eh{x:NN}:∀{l:List NN}{i j:Nat},Bs x l i=some j->i<=j/\l[j-i]?=some x
 |[],_,_,h=>by cases h
 | k::l,i,j,h=>by
  rw[Bs]at h;split at h
  ·next e=>
   obtain rfl:=oI h;exact⟨Nat.le_refl _,by rw[sub_self,e];rfl⟩
  ·obtain⟨b,a⟩:=Eh h;refine⟨by omega,?_⟩;rw[show j-i=(j-(i+1))+1 by omega];exact a
theorem xD{x:NN}:∀{l:List NN}{i:Nat},Bs x l i=none->x∉l
 |[],_,_=>by simp
 | k::l,i,h=>by
  rw[Bs]at h;split at h
  ·cases h
  ·next e=>
   intro b;rcases mem_cons.1 b with a|a
   ·exact e a
   ·exact xD h a
def ni(a:List NN)(x:NN):Option Nat:=Bs x a 0
theorem rY{a:List NN}{x:NN}(h:ni a x=some j):a[j]?=some x:=(Eh h).2
theorem qW{a:List NN}{x:NN}(h:x∈a):∃j,ni a x=some j/\a[j]?=some x:=by
 cases e:ni a x with
 |none=>exact absurd h (xD e)
 |some j=>exact⟨j,rfl,rY e⟩
theorem oD:SS.P.underlying 163=some (.map 105 3):=by kernel_rfl
theorem aeq:zeroOf SS.P 3=some (.int .i64 0):=by kernel_rfl
theorem Ac{k:Nat}{a:List NN}(e:h.get k=some (.map (js a 0)))(x:NN):jF SS.P 163 (.map (some k)) (.agg ⟨kV x⟩) true h=some (.tuple ⟨[.int .i64 (((ni a x).getD 0:Nat):Int),.bool (ni a x).isSome]⟩)/\jF SS.P 163 (.map (some k)) (.agg ⟨kV x⟩) false h=some (.int .i64 (((ni a x).getD 0:Nat):Int)):=by
 have c:∀b,jF SS.P 163 (.map (some k)) (.agg ⟨kV x⟩) b h=match (match h.get k with|some (.map d)=>some d|_=>none),zeroOf SS.P 3 with
  |some d,some z=>if kW SS.P 105 (.agg ⟨kV x⟩)then match oz SS.P 105 (.agg ⟨kV x⟩) d with
   |some (some v)=>some (if b then .tuple #[v,.bool true]else v)
   |some none=>some (if b then .tuple #[z,.bool false]else z)
   |none=>none else none
  |_,_=>none:=λb=>by
  unfold jF bj;dsimp only;rw[oD];rfl
 rw[c,c,e,aeq];dsimp only;rw[show kW SS.P 105 (.agg ⟨kV x⟩)=true by kernel_rfl,if_pos rfl,Ti];unfold ni
 cases Bs x a 0<;>exact⟨rfl,rfl⟩
theorem Wh{k:Nat}{a:List NN}(c:h.get k=some (.map (js a 0))){x:NN}(b:x∉a):gH SS.P 163 (.map (some k)) (.agg ⟨kV x⟩) (.int .i64 (a.length:Int)) h=some (undef,.set k (.map (js (a++[x]) 0))):=by
 unfold gH;rw[oD];dsimp only;rw[c];dsimp only;rw[show kW SS.P 105 (.agg ⟨kV x⟩)=true by kernel_rfl,if_pos rfl,IQ _ b,Ir];simp[js]
structure eE where
 A:aG
 a:Option Addr
 n:Nat
 c:Nat
 B:aG
 b:Option Addr
 m:Nat
 d:Nat
def eE.arg(T:eE):List Value:=bD T.A T.a T.n T.c++bD T.B T.b T.m T.d
structure eE.Rows(T:eE)(g:aa):Prop where
 ra:ey g (.slice T.a T.n T.c) T.A.ak
 rb:ey g (.slice T.b T.m T.d) T.B.ak
theorem eE.Rows.ok{T:eE}{g:aa}(r:T.Rows g)(o:Ok g h):T.Rows h:=⟨r.ra.ok o,r.rb.ok o⟩
def kj(T:eE):bu:= .cells T.arg 66 0 true
def dh(k:NN):bu:= .cells (kV k) 105 0 true
def iP(m:Mv):bu:= .cells (rX m) 116 0 true
theorem H3(T:eE):dp SS.P 66 (.agg ⟨T.arg⟩)=some (kj T,dR):=by kernel_rfl
theorem xj(k:NN):dp SS.P 105 (.agg ⟨kV k⟩)=some (dh k,dR):=by kernel_rfl
theorem AN(m:Mv):dp SS.P 116 (.agg ⟨rX m⟩)=some (iP m,dR):=by kernel_rfl
theorem FJ(k:Nat):af SS.P 66 (.pointer (some ⟨k,0,none⟩)) 0=some (.pointer (some ⟨k,0,none⟩)):=by kernel_rfl
theorem Bj(k:Nat):af SS.P 66 (.pointer (some ⟨k,0,none⟩)) 1=some (.pointer (some ⟨k,4,none⟩)):=by kernel_rfl
theorem abi(k:Nat):af SS.P 24 (.pointer (some ⟨k,4,none⟩)) 1=some (.pointer (some ⟨k,5,none⟩)):=by kernel_rfl
theorem Lk(k:Nat):af SS.P 24 (.pointer (some ⟨k,4,none⟩)) 3=some (.pointer (some ⟨k,7,none⟩)):=by kernel_rfl
theorem rQ(k o:Nat):af SS.P 105 (.pointer (some ⟨k,o,none⟩)) 0=some (.pointer (some ⟨k,o+0,none⟩)):=by kernel_rfl
theorem nD(k o:Nat):af SS.P 105 (.pointer (some ⟨k,o,none⟩)) 1=some (.pointer (some ⟨k,o+1,none⟩)):=by kernel_rfl
theorem KT(a b c:Int):aD SS.P 116 [(0,(.int .i64 a)),(1,(.int .i64 b)),(2,(.int .i64 c))]=some (.agg ⟨rX ⟨a,b,c⟩⟩):=by kernel_rfl
theorem my(p q:Int):aD SS.P 105 [(0,(.int .i64 p)),(1,(.int .i64 q))]=some (.agg ⟨[.int .i64 p,.int .i64 q]⟩):=by kernel_rfl
theorem aey:Go.Ab.isAgg SS.P 66=true:=by kernel_rfl
theorem R4:Go.Ab.isAgg SS.P 105=true:=by kernel_rfl
theorem Z3:Go.Ab.isAgg SS.P 116=true:=by kernel_rfl
theorem adZ:au SS.P 66=some 8:=by kernel_rfl
theorem Cu:au SS.P 105=some 2:=by kernel_rfl
theorem VF:au SS.P 116=some 3:=by kernel_rfl
noncomputable def aej:TypeDesc:=(SS.P.underlying 66).getD .bool
theorem afd:SS.P.underlying 66=some aej:=by kernel_rfl
noncomputable def ace:TypeDesc:=(SS.P.underlying 105).getD .bool
theorem V8:SS.P.underlying 105=some ace:=by kernel_rfl
noncomputable def acg:TypeDesc:=(SS.P.underlying 116).getD .bool
theorem aaB:SS.P.underlying 116=some acg:=by kernel_rfl
section
variable {g:aa} {k:Nat} {T:eE} {x:NN} {m:Mv}
theorem kj.all(h:g.get k=some (kj T)):ae SS.P 66 g (.pointer (some ⟨k,0,none⟩))=some (.agg ⟨T.arg⟩):=gG afd aey adZ h (by simp[eE.arg,bD])
theorem kj.a1(h:g.get k=some (kj T)):ae SS.P 3 g (.pointer (some ⟨k,1,none⟩))=some (.int .i64 T.A.start):=aR lC lB h (by simp[eE.arg,bD])
theorem kj.a3(h:g.get k=some (kj T)):ae SS.P 22 g (.pointer (some ⟨k,3,none⟩))=some (.slice T.a T.n T.c):=aR Cn HO h (by simp[eE.arg,bD])
theorem kj.b1(h:g.get k=some (kj T)):ae SS.P 3 g (.pointer (some ⟨k,5,none⟩))=some (.int .i64 T.B.start):=aR lC lB h (by simp[eE.arg,bD])
theorem kj.b3(h:g.get k=some (kj T)):ae SS.P 22 g (.pointer (some ⟨k,7,none⟩))=some (.slice T.b T.m T.d):=aR Cn HO h (by simp[eE.arg,bD])
theorem dh.all(h:g.get k=some (dh x)):ae SS.P 105 g (.pointer (some ⟨k,0,none⟩))=some (.agg ⟨kV x⟩):=gG V8 R4 Cu h (by simp[kV])
theorem dh.l0(h:g.get k=some (dh x)):ae SS.P 3 g (.pointer (some ⟨k,0+0,none⟩))=some (.int .i64 (x.1:Int)):=aR lC lB h (by simp[kV])
theorem dh.l1(h:g.get k=some (dh x)):ae SS.P 3 g (.pointer (some ⟨k,0+1,none⟩))=some (.int .i64 (x.2:Int)):=aR lC lB h (by simp[kV])
theorem iP.all(h:g.get k=some (iP m)):ae SS.P 116 g (.pointer (some ⟨k,0,none⟩))=some (.agg ⟨rX m⟩):=gG aaB Z3 VF h (by simp[rX])
end
def gF(a:bJ)(q:Nat)(c:List bJ):List (Mv×NN):=if a.i=0 then[(⟨0,a.o,0⟩,(a.t.toNat,q))]else c.filterMap λb=>if b.i=a.i then some (⟨a.i,a.o,b.o⟩,(a.t.toNat,b.t.toNat))else none
def lh(p:Nat)(b:bJ):Option (Mv×NN):=if b.i=0 then some (⟨0,0,b.o⟩,(p,b.t.toNat))else none
def dQ(A B:aG)(k:NN):List (Mv×NN):=((bC A k.1).flatMap λa=>gF a k.2 (bC B k.2))++(bC B k.2).filterMap (lh k.1)
theorem fM{B:aG}{k j:NN}{m:Mv}:(m,j)∈dQ M B k↔DL M B k m j:=by
 obtain⟨p,q⟩:=k;unfold dQ;rw[mem_append,List.mem_flatMap,List.mem_filterMap];constructor
 ·rintro(⟨a,f,h⟩|⟨b,d,h⟩)
  ·unfold gF at h;split at h
   ·next c=>
    rw[mem_singleton]at h;injection h with g i
    subst g;subst i;exact .left f c
   ·next c=>
    obtain⟨b,d,h⟩:=List.mem_filterMap.1 h;split at h
    ·next e=>
     injection h with h
     injection h with g i
     subst g;subst i;exact .both f d c e.symm
    ·cases h
  ·unfold lh at h;split at h
   ·next c=>
    injection h with h
    injection h with g i
    subst g;subst i;exact .right d c
   ·cases h
 ·intro h
  cases h with
  |left f c=>exact .inl ⟨_,f,by unfold gF;rw[if_pos c];exact mem_singleton.2 rfl⟩
  |right d c=>exact .inr ⟨_,d,by unfold lh;rw[if_pos c]⟩
  |both f d c e=>exact .inl ⟨_,f,by unfold gF;rw[if_neg c];exact List.mem_filterMap.2 ⟨_,d,if_pos e.symm⟩⟩
end
section
def PB(M:aG)(s:Nat):Bool:= !((M.ak.getD s ⟨[],[]⟩).f==[])
theorem fY{s:Nat}:PB M s=true↔gz M s:=by
 unfold PB gz
 cases (M.ak.getD s ⟨[],[]⟩).f<;>simp
theorem iy{s:Nat}(h:s<M.ak.length):∃x:fF,M.ak[s]?=some x/\bC M s=x.an/\PB M s = !(x.f==[])/\x∈M.ak:=by
 refine⟨M.ak[s],gE h,?_,?_,List.getElem_mem h⟩
 ·unfold bC;rw[gD,gE h];rfl
 ·unfold PB;rw[gD,gE h];rfl
theorem Jq(w:Wf h){T:eE}(r:T.Rows h){k:NN}(x:k.1<T.A.ak.length)(n:k.2<T.B.ak.length):FW SS 109 [.agg ⟨T.arg⟩,.agg ⟨kV k⟩] h (λv o=>v = .bool (PB T.A k.1&&PB T.B k.2)/\Ok h o):=by
 refine Uq T.arg (kV k) h _ ⟨_,H3 T,_,xj k,?_⟩;have c:=(Ok.refl w).push (kj T);have a:=aI h (kj T);generalize h.push (kj T)=g at*;have d:=(Ok.refl c.wf).push (dh k);have f:=aI g (dh k);have a:=d.ext _ _ a;generalize g.push (dh k)=z at*;have b:=c.trans d;obtain⟨s,l,_,e,_⟩:=iy x;obtain⟨t,y,_,p,_⟩:=iy n;obtain⟨B,D,_,_,_,u,_,i,_⟩:=r.ra.Kr b l;obtain⟨C,A,_,_,_,m,_,j,_⟩:=r.rb.Kr b y;refine⟨_,FJ _,_,eJ _,_,_,_,kj.a3 a,_,rQ _ _,_,dh.l0 f,_,u,_,pn _ _,_,i,ah (λq=>?_) (λq=>?_)⟩
 ·refine⟨_,Bj _,_,Lk _,_,_,_,kj.b3 a,_,nD _ _,_,dh.l1 f,_,m,_,pn _ _,_,j,?_,b⟩;rw[e,p,q];rfl
 ·exact⟨by rw[e,q];rfl,b⟩
theorem fT{l:List A}{a:A}(h:l[i]?=some a):l=l.take i++a::l.drop (i+1)/\l.take (i+1)=l.take i++[a]:=by
 obtain⟨b,rfl⟩:=List.getElem?_eq_some_iff.1 h;exact⟨by simp,by rw[take_add_one,h];rfl⟩
theorem OF{x:Int}(a:x=(n:Int))(b:z=(m:Int)):([.int .i64 x,.int .i64 z]:List Value)=kV (n,m):=by rw[a,b];rfl
section
variable {h0:aa} {T:eE}
theorem wA(w0:Wf h0)(K:T.Rows h0)(gA:Good T.A)(gB:Good T.B)(sA:∀s∈T.A.ak,s.an.length<=2000)(sB:∀s∈T.B.ak,s.an.length<=2000){h:aa}{L:List cC}{k:NN}(hp:k.1<T.A.ak.length)(hq:k.2<T.B.ak.length){N:Nat}{fa fc:List Value}(hf:Nat.blt N YB=true)
  (I:List (Mv×NN)->aa->List cC->Prop) (O:∀l g L,I l g L->OL h0 g L) (hG:∀l g L p,I l g L->Ok g p->I l p L) (hi:I [] h L)
  (hs:∀x5 x y4,dQ T.A T.B k=x5++x::y4->∀g L,I x5 g L->FW SS N (fa++[.agg ⟨rX x.1⟩,.agg ⟨kV x.2⟩]++fc) g (λv p=>v = .tuple ⟨[]⟩/\∃n,I (x5++[x]) p n/\eU g L p n)):
  FW SS 111 [.agg ⟨T.arg⟩,.agg ⟨kV k⟩,.func (.func N) ⟨fa⟩ ⟨fc⟩] h (λv p=>v = .tuple ⟨[]⟩/\∃n,I (dQ T.A T.B k) p n/\eU h L p n):=by
 refine Vw T.arg (kV k) N fa fc h _ ⟨_,H3 T,_,xj k,?_⟩;have o:=O _ _ _ hi;have e1:=(Ok.refl o.ok.wf).push (kj T);have m1:=o.fg (kj T);have i1:=hG _ _ _ _ hi e1;have c1:=(o.grow e1).2;generalize h.push (kj T)=g1 at*;have o1:=O _ _ _ i1;have e2:=(Ok.refl o1.ok.wf).push (dh k);have m2:=o1.fg (dh k);have i2:=hG _ _ _ _ i1 e2;have y3:=(o1.grow e2).2;have m1:=y3 _ _ m1;have c2:=c1.trans y3;generalize g1.push (dh k)=g2 at*;obtain⟨s,y6,ea,_,ms⟩:=iy hp;obtain⟨d,y0,eb,_,x7⟩:=iy hq;obtain⟨b,o,x,y,z,d1,d2,d3,d4,ar⟩:=K.ra.Kr (O _ _ _ i2).ok y6;have hy:y=s.an.length:=ar.len;have z0:=sA s ms;have y9:=sB d x7;refine⟨_,FJ _,_,eJ _,_,_,_,kj.a3 m1.1,_,rQ _ _,_,dh.l0 m2.1,_,d1,_,iw _ _,_,_,_,d4,?_⟩;have x4:dQ T.A T.B k=(s.an.flatMap λa=>gF a k.2 d.an)++d.an.filterMap (lh k.1):=by unfold dQ;rw[ea,eb]
 refine yi T.arg (kV k) N fa fc h.next g1.next x y z (λmz i g=>i<=s.an.length/\mz=s.an.length-i/\∃n,I ((s.an.take i).flatMap λa=>gF a k.2 d.an) g n/\eU g2 L g n) _ (λmz i=>?_) s.an.length (i:=0) ⟨zero_le _,rfl,L,i2,eU.refl _ _⟩;intros;rename_i g Z;obtain⟨f1,rfl,n,iL,V⟩:=Z;have Y:=O _ _ _ iL;have t:=V _ _ m1;have r:=V _ _ m2;refine ah (λq=>?_) (λq=>?_)
 ·have q:=dT q;have x8:i<s.an.length:=by omega
  obtain⟨a,ha⟩:∃a,s.an[i]?=some a:=⟨_,gE x8⟩
  have Z:=gA.an s ms a (List.mem_of_getElem? ha);obtain⟨t1,t2⟩:=fT ha;obtain⟨bb,o1,x1,x2,_⟩:=(ar.ok Y.ok).at_ ha;obtain⟨u,p1,p2,p3⟩:=wc Y.ok.wf a;refine⟨_,x1,_,x2,_,Fk,u,p1,?_⟩;have i3:=hG _ _ _ _ iL p2;have c3:=(Y.grow p2).2;have B:Im (u.app (g.push Hr)) n g.next _:=Y.new (Nat.le_refl _) p3;have t:=c3 _ _ t;have r:=c3 _ _ r;have V:=V.trans c3;generalize u.app (g.push Hr)=g3 at*;have o3:=O _ _ _ i3;have W:dQ T.A T.B k=((s.an.take i).flatMap λa=>gF a k.2 d.an)++(gF a k.2 d.an++(((s.an.drop (i+1)).flatMap λa=>gF a k.2 d.an)++d.an.filterMap (lh k.1))):=by
   rw[x4]
   conv=>lhs;rw[t1,List.flatMap_append,List.flatMap_cons]
   simp only[append_assoc]
  have X:((s.an.take (i+1)).flatMap λa=>gF a k.2 d.an)=((s.an.take i).flatMap λa=>gF a k.2 d.an)++gF a k.2 d.an:=by
   rw[t2,List.flatMap_append];simp
  have hw:wrap .i64 ((i:Int)+1)=((i+1:Nat):Int):=bA x8 (by omega);have x9:a.t=((a.t.toNat:Nat):Int):=by have:=Z.t0;omega
  refine⟨_,gj _ _,_,p3.l0,ah (λP=>?_) (λP=>?_)⟩
  ·have P:a.i=0:=by simpa using P
   have hF:gF a k.2 d.an=[(⟨0,a.o,0⟩,(a.t.toNat,k.2))]:=by unfold gF;rw[if_pos P]
   refine⟨_,xy _ _,_,p3.l1,_,KT _ _ _,_,eV _ _,_,p3.l3,_,nD _ _,_,dh.l1 r.1,_,my _ _,ah (λ_=>?_) (λq=>by rw[hf]at q;cases q)⟩;rw[OF x9 rfl];rw[hF]at W X;refine(hs _ _ _ W g3 n i3).mono ?_;rintro _ g4 ⟨rfl,L4,i4,c4⟩;refine⟨rfl,?_⟩;rw[hw];refine cG (s.an.length-(i+1)) (by omega) ⟨by omega,rfl,L4,?_,V.trans c4⟩;rw[X];exact i4
  ·have P:a.i≠0:=by simpa using P
   have hF:gF a k.2 d.an=d.an.filterMap λb=>if b.i=a.i then some (⟨a.i,a.o,b.o⟩,(a.t.toNat,b.t.toNat))else none:=by unfold gF;rw[if_neg P]
   rw[hF]at W X;obtain⟨b',o',x',y',z',x6,y7,y5,x3,E⟩:=K.rb.Kr o3.ok y0;have y8:y'=d.an.length:=E.len;refine⟨_,Bj _,_,Lk _,_,_,_,kj.b3 t.1,_,nD _ _,_,dh.l1 r.1,_,x6,_,iw _ _,_,_,_,x3,?_⟩;refine yj T.arg (kV k) N fa fc h.next g1.next x y z g.next x' y' z' _ _ i (λD j p=>j<=d.an.length/\D=d.an.length-j/\∃G,I (((s.an.take i).flatMap λa=>gF a k.2 d.an)++(d.an.take j).filterMap λb=>if b.i=a.i then some (⟨a.i,a.o,b.o⟩,(a.t.toNat,b.t.toNat))else none) p G/\eU g3 n p G) _ (λD j=>?_) d.an.length (j:=0) ⟨zero_le _,rfl,n,by simpa using i3,eU.refl _ _⟩;intros;rename_i g5 U;obtain⟨f5,rfl,R,A,f⟩:=U;have Q:=O _ _ _ A;have t:=f _ _ t;have r:=f _ _ r;have B:=f _ _ B;refine ah (λq=>?_) (λq=>?_)
   ·have q:=dT q;have F:j<d.an.length:=by omega
    obtain⟨c,w⟩:∃c,d.an[j]?=some c:=⟨_,gE F⟩
    have M:=gB.an d x7 c (List.mem_of_getElem? w);obtain⟨v1,v2⟩:=fT w;obtain⟨cc,oc,y1,y2,_⟩:=(E.ok Q.ok).at_ w;obtain⟨u5,r1,r2,J⟩:=wc Q.ok.wf c;refine⟨_,y1,_,y2,_,Fk,u5,r1,?_⟩;have i6:=hG _ _ _ _ A r2;have H:=(Q.grow r2).2;have t:=H _ _ t;have r:=H _ _ r;have B:AB _ _ a:=(H _ _ B).1;have f:=f.trans H;generalize u5.app (g5.push Hr)=g6 at*;have C:wrap .i64 ((j:Int)+1)=((j+1:Nat):Int):=bA F (by omega);have x0:c.t=((c.t.toNat:Nat):Int):=by have:=M.t0;omega
    refine⟨_,gj _ _,_,J.l0,_,gj _ _,_,B.l0,ah (λm=>?_) (λm=>?_)⟩
    ·have m:c.i=a.i:=by simpa using m
     refine⟨_,gj _ _,_,B.l0,_,xy _ _,_,B.l1,_,xy _ _,_,J.l1,_,KT _ _ _,_,eV _ _,_,B.l3,_,eV _ _,_,J.l3,_,my _ _,ah (λ_=>?_) (λq=>by rw[hf]at q;cases q)⟩;rw[OF x9 x0];have S:dQ T.A T.B k=(((s.an.take i).flatMap λa=>gF a k.2 d.an)++(d.an.take j).filterMap λb=>if b.i=a.i then some (⟨a.i,a.o,b.o⟩,(a.t.toNat,b.t.toNat))else none)++(⟨a.i,a.o,c.o⟩,(a.t.toNat,c.t.toNat))::(((d.an.drop (j+1)).filterMap λb=>if b.i=a.i then some ((⟨a.i,a.o,b.o⟩:Mv),(a.t.toNat,b.t.toNat))else none)++(((s.an.drop (i+1)).flatMap λa=>gF a k.2 d.an)++d.an.filterMap (lh k.1))):=by
      rw[W];have:(d.an.filterMap λb=>if b.i=a.i then some ((⟨a.i,a.o,b.o⟩:Mv),(a.t.toNat,b.t.toNat))else none)=((d.an.take j).filterMap λb=>if b.i=a.i then some (⟨a.i,a.o,b.o⟩,(a.t.toNat,b.t.toNat))else none)++(⟨a.i,a.o,c.o⟩,(a.t.toNat,c.t.toNat))::((d.an.drop (j+1)).filterMap λb=>if b.i=a.i then some ((⟨a.i,a.o,b.o⟩:Mv),(a.t.toNat,b.t.toNat))else none):=by
       conv=>lhs;rw[v1,filterMap_append,filterMap_cons,if_pos m]
      rw[this];simp only[append_assoc,cons_append]
     refine(hs _ _ _ S g6 R i6).mono ?_;rintro _ g7 ⟨rfl,L7,i7,c7⟩;refine⟨rfl,?_⟩;rw[C];refine cG (d.an.length-(j+1)) (by omega) ⟨by omega,rfl,L7,?_,f.trans c7⟩;rw[v2,filterMap_append,filterMap_cons,if_pos m,<-append_assoc];exact i7
    ·have m:c.i≠a.i:=by simpa using m
     rw[C];refine cG (d.an.length-(j+1)) (by omega) ⟨by omega,rfl,R,?_,f⟩;rw[v2,filterMap_append,filterMap_cons,if_neg m];simpa using i6
   ·have q:=dF q;have e:d.an.take j=d.an:=take_of_length_le (by omega);rw[e]at A;rw[hw];refine cG (s.an.length-(i+1)) (by omega) ⟨by omega,rfl,R,?_,V.trans f⟩;rw[X];exact A
 ·have q:=dF q;have e:s.an.take i=s.an:=take_of_length_le (by omega);rw[e]at iL;obtain⟨b',o',x',y',z',x6,y7,y5,x3,E⟩:=K.rb.Kr Y.ok y0;have y8:y'=d.an.length:=E.len;refine⟨_,Bj _,_,Lk _,_,_,_,kj.b3 t.1,_,nD _ _,_,dh.l1 r.1,_,x6,_,iw _ _,_,_,_,x3,?_⟩;refine yk T.arg (kV k) N fa fc h.next g1.next x' y' z' (λD j p=>j<=d.an.length/\D=d.an.length-j/\∃G,I ((s.an.flatMap λa=>gF a k.2 d.an)++(d.an.take j).filterMap (lh k.1)) p G/\eU g n p G) _ (λD j=>?_) d.an.length (i:=0) ⟨zero_le _,rfl,n,by simpa using iL,eU.refl _ _⟩;intros;rename_i g5 U;obtain⟨f5,rfl,R,A,f⟩:=U;have Q:=O _ _ _ A;have t:=f _ _ t;have r:=f _ _ r;refine ah (λq=>?_) (λq=>?_)
  ·have q:=dT q;have F:j<d.an.length:=by omega
   obtain⟨c,w⟩:∃c,d.an[j]?=some c:=⟨_,gE F⟩
   have M:=gB.an d x7 c (List.mem_of_getElem? w);obtain⟨v1,v2⟩:=fT w;obtain⟨cc,oc,y1,y2,_⟩:=(E.ok Q.ok).at_ w;obtain⟨u5,r1,r2,J⟩:=wc Q.ok.wf c;refine⟨_,y1,_,y2,_,Fk,u5,r1,?_⟩;have i6:=hG _ _ _ _ A r2;have H:=(Q.grow r2).2;have t:=H _ _ t;have r:=H _ _ r;have f:=f.trans H;generalize u5.app (g5.push Hr)=g6 at*;have C:wrap .i64 ((j:Int)+1)=((j+1:Nat):Int):=bA F (by omega);have x0:c.t=((c.t.toNat:Nat):Int):=by have:=M.t0;omega
   refine⟨_,gj _ _,_,J.l0,ah (λm=>?_) (λm=>?_)⟩
   ·have m:c.i=0:=by simpa using m
    refine⟨_,xy _ _,_,J.l1,_,KT _ _ _,_,rQ _ _,_,dh.l0 r.1,_,eV _ _,_,J.l3,_,my _ _,ah (λ_=>?_) (λq=>by rw[hf]at q;cases q)⟩;rw[OF rfl x0];have hR:lh k.1 c=some (⟨0,0,c.o⟩,(k.1,c.t.toNat)):=by unfold lh;rw[if_pos m]
    have S:dQ T.A T.B k=((s.an.flatMap λa=>gF a k.2 d.an)++(d.an.take j).filterMap (lh k.1))++(⟨0,0,c.o⟩,(k.1,c.t.toNat))::(d.an.drop (j+1)).filterMap (lh k.1):=by
     rw[x4];have:d.an.filterMap (lh k.1)=(d.an.take j).filterMap (lh k.1)++(⟨0,0,c.o⟩,(k.1,c.t.toNat))::(d.an.drop (j+1)).filterMap (lh k.1):=by
      conv=>lhs;rw[v1,filterMap_append,filterMap_cons,hR]
     rw[this];simp only[append_assoc]
    refine(hs _ _ _ S g6 R i6).mono ?_;rintro _ g7 ⟨rfl,L7,i7,c7⟩;refine⟨rfl,?_⟩;rw[C];refine cG (d.an.length-(j+1)) (by omega) ⟨by omega,rfl,L7,?_,f.trans c7⟩;rw[v2,filterMap_append,filterMap_cons,hR,<-append_assoc];exact i7
   ·have m:c.i≠0:=by simpa using m
    rw[C];refine cG (d.an.length-(j+1)) (by omega) ⟨by omega,rfl,R,?_,f⟩;rw[v2,filterMap_append,filterMap_cons,show lh k.1 c=none by unfold lh;rw[if_neg m]];simpa using i6
  ·have q:=dF q;have e:d.an.take j=d.an:=take_of_length_le (by omega);rw[e]at A;refine⟨rfl,R,?_,c2.trans (V.trans f)⟩;rw[x4];exact A
end
end
section
theorem wx:SS.P.underlying 162=some (.slice 105):=by kernel_rfl
theorem DN:Go.Ab.isAgg SS.P 162=false:=by kernel_rfl
theorem qF:Go.Ab.isAgg SS.P 163=false:=by kernel_rfl
noncomputable def VN:TypeInfo:=(SS.P.info? 105).getD default
theorem adN:dC SS.P 105=some VN:=by kernel_rfl
theorem MX:VN.size=2:=by kernel_rfl
theorem J7:VN.bytes=16:=by kernel_rfl
theorem ad7:ch SS.P 162=true:=by kernel_rfl
theorem MU:au SS.P 162=some 1:=by kernel_rfl
theorem MW:au SS.P 163=some 1:=by kernel_rfl
theorem aab(x:NN):az SS.P 162 1 [(0,(.agg ⟨kV x⟩))]=some (.cells (kV x) 105 2 true,jE 1 1):=by kernel_rfl
def uP(ord:List NN)(x:NN):List NN:=if x∈ord then ord else ord++[x]
def RJ(kl kn km:Nat)(v:Value)(ord:List NN)(G:cC):List cC:=[[(kl,.cells [v] 162 0 true)],[(kn,.cells [.map (some km)] 163 0 true)],G,[(km,.map (js ord 0))]]
def RS(h0:aa)(kl kn km:Nat)(ord:List NN)(g:aa)(L:List cC):Prop:=OL h0 g L/\∃v G,fj 105 2 v (ord.map kV) G/\L=RJ kl kn km v ord G
section
variable {h0:aa} {kl kn km:Nat} {ord:List NN} {g:aa} {L:List cC}
theorem RS.grow(r:RS h0 kl kn km ord g L)(o:Ok g h):RS h0 kl kn km ord h L:=⟨(r.1.grow o).1,r.2⟩
theorem QT(k:Wf h0)(w:RS h0 kl kn km ord g L)(Y:ord.length<=100000)(m:Mv)(x:NN):FW SS 144 [.agg ⟨rX m⟩,.agg ⟨kV x⟩,pA kn,pA kl] g (λv z=>v = .tuple ⟨[]⟩/\∃y,RS h0 kl kn km (uP ord x) z y/\eU g L z y):=by
 refine Me (rX m) (kV x) kn kl g _ ⟨_,AN m,_,xj x,?_⟩;obtain⟨o,v,G,t,rfl⟩:=w;obtain⟨l,Q⟩:=o.grow ((Ok.refl o.ok.wf).push (iP m));generalize g.push (iP m)=T at*;have b:=l.fg (dh x);obtain⟨d,R⟩:=l.grow ((Ok.refl l.ok.wf).push (dh x));have c:=Q.trans R;generalize T.push (dh x)=I at*;obtain⟨a,n,A⟩:=t.oa;rw[lM]at A;subst A;refine⟨_,aR oD qF (d.get 1 rfl) (by simp),_,dh.all b.1,_,_,(Ac (d.get 3 rfl) x).1,ah (λq=>?_) (λq=>?_)⟩
 ·have f:x∉ord:=by
   refine xD (i:=0) ?_
   cases e:Bs x ord 0 with
   |none=>rfl
   |some j=>unfold ni at q;rw[e]at q;cases q
  have h:uP ord x=ord++[x]:=by unfold uP;rw[if_neg f]
  obtain⟨s,F⟩:=d.kJ k 3 rfl (.map (js (ord++[x]) 0));refine⟨_,aR oD qF (d.get 1 rfl) (by simp),_,dh.all b.1,_,_,_,aR wx DN (d.get 0 rfl) (by simp),_,Wh (d.get 3 rfl) f,?_⟩;have J:=F _ _ b;have c:=c.trans F;generalize (bp.set km (.map (js (ord++[x]) 0))).app I=H at*;refine⟨_,_,_,aR wx DN (s.get 0 rfl) (by simp),_,dh.all J.1,_,_,_,aab x,?_⟩;have P:=aI H (.cells (kV x) 105 2 true);obtain⟨O,N⟩:=s.grow ((Ok.refl s.ok.wf).push (.cells (kV x) 105 2 true));have c:=c.trans N;generalize H.push (.cells (kV x) 105 2 true)=K at*;obtain⟨p,E,B,u,U,X,W,D,C,V⟩:=t.add wx adN MX ad7 k O (j:=2) rfl (GY P rfl) (λr w=>by rw[mem_singleton.1 w];rfl) rfl (by rw[J7,lM,length_singleton];omega) (by rw[lM,length_singleton];omega) (.inl (Nat.le_refl _));refine⟨_,_,_,_,U,?_⟩;have c:=c.trans V;generalize u.app K=Z at*;obtain⟨M,S⟩:=C.kJ k 0 rfl (.cells [.slice p E B] 162 0 true);refine⟨_,bG MU (C.get 0 rfl) (by simp) (aV ..) (by cases p<;>rfl),rfl,_,⟨M,.slice p E B,W,?_,?_⟩,c.trans S⟩
  ·rw[h,map_append];exact D
  ·rw[h];rfl
 ·have f:x∈ord:=Classical.byContradiction λf=>by
   have e:ni ord x=none:=by
    cases e:ni ord x with
    |none=>rfl
    |some j=>exact absurd (List.mem_of_getElem? (rY e)) f
   rw[e]at q;cases q
  have h:uP ord x=ord:=by unfold uP;rw[if_pos f]
  exact⟨rfl,_,⟨d,_,G,by rw[h];exact t,by rw[h]⟩,c⟩
end
end
variable{I:bu}
section
noncomputable def Du:Array Oper:=UU (jD [1,1,0] ck.body)
noncomputable def oR(j:Nat):Oper:=(Du[j]?).getD default
theorem lp{gl:Nat->Bool}{ops:Array Oper}{base:Nat}{s:yw}{o:Oper}{u:Option (Nat×bu)}(a:ops[j]?=some o)(b:o.guard=none)(h:Gz P (ev gl s.1) o (base+j) s.2.1=some (v,u)):wz P gl ops base j s=some (BC s o.dst v u):=by
 unfold wz;rw[a];dsimp only;unfold ef;rw[b];dsimp only;rw[h]
theorem Ex{ρ:Operand->Value}{o:Oper}{h:aa}{t:TypeId}{a:Operand}(e:o.op = .load t a)(d:ae P t h (ρ a)=some v):Gz P ρ o k h=some (v,none):=by
 obtain⟨g,j,i,f,c,b⟩:=o;subst e;show(match ae P t h (ρ a)with|some v=>some (v,none)|none=>_)=_;rw[d]
theorem Qv{ρ:Operand->Value}{o:Oper}{h:aa}{a:Operand}(d:o.op = .move a):Gz P ρ o k h=some (ρ a,none):=by
 obtain⟨f,i,g,e,c,b⟩:=o;subst d;rfl
theorem YU{ρ:Operand->Value}{o:Oper}{h:aa}{t:TypeId}{x:Operand}{f:Nat->Value}(m:o.op = .buildSlice t 1 #[(0,x)])(l:ρ x=v)(j:az P t 1 [(0,v)]=some (I,f)):Gz P ρ o k h=some (f k,some (k,I)):=by
 obtain⟨g,n,i,d,c,a⟩:=o;subst m;subst l;have e:aT P ρ ⟨g,.buildSlice t 1 #[(0,x)],i,d,c,a⟩=az P t 1 [(0,ρ x)]:=rfl;show(match aT P ρ ⟨g,.buildSlice t 1 #[(0,x)],i,d,c,a⟩with|some (b,f)=>some (f k,some (k,b))|none=>_)=_;rw[e,j]
theorem YV{ρ:Operand->Value}{o:Oper}{h:aa}{t:TypeId}{f:Nat->Value}(l:o.op = .makeMap t none)(j:oC P t=some (I,f)):Gz P ρ o k h=some (f k,some (k,I)):=by
 obtain⟨g,m,i,d,c,a⟩:=o;subst l;have e:aT P ρ ⟨g,.makeMap t none,i,d,c,a⟩=oC P t:=rfl;show(match aT P ρ ⟨g,.makeMap t none,i,d,c,a⟩with|some (b,f)=>some (f k,some (k,b))|none=>_)=_;rw[e,j]
theorem Un{ρ:Operand->Value}{o:Oper}{h:aa}{t:TypeId}{m a b:Operand}(n:o.op = .insert t m a b)(l:gH P t (ρ m) (ρ a) (ρ b) h=some (undef,.set i I)):Gz P ρ o k h=some (undef,some (i,I)):=by
 obtain⟨g,p,j,f,d,c⟩:=o;subst n;have e:cJ P fb ρ ⟨g,.insert t m a b,j,f,d,c⟩ h=gH P t (ρ m) (ρ a) (ρ b) h:=rfl;show(match cJ P fb ρ ⟨g,.insert t m a b,j,f,d,c⟩ h with|some (v,.no)=>some (v,none)|some (v,.set i b)=>some (v,some (i,b))|_=>none)=_;rw[e,l]
theorem BP{ρ:Operand->Value}{o:Oper}{h:aa}{t:TypeId}{a x:Operand}(m:o.op = .store t a x)(l:aj P t (ρ a) (ρ x) h=some (undef,.set i I)):Gz P ρ o k h=some (undef,some (i,I)):=by
 obtain⟨g,n,j,f,d,c⟩:=o;subst m;have e:cJ P fb ρ ⟨g,.store t a x,j,f,d,c⟩ h=aj P t (ρ a) (ρ x) h:=rfl;show(match cJ P fb ρ ⟨g,.store t a x,j,f,d,c⟩ h with|some (v,.no)=>some (v,none)|some (v,.set i b)=>some (v,some (i,b))|_=>none)=_;rw[e,l]
theorem Oh{l:List Value}(h:n<l.length)(v:Value)(t:Nat):(fe l (some n) v).getD t undef=if t=n then v else l.getD t undef:=by
 show(l.set n v).getD t undef=_;simp only[gD,getElem?_set];by_cases a:t=n
 ·subst a;rw[if_pos rfl,if_pos rfl,if_pos h];rfl
 ·rw[if_neg a,if_neg (λe=>a e.symm)]
theorem adw:oC SS.P 163=some (.map [],λk=> .map (some k)):=by kernel_rfl
section
variable (tm:List Value) (h:aa) (k2 k3 k4:Nat) (x:NN)
def vT(D:Nat->Bool)(t:Nat):Value:=if t=13/\D 0=true then .agg ⟨kV x⟩else if t=14/\D 1=true then sA (h.next+1) 1 1 else if t=15/\D 2=true then .map (some (h.next+2))else if t=16/\D 3=true then .agg ⟨kV x⟩else if t=17/\D 5=true then .map (some (h.next+2))else tm.getD t undef
def mT(b:Bool):List (Value×Value):=if b=true then js [x] 0 else[]
noncomputable def hT(D:Nat->Bool)(k:Nat):Option bu:=if k=h.next+1/\D 1=true then some (.cells (kV x) 105 2 true)else if k=h.next+2/\D 2=true then some (.map (mT x (D 4)))else if k=k2/\D 6=true then some (.cells [sA (h.next+1) 1 1] 162 0 true)else if k=k3/\D 7=true then some (.cells [.map (some (h.next+2))] 163 0 true)else h.get k
structure WE(D:Nat->Bool)(s:yw):Prop where
 len:s.1.length=33
 val:∀t,s.1.getD t undef=vT tm h x D t
 nx:s.2.1.next=h.next+8
 get:∀k,s.2.1.get k=hT h k2 k3 x D k
 wr:∀k∈s.2.2,k=h.next+1\/k=h.next+2\/k=k2\/k=k3
 cl:D 4=true->D 2=true
end
theorem NG{D:Nat->Bool}(h:D 4=true->D 2=true)(b:j=4->D 2=true):(4==j||D 4)=true->(2==j||D 2)=true:=by
 intro e;by_cases a:j=4
 ·rw[b a,Bool.or_true]
 ·rw[show(4==j)=false by simpa using λe=>a e.symm,Bool.false_or]at e;rw[h e,Bool.or_true]
section
variable {tm:List Value} {h:aa} {k2 k3 k4:Nat} {x:NN}
theorem YY{D:Nat->Bool}{s:yw}(a:WE tm h k2 k3 x D s)(t:Nat):ev SS.gl s.1 (.tmp t)=vT tm h x D t:=a.val t
theorem WE.pure{D:Nat->Bool}{s:yw}(a:WE tm h k2 k3 x D s){j d:Nat}(g:j≠4)(f:d<33){v:Value}(b:∀t,vT tm h x (λi=>i==j||D i) t=if t=d then v else vT tm h x D t)(c:∀k,hT h k2 k3 x (λi=>i==j||D i) k=hT h k2 k3 x D k):WE tm h k2 k3 x (λi=>i==j||D i) (BC s (some d) v none):=by
 refine⟨?_,λt=>?_,a.nx,λk=>?_,a.wr,NG a.cl λe=>absurd e g⟩
 ·show(s.1.set d v).length=33;rw[length_set];exact a.len
 ·rw[b];show(fe s.1 (some d) v).getD t undef=_;rw[Oh (by rw[a.len];exact f),a.val]
 ·rw[c];exact a.get k
theorem WE.qh{D:Nat->Bool}{s:yw}(a:WE tm h k2 k3 x D s){j:Nat}(m:j=4->D 2=true){b:Option Tmp}{v:Value}{i:Nat}{B:bu}(c:b=none/\(∀t,vT tm h x (λi=>i==j||D i) t=vT tm h x D t)\/ ∃d,b=some d/\d<33/\∀t,vT tm h x (λi=>i==j||D i) t=if t=d then v else vT tm h x D t)(l:i=h.next+1\/i=h.next+2\/i=k2\/i=k3)(g:∀k,hT h k2 k3 x (λi=>i==j||D i) k=if k=i then some B else hT h k2 k3 x D k):WE tm h k2 k3 x (λi=>i==j||D i) (BC s b v (some (i,B))):=by
 refine⟨?_,λt=>?_,a.nx,λk=>?_,λk f=>?_,NG a.cl m⟩
 ·rcases c with⟨rfl,_⟩|⟨d,rfl,_⟩
  ·exact a.len
  ·show(s.1.set d v).length=33;rw[length_set];exact a.len
 ·rcases c with⟨rfl,e⟩|⟨d,rfl,c,e⟩
  ·rw[e];exact a.val t
  ·rw[e];show(fe s.1 (some d) v).getD t undef=_;rw[Oh (by rw[a.len];exact c),a.val]
 ·rw[g];show(s.2.1.set i B).get k=_;rw[aa.ay,a.get]
 ·rcases mem_cons.1 f with rfl|f
  ·exact l
  ·exact a.wr k f
theorem yY(h:j<8):Du[j]?=some (oR j):=by
 have a:Du.size=8:=by kernel_rfl
 unfold oR;rw[Array.getElem?_eq_getElem (by omega)];rfl
theorem UW(R:tm.getD 2 undef=pA k2)(N:tm.getD 3 undef=pA k3)(O:tm.getD 4 undef=pA k4)(M:h.get k4=some (dh x))(V:h.get k2=some (.cells [nA] 162 0 true))(J:h.get k3=some (.cells [.map none] 163 0 true))(p:k2≠k3)(y:k2≠k4)(r:k3≠k4)(Z:k2<h.next)(W:k3<h.next)(X:k4<h.next):
  ∀D s j,j<8->D j=false->(∀i,i<j->cD (fk Du) j i=true->D i=true)->WE tm h k2 k3 x D s->∃A,wz SS.P SS.gl Du h.next j s=some A/\WE tm h k2 k3 x (λi=>i==j||D i) A:=by
 intro D s j Y q l c;have z:s.2.1.get k4=some (dh x):=by
  rw[c.get];unfold hT;rw[if_neg (λe=>by omega),if_neg (λe=>by omega),if_neg (λe=>y e.1.symm),if_neg (λe=>r e.1.symm)];exact M
 have w:ev SS.gl s.1 (.tmp 4)=pA k4:=by
  rw[YY c];unfold vT;rw[if_neg (λe=>by omega),if_neg (λe=>by omega),if_neg (λe=>by omega),if_neg (λe=>by omega),if_neg (λe=>by omega)];exact O
 have H:ev SS.gl s.1 (.tmp 2)=pA k2:=by
  rw[YY c];unfold vT;rw[if_neg (λe=>by omega),if_neg (λe=>by omega),if_neg (λe=>by omega),if_neg (λe=>by omega),if_neg (λe=>by omega)];exact R
 have G:ev SS.gl s.1 (.tmp 3)=pA k3:=by
  rw[YY c];unfold vT;rw[if_neg (λe=>by omega),if_neg (λe=>by omega),if_neg (λe=>by omega),if_neg (λe=>by omega),if_neg (λe=>by omega)];exact N
 have E:j=0\/j=1\/j=2\/j=3\/j=4\/j=5\/j=6\/j=7:=by omega
 rcases E with rfl|rfl|rfl|rfl|rfl|rfl|rfl|rfl
 ·refine⟨_,lp (yY (by omega)) (by kernel_rfl) (Ex (t:=105) (a:= .tmp 4) (v:= .agg ⟨kV x⟩) (by kernel_rfl) (by rw[w];exact dh.all z)),?_⟩;rw[show(oR 0).dst=some 13 by kernel_rfl];refine c.pure (j:=0) (d:=13) (by omega) (by omega) (λt=>?_) (λk=>?_)
  ·unfold vT;by_cases g:t=13
   ·subst g;simp
   ·simp[g]
  ·unfold hT;simp
 ·have L:=l 0 (by omega) (by kernel_rfl);have C:ev SS.gl s.1 (.tmp 13) = .agg ⟨kV x⟩:=by rw[YY c];unfold vT;simp[L]
  refine⟨_,lp (yY (by omega)) (by kernel_rfl) (YU (t:=162) (x:= .tmp 13) (by kernel_rfl) C (aab x)),?_⟩;rw[show(oR 1).dst=some 14 by kernel_rfl];refine c.qh (j:=1) (λe=>by cases e) (.inr ⟨14,rfl,by decide,λt=>?_⟩) (.inl rfl) (λk=>?_)
  ·unfold vT;by_cases g:t=14
   ·subst g;simp[jE]
   ·simp[g]
  ·unfold hT;by_cases f:k=h.next+1
   ·subst f;simp
   ·simp[f]
 ·refine⟨_,lp (yY (by omega)) (by kernel_rfl) (YV (t:=163) (by kernel_rfl) adw),?_⟩;rw[show(oR 2).dst=some 15 by kernel_rfl];have Q:D 4=false:=by
   cases e:D 4 with
   |false=>rfl
   |true=>have:=c.cl e;rw[q]at this;cases this
  refine c.qh (j:=2) (λe=>by cases e) (.inr ⟨15,rfl,by decide,λt=>?_⟩) (.inr (.inl rfl)) (λk=>?_)
  ·unfold vT;by_cases g:t=15
   ·subst g;simp
   ·simp[g]
  ·unfold hT mT;by_cases f:k=h.next+2
   ·subst f;simp[Q]
   ·simp[f]
 ·refine⟨_,lp (yY (by omega)) (by kernel_rfl) (Ex (t:=105) (a:= .tmp 4) (v:= .agg ⟨kV x⟩) (by kernel_rfl) (by rw[w];exact dh.all z)),?_⟩;rw[show(oR 3).dst=some 16 by kernel_rfl];refine c.pure (j:=3) (d:=16) (by omega) (by omega) (λt=>?_) (λk=>?_)
  ·unfold vT;by_cases g:t=16
   ·subst g;simp
   ·simp[g]
  ·unfold hT;simp
 ·have n:=l 2 (by omega) (by kernel_rfl);have T:=l 3 (by omega) (by kernel_rfl);have o:ev SS.gl s.1 (.tmp 15) = .map (some (h.next+2)):=by rw[YY c];unfold vT;simp[n]
  have B:ev SS.gl s.1 (.tmp 16) = .agg ⟨kV x⟩:=by rw[YY c];unfold vT;simp[T]
  have P:s.2.1.get (h.next+2)=some (.map (js [] 0)):=by
   rw[c.get];unfold hT mT;simp[n,q,js]
  refine⟨_,lp (yY (by omega)) (by kernel_rfl) (Un (t:=163) (m:= .tmp 15) (a:= .tmp 16) (b:= .const (.int .i64 0)) (by kernel_rfl) (by rw[o,B];exact Wh P (List.not_mem_nil))),?_⟩;rw[show(oR 4).dst=none by kernel_rfl];refine c.qh (j:=4) (λ_=>n) (.inl ⟨rfl,λt=>?_⟩) (.inr (.inl rfl)) (λk=>?_)
  ·unfold vT;simp
  ·unfold hT mT;by_cases f:k=h.next+2
   ·subst f;simp[n]
   ·simp[f]
 ·have n:=l 2 (by omega) (by kernel_rfl);have o:ev SS.gl s.1 (.tmp 15) = .map (some (h.next+2)):=by rw[YY c];unfold vT;simp[n]
  refine⟨_,lp (yY (by omega)) (by kernel_rfl) (Qv (a:= .tmp 15) (by kernel_rfl)),?_⟩;rw[show(oR 5).dst=some 17 by kernel_rfl,o];refine c.pure (j:=5) (d:=17) (by omega) (by omega) (λt=>?_) (λk=>?_)
  ·unfold vT;by_cases g:t=17
   ·subst g;simp
   ·simp[g]
  ·unfold hT;simp
 ·have S:=l 1 (by omega) (by kernel_rfl);have u:ev SS.gl s.1 (.tmp 14)=sA (h.next+1) 1 1:=by rw[YY c];unfold vT;simp[S]
  have I:s.2.1.get k2=some (.cells [nA] 162 0 true):=by
   rw[c.get];unfold hT;rw[if_neg (λe=>by omega),if_neg (λe=>by omega),if_neg (λe=>by rw[q]at e;cases e.2),if_neg (λe=>p e.1)];exact V
  refine⟨_,lp (yY (by omega)) (by kernel_rfl) (BP (t:=162) (a:= .tmp 2) (x:= .tmp 14) (by kernel_rfl) (by rw[H,u];exact bG MU I (by simp) rfl rfl)),?_⟩;rw[show(oR 6).dst=none by kernel_rfl];refine c.qh (j:=6) (λe=>by cases e) (.inl ⟨rfl,λt=>?_⟩) (.inr (.inr (.inl rfl))) (λk=>?_)
  ·unfold vT;simp
  ·unfold hT;by_cases f:k=k2
   ·subst f;rw[if_neg (λe=>by omega),if_neg (λe=>by omega)];simp
   ·simp[f]
 ·have K:=l 5 (by omega) (by kernel_rfl);have F:ev SS.gl s.1 (.tmp 17) = .map (some (h.next+2)):=by rw[YY c];unfold vT;simp[K]
  have U:s.2.1.get k3=some (.cells [.map none] 163 0 true):=by
   rw[c.get];unfold hT;rw[if_neg (λe=>by omega),if_neg (λe=>by omega),if_neg (λe=>p e.1.symm),if_neg (λe=>by rw[q]at e;cases e.2)];exact J
  refine⟨_,lp (yY (by omega)) (by kernel_rfl) (BP (t:=163) (a:= .tmp 3) (x:= .tmp 17) (by kernel_rfl) (by rw[G,F];exact bG MW U (by simp) rfl rfl)),?_⟩;rw[show(oR 7).dst=none by kernel_rfl];refine c.qh (j:=7) (λe=>by cases e) (.inl ⟨rfl,λt=>?_⟩) (.inr (.inr (.inr rfl))) (λk=>?_)
  ·unfold vT;simp
  ·unfold hT;by_cases f:k=k3
   ·subst f;rw[if_neg (λe=>by omega),if_neg (λe=>by omega),if_neg (λe=>p e.1.symm)];simp
   ·simp[f]
theorem S8{l l':List Value}(c:l.length=l'.length)(e:∀t,l.getD t undef=l'.getD t undef)(d:∀t,df 4 (l.getD t undef) (l.getD t undef)=true):wN (df 4) l l'=true:=by
 induction l generalizing l' with
 |nil=>cases l' with
  |nil=>rfl
  |cons b l'=>cases c
 | cons a l f=>cases l' with
  |nil=>cases c
  |cons b l'=>
   obtain rfl:a=b:=e 0;show(df 4 a a&&wN (df 4) l l')=true;rw[show df 4 a a=true from d 0,f (by simpa using c) (λt=>e (t+1)) (λt=>d (t+1))];rfl
theorem Ze(K:tm.length=33)(Y:tm.getD 2 undef=pA k2)(O:tm.getD 3 undef=pA k3)(R:tm.getD 4 undef=pA k4)(E:∀t,df 4 (tm.getD t undef) (tm.getD t undef)=true)(M:h.get k4=some (dh x))(b2:h.get k2=some (.cells [nA] 162 0 true))(F:h.get k3=some (.cells [.map none] 163 0 true))(y:k2≠k3)(u:k2≠k4)(r:k3≠k4)(l2:k2<h.next)(S:k3<h.next)(X:k4<h.next):
  ∃l o,l.length=33/\vj SS.P SS.gl Du (cD (fk Du)) tm h=some (l,o)/\(∀t,t<13->l.getD t undef=tm.getD t undef)/\o.next=h.next+8/\∀k,o.get k=hT h k2 k3 x (λ_=>true) k:=by
 have b:∀D:Nat->Bool,(∀i,i<8->D i=true)->(∀t,vT tm h x D t=vT tm h x (λ_=>true) t)/\∀k,hT h k2 k3 x D k=hT h k2 k3 x (λ_=>true) k:=λD d=>by
  have I:=d 0 (by omega);have j:=d 1 (by omega);have g:=d 2 (by omega);have p:=d 3 (by omega);have m:=d 4 (by omega);have V:=d 5 (by omega);have J:=d 6 (by omega);have U:=d 7 (by omega);exact⟨λt=>by unfold vT;rw[I,j,g,p,V],λk=>by unfold hT;rw[j,g,m,J,U]⟩
 have H:∀t,df 4 (vT tm h x (λ_=>true) t) (vT tm h x (λ_=>true) t)=true:=λt=>by
  unfold vT;split
  ·simp[df,wN,kV]
  split
  ·simp[df]
  split
  ·simp[df]
  split
  ·simp[df,wN,kV]
  split
  ·simp[df]
  exact E t
 have W:∀k,k=h.next+1\/k=h.next+2\/k=k2\/k=k3->∃B,hT h k2 k3 x (λ_=>true) k=some B/\yJ B B=true:=λk a=>by
  unfold hT;split
  ·exact⟨_,rfl,by simp[yJ,wN,kV,df]⟩
  split
  ·exact⟨_,rfl,by simp[yJ,mT,js,tL,wN,kV,df]⟩
  split
  ·exact⟨_,rfl,by simp[yJ,wN,df]⟩
  split
  ·exact⟨_,rfl,by simp[yJ,wN,df]⟩
  next C w q A=>
   exfalso;simp only[and_true]at C w q A;rcases a with a|a|a|a
   ·exact C a
   ·exact w a
   ·exact q a
   ·exact A a
 obtain⟨s,c,Z⟩:=SY (P:=SS.P) (gl:=SS.gl) (ops:=Du) (bf:=cD (fk Du)) (base:=h.next) (N:=8) (by kernel_rfl) (WE tm h k2 k3 x) (UW Y O R M b2 F y u r l2 S X) (tm:=tm) (h:=h) rfl
  ⟨K,λt=>(by unfold vT;simp),(by rw[show Du.size=8 by kernel_rfl]),λk=>(by unfold hT;simp;rfl),λk a=>(by cases a),λe=>e⟩
  (λD G s v d z c f=>by
   obtain⟨j,g⟩:=b D d;obtain⟨p,m⟩:=b G z;have ga:∀k,s.2.1.get k=v.2.1.get k:=λk=>by rw[c.get,f.get,g,m]
   have n:∀k,(k=h.next+1\/k=h.next+2\/k=k2\/k=k3)->O4 s.2.1 v.2.1 k=true:=λk a=>by
    obtain⟨B,L,Q⟩:=W k a;unfold O4;rw[c.get,f.get,g,m,L];exact Q
   unfold D8;rw[S8 (by rw[c.len,f.len]) (λt=>by rw[c.val,f.val,j,p]) (λt=>by rw[c.val,j];exact H t),all_eq_true.2 λk a=>n k (c.wr k a),all_eq_true.2 λk a=>n k (f.wr k a)];rfl)
 obtain⟨j,g⟩:=b (λi=>decide (i<8)) (λi T=>by simpa using T);refine⟨_,_,c.len,Z,λt ht=>?_,c.nx,λk=>by rw[c.get,g]⟩;rw[c.val];unfold vT;rw[if_neg (λe=>by omega),if_neg (λe=>by omega),if_neg (λe=>by omega),if_neg (λe=>by omega),if_neg (λe=>by omega)]
end
end
variable{c:List Value}{X:Sx}
section
theorem T0(h:c.length=n):(List.range n).map (fr c)=c:=by
 subst h;refine List.ext_getElem (by simp) λi b a=>?_;simp[fr,gD,gE a]
theorem XY{a b:Value}{t d:TypeId}{h:aa}(e:ae X.P t h a=some v)(c:ae X.P d h b=some w)(f:Q (.tuple ⟨[v,w]⟩) h):dq X [(a,some t),(b,some d)] h Q:=by
 unfold dq;simp only[JH,e,c];exact f
theorem R1{a:List NN}{x y:NN}:y∈uP a x↔y∈a\/y=x:=by
 unfold uP;split
 ·next h=>
  constructor
  ·exact .inl
  ·rintro(b|rfl)
   ·exact b
   ·exact h
 ·simp
theorem WV{c:List NN}{x:NN}(h:c.Nodup):(uP c x).Nodup:=by
 unfold uP;split
 ·exact h
 ·next f=>exact List.nodup_append.2 ⟨h,by simp,λa g b d e=>by rw[mem_singleton.1 d]at e;exact f (e▸g)⟩
def wX(a:List NN)(l:List (Mv×NN)):List NN:=l.foldl (λo x=>uP o x.2) a
theorem OW(a:List NN)(l:List (Mv×NN))(x:Mv×NN):wX a (l++[x])=uP (wX a l) x.2:=by unfold wX;rw[List.foldl_append];rfl
theorem ot:∀{l:List (Mv×NN)}{a:List NN}{y:NN},y∈wX a l↔y∈a\/ ∃x∈l,y=x.2
 |[],a,y=>by simp[wX]
 |x::l,a,y=>by
  show y∈wX (uP a x.2) l↔_;rw[ot,R1];simp only[mem_cons,exists_eq_or_imp,or_assoc]
theorem Fj:∀{l:List (Mv×NN)}{a:List NN},a.Nodup->(wX a l).Nodup
 |[],_,h=>h
 |x::l,a,h=>Fj (l:=l) (WV h)
theorem uR:∀{l:List (Mv×NN)}{ord:List NN}{j:Nat}{y:NN},ord[j]?=some y->(wX ord l)[j]?=some y
 |[],_,_,_,h=>h
 |x::l,ord,j,y,h=>by
  refine uR (l:=l) (ord:=uP ord x.2) ?_;unfold uP;split
  ·exact h
  ·rw[List.getElem?_append_left (List.getElem?_eq_some_iff.1 h).1];exact h
def inB(A B:aG)(k:NN):Prop:=k.1<A.ak.length/\k.2<B.ak.length
theorem nI{N M:Nat}{c:List NN}(o:c.Nodup)(d:∀k∈c,k.1<N/\k.2<M):c.length<=N*M:=by
 have h:=BL (N*M) (l:=c.map λk=>k.1*M+k.2) ?_ ?_
 ·rwa[lM]at h
 ·refine(List.pairwise_map).2 ((List.Pairwise.imp_of_mem (λq n g e=>?_)) o);obtain⟨m,f⟩:=d _ q;obtain⟨u,t⟩:=d _ n;rename_i a b;have j:a.2=b.2:=by
   have:=congrArg (· % M) e;simpa[Nat.mul_add_mod',Nat.mod_eq_of_lt f,Nat.mod_eq_of_lt t]using this
  have p:a.1=b.1:=by
   rw[j]at e;exact Nat.eq_of_mul_eq_mul_right (by omega) (Nat.add_right_cancel e)
  exact g (Prod.ext p j)
 ·intro i r;obtain⟨k,s,rfl⟩:=mem_map.1 r;obtain⟨m,f⟩:=d _ s
  calc k.1*M+k.2<k.1*M+M:=by omega
   _=(k.1+1)*M:=by rw[add_mul,one_mul]
   _<=N*M:=mul_le_mul_right _ m
theorem Vx{B:aG}(o:Good M)(l:Good B){k j:NN}{m:Mv}(d:inB M B k)(s:DL M B k m j):inB M B j:=by
 have b:∀{n:aG},Good n->∀{s:Nat}{a:bJ},a∈bC n s->s<n.ak.length->a.t.toNat<n.ak.length:=λ{n} g {s} {a} c q=>by
  obtain⟨x,_,e,_,p⟩:=iy q;rw[e]at c;have h:=g.an x p a c;have i:=h.t0;have r:=h.t1;omega
 cases s with
 |left c i=>exact⟨b o c d.1,d.2⟩
 |right f i=>exact⟨d.1,b l f d.2⟩
 |both c f i e=>exact⟨b o c d.1,b l f d.2⟩
structure WO(A B:aG)(ord:List NN):Prop where
 nd:ord.Nodup
 hd:ord[0]?=some (sI A B)
 lt:∀k∈ord,inB A B k
 rc:∀k∈ord,∃ms,PR A B (sI A B) ms k
 cl:∀k∈ord,∀m k',DL A B k m k'->k'∈ord
structure Nt(A B:aG)(i:Nat)(ord:List NN):Prop where
 nd:ord.Nodup
 hd:ord[0]?=some (sI A B)
 lt:∀k∈ord,inB A B k
 rc:∀k∈ord,∃ms,PR A B (sI A B) ms k
 cl:∀j k,j<i->ord[j]?=some k->∀m k',DL A B k m k'->k'∈ord
theorem Nt.step{B:aG}(s:Good M)(q:Good B){i:Nat}{a:List NN}(r:Nt M B i a){k:NN}(g:a[i]?=some k):Nt M B (i+1) (wX a (dQ M B k)):=by
 have p:=List.mem_of_getElem? g;refine⟨Fj r.nd,uR r.hd,λx f=>?_,λx f=>?_,λj y v t m o d=>?_⟩
 ·rcases ot.1 f with h|⟨z,n,rfl⟩
  ·exact r.lt x h
  ·exact Vx s q (r.lt k p) (fM.1 n)
 ·rcases ot.1 f with h|⟨z,n,rfl⟩
  ·exact r.rc x h
  ·obtain⟨u,h⟩:=r.rc k p;exact⟨_,h.snoc (fM.1 n)⟩
 ·have b:j<a.length:=by
   have:=(List.getElem?_eq_some_iff.1 g).1;omega
  have c:=uR (l:=dQ M B k) (gE b);rw[t]at c;obtain rfl:=oI c;by_cases h:j=i
  ·subst h;have e:a[j]=k:=by
    have:=gE b;rw[g]at this;exact(oI this).symm
   rw[e]at d;exact ot.2 (.inr ⟨(m,o),fM.2 d,rfl⟩)
  ·exact ot.2 (.inl (r.cl j _ (by omega) (gE b) m o d))
def UT(h:aa)(T:eE):VH:=λv g=>∃(b:List NN)(a:Option Addr)(n c d:Nat),v = .tuple ⟨[.slice a n c,.map (some d)]⟩/\WO T.A T.B b/\eZ h g 105 2 (.slice a n c) (b.map kV)/\g.get d=some (.map (js b 0))/\h.next<=d/\bZ (.slice a n c)≠some d/\Ok h g
section
variable {h:aa} {T:eE}
theorem acD:aA SS.P 162=some (.cells [nA] 162 0 true,dR):=by kernel_rfl
theorem acE:aA SS.P 163=some (.cells [.map none] 163 0 true,dR):=by kernel_rfl
def nc:bu:= .cells [.int .i64 0,.int .i64 0] 105 0 true
theorem R6:aA SS.P 105=some (nc,dR):=by kernel_rfl
theorem UH(x:NN)(g:aa):aj SS.P 105 (pA g.next) (.agg ⟨kV x⟩) (g.push nc)=some (undef,.set g.next (dh x)):=dM Cu rfl (aI g nc) rfl rfl
theorem aem(r:T.Rows h):df 4 (.agg ⟨T.arg⟩) (.agg ⟨T.arg⟩)=true:=by
 have a:=Kh r.ra;have b:=Kh r.rb;simp only[df,eE.arg,bD,wN,and_eq_true,cons_append,nil_append]at a b⊢
 simp_all
theorem Dr(w:Wf h)(O:T.Rows h)(I:Good T.A)(F:Good T.B)(zA:∀s∈T.A.ak,s.an.length<=2000)(zB:∀s∈T.B.ak,s.an.length<=2000)(x3:T.A.ak.length<=300)(nB:T.B.ak.length<=300){K f t d:Nat}{U:aa}{S:List cC}(m0:Im U S K (kj T))(r0:RS h f t d [sI T.A T.B] U S):LL SS ck [1,1,1,0,1,0,0] (fy K f t 0) U (KK SS ck [1,1,1,0,1,0] [] (EE SS ck (UT h T))):=by
 have x0:inB T.A T.B (sI T.A T.B):=by
  have a0:=I.ob;have a1:=I.rA;have b0:=F.ob;have b1:=F.rA;exact⟨by unfold sI;dsimp only;omega,by unfold sI;dsimp only;omega⟩
 have R:T.A.ak.length*T.B.ak.length<=90000:=Nat.mul_le_mul x3 nB;refine sF T.arg K f t (λZ i g=>∃b L,RS h f t d b g L/\Im g L K (kj T)/\Nt T.A T.B i b/\i<=b.length/\Z=T.A.ak.length*T.B.ak.length-i) _ (λZ i=>?_) (T.A.ak.length*T.B.ak.length) (i:=0) ⟨_,S,r0,m0,⟨by simp,rfl,λk u=>by rw[mem_singleton.1 u];exact x0,λk u=>by rw[mem_singleton.1 u];exact⟨[],.nil _⟩,λj k E=>absurd E (not_lt_zero _)⟩,zero_le _,rfl⟩;intros;rename_i g A;obtain⟨b,L,rs,m1,p,x6,rfl⟩:=A;have x5:=nI p.nd p.lt;obtain⟨o,v,G,D,rfl⟩:=rs;obtain⟨a,c,hv⟩:=D.oa;rw[lM]at hv;subst hv;refine⟨_,_,_,aR wx DN (o.get 0 rfl) (by simp),ah (λq=>?_) (λq=>?_)⟩
 ·have q:=dT q;have hi:i<b.length:=by omega
  obtain⟨k,u⟩:∃k,b[i]?=some k:=⟨_,gE hi⟩
  obtain⟨C,c2⟩:=o.grow ((Ok.refl o.ok.wf).room 7);have m2:=c2 _ _ m1;generalize Go.Ab.room g 7=J at*;obtain⟨kk,oo,d1,Y,_⟩:=(D.rd C (i:=2) rfl).at_ wx Cu V8 R4 (ik:= .i64) (i:=(i:Int)) (by omega) (by rw[lM];omega);have e4:(b.map kV).getD (i:Int).toNat []=kV k:=by
   rw[toNat_natCast,gD,getElem?_map,u];rfl
  rw[e4]at Y;have A:=p.lt k (List.mem_of_getElem? u);have x1:=p.step I F u;refine⟨_,kj.all m2.1,_,_,_,aR wx DN (C.get 0 rfl) (by simp),_,d1,_,Y,?_⟩;refine(wA w O I F zA zB (h:=J) (L:=RJ f t d _ b G) A.1 A.2 (fa:=[]) (fc:=[pA t,pA f]) (by decide +kernel) (λl g L=>RS h f t d (wX b l) g L/\(wX b l).length<=90000) (λl g L r=>r.1.1) (λl g L X r o=>⟨r.1.grow o,r.2⟩) ⟨⟨C,_,G,D,rfl⟩,by show b.length<=90000;omega⟩ (λx7 x x4 x2 g L r=>?_)).mono ?_
  ·refine(QT w r.1 (by omega) x.1 x.2).mono ?_;rintro _ X ⟨rfl,N,V,Q⟩;refine⟨rfl,N,⟨by rw[OW];exact V,?_⟩,Q⟩;refine Nat.le_trans (nI (Fj p.nd) λy hy=>?_) R;rcases ot.1 hy with h1|⟨z,H,rfl⟩
   ·exact p.lt y h1
   ·refine Vx I F A (fM.1 ?_) (m:=z.1);rw[x2];rcases mem_append.1 H with H|H
    ·exact List.mem_append_left _ H
    ·rw[mem_singleton.1 H];simp
  ·rintro _ X ⟨rfl,N,⟨V,_⟩,Q⟩;refine⟨rfl,?_⟩;rw[bA (n:=b.length) hi (by omega)];refine cG (T.A.ak.length*T.B.ak.length-(i+1)) (by omega) ⟨_,N,V,Q _ _ m2,x1,?_,rfl⟩;have E:=uR (l:=dQ T.A T.B k) u;exact(List.getElem?_eq_some_iff.1 E).1
 ·have q:=dF q;have x8:i=b.length:=by omega
  obtain⟨C,c2⟩:=o.grow ((Ok.refl o.ok.wf).room 4);generalize Go.Ab.room g 4=J at*;obtain⟨M,c3⟩:=C.kJ w 0 rfl (.cells [.slice a b.length c] 162 0 true);refine⟨_,_,_,aR wx DN (C.get 0 rfl) (by simp),.map (some d),aR oD qF (C.get 1 rfl) (by simp),_,bG MU (C.get 0 rfl) (by simp) (aV ..) (by cases a<;>rfl),?_⟩;change OL h ((bp.set f (.cells (([.slice a b.length c]:List Value).set 0 (.slice a b.length c)) 162 0 true)).app J) (RJ f t d (.slice a b.length c) b G)at M;generalize (bp.set f (.cells (([.slice a b.length c]:List Value).set 0 (.slice a b.length c)) 162 0 true)).app J=g3 at*;obtain⟨B,c4⟩:=M.kJ w 1 rfl (.cells [.map (some d)] 163 0 true);refine⟨_,bG MW (M.get 1 rfl) (by simp) rfl rfl,⟨aR oD qF (M.get 1 rfl) (by simp),by simp[df]⟩,?_⟩;change OL h ((bp.set t (.cells (([.map (some d)]:List Value).set 0 (.map (some d))) 163 0 true)).app g3) (RJ f t d (.slice a b.length c) b G)at B;generalize (bp.set t (.cells (([.map (some d)]:List Value).set 0 (.map (some d))) 163 0 true)).app g3=g4 at*;refine XY (aR wx DN (B.get 0 rfl) (by simp)) (aR oD qF (B.get 1 rfl) (by simp)) ⟨b,a,b.length,c,d,rfl,⟨p.nd,p.hd,p.lt,p.rc,λk u m k' hs=>?_⟩,D.own B (i:=2) rfl,B.get 3 rfl,?_,?_,B.ok⟩
  ·obtain⟨j,E⟩:=List.getElem?_of_mem u;exact p.cl j k (by have:=(List.getElem?_eq_some_iff.1 E).1;omega) E m k' hs
  ·exact B.lo d (by unfold keys RJ;simp)
  ·intro e;have W:=D.blk;rw[e]at W;have P:=B.nd;unfold keys RJ at P;simp only[List.flatten_cons,List.flatten_nil,map_append,List.map_cons,List.map_nil,append_nil,W]at P;simp at P
theorem Js(w:Wf h)(m:T.Rows h)(M:Good T.A)(H:Good T.B)(P:∀s∈T.A.ak,s.an.length<=2000)(U:∀s∈T.B.ak,s.an.length<=2000)(L:T.A.ak.length<=300)(V:T.B.ak.length<=300):FW SS 105 [.agg ⟨T.arg⟩] h (UT h T):=by
 refine Jr T.arg h _ ⟨_,H3 T,_,acD,_,acE,?_⟩;have G:=(Ok.refl w).push (kj T);have j:=aI h (kj T);have n1:(h.push (kj T)).next=h.next+1:=rfl;generalize h.push (kj T)=g at*;have E:=(Ok.refl G.wf).push (.cells [nA] 162 0 true);have v:=aI g (.cells [nA] 162 0 true);have j:=E.ext _ _ j;have n2:(g.push (.cells [nA] 162 0 true)).next=g.next+1:=rfl;generalize g.push (.cells [nA] 162 0 true)=f at*;have q:=(Ok.refl E.wf).push (.cells [.map none] 163 0 true);have D:=aI f (.cells [.map none] 163 0 true);have j:=q.ext _ _ j;have v:=q.ext _ _ v;have Z:(f.push (.cells [.map none] 163 0 true)).next=f.next+1:=rfl;generalize f.push (.cells [.map none] 163 0 true)=b at*;have Y:=M.ob;have eb:=H.ob;have Q:([.int .i64 T.A.start,.int .i64 T.B.start]:List Value)=kV (sI T.A T.B):=OF (by omega) (by omega);refine⟨_,FJ _,_,pk _,_,kj.a1 j,_,Bj _,_,abi _,_,kj.b1 j,_,my _ _,_,R6,?_⟩;rw[Q];have S:=(Ok.refl q.wf).push nc;have b4:=aI b nc;have n4:(b.push nc).next=b.next+1:=rfl;have y:Ok b ((bp.set b.next (dh (sI T.A T.B))).app (b.push nc)):=S.set _ (Nat.le_refl _) (by omega) q.wf;have W:((bp.set b.next (dh (sI T.A T.B))).app (b.push nc)).get b.next=some (dh (sI T.A T.B)):=by
  show((b.push nc).set _ _).get _=_;rw[aa.ay,if_pos rfl]
 have X:((bp.set b.next (dh (sI T.A T.B))).app (b.push nc)).next=b.next+1:=rfl;refine⟨_,UH _ b,?_⟩;have j:=y.ext _ _ j;have v:=y.ext _ _ v;have D:=y.ext _ _ D;have A:=((G.trans E).trans q).trans y;generalize (bp.set b.next (dh (sI T.A T.B))).app (b.push nc)=i at*;refine .inr ⟨by kernel_rfl,?_⟩;have l:ck.nm=33:=by kernel_rfl
 obtain⟨a,u,l',d,z,nx,C⟩:=Ze (tm:=uN [(.agg ⟨T.arg⟩),(pA (h.next)),(pA (g.next)),(pA (f.next)),(pA (b.next)),undef,(.pointer (some ⟨h.next,0,none⟩)),(.pointer (some ⟨h.next,1,none⟩)),(.int .i64 T.A.start),(.pointer (some ⟨h.next,4,none⟩)),(.pointer (some ⟨h.next,5,none⟩)),(.int .i64 T.B.start),(.agg ⟨kV (sI T.A T.B)⟩)] 20) (h:=i) (x:=sI T.A T.B) rfl rfl rfl rfl (λt=>by
  have K:∀n,df 4 ((List.replicate n undef:List Value).getD t undef) ((List.replicate n undef:List Value).getD t undef)=true:=λn=>by
   rw[gD,getElem?_replicate];split<;>rfl
  match t with
  |0=>exact aem m
  |1=>simp[df]
  |2=>simp[df]
  |3=>simp[df]
  |4=>simp[df]
  |5=>rfl
  |6=>simp[df]
  |7=>simp[df]
  |8=>simp[df]
  |9=>simp[df]
  |10=>simp[df]
  |11=>simp[df]
  |12=>simp[df,wN,kV]
  |t+13=>
   show df 4 ((List.replicate 20 undef:List Value).getD t undef) ((List.replicate 20 undef:List Value).getD t undef)=true;rw[gD,getElem?_replicate];split<;>rfl) W v D (by omega) (by omega) (by omega) (by omega) (by omega) (by omega)
 have o:∀k,k<h.next+1->∀B,i.get k=some B->u.get k=some B:=λk c B N=>by
  rw[C];unfold hT;rw[if_neg (λe=>by omega),if_neg (λe=>by omega),if_neg (λe=>by omega),if_neg (λe=>by omega)];exact N
 have I:Ok h u:=⟨λk B c=>by
   rw[C]at c;unfold hT at c;split at c
   ·omega
   split at c
   ·omega
   split at c
   ·omega
   split at c
   ·omega
   ·have:=A.wf _ _ c;omega,λk B c=>o k (by have:=w _ _ c;omega) B (A.ext _ _ c),by omega⟩
 have J:RS h g.next f.next (i.next+2) [sI T.A T.B] u (RJ g.next f.next (i.next+2) (sA (i.next+1) 1 1) [sI T.A T.B] [(i.next+1,.cells (kV (sI T.A T.B)) 105 2 true)]):=by
  refine⟨⟨I,?_,λk c=>?_,λp F=>?_⟩,_,_,?_,rfl⟩
  ·unfold keys RJ;simp only[List.flatten_cons,List.flatten_nil,map_append,List.map_cons,List.map_nil,append_nil,cons_append,nil_append,nodup_cons,mem_cons,List.not_mem_nil,or_false,not_or,List.nodup_nil,not_false_eq_true,and_true];omega
  ·unfold keys RJ at c;simp at c;omega
  ·unfold RJ at F;simp only[List.flatten_cons,List.flatten_nil,append_nil,cons_append,nil_append,mem_cons,List.not_mem_nil,or_false]at F;rw[C];unfold hT;rcases F with rfl|rfl|rfl|rfl
   ·rw[if_neg (λe=>by have:=e.1;dsimp only at this;omega),if_neg (λe=>by have:=e.1;dsimp only at this;omega),if_pos ⟨rfl,rfl⟩]
   ·rw[if_neg (λe=>by have:=e.1;dsimp only at this;omega),if_neg (λe=>by have:=e.1;dsimp only at this;omega),if_neg (λe=>by have:=e.1;dsimp only at this;omega),if_pos ⟨rfl,rfl⟩]
   ·rw[if_pos ⟨rfl,rfl⟩]
   ·rw[if_neg (λe=>by have:=e.1;dsimp only at this;omega),if_pos ⟨rfl,rfl⟩];rfl
  ·exact fj.made (rs:=[kV (sI T.A T.B)]) (λr K=>by rw[mem_singleton.1 K];rfl) (by rw[length_singleton];decide)
 have O:Im u (RJ g.next f.next (i.next+2) (sA (i.next+1) 1 1) [sI T.A T.B] [(i.next+1,.cells (kV (sI T.A T.B)) 105 2 true)]) h.next (kj T):=⟨o _ (Nat.lt_succ_self _) _ j,λc=>by
  unfold keys RJ at c;simp at c;omega⟩
 have R:=Dr w m M H P U L V O J;refine⟨a,u,by rw[l];exact l',by rw[l,T0 (n:=33) rfl];exact d,a,by rw[l];exact l',rfl,?_⟩;have e:a=[fr a 0,fr a 1,fr a 2,fr a 3,fr a 4,fr a 5,fr a 6,fr a 7,fr a 8,fr a 9,fr a 10,fr a 11,fr a 12,fr a 13,fr a 14,fr a 15,fr a 16,fr a 17,fr a 18,fr a 19,fr a 20,fr a 21,fr a 22,fr a 23,fr a 24,fr a 25,fr a 26,fr a 27,fr a 28,fr a 29,fr a 30,fr a 31,fr a 32]:=(T0 l').symm;rw[show fr a 1=pA h.next from z 1 (by omega),show fr a 2=pA g.next from z 2 (by omega),show fr a 3=pA f.next from z 3 (by omega),show fr a 4=pA b.next from z 4 (by omega)]at e;rw[e];exact zO R
end
end
noncomputable def bg:FD:=dY Tryz.f106 [([1,1,1,0,1,0,0],[1,3,5,7,8,23,24,25]),([1,1,1,1,1,0,1,0,0],[1,3,5,7,8,11,40,41,42]),([1,1,1,1,1,1,0,0,0],[1,3,5,7,8,11]),([1,1,1,1,1,1,0,0,0,1,0,1,1,1,0,0],[1,3,5,7,8,11,14,71,72,73])]
abbrev hE(a:OA)(n c f d e b:Nat)(i:Nat):LV:=[(.slice a n c),(pA f),(pA d),(pA e),(pA b),(.slice a n c),(iA n),(iA i)]
abbrev fz(a:OA)(n c g e f d b:Nat)(i:Nat):LV:=[(.slice a n c),(pA g),(pA e),(pA f),(pA d),(pA b),(.slice a n c),(iA n),(iA i)]
abbrev fA(a:OA)(n c g e f d b:Nat)(z:Unit):LV:=[(.slice a n c),(pA g),(pA e),(pA f),(pA d),(pA b)]
abbrev hH(a:OA)(n c k h i g e f:Nat)(b:OA)(m d:Nat)(j:Nat):LV:=[(.slice a n c),(pA k),(pA h),(pA i),(pA g),(pA e),(pA f),(.slice b m d),(iA m),(iA j)]
theorem QF(a:OA)(n c:Nat)(o:LV)(l:Nat)(h:aa)(Q:VH)(r:xN (dp SS.P 66 (.agg ⟨o⟩)) h λx j=>xN (dp SS.P 163 (.map (some l))) j λz k=>xR (aX SS.P 166 (iA n) (iA n)) k λA s q g=>xN (aA SS.P 166) g λy f=>xU (aj SS.P 166 (pA (g.next)) (sA (k.next) s q) f) f λu d=>xR (aX SS.P 126 (iA n) (iA n)) d λt i p b=>xN (aA SS.P 126) b λw e=>xU (aj SS.P 126 (pA (b.next)) (sA (d.next) i p) e) e λv m=>LL SS bg [1,1,1,0,1,0,0] (hE a n c (h.next) (j.next) (g.next) (b.next) 0) m (KK SS bg [1,1,1,0,1,0] [] (EE SS bg Q))):FW SS 106 [(.agg ⟨o⟩),(.slice a n c),(.map (some l))] h Q:=eh bg Tryz.func106 (av r)
theorem vY(a:OA)(n c:Nat)(O:LV)(N:Nat)(j g m d:Nat)(e:Nat->Nat->aa->Prop)(Q:VH)(step:∀(b:Nat) (i:Nat) (C:Nat->Value) (h:aa),e b i h->aS (decide (((i:Int):Int)<(n:Int))) (xP (ai SS.P 162 (.slice a n c) (iA i)) λv=>xA (ae SS.P 105 h (.pointer (some v))) λs=>xN (aA SS.P 3) h λL k=>xN (aA SS.P 105) k λM p=>xU (aj SS.P 3 (pA (h.next)) (iA i) p) p λK o=>xU (aj SS.P 105 (pA (k.next)) (.agg ⟨s⟩) o) o λI l=>xA (ae SS.P 66 l (pA j)) λx=>xA (ae SS.P 105 l (pA (k.next))) λA=>FW SS 111 [(.agg ⟨x⟩),(.agg ⟨A⟩),(.func (.func 145) ⟨[]⟩ ⟨[(pA d),(pA g),(pA (h.next))]⟩)] l λy f=>y=(.tuple ⟨[]⟩)/\xL (ae SS.P 126 f (pA d)) λt r B=>xI .i64 (ae SS.P 3 f (pA (h.next))) λG=>xP (ai SS.P 126 (.slice t r B) (.int .i64 G)) λz=>xL (ae SS.P 27 f (.pointer (some z))) λE F D=>FW SS 146 [(.slice E F D)] f λH u=>H=(.tuple ⟨[]⟩)/\aH (fD (hE a n c j g m d) e) b [(.slice a n c),(pA j),(pA g),(pA m),(pA d),(.slice a n c),(iA n),(.int .i64 (wrap .i64 ((i:Int)+1)))] u) (xN (aA SS.P 27) h λJ w=>LL SS bg [1,1,1,1,1,0,1,0,0] (fz a n c j g m d (h.next) 0) w (KK SS bg [1,1,1,1,1,0,1,0] [] (EE SS bg Q))))(b:Nat){i:Nat}{h:aa}(q:e b i h):LL SS bg [1,1,1,0,1,0,0] (hE a n c j g m d i) h (KK SS bg [1,1,1,0,1,0] [] (EE SS bg Q)):=
 dN (hE a n c j g m d) e (λb i C h q=>av (step b i C h q)) b q
theorem vZ(a:OA)(n c:Nat)(Y:LV)(X:Nat)(g k f j:Nat)(b:Nat)(e:Nat->Nat->aa->Prop)(Q:VH)(step:∀(d:Nat) (i:Nat) (F:Nat->Value) (h:aa),e d i h->aS (decide (((i:Int):Int)<(n:Int))) (xP (ai SS.P 162 (.slice a n c) (iA i)) λI=>xA (ae SS.P 105 h (.pointer (some I))) λC=>xN (aA SS.P 105) h λR r=>xU (aj SS.P 105 (pA (h.next)) (.agg ⟨C⟩) r) r λU m=>xA (ae SS.P 66 m (pA g)) λH=>xA (ae SS.P 105 m (pA (h.next))) λL=>FW SS 109 [(.agg ⟨H⟩),(.agg ⟨L⟩)] m λK l=>yB K λz=>aS z (xL (ae SS.P 166 l (pA f)) λu v N=>xA (aD SS.P 170 []) λA=>xN (dp SS.P 170 (.agg ⟨A⟩)) l λT q=>xP (ai SS.P 166 (.slice u v N) (iA i)) λD=>xU (aj SS.P 168 (.pointer (some D)) (pA (l.next)) q) q λP o=>xL (ae SS.P 27 o (pA b)) λM J x=>xR (az SS.P 27 1 [(0,(iA i))]) o λS w B p=>xE (aJ SS.P 27 27 (.slice M J x) (sA (o.next) w B) p) p λy G E V s=>xU (aj SS.P 27 (pA b) (.slice y G E) s) s λW O=>aH (fD (fz a n c g k f j b) e) d [(.slice a n c),(pA g),(pA k),(pA f),(pA j),(pA b),(.slice a n c),(iA n),(.int .i64 (wrap .i64 ((i:Int)+1)))] O) (aH (fD (fz a n c g k f j b) e) d [(.slice a n c),(pA g),(pA k),(pA f),(pA j),(pA b),(.slice a n c),(iA n),(.int .i64 (wrap .i64 ((i:Int)+1)))] l)) (LL SS bg [1,1,1,1,1,1,0,0,0] [(.slice a n c),(pA g),(pA k),(pA f),(pA j),(pA b)] h (KK SS bg [1,1,1,1,1,1,0,0] [] (EE SS bg Q))))(d:Nat){i:Nat}{h:aa}(t:e d i h):LL SS bg [1,1,1,1,1,0,1,0,0] (fz a n c g k f j b i) h (KK SS bg [1,1,1,1,1,0,1,0] [] (EE SS bg Q)):=
 dN (fz a n c g k f j b) e (λd i F h t=>av (step d i F h t)) d t
theorem wa(a:OA)(n c:Nat)(V:LV)(U:Nat)(l k j i:Nat)(b:Nat)(e:Nat->Unit->aa->Prop)(Q:VH)(step:∀(d:Nat) (z:Unit) (J:Nat->Value) (h:aa),e d z h->xL (ae SS.P 27 h (pA b)) λS F R=>aS (decide (((F:Int):Int)>0)) (xL (ae SS.P 27 h (pA b)) λC H I=>xP (ai SS.P 27 (.slice C H I) (.int .i64 0)) λB=>xI .i64 (ae SS.P 3 h (.pointer (some B))) λG=>xN (aA SS.P 3) h λO m=>xU (aj SS.P 3 (pA (h.next)) (.int .i64 G) m) m λP g=>xL (ae SS.P 27 g (pA b)) λE N D=>xL (bE SS.P 27 (.slice E N D) (some (.int .i64 1)) none none g) λM L K=>xU (aj SS.P 27 (pA b) (.slice M L K) g) g λT f=>xL (ae SS.P 126 f (pA i)) λA u y=>xI .i64 (ae SS.P 3 f (pA (h.next))) λp=>xP (ai SS.P 126 (.slice A u y) (.int .i64 p)) λx=>xL (ae SS.P 27 f (.pointer (some x))) λo w q=>LL SS bg [1,1,1,1,1,1,0,0,0,1,0,1,1,1,0,0] (hH a n c l k j i b (h.next) o w q 0) f (KK SS bg [1,0,1,1,1,0] [1,1,1,1,1,1,0,0,0] (RR bg [1,1,1,1,1,1,0,0,0] (fD (fA a n c l k j i b) e) d (KK SS bg [1,1,1,1,1,1,0,0] [] (EE SS bg Q))))) (xL (ae SS.P 166 h (pA j)) λt s r=>Q (.slice t s r) h))(d:Nat){z:Unit}{h:aa}(v:e d z h):LL SS bg [1,1,1,1,1,1,0,0,0] (fA a n c l k j i b z) h (KK SS bg [1,1,1,1,1,1,0,0] [] (EE SS bg Q)):=
 dN (fA a n c l k j i b) e (λd z J h v=>av (step d z J h v)) d v
theorem wb(a:OA)(n c:Nat)(P:LV)(O:Nat)(p o k q:Nat)(f i:Nat)(b:OA)(m d:Nat)(s:Nat->Unit->aa->Prop)(t:Nat)(z:Unit)(l:Nat->Nat->aa->Prop)(Q:VH)(step:∀(g:Nat) (j:Nat) (L:Nat->Value) (h:aa),l g j h->aS (decide (((j:Int):Int)<(m:Int))) (xP (ai SS.P 27 (.slice b m d) (iA j)) λB=>xI .i64 (ae SS.P 3 h (.pointer (some B))) λH=>xN (aA SS.P 3) h λM r=>xU (aj SS.P 3 (pA (h.next)) (.int .i64 H) r) r λN e=>xL (ae SS.P 166 e (pA k)) λK D F=>xI .i64 (ae SS.P 3 e (pA (h.next))) λI=>xP (ai SS.P 166 (.slice K D F) (.int .i64 I)) λy=>xO (ae SS.P 168 e (.pointer (some y))) λu=>xB (ax SS.P .neq 168 (.pointer u) (.pointer none)) λA=>aS A (aH (fD (hH a n c p o k q f i b m d) l) g [(.slice a n c),(pA p),(pA o),(pA k),(pA q),(pA f),(pA i),(.slice b m d),(iA m),(.int .i64 (wrap .i64 ((j:Int)+1)))] e) (xA (ae SS.P 66 (room e 7) (pA p)) λw=>xI .i64 (ae SS.P 3 (room e 7) (pA (h.next))) λv=>xP (ai SS.P 162 (.slice a n c) (.int .i64 v)) λJ=>xA (ae SS.P 105 (room e 7) (.pointer (some J))) λx=>FW SS 111 [(.agg ⟨w⟩),(.agg ⟨x⟩),(.func (.func 147) ⟨[]⟩ ⟨[(pA o),(pA i),(pA k),(pA (h.next)),(pA f)]⟩)] (room e 7) λG E=>G=(.tuple ⟨[]⟩)/\aH (fD (hH a n c p o k q f i b m d) l) g [(.slice a n c),(pA p),(pA o),(pA k),(pA q),(pA f),(pA i),(.slice b m d),(iA m),(.int .i64 (wrap .i64 ((j:Int)+1)))] E)) (aH (fD (fA a n c p o k q f) s) t [(.slice a n c),(pA p),(pA o),(pA k),(pA q),(pA f)] h))(g:Nat){j:Nat}{h:aa}(C:l g j h):LL SS bg [1,1,1,1,1,1,0,0,0,1,0,1,1,1,0,0] (hH a n c p o k q f i b m d j) h (KK SS bg [1,0,1,1,1,0] [1,1,1,1,1,1,0,0,0] (RR bg [1,1,1,1,1,1,0,0,0] (fD (fA a n c p o k q f) s) t (KK SS bg [1,1,1,1,1,1,0,0] [] (EE SS bg Q)))):=
 dN (hH a n c p o k q f i b m d) l (λg j L h C=>av (step g j L h C)) g C
end Go.Proofs.YtnlccnpbjeiccaaGreatDoor
end
