/- Laws and walks that the proof leans on (part 5): W14; P31; P32; W15; P33; P34 and others. No condition. -/
import Derived.Test.YtaaichlgdgjgjaaGreatDoorPart3
import Derived.Test.YtaaichlgdgjgjaaGreatDoorPart2
import Derived.Test.YtaaichlgdgjgjaaGreatDoorPart4
set_option linter.unusedVariables false
set_option linter.unusedSimpArgs false
set_option maxRecDepth 100000
open List (all_cons drop_eq_nil_of_le drop_zero ext_getElem getElem?_map getElem?_replicate getElem?_set length_replicate length_set mem_singleton take_of_length_le take_zero)
open Nat (le_succ lt_of_le_of_lt mul_pos sub_zero)
open Bool (and_eq_true not_eq_false' not_eq_true' or_eq_true)
open Go.IntKind (wrap)
section
namespace Go.Proofs.YtaaichlgdgjgjaaGreatDoor
open Go Go.Ab Go.Num
noncomputable def Va:FD:=cA Tryz.f89 []
theorem Ra(s:Int)(h:ae)(Q:VH)(a:au (decide ((s:Int)>=0)) (Q (.bool (decide ((s:Int)<=500))) h) (Q (.bool false) h)):FW SS 89 [(.int .i64 s)] h Q:=cN Va Tryz.func89 (ai a)
noncomputable def dy:FD:=cA Tryz.f66 [([1,1,1,1,0,1,0,0],[1,2,3,4,48,49,50]),([1,1,1,1,0,1,0,0,1,1,0,0,1,1,1,1,0,0],[1,2,3,4,6,48,49,50,75,76,77])]
abbrev gU(k:Nat)(a:OA)(n c:Nat)(i:Nat)(b:Int):LV:=[(pA k),(.bool false),(iA n),(.int .i64 b),(.slice a n c),(iA n),(iA i)]
abbrev jA(k:Nat)(a:OA)(n c f:Nat)(b:OA)(m d i:Nat)(e:Int)(j:Nat):LV:=[(pA k),(.bool false),(iA n),(.int .i64 e),(pA f),(.slice a n c),(iA n),(iA i),(.slice b m d),(iA m),(iA j)]
theorem Pw(x:LV)(h:ae)(Q:VH)(y:xN (fi SS.P 29 (.agg ⟨x⟩)) h λ_ w=>fP 29 (pA (h.next)) 3 λv=>lL 27 w v λ_ u _=>fP 29 (pA (h.next)) 0 λt=>lI w t λs=>au (decide ((s:Int)<1)) (Q (.bool false) w) (fP 29 (pA (h.next)) 0 λr=>lI w r λq=>au (decide ((q:Int)>3)) (Q (.bool false) w) (au (decide (((u:Int):Int)<1)) (Q (.bool false) w) (au (decide (((u:Int):Int)>3000)) (Q (.bool false) w) (fP 29 (pA (h.next)) 1 λp=>lI w p λo=>au (decide ((o:Int)<0)) (Q (.bool false) w) (fP 29 (pA (h.next)) 1 λn=>lI w n λm=>au (decide ((m:Int)>=(u:Int))) (Q (.bool false) w) (fP 29 (pA (h.next)) 0 λl=>lI w l λk=>fP 29 (pA (h.next)) 2 λj=>lS w j λi=>FW SS 41 [(.int .i64 k),(strOf i)] w λf g=>yB f λe=>au (!e) (Q (.bool false) g) (fP 29 (pA (h.next)) 3 λd=>lL 27 g d λa b c=>LL SS dy [1,1,1,1,0,1,0,0] [(pA (h.next)),(.bool false),(iA u),(.int .i64 0),(.slice a b c),(iA b),(.int .i64 0)] g (KK SS dy [1,1,1,1,0,1,0] [] (EE SS dy Q)))))))))):FW SS 66 [(.agg ⟨x⟩)] h Q:=cN dy Tryz.func66 (ai y)
theorem xx(D:LV)(k:Nat)(a:OA)(n c:Nat)(z:Nat->Nat->Int->ae->Prop)(Q:VH)(step:∀(A:Nat) (i:Nat) (acc:Int) (C:Nat->Value) (h:ae),z A i acc h->au (decide (((i:Int):Int)<(n:Int))) (iP 27 (.slice a n c) (iA i) λy=>lA 73 h (.pointer (some y)) λx=>xN (bq SS.P 73) h λ_ w=>xU (ah SS.P 73 (pA (h.next)) (.agg ⟨x⟩) w) w λ_ v=>fP 73 (pA (h.next)) 1 λu=>lL 71 v u λ_ t _=>au (decide ((wrap .i64 (acc+(t:Int)):Int)>30000)) (Q (.bool false) v) (fP 73 (pA (h.next)) 0 λs=>lS v s λr=>au (!((r:LB)==[])) (fP 29 (pA k) 0 λq=>lI v q λp=>fP 73 (pA (h.next)) 0 λo=>lS v o λm=>FW SS 41 [(.int .i64 p),(strOf m)] v λj l=>yB j λg=>au (!g) (Q (.bool false) l) (fP 73 (pA (h.next)) 1 λf=>lL 71 l f λb d e=>LL SS dy [1,1,1,1,0,1,0,0,1,1,0,0,1,1,1,1,0,0] (jA k a n c (h.next) b d e i (wrap .i64 (acc+(t:Int))) 0) l (KK SS dy [1,1,0,0,1,1,1,1,0] [1,1,1,1,0,1,0,0] (RR dy [1,1,1,1,0,1,0,0] (qR (gU k a n c) z) A (KK SS dy [1,1,1,1,0,1,0] [] (EE SS dy Q)))))) (fP 73 (pA (h.next)) 1 λf=>lL 71 v f λb d e=>LL SS dy [1,1,1,1,0,1,0,0,1,1,0,0,1,1,1,1,0,0] (jA k a n c (h.next) b d e i (wrap .i64 (acc+(t:Int))) 0) v (KK SS dy [1,1,0,0,1,1,1,1,0] [1,1,1,1,0,1,0,0] (RR dy [1,1,1,1,0,1,0,0] (qR (gU k a n c) z) A (KK SS dy [1,1,1,1,0,1,0] [] (EE SS dy Q))))))) (Q (.bool true) h))(A:Nat){i:Nat}{acc:Int}{h:ae}(B:z A i acc h):LL SS dy [1,1,1,1,0,1,0,0] (gU k a n c i acc) h (KK SS dy [1,1,1,1,0,1,0] [] (EE SS dy Q)):=
 nE (gU k a n c) z (λA i acc C h B=>ai (step A i acc C h B)) A B
theorem xy(R:LV)(k:Nat)(a:OA)(n c:Nat)(D:Nat)(b:OA)(m d:Nat)(E:Nat->Nat->Int->ae->Prop)(H i:Nat)(C:Int)(B:Nat->Nat->ae->Prop)(Q:VH)(step:∀(A:Nat) (j:Nat) (I:Nat->Value) (h:ae),B A j h->au (decide (((j:Int):Int)<(m:Int))) (iP 71 (.slice b m d) (iA j) λP=>lA 70 h (.pointer (some P)) λN=>xN (bq SS.P 70) h λ_ K=>xU (ah SS.P 70 (pA (h.next)) (.agg ⟨N⟩) K) K λ_ J=>fP 70 (pA (h.next)) 0 λO=>lI J O λL=>FW SS 89 [(.int .i64 L)] J λM G=>yB M λz=>au (!z) (Q (.bool false) G) (fP 70 (pA (h.next)) 1 λy=>lI G y λx=>FW SS 89 [(.int .i64 x)] G λv w=>yB v λu=>au (!u) (Q (.bool false) w) (fP 70 (pA (h.next)) 3 λt=>lI w t λs=>au (decide ((s:Int)<0)) (Q (.bool false) w) (fP 70 (pA (h.next)) 3 λr=>lI w r λq=>au (decide ((q:Int)>=(n:Int))) (Q (.bool false) w) (fP 29 (pA k) 0 λp=>lI w p λo=>fP 70 (pA (h.next)) 2 λl=>lS w l λh=>FW SS 41 [(.int .i64 o),(strOf h)] w λf g=>yB f λe=>au (!e) (Q (.bool false) g) (aB (eR (jA k a n c D b m d i C) B) A [(pA k),(.bool false),(iA n),(.int .i64 C),(pA D),(.slice a n c),(iA n),(iA i),(.slice b m d),(iA m),(.int .i64 (wrap .i64 ((j:Int)+1)))] g)))))) (aB (qR (gU k a n c) E) H [(pA k),(.bool false),(iA n),(.int .i64 C),(.slice a n c),(iA n),(.int .i64 (wrap .i64 ((i:Int)+1)))] h))(A:Nat){j:Nat}{h:ae}(F:B A j h):LL SS dy [1,1,1,1,0,1,0,0,1,1,0,0,1,1,1,1,0,0] (jA k a n c D b m d i C j) h (KK SS dy [1,1,0,0,1,1,1,1,0] [1,1,1,1,0,1,0,0] (RR dy [1,1,1,1,0,1,0,0] (qR (gU k a n c) E) H (KK SS dy [1,1,1,1,0,1,0] [] (EE SS dy Q)))):=
 cY (jA k a n c D b m d i C) B (λA j I h F=>ai (step A j I h F)) A F
noncomputable def dz:FD:=cA Tryz.f26 [([1,1,1,0,1,0,0],[1,2,3,4]),([1,1,1,0,1,0,0,1,0,0,1,1,1,1,0,0],[1,2,3,4,5,6])]
abbrev fN(k:Nat)(i:Nat)(a:Int):LV:=[(pA k),(.bool false),(.int .i64 a),(iA i)]
abbrev jH(k b i:Nat)(a:Int)(j:Nat):LV:=[(pA k),(.bool false),(.int .i64 a),(iA i),(pA b),(iA j)]
theorem Qg(y:LV)(h:ae)(Q:VH)(z:xN (fi SS.P 29 (.agg ⟨y⟩)) h λ_ x=>fP 29 (pA (h.next)) 0 λw=>lI x w λv=>FW SS 14 [(.int .i64 v)] x λt u=>yB t λs=>au (!s) (Q (.bool false) u) (fP 29 (pA (h.next)) 3 λr=>lL 27 u r λ_ q _=>au (decide (((q:Int):Int)<1)) (Q (.bool false) u) (fP 29 (pA (h.next)) 3 λp=>lL 27 u p λ_ o _=>au (decide (((o:Int):Int)>3000)) (Q (.bool false) u) (fP 29 (pA (h.next)) 1 λn=>lI u n λm=>au (decide ((m:Int)<0)) (Q (.bool false) u) (fP 29 (pA (h.next)) 1 λl=>lI u l λk=>fP 29 (pA (h.next)) 3 λj=>lL 27 u j λ_ i _=>au (decide ((k:Int)>=(i:Int))) (Q (.bool false) u) (fP 29 (pA (h.next)) 0 λg=>lI u g λf=>fP 29 (pA (h.next)) 2 λe=>lS u e λd=>FW SS 16 [(.int .i64 f),(strOf d)] u λb c=>yB b λa=>au (!a) (Q (.bool false) c) (LL SS dz [1,1,1,0,1,0,0] (fN (h.next) 0 0) c (KK SS dz [1,1,1,0,1,0] [] (EE SS dz Q))))))))):FW SS 26 [(.agg ⟨y⟩)] h Q:=cN dz Tryz.func26 (ai z)
theorem xV(C:LV)(k:Nat)(y:Nat->Nat->Int->ae->Prop)(Q:VH)(step:∀(z:Nat) (i:Nat) (acc:Int) (B:Nat->Value) (h:ae),y z i acc h->fP 29 (pA k) 3 λx=>lL 27 h x λ_ w _=>au (decide (((i:Int):Int)<(w:Int))) (fP 29 (pA k) 3 λv=>lL 27 h v λs t u=>iP 27 (.slice s t u) (iA i) λr=>lA 73 h (.pointer (some r)) λq=>xN (bq SS.P 73) h λ_ p=>xU (ah SS.P 73 (pA (h.next)) (.agg ⟨q⟩) p) p λ_ o=>fP 73 (pA (h.next)) 1 λn=>lL 71 o n λ_ m _=>au (decide ((wrap .i64 (acc+(m:Int)):Int)>30000)) (Q (.bool false) o) (fP 73 (pA (h.next)) 0 λl=>lS o l λj=>au (!((j:LB)==[])) (fP 29 (pA k) 0 λg=>lI o g λf=>fP 73 (pA (h.next)) 0 λe=>lS o e λd=>FW SS 16 [(.int .i64 f),(strOf d)] o λb c=>yB b λa=>au (!a) (Q (.bool false) c) (LL SS dz [1,1,1,0,1,0,0,1,0,0,1,1,1,1,0,0] (jH k (h.next) i (wrap .i64 (acc+(m:Int))) 0) c (KK SS dz [1,0,0,1,1,1,1,0] [1,1,1,0,1,0,0] (RR dz [1,1,1,0,1,0,0] (qR (fN k) y) z (KK SS dz [1,1,1,0,1,0] [] (EE SS dz Q)))))) (LL SS dz [1,1,1,0,1,0,0,1,0,0,1,1,1,1,0,0] (jH k (h.next) i (wrap .i64 (acc+(m:Int))) 0) o (KK SS dz [1,0,0,1,1,1,1,0] [1,1,1,0,1,0,0] (RR dz [1,1,1,0,1,0,0] (qR (fN k) y) z (KK SS dz [1,1,1,0,1,0] [] (EE SS dz Q))))))) (Q (.bool true) h))(z:Nat){i:Nat}{acc:Int}{h:ae}(A:y z i acc h):LL SS dz [1,1,1,0,1,0,0] (fN k i acc) h (KK SS dz [1,1,1,0,1,0] [] (EE SS dz Q)):=
 nE (fN k) y (λz i acc B h A=>ai (step z i acc B h A)) z A
theorem xW(S:LV)(k D:Nat)(E:Nat->Nat->Int->ae->Prop)(G i:Nat)(C:Int)(B:Nat->Nat->ae->Prop)(Q:VH)(step:∀(A:Nat) (j:Nat) (I:Nat->Value) (h:ae),B A j h->fP 73 (pA D) 1 λJ=>lL 71 h J λ_ O _=>au (decide (((j:Int):Int)<(O:Int))) (fP 73 (pA D) 1 λL=>lL 71 h L λM N P=>iP 71 (.slice M N P) (iA j) λK=>lA 70 h (.pointer (some K)) λR=>xN (bq SS.P 70) h λ_ H=>xU (ah SS.P 70 (pA (h.next)) (.agg ⟨R⟩) H) H λ_ z=>fP 70 (pA (h.next)) 0 λy=>lI z y λx=>au (decide ((x:Int)<0)) (Q (.bool false) z) (fP 70 (pA (h.next)) 0 λw=>lI z w λv=>au (decide ((v:Int)>500)) (Q (.bool false) z) (fP 70 (pA (h.next)) 1 λu=>lI z u λt=>au (decide ((t:Int)<0)) (Q (.bool false) z) (fP 70 (pA (h.next)) 1 λs=>lI z s λr=>au (decide ((r:Int)>500)) (Q (.bool false) z) (fP 70 (pA (h.next)) 3 λq=>lI z q λp=>au (decide ((p:Int)<0)) (Q (.bool false) z) (fP 70 (pA (h.next)) 3 λo=>lI z o λn=>fP 29 (pA k) 3 λm=>lL 27 z m λ_ l _=>au (decide ((n:Int)>=(l:Int))) (Q (.bool false) z) (fP 29 (pA k) 0 λg=>lI z g λf=>fP 70 (pA (h.next)) 2 λe=>lS z e λd=>FW SS 16 [(.int .i64 f),(strOf d)] z λb c=>yB b λa=>au (!a) (Q (.bool false) c) (aB (eR (jH k D i C) B) A [(pA k),(.bool false),(.int .i64 C),(iA i),(pA D),(.int .i64 (wrap .i64 ((j:Int)+1)))] c)))))))) (aB (qR (fN k) E) G [(pA k),(.bool false),(.int .i64 C),(.int .i64 (wrap .i64 ((i:Int)+1)))] h))(A:Nat){j:Nat}{h:ae}(F:B A j h):LL SS dz [1,1,1,0,1,0,0,1,0,0,1,1,1,1,0,0] (jH k D i C j) h (KK SS dz [1,0,0,1,1,1,1,0] [1,1,1,0,1,0,0] (RR dz [1,1,1,0,1,0,0] (qR (fN k) E) G (KK SS dz [1,1,1,0,1,0] [] (EE SS dz Q)))):=
 cY (jH k D i C) B (λA j I h F=>ai (step A j I h F)) A F
variable{A:Type}{i:Nat}
section
theorem fk{l:List A}{s:A}(h:l[i]?=some s):l.drop i=s::l.drop (i+1):=by
 obtain⟨a,rfl⟩:=List.getElem?_eq_some_iff.1 h;exact List.drop_eq_getElem_cons a
theorem F8(s:Int)(h:ae):FW SS 89 [.int .i64 s] h (λv a=>v = .bool (pq s)/\a=h):=by
 refine Ra s h _ (aa (λg=>⟨?_,rfl⟩) (λg=>⟨?_,rfl⟩))
 ·have g:=dT g;unfold pq;rw[decide_eq_true (show 0<=s from g),Bool.true_and]
 ·have g:=dF g;unfold pq;rw[decide_eq_false (show ¬0<=s from g),Bool.false_and]
section
variable {h:ae} {k:Nat} {M:bt} {a:Option Addr} {n c:Nat}
def bQ(h:ae)(V:Bool):VH:=λv a=>v = .bool V/\Ok h a
def Xx(h:ae)(k:Nat)(M:bt)(a:Option Addr)(n c:Nat)(V:Bool)(d i:Nat)(b:Int)(g:ae):Prop:=i<=n/\d=n-i/\0<=b/\b<=30000/\MB g k M a n c/\Ok h g/\nG M.kind n b (M.af.drop i)=V
def mIn(h:ae)(k:Nat)(M:bt)(a:Option Addr)(n c:Nat)(s:dW)(b:Option Addr)(m d i:Nat)(f:Int)(V:Bool)(e j:Nat)(g:ae):Prop:=j<=m/\e=m-j/\MB g k M a n c/\Ok h g/\qa g (.slice b m d) s.arcs/\((s.arcs.drop j).all (hP M.kind n)&&nG M.kind n f (M.af.drop (i+1)))=V
theorem aJ{n:Nat}(h:i<n)(a:n<=1000000000):wrap .i64 ((i:Int)+1)=((i+1:Nat):Int):=by rw[aD (by omega) (by omega)];omega
theorem sg(a:Small M){s:dW}{i:Nat}(b:M.af[i]?=some s):s.arcs.length<=2000/\s.f.length<=1000000000/\∀q∈s.arcs,q.w.length<=1000000000:=by
 have h:=List.mem_of_getElem? b;exact⟨a.arcs s h,Nat.le_trans (a.fin s h) (by decide),λq c=>Nat.le_trans (a.w s h q c) (by decide)⟩
set_option linter.defProp false in
def JB(w:Wf h)(Z:nO h)(O:Small M)(V:Bool){s:dW}{b:Option Addr}{m d i T:Nat}{l:Int}(U:M.af[i]?=some s)(Y:i<n)(h0:0<=l)(W:l<=30000)(Q:List Value)(K:Nat)(x0:K=n-i):=
 xy Q k a n c T b m d (Xx h k M a n c V) K i l (mIn h k M a n c s b m d i l V) (bQ h V) (by
  intro P j;intros;rename_i g J;obtain⟨f1,f2,E,H,C,f⟩:=J;have hn:n<=300:=by rw[E.len];exact O.bE
  obtain⟨l1,l2,X⟩:=sg O U;have hm:=C.len;refine aa (λy=>?_) (λy=>?_)
  ·have y:=dT y;obtain⟨q,F⟩:∃q,s.arcs[j]?=some q:=⟨_,gE (by omega)⟩
   obtain⟨bb,o,S,e2,e3⟩:=C.at_ F;have R:=X q (List.mem_of_getElem? F);rw[fk F,all_cons]at f;obtain⟨u,p1,D,z⟩:=JT H.wf q;refine⟨_,S,_,e2,_,RS,u,p1,?_⟩;have e:=H.trans D;have B:=E.ok D;generalize u.app (g.push Oh)=L at*;refine⟨_,rE _ _,_,z.l0,(F8 _ _).mono ?_⟩;rintro _ I ⟨rfl,G⟩;obtain rfl:L=I:=G.symm;refine⟨_,rfl,aa (λt=>⟨?_,e⟩) (λt=>?_)⟩
   ·rw[not_eq_true']at t;rw[<-f];unfold hP;rw[t];simp
   rw[not_eq_false']at t;refine⟨_,vZ _ _,_,z.l1,(F8 _ _).mono ?_⟩;rintro _ I ⟨rfl,G⟩;obtain rfl:L=I:=G.symm;refine⟨_,rfl,aa (λp=>⟨?_,e⟩) (λp=>?_)⟩
   ·rw[not_eq_true']at p;rw[<-f];unfold hP;rw[p];simp
   rw[not_eq_false']at p;refine⟨_,rF _ _,_,z.l3,aa (λx=>⟨?_,e⟩) (λx=>?_)⟩
   ·have x:=dT x;rw[<-f];unfold hP;rw[decide_eq_false (show ¬0<=q.t by omega)];simp
   have x:=dF x;refine⟨_,rF _ _,_,z.l3,aa (λr=>⟨?_,e⟩) (λr=>?_)⟩
   ·have r:=dT r;rw[<-f];unfold hP;rw[decide_eq_false (show ¬q.t<n by omega)];simp
   have r:=dF r;refine⟨_,dZ _,_,B.l0,_,GO _ _,_,z.l2,(mc M.kind q.w R (Z.ok e) e.wf).mono ?_⟩;rintro _ g4 ⟨rfl,A⟩;refine⟨_,rfl,aa (λv=>⟨?_,e.trans A⟩) (λv=>?_)⟩
   ·rw[not_eq_true']at v;rw[<-f];unfold hP;rw[v];simp
   rw[not_eq_false']at v;have N:hP M.kind n q=true:=by
    unfold hP;rw[t,p,v,decide_eq_true (show 0<=q.t by omega),decide_eq_true (show q.t<n by omega)];rfl
   rw[N,Bool.true_and]at f;rw[aJ (i:=j) (n:=m) (by omega) (by omega)];exact bY (P-1) (by omega) ⟨by omega,by omega,B.ok A,e.trans A,(C.ok D).ok A,f⟩
  ·have y:=dF y;obtain rfl:m=j:=by omega
   rw[drop_eq_nil_of_le (by omega)]at f;rw[aJ Y (by omega)];exact jb (n-(i+1)) (by omega) ⟨by omega,rfl,h0,W,E,H,by simpa using f⟩)
theorem qH{h:ae}(N:nO h)(w:Wf h){M:bt}(q:Small M){a:Option Addr}{n c:Nat}(r:dS h (.slice a n c) M.af):FW SS 66 [.agg ⟨bR M a n c⟩] h (λv h'=>v = .bool (cn M)/\Ok h h'):=by
 obtain⟨f,k⟩:=fv w r;refine Pw (bR M a n c) h _ ⟨_,ja M a n c,?_⟩;have Y:=f.len;have hn:n<=300:=by rw[Y];exact q.bE
 generalize h.push (Bm M a n c)=g at*;refine⟨_,cI _,_,_,_,f.l3,_,dZ _,_,f.l0,aa (λJ=>⟨?_,k⟩) (λJ=>?_)⟩
 ·have J:=dT J;unfold cn;rw[decide_eq_false (show ¬1<=M.kind by omega)];simp
 have J:=dF J;refine⟨_,dZ _,_,f.l0,aa (λp=>⟨?_,k⟩) (λp=>aa (λF=>⟨?_,k⟩) (λF=>aa (λT=>⟨?_,k⟩) (λT=>?_)))⟩
 ·have p:=dT p;unfold cn;rw[decide_eq_false (show ¬M.kind<=3 by omega)];simp
 ·have F:=dT F;unfold cn;rw[decide_eq_false (show ¬1<=M.af.length by omega)];simp
 ·have T:=dT T;omega
 have p:=dF p;have F:=dF F;refine⟨_,ti _,_,f.l1,aa (λC=>⟨?_,k⟩) (λC=>?_)⟩
 ·have C:=dT C;unfold cn;rw[decide_eq_false (show ¬0<=M.start by omega)];simp
 have C:=dF C;refine⟨_,ti _,_,f.l1,aa (λD=>⟨?_,k⟩) (λD=>?_)⟩
 ·have D:=dT D;unfold cn;rw[decide_eq_false (show ¬M.start<M.af.length by omega)];simp
 have D:=dF D;refine⟨_,dZ _,_,f.l0,_,nv _,_,f.l2,(mc M.kind M.lead (Nat.le_trans q.lead (by decide)) (N.ok k) k.wf).mono ?_⟩;rintro _ g2 ⟨rfl,o2⟩;have R:=k.trans o2;have O:=f.ok o2;refine⟨_,rfl,aa (λI=>⟨?_,R⟩) (λI=>?_)⟩
 ·rw[not_eq_true']at I;unfold cn;rw[I];simp
 rw[not_eq_false']at I;have hV:cn M=nG M.kind n 0 M.af:=by
  unfold cn;rw[I,decide_eq_true (show 1<=M.kind by omega),decide_eq_true (show M.kind<=3 by omega),decide_eq_true (show 1<=M.af.length by omega),decide_eq_true (show M.af.length<=3000 by omega),decide_eq_true (show 0<=M.start by omega),decide_eq_true (show M.start<M.af.length by omega),Y];rfl
 obtain⟨V,S⟩:∃V,V=nG M.kind n 0 M.af:=⟨_,rfl⟩
 rw[hV,<-S];refine⟨_,cI _,_,_,_,O.l3,?_⟩;refine xx (bR M a n c) h.next a n c (Xx h h.next M a n c V) (bQ h V) (λW i l=>?_) n (i:=0) (acc:=0) ⟨by omega,rfl,by omega,by omega,O,R,S.symm⟩;intros;rename_i gg hi;obtain⟨f1,Z,f3,f4,Q,G,d⟩:=hi;refine aa (λH=>?_) (λH=>?_)
 ·have H:=dT H;obtain⟨s,t⟩:∃s,M.af[i]?=some s:=⟨_,gE (by omega)⟩
  obtain⟨b,o,x,y,z,e1,e2,e3,e4,X⟩:=Q.row.at_ t;obtain⟨l1,l2,l3⟩:=sg q t;have hy:=X.len;rw[fk t]at d;unfold nG at d;obtain⟨u,p1,U,K⟩:=NV G.wf s.f x y z;refine⟨_,e1,_,e2,_,Wo,u,p1,?_⟩;have e:=G.trans U;have L:=Q.ok U;have P:=X.ok U;generalize u.app (gg.push Rx)=g3 at*;have hw:wrap .i64 (l+(y:Int))=l+(s.arcs.length:Int):=by rw[hy,aD (by omega) (by omega)]
  refine⟨_,fY _ _,_,_,_,K.l1,?_⟩;dsimp only;rw[hw];refine aa (λA=>⟨?_,e⟩) (λA=>?_)
  ·have A:=dT A;rw[<-d,decide_eq_false (show ¬l+(s.arcs.length:Int)<=30000 by omega)];simp
  have A:=dF A;rw[decide_eq_true (show l+(s.arcs.length:Int)<=30000 by omega),Bool.true_and]at d;refine⟨_,oN _ _,_,K.l0,aa (λm=>?_) (λm=>?_)⟩
  ·refine⟨_,dZ _,_,L.l0,_,oN _ _,_,K.l0,(mc M.kind s.f l2 (N.ok e) e.wf).mono ?_⟩;rintro _ g4 ⟨rfl,B⟩;have m:(s.f==[])=false:=by simpa using m
   rw[m,Bool.false_or]at d;refine⟨_,rfl,aa (λE=>⟨?_,e.trans B⟩) (λE=>?_)⟩
   ·rw[not_eq_true']at E;rw[<-d,E];simp
   rw[not_eq_false']at E;rw[E,Bool.true_and]at d;refine⟨_,fY _ _,_,_,_,(K.ok B).l1,?_⟩;exact JB w N q _ t (by omega) (by omega) (by omega) [] W Z y (j:=0) ⟨by omega,rfl,L.ok B,e.trans B,P.ok B,by rw[drop_zero];exact d⟩
  ·have m:(s.f==[])=true:=by simpa using m
   rw[m,Bool.true_or,Bool.true_and]at d;refine⟨_,fY _ _,_,_,_,K.l1,?_⟩;exact JB w N q _ t (by omega) (by omega) (by omega) [] W Z y (j:=0) ⟨by omega,rfl,L,e,P,by rw[drop_zero];exact d⟩
 ·have H:=dF H;refine⟨?_,G⟩;rw[drop_eq_nil_of_le (by omega)]at d;rw[<-d];rfl
end
end
section
theorem ni(a:Int)(h:ae):FW SS 14 [.int .i64 a] h (λv b=>v = .bool (decide (1<=a)&&decide (a<=3))/\b=h):=by
 refine AH a h _ (aa (λg=>⟨?_,rfl⟩) (λg=>⟨?_,rfl⟩))
 ·have g:=dT g;rw[decide_eq_true (show 1<=a from g),Bool.true_and]
 ·have g:=dF g;rw[decide_eq_false (show ¬1<=a from g),Bool.false_and]
section
variable {h:ae} {k:Nat} {M:bt} {a:Option Addr} {n c:Nat}
set_option linter.defProp false in
def Kc(w:Wf h)(P:Small M)(V:Bool){s:dW}{b:Option Addr}{m d i Q:Nat}{p:Int}(U:M.af[i]?=some s)(Y:i<n)(Z:0<=p)(W:p<=30000)(R:List Value)(N:Nat)(x0:N=n-i):=
 xW R k Q (Xx h k M a n c V) N i p (λx j g=>mIn h k M a n c s b m d i p V x j g/\SB g Q s.f b m d) (bQ h V) (by
  intro x j;intros;rename_i g L;obtain⟨⟨f1,f2,H,K,G,f⟩,J⟩:=L;have hn:n<=300:=by rw[H.len];exact P.bE
  obtain⟨l1,l2,X⟩:=sg P U;have hm:=G.len;refine⟨_,fY _ _,_,_,_,J.l1,aa (λD=>?_) (λD=>?_)⟩
  ·have D:=dT D;obtain⟨q,I⟩:∃q,s.arcs[j]?=some q:=⟨_,gE (by omega)⟩
   obtain⟨bb,o,T,e2,e3⟩:=G.at_ I;have S:=X q (List.mem_of_getElem? I);rw[fk I,all_cons]at f;obtain⟨u,p1,F,l⟩:=JT K.wf q;refine⟨_,fY _ _,_,_,_,J.l1,_,T,_,e2,_,RS,u,p1,?_⟩;have e:=K.trans F;have E:=H.ok F;generalize u.app (g.push Oh)=g2 at*;refine⟨_,rE _ _,_,l.l0,aa (λt=>⟨?_,e⟩) (λt=>⟨_,rE _ _,_,l.l0,aa (λr=>⟨?_,e⟩) (λr=>⟨_,vZ _ _,_,l.l1,aa (λB=>⟨?_,e⟩) (λB=>⟨_,vZ _ _,_,l.l1,aa (λv=>⟨?_,e⟩) (λv=>⟨_,rF _ _,_,l.l3,aa (λz=>⟨?_,e⟩) (λz=>⟨_,rF _ _,_,l.l3,_,cI _,_,_,_,E.l3,aa (λA=>⟨?_,e⟩) (λA=>?_)⟩)⟩)⟩)⟩)⟩)⟩
   ·have t:=dT t;rw[<-f];unfold hP pq;rw[decide_eq_false (show ¬0<=q.i by omega)];simp
   ·have r:=dT r;rw[<-f];unfold hP pq;rw[decide_eq_false (show ¬q.i<=500 by omega)];simp
   ·have B:=dT B;rw[<-f];unfold hP pq;rw[decide_eq_false (show ¬0<=q.o by omega)];simp
   ·have v:=dT v;rw[<-f];unfold hP pq;rw[decide_eq_false (show ¬q.o<=500 by omega)];simp
   ·have z:=dT z;rw[<-f];unfold hP;rw[decide_eq_false (show ¬0<=q.t by omega)];simp
   ·have A:=dT A;rw[<-f];unfold hP;rw[decide_eq_false (show ¬q.t<n by omega)];simp
   have t:=dF t;have r:=dF r;have B:=dF B;have v:=dF v;have z:=dF z;have A:=dF A;refine⟨_,dZ _,_,E.l0,_,GO _ _,_,l.l2,(qp M.kind q.w S e.wf).mono ?_⟩;rintro _ g4 ⟨rfl,y⟩;refine⟨_,rfl,aa (λC=>⟨?_,e.trans y⟩) (λC=>?_)⟩
   ·rw[not_eq_true']at C;rw[<-f];unfold hP;rw[C];simp
   rw[not_eq_false']at C;have O:hP M.kind n q=true:=by
    unfold hP pq;rw[C,decide_eq_true (show 0<=q.i by omega),decide_eq_true (show q.i<=500 by omega),decide_eq_true (show 0<=q.o by omega),decide_eq_true (show q.o<=500 by omega),decide_eq_true (show 0<=q.t by omega),decide_eq_true (show q.t<n by omega)];rfl
   rw[O,Bool.true_and]at f;rw[aJ (i:=j) (n:=m) (by omega) (by omega)];exact bY (x-1) (by omega) ⟨⟨by omega,by omega,E.ok y,e.trans y,(G.ok F).ok y,f⟩,(J.ok F).ok y⟩
  ·have D:=dF D;obtain rfl:m=j:=by omega
   rw[drop_eq_nil_of_le (by omega)]at f;rw[aJ Y (by omega)];exact jb (n-(i+1)) (by omega) ⟨by omega,rfl,Z,W,H,K,by simpa using f⟩)
end
theorem uC{h:ae}(w:Wf h){M:bt}(t:Small M){a:Option Addr}{n c:Nat}(r:dS h (.slice a n c) M.af):FW SS 26 [.agg ⟨bR M a n c⟩] h (λv h'=>v = .bool (cn M)/\Ok h h'):=by
 obtain⟨e,p⟩:=fv w r;refine Qg (bR M a n c) h _ ⟨_,ja M a n c,?_⟩;have W:=e.len;have hn:n<=300:=by rw[W];exact t.bE
 generalize h.push (Bm M a n c)=g at*;refine⟨_,dZ _,_,e.l0,(ni _ _).mono ?_⟩;rintro _ g1 ⟨rfl,eg⟩;obtain rfl:g=g1:=eg.symm;refine⟨_,rfl,aa (λm=>⟨?_,p⟩) (λm=>?_)⟩
 ·rw[not_eq_true']at m;unfold cn;rw[m];simp
 rw[not_eq_false',and_eq_true]at m;have m:1<=M.kind/\M.kind<=3:=⟨dT m.1,dT m.2⟩
 refine⟨_,cI _,_,_,_,e.l3,aa (λG=>⟨?_,p⟩) (λG=>⟨_,cI _,_,_,_,e.l3,aa (λQ=>⟨?_,p⟩) (λQ=>?_)⟩)⟩
 ·have G:=dT G;unfold cn;rw[decide_eq_false (show ¬1<=M.af.length by omega)];simp
 ·have Q:=dT Q;omega
 have G:=dF G;refine⟨_,ti _,_,e.l1,aa (λD=>⟨?_,p⟩) (λD=>?_)⟩
 ·have D:=dT D;unfold cn;rw[decide_eq_false (show ¬0<=M.start by omega)];simp
 have D:=dF D;refine⟨_,ti _,_,e.l1,_,cI _,_,_,_,e.l3,aa (λE=>⟨?_,p⟩) (λE=>?_)⟩
 ·have E:=dT E;unfold cn;rw[decide_eq_false (show ¬M.start<M.af.length by omega)];simp
 have E:=dF E;refine⟨_,dZ _,_,e.l0,_,nv _,_,e.l2,(qp M.kind M.lead (Nat.le_trans t.lead (by decide)) p.wf).mono ?_⟩;rintro _ g2 ⟨rfl,Y⟩;have O:=p.trans Y;have U:=e.ok Y;refine⟨_,rfl,aa (λJ=>⟨?_,O⟩) (λJ=>?_)⟩
 ·rw[not_eq_true']at J;unfold cn;rw[J];simp
 rw[not_eq_false']at J;have Z:cn M=nG M.kind n 0 M.af:=by
  unfold cn;rw[J,decide_eq_true (show 1<=M.kind by omega),decide_eq_true (show M.kind<=3 by omega),decide_eq_true (show 1<=M.af.length by omega),decide_eq_true (show M.af.length<=3000 by omega),decide_eq_true (show 0<=M.start by omega),decide_eq_true (show M.start<M.af.length by omega),W];rfl
 obtain⟨V,P⟩:∃V,V=nG M.kind n 0 M.af:=⟨_,rfl⟩
 rw[Z,<-P];refine xV (bR M a n c) h.next (Xx h h.next M a n c V) (bQ h V) (λS i k=>?_) n (i:=0) (acc:=0) ⟨by omega,rfl,by omega,by omega,U,O,P.symm⟩;intros;rename_i gg hi;obtain⟨f1,X,f3,f4,q,H,d⟩:=hi;refine⟨_,cI _,_,_,_,q.l3,aa (λI=>?_) (λI=>?_)⟩
 ·have I:=dT I;obtain⟨s,A⟩:∃s,M.af[i]?=some s:=⟨_,gE (by omega)⟩
  obtain⟨b,o,x,y,z,e1,e2,e3,e4,T⟩:=q.row.at_ A;obtain⟨l1,l2,l3⟩:=sg t A;have hy:=T.len;rw[fk A]at d;unfold nG at d;obtain⟨u,p1,R,K⟩:=NV H.wf s.f x y z;refine⟨_,cI _,_,_,_,q.l3,_,e1,_,e2,_,Wo,u,p1,?_⟩;have f:=H.trans R;have L:=q.ok R;have N:=T.ok R;generalize u.app (gg.push Rx)=g3 at*;have hw:wrap .i64 (k+(y:Int))=k+(s.arcs.length:Int):=by rw[hy,aD (by omega) (by omega)]
  refine⟨_,fY _ _,_,_,_,K.l1,?_⟩;dsimp only;rw[hw];refine aa (λB=>⟨?_,f⟩) (λB=>?_)
  ·have B:=dT B;rw[<-d,decide_eq_false (show ¬k+(s.arcs.length:Int)<=30000 by omega)];simp
  have B:=dF B;rw[decide_eq_true (show k+(s.arcs.length:Int)<=30000 by omega),Bool.true_and]at d;refine⟨_,oN _ _,_,K.l0,aa (λl=>?_) (λl=>?_)⟩
  ·refine⟨_,dZ _,_,L.l0,_,oN _ _,_,K.l0,(qp M.kind s.f l2 f.wf).mono ?_⟩;rintro _ g4 ⟨rfl,C⟩;have l:(s.f==[])=false:=by simpa using l
   rw[l,Bool.false_or]at d;refine⟨_,rfl,aa (λF=>⟨?_,f.trans C⟩) (λF=>?_)⟩
   ·rw[not_eq_true']at F;rw[<-d,F];simp
   rw[not_eq_false']at F;rw[F,Bool.true_and]at d;exact Kc w t _ A (by omega) (by omega) (by omega) [] S X y (j:=0) ⟨⟨by omega,rfl,L.ok C,f.trans C,N.ok C,by rw[drop_zero];exact d⟩,K.ok C⟩
  ·have l:(s.f==[])=true:=by simpa using l
   rw[l,Bool.true_or,Bool.true_and]at d;exact Kc w t _ A (by omega) (by omega) (by omega) [] S X y (j:=0) ⟨⟨by omega,rfl,L,f,N,by rw[drop_zero];exact d⟩,K⟩
 ·have I:=dF I;refine⟨?_,H⟩;rw[drop_eq_nil_of_le (by omega)]at d;rw[<-d];rfl
end
noncomputable def jE:FD:=cA Tryz.f20 [([1,1,0,1,0,0],[1,2,3]),([1,1,0,1,0,0,1,0,0,1,0,0],[1,2,3,4])]
abbrev jY(k:Nat)(i:Nat):LV:=[(pA k),(.bool false),(iA i)]
abbrev nY(k i:Nat)(j:Nat):LV:=[(pA k),(.bool false),(iA i),(iA j)]
theorem XU(f:LV)(h:ae)(Q:VH)(g:xN (fi SS.P 29 (.agg ⟨f⟩)) h λ_ e=>lA 29 e (pA (h.next)) λd=>FW SS 26 [(.agg ⟨d⟩)] e λb c=>yB b λa=>au (!a) (Q (.bool false) c) (LL SS jE [1,1,0,1,0,0] (jY (h.next) 0) c (KK SS jE [1,1,0,1,0] [] (EE SS jE Q)))):FW SS 20 [(.agg ⟨f⟩)] h Q:=cN jE Tryz.func20 (ai g)
theorem A7(g:LV)(k:Nat)(d:Nat->Nat->ae->Prop)(Q:VH)(step:∀(c:Nat) (i:Nat) (f:Nat->Value) (h:ae),d c i h->fP 29 (pA k) 3 λb=>lL 27 h b λ_ a _=>au (decide (((i:Int):Int)<(a:Int))) (LL SS jE [1,1,0,1,0,0,1,0,0,1,0,0] (nY k i 0) h (KK SS jE [1,0,0,1,0] [1,1,0,1,0,0] (RR jE [1,1,0,1,0,0] (eR (jY k) d) c (KK SS jE [1,1,0,1,0] [] (EE SS jE Q))))) (Q (.bool true) h))(c:Nat){i:Nat}{h:ae}(e:d c i h):LL SS jE [1,1,0,1,0,0] (jY k i) h (KK SS jE [1,1,0,1,0] [] (EE SS jE Q)):=
 cY (jY k) d (λc i f h e=>ai (step c i f h e)) c e
theorem A8(P:LV)(k:Nat)(C:Nat->Nat->ae->Prop)(E i:Nat)(B:Nat->Nat->ae->Prop)(Q:VH)(step:∀(A:Nat) (j:Nat) (F:Nat->Value) (h:ae),B A j h->fP 29 (pA k) 3 λG=>lL 27 h G λN J M=>iP 27 (.slice N J M) (iA i) λL=>fP 73 (.pointer (some L)) 1 λK=>lL 71 h K λ_ H _=>au (decide (((j:Int):Int)<(H:Int))) (fP 29 (pA k) 3 λO=>lL 27 (room h 21) O λy z I=>iP 27 (.slice y z I) (iA i) λx=>fP 73 (.pointer (some x)) 1 λw=>lL 71 (room h 21) w λt u v=>iP 71 (.slice t u v) (iA j) λs=>fP 70 (.pointer (some s)) 0 λr=>lI (room h 21) r λq=>fP 29 (pA k) 3 λp=>lL 27 (room h 21) p λm n o=>iP 27 (.slice m n o) (iA i) λl=>fP 73 (.pointer (some l)) 1 λg=>lL 71 (room h 21) g λd e f=>iP 71 (.slice d e f) (iA j) λc=>fP 70 (.pointer (some c)) 1 λb=>lI (room h 21) b λa=>au (((q:Int) !=a)) (Q (.bool false) (room h 21)) (aB (eR (nY k i) B) A [(pA k),(.bool false),(iA i),(.int .i64 (wrap .i64 ((j:Int)+1)))] (room h 21))) (aB (eR (jY k) C) E [(pA k),(.bool false),(.int .i64 (wrap .i64 ((i:Int)+1)))] h))(A:Nat){j:Nat}{h:ae}(D:B A j h):LL SS jE [1,1,0,1,0,0,1,0,0,1,0,0] (nY k i j) h (KK SS jE [1,0,0,1,0] [1,1,0,1,0,0] (RR jE [1,1,0,1,0,0] (eR (jY k) C) E (KK SS jE [1,1,0,1,0] [] (EE SS jE Q)))):=
 cY (nY k i) B (λA j F h D=>ai (step A j F h D)) A D
noncomputable def fb:FD:=cA Tryz.f55 [([1,1,0,1,0,0],[1,2,3]),([1,1,0,1,0,0,1,0,0,1,0,0],[1,2,3,4])]
abbrev gY(k:Nat)(i:Nat):LV:=[(pA k),(.bool false),(iA i)]
abbrev jG(k i:Nat)(j:Nat):LV:=[(pA k),(.bool false),(iA i),(iA j)]
theorem Qe(f:LV)(h:ae)(Q:VH)(g:xN (fi SS.P 29 (.agg ⟨f⟩)) h λ_ e=>lA 29 e (pA (h.next)) λd=>FW SS 26 [(.agg ⟨d⟩)] e λb c=>yB b λa=>au (!a) (Q (.bool false) c) (LL SS fb [1,1,0,1,0,0] (gY (h.next) 0) c (KK SS fb [1,1,0,1,0] [] (EE SS fb Q)))):FW SS 55 [(.agg ⟨f⟩)] h Q:=cN fb Tryz.func55 (ai g)
theorem xQ(g:LV)(k:Nat)(d:Nat->Nat->ae->Prop)(Q:VH)(step:∀(c:Nat) (i:Nat) (f:Nat->Value) (h:ae),d c i h->fP 29 (pA k) 3 λb=>lL 27 h b λ_ a _=>au (decide (((i:Int):Int)<(a:Int))) (LL SS fb [1,1,0,1,0,0,1,0,0,1,0,0] (jG k i 0) h (KK SS fb [1,0,0,1,0] [1,1,0,1,0,0] (RR fb [1,1,0,1,0,0] (eR (gY k) d) c (KK SS fb [1,1,0,1,0] [] (EE SS fb Q))))) (Q (.bool true) h))(c:Nat){i:Nat}{h:ae}(e:d c i h):LL SS fb [1,1,0,1,0,0] (gY k i) h (KK SS fb [1,1,0,1,0] [] (EE SS fb Q)):=
 cY (gY k) d (λc i f h e=>ai (step c i f h e)) c e
theorem xT(P:LV)(k:Nat)(C:Nat->Nat->ae->Prop)(E i:Nat)(B:Nat->Nat->ae->Prop)(Q:VH)(step:∀(A:Nat) (j:Nat) (F:Nat->Value) (h:ae),B A j h->fP 29 (pA k) 3 λG=>lL 27 h G λN J M=>iP 27 (.slice N J M) (iA i) λL=>fP 73 (.pointer (some L)) 1 λK=>lL 71 h K λ_ H _=>au (decide (((j:Int):Int)<(H:Int))) (fP 29 (pA k) 3 λO=>lL 27 h O λy z I=>iP 27 (.slice y z I) (iA i) λx=>fP 73 (.pointer (some x)) 1 λw=>lL 71 h w λt u v=>iP 71 (.slice t u v) (iA j) λs=>fP 70 (.pointer (some s)) 0 λr=>lI h r λq=>au (((q:Int)==0)) (fP 29 (pA k) 3 λp=>lL 27 h p λm n o=>iP 27 (.slice m n o) (iA i) λl=>fP 73 (.pointer (some l)) 1 λg=>lL 71 h g λd e f=>iP 71 (.slice d e f) (iA j) λc=>fP 70 (.pointer (some c)) 1 λb=>lI h b λa=>au (((a:Int)==0)) (Q (.bool false) h) (aB (eR (jG k i) B) A [(pA k),(.bool false),(iA i),(.int .i64 (wrap .i64 ((j:Int)+1)))] h)) (aB (eR (jG k i) B) A [(pA k),(.bool false),(iA i),(.int .i64 (wrap .i64 ((j:Int)+1)))] h)) (aB (eR (gY k) C) E [(pA k),(.bool false),(.int .i64 (wrap .i64 ((i:Int)+1)))] h))(A:Nat){j:Nat}{h:ae}(D:B A j h):LL SS fb [1,1,0,1,0,0,1,0,0,1,0,0] (jG k i j) h (KK SS fb [1,0,0,1,0] [1,1,0,1,0,0] (RR fb [1,1,0,1,0,0] (eR (gY k) C) E (KK SS fb [1,1,0,1,0] [] (EE SS fb Q)))):=
 cY (jG k i) B (λA j F h D=>ai (step A j F h D)) A D
def IC(t:hO->Bool)(l:List dW):Bool:=l.all λs=>s.arcs.all t
def GB(q:hO):Bool:=q.i==q.o
def pe(q:hO):Bool:=q.i !=0||q.o !=0
def Iy(M:bt):Bool:=cn M&&IC GB M.af
def wq(M:bt):Bool:=cn M&&IC pe M.af
section
section
variable {h:ae} {k:Nat} {M:bt} {a:Option Addr} {n c:Nat}
def Yu(t:hO->Bool)(h:ae)(k:Nat)(M:bt)(a:Option Addr)(n c:Nat)(V:Bool)(b i:Nat)(g:ae):Prop:=i<=n/\b=n-i/\MB g k M a n c/\Ok h g/\IC t (M.af.drop i)=V
def tIn(t:hO->Bool)(h:ae)(k:Nat)(M:bt)(a:Option Addr)(n c:Nat)(s:dW)(i:Nat)(V:Bool)(b j:Nat)(g:ae):Prop:=j<=s.arcs.length/\b=s.arcs.length-j/\MB g k M a n c/\Ok h g/\((s.arcs.drop j).all t&&IC t (M.af.drop (i+1)))=V
set_option linter.defProp false in
def Uj(w:Wf h)(C:Small M)(V:Bool){s:dW}{i:Nat}(v:M.af[i]?=some s)(L:i<n)(G:List Value)(B:Nat)(O:B=n-i):=
 A8 G k (Yu GB h k M a n c V) B i (tIn GB h k M a n c s i V) (bQ h V) (by
  intro D j;intros;rename_i g A;obtain⟨f1,X,l,t,f⟩:=A;have Q:n<=300:=by rw[l.len];exact C.bE
  obtain⟨W,l2,U⟩:=sg C v;obtain⟨b,o,J,y,z,p,N,K,r,u⟩:=l.row.at_ v;have R:=u.len;refine⟨_,cI _,_,_,_,l.l3,_,p,_,fY _ _,_,_,_,r,aa (λm=>?_) (λm=>?_)⟩
  ·have m:=dT m;obtain⟨q,E⟩:∃q,s.arcs[j]?=some q:=⟨_,gE (by omega)⟩
   have x:=(Ok.refl t.wf).room 21;have e:=l.ok x;obtain⟨b,o,J,y,z,p,N,K,r,u⟩:=e.row.at_ v;obtain⟨Y,Z,F,P,I,H,T,S⟩:=u.at_ E;rw[fk E,all_cons]at f;refine⟨_,cI _,_,_,_,e.l3,_,p,_,fY _ _,_,_,_,r,_,F,_,rE _ _,_,I,_,cI _,_,_,_,e.l3,_,p,_,fY _ _,_,_,_,r,_,F,_,vZ _ _,_,H,aa (λd=>⟨?_,t.trans x⟩) (λd=>?_)⟩
   ·have d:¬q.i=q.o:=by simpa using d
    rw[<-f,show GB q=false by unfold GB;simpa using d];rfl
   ·have d:q.i=q.o:=by simpa using d
    rw[show GB q=true by unfold GB;simpa using d,Bool.true_and]at f;rw[aJ (i:=j) (n:=s.arcs.length) (by omega) (by omega)];exact bY (D-1) (by omega) ⟨by omega,by omega,e,t.trans x,f⟩
  ·have m:=dF m;rw[drop_eq_nil_of_le (by omega)]at f;rw[aJ L (by omega)];exact bY (n-(i+1)) (by omega) ⟨by omega,rfl,l,t,by simpa using f⟩)
theorem XV{h:ae}(w:Wf h){M:bt}(m:Small M){a:Option Addr}{n c:Nat}(r:dS h (.slice a n c) M.af):FW SS 20 [.agg ⟨bR M a n c⟩] h (λv z=>v = .bool (Iy M)/\Ok h z):=by
 obtain⟨e,x⟩:=fv w r;refine XU (bR M a n c) h _ ⟨_,ja M a n c,_,e.all,(uC x.wf m e.row).mono ?_⟩;generalize h.push (Bm M a n c)=g at*;rintro _ D ⟨rfl,u⟩;have l:=x.trans u;have p:=e.ok u;have C:n<=300:=by rw[e.len];exact m.bE
 refine⟨_,rfl,aa (λq=>⟨?_,l⟩) (λq=>?_)⟩
 ·rw[not_eq_true']at q;unfold Iy;rw[q];rfl
 rw[not_eq_false']at q;obtain⟨V,o⟩:∃V,V=IC GB M.af:=⟨_,rfl⟩
 have:Iy M=V:=by unfold Iy;rw[q,o];rfl
 rw[this];refine A7 (bR M a n c) h.next (Yu GB h h.next M a n c V) (bQ h V) (λy i=>?_) n (i:=0) ⟨by omega,rfl,p,l,o.symm⟩;intros;rename_i F B;obtain⟨G,A,b,k,f⟩:=B;have E:=b.len;refine⟨_,cI _,_,_,_,b.l3,aa (λd=>?_) (λd=>?_)⟩
 ·have d:=dT d;obtain⟨s,t⟩:∃s,M.af[i]?=some s:=⟨_,gE (by omega)⟩
  rw[fk t]at f;exact Uj w m V t (by omega) [] y A s.arcs.length (j:=0) ⟨by omega,by omega,b,k,by rw[drop_zero];exact f⟩
 ·have d:=dF d;rw[drop_eq_nil_of_le (by omega)]at f;exact⟨by rw[<-f];rfl,k⟩
set_option linter.defProp false in
def UF(w:Wf h)(B:Small M)(V:Bool){s:dW}{i:Nat}(C:M.af[i]?=some s)(J:i<n)(G:List Value)(x:Nat)(K:x=n-i):=
 xT G k (Yu pe h k M a n c V) x i (tIn pe h k M a n c s i V) (bQ h V) (by
  intro r j;intros;rename_i g v;obtain⟨f1,W,e,p,d⟩:=v;have N:n<=300:=by rw[e.len];exact B.bE
  obtain⟨U,l2,T⟩:=sg B C;obtain⟨b,o,P,y,z,t,Y,R,u,A⟩:=e.row.at_ C;have O:=A.len;refine⟨_,cI _,_,_,_,e.l3,_,t,_,fY _ _,_,_,_,u,aa (λm=>?_) (λm=>?_)⟩
  ·have m:=dT m;obtain⟨q,D⟩:∃q,s.arcs[j]?=some q:=⟨_,gE (by omega)⟩
   obtain⟨X,Z,F,L,I,H,S,Q⟩:=A.at_ D;rw[fk D,all_cons]at d;have E:=aJ (i:=j) (n:=s.arcs.length) (by omega) (by omega);refine⟨_,cI _,_,_,_,e.l3,_,t,_,fY _ _,_,_,_,u,_,F,_,rE _ _,_,I,aa (λf=>⟨_,cI _,_,_,_,e.l3,_,t,_,fY _ _,_,_,_,u,_,F,_,vZ _ _,_,H,aa (λl=>⟨?_,p⟩) (λl=>?_)⟩) (λf=>?_)⟩
   ·have f:q.i=0:=by simpa using f
    have l:q.o=0:=by simpa using l
    rw[<-d,show pe q=false by unfold pe;rw[f,l];rfl];rfl
   ·have l:¬q.o=0:=by simpa using l
    rw[show pe q=true by unfold pe;simp[l],Bool.true_and]at d;rw[E];exact bY (r-1) (by omega) ⟨by omega,by omega,e,p,d⟩
   ·have f:¬q.i=0:=by simpa using f
    rw[show pe q=true by unfold pe;simp[f],Bool.true_and]at d;rw[E];exact bY (r-1) (by omega) ⟨by omega,by omega,e,p,d⟩
  ·have m:=dF m;rw[drop_eq_nil_of_le (by omega)]at d;rw[aJ J (by omega)];exact bY (n-(i+1)) (by omega) ⟨by omega,rfl,e,p,by simpa using d⟩)
theorem Qf{h:ae}(w:Wf h){M:bt}(m:Small M){a:Option Addr}{n c:Nat}(r:dS h (.slice a n c) M.af):FW SS 55 [.agg ⟨bR M a n c⟩] h (λv z=>v = .bool (wq M)/\Ok h z):=by
 obtain⟨e,x⟩:=fv w r;refine Qe (bR M a n c) h _ ⟨_,ja M a n c,_,e.all,(uC x.wf m e.row).mono ?_⟩;generalize h.push (Bm M a n c)=g at*;rintro _ D ⟨rfl,u⟩;have l:=x.trans u;have p:=e.ok u;have C:n<=300:=by rw[e.len];exact m.bE
 refine⟨_,rfl,aa (λq=>⟨?_,l⟩) (λq=>?_)⟩
 ·rw[not_eq_true']at q;unfold wq;rw[q];rfl
 rw[not_eq_false']at q;obtain⟨V,o⟩:∃V,V=IC pe M.af:=⟨_,rfl⟩
 have:wq M=V:=by unfold wq;rw[q,o];rfl
 rw[this];refine xQ (bR M a n c) h.next (Yu pe h h.next M a n c V) (bQ h V) (λy i=>?_) n (i:=0) ⟨by omega,rfl,p,l,o.symm⟩;intros;rename_i F B;obtain⟨G,A,b,k,f⟩:=B;have E:=b.len;refine⟨_,cI _,_,_,_,b.l3,aa (λd=>?_) (λd=>?_)⟩
 ·have d:=dT d;obtain⟨s,t⟩:∃s,M.af[i]?=some s:=⟨_,gE (by omega)⟩
  rw[fk t]at f;exact UF w m V t (by omega) [] y A s.arcs.length (j:=0) ⟨by omega,by omega,b,k,by rw[drop_zero];exact f⟩
 ·have d:=dF d;rw[drop_eq_nil_of_le (by omega)]at f;exact⟨by rw[<-f];rfl,k⟩
end
end
theorem Dt(a:Option Addr)(n c:Nat):dM (.slice a n c)=true:=by cases a<;>rfl
variable{j:Nat}{h:ae}
theorem GR{l:List A}{x y:A}(h:(l.set i x)[j]?=some y):(j=i/\y=x)\/(j≠i/\l[j]?=some y):=by
 rw[getElem?_set]at h;split at h
 ·next e=>
  split at h
  ·exact .inl ⟨e.symm,(oI h).symm⟩
  ·cases h
 ·next e=>exact .inr ⟨λc=>e c.symm,h⟩
theorem NR(w:Wf h){n j:Nat}(a:j<n)(B:dP):Ok h (cd (Go.Ab.room h n) h.next [(j,B)])/\(cd (Go.Ab.room h n) h.next [(j,B)]).get (h.next+j)=some B:=by
 refine⟨((Ok.refl w).room n).set B (Nat.le_add_right _ _) (Nat.add_lt_add_left a _) w,?_⟩;show((Go.Ab.room h n).set (h.next+j) B).get (h.next+j)=_;rw[ae.aw,if_pos rfl]
variable{n:Nat}{T:TypeId}{m:Nat}{b:Bool}
section
noncomputable def aaE:TypeInfo:=(eP SS.P 73).getD default
theorem X6:eP SS.P 73=some aaE:=by kernel_rfl
theorem Qw:aaE.size=2:=by kernel_rfl
theorem Mt:aaE.bytes=40:=by kernel_rfl
noncomputable def aaD:TypeInfo:=(eP SS.P 70).getD default
theorem X5:eP SS.P 70=some aaD:=by kernel_rfl
theorem Qv:aaD.size=4:=by kernel_rfl
theorem Ms:aaD.bytes=40:=by kernel_rfl
theorem ad5:dV SS.P 27=true:=by kernel_rfl
theorem ad6:dV SS.P 71=true:=by kernel_rfl
theorem adj(f:List UInt8)(a:Option Addr)(n c:Nat):aF SS.P 27 1 [(0,.agg ⟨[strOf f,.slice a n c]⟩)]=some (.cells [strOf f,.slice a n c] 73 2 true,mh 1 1):=by cases a<;>kernel_rfl
theorem adk(q:hO):aF SS.P 71 1 [(0,.agg ⟨gC q⟩)]=some (.cells (gC q) 70 4 true,mh 1 1):=by kernel_rfl
theorem ID(q:hO):(gC q).length=4:=rfl
structure kj(h0 h:ae)(v:Value)(ps:List (dW×Value)):Prop where
 row:fh h0 h 73 2 v (ps.map AN)
 arcs:∀(i:Nat)(p:dW×Value),ps[i]?=some p->fh h0 h 70 4 p.2 (p.1.arcs.map gC)
 ne:∀(i:Nat)(p:dW×Value),ps[i]?=some p->∀k,eX p.2=some k->eX v≠some k
 Zd:∀(i j:Nat)(p q:dW×Value),i≠j->ps[i]?=some p->ps[j]?=some q->∀k,eX p.2=some k->eX q.2≠some k
section
variable {hb g g':ae} {v:Value} {ps:List (dW×Value)}
theorem kj.ok(m:kj hb g v ps)(o:Ok g g'):kj hb g' v ps:=⟨m.row.ok o,λi p a=>(m.arcs i p a).ok o,m.ne,m.Zd⟩
theorem kj.nd(m:kj hb g v ps):v≠Fb:=by
 obtain⟨_,⟨a,_⟩|⟨k,b,cs,c,a,_⟩⟩:=m.row
 ·rw[a];intro e;unfold Fb at e;injection e with e _ _;cases e
 ·rw[a];intro e;unfold Fb at e;injection e with e _ _;injection e with e;injection e with _ _ e;cases e
theorem kj.st(m:kj hb g v ps):dS g v (ps.map (·.1)):=
 ⟨ps,rfl,m.row.rd,λp b=>by
  obtain⟨i,a,e⟩:=List.mem_iff_getElem.1 b;exact(m.arcs i p (by rw[gE a,e])).rd,m.nd⟩
theorem kj.nil(hb g:ae):kj hb g (.slice none 0 0) []:=⟨fh.nil _ _ _ _,λi p a=>by simp at a,λi p a=>by simp at a,λi j p q _ a=>by simp at a⟩
theorem BL{cs:List Value}{z:Nat}(a:g.get n=some (.cells cs T z b))(c:cs.length=m):fQ g m (.slice (some ⟨n,0,none⟩) 1 1)=some (([cs]:List (List Value)).flatten,1):=by
 show(match g.get n with|some (.cells cs ..)=>if((cs.drop 0).take (1*m)).length=1*m then some ((cs.drop 0).take (1*m),1)else none|_=>none)=_;rw[a];dsimp only;rw[drop_zero,Nat.one_mul,take_of_length_le (by omega),if_pos c];simp
theorem kj.snoc(w:Wf hb)(C:Ok hb g)(m:kj hb g v ps){f:List UInt8}{a:Option Addr}{y z:Nat}{arcs:List hO}(F:fh hb g 70 4 (.slice a y z) (arcs.map gC))(t:∀k,eX (.slice a y z)=some k->eX v≠some k/\∀(i:Nat) (p:dW×Value),ps[i]?=some p->eX p.2≠some k){H:Nat}(E:g.get H=some (.cells [strOf f,.slice a y z] 73 2 true))(Q:ps.length<=100000):
  ∃(b:Option Addr)(n c:Nat)(u:dL),bF SS.P 27 27 v (.slice (some ⟨H,0,none⟩) 1 1) g=some (.slice b n c,u)/\kj hb (u.app g) (.slice b n c) (ps++[(⟨f,arcs⟩,.slice a y z)])/\Ok hb (u.app g)/\
   (∀j B,g.get j=some B->eX v≠some j->(u.app g).get j=some B)/\(∀j,eX (.slice b n c)=some j->g.next<=j\/eX v=some j)/\g.next<=(u.app g).next:=by
 have s:(ps.map AN).length=ps.length:=lM ..;obtain⟨b,n,c,u,K,R,J,M,D,A,L⟩:=fh.add zN X6 Qw ad5 w C m.row (ns:=[[strOf f,.slice a y z]]) (BL E rfl) (λr O=>by rw[mem_singleton.1 O];rfl) (by cases a<;>rfl) (by rw[Mt,s,List.length_singleton];omega) (by rw[s,List.length_singleton];omega) (.inl (Nat.le_refl _));refine⟨b,n,c,u,K,⟨by rw[List.map_append];exact J,λi p d=>?_,λi p d k l=>?_,λi j p q G d o k l=>?_⟩,M,D,A,L⟩
 ·rw[List.getElem?_append]at d;split at d
  ·exact(m.arcs i p d).kI λk B l x=>D k B x (m.ne i p d k l)
  ·obtain rfl:=(mem_singleton.1 (List.mem_of_getElem? d))
   exact F.kI λk B l x=>D k B x (t k l).1
 ·intro e;rw[List.getElem?_append]at d;split at d
  ·rcases A k e with h|h
   ·have:=((m.arcs i p d).lt C.wf l).1;omega
   ·exact m.ne i p d k l h
  ·obtain rfl:=(mem_singleton.1 (List.mem_of_getElem? d))
   rcases A k e with h|h
   ·have:=(F.lt C.wf l).1;omega
   ·exact(t k l).1 h
 ·rw[List.getElem?_append]at d o;split at d<;>split at o
  ·exact m.Zd i j p q G d o k l
  ·obtain rfl:=(mem_singleton.1 (List.mem_of_getElem? o))
   exact λe=>(t k e).2 i p d l
  ·obtain rfl:=(mem_singleton.1 (List.mem_of_getElem? d))
   exact(t k l).2 j q o
  ·rename_i S P;have I:=(List.getElem?_eq_some_iff.1 d).1;have N:=(List.getElem?_eq_some_iff.1 o).1;simp at I N;omega
theorem RY(w:Wf hb)(m:Ok hb g){x:Value}{a:List hO}(k:fh hb g 70 4 x (a.map gC)){q:hO}{f:Nat}(e:g.get f=some (.cells (gC q) 70 4 true))(p:a.length<=100000):
  ∃(b:Option Addr)(n c:Nat)(u:dL),bF SS.P 71 71 x (.slice (some ⟨f,0,none⟩) 1 1) g=some (.slice b n c,u)/\fh hb (u.app g) 70 4 (.slice b n c) ((a++[q]).map gC)/\Ok hb (u.app g)/\
   (∀j B,g.get j=some B->eX x≠some j->(u.app g).get j=some B)/\(∀j,eX (.slice b n c)=some j->g.next<=j\/eX x=some j)/\g.next<=(u.app g).next:=by
 have d:(a.map gC).length=a.length:=lM ..;obtain⟨b,n,c,u,i,s,h,l⟩:=fh.add US X5 Qv ad6 w m k (ns:=[gC q]) (BL e rfl) (λr o=>by rw[mem_singleton.1 o];rfl) rfl (by rw[Ms,d,List.length_singleton];omega) (by rw[d,List.length_singleton];omega) (.inl (Nat.le_refl _));exact⟨b,n,c,u,i,by rw[List.map_append];exact h,l⟩
end
end
noncomputable def aaI:FD:=cA Tryz.f70 []
theorem Ye(i:Int)(h:ae)(Q:VH)(j:FW SS 69 [(.int .i64 i)] h λg h=>∃f:LV,∃e:Bool,g=(.tuple ⟨[(.agg ⟨f⟩),(.bool e)]⟩)/\xN (bq SS.P 99) h λ_ d=>xU (ah SS.P 99 (pA (h.next)) (.agg ⟨f⟩) d) d λ_ c=>fP 99 (pA (h.next)) 1 λb=>lS c b λa=>Q (strOf a) c):FW SS 70 [(.int .i64 i)] h Q:=cN aaI Tryz.func70 (ai j)
noncomputable def aaA:FD:=cA Tryz.f22 []
theorem XY(d:Int)(h:ae)(Q:VH)(e:FW SS 14 [(.int .i64 d)] h λb c=>yB b λa=>au (!a) (Q (strOf []) c) (au (((d:Int)==1)) (Q (strOf [48]) c) (Q (strOf [49]) c))):FW SS 22 [(.int .i64 d)] h Q:=cN aaA Tryz.func22 (ai e)
section
section
variable {hb g g':ae} {k off n c:Nat} {ps:List (dW×Value)}
theorem CZ{ps:List (dW×Value)}(p:dW×Value):(ps.set i p).map AN=(ps.map AN).set i (AN p):=by rw[List.map_set]
theorem kj.acA(w:Wf hb)(K:Ok hb g)(m:kj hb g (.slice (some ⟨k,off,none⟩) n c) ps){i:Nat}{p:dW×Value}(C:ps[i]?=some p)(f:List UInt8):
  ∃u:dL,ah SS.P 9 (.pointer (some ⟨k,off+i*2+0,none⟩)) (strOf f) g=some (undef,u)/\kj hb (u.app g) (.slice (some ⟨k,off,none⟩) n c) (ps.set i (⟨f,p.1.arcs⟩,p.2))/\Ok hb (u.app g)/\(∀j B,g.get j=some B->k≠j->(u.app g).get j=some B)/\(u.app g).next=g.next:=by
 obtain⟨u,H,I,F,A,M⟩:=m.row.put (e:=73) (t':=9) (by kernel_rfl) w K (i:=i) (j:=0) (r:=AN p) (by rw[getElem?_map,C];rfl) (by omega) (v':=strOf f) rfl rfl;have h:∀{j:Nat}{q:dW×Value},(ps.set i (⟨f,p.1.arcs⟩,p.2))[j]?=some q->∃d,ps[j]?=some d/\q.2=d.2/\q.1.arcs=d.1.arcs:=λ{j q} b=>by
  rw[getElem?_set]at b;split at b
  ·next e=>
   subst e;split at b
   ·obtain rfl:=oI b;exact⟨p,C,rfl,rfl⟩
   ·cases b
  ·exact⟨q,b,rfl,rfl⟩
 refine⟨u,H,⟨by rw[CZ];exact I,λj q b=>?_,λj q b l a=>?_,λG N Q O z v D l a=>?_⟩,F,A,M⟩
 ·obtain⟨d,o,s,t⟩:=h b;rw[s,t];exact(m.arcs j d o).kI λl B a E=>A l B E (λe=>m.ne j d o l a (by rw[<-e];rfl))
 ·obtain⟨d,o,s,t⟩:=h b;rw[s]at a;exact m.ne j d o l a
 ·obtain⟨x,o,s,t⟩:=h v;obtain⟨y,J,L,P⟩:=h D;rw[s]at a;rw[L];exact m.Zd G N x y z o J l a
theorem kj.adV(w:Wf hb)(I:Ok hb g')(m:kj hb g (.slice (some ⟨k,off,none⟩) n c) ps){i:Nat}{p:dW×Value}(v:ps[i]?=some p)(H:∀j B,g.get j=some B->eX p.2≠some j->g'.get j=some B){b:Option Addr}{o l:Nat}{s:List hO}(Y:fh hb g' 70 4 (.slice b o l) (s.map gC))(L:∀j,eX (.slice b o l)=some j->g.next<=j\/eX p.2=some j)(J:Wf g):
  ∃u:dL,ah SS.P 71 (.pointer (some ⟨k,off+i*2+1,none⟩)) (.slice b o l) g'=some (undef,u)/\kj hb (u.app g') (.slice (some ⟨k,off,none⟩) n c) (ps.set i (⟨p.1.f,s⟩,.slice b o l))/\Ok hb (u.app g')/\(∀j B,g'.get j=some B->k≠j->(u.app g').get j=some B)/\(u.app g').next=g'.next:=by
 have P:eX p.2≠some k:=λe=>m.ne i p v k e rfl;have D:fh hb g' 73 2 (.slice (some ⟨k,off,none⟩) n c) (ps.map AN):=m.row.kI λd B a y=>H d B y (λe=>m.ne i p v d e a);obtain⟨u,U,W,R,E,h5⟩:=D.put (e:=73) (t':=71) (by kernel_rfl) w I (i:=i) (j:=1) (r:=AN p) (by rw[getElem?_map,v];rfl) (by omega) (v':= .slice b o l) (Dt ..) (by cases b<;>rfl);have x0:i<ps.length:=(List.getElem?_eq_some_iff.1 v).1;have C:eX (.slice b o l)≠some k:=λe=>by
  rcases L k e with h|h
  ·have:=(m.row.lt J (k:=k) rfl).1;omega
  ·exact P h
 have t:∀{j:Nat}{q:dW×Value},(ps.set i (⟨p.1.f,s⟩,.slice b o l))[j]?=some q->(j=i/\q=(⟨p.1.f,s⟩,.slice b o l))\/(j≠i/\ps[j]?=some q):=λ{j q} f=>by
  rcases GR f with⟨e,F⟩|⟨e,f⟩
  ·exact .inl ⟨e,F⟩
  ·exact .inr ⟨e,f⟩
 have z:∀{j:Nat}{q:dW×Value},j≠i->ps[j]?=some q->∀d,eX q.2=some d->eX (.slice b o l)≠some d:=λ{j q} x f d a e=>by
  rcases L d e with h|h
  ·have:=((m.arcs j q f).lt J a).1;omega
  ·exact m.Zd j i q p x f v d a h
 refine⟨u,U,⟨by rw[CZ];exact W,λj q f=>?_,λj q f d a=>?_,λS j2 Z T A G N d a=>?_⟩,R,E,h5⟩
 ·rcases t f with⟨rfl,rfl⟩|⟨x,f⟩
  ·exact Y.kI λd B a y=>E d B y (λe=>C (by rw[e];exact a))
  ·exact(m.arcs j q f).kI λd B a y=>E d B (H d B y (λe=>m.Zd j i q p x f v d a e)) (λe=>m.ne j q f d a (by rw[<-e];rfl))
 ·rcases t f with⟨rfl,rfl⟩|⟨x,f⟩
  ·exact λe=>C (by rw[a,<-e];rfl)
  ·exact m.ne j q f d a
 ·rcases t G with⟨Q,F⟩|⟨x,O⟩<;>rcases t N with⟨V,X⟩|⟨M,K⟩
  ·exact absurd (Q.trans V.symm) A
  ·rw[F]at a;exact λe=>z M K d e a
  ·rw[X];exact z x O d a
  ·exact m.Zd S j2 Z T A O K d a
theorem kj.at_(m:kj hb g (.slice (some ⟨k,off,none⟩) n c) ps){i:Nat}{p:dW×Value}(e:ps[i]?=some p):
  ax SS.P 27 (.slice (some ⟨k,off,none⟩) n c) (.int .i64 (i:Int))=some (.pointer (some ⟨k,off+i*2,none⟩))/\aj SS.P 71 g (.pointer (some ⟨k,off+i*2+1,none⟩))=some p.2/\aj SS.P 73 g (.pointer (some ⟨k,off+i*2,none⟩))=some (.agg ⟨AN p⟩):=by
 obtain⟨b,d,a⟩:=m.row.at_ zN Vd (i:=i) (r:=AN p) (by rw[getElem?_map,e];rfl) .i64;exact⟨b,by rw[d 71 _ 1 US ZM (by omega)];rfl,a _ acR abj⟩
end
end
variable{g:ae}{v:Value}
def mO:dP:= .cells [.int .i64 0,.int .i64 0,strOf [],.slice none 0 0] 29 0 true
theorem qD:bq SS.P 29=some (mO,lK):=by kernel_rfl
theorem uw(M:bt)(a:Option Addr)(n c:Nat):(bR M a n c).all dM=true:=by cases a<;>rfl
theorem kj.low{t b:ae}{s:List (dW×Value)}(m:kj g t v s)(o:Ok h g)(w:∀j B,t.get j=some B->g.next<=j->b.get j=some B):kj h b v s:=by
 have a:∀{e:TypeId}{d:Nat}{v:Value}{f:List (List Value)},fh g t e d v f->fh h b e d v f:=λ{e d v f} r=>by
  obtain⟨l,r|⟨k,n,cs,c,x,q,u,y⟩⟩:=r
  ·exact⟨l,.inl r⟩
  ·exact⟨l,.inr ⟨k,n,cs,c,x,Nat.le_trans o.nx q,w _ _ u q,y⟩⟩
 exact⟨a m.row,λi p z=>a (m.arcs i p z),m.ne,m.Zd⟩
def dc(a:Int):List UInt8:=if a=1 then[48]else if a=2\/a=3 then[49]else[]
theorem aag(k:Nat):aW SS.P 99 (.pointer (some ⟨k,0,none⟩)) 1=some (.pointer (some ⟨k,1,none⟩)):=by kernel_rfl
theorem Yf(a:Int){h:ae}(w:Wf h):FW SS 70 [.int .i64 a] h (λv s=>v=strOf (dc a)/\Ok h s):=by
 refine Ye a h _ ((Du a w).mono ?_);rintro _ g ⟨rfl,o⟩;have d:∀(c:List Value)(b:Bool),c.length=8->c.all dM=true->c.getD 1 undef=strOf (dc a)->∃cs:List Value,∃t:Bool,(Value.tuple ⟨[.agg ⟨c⟩,.bool b]⟩)=(.tuple ⟨[.agg ⟨cs⟩,.bool t]⟩)/\∃B:dP,bq SS.P 99=some (B,lK)/\∃u:dL,ah SS.P 99 (.pointer (some ⟨g.next,0,none⟩)) (.agg ⟨cs⟩) (g.push B)=some (undef,u)/\∃p:Addr,aW SS.P 99 (.pointer (some ⟨g.next,0,none⟩)) 1=some (.pointer (some p))/\∃l:List UInt8,aj SS.P 9 (u.app (g.push B)) (.pointer (some p))=some (strOf l)/\(strOf l=strOf (dc a)/\Ok h (u.app (g.push B))):=by
  intro c b n q r;have j:=aI g KP;have k:=(Ok.refl o.wf).push KP;obtain⟨x,m⟩:=pa (cs:=c) o.wf k j (Nat.le_refl _);refine⟨c,b,rfl,KP,RT,_,kV DG rfl j n q,_,aag _,dc a,?_,rfl,o.trans x⟩;rw[cx KT Rt m (by omega),r]
 unfold XD;split
 ·next e=>exact d yl true rfl rfl (by unfold dc;rw[if_pos e];rfl)
 ·next e=>
  split
  ·next f=>exact d ym true rfl rfl (by unfold dc;rw[if_neg e,if_pos (.inl f)];rfl)
  ·next f=>
   split
   ·next i=>exact d yp true rfl rfl (by unfold dc;rw[if_neg e,if_pos (.inr i)];rfl)
   ·next i=>exact d nj false rfl rfl (by unfold dc;rw[if_neg e,if_neg (by rintro(h|h)<;>contradiction)];rfl)
theorem Ho(a:Int)(h:ae):FW SS 22 [.int .i64 a] h (λv c=>v=strOf (dc a)/\c=h):=by
 refine XY a h _ ((ni a h).mono ?_);rintro _ g ⟨rfl,rfl⟩;refine⟨_,rfl,aa (λq=>?_) (λq=>?_)⟩
 ·refine⟨?_,rfl⟩;simp at q;unfold dc;rw[if_neg (by omega),if_neg (by omega)]
 ·simp at q;refine aa (λb=>?_) (λb=>?_)
  ·have b:a=1:=by simpa using b
   refine⟨?_,rfl⟩;unfold dc;rw[if_pos b]
  ·have b:¬a=1:=by simpa using b
   refine⟨?_,rfl⟩;unfold dc;rw[if_neg b,if_pos (by omega)]
def Be(h:ae)(R:bt×Int):VH:=λv b=>∃(a:Option Addr)(n c:Nat)(d:List (dW×Value)),v = .tuple ⟨[.agg ⟨bR R.1 a n c⟩,.int .i64 R.2]⟩/\d.map (·.1)=R.1.af/\kj h b (.slice a n c) d/\Ok h b
def tY:bt:=⟨0,0,[],[]⟩
theorem Z3:bh SS.P 29 []=some (.agg ⟨bR tY none 0 0⟩):=by kernel_rfl
theorem NY(w:Wf h)(o:Ok h g){k:Nat}(f:g.get k=some mO)(i:h.next<=k){R:bt×Int}{a:Option Addr}{n c:Nat}{ps:List (dW×Value)}(e:ps.map (·.1)=R.1.af){d:ae}(q:kj d g (.slice a n c) ps)(r:Ok h d)(b:k<d.next\/ps=[]/\a=none/\n=0/\c=0):
  ∃u:dL,ah SS.P 29 (.pointer (some ⟨k,0,none⟩)) (.agg ⟨bR R.1 a n c⟩) g=some (undef,u)/\dY SS [(.pointer (some ⟨k,0,none⟩),some 29),(.int .i64 R.2,none)] (u.app g) (Be h R):=by
 refine⟨_,kV (t:=29) vI (cs0:=[.int .i64 0,.int .i64 0,strOf [],.slice none 0 0]) rfl f (cs:=bR R.1 a n c) rfl (uw ..),?_⟩;obtain⟨l,m⟩:=pa (cs:=bR R.1 a n c) w o f i;refine xg (v:= .agg ⟨bR R.1 a n c⟩) (pN Rh OB vI m (by simp[bR])) ⟨a,n,c,ps,rfl,e,?_,l⟩;rcases b with b|⟨rfl,rfl,rfl,rfl⟩
 ·exact q.low r (λj B p s=>by
   show(g.set k _).get j=_;rw[ae.aw,if_neg (by omega)];exact p)
 ·exact kj.nil _ _
theorem Yj(w:Wf h){n j:Nat}(b:j<n)(o:Ok (Go.Ab.room h n) g)(B:dP):Ok h (cd g h.next [(j,B)])/\(cd g h.next [(j,B)]).get (h.next+j)=some B:=by
 have a:h.next+n<=g.next:=o.nx;refine⟨(((Ok.refl w).room n).trans o).set B (Nat.le_add_right _ _) (by omega) w,?_⟩;show(g.set (h.next+j) B).get (h.next+j)=_;rw[ae.aw,if_pos rfl]
noncomputable def T8:FD:=cA Tryz.f103 []
theorem PX(s:Bool)(n d:LB)(h:ae)(Q:VH)(z:FW SS 136 [(strOf n)] h λx y=>yB x λw=>au (!w) (Q (.tuple ⟨[(strOf []),(.int .i64 1)]⟩) y) (FW SS 136 [(strOf d)] y λu v=>yB u λt=>au (!t) (Q (.tuple ⟨[(strOf []),(.int .i64 1)]⟩) v) (au ((d:LB)==[48]) (Q (.tuple ⟨[(strOf []),(.int .i64 1)]⟩) v) (FW SS 118 [(strOf n),(strOf d)] v λq r=>∃p:LB,∃o:Int,q=(.tuple ⟨[(strOf p),(.int .i64 o)]⟩)/\FW SS 137 [(strOf n),(strOf p)] r λl m=>∃k:LB,∃j:LB,∃i:Int,l=(.tuple ⟨[(strOf k),(strOf j),(.int .i64 i)]⟩)/\FW SS 137 [(strOf d),(strOf p)] m λg h=>∃f:LB,∃e:LB,∃d:Int,g=(.tuple ⟨[(strOf f),(strOf e),(.int .i64 d)]⟩)/\au (decide ((((k:LB).length:Int):Int)>400)) (Q (.tuple ⟨[(strOf []),(.int .i64 2)]⟩) h) (au (decide ((((f:LB).length:Int):Int)>400)) (Q (.tuple ⟨[(strOf []),(.int .i64 2)]⟩) h) (au s (au (!((k:LB)==[48])) (xS (ay SS.P .add 9 (strOf [45]) (strOf k)) λc=>au ((f:LB)==[49]) (Q (.tuple ⟨[(strOf c),(.int .i64 0)]⟩) h) (xS (ay SS.P .add 9 (strOf c) (strOf [47])) λb=>xS (ay SS.P .add 9 (strOf b) (strOf f)) λa=>Q (.tuple ⟨[(strOf a),(.int .i64 0)]⟩) h)) (au ((f:LB)==[49]) (Q (.tuple ⟨[(strOf k),(.int .i64 0)]⟩) h) (xS (ay SS.P .add 9 (strOf k) (strOf [47])) λb=>xS (ay SS.P .add 9 (strOf b) (strOf f)) λa=>Q (.tuple ⟨[(strOf a),(.int .i64 0)]⟩) h))) (au ((f:LB)==[49]) (Q (.tuple ⟨[(strOf k),(.int .i64 0)]⟩) h) (xS (ay SS.P .add 9 (strOf k) (strOf [47])) λb=>xS (ay SS.P .add 9 (strOf b) (strOf f)) λa=>Q (.tuple ⟨[(strOf a),(.int .i64 0)]⟩) h)))))))):FW SS 103 [(.bool s),(strOf n),(strOf d)] h Q:=cN T8 Tryz.func103 (ai z)
noncomputable def XS:FD:=cA Tryz.f105 []
theorem Ub(a:LB)(h:ae)(Q:VH)(k:FW SS 94 [(strOf a)] h λi j=>∃h:Bool,∃g:LB,∃f:LB,∃e:Bool,i=(.tuple ⟨[(.bool h),(strOf g),(strOf f),(.bool e)]⟩)/\au (!e) (Q (.tuple ⟨[(strOf []),(.int .i64 1)]⟩) j) (FW SS 103 [(.bool (!h)),(strOf g),(strOf f)] j λc d=>∃b:LB,∃a:Int,c=(.tuple ⟨[(strOf b),(.int .i64 a)]⟩)/\Q (.tuple ⟨[(strOf b),(.int .i64 a)]⟩) d)):FW SS 105 [(strOf a)] h Q:=cN XS Tryz.func105 (ai k)
noncomputable def XP:FD:=cA Tryz.f85 []
theorem T4(a b:LB)(h:ae)(Q:VH)(B:FW SS 94 [(strOf a)] h λD C=>∃A:Bool,∃z:LB,∃y:LB,∃x:Bool,D=(.tuple ⟨[(.bool A),(strOf z),(strOf y),(.bool x)]⟩)/\FW SS 94 [(strOf b)] C λv w=>∃u:Bool,∃t:LB,∃s:LB,∃r:Bool,v=(.tuple ⟨[(.bool u),(strOf t),(strOf s),(.bool r)]⟩)/\au (!x) (Q (.tuple ⟨[(strOf []),(.int .i64 1)]⟩) w) (au (!r) (Q (.tuple ⟨[(strOf []),(.int .i64 1)]⟩) w) (FW SS 96 [(strOf z),(strOf s)] w λp q=>yS p λo=>FW SS 96 [(strOf t),(strOf y)] q λm n=>yS m λl=>FW SS 95 [(.bool A),(strOf o),(.bool u),(strOf l)] n λj k=>∃i:Bool,∃h:LB,j=(.tuple ⟨[(.bool i),(strOf h)]⟩)/\FW SS 96 [(strOf y),(strOf s)] k λf g=>yS f λe=>FW SS 103 [(.bool i),(strOf h),(strOf e)] g λc d=>∃b:LB,∃a:Int,c=(.tuple ⟨[(strOf b),(.int .i64 a)]⟩)/\Q (.tuple ⟨[(strOf b),(.int .i64 a)]⟩) d))):FW SS 85 [(strOf a),(strOf b)] h Q:=cN XP Tryz.func85 (ai B)
noncomputable def XT:FD:=cA Tryz.f91 []
theorem Ud(a b:LB)(h:ae)(Q:VH)(l:FW SS 105 [(strOf b)] h λj k=>∃i:LB,∃h:Int,j=(.tuple ⟨[(strOf i),(.int .i64 h)]⟩)/\au (((h:Int) !=0)) (Q (.tuple ⟨[(strOf []),(.int .i64 1)]⟩) k) (FW SS 71 [(strOf a)] k λf g=>yB f λe=>au (!e) (Q (.tuple ⟨[(strOf []),(.int .i64 1)]⟩) g) (FW SS 85 [(strOf a),(strOf i)] g λc d=>∃b:LB,∃a:Int,c=(.tuple ⟨[(strOf b),(.int .i64 a)]⟩)/\Q (.tuple ⟨[(strOf b),(.int .i64 a)]⟩) d))):FW SS 91 [(strOf a),(strOf b)] h Q:=cN XT Tryz.func91 (ai l)
noncomputable def XR:FD:=cA Tryz.f88 []
theorem T9(a b:LB)(h:ae)(Q:VH)(w:FW SS 94 [(strOf a)] h λu v=>∃t:Bool,∃s:LB,∃r:LB,∃q:Bool,u=(.tuple ⟨[(.bool t),(strOf s),(strOf r),(.bool q)]⟩)/\FW SS 94 [(strOf b)] v λo p=>∃n:Bool,∃m:LB,∃l:LB,∃k:Bool,o=(.tuple ⟨[(.bool n),(strOf m),(strOf l),(.bool k)]⟩)/\au (!q) (Q (.tuple ⟨[(strOf []),(.int .i64 1)]⟩) p) (au (!k) (Q (.tuple ⟨[(strOf []),(.int .i64 1)]⟩) p) (FW SS 96 [(strOf s),(strOf m)] p λi j=>yS i λh=>FW SS 96 [(strOf r),(strOf l)] j λf g=>yS f λe=>FW SS 103 [(.bool (!(t==n))),(strOf h),(strOf e)] g λc d=>∃b:LB,∃a:Int,c=(.tuple ⟨[(strOf b),(.int .i64 a)]⟩)/\Q (.tuple ⟨[(strOf b),(.int .i64 a)]⟩) d))):FW SS 88 [(strOf a),(strOf b)] h Q:=cN XR Tryz.func88 (ai w)
noncomputable def XQ:FD:=cA Tryz.f92 []
theorem T5(a b:LB)(h:ae)(Q:VH)(w:FW SS 94 [(strOf a)] h λu v=>∃t:Bool,∃s:LB,∃r:LB,∃q:Bool,u=(.tuple ⟨[(.bool t),(strOf s),(strOf r),(.bool q)]⟩)/\FW SS 94 [(strOf b)] v λo p=>∃n:Bool,∃m:LB,∃l:LB,∃k:Bool,o=(.tuple ⟨[(.bool n),(strOf m),(strOf l),(.bool k)]⟩)/\au (!q) (Q (.tuple ⟨[(strOf []),(.int .i64 1)]⟩) p) (au (!k) (Q (.tuple ⟨[(strOf []),(.int .i64 1)]⟩) p) (au ((m:LB)==[48]) (Q (.tuple ⟨[(strOf []),(.int .i64 4)]⟩) p) (FW SS 96 [(strOf s),(strOf l)] p λi j=>yS i λh=>FW SS 96 [(strOf r),(strOf m)] j λf g=>yS f λe=>FW SS 103 [(.bool (!(t==n))),(strOf h),(strOf e)] g λc d=>∃b:LB,∃a:Int,c=(.tuple ⟨[(strOf b),(.int .i64 a)]⟩)/\Q (.tuple ⟨[(strOf b),(.int .i64 a)]⟩) d)))):FW SS 92 [(strOf a),(strOf b)] h Q:=cN XQ Tryz.func92 (ai w)
noncomputable def Uh:FD:=cA Tryz.f18 []
theorem Qb(d:Int)(h:ae)(Q:VH)(e:FW SS 14 [(.int .i64 d)] h λb c=>yB b λa=>au (!a) (Q (strOf []) c) (au (((d:Int)==1)) (Q (strOf [105,110,102]) c) (Q (strOf [48]) c))):FW SS 18 [(.int .i64 d)] h Q:=cN Uh Tryz.func18 (ai e)
noncomputable def JW:FD:=cA Tryz.f90 []
theorem Hn(a b:LB)(h:ae)(Q:VH)(d:au ((a:LB)==b) (Q (.int .i64 0) h) (au ((a:LB)==[45,105,110,102]) (Q (.int .i64 (-1)) h) (au ((b:LB)==[105,110,102]) (Q (.int .i64 (-1)) h) (au ((a:LB)==[105,110,102]) (Q (.int .i64 1) h) (au ((b:LB)==[45,105,110,102]) (Q (.int .i64 1) h) (FW SS 72 [(strOf a),(strOf b)] h λb c=>yI .i64 b λa=>Q (.int .i64 a) c)))))):FW SS 90 [(strOf a),(strOf b)] h Q:=cN JW Tryz.func90 (ai d)
noncomputable def Mg:FD:=cA Tryz.f84 []
theorem JU(j:Int)(a b:LB)(h:ae)(Q:VH)(k:FW SS 47 [(.int .i64 j),(strOf a)] h λh i=>yB h λg=>au (!g) (Q (.int .i64 0) i) (FW SS 47 [(.int .i64 j),(strOf b)] i λe f=>yB e λd=>au (!d) (Q (.int .i64 0) f) (au (((j:Int)==1)) (FW SS 90 [(strOf a),(strOf b)] f λb c=>yI .i64 b λa=>Q (.int .i64 a) c) (FW SS 90 [(strOf b),(strOf a)] f λb c=>yI .i64 b λa=>Q (.int .i64 a) c)))):FW SS 84 [(.int .i64 j),(strOf a),(strOf b)] h Q:=cN Mg Tryz.func84 (ai k)
noncomputable def Uf:FD:=cA Tryz.f62 []
theorem PY(l:Int)(a b:LB)(h:ae)(Q:VH)(m:FW SS 47 [(.int .i64 l),(strOf a)] h λj k=>yB j λi=>au (!i) (Q (.tuple ⟨[(strOf []),(.int .i64 1)]⟩) k) (FW SS 47 [(.int .i64 l),(strOf b)] k λg h=>yB g λf=>au (!f) (Q (.tuple ⟨[(strOf []),(.int .i64 1)]⟩) h) (au (((l:Int) !=2)) (FW SS 84 [(.int .i64 l),(strOf b),(strOf a)] h λd e=>yI .i64 d λc=>au (decide ((c:Int)<0)) (Q (.tuple ⟨[(strOf b),(.int .i64 0)]⟩) e) (Q (.tuple ⟨[(strOf a),(.int .i64 0)]⟩) e)) (au ((a:LB)==[105,110,102]) (Q (.tuple ⟨[(strOf [105,110,102]),(.int .i64 0)]⟩) h) (au ((b:LB)==[105,110,102]) (Q (.tuple ⟨[(strOf [105,110,102]),(.int .i64 0)]⟩) h) (FW SS 85 [(strOf a),(strOf b)] h λc d=>∃b:LB,∃a:Int,c=(.tuple ⟨[(strOf b),(.int .i64 a)]⟩)/\Q (.tuple ⟨[(strOf b),(.int .i64 a)]⟩) d)))))):FW SS 62 [(.int .i64 l),(strOf a),(strOf b)] h Q:=cN Uf Tryz.func62 (ai m)
noncomputable def Qa:FD:=cA Tryz.f65 []
theorem Mh(n:Int)(a b:LB)(h:ae)(Q:VH)(o:FW SS 47 [(.int .i64 n),(strOf a)] h λl m=>yB l λk=>au (!k) (Q (.tuple ⟨[(strOf []),(.int .i64 1)]⟩) m) (FW SS 47 [(.int .i64 n),(strOf b)] m λi j=>yB i λh=>au (!h) (Q (.tuple ⟨[(strOf []),(.int .i64 1)]⟩) j) (FW SS 18 [(.int .i64 n)] j λf g=>yS f λe=>au ((a:LB)==e) (Q (.tuple ⟨[(strOf e),(.int .i64 0)]⟩) g) (au ((b:LB)==e) (Q (.tuple ⟨[(strOf e),(.int .i64 0)]⟩) g) (au ((a:LB)==[105,110,102]) (Q (.tuple ⟨[(strOf [105,110,102]),(.int .i64 0)]⟩) g) (au ((b:LB)==[105,110,102]) (Q (.tuple ⟨[(strOf [105,110,102]),(.int .i64 0)]⟩) g) (au ((a:LB)==[45,105,110,102]) (Q (.tuple ⟨[(strOf [45,105,110,102]),(.int .i64 0)]⟩) g) (au ((b:LB)==[45,105,110,102]) (Q (.tuple ⟨[(strOf [45,105,110,102]),(.int .i64 0)]⟩) g) (au (((n:Int)==1)) (FW SS 85 [(strOf a),(strOf b)] g λc d=>∃b:LB,∃a:Int,c=(.tuple ⟨[(strOf b),(.int .i64 a)]⟩)/\Q (.tuple ⟨[(strOf b),(.int .i64 a)]⟩) d) (FW SS 88 [(strOf a),(strOf b)] g λc d=>∃b:LB,∃a:Int,c=(.tuple ⟨[(strOf b),(.int .i64 a)]⟩)/\Q (.tuple ⟨[(strOf b),(.int .i64 a)]⟩) d)))))))))):FW SS 65 [(.int .i64 n),(strOf a),(strOf b)] h Q:=cN Qa Tryz.func65 (ai o)
noncomputable def Ug:FD:=cA Tryz.f67 []
theorem PZ(r:Int)(a:LB)(h:ae)(Q:VH)(s:FW SS 47 [(.int .i64 r),(strOf a)] h λp q=>yB p λo=>au (!o) (Q (.tuple ⟨[(strOf []),(.int .i64 1)]⟩) q) (FW SS 22 [(.int .i64 r)] q λm n=>yS m λl=>au (((r:Int)==1)) (FW SS 90 [(strOf a),(strOf [48])] n λb c=>yI .i64 b λa=>au (decide ((a:Int)>=0)) (Q (.tuple ⟨[(strOf l),(.int .i64 0)]⟩) c) (Q (.tuple ⟨[(strOf [45,105,110,102]),(.int .i64 0)]⟩) c)) (au (((r:Int)==3)) (FW SS 90 [(strOf a),(strOf [49])] n λb c=>yI .i64 b λa=>au (decide ((a:Int)<=0)) (Q (.tuple ⟨[(strOf l),(.int .i64 0)]⟩) c) (Q (.tuple ⟨[(strOf [105,110,102]),(.int .i64 0)]⟩) c)) (FW SS 90 [(strOf a),(strOf [49])] n λj k=>yI .i64 j λi=>au (decide ((i:Int)>=0)) (Q (.tuple ⟨[(strOf [105,110,102]),(.int .i64 0)]⟩) k) (FW SS 91 [(strOf [49]),(strOf a)] k λg h=>∃f:LB,∃e:Int,g=(.tuple ⟨[(strOf f),(.int .i64 e)]⟩)/\au (((e:Int) !=0)) (Q (.tuple ⟨[(strOf []),(.int .i64 e)]⟩) h) (FW SS 92 [(strOf [49]),(strOf f)] h λc d=>∃b:LB,∃a:Int,c=(.tuple ⟨[(strOf b),(.int .i64 a)]⟩)/\Q (.tuple ⟨[(strOf b),(.int .i64 a)]⟩) d)))))):FW SS 67 [(.int .i64 r),(strOf a)] h Q:=cN Ug Tryz.func67 (ai s)
variable{s:List UInt8}{z:Int}
def Mc:Option (List UInt8)->Value
 |some l=>two l 0
 |none=>two [] 2
theorem TR(o:Option (List UInt8)):∃l n,Mc o=two l n:=by cases o<;>exact⟨_,_,rfl⟩
def oQ(h:ae)(o:Option (List UInt8)):VH:=λv a=>v=Mc o/\Ok h a
theorem jg{o:Option (List UInt8)}(a:Ok h g):∃(l:List UInt8)(n:Int),Mc o = .tuple ⟨[strOf l,.int .i64 n]⟩/\oQ h o (.tuple ⟨[strOf l,.int .i64 n]⟩) g:=yD (K:=λv=>oQ h o v g) (TR o) ⟨rfl,a⟩
theorem cj{a b:List UInt8}(g:(a==b)=true):a=b:=by simpa using g
theorem ca{a b:List UInt8}(g:(a==b)=false):a≠b:=by simpa using g
theorem Up{a:List UInt8}(r:gM a):Num.val (Num.numOf a)<10^400/\Num.val (ak a)<10^400:=⟨q8 (k:=400) r.num (by decide) r.ln,q8 (k:=400) r.den (by decide) r.ld⟩
theorem NK(s:Bool)(n d:Nat):cE s n d=(if s=true/\n≠0 then[45]else[])++(ag n++(if d=1 then[]else 47::ag d)):=rfl
theorem Oc{s:Bool}(h:s=true/\n≠0):[45]++(ag n++(if m=1 then[]else 47::ag m))=cE s n m:=by unfold cE;rw[if_pos h]
theorem HN{s:Bool}(h:¬(s=true/\n≠0)):[]++(ag n++(if m=1 then[]else 47::ag m))=cE s n m:=by unfold cE;rw[if_neg h]
theorem uA(s:Bool){N D:Nat}(m:N<10^1000)(g:D<10^1000)(z:0<D){h:ae}(w:Wf h):FW SS 103 [.bool s,strOf (ag N),strOf (ag D)] h (oQ h (lO s N D)):=by
 have x:Num.valid (ag N)=true:=ef.2 m;have E:Num.valid (ag D)=true:=ef.2 g;refine PX s _ _ h _ ((dn _ h).mono ?_);rintro _ r ⟨rfl,o⟩;obtain rfl:h=r:=o.symm;refine⟨_,rfl,aa (λe=>by rw[x]at e;cases e) (λ_=>(dn _ h).mono ?_)⟩;rintro _ r ⟨rfl,o⟩;obtain rfl:h=r:=o.symm;refine⟨_,rfl,aa (λe=>by rw[E]at e;cases e) (λ_=>aa (λe=>?_) (λ_=>?_))⟩
 ·exact absurd (bI.1 (cj e)) (by omega)
 refine(FL _ _ h w).mono ?_;rintro _ H ⟨rfl,u⟩;rw[xk x E,bu,bu];have C:0<Nat.gcd N D:=Nat.gcd_pos_of_pos_right N z;have v:Nat.gcd N D<=D:=Nat.gcd_le_right N z;have l:Nat.gcd N D<10^1000:=lt_of_le_of_lt v g;refine⟨_,_,rfl,(zI N (Nat.gcd N D) m l C H u.wf).mono ?_⟩;rintro _ F ⟨rfl,A⟩;refine⟨_,_,_,rfl,(zI D (Nat.gcd N D) g l C F A.wf).mono ?_⟩;rintro _ B ⟨rfl,G⟩;have j:=(u.trans A).trans G;unfold lO;have I:=(dK (n:=N/Nat.gcd N D) (k:=1000) (by omega)).2 (lt_of_le_of_lt (Nat.div_le_self _ _) m);have J:=(dK (n:=D/Nat.gcd N D) (k:=1000) (by omega)).2 (lt_of_le_of_lt (Nat.div_le_self _ _) g);generalize N/Nat.gcd N D=n at*;generalize D/Nat.gcd N D=d at*;refine⟨_,_,_,rfl,aa (λq=>?_) (λq=>aa (λb=>?_) (λb=>?_))⟩
 ·have q:=dT q;rw[if_pos (.inl (by omega))];exact⟨rfl,j⟩
 ·have b:=dT b;rw[if_pos (.inr (by omega))];exact⟨rfl,j⟩
 have q:=dF q;have b:=dF b;rw[if_neg (by omega)];have f:∀(p:List UInt8),p.length<=2000->(p++(ag n++(if d=1 then[]else 47::ag d))=cE s n d)->au (ag d==[49]) (oQ h (some (cE s n d)) (.tuple ⟨[strOf (p++ag n),.int .i64 0]⟩) B) (xS (ay SS.P .add 9 (strOf (p++ag n)) (strOf [47])) λy=>xS (ay SS.P .add 9 (strOf y) (strOf (ag d))) λt=>oQ h (some (cE s n d)) (.tuple ⟨[strOf t,.int .i64 0]⟩) B):=λp K e=>by
  refine aa (λa=>⟨?_,j⟩) (λa=>?_)
  ·rw[if_pos (eh.1 (cj a)),List.append_nil]at e;rw[<-e];rfl
  ·rw[if_neg (λc=>ca a (eh.2 c))]at e;refine⟨_,re _ _ (by simp;omega),_,re _ _ (by simp;omega),?_,j⟩;rw[<-e,List.append_assoc,List.append_assoc];rfl
 refine aa (λa=>aa (λi=>?_) (λi=>?_)) (λa=>?_)
 ·refine⟨_,re _ _ (by simp;omega),f [45] (by simp) (Oc ⟨a,λc=>by rw[bI.2 c]at i;cases i⟩)⟩
 ·have:n=0:=bI.1 (by simpa using i);exact f [] (by simp) (HN λc=>c.2 this)
 ·exact f [] (by simp) (HN λc=>by rw[c.1]at a;cases a)
theorem Hp{a:List UInt8}(r:gM a):Num.numOf a=ag (Num.val (Num.numOf a))/\ak a=ag (Num.val (ak a)):=by
 obtain⟨n,c,_,b⟩:=cq r.num;obtain⟨d,e,_,f⟩:=cq r.den;exact⟨by rw[b,<-c],by rw[f,<-e]⟩
theorem lZ{a:List UInt8}(h:aA a=true):a.length<=1000:=by
 have r:=aY.1 h;obtain⟨b,c⟩:=Hp r;have d:=r.ln;have e:=r.ld;rw[r.txt,NK,List.length_append,List.length_append,<-b];have:(if Num.val (ak a)=1 then[]else 47::ag (Num.val (ak a))).length<=401:=by
  split
  ·simp
  ·rw[List.length_cons,<-c];omega
 have:(if Num.isNeg a=true/\Num.val (Num.numOf a)≠0 then[45]else([]:List UInt8)).length<=1:=by split<;>simp
 omega
theorem o9(h:aA s=true):ko s = .tuple ⟨[.bool (Num.isNeg s),strOf (Num.numOf s),strOf (ak s),.bool true]⟩:=by unfold ko;rw[if_pos h];rfl
theorem pO(h:n<10^800):n<10^1000:=Nat.lt_of_lt_of_le h (jQ (k:=800) (m:=1000) (by decide))
theorem NT{s t:Bool}(b:n<10^800)(a:m<10^800):(dD s n t m).2<10^1000:=by
 have h:=Nat.lt_of_lt_of_le (Nat.add_lt_add b a) EV;have:(dD s n t m).2<=n+m:=by
  unfold dD;split
  ·exact Nat.le_refl _
  ·split<;>dsimp only<;>omega
 exact lt_of_le_of_lt this h
theorem Dc{a b:List UInt8}(g:aA a=true)(f:aA b=true){h:ae}(w:Wf h):FW SS 85 [strOf a,strOf b] h (oQ h (qc a b)):=by
 have d:=aY.1 g;have c:=aY.1 f;have v:=lZ g;have z:=lZ f;refine T4 a b h _ ((eu a (by omega) w).mono ?_);rintro _ x ⟨rfl,i⟩;rw[o9 g];refine⟨_,_,_,_,rfl,(eu b (by omega) i.wf).mono ?_⟩;rintro _ r ⟨rfl,o⟩;rw[o9 f];refine⟨_,_,_,_,rfl,aa (λe=>by cases e) (λ_=>aa (λe=>by cases e) (λ_=>?_))⟩;refine(fA d.num c.den d.ln c.ld o.wf).mono ?_;rintro _ A ⟨rfl,n⟩;refine⟨_,rfl,(fA c.num d.den c.ln d.ld n.wf).mono ?_⟩;rintro _ s ⟨rfl,l⟩;have p:=(db d.num c.den d.ln c.ld).2;have j:=(db c.num d.den c.ln d.ld).2;refine⟨_,rfl,(Dp _ _ _ _ p j l.wf).mono ?_⟩;rintro _ y ⟨rfl,m⟩;refine⟨_,_,rfl,(fA d.den c.den d.ld c.ld m.wf).mono ?_⟩;rintro _ u ⟨rfl,k⟩;refine⟨_,rfl,(uA _ (NT p j) (pO (db d.den c.den d.ld c.ld).2) (mul_pos d.den_pos c.den_pos) k.wf).mono ?_⟩;rintro _ t ⟨rfl,q⟩;exact jg (((((i.trans o).trans n).trans l).trans m).trans (k.trans q))
theorem Ua{a b:List UInt8}(g:aA a=true)(f:aA b=true){h:ae}(w:Wf h):FW SS 88 [strOf a,strOf b] h (oQ h (B8 a b)):=by
 have d:=aY.1 g;have c:=aY.1 f;have p:=lZ g;have s:=lZ f;refine T9 a b h _ ((eu a (by omega) w).mono ?_);rintro _ q ⟨rfl,i⟩;rw[o9 g];refine⟨_,_,_,_,rfl,(eu b (by omega) i.wf).mono ?_⟩;rintro _ n ⟨rfl,l⟩;rw[o9 f];refine⟨_,_,_,_,rfl,aa (λe=>by cases e) (λ_=>aa (λe=>by cases e) (λ_=>?_))⟩;refine(fA d.num c.num d.ln c.ln l.wf).mono ?_;rintro _ t ⟨rfl,k⟩;refine⟨_,rfl,(fA d.den c.den d.ld c.ld k.wf).mono ?_⟩;rintro _ o ⟨rfl,j⟩;refine⟨_,rfl,(uA _ (pO (db d.num c.num d.ln c.ln).2) (pO (db d.den c.den d.ld c.ld).2) (mul_pos d.den_pos c.den_pos) j.wf).mono ?_⟩;rintro _ r ⟨rfl,m⟩;exact jg (((i.trans l).trans k).trans (j.trans m))
theorem T7{a b:List UInt8}(g:aA a=true)(f:aA b=true)(l:Num.val (Num.numOf b)≠0){h:ae}(w:Wf h):FW SS 92 [strOf a,strOf b] h (oQ h (Gp a b)):=by
 have d:=aY.1 g;have c:=aY.1 f;have q:=lZ g;have t:=lZ f;refine T5 a b h _ ((eu a (by omega) w).mono ?_);rintro _ r ⟨rfl,i⟩;rw[o9 g];refine⟨_,_,_,_,rfl,(eu b (by omega) i.wf).mono ?_⟩;rintro _ o ⟨rfl,m⟩;rw[o9 f];refine⟨_,_,_,_,rfl,aa (λe=>by cases e) (λ_=>aa (λe=>by cases e) (λ_=>aa (λe=>?_) (λ_=>?_)))⟩
 ·exact absurd ((iq c.num).1 (cj e)) l
 refine(fA d.num c.den d.ln c.ld m.wf).mono ?_;rintro _ u ⟨rfl,k⟩;refine⟨_,rfl,(fA d.den c.num d.ld c.ln k.wf).mono ?_⟩;rintro _ p ⟨rfl,j⟩;refine⟨_,rfl,(uA _ (pO (db d.num c.den d.ln c.ld).2) (pO (db d.den c.num d.ld c.ln).2) (mul_pos d.den_pos (Nat.pos_of_ne_zero l)) j.wf).mono ?_⟩;rintro _ s ⟨rfl,n⟩;exact jg (((i.trans m).trans k).trans (j.trans n))
theorem Uc{a:List UInt8}(c:aA a=true){h:ae}(w:Wf h):FW SS 105 [strOf a] h (λv j=>v=two (qd a) 0/\Ok h j):=by
 have b:=aY.1 c;have p:=lZ c;obtain⟨g,i⟩:=Hp b;refine Ub a h _ ((eu a (by omega) w).mono ?_);rintro _ q ⟨rfl,d⟩;rw[o9 c];refine⟨_,_,_,_,rfl,aa (λe=>by cases e) (λ_=>?_)⟩;have n:lO (!Num.isNeg a) (Num.val (Num.numOf a)) (Num.val (ak a))=some (qd a):=K3 (by rw[<-g];exact b.ln) (by rw[<-i];exact b.ld) b.one;have f:=uA (!Num.isNeg a) (N:=Num.val (Num.numOf a)) (D:=Num.val (ak a)) (Nat.lt_of_lt_of_le (Up b).1 (jQ (k:=400) (m:=1000) (by decide))) (Nat.lt_of_lt_of_le (Up b).2 (jQ (k:=400) (m:=1000) (by decide))) b.den_pos d.wf;rw[<-g,<-i,n]at f;refine f.mono ?_;rintro _ o ⟨rfl,l⟩;exact⟨_,_,rfl,rfl,d.trans l⟩
theorem Ue{a b:List UInt8}(c:aA a=true)(d:aA b=true){h:ae}(w:Wf h):FW SS 91 [strOf a,strOf b] h (oQ h (qc a (qd b))):=by
 have k:=lZ c;refine Ud a b h _ ((Uc d w).mono ?_);rintro _ l ⟨rfl,f⟩;refine⟨_,_,rfl,aa (λe=>by cases e) (λ_=>(xY a (by omega) f.wf).mono ?_)⟩;rintro _ j ⟨rfl,g⟩;refine⟨_,rfl,aa (λe=>by rw[c]at e;cases e) (λ_=>(Dc c (ud d).1 g.wf).mono ?_)⟩;rintro _ m ⟨rfl,i⟩;exact jg ((f.trans g).trans i)
theorem pX{a:List UInt8}(h:aM z a=true):a.length<=1000:=by
 unfold aM at h;rw[and_eq_true,or_eq_true,or_eq_true]at h;rcases h.2 with(h|h)|h
 ·rw[cj h];decide
 ·rw[and_eq_true]at h;rw[cj h.1];decide
 ·rw[and_eq_true]at h;exact lZ h.1
theorem jD{a:List UInt8}(b:aM z a=true){h:ae}(w:Wf h):FW SS 47 [.int .i64 z,strOf a] h (λv c=>v = .bool true/\Ok h c):=by
 have d:=pX b;refine(xZ z a (by omega) w).mono ?_;rintro _ g ⟨rfl,o⟩;exact⟨congrArg Value.bool b,o⟩
theorem gX(a:1<=z/\z<=3)(h:ae):FW SS 18 [.int .i64 z] h (λv b=>v=strOf (bH z)/\b=h):=by
 refine Qb z h _ ((ni z h).mono ?_);rintro _ g ⟨rfl,rfl⟩;refine⟨_,rfl,aa (λe=>?_) (λ_=>aa (λe=>⟨?_,rfl⟩) (λe=>⟨?_,rfl⟩))⟩
 ·rw[decide_eq_true a.1,decide_eq_true a.2]at e;cases e
 ·have e:z=1:=by simpa using e
  unfold bH;rw[if_pos e]
 ·have e:¬z=1:=by simpa using e
  unfold bH;rw[if_neg e]
theorem C6(a:1<=z/\z<=3):dc z=pE z:=by
 unfold dc pE;by_cases e:z=1
 ·rw[if_pos e,if_pos e]
 ·rw[if_neg e,if_neg e,if_pos (by omega)]
theorem lY{a b:List UInt8}(l:a.length<=1000)(m:b.length<=1000){h:ae}(w:Wf h):FW SS 90 [strOf a,strOf b] h (λv k=>v = .int .i64 (dp a b)/\Ok h k):=by
 refine Hn a b h _ ?_;unfold dp;refine aa (λe=>⟨by rw[if_pos (cj e)],Ok.refl w⟩) (λe=>?_);rw[if_neg (ca e)];refine aa (λd=>⟨by rw[if_pos (.inl (cj d))],Ok.refl w⟩) (λd=>aa (λj=>⟨by rw[if_pos (.inr (cj j))],Ok.refl w⟩) (λj=>?_));rw[if_neg (λc=>c.elim (ca d) (ca j))];refine aa (λf=>⟨by rw[if_pos (.inl (cj f))],Ok.refl w⟩) (λf=>aa (λi=>⟨by rw[if_pos (.inr (cj i))],Ok.refl w⟩) (λi=>?_));rw[if_neg (λc=>c.elim (ca f) (ca i))];refine(Dn a b (by omega) (by omega) w).mono ?_;rintro _ g ⟨rfl,o⟩;exact⟨_,rfl,rfl,o⟩
theorem JV{a b:List UInt8}(g:aM z a=true)(d:aM z b=true){h:ae}(w:Wf h):FW SS 84 [.int .i64 z,strOf a,strOf b] h (λv j=>v = .int .i64 (Gm z a b)/\Ok h j):=by
 refine JU z a b h _ ((jD g w).mono ?_);rintro _ m ⟨rfl,f⟩;refine⟨_,rfl,aa (λe=>by cases e) (λ_=>(jD d f.wf).mono ?_)⟩;rintro _ l ⟨rfl,c⟩;unfold Gm;refine⟨_,rfl,aa (λe=>by cases e) (λ_=>aa (λe=>?_) (λe=>?_))⟩
 ·rw[if_pos (by simpa using e)];refine(lY (pX g) (pX d) c.wf).mono ?_;rintro _ k ⟨rfl,i⟩;exact⟨_,rfl,rfl,(f.trans c).trans i⟩
 ·rw[if_neg (by simpa using e)];refine(lY (pX d) (pX g) c.wf).mono ?_;rintro _ k ⟨rfl,i⟩;exact⟨_,rfl,rfl,(f.trans c).trans i⟩
theorem lh{a:List UInt8}(h:aM z a=true)(b:a≠de)(d:z≠1\/a≠ie):aA a=true:=by
 rcases gB h with rfl|rfl|rfl
 ·rcases mS.1 h with e|e|e
  ·exact absurd e b
  ·exact absurd e (d.resolve_left (λc=>c rfl))
  ·exact e
 ·exact(((il (.inl rfl)).1 h).resolve_left b).1
 ·exact(((il (.inr rfl)).1 h).resolve_left b).1
theorem uB{a b:List UInt8}(j:aM z a=true)(i:aM z b=true){h:ae}(w:Wf h):FW SS 62 [.int .i64 z,strOf a,strOf b] h (oQ h (eO z a b)):=by
 refine PY z a b h _ ((jD j w).mono ?_);rintro _ o ⟨rfl,l⟩;refine⟨_,rfl,aa (λe=>by cases e) (λ_=>(jD i l.wf).mono ?_)⟩;rintro _ n ⟨rfl,k⟩;have d:=l.trans k;unfold eO;refine⟨_,rfl,aa (λe=>by cases e) (λ_=>aa (λe=>?_) (λe=>?_))⟩
 ·rw[if_pos (by simpa using e)];refine(JV i j k.wf).mono ?_;rintro _ m ⟨rfl,g⟩;refine⟨_,rfl,aa (λq=>?_) (λq=>?_)⟩
  ·rw[if_pos (dT q)];exact⟨rfl,d.trans g⟩
  ·rw[if_neg (dF q)];exact⟨rfl,d.trans g⟩
 have e:z=2:=by simpa using e
 rw[if_neg (λc=>c e)];refine aa (λq=>?_) (λq=>aa (λf=>?_) (λf=>?_))
 ·rw[if_pos (.inl (cj q))];exact⟨rfl,d⟩
 ·rw[if_pos (.inr (cj f))];exact⟨rfl,d⟩
 ·rw[if_neg (λc=>c.elim (ca q) (ca f))];refine(Dc (lh j (ca q) (.inl (by omega))) (lh i (ca f) (.inl (by omega))) k.wf).mono ?_;rintro _ m ⟨rfl,g⟩;exact jg (d.trans g)
theorem Dd{a b:List UInt8}(n:aM z a=true)(p:aM z b=true){h:ae}(w:Wf h):FW SS 65 [.int .i64 z,strOf a,strOf b] h (oQ h (dh z a b)):=by
 have x:1<=z/\z<=3:=by have:=gB n;omega
 refine Mh z a b h _ ((jD n w).mono ?_);rintro _ y ⟨rfl,r⟩;refine⟨_,rfl,aa (λe=>by cases e) (λ_=>(jD p r.wf).mono ?_)⟩;rintro _ u ⟨rfl,o⟩;have d:=r.trans o;refine⟨_,rfl,aa (λe=>by cases e) (λ_=>(gX x u).mono ?_)⟩;rintro _ A ⟨rfl,rfl⟩;unfold dh;refine⟨_,rfl,aa (λq=>?_) (λq=>aa (λl=>?_) (λl=>?_))⟩
 ·rw[if_pos (.inl (cj q))];exact⟨rfl,d⟩
 ·rw[if_pos (.inr (cj l))];exact⟨rfl,d⟩
 rw[if_neg (λc=>c.elim (ca q) (ca l))];refine aa (λf=>?_) (λf=>aa (λi=>?_) (λi=>?_))
 ·rw[if_pos (.inl (cj f))];exact⟨rfl,d⟩
 ·rw[if_pos (.inr (cj i))];exact⟨rfl,d⟩
 rw[if_neg (λc=>c.elim (ca f) (ca i))];refine aa (λj=>?_) (λj=>aa (λg=>?_) (λg=>?_))
 ·rw[if_pos (.inl (cj j))];exact⟨rfl,d⟩
 ·rw[if_pos (.inr (cj g))];exact⟨rfl,d⟩
 rw[if_neg (λc=>c.elim (ca j) (ca g))];have t:=lh n (ca f) (.inr (ca j));have s:=lh p (ca i) (.inr (ca g));refine aa (λk=>?_) (λk=>?_)
 ·rw[if_pos (by simpa using k)];refine(Dc t s o.wf).mono ?_;rintro _ v ⟨rfl,m⟩;exact jg (d.trans m)
 ·rw[if_neg (by simpa using k)];refine(Ua t s o.wf).mono ?_;rintro _ v ⟨rfl,m⟩;exact jg (d.trans m)
theorem P0{a:List UInt8}(j:aM z a=true){h:ae}(w:Wf h):FW SS 67 [.int .i64 z,strOf a] h (oQ h (lP z a)):=by
 have x:1<=z/\z<=3:=by have:=gB j;omega
 have n:=pX j;refine PZ z a h _ ((jD j w).mono ?_);rintro _ A ⟨rfl,b⟩;refine⟨_,rfl,aa (λe=>by cases e) (λ_=>(Ho z A).mono ?_)⟩;rintro _ B ⟨rfl,rfl⟩;rw[C6 x];unfold lP;refine⟨_,rfl,aa (λe=>?_) (λe=>aa (λg=>?_) (λg=>?_))⟩
 ·have e:z=1:=by simpa using e
  rw[if_pos e];refine(lY n (by simp) b.wf).mono ?_;rintro _ s ⟨rfl,f⟩;refine⟨_,rfl,aa (λq=>?_) (λq=>?_)⟩
  ·rw[if_pos (dT q)];exact⟨by unfold pE;rw[if_pos e];rfl,b.trans f⟩
  ·rw[if_neg (dF q)];exact⟨rfl,b.trans f⟩
 ·have e:¬z=1:=by simpa using e
  have g:z=3:=by simpa using g
  rw[if_neg e,if_pos g];refine(lY n (by simp) b.wf).mono ?_;rintro _ s ⟨rfl,f⟩;refine⟨_,rfl,aa (λq=>?_) (λq=>?_)⟩
  ·rw[if_pos (dT q)];exact⟨by unfold pE;rw[if_neg e];rfl,b.trans f⟩
  ·rw[if_neg (dF q)];exact⟨rfl,b.trans f⟩
 ·have e:¬z=1:=by simpa using e
  have g:¬z=3:=by simpa using g
  have E:z=2:=by omega
  rw[if_neg e,if_neg g];refine(lY n (by simp) b.wf).mono ?_;rintro _ s ⟨rfl,f⟩;have l:=b.trans f;refine⟨_,rfl,aa (λq=>?_) (λq=>?_)⟩
  ·rw[if_pos (dT q)];exact⟨rfl,l⟩
  have q:=dF q;rw[if_neg q];have u:a≠de:=λc=>q (by rw[c];decide);have i:=lh j u (.inl e);refine(Ue fB i f.wf).mono ?_;rintro _ D ⟨rfl,p⟩;have m:=l.trans p
  cases t:qc [49] (qd a)with
  |none=>exact⟨_,_,rfl,aa (λ_=>⟨rfl,m⟩) (λc=>by cases c)⟩
  | some d=>
   obtain⟨r,o⟩:=pC fB (ud i).1 t;rw[(ud i).2,kZ]at o;have C:bj a<1:=by
    have:=(yT i fB)
    rw[kZ]at this;exact Rat.not_le.1 λc=>q (this.2 c)
   have y:Num.val (Num.numOf d)≠0:=λc=>by
    have k:=(aY.1 r).wk;rw[c,qW]at k;have k:=Rat.num_eq_zero.1 k;rw[o]at k
    grind
   refine⟨_,_,rfl,aa (λc=>by cases c) (λ_=>(T7 fB r y p.wf).mono ?_)⟩;rintro _ F ⟨rfl,v⟩;exact jg (m.trans v)
variable{c:List Value}{d:List Value}{k:Nat}
noncomputable def TJ:FD:=cA Tryz.f190 []
theorem PG(a b:LB)(h:ae)(Q:VH)(E:FW SS 171 [(strOf a)] h λw x=>yB w λv=>au (!v) (Q (.tuple ⟨[(strOf []),(strOf []),(.int .i64 1)]⟩) x) (FW SS 171 [(strOf b)] x λt u=>yB t λs=>au (!s) (Q (.tuple ⟨[(strOf []),(strOf []),(.int .i64 1)]⟩) u) (au ((b:LB)==[48]) (Q (.tuple ⟨[(strOf []),(strOf []),(.int .i64 4)]⟩) u) (FW SS 172 [(strOf a)] u λq r=>yL q λn o p=>FW SS 172 [(strOf b)] r λl m=>yL l λi j k=>FW SS 189 [(.slice n o p),(.slice i j k)] m λg h=>∃(C:OA) (D y:Nat),∃(z:OA) (A B:Nat),g=(.tuple ⟨[(.slice C D y),(.slice z A B)]⟩)/\FW SS 187 [(.slice C D y)] h λe f=>yS e λd=>FW SS 187 [(.slice z A B)] f λb c=>yS b λa=>Q (.tuple ⟨[(strOf d),(strOf a),(.int .i64 0)]⟩) c)))):FW SS 190 [(strOf a),(strOf b)] h Q:=cN TJ Tryz.func190 (ai E)
noncomputable def Un:FD:=cA Tryz.f176 []
theorem Qs(a b:LB)(h:ae)(Q:VH)(i:FW SS 190 [(strOf a),(strOf b)] h λg h=>∃f:LB,∃e:LB,∃d:Int,g=(.tuple ⟨[(strOf f),(strOf e),(.int .i64 d)]⟩)/\FW SS 142 [(strOf f),(.int .i64 d)] h λb c=>yS b λa=>Q (strOf a) c):FW SS 176 [(strOf a),(strOf b)] h Q:=cN Un Tryz.func176 (ai i)
noncomputable def Uo:FD:=cA Tryz.f144 []
theorem Qt(s:Bool)(a b:LB)(h:ae)(Q:VH)(z:xN (bq SS.P 155) h λ_ y=>FW SS 175 [(strOf a),(strOf b)] y λw x=>∃v:LB,∃u:Int,w=(.tuple ⟨[(strOf v),(.int .i64 u)]⟩)/\FW SS 142 [(strOf v),(.int .i64 u)] x λr t=>yS r λq=>au s (FW SS 176 [(strOf a),(strOf q)] t λo p=>yS o λn=>FW SS 176 [(strOf b),(strOf q)] p λl m=>yS l λk=>xA (bh SS.P 155 [(0,(.bool (!((a:LB)==[48])))),(1,(strOf n)),(2,(strOf k))]) λj=>xN (bq SS.P 155) m λ_ i=>xU (ah SS.P 155 (pA (m.next)) (.agg ⟨j⟩) i) i λ_ g=>fP 155 (pA (m.next)) 1 λf=>lS g f λe=>au (decide ((((e:LB).length:Int):Int)>400)) (xA (bh SS.P 176 []) λ_=>False) (fP 155 (pA (m.next)) 2 λd=>lS g d λc=>au (decide ((((c:LB).length:Int):Int)>400)) (xA (bh SS.P 176 []) λ_=>False) (lA 155 g (pA (m.next)) λb=>xU (ah SS.P 155 (pA (h.next)) (.agg ⟨b⟩) g) g λ_ a=>dY SS [((pA (h.next)),some 155)] a Q))) (FW SS 176 [(strOf a),(strOf q)] t λo p=>yS o λn=>FW SS 176 [(strOf b),(strOf q)] p λl m=>yS l λk=>xA (bh SS.P 155 [(0,(.bool false)),(1,(strOf n)),(2,(strOf k))]) λj=>xN (bq SS.P 155) m λ_ i=>xU (ah SS.P 155 (pA (m.next)) (.agg ⟨j⟩) i) i λ_ g=>fP 155 (pA (m.next)) 1 λf=>lS g f λe=>au (decide ((((e:LB).length:Int):Int)>400)) (xA (bh SS.P 176 []) λ_=>False) (fP 155 (pA (m.next)) 2 λd=>lS g d λc=>au (decide ((((c:LB).length:Int):Int)>400)) (xA (bh SS.P 176 []) λ_=>False) (lA 155 g (pA (m.next)) λb=>xU (ah SS.P 155 (pA (h.next)) (.agg ⟨b⟩) g) g λ_ a=>dY SS [((pA (h.next)),some 155)] a Q)))):FW SS 144 [(.bool s),(strOf a),(strOf b)] h Q:=cN Uo Tryz.func144 (ai z)
noncomputable def PO:FD:=cA Tryz.f184 []
theorem L6(s:Bool)(a b:LB)(h:ae)(Q:VH)(n:xN (fi SS.P 155 (.agg ⟨[(.bool s),(strOf a),(strOf b)]⟩)) h λ_ m=>fP 155 (pA (h.next)) 1 λl=>lS m l λk=>fP 155 (pA (h.next)) 0 λj=>lB m j λi=>au i (xS (ay SS.P .add 9 (strOf [45]) (strOf k)) λg=>fP 155 (pA (h.next)) 2 λf=>lS m f λe=>au (!((e:LB)==[49])) (fP 155 (pA (h.next)) 2 λd=>lS m d λc=>xS (ay SS.P .add 9 (strOf [47]) (strOf c)) λb=>xS (ay SS.P .add 9 (strOf g) (strOf b)) λa=>Q (strOf a) m) (Q (strOf g) m)) (fP 155 (pA (h.next)) 2 λf=>lS m f λe=>au (!((e:LB)==[49])) (fP 155 (pA (h.next)) 2 λd=>lS m d λc=>xS (ay SS.P .add 9 (strOf [47]) (strOf c)) λb=>xS (ay SS.P .add 9 (strOf k) (strOf b)) λa=>Q (strOf a) m) (Q (strOf k) m))):FW SS 184 [(.agg ⟨[(.bool s),(strOf a),(strOf b)]⟩)] h Q:=cN PO Tryz.func184 (ai n)
noncomputable def Qm:FD:=cA Tryz.f139 []
theorem Mm(a b:LB)(g:Nat)(s t:LV)(h:ae)(Q:VH)(u:xN (fi SS.P 158 (.func (.func g) ⟨s⟩ ⟨t⟩)) h λ_ r=>FW SS 145 [(strOf a)] r λp q=>∃o:LV,∃n:Bool,p=(.tuple ⟨[(.agg ⟨o⟩),(.bool n)]⟩)/\xN (bq SS.P 155) q λ_ m=>xU (ah SS.P 155 (pA (q.next)) (.agg ⟨o⟩) m) m λ_ l=>FW SS 145 [(strOf b)] l λj k=>∃i:LV,∃g:Bool,j=(.tuple ⟨[(.agg ⟨i⟩),(.bool g)]⟩)/\xN (bq SS.P 155) k λ_ f=>xU (ah SS.P 155 (pA (k.next)) (.agg ⟨i⟩) f) f λ_ e=>au (!n) (Q (.tuple ⟨[(strOf []),(.int .i64 1)]⟩) e) (au (!g) (Q (.tuple ⟨[(strOf []),(.int .i64 1)]⟩) e) (FW SS 166 [(.func (.func 167) ⟨[]⟩ ⟨[(pA (h.next)),(pA (q.next)),(pA (k.next))]⟩)] e λc d=>∃b:LB,∃a:Int,c=(.tuple ⟨[(strOf b),(.int .i64 a)]⟩)/\Q (.tuple ⟨[(strOf b),(.int .i64 a)]⟩) d))):FW SS 139 [(strOf a),(strOf b),(.func (.func g) ⟨s⟩ ⟨t⟩)] h Q:=cN Qm Tryz.func139 (ai u)
noncomputable def Ml:FD:=cA Tryz.f167 []
theorem JX(m l n:Nat)(h:ae)(Q:VH)(o:xN (bq SS.P 155) h λ_ k=>xF (aj SS.P 158 k (pA m)) λg i j=>lA 155 k (pA l) λf=>lA 155 k (pA n) λe=>au (Nat.blt g YB) (FW SS g (i++[(.agg ⟨f⟩),(.agg ⟨e⟩)]++j) k λc d=>yA c λb=>xU (ah SS.P 155 (pA (h.next)) (.agg ⟨b⟩) d) d λ_ a=>dY SS [((pA (h.next)),some 155)] a Q) False):FW SS 167 [(pA m),(pA l),(pA n)] h Q:=cN Ml Tryz.func167 (ai o)
noncomputable def Uk:FD:=cA Tryz.f107 []
theorem Qi(a b:LB)(h:ae)(Q:VH)(e:FW SS 139 [(strOf a),(strOf b),(.func (.func 140) ⟨[]⟩ ⟨[]⟩)] h λc d=>∃b:LB,∃a:Int,c=(.tuple ⟨[(strOf b),(.int .i64 a)]⟩)/\Q (.tuple ⟨[(strOf b),(.int .i64 a)]⟩) d):FW SS 107 [(strOf a),(strOf b)] h Q:=cN Uk Tryz.func107 (ai e)
noncomputable def Qh:FD:=cA Tryz.f140 []
theorem Mj(s t:Bool)(a b c d:LB)(h:ae)(Q:VH)(S:xN (fi SS.P 155 (.agg ⟨[(.bool s),(strOf a),(strOf b)]⟩)) h λ_ F=>xN (fi SS.P 155 (.agg ⟨[(.bool t),(strOf c),(strOf d)]⟩)) F λ_ K=>xN (bq SS.P 155) K λ_ E=>fP 155 (pA (h.next)) 0 λH=>lB (room E 26) H λA=>fP 155 (pA (h.next)) 1 λX=>lS (room E 26) X λU=>fP 155 (pA (F.next)) 2 λT=>lS (room E 26) T λP=>FW SS 143 [(strOf U),(strOf P)] (room E 26) λW J=>∃O:LB,∃N:Int,W=(.tuple ⟨[(strOf O),(.int .i64 N)]⟩)/\FW SS 142 [(strOf O),(.int .i64 N)] J λV G=>yS V λR=>fP 155 (pA (F.next)) 0 λI=>lB G I λB=>fP 155 (pA (F.next)) 1 λL=>lS G L λC=>fP 155 (pA (h.next)) 2 λM=>lS G M λD=>FW SS 143 [(strOf C),(strOf D)] G λy z=>∃x:LB,∃w:Int,y=(.tuple ⟨[(strOf x),(.int .i64 w)]⟩)/\FW SS 142 [(strOf x),(.int .i64 w)] z λu v=>yS u λt=>FW SS 141 [(.bool A),(strOf R),(.bool B),(strOf t)] v λr s=>∃q:Bool,∃p:LB,r=(.tuple ⟨[(.bool q),(strOf p)]⟩)/\(aj SS.P 4 J (.pointer (some H))=some (.bool A)/\dC 4 (.bool A) (.bool A)=true)/\(aj SS.P 4 G (.pointer (some H))=some (.bool A)/\dC 4 (.bool A) (.bool A)=true)/\(aj SS.P 4 z (.pointer (some H))=some (.bool A)/\dC 4 (.bool A) (.bool A)=true)/\(aj SS.P 4 v (.pointer (some H))=some (.bool A)/\dC 4 (.bool A) (.bool A)=true)/\(aj SS.P 4 (room E 26) (.pointer (some I))=some (.bool B)/\dC 4 (.bool B) (.bool B)=true)/\(aj SS.P 4 J (.pointer (some I))=some (.bool B)/\dC 4 (.bool B) (.bool B)=true)/\(aj SS.P 4 z (.pointer (some I))=some (.bool B)/\dC 4 (.bool B) (.bool B)=true)/\(aj SS.P 4 v (.pointer (some I))=some (.bool B)/\dC 4 (.bool B) (.bool B)=true)/\(aj SS.P 9 (room E 26) (.pointer (some L))=some (strOf C)/\dC 4 (strOf C) (strOf C)=true)/\(aj SS.P 9 J (.pointer (some L))=some (strOf C)/\dC 4 (strOf C) (strOf C)=true)/\(aj SS.P 9 (room E 26) (.pointer (some M))=some (strOf D)/\dC 4 (strOf D) (strOf D)=true)/\(aj SS.P 9 J (.pointer (some M))=some (strOf D)/\dC 4 (strOf D) (strOf D)=true)/\fP 155 (pA (h.next)) 2 λo=>lS s o λn=>fP 155 (pA (F.next)) 2 λm=>lS s m λl=>FW SS 143 [(strOf n),(strOf l)] s λj k=>∃i:LB,∃h:Int,j=(.tuple ⟨[(strOf i),(.int .i64 h)]⟩)/\FW SS 142 [(strOf i),(.int .i64 h)] k λf g=>yS f λe=>FW SS 144 [(.bool q),(strOf p),(strOf e)] g λc d=>yA c λb=>xU (ah SS.P 155 (pA (K.next)) (.agg ⟨b⟩) d) d λ_ a=>dY SS [((pA (K.next)),some 155)] a Q):FW SS 140 [(.agg ⟨[(.bool s),(strOf a),(strOf b)]⟩),(.agg ⟨[(.bool t),(strOf c),(strOf d)]⟩)] h Q:=cN Qh Tryz.func140 (ai S)
noncomputable def Um:FD:=cA Tryz.f111 []
theorem Qo(a b:LB)(h:ae)(Q:VH)(e:FW SS 139 [(strOf a),(strOf b),(.func (.func 146) ⟨[]⟩ ⟨[]⟩)] h λc d=>∃b:LB,∃a:Int,c=(.tuple ⟨[(strOf b),(.int .i64 a)]⟩)/\Q (.tuple ⟨[(strOf b),(.int .i64 a)]⟩) d):FW SS 111 [(strOf a),(strOf b)] h Q:=cN Um Tryz.func111 (ai e)
noncomputable def Qn:FD:=cA Tryz.f146 []
theorem Mn(s t:Bool)(a b c d:LB)(h:ae)(Q:VH)(H:xN (fi SS.P 155 (.agg ⟨[(.bool s),(strOf a),(strOf b)]⟩)) h λ_ F=>xN (fi SS.P 155 (.agg ⟨[(.bool t),(strOf c),(strOf d)]⟩)) F λ_ G=>xN (bq SS.P 155) G λ_ C=>fP 155 (pA (h.next)) 0 λD=>lB (room C 23) D λB=>fP 155 (pA (F.next)) 0 λE=>lB (room C 23) E λA=>fP 155 (pA (h.next)) 1 λz=>lS (room C 23) z λy=>fP 155 (pA (F.next)) 1 λx=>lS (room C 23) x λw=>FW SS 143 [(strOf y),(strOf w)] (room C 23) λu v=>∃t:LB,∃s:Int,u=(.tuple ⟨[(strOf t),(.int .i64 s)]⟩)/\FW SS 142 [(strOf t),(.int .i64 s)] v λq r=>yS q λp=>fP 155 (pA (h.next)) 2 λo=>lS r o λn=>fP 155 (pA (F.next)) 2 λm=>lS r m λl=>FW SS 143 [(strOf n),(strOf l)] r λj k=>∃i:LB,∃h:Int,j=(.tuple ⟨[(strOf i),(.int .i64 h)]⟩)/\FW SS 142 [(strOf i),(.int .i64 h)] k λf g=>yS f λe=>FW SS 144 [(.bool (!(B==A))),(strOf p),(strOf e)] g λc d=>yA c λb=>xU (ah SS.P 155 (pA (G.next)) (.agg ⟨b⟩) d) d λ_ a=>(aj SS.P 4 v (.pointer (some D))=some (.bool B)/\dC 4 (.bool B) (.bool B)=true)/\(aj SS.P 4 r (.pointer (some D))=some (.bool B)/\dC 4 (.bool B) (.bool B)=true)/\(aj SS.P 4 k (.pointer (some D))=some (.bool B)/\dC 4 (.bool B) (.bool B)=true)/\(aj SS.P 4 g (.pointer (some D))=some (.bool B)/\dC 4 (.bool B) (.bool B)=true)/\(aj SS.P 4 v (.pointer (some E))=some (.bool A)/\dC 4 (.bool A) (.bool A)=true)/\(aj SS.P 4 r (.pointer (some E))=some (.bool A)/\dC 4 (.bool A) (.bool A)=true)/\(aj SS.P 4 k (.pointer (some E))=some (.bool A)/\dC 4 (.bool A) (.bool A)=true)/\(aj SS.P 4 g (.pointer (some E))=some (.bool A)/\dC 4 (.bool A) (.bool A)=true)/\(aj SS.P 9 (room C 23) (.pointer (some o))=some (strOf n)/\dC 4 (strOf n) (strOf n)=true)/\(aj SS.P 9 v (.pointer (some o))=some (strOf n)/\dC 4 (strOf n) (strOf n)=true)/\(aj SS.P 9 (room C 23) (.pointer (some m))=some (strOf l)/\dC 4 (strOf l) (strOf l)=true)/\(aj SS.P 9 v (.pointer (some m))=some (strOf l)/\dC 4 (strOf l) (strOf l)=true)/\dY SS [((pA (G.next)),some 155)] a Q):FW SS 146 [(.agg ⟨[(.bool s),(strOf a),(strOf b)]⟩),(.agg ⟨[(.bool t),(strOf c),(strOf d)]⟩)] h Q:=cN Qn Tryz.func146 (ai H)
noncomputable def UQ:FD:=cA Tryz.f113 []
theorem QU(a:LB)(h:ae)(Q:VH)(g:FW SS 109 [(strOf a)] h λe f=>yB e λd=>au d (FW SS 149 [(strOf a),(strOf [48])] f λb c=>yI .i64 b λa=>Q (.bool (decide ((a:Int)>=0))) c) (Q (.bool false) f)):FW SS 113 [(strOf a)] h Q:=cN UQ Tryz.func113 (ai g)
noncomputable def Yc:FD:=cA Tryz.f104 []
theorem UC(r:LV)(a:LB)(h:ae)(Q:VH)(l:xN (fi SS.P 99 (.agg ⟨r⟩)) h λ_ k=>au ((a:LB)==[105,110,102]) (Q (.bool true) k) (au ((a:LB)==[45,105,110,102]) (fP 99 (pA (h.next)) 2 λj=>lB k j λi=>au i (Q (.bool true) k) (fP 99 (pA (h.next)) 6 λg=>xF (aj SS.P 97 k (.pointer (some g))) λd e f=>au (Nat.blt d YB) (FW SS d (e++[(strOf a)]++f) k λb c=>yB b λa=>Q (.bool a) c) False)) (fP 99 (pA (h.next)) 6 λg=>xF (aj SS.P 97 k (.pointer (some g))) λd e f=>au (Nat.blt d YB) (FW SS d (e++[(strOf a)]++f) k λb c=>yB b λa=>Q (.bool a) c) False))):FW SS 104 [(.agg ⟨r⟩),(strOf a)] h Q:=cN Yc Tryz.func104 (ai l)
noncomputable def lf:FD:=cA Tryz.f86 [([1,1,1,0,1,0,0],[1,2,8,33,34])]
abbrev ka(a b:LB)(k:Nat)(c:LV)(i:Nat):LV:=[(strOf a),(strOf b),(pA k),(.agg ⟨c⟩),(iA i)]
theorem Kj(t:Int)(a b:LB)(h:ae)(Q:VH)(u:FW SS 69 [(.int .i64 t)] h λr s=>∃q:LV,∃p:Bool,r=(.tuple ⟨[(.agg ⟨q⟩),(.bool p)]⟩)/\xN (bq SS.P 99) s λ_ o=>xU (ah SS.P 99 (pA (s.next)) (.agg ⟨q⟩) o) o λ_ n=>au (!p) (Q (.tuple ⟨[(strOf []),(.int .i64 1)]⟩) n) (lA 99 n (pA (s.next)) λm=>FW SS 104 [(.agg ⟨m⟩),(strOf a)] n λk l=>yB k λj=>au (!j) (Q (.tuple ⟨[(strOf []),(.int .i64 1)]⟩) l) (lA 99 l (pA (s.next)) λi=>FW SS 104 [(.agg ⟨i⟩),(strOf b)] l λg h=>yB g λf=>au (!f) (Q (.tuple ⟨[(strOf []),(.int .i64 1)]⟩) h) (fP 99 (pA (s.next)) 0 λe=>lS h e λd=>xA (bh SS.P 131 [(0,(strOf d)),(1,(strOf [105,110,102])),(2,(strOf [45,105,110,102]))]) λc=>LL SS lf [1,1,1,0,1,0,0] (ka a b (s.next) c 0) h (KK SS lf [1,1,1,0,1,0] [] (EE SS lf Q)))))):FW SS 86 [(.int .i64 t),(strOf a),(strOf b)] h Q:=cN lf Tryz.func86 (ai u)
theorem ve(p:Int)(a b:LB)(k:Nat)(m:LV)(l:Nat->Nat->ae->Prop)(Q:VH)(step:∀(j:Nat) (i:Nat) (o:Nat->Value) (h:ae),l j i h->au (decide (((i:Int):Int)<3)) (xS (bM SS.P 131 (.agg ⟨m⟩) (iA i)) λc=>au ((a:LB)==c) (Q (.tuple ⟨[(strOf c),(.int .i64 0)]⟩) h) (au ((b:LB)==c) (Q (.tuple ⟨[(strOf c),(.int .i64 0)]⟩) h) (aB (eR (ka a b k m) l) j [(strOf a),(strOf b),(pA k),(.agg ⟨m⟩),(.int .i64 (wrap .i64 ((i:Int)+1)))] h))) (fP 99 (pA k) 4 λi=>xF (aj SS.P 95 h (.pointer (some i))) λe f g=>au (Nat.blt e YB) (FW SS e (f++[(strOf a),(strOf b)]++g) h λc d=>∃b:LB,∃a:Int,c=(.tuple ⟨[(strOf b),(.int .i64 a)]⟩)/\Q (.tuple ⟨[(strOf b),(.int .i64 a)]⟩) d) False))(j:Nat){i:Nat}{h:ae}(n:l j i h):LL SS lf [1,1,1,0,1,0,0] (ka a b k m i) h (KK SS lf [1,1,1,0,1,0] [] (EE SS lf Q)):=
 cY (ka a b k m) l (λj i o h n=>ai (step j i o h n)) j n
noncomputable def AR:FD:=cA Tryz.f166 []
theorem YO{Q:eN}(e:xN (bq SS.P 9) h λ_ b=>xN (bq SS.P 30) b λ_ a=>Q .normal (uN [(.func (.func n) ⟨c⟩ ⟨d⟩),undef,(pA (h.next)),(pA (b.next))] 7) a):TT SS AR [0] (uN [(.func (.func n) ⟨c⟩ ⟨d⟩)] 10) h Q:=ai e
theorem YP{g:LV}{j:Value}{Q:eN}(l:au (Nat.blt n YB) (FW SS n (d++[]++g) h λh i=>yA h λf=>FW SS 184 [(.agg ⟨f⟩)] i λo e=>yS o λc=>xU (ah SS.P 9 (pA m) (strOf c) e) e λ_ b=>xU (ah SS.P 30 (pA k) (.int .i64 0) b) b λ_ a=>Q .ret [(.func (.func n) ⟨d⟩ ⟨g⟩),undef,(pA m),(pA k),(.func (.func 184) ⟨[(.agg ⟨f⟩)]⟩ ⟨[]⟩),j,(.func (.func n) ⟨d⟩ ⟨g⟩),(.agg ⟨f⟩),(.func (.func 184) ⟨[(.agg ⟨f⟩)]⟩ ⟨[]⟩),(.func (.func 184) ⟨[(.agg ⟨f⟩)]⟩ ⟨[]⟩),(strOf c)] a) False):TT SS AR [1,1] [(.func (.func n) ⟨d⟩ ⟨g⟩),undef,(pA m),(pA k),undef,j,undef,undef,undef,undef,undef] h Q:=ai l
theorem PH(c:n<10^1000)(k:m<10^1000)(y:0<m){h:ae}(p:nO h)(w:Wf h):FW SS 190 [strOf (ag n),strOf (ag m)] h (λv x=>v=three (ag (n/m)) (ag (n%m)) 0/\Ok h x):=by
 have l:Num.valid (ag n)=true:=ef.2 c;have t:Num.valid (ag m)=true:=ef.2 k;refine PG _ _ h _ ((dE _ h).mono ?_);rintro _ i ⟨rfl,g⟩;obtain rfl:h=i:=g.symm;refine⟨_,rfl,aa (λe=>by rw[l]at e;cases e) (λ_=>(dE _ h).mono ?_)⟩;rintro _ i ⟨rfl,g⟩;obtain rfl:h=i:=g.symm;refine⟨_,rfl,aa (λe=>by rw[t]at e;cases e) (λ_=>aa (λe=>?_) (λ_=>?_))⟩
 ·exact absurd (bI.1 (cj e)) (by omega)
 refine(kD l w).mono ?_;rintro _ H ⟨R,B,M,rfl,j,d⟩;refine⟨_,_,_,rfl,(kD t d.wf).mono ?_⟩;rintro _ I ⟨D,C,Q,rfl,q,a⟩;rw[bu]at j q;have L:=ia c;have U:=ia k;have P:=ia (lt_of_le_of_lt (Nat.div_le_self n m) c);have F:=ia (lt_of_le_of_lt (Nat.mod_le n m) c);refine⟨_,_,_,rfl,(xz (j.rd.ok a) q.rd y (by omega) (by omega) a.wf).mono ?_⟩;rintro _ E ⟨J,A,N,K,S,G,rfl,u,z,f⟩;have s:=(d.trans a).trans f;refine⟨_,_,_,_,_,_,rfl,(oW u (by omega) (p.ok s) f.wf).mono ?_⟩;rintro _ O ⟨rfl,b⟩;have o:=s.trans b;refine⟨_,rfl,(oW (z.ok b) (by omega) (p.ok o) b.wf).mono ?_⟩;rintro _ T ⟨rfl,r⟩;exact⟨_,rfl,rfl,o.trans r⟩
theorem FF(d:n<10^1000)(c:m<10^1000)(g:0<m){h:ae}(f:nO h)(w:Wf h):FW SS 176 [strOf (ag n),strOf (ag m)] h (λv e=>v=strOf (ag (n/m))/\Ok h e):=by
 refine Qs _ _ h _ ((PH d c g f w).mono ?_);rintro _ i ⟨rfl,a⟩;refine⟨_,_,_,rfl,(fq _ _).mono ?_⟩;rintro _ b ⟨rfl,j⟩;obtain rfl:i=b:=j.symm;exact⟨_,rfl,rfl,a⟩
theorem BD{cs0:List Value}(w:Wf h)(e:cs0.length=3)(c:g.get k=some (.cells cs0 155 0 true))(i:h.next<=k)(o:Ok h g)(b:Bool)(n d:List UInt8){Q:VH}(f:∀a,Ok h a->Q (rT b n d) a):
  ∃u:dL,ah SS.P 155 (pA k) (.agg ⟨[.bool b,strOf n,strOf d]⟩) g=some (undef,u)/\dY SS [(pA k,some 155)] (u.app g) Q:=by
 refine⟨_,U2 e c b n d,I8 (v:=rT b n d) (Jt ?_) (f _ (o.set _ i (o.wf _ _ c) w))⟩;show(g.set k _).get k=_;rw[ae.aw,if_pos rfl]
theorem FG(s:Bool){N D:Nat}(F:N<10^1000)(k:D<10^1000)(K:0<D)(h1:(ag (N/Nat.gcd N D)).length<=400)(h2:(ag (D/Nat.gcd N D)).length<=400){h:ae}(t:nO h)(w:Wf h):
  FW SS 144 [.bool s,strOf (ag N),strOf (ag D)] h (λv p=>v=rT (s&&decide (N≠0)) (ag (N/Nat.gcd N D)) (ag (D/Nat.gcd N D))/\Ok h p):=by
 have W:Num.valid (ag N)=true:=ef.2 F;have vD:Num.valid (ag D)=true:=ef.2 k;have Q:0<Nat.gcd N D:=Nat.gcd_pos_of_pos_right N K;have g:Nat.gcd N D<10^1000:=lt_of_le_of_lt (Nat.gcd_le_right N K) k;have n:=(Ok.refl w).push qQ;refine Qt s _ _ h _ ⟨_,vk,(Fu _ _ (t.ok n) n.wf).mono ?_⟩;rintro _ O ⟨rfl,j⟩;rw[xk W vD,bu,bu];refine⟨_,_,rfl,(fq _ _).mono ?_⟩;rintro _ T ⟨rfl,e2⟩;obtain rfl:O=T:=e2.symm;have E:=n.trans j;have f:∀b:Bool,b=(s&&decide (N≠0))->FW SS 176 [strOf (ag N),strOf (ag (Nat.gcd N D))] O λz A=>yS z λP=>FW SS 176 [strOf (ag D),strOf (ag (Nat.gcd N D))] A λM d=>yS M λx=>xA (bh SS.P 155 [(0,(.bool b)),(1,(strOf P)),(2,(strOf x))]) λI=>xN (bq SS.P 155) d λx3 i=>xU (ah SS.P 155 (pA (d.next)) (.agg ⟨I⟩) i) i λx2 a=>xP (aW SS.P 155 (pA (d.next)) 1) λy=>xS (aj SS.P 9 a (.pointer (some y))) λJ=>au (decide ((((J:LB).length:Int):Int)>400)) (xA (bh SS.P 176 []) λx1=>False) (xP (aW SS.P 155 (pA (d.next)) 2) λH=>xS (aj SS.P 9 a (.pointer (some H))) λL=>au (decide ((((L:LB).length:Int):Int)>400)) (xA (bh SS.P 176 []) λx4=>False) (xA (aj SS.P 155 a (pA (d.next))) λB=>xU (ah SS.P 155 (pA (h.next)) (.agg ⟨B⟩) a) a λx0 C=>dY SS [((pA (h.next)),some 155)] C (λv p=>v=rT (s&&decide (N≠0)) (ag (N/Nat.gcd N D)) (ag (D/Nat.gcd N D))/\Ok h p))):=by
  intro b S;refine(FF F g Q (t.ok E) j.wf).mono ?_;rintro _ g3 ⟨rfl,r⟩;have R:=E.trans r;refine⟨_,rfl,(FF k g Q (t.ok R) r.wf).mono ?_⟩;rintro _ U ⟨rfl,m⟩;obtain⟨u,s1,G,l⟩:=Da m.wf b (ag (N/Nat.gcd N D)) (ag (D/Nat.gcd N D));have X:=R.trans m;have Y:=X.trans G;have Z:(u.app (U.push qQ)).get h.next=some qQ:=G.ext _ _ (m.ext _ _ (r.ext _ _ (j.ext _ _ (aI h qQ))));refine⟨_,rfl,_,Y8 _ _ _,_,vk,u,s1,_,pJ _,_,l.l1,aa (λq=>?_) (λ_=>⟨_,lV _,_,l.l2,aa (λq=>?_) (λ_=>⟨_,Jt l,BD w rfl Z (Nat.le_refl _) Y _ _ _ (λg' o=>⟨by rw[S],o⟩)⟩)⟩)⟩
  ·have:=dT q;omega
  ·have:=dT q;omega
 have V:(!(ag N==[48]))=decide (N≠0):=by
  by_cases e:N=0
  ·rw[bI.2 e,e];rfl
  ·rw[decide_eq_true e];have:(ag N==[48])=false:=by
    have:=λc=>e (bI.1 c);simpa using this
   rw[this];rfl
 refine⟨_,rfl,aa (λq=>?_) (λq=>?_)⟩
 ·rw[V];exact f _ (by rw[q,Bool.true_and])
 ·exact f false (by rw[q,Bool.false_and])
theorem IN(b:Bool)(n d:List UInt8):fi SS.P 155 (.agg ⟨[.bool b,strOf n,strOf d]⟩)=some (.cells [.bool b,strOf n,strOf d] 155 0 true,lK):=by kernel_rfl
theorem L7{s:Bool}(l:s=true->n≠0)(t:(ag n).length<=400)(x:(ag m).length<=400){h:ae}(w:Wf h):FW SS 184 [rT s (ag n) (ag m)] h (λv o=>v=strOf (cE s n m)/\Ok h o):=by
 have f:=(Ok.refl w).push (.cells [.bool s,strOf (ag n),strOf (ag m)] 155 0 true);have a:jm (h.push (.cells [.bool s,strOf (ag n),strOf (ag m)] 155 0 true)) h.next s (ag n) (ag m):=aI h _;have b:∀(p:List UInt8),p.length<=2000->(p++(ag n++(if m=1 then[]else 47::ag m))=cE s n m)->xP (aW SS.P 155 (pA (h.next)) 2) λk=>xS (aj SS.P 9 (h.push (.cells [.bool s,strOf (ag n),strOf (ag m)] 155 0 true)) (.pointer (some k))) λr=>au (!((r:LB)==[49])) (xP (aW SS.P 155 (pA (h.next)) 2) λd=>xS (aj SS.P 9 (h.push (.cells [.bool s,strOf (ag n),strOf (ag m)] 155 0 true)) (.pointer (some d))) λj=>xS (ay SS.P .add 9 (strOf [47]) (strOf j)) λi=>xS (ay SS.P .add 9 (strOf (p++ag n)) (strOf i)) λg=>strOf g=strOf (cE s n m)/\Ok h (h.push (.cells [.bool s,strOf (ag n),strOf (ag m)] 155 0 true))) (strOf (p++ag n)=strOf (cE s n m)/\Ok h (h.push (.cells [.bool s,strOf (ag n),strOf (ag m)] 155 0 true))):=λp u e=>by
  refine⟨_,lV _,_,a.l2,aa (λq=>?_) (λq=>⟨?_,f⟩)⟩
  ·have q:ag m≠[49]:=by simpa using q
   rw[if_neg (λc=>q (eh.2 c))]at e;refine⟨_,lV _,_,a.l2,_,re _ _ (by simp;omega),_,re _ _ (by simp;omega),?_,f⟩;rw[<-e,List.append_assoc];rfl
  ·have q:ag m=[49]:=by simpa using q
   rw[if_pos (eh.1 q),List.append_nil]at e;rw[e]
 refine L6 s _ _ h _ ⟨_,IN _ _ _,_,pJ _,_,a.l1,_,rD _,_,a.l0,aa (λq=>?_) (λq=>?_)⟩
 ·exact⟨_,re _ _ (by simp;omega),b [45] (by simp) (Oc ⟨q,l q⟩)⟩
 ·exact b [] (by simp) (HN λc=>by rw[c.1]at q;cases q)
variable{Q:VH}
section
theorem al9:bq SS.P 9=some (.cells [strOf []] 9 0 true,lK):=by kernel_rfl
theorem adh:bq SS.P 30=some (.cells [.int .i64 0] 30 0 true,lK):=by kernel_rfl
theorem zs9:aE SS.P 9=some 1:=by kernel_rfl
theorem aec:aE SS.P 30=some 1:=by kernel_rfl
theorem acN:SS.P.underlying 30=some (.int .i64):=by kernel_rfl
theorem abh:Go.Ab.isAgg SS.P 30=false:=by kernel_rfl
theorem VS:SS.pr 166=some (wC SS.P SS.gl Tryz.f166 (MJ E9) (HE (HE E9)) 5):=by kernel_rfl
theorem Xh(c:aj SS.P 9 g (pA n)=some (strOf s))(a:aj SS.P 30 g (pA m)=some (.int .i64 z))(b:Q (two s z) g):dY SS [(pA n,some 9),(pA m,some 30)] g Q:=by
 unfold dY;simp only[QP,c,a];exact b
theorem aa4{g:Nat}{fa:List Value}(K:Nat.blt g YB=true){s:Bool}{n d:Nat}(I:s=true->n≠0)(E:(ag n).length<=400)(R:(ag d).length<=400){h:ae}(w:Wf h)
  (F:∀p,Ok h p->FW SS g (fa++[]++c) p (λv f=>v=rT s (ag n) (ag d)/\Ok p f)):FW SS 166 [.func (.func g) ⟨fa⟩ ⟨c⟩] h (oQ h (some (cE s n d))):=by
 have o:=(Ok.refl w).push (.cells [strOf []] 9 0 true);have z:=o.push (.cells [.int .i64 0] 30 0 true);have A:=(Ok.refl o.wf).push (.cells [.int .i64 0] 30 0 true);have P:((h.push (.cells [strOf []] 9 0 true)).push (.cells [.int .i64 0] 30 0 true)).get h.next=some (.cells [strOf []] 9 0 true):=A.ext _ _ (aI h _);have N:=aI (h.push (.cells [strOf []] 9 0 true)) (.cells [.int .i64 0] 30 0 true);generalize r:(h.push (.cells [strOf []] 9 0 true)).push (.cells [.int .i64 0] 30 0 true)=G at*;have D:h.next<=(h.push (.cells [strOf []] 9 0 true)).next:=o.nx;have l:h.next≠(h.push (.cells [strOf []] 9 0 true)).next:=by show h.next≠h.next+1;omega
 generalize B:(h.push (.cells [strOf []] 9 0 true)).next=j at*;have m:TT SS AR [1,1] [(.func (.func g) ⟨fa⟩ ⟨c⟩),undef,(pA h.next),(pA j),undef,iL,undef,undef,undef,undef,undef] G (λx b f=>x = .ret/\EE SS AR (oQ h (some (cE s n d))) .ret b f):=by
  refine YP (aa (λ_=>(F _ z).mono ?_) (λe=>by rw[K]at e;cases e));rintro _ U ⟨rfl,u⟩;refine⟨_,rfl,(L7 I E R u.wf).mono ?_⟩;rintro _ q ⟨rfl,L⟩;have a:=u.trans L;have y:=a.ext _ _ P;have T:=a.ext _ _ N;have t:=(z.trans a).set (.cells [strOf (cE s n d)] 9 0 true) (Nat.le_refl _) (a.wf _ _ y) w;have k:(q.set h.next (.cells [strOf (cE s n d)] 9 0 true)).get j=some (.cells [.int .i64 0] 30 0 true):=by rw[ae.aw,if_neg (λe=>l e.symm)];exact T
  refine⟨_,rfl,_,iX zs9 y (i:=0) (by simp) (v:=strOf (cE s n d)) rfl rfl,_,iX aec k (i:=0) (by simp) (v:= .int .i64 0) rfl rfl,rfl,?_⟩;have S:=t.set (.cells [.int .i64 0] 30 0 true) D (t.wf _ _ k) w;have C:((q.set h.next (.cells [strOf (cE s n d)] 9 0 true)).set j (.cells [.int .i64 0] 30 0 true)).get j=some (.cells [.int .i64 0] 30 0 true):=by rw[ae.aw,if_pos rfl]
  have J:((q.set h.next (.cells [strOf (cE s n d)] 9 0 true)).set j (.cells [.int .i64 0] 30 0 true)).get h.next=some (.cells [strOf (cE s n d)] 9 0 true):=by rw[ae.aw,if_neg l,ae.aw,if_pos rfl]
  have H:=Xh (Q:=oQ h (some (cE s n d))) (cx KT Rt J (i:=0) (by simp)) (cx acN abh C (i:=0) (by simp)) ⟨rfl,S⟩;exact ai H
 have O:TT SS AR [0] (uN [(.func (.func g) ⟨fa⟩ ⟨c⟩)] 10) h (λx b M=>x = .normal/\TT SS AR [1,1] (b.set 5 iL) M λx b f=>x = .ret/\EE SS AR (oQ h (some (cE s n d))) .ret b f):=by
  refine YO ⟨_,al9,_,adh,rfl,?_⟩;rw[r,B];exact ai m
 exact S1 AR VS (ai O)
theorem FK{s:Bool}{c:List UInt8}(b:0<m)(a:lO s n m=some c):(ag (n/Nat.gcd n m)).length<=400/\(ag (m/Nat.gcd n m)).length<=400/\c=cE (s&&decide (n≠0)) (n/Nat.gcd n m) (m/Nat.gcd n m)/\((s&&decide (n≠0))=true->n/Nat.gcd n m≠0):=by
 unfold lO at a;split at a
 ·cases a
 ·next q=>
  obtain rfl:=oI a;refine⟨by omega,by omega,?_,λe=>?_⟩
  ·unfold cE;by_cases e:n=0
   ·subst e;rw[Nat.zero_div,if_neg (show ¬(s=true/\(0:Nat)≠0)from λc=>c.2 rfl),if_neg (show ¬((s&&decide ((0:Nat)≠0))=true/\(0:Nat)≠0)from λc=>c.2 rfl)]
   ·rw[decide_eq_true e,Bool.and_true]
  ·rw[and_eq_true,decide_eq_true_eq]at e;have d:0<Nat.gcd n m:=Nat.gcd_pos_of_pos_right n b;exact Nat.ne_of_gt (Nat.div_pos (Nat.le_of_dvd (Nat.pos_of_ne_zero e.2) (Nat.gcd_dvd_left n m)) d)
abbrev Xz(a:List UInt8):Value:=rT (Num.isNeg a) (Num.numOf a) (ak a)
section
variable {a b:List UInt8} {h:ae}
theorem abS(w:Wf h)(a b c:dP):Ok h (((h.push a).push b).push c)/\(((h.push a).push b).push c).get h.next=some a/\(((h.push a).push b).push c).get (h.push a).next=some b/\(((h.push a).push b).push c).get ((h.push a).push b).next=some c:=by
 have f:=(Ok.refl w).push a;have e:=(Ok.refl f.wf).push b;have d:=(Ok.refl e.wf).push c;exact⟨(f.trans e).trans d,d.ext _ _ (e.ext _ _ (aI _ _)),d.ext _ _ (aI _ _),aI _ _⟩
theorem Mk(d:gM a)(c:gM b)(m:nO h)(w:Wf h){N D:Nat}{s:Bool}(M:s=(dD (Num.isNeg a) (Num.val (Num.numOf a)*Num.val (ak b)) (Num.isNeg b) (Num.val (Num.numOf b)*Num.val (ak a))).1)(B:N=(dD (Num.isNeg a) (Num.val (Num.numOf a)*Num.val (ak b)) (Num.isNeg b) (Num.val (Num.numOf b)*Num.val (ak a))).2)(q:D=Num.val (ak a)*Num.val (ak b))
  (Q:(ag (N/Nat.gcd N D)).length<=400) (S:(ag (D/Nat.gcd N D)).length<=400):
  FW SS 140 [Xz a,Xz b] h (λv T=>v=rT (s&&decide (N≠0)) (ag (N/Nat.gcd N D)) (ag (D/Nat.gcd N D))/\Ok h T):=by
 obtain⟨k,f,e,X⟩:=abS w (.cells [.bool (Num.isNeg a),strOf (Num.numOf a),strOf (ak a)] 155 0 true) (.cells [.bool (Num.isNeg b),strOf (Num.numOf b),strOf (ak b)] 155 0 true) qQ;refine Mj _ _ _ _ _ _ h _ ⟨_,IN _ _ _,_,IN _ _ _,_,vk,?_⟩;have z:h.next<=((h.push (.cells [.bool (Num.isNeg a),strOf (Num.numOf a),strOf (ak a)] 155 0 true)).push (.cells [.bool (Num.isNeg b),strOf (Num.numOf b),strOf (ak b)] 155 0 true)).next:=Nat.le_trans (le_succ _) (le_succ _);generalize (((h.push (.cells [.bool (Num.isNeg a),strOf (Num.numOf a),strOf (ak a)] 155 0 true)).push (.cells [.bool (Num.isNeg b),strOf (Num.numOf b),strOf (ak b)] 155 0 true)).push qQ)=p at*;generalize ((h.push (.cells [.bool (Num.isNeg a),strOf (Num.numOf a),strOf (ak a)] 155 0 true)).push (.cells [.bool (Num.isNeg b),strOf (Num.numOf b),strOf (ak b)] 155 0 true)).next=k3 at*;generalize (h.push (.cells [.bool (Num.isNeg a),strOf (Num.numOf a),strOf (ak a)] 155 0 true)).next=K at*;have f:jm p h.next (Num.isNeg a) (Num.numOf a) (ak a):=f;have e:jm p K (Num.isNeg b) (Num.numOf b) (ak b):=e;have i:Ok p (Go.Ab.room p 26):=(Ok.refl k.wf).room 26;refine⟨_,rD _,_,(f.ok i).l0,_,pJ _,_,(f.ok i).l1,_,lV _,_,(e.ok i).l2,(mB _ _ (m.ok (k.trans i)) i.wf).mono ?_⟩;rintro _ Y ⟨rfl,W⟩;rw[(db d.num c.den d.ln c.ld).1];refine⟨_,_,rfl,(fq _ _).mono ?_⟩;rintro _ y ⟨rfl,n⟩;obtain rfl:Y=y:=n.symm;have g:=i.trans W;have u:=k.trans g;refine⟨_,rfl,_,rD _,_,(e.ok g).l0,_,pJ _,_,(e.ok g).l1,_,lV _,_,(f.ok g).l2,(mB _ _ (m.ok u) g.wf).mono ?_⟩;rintro _ J ⟨rfl,O⟩;rw[(db c.num d.den c.ln d.ld).1];refine⟨_,_,rfl,(fq _ _).mono ?_⟩;rintro _ C ⟨rfl,n⟩;obtain rfl:J=C:=n.symm;have j:=g.trans O;have R:=k.trans j;have x:=(db d.num c.den d.ln c.ld).2;have I:=(db c.num d.den c.ln d.ld).2;refine⟨_,rfl,(Dj _ _ _ _ x I (m.ok R) j.wf).mono ?_⟩;rintro _ g5 ⟨rfl,P⟩;have l:=j.trans P;have V:=k.trans l;have G:=NT (s:=Num.isNeg a) (t:=Num.isNeg b) x I;refine⟨_,_,rfl,⟨(f.ok g).l0,jj _⟩,⟨(f.ok g).l0,jj _⟩,⟨(f.ok j).l0,jj _⟩,⟨(f.ok j).l0,jj _⟩,⟨(e.ok i).l0,jj _⟩,⟨(e.ok g).l0,jj _⟩,⟨(e.ok j).l0,jj _⟩,⟨(e.ok j).l0,jj _⟩,⟨(e.ok i).l1,kM _⟩,⟨(e.ok g).l1,kM _⟩,⟨(f.ok i).l2,kM _⟩,⟨(f.ok g).l2,kM _⟩,_,lV _,_,(f.ok l).l2,_,lV _,_,(e.ok l).l2,(mB _ _ (m.ok V) l.wf).mono ?_⟩;rintro _ U ⟨rfl,L⟩;rw[(db d.den c.den d.ld c.ld).1];refine⟨_,_,rfl,(fq _ _).mono ?_⟩;rintro _ E ⟨rfl,n⟩;obtain rfl:U=E:=n.symm;have r:=l.trans L;have A:=k.trans r;have F:=pO (db d.den c.den d.ld c.ld).2;rw[<-B]at G;rw[<-M,<-B,<-q];rw[<-q]at F;refine⟨_,rfl,(FG s G F (by rw[q];exact mul_pos d.den_pos c.den_pos) Q S (m.ok A) r.wf).mono ?_⟩;rintro _ g7 ⟨rfl,H⟩;exact⟨_,rfl,BD w (cs0:=[.bool false,strOf [],strOf []]) rfl ((r.trans H).ext _ _ X) z (A.trans H) _ _ _ (λZ o=>⟨rfl,o⟩)⟩
theorem Mo(g:gM a)(f:gM b)(p:nO h)(w:Wf h){N D:Nat}{s:Bool}(I:s=(Num.isNeg a !=Num.isNeg b))(B:N=Num.val (Num.numOf a)*Num.val (Num.numOf b))(m:D=Num.val (ak a)*Num.val (ak b))
  (K:(ag (N/Nat.gcd N D)).length<=400) (M:(ag (D/Nat.gcd N D)).length<=400):
  FW SS 146 [Xz a,Xz b] h (λv n=>v=rT (s&&decide (N≠0)) (ag (N/Nat.gcd N D)) (ag (D/Nat.gcd N D))/\Ok h n):=by
 obtain⟨l,e,c,R⟩:=abS w (.cells [.bool (Num.isNeg a),strOf (Num.numOf a),strOf (ak a)] 155 0 true) (.cells [.bool (Num.isNeg b),strOf (Num.numOf b),strOf (ak b)] 155 0 true) qQ;refine Mn _ _ _ _ _ _ h _ ⟨_,IN _ _ _,_,IN _ _ _,_,vk,?_⟩;have y:h.next<=((h.push (.cells [.bool (Num.isNeg a),strOf (Num.numOf a),strOf (ak a)] 155 0 true)).push (.cells [.bool (Num.isNeg b),strOf (Num.numOf b),strOf (ak b)] 155 0 true)).next:=Nat.le_trans (le_succ _) (le_succ _);generalize (((h.push (.cells [.bool (Num.isNeg a),strOf (Num.numOf a),strOf (ak a)] 155 0 true)).push (.cells [.bool (Num.isNeg b),strOf (Num.numOf b),strOf (ak b)] 155 0 true)).push qQ)=k at*;generalize ((h.push (.cells [.bool (Num.isNeg a),strOf (Num.numOf a),strOf (ak a)] 155 0 true)).push (.cells [.bool (Num.isNeg b),strOf (Num.numOf b),strOf (ak b)] 155 0 true)).next=V at*;generalize (h.push (.cells [.bool (Num.isNeg a),strOf (Num.numOf a),strOf (ak a)] 155 0 true)).next=G at*;have e:jm k h.next (Num.isNeg a) (Num.numOf a) (ak a):=e;have c:jm k G (Num.isNeg b) (Num.numOf b) (ak b):=c;have i:Ok k (Go.Ab.room k 23):=(Ok.refl l.wf).room 23;refine⟨_,rD _,_,(e.ok i).l0,_,rD _,_,(c.ok i).l0,_,pJ _,_,(e.ok i).l1,_,pJ _,_,(c.ok i).l1,(mB _ _ (p.ok (l.trans i)) i.wf).mono ?_⟩;rintro _ S ⟨rfl,O⟩;rw[(db g.num f.num g.ln f.ln).1];refine⟨_,_,rfl,(fq _ _).mono ?_⟩;rintro _ x ⟨rfl,q⟩;obtain rfl:S=x:=q.symm;have d:=i.trans O;have r:=l.trans d;refine⟨_,rfl,_,lV _,_,(e.ok d).l2,_,lV _,_,(c.ok d).l2,(mB _ _ (p.ok r) d.wf).mono ?_⟩;rintro _ F ⟨rfl,J⟩;rw[(db g.den f.den g.ld f.ld).1];refine⟨_,_,rfl,(fq _ _).mono ?_⟩;rintro _ C ⟨rfl,q⟩;obtain rfl:F=C:=q.symm;have j:=d.trans J;have A:=l.trans j;have t:=pO (db g.num f.num g.ln f.ln).2;have E:=pO (db g.den f.den g.ld f.ld).2;have L:(!(Num.isNeg a==Num.isNeg b))=s:=by rw[I];rfl
 rw[L];rw[<-B,<-m];rw[<-B]at t;rw[<-m]at E;refine⟨_,rfl,(FG s t E (by rw[m];exact mul_pos g.den_pos f.den_pos) K M (p.ok A) j.wf).mono ?_⟩;rintro _ U ⟨rfl,z⟩;obtain⟨u,P,H⟩:=BD w (cs0:=[.bool false,strOf [],strOf []]) rfl ((j.trans z).ext _ _ R) y (A.trans z) (s&&decide (N≠0)) (ag (N/Nat.gcd N D)) (ag (D/Nat.gcd N D)) (Q:=λv n=>v=rT (s&&decide (N≠0)) (ag (N/Nat.gcd N D)) (ag (D/Nat.gcd N D))/\Ok h n) (λT o=>⟨rfl,o⟩);exact⟨_,rfl,u,P,⟨(e.ok d).l0,jj _⟩,⟨(e.ok d).l0,jj _⟩,⟨(e.ok j).l0,jj _⟩,⟨(e.ok j).l0,jj _⟩,⟨(c.ok d).l0,jj _⟩,⟨(c.ok d).l0,jj _⟩,⟨(c.ok j).l0,jj _⟩,⟨(c.ok j).l0,jj _⟩,⟨(e.ok i).l2,kM _⟩,⟨(e.ok d).l2,kM _⟩,⟨(c.ok i).l2,kM _⟩,⟨(c.ok d).l2,kM _⟩,H⟩
end
end
section
noncomputable def aaU:TypeDesc:=(SS.P.underlying 158).getD .bool
theorem acK:SS.P.underlying 158=some aaU:=by kernel_rfl
theorem abg:Go.Ab.isAgg SS.P 158=false:=by kernel_rfl
theorem abZ(f:Nat):fi SS.P 158 (oO f)=some (.cells [oO f] 158 0 true,lK):=by kernel_rfl
section
variable {a b:List UInt8} {h:ae} {s:Bool} {n d f k1 k2 k3:Nat}
theorem SA(w:Wf h)(r:h.get k1=some (.cells [oO f] 158 0 true))(p:jm h k2 (Num.isNeg a) (Num.numOf a) (ak a))(t:jm h k3 (Num.isNeg b) (Num.numOf b) (ak b))(m:Nat.blt f YB=true)
  (l:∀j,Ok h j->FW SS f [Xz a,Xz b] j (λv g=>v=rT s (ag n) (ag d)/\Ok j g)):FW SS 167 [pA k1,pA k2,pA k3] h (λv g=>v=rT s (ag n) (ag d)/\Ok h g):=by
 have c:=(Ok.refl w).push qQ;have q:=cx acK abg (c.ext _ _ r) (i:=0) (by simp);refine JX k1 k2 k3 h _ ⟨_,vk,f,[],[],q,_,Jt (p.ok c),_,Jt (t.ok c),aa (λ_=>(l _ c).mono ?_) (λe=>by rw[m]at e;cases e)⟩;rintro _ x ⟨rfl,k⟩;exact⟨_,rfl,BD w (cs0:=[.bool false,strOf [],strOf []]) rfl (k.ext _ _ (aI h _)) (Nat.le_refl _) (c.trans k) _ _ _ (λu o=>⟨rfl,o⟩)⟩
theorem JQ{a:List UInt8}(b:aA a=true):rZ a = .tuple ⟨[Xz a,.bool true]⟩:=by unfold rZ;rw[if_pos b]
theorem Nw(t:aA a=true)(q:aA b=true)(u:nO h)(w:Wf h)(F:s=true->n≠0)(z:(ag n).length<=400)(J:(ag d).length<=400)(H:Nat.blt f YB=true)
  (A:∀j,Ok h j->FW SS f [Xz a,Xz b] j (λv r=>v=rT s (ag n) (ag d)/\Ok j r)):FW SS 139 [strOf a,strOf b,oO f] h (oQ h (some (cE s n d))):=by
 have M:=lZ t;have N:=lZ q;have l:=(Ok.refl w).push (.cells [oO f] 158 0 true);refine Mm a b f [] [] h _ ⟨_,abZ f,(nh a (by omega) (u.ok l) l.wf).mono ?_⟩;rintro _ K ⟨rfl,p⟩;rw[JQ t];obtain⟨E,I,m,D⟩:=Da p.wf (Num.isNeg a) (Num.numOf a) (ak a);have k2:=(l.trans p).trans m;refine⟨_,_,rfl,_,vk,E,I,(nh b (by omega) (u.ok k2) m.wf).mono ?_⟩;rintro _ O ⟨rfl,k⟩;rw[JQ q];obtain⟨x,C,i,y⟩:=Da k.wf (Num.isNeg b) (Num.numOf b) (ak b);have k3:=(k2.trans k).trans i;have B:=(((p.trans m).trans k).trans i).ext _ _ (aI h (.cells [oO f] 158 0 true));refine⟨_,_,rfl,_,vk,x,C,aa (λe=>by cases e) (λ_=>aa (λe=>by cases e) (λ_=>?_))⟩;refine(aa4 (g:=167) (fa:=[]) (by decide +kernel) F z J i.wf (λj c=>SA c.wf (c.ext _ _ B) (((D.ok k).ok i).ok c) (y.ok c) H (λr o=>A _ ((k3.trans c).trans o)))).mono ?_;rintro _ L ⟨rfl,G⟩;exact jg (k3.trans G)
theorem Qj{c:List UInt8}(l:aA a=true)(d:aA b=true)(p:qc a b=some c)(m:nO h)(w:Wf h):FW SS 107 [strOf a,strOf b] h (oQ h (some c)):=by
 have j:=aY.1 l;have i:=aY.1 d;obtain⟨e,k,rfl,n⟩:=FK (mul_pos j.den_pos i.den_pos) p;refine Qi a b h _ ((Nw (f:=140) l d m w n e k (by decide +kernel) (λq o=>Mk j i (m.ok o) o.wf rfl rfl rfl e k)).mono ?_);rintro _ g ⟨rfl,o⟩;exact jg o
theorem Qp{c:List UInt8}(l:aA a=true)(d:aA b=true)(p:B8 a b=some c)(m:nO h)(w:Wf h):FW SS 111 [strOf a,strOf b] h (oQ h (some c)):=by
 have j:=aY.1 l;have i:=aY.1 d;obtain⟨e,k,rfl,n⟩:=FK (mul_pos j.den_pos i.den_pos) p;refine Qo a b h _ ((Nw (f:=146) l d m w n e k (by decide +kernel) (λq o=>Mo j i (m.ok o) o.wf rfl rfl rfl e k)).mono ?_);rintro _ g ⟨rfl,o⟩;exact jg o
theorem QV(c:a.length<=1000000000)(d:nO h)(w:Wf h):FW SS 113 [strOf a] h (λv g=>v = .bool (aA a&&decide (0<=cZ a [48]))/\Ok h g):=by
 refine QU a h _ ((pT a c d w).mono ?_);rintro _ i ⟨rfl,b⟩;refine⟨_,rfl,aa (λq=>(FE a [48] c (by simp) (d.ok b) b.wf).mono ?_) (λq=>⟨by rw[q];rfl,b⟩)⟩;rintro _ f ⟨rfl,e⟩;refine⟨_,rfl,?_,b.trans e⟩;rw[q,Bool.true_and]
end
theorem aaf(k:Nat):aW SS.P 99 (pA k) 0=some (.pointer (some ⟨k,0,none⟩)):=by kernel_rfl
theorem aah(k:Nat):aW SS.P 99 (pA k) 2=some (.pointer (some ⟨k,2,none⟩)):=by kernel_rfl
theorem aai(k:Nat):aW SS.P 99 (pA k) 4=some (.pointer (some ⟨k,4,none⟩)):=by kernel_rfl
theorem SV(k:Nat):aW SS.P 99 (pA k) 6=some (.pointer (some ⟨k,6,none⟩)):=by kernel_rfl
noncomputable def acT:TypeDesc:=(SS.P.underlying 95).getD .bool
theorem ad7:SS.P.underlying 95=some acT:=by kernel_rfl
theorem adg:Go.Ab.isAgg SS.P 95=false:=by kernel_rfl
theorem adt(a b:List UInt8)(l:Bool)(f c g d e:Nat):fi SS.P 99 (.agg ⟨[strOf a,strOf b,.bool l,oO f,oO c,oO g,oO d,oO e]⟩)=some (.cells [strOf a,strOf b,.bool l,oO f,oO c,oO g,oO d,oO e] 99 0 true,lK):=by kernel_rfl
def AJ(kind:Int):List Value:=if kind=1 then yl else if kind=2 then ym else yp
theorem Ka{kind:Int}(d:1<=kind/\kind<=3):∃b c a:Nat,AJ kind=[strOf (bH kind),strOf (pE kind),.bool (kind==1),oO b,oO (if kind=1 then 107 else 111),oO c,oO (if kind=1 then 109 else 113),oO a]:=by
 have:kind=1\/kind=2\/kind=3:=by omega
 rcases this with rfl|rfl|rfl
 ·exact⟨106,108,109,rfl⟩
 ·exact⟨110,112,114,rfl⟩
 ·exact⟨106,115,114,rfl⟩
theorem aat{kind:Int}(a:1<=kind/\kind<=3):XD kind = .tuple ⟨[.agg ⟨AJ kind⟩,.bool true]⟩:=by
 have:kind=1\/kind=2\/kind=3:=by omega
 rcases this with rfl|rfl|rfl<;>rfl
section
variable {kind:Int} {a b:List UInt8} {h:ae}
theorem J9(p:1<=kind/\kind<=3)(o:a.length<=1000000000)(s:nO h)(w:Wf h):FW SS 104 [.agg ⟨AJ kind⟩,strOf a] h (λv g=>v = .bool (aM kind a)/\Ok h g):=by
 obtain⟨y,z,u,G⟩:=Ka p;rw[G];have m:aM kind a=(a==[105,110,102]||a==[45,105,110,102]&&kind==1||aA a&&(kind==1||decide (0<=cZ a [48]))):=by
  unfold aM;rw[decide_eq_true p,Bool.true_and]
 have d:=(Ok.refl w).push (.cells [strOf (bH kind),strOf (pE kind),.bool (kind==1),oO y,oO (if kind=1 then 107 else 111),oO z,oO (if kind=1 then 109 else 113),oO u] 99 0 true);have t:=aI h (.cells [strOf (bH kind),strOf (pE kind),.bool (kind==1),oO y,oO (if kind=1 then 107 else 111),oO z,oO (if kind=1 then 109 else 113),oO u] 99 0 true);have F:=cx un4 ag4 t (i:=2) (by simp);have r:=cx acU abk t (i:=6) (by simp);have call:∀k,Ok h k->a≠[105,110,102]->(a==[45,105,110,102]&&kind==1)=false->au (Nat.blt (if kind=1 then 109 else 113) YB) (FW SS (if kind=1 then 109 else 113) ([]++[strOf a]++[]) k λE x=>yB E λn=>(.bool n:Value) = .bool (aM kind a)/\Ok h x) False:=by
  intro k b A D;have B:aM kind a=(aA a&&(kind==1||decide (0<=cZ a [48]))):=by
   rw[m,D,Bool.or_false];have:(a==[105,110,102])=false:=by simpa using A
   rw[this,Bool.false_or]
  rw[B];by_cases c:kind=1
  ·subst c;refine aa (λ_=>(pT a o (s.ok b) b.wf).mono ?_) (λe=>by revert e;decide +kernel);rintro _ C ⟨rfl,l⟩;exact⟨_,rfl,by simp,b.trans l⟩
  ·rw[if_neg c];refine aa (λ_=>(QV o (s.ok b) b.wf).mono ?_) (λe=>by revert e;decide +kernel);rintro _ C ⟨rfl,l⟩;refine⟨_,rfl,?_,b.trans l⟩;have:(kind==1)=false:=by simpa using c
   rw[this,Bool.false_or]
 refine UC _ a h _ ⟨_,adt _ _ _ _ _ _ _ _,aa (λq=>⟨by rw[m,q];rfl,d⟩) (λq=>aa (λj=>⟨_,aah _,_,F,aa (λf=>⟨?_,d⟩) (λf=>?_)⟩) (λj=>?_))⟩
 ·rw[m,j,f];simp
 ·refine⟨_,SV _,_,[],[],r,call _ d (ca q) (by rw[f,Bool.and_false])⟩
 ·exact⟨_,SV _,_,[],[],r,call _ d (ca q) (by rw[j,Bool.false_and])⟩
theorem abV(a b c:List UInt8):bh SS.P 131 [(0,strOf a),(1,strOf b),(2,strOf c)]=some (.agg ⟨[strOf a,strOf b,strOf c]⟩):=by kernel_rfl
theorem Xo(a b c:List UInt8):bM SS.P 131 (.agg ⟨[strOf a,strOf b,strOf c]⟩) (iA 0)=some (strOf a):=by kernel_rfl
theorem Xp(a b c:List UInt8):bM SS.P 131 (.agg ⟨[strOf a,strOf b,strOf c]⟩) (iA 1)=some (strOf b):=by kernel_rfl
theorem Xq(a b c:List UInt8):bM SS.P 131 (.agg ⟨[strOf a,strOf b,strOf c]⟩) (iA 2)=some (strOf c):=by kernel_rfl
theorem Kk{c:List UInt8}(t:aM kind a=true)(D:aM kind b=true)(d:dh kind a b=some c)(x:nO h)(w:Wf h):FW SS 86 [.int .i64 kind,strOf a,strOf b] h (oQ h (some c)):=by
 have v:1<=kind/\kind<=3:=by have:=gB t;omega
 have W:=pX t;have Y:=pX D;refine Kj kind a b h _ ((Du kind w).mono ?_);rintro _ r ⟨rfl,E⟩;rw[aat v];obtain⟨f1,f3,X,y⟩:=Ka v;have F:(AJ kind).length=8:=by rw[y];rfl
 have O:(AJ kind).all dM=true:=by rw[y];rfl
 refine⟨_,_,rfl,_,RT,_,kV DG rfl (aI r KP) F O,?_⟩;obtain⟨H,k2⟩:=pa (cs:=AJ kind) E.wf ((Ok.refl E.wf).push KP) (aI r KP) (Nat.le_refl _);generalize (dL.set r.next (.cells (AJ kind) 99 0 true)).app (r.push KP)=P at*;have B:=E.trans H;have z:∀g,Ok P g->aj SS.P 99 g (pA r.next)=some (.agg ⟨AJ kind⟩):=λg o=>by
  rw[pN acW abl DG (o.ext _ _ k2) (by omega),drop_zero,take_of_length_le (by omega)]
 refine aa (λe=>by cases e) (λ_=>⟨_,z _ (Ok.refl H.wf),(J9 v (by omega) (x.ok B) H.wf).mono ?_⟩);rintro _ Z ⟨rfl,u⟩;have A:=B.trans u;refine⟨_,rfl,aa (λe=>by rw[t]at e;cases e) (λ_=>⟨_,z _ u,(J9 v (by omega) (x.ok A) u.wf).mono ?_⟩)⟩;rintro _ Q ⟨rfl,s⟩;have f:=A.trans s;have C:=u.trans s;have N:=cx KT Rt (C.ext _ _ k2) (i:=0) (by omega);rw[y]at N;have M:=cx ad7 adg (C.ext _ _ k2) (i:=4) (by omega);rw[y]at M;refine⟨_,rfl,aa (λe=>by rw[D]at e;cases e) (λ_=>⟨_,aaf _,_,N,_,abV _ _ _,?_⟩)⟩;unfold dh at d;refine ve kind a b r.next [strOf (bH kind),strOf [105,110,102],strOf [45,105,110,102]] (λJ i g=>i<=3/\J=3-i/\g=Q/\(1<=i->a≠bH kind/\b≠bH kind)/\(2<=i->a≠de/\b≠de)/\(3<=i->a≠ie/\b≠ie)) _ (λJ i=>?_) 3 (i:=0) ⟨by omega,rfl,rfl,λe=>by omega,λe=>by omega,λe=>by omega⟩;intros;rename_i g I;obtain⟨U,V,rfl,j,m,p⟩:=I;refine aa (λq=>?_) (λq=>?_)
 ·have S:i=0\/i=1\/i=2:=by have:=dT q;omega
  have R:wrap .i64 ((i:Int)+1)=((i+1:Nat):Int):=aJ (n:=3) (by omega) (by omega);rw[R];rcases S with rfl|rfl|rfl
  ·refine⟨_,Xo _ _ _,aa (λl=>⟨?_,f⟩) (λl=>aa (λk=>⟨?_,f⟩) (λk=>?_))⟩
   ·rw[if_pos (.inl (cj l))]at d;rw[<-d];rfl
   ·rw[if_pos (.inr (cj k))]at d;rw[<-d];rfl
   ·exact bY 2 (by omega) ⟨by omega,rfl,rfl,λ_=>⟨ca l,ca k⟩,λe=>by omega,λe=>by omega⟩
  ·have j:=j (by omega);rw[if_neg (λe=>e.elim j.1 j.2)]at d;refine⟨_,Xp _ _ _,aa (λl=>⟨?_,f⟩) (λl=>aa (λk=>⟨?_,f⟩) (λk=>?_))⟩
   ·rw[if_pos (.inl (cj l))]at d;rw[<-d];rfl
   ·rw[if_pos (.inr (cj k))]at d;rw[<-d];rfl
   ·exact bY 1 (by omega) ⟨by omega,rfl,rfl,λ_=>j,λe=>⟨ca l,ca k⟩,λe=>by omega⟩
  ·have j:=j (by omega);have m:=m (by omega);rw[if_neg (λe=>e.elim j.1 j.2),if_neg (λe=>e.elim m.1 m.2)]at d;refine⟨_,Xq _ _ _,aa (λl=>⟨?_,f⟩) (λl=>aa (λk=>⟨?_,f⟩) (λk=>?_))⟩
   ·rw[if_pos (.inl (cj l))]at d;rw[<-d];rfl
   ·rw[if_pos (.inr (cj k))]at d;rw[<-d];rfl
   ·exact bY 0 (by omega) ⟨by omega,rfl,rfl,λ_=>j,λ_=>m,λ_=>⟨ca l,ca k⟩⟩
 ·obtain rfl:i=3:=by have:=dF q;omega
  have j:=j (by omega);have m:=m (by omega);have p:=p (by omega);rw[if_neg (λe=>e.elim j.1 j.2),if_neg (λe=>e.elim m.1 m.2),if_neg (λe=>e.elim p.1 p.2)]at d;have L:=lh t m.1 (.inr p.1);have K:=lh D m.2 (.inr p.2);refine⟨_,aai _,_,[],[],M,?_⟩;by_cases c:kind=1
  ·rw[if_pos c]at d⊢;refine aa (λ_=>(Qj L K d (x.ok f) s.wf).mono ?_) (λe=>by revert e;decide +kernel);rintro _ T ⟨rfl,G⟩;exact jg (f.trans G)
  ·rw[if_neg c]at d⊢;refine aa (λ_=>(Qp L K d (x.ok f) s.wf).mono ?_) (λe=>by revert e;decide +kernel);rintro _ T ⟨rfl,G⟩;exact jg (f.trans G)
end
end
noncomputable def UH:FD:=cA Tryz.f181 []
theorem QQ(i:Nat)(c:LB)(h:ae)(Q:VH)(j:fP 136 (pA i) 1 λg=>lB h g λf=>au f (fP 136 (pA i) 0 λe=>lI h e λd=>FW SS 18 [(.int .i64 d)] h λb c=>yS b λa=>Q (strOf a) c) (Q (strOf c) h)):FW SS 181 [(pA i),(strOf c)] h Q:=cN UH Tryz.func181 (ai j)
noncomputable def Yg:FD:=cA Tryz.f158 []
theorem UI(n:Nat)(a b:LB)(h:ae)(Q:VH)(o:fP 136 (pA n) 0 λm=>lI h m λl=>FW SS 62 [(.int .i64 l),(strOf a),(strOf b)] h λj k=>∃i:LB,∃h:Int,j=(.tuple ⟨[(strOf i),(.int .i64 h)]⟩)/\fP 136 (pA n) 1 λg=>lB k g λf=>au f (fP 136 (pA n) 1 λe=>xU (ah SS.P 4 (.pointer (some e)) (.bool true) k) k λ_ d=>FW SS 181 [(pA n),(strOf i)] d λb c=>yS b λa=>Q (strOf a) c) (fP 136 (pA n) 1 λe=>xU (ah SS.P 4 (.pointer (some e)) (.bool (((h:Int) !=0))) k) k λ_ d=>FW SS 181 [(pA n),(strOf i)] d λb c=>yS b λa=>Q (strOf a) c)):FW SS 158 [(pA n),(strOf a),(strOf b)] h Q:=cN Yg Tryz.func158 (ai o)
noncomputable def UM:FD:=cA Tryz.f159 []
theorem QS(n:Nat)(a b:LB)(h:ae)(Q:VH)(o:fP 136 (pA n) 0 λm=>lI h m λl=>FW SS 65 [(.int .i64 l),(strOf a),(strOf b)] h λj k=>∃i:LB,∃h:Int,j=(.tuple ⟨[(strOf i),(.int .i64 h)]⟩)/\fP 136 (pA n) 1 λg=>lB k g λf=>au f (fP 136 (pA n) 1 λe=>xU (ah SS.P 4 (.pointer (some e)) (.bool true) k) k λ_ d=>FW SS 181 [(pA n),(strOf i)] d λb c=>yS b λa=>Q (strOf a) c) (fP 136 (pA n) 1 λe=>xU (ah SS.P 4 (.pointer (some e)) (.bool (((h:Int) !=0))) k) k λ_ d=>FW SS 181 [(pA n),(strOf i)] d λb c=>yS b λa=>Q (strOf a) c)):FW SS 159 [(pA n),(strOf a),(strOf b)] h Q:=cN UM Tryz.func159 (ai o)
noncomputable def Yh:FD:=cA Tryz.f157 []
theorem UJ(n:Nat)(a:LB)(h:ae)(Q:VH)(o:fP 136 (pA n) 0 λm=>lI h m λl=>FW SS 67 [(.int .i64 l),(strOf a)] h λj k=>∃i:LB,∃h:Int,j=(.tuple ⟨[(strOf i),(.int .i64 h)]⟩)/\fP 136 (pA n) 1 λg=>lB k g λf=>au f (fP 136 (pA n) 1 λe=>xU (ah SS.P 4 (.pointer (some e)) (.bool true) k) k λ_ d=>FW SS 181 [(pA n),(strOf i)] d λb c=>yS b λa=>Q (strOf a) c) (fP 136 (pA n) 1 λe=>xU (ah SS.P 4 (.pointer (some e)) (.bool (((h:Int) !=0))) k) k λ_ d=>FW SS 181 [(pA n),(strOf i)] d λb c=>yS b λa=>Q (strOf a) c)):FW SS 157 [(pA n),(strOf a)] h Q:=cN Yh Tryz.func157 (ai o)
noncomputable def m9:FD:=cA Tryz.f123 [([1,1,0,1,0,0],[0,1,4,5]),([1,1,0,1,0,0,1,0,0,1,1,0,0],[0,1,4,5,6])]
abbrev lr(b:Int)(a:OA)(n c:Nat)(i:Nat):LV:=[(.int .i64 b),(.slice a n c),(.bool false),(iA i)]
abbrev pP(b:Int)(a:OA)(n c i:Nat)(j:Nat):LV:=[(.int .i64 b),(.slice a n c),(.bool false),(iA i),(iA j)]
theorem aap(f:Int)(a:OA)(n c:Nat)(h:ae)(Q:VH)(g:FW SS 14 [(.int .i64 f)] h λd e=>yB d λb=>au (!b) (Q (.bool false) e) (LL SS m9 [1,1,0,1,0,0] (lr f a n c 0) e (KK SS m9 [1,1,0,1,0] [] (EE SS m9 Q)))):FW SS 123 [(.int .i64 f),(.slice a n c)] h Q:=cN m9 Tryz.func123 (ai g)
theorem C0(e:Int)(a:OA)(n c:Nat)  (g:Nat->Nat->ae->Prop) (Q:VH) (step:∀(f:Nat)(i:Nat)(k:Nat->Value)(h:ae),g f i h->au (decide (((i:Int):Int)<(n:Int))) (iP 103 (.slice a n c) (iA i) λd=>lL 107 h d λ_ b _=>au ((((b:Int):Int) !=(n:Int))) (Q (.bool false) h) (LL SS m9 [1,1,0,1,0,0,1,0,0,1,1,0,0] (pP e a n c i 0) h (KK SS m9 [1,0,0,1,1,0] [1,1,0,1,0,0] (RR m9 [1,1,0,1,0,0] (eR (lr e a n c) g) f (KK SS m9 [1,1,0,1,0] [] (EE SS m9 Q)))))) (Q (.bool true) h)) (f:Nat) {i:Nat} {h:ae} (j:g f i h):LL SS m9 [1,1,0,1,0,0] (lr e a n c i) h (KK SS m9 [1,1,0,1,0] [] (EE SS m9 Q)):=
 cY (lr e a n c) g (λf i k h j=>ai (step f i k h j)) f j
theorem C1(p:Int)(a:OA)(n c:Nat)(s:Nat->Nat->ae->Prop)(u i:Nat)(r:Nat->Nat->ae->Prop)(Q:VH)(step:∀(q:Nat) (j:Nat) (v:Nat->Value) (h:ae),r q j h->au (decide (((j:Int):Int)<(n:Int))) (iP 103 (.slice a n c) (iA i) λo=>lL 107 h o λk l m=>iP 107 (.slice k l m) (iA j) λg=>lS h g λf=>FW SS 47 [(.int .i64 p),(strOf f)] h λd e=>yB d λb=>au (!b) (Q (.bool false) e) (aB (eR (pP p a n c i) r) q [(.int .i64 p),(.slice a n c),(.bool false),(iA i),(.int .i64 (wrap .i64 ((j:Int)+1)))] e)) (aB (eR (lr p a n c) s) u [(.int .i64 p),(.slice a n c),(.bool false),(.int .i64 (wrap .i64 ((i:Int)+1)))] h))(q:Nat){j:Nat}{h:ae}(t:r q j h):LL SS m9 [1,1,0,1,0,0,1,0,0,1,1,0,0] (pP p a n c i j) h (KK SS m9 [1,0,0,1,1,0] [1,1,0,1,0,0] (RR m9 [1,1,0,1,0,0] (eR (lr p a n c) s) u (KK SS m9 [1,1,0,1,0] [] (EE SS m9 Q)))):=
 cY (pP p a n c i) r (λq j v h t=>ai (step q j v h t)) q t
noncomputable def np:FD:=cA Tryz.f156 [([1,1,0,1,0,0],[0,1,5,6]),([1,1,0,1,0,0,1,0,0,1,0,0],[0,1,5,6,7])]
abbrev lG(a:Int)(n b:Nat)(i:Nat):LV:=[(.int .i64 a),(iA n),(sA b n n),(iA i)]
abbrev pZ(a:Int)(n b i:Nat)(j:Nat):LV:=[(.int .i64 a),(iA n),(sA b n n),(iA i),(iA j)]
theorem aa6(d:Int)(n:Nat)(h:ae)(Q:VH)(e:xR (bW SS.P 103 (iA n) (iA n)) h λ_ a b c=>LL SS np [1,1,0,1,0,0] [(.int .i64 d),(iA n),(sA (h.next) a b),(.int .i64 0)] c (KK SS np [1,1,0,1,0] [] (EE SS np Q))):FW SS 156 [(.int .i64 d),(iA n)] h Q:=cN np Tryz.func156 (ai e)
theorem D4(a:Int)(n:Nat)(d:Nat)(c:Nat->Nat->ae->Prop)(Q:VH)(step:∀(b:Nat) (i:Nat) (f:Nat->Value) (h:ae),c b i h->au (decide (((i:Int):Int)<(n:Int))) (LL SS np [1,1,0,1,0,0,1,0,0,1,0,0] (pZ a n d i 0) h (KK SS np [1,0,0,1,0] [1,1,0,1,0,0] (RR np [1,1,0,1,0,0] (eR (lG a n d) c) b (KK SS np [1,1,0,1,0] [] (EE SS np Q))))) (Q (sA d n n) h))(b:Nat){i:Nat}{h:ae}(e:c b i h):LL SS np [1,1,0,1,0,0] (lG a n d i) h (KK SS np [1,1,0,1,0] [] (EE SS np Q)):=
 cY (lG a n d) c (λb i f h e=>ai (step b i f h e)) b e
theorem D5(u:Int)(n:Nat)(w:Nat)(y:Nat->Nat->ae->Prop)(A i:Nat)(x:Nat->Nat->ae->Prop)(Q:VH)(step:∀(v:Nat) (j:Nat) (B:Nat->Value) (h:ae),x v j h->au (decide (((j:Int):Int)<(n:Int))) (iP 103 (sA w n n) (iA i) λt=>lL 107 (room h 12) t λq r s=>FW SS 18 [(.int .i64 u)] (room h 12) λo p=>yS o λm=>zR (aF SS.P 107 1 [(0,(strOf m))]) λg k l=>xE (bF SS.P 107 107 (.slice q r s) (sA (h.next+8) k l) (cd p h.next [(8,g)])) (cd p h.next [(8,g)]) λc d e _ f=>iP 103 (sA w n n) (iA i) λb=>xU (ah SS.P 107 (.pointer (some b)) (.slice c d e) f) f λ_ a=>(aj SS.P 107 p (.pointer (some t))=some (.slice q r s)/\dC 4 (.slice q r s) (.slice q r s)=true)/\aB (eR (pZ u n w i) x) v [(.int .i64 u),(iA n),(sA w n n),(iA i),(.int .i64 (wrap .i64 ((j:Int)+1)))] a) (aB (eR (lG u n w) y) A [(.int .i64 u),(iA n),(sA w n n),(.int .i64 (wrap .i64 ((i:Int)+1)))] h))(v:Nat){j:Nat}{h:ae}(z:x v j h):LL SS np [1,1,0,1,0,0,1,0,0,1,0,0] (pZ u n w i j) h (KK SS np [1,0,0,1,0] [1,1,0,1,0,0] (RR np [1,1,0,1,0,0] (eR (lG u n w) y) A (KK SS np [1,1,0,1,0] [] (EE SS np Q)))):=
 cY (pZ u n w i) x (λv j B h z=>ai (step v j B h z)) v z
theorem dt(s:dW)(l:List dW):df (s::l)=s.arcs.length+df l:=by simp[df]
noncomputable def jF:FD:=cA Tryz.f23 [([1,1,0,1,0,0],[1,2,3]),([1,1,0,1,0,0,1,0,0,1,1,0,0],[1,2,3,4,5])]
abbrev jZ(k:Nat)(i:Nat):LV:=[(pA k),(.bool false),(iA i)]
abbrev nZ(k b c a i:Nat)(j:Nat):LV:=[(pA k),(.bool false),(iA i),(sA b c a),(iA j)]
theorem XW(k:LV)(h:ae)(Q:VH)(l:xN (fi SS.P 29 (.agg ⟨k⟩)) h λ_ j=>lA 29 j (pA (h.next)) λi=>FW SS 20 [(.agg ⟨i⟩)] j λf g=>yB f λe=>au (!e) (Q (.bool false) g) (lA 29 g (pA (h.next)) λd=>FW SS 55 [(.agg ⟨d⟩)] g λb c=>yB b λa=>au (!a) (Q (.bool false) c) (LL SS jF [1,1,0,1,0,0] (jZ (h.next) 0) c (KK SS jF [1,1,0,1,0] [] (EE SS jF Q))))):FW SS 23 [(.agg ⟨k⟩)] h Q:=cN jF Tryz.func23 (ai l)
theorem A9(m:LV)(k:Nat)(g:Nat->Nat->ae->Prop)(Q:VH)(step:∀(f:Nat) (i:Nat) (l:Nat->Value) (h:ae),g f i h->fP 29 (pA k) 3 λe=>lL 27 h e λ_ d _=>au (decide (((i:Int):Int)<(d:Int))) (xR (bW SS.P 83 (.int .i64 501) (.int .i64 501)) h λ_ a b c=>LL SS jF [1,1,0,1,0,0,1,0,0,1,1,0,0] (nZ k (h.next) a b i 0) c (KK SS jF [1,0,0,1,1,0] [1,1,0,1,0,0] (RR jF [1,1,0,1,0,0] (eR (jZ k) g) f (KK SS jF [1,1,0,1,0] [] (EE SS jF Q))))) (Q (.bool true) h))(f:Nat){i:Nat}{h:ae}(j:g f i h):LL SS jF [1,1,0,1,0,0] (jZ k i) h (KK SS jF [1,1,0,1,0] [] (EE SS jF Q)):=
 cY (jZ k) g (λf i l h j=>ai (step f i l h j)) f j
theorem Ba(X:LV)(k D E C:Nat)(F:Nat->Nat->ae->Prop)(H i:Nat)(B:Nat->Nat->ae->Prop)(Q:VH)(step:∀(A:Nat) (j:Nat) (I:Nat->Value) (h:ae),B A j h->fP 29 (pA k) 3 λW=>lL 27 h W λJ O U=>iP 27 (.slice J O U) (iA i) λK=>fP 73 (.pointer (some K)) 1 λS=>lL 71 h S λ_ N _=>au (decide (((j:Int):Int)<(N:Int))) (fP 29 (pA k) 3 λT=>lL 27 h T λL P R=>iP 27 (.slice L P R) (iA i) λV=>fP 73 (.pointer (some V)) 1 λM=>lL 71 h M λx y z=>iP 71 (.slice x y z) (iA j) λw=>fP 70 (.pointer (some w)) 0 λv=>lI h v λu=>iP 83 (sA D E C) (.int .i64 u) λt=>lB h t λs=>au s (Q (.bool false) h) (fP 29 (pA k) 3 λr=>lL 27 h r λo p q=>iP 27 (.slice o p q) (iA i) λn=>fP 73 (.pointer (some n)) 1 λm=>lL 71 h m λf g l=>iP 71 (.slice f g l) (iA j) λe=>fP 70 (.pointer (some e)) 0 λd=>lI h d λc=>iP 83 (sA D E C) (.int .i64 c) λb=>xU (ah SS.P 4 (.pointer (some b)) (.bool true) h) h λ_ a=>aB (eR (nZ k D E C i) B) A [(pA k),(.bool false),(iA i),(sA D E C),(.int .i64 (wrap .i64 ((j:Int)+1)))] a)) (aB (eR (jZ k) F) H [(pA k),(.bool false),(.int .i64 (wrap .i64 ((i:Int)+1)))] h))(A:Nat){j:Nat}{h:ae}(G:B A j h):LL SS jF [1,1,0,1,0,0,1,0,0,1,1,0,0] (nZ k D E C i j) h (KK SS jF [1,0,0,1,1,0] [1,1,0,1,0,0] (RR jF [1,1,0,1,0,0] (eR (jZ k) F) H (KK SS jF [1,1,0,1,0] [] (EE SS jF Q)))):=
 cY (nZ k D E C i) B (λA j I h G=>ai (step A j I h G)) A G
section
theorem uK{a:Int}{N:Nat}:∀{l:List dW}{c:Int},nG a N c l=true->∀s∈l,(s.f==[]||bJ a s.f)=true/\∀q∈s.arcs,hP a N q=true
 |[],_,_,s,b=>by cases b
 |x::l,c,h,s,b=>by
  unfold nG at h;simp only[and_eq_true]at h;obtain⟨⟨⟨i,f⟩,d⟩,g⟩:=h;rcases List.mem_cons.1 b with rfl|b
  ·exact⟨f,λq e=>List.all_eq_true.1 d q e⟩
  ·exact uK g s b
structure YW(N:Nat)(q:hO):Prop where
 i0:0<=q.i
 i1:q.i<=500
 o0:0<=q.o
 o1:q.o<=500
 t0:0<=q.t
 t1:q.t<N
theorem RV{q:hO}(h:hP z m q=true):YW m q:=by
 unfold hP pq at h;simp only[and_eq_true,decide_eq_true_eq]at h;obtain⟨⟨⟨⟨⟨b,c⟩,a,d⟩,f⟩,e⟩,g⟩:=h;exact⟨b,c,a,d,f,e⟩
structure Good(M:bt):Prop where
 ad1:0<=M.start
 ad2:M.start<M.af.length
 arcs:∀s∈M.af,∀q∈s.arcs,YW M.af.length q
theorem KF{M:bt}(h:cn M=true):Good M:=by
 unfold cn at h;simp only[and_eq_true,decide_eq_true_eq]at h;obtain⟨⟨⟨⟨⟨⟨⟨g,i⟩,f⟩,k⟩,e⟩,d⟩,j⟩,a⟩:=h;exact⟨e,d,λs b q c=>RV ((uK a s b).2 q c)⟩
def sJ(s:dW):List Int:=s.arcs.map (·.i)
def IX(s:dW):Bool:=decide (sJ s).Nodup
def IW(M:bt):Bool:=Iy M&&wq M&&M.af.all IX
section
variable {h:ae} {k:Nat} {M:bt} {a:Option Addr} {n c:Nat}
def ab2(h:ae)(k:Nat)(M:bt)(a:Option Addr)(n c:Nat)(V:Bool)(b i:Nat)(g:ae):Prop:=i<=n/\b=n-i/\MB g k M a n c/\Ok h g/\(M.af.drop i).all IX=V
end
end
section
theorem acC:SS.P.underlying 83=some (.slice 4):=by kernel_rfl
theorem aaM:aE SS.P 4=some 1:=by kernel_rfl
noncomputable def ti4:TypeInfo:=(SS.P.info? 4).getD default
theorem aaP:SS.P.info? 4=some ti4:=by kernel_rfl
theorem Vn:ti4.size=1:=by kernel_rfl
theorem Re:ti4.bytes=1:=by kernel_rfl
theorem ac2:zeroOf SS.P 4=some (.bool false):=by kernel_rfl
theorem adC(n:Nat)(a:n<=100000):bW SS.P 83 (.int .i64 (n:Int)) (.int .i64 (n:Int))=some (.cells ((List.replicate n false).map Value.bool) 4 1 true,mh n n):=by
 unfold bW bV;dsimp only;rw[acC]
 try dsimp only
 change (match SS.P.info? 4,zeroOf SS.P 4 with
  |some i,some z=>(if z.cells.size=i.size/\0<i.size/\(0:Int)<=(n:Int)/\(n:Int)<=(n:Int)/\(n:Int)*i.bytes<=140737488355328/\(n:Int)<=1099511627776 then some (dP.cells (cX z.cells.toList (n:Int).toNat) 4 i.size true,λk=>Value.slice (some ⟨k,0,none⟩) (n:Int).toNat (n:Int).toNat)else none)
  |_,_=>none)=_
 rw[aaP,ac2];dsimp only;rw[Vn,Re,if_pos ⟨rfl,by omega,by omega,Int.le_refl _,by omega,by omega⟩];have e:((n:Int)).toNat=n:=by omega
 rw[e,show(Value.bool false).cells.toList=[Value.bool false]from rfl,lH,List.map_replicate];rfl
structure BR(hb:ae)(kt N:Nat)(L:List Bool)(g:ae):Prop where
 len:L.length=N
 row:Gg hb kt 4 (L.map Value.bool) g
theorem BR.get{c:Nat}{L:List Bool}{d:ae}(j:BR g m i L d){x:Int}(n:0<=x)(k:x<i):ax SS.P 83 (.slice (some ⟨m,0,none⟩) i c) (.int .i64 x)=some (.pointer (some ⟨m,x.toNat,none⟩))/\aj SS.P 4 d (.pointer (some ⟨m,x.toNat,none⟩))=some (.bool (L.getD x.toNat false))/\
  ∀b:Bool,Wf g->∃u:dL,ah SS.P 4 (.pointer (some ⟨m,x.toNat,none⟩)) (.bool b) d=some (undef,u)/\BR g m i (L.set x.toNat b) (u.app d)/\(∀a B,d.get a=some B->a≠m->(u.app d).get a=some B):=by
 have e:0+x.toNat*1=x.toNat:=by omega
 have f:x.toNat<L.length:=by rw[j.len];omega
 refine⟨by rw[<-e];exact LJ acC aaM n k,?_,?_⟩
 ·rw[cx un4 ag4 j.row.row (by rw[lM];exact f),gD,getElem?_map,gD,gE f];rfl
 ·intro b w;refine⟨_,iX aaM j.row.row (by rw[lM];exact f) rfl rfl,⟨by rw[length_set];exact j.len,?_⟩,λa B l h=>?_⟩
  ·have:=j.row.set w x.toNat (.bool b);rw[HG Value.bool L x.toNat b]at this⊢;exact this
  ·show(d.set m _).get a=_;rw[ae.aw,if_neg h];exact l
theorem BR.new{h:ae}(w:Wf h)(n:Nat):BR h h.next n (List.replicate n false) (h.push (.cells ((List.replicate n false).map Value.bool) 4 1 true)):=
 ⟨length_replicate,aI h _,Nat.le_refl _,(Ok.refl w).push _⟩
theorem LD{L:List Bool}{x:Nat}(a:x<L.length):(L.set x b).getD m false=if m=x then b else L.getD m false:=by
 rw[gD,getElem?_set,gD];split
 ·next e=>subst e;simp
 ·next e=>rw[if_neg (λc=>e c.symm)]
section
variable {h:ae} {k:Nat} {M:bt} {a:Option Addr} {n c:Nat}
set_option linter.defProp false in
def Uq{v:ae}(w:Wf v)(B:Ok h v)(Q:Small M)(gd:Good M)(V:Bool){s:dW}{i W:Nat}(G:M.af[i]?=some s)(hi:i<n)(X:MB v k M a n c)(D:(IX s&&(M.af.drop (i+1)).all IX)=V)(mv:List Value)(N:Nat)(x1:N=n-i):=
 Ba mv k W 501 501 (ab2 h k M a n c V) N i (λp j g=>j<=s.arcs.length/\p=s.arcs.length-j/\∃L,BR v W 501 L g/\(∀x:Nat,x<501->(L.getD x false=true↔(x:Int)∈(sJ s).take j))/\((sJ s).take j).Nodup) (bQ h V) (by
  intro p j;intros;rename_i g d;obtain⟨f1,f2,L,H,S,l⟩:=d;have K:=H.row.ok;have f:=X.ok K;have hn:n<=300:=by rw[f.len];exact Q.bE
  obtain⟨l1,l2,l3⟩:=sg Q G;obtain⟨b,o,x',y,z,E,e2,e3,J,O⟩:=f.row.at_ G;have hm:=O.len;refine⟨_,cI _,_,_,_,f.l3,_,E,_,fY _ _,_,_,_,J,aa (λr=>?_) (λr=>?_)⟩
  ·have r:=dT r;obtain⟨q,I⟩:∃q,s.arcs[j]?=some q:=⟨_,gE (by omega)⟩
   obtain⟨bb,oo,Y,d2,T,d4,d5,d6⟩:=O.at_ I;have d:=gd.arcs s (List.mem_of_getElem? G) q (List.mem_of_getElem? I);have Z:=d.i0;have x0:=d.i1;obtain⟨P,r2,r3⟩:=H.get (c:=501) (x:=q.i) Z (by omega);have C:(sJ s)[j]?=some q.i:=by unfold sJ;rw[getElem?_map,I];rfl
   have ht:(sJ s).take (j+1)=(sJ s).take j++[q.i]:=by rw[List.take_add_one,C];rfl
   have m:=S q.i.toNat (by omega);rw[show((q.i.toNat:Nat):Int)=q.i by omega]at m;refine⟨_,cI _,_,_,_,f.l3,_,E,_,fY _ _,_,_,_,J,_,Y,_,rE _ _,_,T,_,P,_,r2,aa (λA=>⟨?_,B.trans K⟩) (λA=>?_)⟩
   ·have F:=m.1 A;have:¬(sJ s).Nodup:=λt=>by
     rw[<-List.take_append_drop j (sJ s),List.nodup_append]at t;refine t.2.2 _ F q.i ?_ rfl;rw[fk C];exact List.mem_cons_self ..
    rw[<-D,show IX s=false from decide_eq_false this];rfl
   ·have R:q.i∉(sJ s).take j:=λc=>by rw[m.2 c]at A;cases A
    obtain⟨u,s1,s2,s3⟩:=r3 true w;refine⟨_,cI _,_,_,_,f.l3,_,E,_,fY _ _,_,_,_,J,_,Y,_,rE _ _,_,T,_,P,u,s1,?_⟩;rw[aJ (i:=j) (n:=s.arcs.length) (by omega) (by omega)];refine bY (p-1) (by omega) ⟨by omega,by omega,_,s2,λx hx=>?_,?_⟩
    ·rw[LD (by rw[H.len];omega),ht,List.mem_append,mem_singleton];by_cases e:x=q.i.toNat
     ·rw[if_pos e];exact⟨λ_=> .inr (by omega),λ_=>rfl⟩
     ·rw[if_neg e,S x hx];exact⟨.inl,λc=>c.elim id (λc=>absurd (by omega) e)⟩
    ·rw[ht,List.nodup_append];refine⟨l,by simp,λa1 h1 b1 U=>?_⟩;rw[mem_singleton]at U;rintro rfl;exact R (U▸h1)
  ·have r:=dF r;rw[take_of_length_le (by unfold sJ;rw[lM];omega)]at l;rw[show IX s=true from decide_eq_true l,Bool.true_and]at D;rw[aJ hi (by omega)];exact bY (n-(i+1)) (by omega) ⟨by omega,rfl,f,B.trans K,D⟩)
theorem XX(w:Wf h)(l:Small M)(r:dS h (.slice a n c) M.af):FW SS 23 [.agg ⟨bR M a n c⟩] h (λv G=>v = .bool (IW M)/\Ok h G):=by
 obtain⟨m,C⟩:=fv w r;refine XW (bR M a n c) h _ ⟨_,ja M a n c,_,m.all,(XV C.wf l m.row).mono ?_⟩;generalize h.push (Bm M a n c)=g at*;rintro _ K ⟨rfl,B⟩;have f:=C.trans B;have d:=m.ok B;have J:n<=300:=by rw[m.len];exact l.bE
 refine⟨_,rfl,aa (λq=>⟨?_,f⟩) (λq=>?_)⟩
 ·rw[not_eq_true']at q;unfold IW;rw[q];rfl
 rw[not_eq_false']at q;refine⟨_,d.all,(Qf f.wf l d.row).mono ?_⟩;rintro _ O ⟨rfl,z⟩;have p:=f.trans z;have A:=d.ok z;refine⟨_,rfl,aa (λt=>⟨?_,p⟩) (λt=>?_)⟩
 ·rw[not_eq_true']at t;unfold IW;rw[t,Bool.and_false];rfl
 rw[not_eq_false']at t;have F:Good M:=KF (by unfold Iy at q;rw[and_eq_true]at q;exact q.1);obtain⟨V,u⟩:∃V,V=M.af.all IX:=⟨_,rfl⟩
 have:IW M=V:=by unfold IW;rw[q,t,u];rfl
 rw[this];refine A9 (bR M a n c) h.next (ab2 h h.next M a n c V) (bQ h V) (λD i=>?_) n (i:=0) ⟨by omega,rfl,A,p,u.symm⟩;intros;rename_i N I;obtain⟨P,H,k,b,o⟩:=I;have L:=k.len;refine⟨_,cI _,_,_,_,k.l3,aa (λe=>?_) (λe=>?_)⟩
 ·have e:=dT e;obtain⟨s,y⟩:∃s,M.af[i]?=some s:=⟨_,gE (by omega)⟩
  rw[fk y,all_cons]at o;refine⟨_,_,_,adC 501 (by omega),?_⟩;exact Uq b.wf b l F V y (by omega) k o [] D H s.arcs.length (j:=0) ⟨by omega,by omega,_,BR.new b.wf 501,λx E=>by rw[take_zero,gD,getElem?_replicate,if_pos E];simp,List.nodup_nil⟩
 ·have e:=dF e;rw[drop_eq_nil_of_le (by omega)]at o;exact⟨by rw[<-o];rfl,b⟩
end
end
section
theorem Dx:SS.P.underlying 107=some (.slice 9):=by kernel_rfl
theorem nF:SS.P.underlying 103=some (.slice 107):=by kernel_rfl
theorem zz9:aE SS.P 9=some 1:=by kernel_rfl
theorem nq:aE SS.P 107=some 1:=by kernel_rfl
theorem IA:Go.Ab.isAgg SS.P 107=false:=by kernel_rfl
theorem ty:Zz SS.P 103 107:=⟨nF,Dx,KT,nq,zz9,IA,Rt⟩
theorem nQ(k:Nat):aW SS.P 136 (.pointer (some ⟨k,0,none⟩)) 0=some (.pointer (some ⟨k,0,none⟩)):=by kernel_rfl
theorem pI(k:Nat):aW SS.P 136 (.pointer (some ⟨k,0,none⟩)) 1=some (.pointer (some ⟨k,1,none⟩)):=by kernel_rfl
def m6(g:ae)(ks:Nat)(kind:Int)(bad:Bool):Prop:=g.get ks=some (.cells [.int .i64 kind,.bool bad] 136 0 true)
section
variable {g g' h:ae} {ks:Nat} {kind:Int} {bad:Bool}
theorem m6.l0(s:m6 g ks kind bad):aj SS.P 3 g (.pointer (some ⟨ks,0,none⟩))=some (.int .i64 kind):=cx HO GD s (by simp)
theorem m6.l1(s:m6 g ks kind bad):aj SS.P 4 g (.pointer (some ⟨ks,1,none⟩))=some (.bool bad):=cx un4 ag4 s (by simp)
theorem m6.st(s:m6 g ks kind bad)(b:Bool):ah SS.P 4 (.pointer (some ⟨ks,1,none⟩)) (.bool b) g=some (undef,.set ks (.cells [.int .i64 kind,.bool b] 136 0 true)):=iX aaM s (by simp) rfl rfl
theorem m6.set(w:Wf g)(s:m6 g ks kind bad)(b:Bool):m6 ((dL.set ks (.cells [.int .i64 kind,.bool b] 136 0 true)).app g) ks kind b/\zd (λk=>k=ks) g ((dL.set ks (.cells [.int .i64 kind,.bool b] 136 0 true)).app g):=
 ⟨by show(g.set ks _).get ks=_;rw[ae.aw,if_pos rfl],zd.set (X:=λk=>k=ks) w rfl (w _ _ s) _⟩
theorem m6.ok(s:m6 g ks kind bad)(o:Ok g g'):m6 g' ks kind bad:=o.ext _ _ s
theorem xM{a b c:List UInt8}(d:aM kind a=true)(e:aM kind b=true)(h:eO kind a b=some c):aM kind c=true:=by
 obtain⟨K,S,g,f⟩:=wP (kind:=kind) (by have:=gB d;omega);exact(f.plus d e h).1
theorem zU{a b c:List UInt8}(d:aM kind a=true)(e:aM kind b=true)(h:dh kind a b=some c):aM kind c=true:=by
 obtain⟨K,S,g,f⟩:=wP (kind:=kind) (by have:=gB d;omega);exact(f.times d e h).1
theorem U5{a c:List UInt8}(b:aM kind a=true)(h:lP kind a=some c):aM kind c=true:=by
 obtain⟨K,S,e,d⟩:=wP (kind:=kind) (by have:=gB b;omega);exact(d.star b h).1
theorem sw(b:1<=kind/\kind<=3):aM kind (bH kind)=true:=by
 obtain rfl|rfl|rfl:kind=1\/kind=2\/kind=3:=by omega
 ·decide
 ·exact qB (a:=[48]) (.inl rfl) fu (by rw[jv];exact Rat.le_refl)
 ·exact qB (a:=[48]) (.inr rfl) fu (by rw[jv];exact Rat.le_refl)
theorem aau(a:1<=kind/\kind<=3):aM kind (pE kind)=true:=by
 obtain rfl|rfl|rfl:kind=1\/kind=2\/kind=3:=by omega
 ·decide
 ·exact qA (.inl rfl)
 ·exact qA (.inr rfl)
theorem QR(b:1<=kind/\kind<=3)(c:List UInt8)(s:m6 h ks kind bad):FW SS 181 [pA ks,strOf c] h (λv a=>v=strOf (if bad=true then bH kind else c)/\a=h):=by
 refine QQ ks c h _ ⟨_,pI _,_,s.l1,aa (λq=>⟨_,nQ _,_,s.l0,(gX b h).mono ?_⟩) (λq=>⟨?_,rfl⟩)⟩
 ·rintro _ e ⟨rfl,d⟩;obtain rfl:h=e:=d.symm;exact⟨_,rfl,by rw[if_pos q],rfl⟩
 ·rw[q];rfl
def sQ(g:ae)(ks:Nat)(kind:Int)(bad:Bool)(o:Option (List UInt8)):VH:=λv g'=>∃(a:Bool)(c:List UInt8),v=strOf c/\m6 g' ks kind a/\zd (λk=>k=ks) g g'/\aM kind c=true/\(a=false->bad=false/\o=some c)/\(a=true->bad=true\/o=none)
theorem UL(x:1<=kind/\kind<=3)(w:Wf g')(s:m6 g' ks kind bad)(C:Ok g g'){o:Option (List UInt8)}(G:∀c,o=some c->aM kind c=true):∃(m:List UInt8)(u:Int),Mc o=(.tuple ⟨[(strOf m),(.int .i64 u)]⟩)/\xP (aW SS.P 136 (pA ks) 1) λF=>xB (aj SS.P 4 g' (.pointer (some F))) λE=>au E (xP (aW SS.P 136 (pA ks) 1) λH=>xU (ah SS.P 4 (.pointer (some H)) (.bool true) g') g' λI v=>FW SS 181 [(pA ks),(strOf m)] v λd j=>yS d λf=>sQ g ks kind bad o (strOf f) j) (xP (aW SS.P 136 (pA ks) 1) λt=>xU (ah SS.P 4 (.pointer (some t)) (.bool (((u:Int) !=0))) g') g' λJ A=>FW SS 181 [(pA ks),(strOf m)] A λp B=>yS p λn=>sQ g ks kind bad o (strOf n) B):=by
 have a:∀(b:Bool)(l:List UInt8),(b=false->bad=false/\o=some l)->(b=true->bad=true\/o=none)->FW SS 181 [(pA ks),(strOf l)] ((dL.set ks (.cells [.int .i64 kind,.bool b] 136 0 true)).app g') λd j=>yS d λf=>sQ g ks kind bad o (strOf f) j:=λb l i r=>by
  obtain⟨y,D⟩:=s.set w b;refine(QR x l y).mono ?_;rintro _ K ⟨rfl,z⟩;refine⟨_,rfl,b,_,rfl,by rw[z];exact y,by rw[z];exact C.okS.trans D,?_,?_,r⟩
  ·cases b with
   |true=>exact sw x
   |false=>exact G _ (i rfl).2
  ·intro k;refine⟨(i k).1,?_⟩;rw[(i k).2,k];rfl
 cases e:o with
 |some l=>
  refine⟨_,_,rfl,_,pI _,_,s.l1,aa (λq=>⟨_,pI _,_,s.st true,?_⟩) (λq=>⟨_,pI _,_,s.st _,?_⟩)⟩
  ·rw[e]at a;exact a true l (λh=>by cases h) (λ_=> .inl q)
  ·rw[e]at a;exact a false l (λh=>⟨q,rfl⟩) (λh=>by cases h)
 |none=>
  refine⟨_,_,rfl,_,pI _,_,s.l1,aa (λq=>⟨_,pI _,_,s.st true,?_⟩) (λq=>⟨_,pI _,_,s.st _,?_⟩)⟩
  ·rw[e]at a;exact a true [] (λh=>by cases h) (λ_=> .inl q)
  ·rw[e]at a;exact a true [] (λh=>by cases h) (λ_=> .inr rfl)
theorem Kd(w:Wf g)(s:m6 g ks kind bad){a b:List UInt8}(e:aM kind a=true)(f:aM kind b=true):FW SS 158 [pA ks,strOf a,strOf b] g (sQ g ks kind bad (eO kind a b)):=by
 refine UI ks a b g _ ⟨_,nQ _,_,s.l0,(uB e f w).mono ?_⟩;rintro _ i ⟨rfl,d⟩;exact UL (by have:=gB e;omega) d.wf (s.ok d) d (λc h=>xM e f h)
theorem FT(w:Wf g)(s:m6 g ks kind bad){a b:List UInt8}(e:aM kind a=true)(f:aM kind b=true):FW SS 159 [pA ks,strOf a,strOf b] g (sQ g ks kind bad (dh kind a b)):=by
 refine QS ks a b g _ ⟨_,nQ _,_,s.l0,(Dd e f w).mono ?_⟩;rintro _ i ⟨rfl,d⟩;exact UL (by have:=gB e;omega) d.wf (s.ok d) d (λc h=>zU e f h)
theorem UK(w:Wf g)(s:m6 g ks kind bad){a:List UInt8}(d:aM kind a=true):FW SS 157 [pA ks,strOf a] g (sQ g ks kind bad (lP kind a)):=by
 refine UJ ks a g _ ⟨_,nQ _,_,s.l0,(P0 d w).mono ?_⟩;rintro _ f ⟨rfl,b⟩;exact UL (by have:=gB d;omega) b.wf (s.ok b) b (λc e=>U5 d e)
end
noncomputable def Vi:TypeInfo:=(SS.P.info? 107).getD default
theorem Vj:SS.P.info? 107=some Vi:=by kernel_rfl
theorem MW:Vi.size=1:=by kernel_rfl
theorem KA:Vi.bytes=24:=by kernel_rfl
theorem YU:zeroOf SS.P 107=some nA:=by kernel_rfl
theorem TD(n:Nat)(a:n<=100000):bW SS.P 103 (.int .i64 (n:Int)) (.int .i64 (n:Int))=some (.cells (List.replicate n nA) 107 1 true,mh n n):=by
 unfold bW bV;dsimp only;rw[nF]
 try dsimp only
 change (match SS.P.info? 107,zeroOf SS.P 107 with
  |some i,some z=>(if z.cells.size=i.size/\0<i.size/\(0:Int)<=(n:Int)/\(n:Int)<=(n:Int)/\(n:Int)*i.bytes<=140737488355328/\(n:Int)<=1099511627776 then some (dP.cells (cX z.cells.toList (n:Int).toNat) 107 i.size true,λk=>Value.slice (some ⟨k,0,none⟩) (n:Int).toNat (n:Int).toNat)else none)
  |_,_=>none)=_
 rw[Vj,YU];dsimp only;rw[MW,KA,if_pos ⟨rfl,by omega,by omega,Int.le_refl _,by omega,by omega⟩];have e:((n:Int)).toNat=n:=by omega
 rw[e,show(nA).cells.toList=[nA]from rfl,lH];rfl
noncomputable def re9:TypeInfo:=(eP SS.P 9).getD default
theorem aaF:eP SS.P 9=some re9:=by kernel_rfl
theorem Uu:re9.size=1:=by kernel_rfl
theorem Qx:re9.bytes=16:=by kernel_rfl
theorem acH:dV SS.P 107=true:=by kernel_rfl
theorem Y6(l:List UInt8):aF SS.P 107 1 [(0,strOf l)]=some (.cells [strOf l] 9 1 true,mh 1 1):=by kernel_rfl
theorem kz(k n c:Nat):dC 4 (.slice (some ⟨k,0,none⟩) n c) (.slice (some ⟨k,0,none⟩) n c)=true:=by simp[dC]
theorem aaX:dC 4 nA nA=true:=by simp[dC]
def rY(n i:Nat)(ks cs:Nat->Nat)(x:Value):List Value:=(List.range n).map λa=>if a<i then vS (ks a) n (cs a)else if a=i then x else nA
theorem tB(n i:Nat)(ks cs:Nat->Nat)(x:Value):(rY n i ks cs x).length=n:=by unfold rY;simp
theorem C8(h:i<n)(ks cs:Nat->Nat)(x:Value):(rY n i ks cs x).getD i undef=x:=by
 unfold rY;rw[BI h,if_neg (Nat.lt_irrefl i),if_pos rfl]
theorem JP(ks cs:Nat->Nat)(x y:Value):(rY n i ks cs x).set i y=rY n i ks cs y:=by
 unfold rY;refine ext_getElem (by simp) λa b d=>?_;simp only[length_set,lM,List.length_range]at b;rw[List.getElem_set];simp only[List.getElem_map,List.getElem_range];by_cases e:i=a
 ·subst e;rw[if_pos rfl,if_neg (Nat.lt_irrefl i),if_pos rfl]
 ·rw[if_neg e];by_cases c:a<i
  ·rw[if_pos c,if_pos c]
  ·rw[if_neg c,if_neg c,if_neg (λh=>e h.symm),if_neg (λh=>e h.symm)]
theorem Fx{ks cs:Nat->Nat}{c:Nat}:rY n i ks cs (vS k n c)=rY n (i+1) (λa=>if a=i then k else ks a) (λa=>if a=i then c else cs a) nA:=by
 unfold rY;refine List.map_congr_left λa _=>?_;dsimp only;by_cases e:a=i
 ·subst e;rw[if_neg (Nat.lt_irrefl a),if_pos rfl,if_pos (Nat.lt_succ_self a),if_pos rfl,if_pos rfl]
 ·by_cases b:a<i
  ·rw[if_pos b,if_pos (by omega),if_neg e,if_neg e]
  ·rw[if_neg b,if_neg e,if_neg (by omega)];split<;>rfl
structure ZI(h:ae)(n:Nat)(z:List UInt8)(kr i:Nat)(x:Value)(ks cs:Nat->Nat)(g:ae):Prop where
 out:g.get kr=some (.cells (rY n i ks cs x) 107 1 true)
 new:h.next<=kr
 row:∀a,a<i->VB g (ks a) (List.replicate n z)
 ne:∀a,a<i->ks a≠kr/\h.next<=ks a
 inj:∀a b,a<i->b<i->ks a=ks b->a=b
 ok:Ok h g
theorem ZI.lt{h:ae}{z:List UInt8}{x:Value}{ks cs:Nat->Nat}{g:ae}(b:ZI h n z m i x ks cs g):m<g.next/\∀a,a<i->ks a<g.next:=⟨b.ok.wf _ _ b.out,λa c=>b.ok.wf _ _ (b.row a c)⟩
theorem ZI.kI{h:ae}(w:Wf h){n:Nat}{z:List UInt8}{b i:Nat}{x y:Value}{ks cs:Nat->Nat}{g g':ae}(m:ZI h n z b i x ks cs g)(e:Ok h g')(d:g'.get b=some (.cells (rY n i ks cs y) 107 1 true))(f:∀a,a<i->g'.get (ks a)=g.get (ks a)):ZI h n z b i y ks cs g':=
 ⟨d,m.new,λa c=>by have:=m.row a c;unfold VB at this⊢;rw[f a c];exact this,m.ne,m.inj,e⟩
theorem UB(j:Nat)(z:A):List.replicate (j+1) z=List.replicate j z++[z]:=List.replicate_succ'
theorem XG{g:ae}(w:Wf g){n j:Nat}(a:j<n)(B:dP):Ok g (cd (Go.Ab.room g n) g.next [(j,B)])/\(cd (Go.Ab.room g n) g.next [(j,B)]).get (g.next+j)=some B/\(cd (Go.Ab.room g n) g.next [(j,B)]).next=g.next+n:=⟨(NR w a B).1,(NR w a B).2,rfl⟩
def ac1(h:ae)(n:Nat)(z:List UInt8)(c i:Nat)(b j:Nat)(g:ae):Prop:=j<=n/\b=n-j/\∃(ks cs:Nat->Nat)(x:Value),ZI h n z c i x ks cs g/\AW h g 9 x (eE (List.replicate j z))/\∀k,eX x=some k->k≠c/\∀a,a<i->ks a≠k
set_option linter.defProp false in
def Rq{h:ae}(w:Wf h){kind:Int}(Z:1<=kind/\kind<=3){n f i:Nat}(r:i<n)(hn:n<=1000)(y:Nat->Nat->ae->Prop)(K:Nat)(Q:VH)(O:∀g,(∃ks cs,ZI h n (bH kind) f (i+1) nA ks cs g)->aB (eR (lG kind n f) y) K [.int .i64 kind,iA n,sA f n n,iA (i+1)] g):=
 D5 kind n f y K i (ac1 h n (bH kind) f i) Q (by
  intro x0 j;intros;rename_i g J;obtain⟨f1,f2,ks,cs,x,m,D,E⟩:=J;refine aa (λq=>?_) (λq=>?_)
  ·have q:j<n:=by have:=dT q;omega
   have hr:(Go.Ab.room g 12).get f=some (.cells (rY n i ks cs x) 107 1 true):=m.out;have B:aj SS.P 107 (Go.Ab.room g 12) (.pointer (some ⟨f,i,none⟩))=some x:=by rw[cx Dx IA hr (by rw[tB];exact r),C8 r]
   obtain⟨I,U,L,ex,M⟩:∃a n c,x = .slice a n c/\dC 4 x x=true:=by
    rcases D with⟨e,_⟩|⟨k,e,_⟩
    ·exact⟨_,_,_,e,by rw[e];exact aaX⟩
    ·exact⟨_,_,_,e,by rw[e];exact kz _ _ _⟩
   subst ex;refine⟨_,CP nF nq r,_,_,_,B,(gX Z _).mono ?_⟩;rintro _ g0 ⟨rfl,e0⟩;obtain rfl:Go.Ab.room g 12=g0:=e0.symm;refine⟨_,rfl,_,_,_,Y6 _,?_⟩;obtain⟨s,Y,x1⟩:=XG m.ok.wf (show 8<12 by omega) (.cells [strOf (bH kind)] 9 1 true);generalize cd (Go.Ab.room g 12) g.next [(8,.cells [strOf (bH kind)] 9 1 true)]=o at*;have v:=m.ok.trans s;have R:AW h o 9 (.slice I U L) (eE (List.replicate j (bH kind))):=by
    rcases D with e|⟨k,e,H,G⟩
    ·exact .inl e
    ·exact .inr ⟨k,e,H,s.ext _ _ G⟩
   have C:fQ o 1 (sA (g.next+8) 1 1)=some ([strOf (bH kind)],1):=BL Y rfl;obtain⟨u,V,X,P,a4,T⟩:=AW.acF Dx aaF Uu acH w v R C rfl (by rw[Qx,ff,length_replicate];omega) (by rw[ff,length_replicate];omega);rw[ff,length_replicate]at V;refine⟨_,_,_,u,V,?_⟩;have z:(u.app o).get f=some (.cells (rY n i ks cs (.slice I U L)) 107 1 true):=T _ _ (s.ext _ _ m.out) (λe=>(E f e).1 rfl);have N:∀a,a<i->(u.app o).get (ks a)=g.get (ks a):=λa l=>by
    have:=m.row a l;unfold VB at this;rw[this];exact T _ _ (s.ext _ _ this) (λe=>(E _ e).2 a l rfl)
   generalize u.app o=F at*;refine⟨_,CP nF nq r,_,iX nq z (by rw[tB];exact r) rfl rfl,⟨B,M⟩,?_⟩;rw[JP];rw[aJ (i:=j) (n:=n) q (by omega)];have t:=m.lt;have A:o.next≠f:=by have:=t.1;omega
   refine bY (n-(j+1)) (by omega) ⟨by omega,rfl,ks,cs,.slice (some ⟨o.next,0,none⟩) (j+1) (dj+(j+1)),m.kI w ?_ ?_ ?_,.inr ⟨o.next,?_,v.nx,?_⟩,?_⟩
   ·exact P.set _ m.new (P.wf _ _ z) w
   ·show(F.set f _).get f=_;rw[ae.aw,if_pos rfl]
   ·intro a l;show(F.set f _).get (ks a)=_;rw[ae.aw,if_neg (m.ne a l).1];exact N a l
   ·rw[ff,length_replicate]
   ·show(F.set f _).get o.next=_;rw[ae.aw,if_neg A,X];unfold eE;rw[UB,List.map_append];rfl
   ·intro k ek;obtain rfl:o.next=k:=oI ek;exact⟨A,λa l e=>by have:=t.2 a l;omega⟩
  ·have q:=dF q;obtain rfl:j=n:=by omega
   rw[aJ r (by omega)];refine O g ?_;rcases D with⟨_,e⟩|⟨k,e,H,G⟩
   ·have:=congrArg List.length e;rw[ff,length_replicate]at this;exact absurd this (by simp;omega)
   ·rw[ff,length_replicate]at e;obtain⟨b1,W⟩:=E k (by rw[e];rfl);have S:=m.out;rw[e,show(Value.slice (some ⟨k,0,none⟩) j (dj+j))=vS k j (dj+j)from rfl,Fx]at S;refine⟨_,_,S,m.new,λa l=>?_,λa l=>?_,λa b l hb p=>?_,m.ok⟩
    ·by_cases c:a=i
     ·rw[if_pos c];exact G
     ·rw[if_neg c];exact m.row a (by omega)
    ·by_cases c:a=i
     ·rw[if_pos c];exact⟨b1,H⟩
     ·rw[if_neg c];exact m.ne a (by omega)
    ·by_cases c:a=i<;>by_cases d:b=i
     ·omega
     ·rw[if_pos c,if_neg d]at p;exact absurd p.symm (W b (by omega))
     ·rw[if_neg c,if_pos d]at p;exact absurd p (W a (by omega))
     ·rw[if_neg c,if_neg d]at p;exact m.inj a b (by omega) (by omega) p)
theorem VX{h:ae}(w:Wf h){kind:Int}(t:1<=kind/\kind<=3){n:Nat}(p:n<=1000):FW SS 156 [.int .i64 kind,iA n] h (λv g=>∃l ks cs,v=sA l n n/\sC 107 g l ks cs (List.replicate n (List.replicate n (bH kind)))/\Ok h g/\h.next<=l/\∀i,i<n->h.next<=ks i):=by
 refine aa6 kind n h _ ⟨_,_,_,TD n (by omega),?_⟩;have u:=aI h (.cells (List.replicate n nA) 107 1 true);have r:=(Ok.refl w).push (.cells (List.replicate n nA) 107 1 true);refine D4 kind n h.next (λf i g=>i<=n/\f=n-i/\∃ks cs,ZI h n (bH kind) h.next i nA ks cs g) _ (λf i=>?_) n (i:=0) ⟨by omega,rfl,λ_=>0,λ_=>0,?_,Nat.le_refl _,λa c=>by omega,λa c=>by omega,λa b c=>by omega,r⟩
 ·intros;rename_i g s;obtain⟨A,z,ks,cs,m⟩:=s;refine aa (λq=>?_) (λq=>?_)
  ·have q:i<n:=by have:=dT q;omega
   refine Rq w t q p _ f _ (λg' d=>?_) n (j:=0) ⟨by omega,rfl,ks,cs,nA,m,.inl ⟨rfl,rfl⟩,λk e=>by cases e⟩;exact bY (n-(i+1)) (by omega) ⟨by omega,rfl,d⟩
  ·have q:=dF q;obtain rfl:i=n:=by omega
   have d:∀a,a<i->(List.replicate i (List.replicate i (bH kind))).getD a []=List.replicate i (bH kind):=λa c=>by
    rw[gD,getElem?_replicate,if_pos c];rfl
   refine⟨h.next,ks,cs,rfl,⟨?_,λa c=>?_,λa c=>?_,λa b c o=>?_⟩,m.ok,Nat.le_refl _,λa c=>(m.ne a c).2⟩
   ·rw[m.out,length_replicate];congr 2;unfold rY;refine List.map_congr_left λa c=>?_;have c:=List.mem_range.1 c;rw[if_pos c,d a c,length_replicate]
   ·rw[length_replicate]at c;rw[d a c];exact m.row a c
   ·rw[length_replicate]at c;exact(m.ne a c).1
   ·rw[length_replicate]at c o;exact m.inj a b c o
 ·rw[u];congr 2;unfold rY;refine ext_getElem (by simp) λa x y=>?_;simp
theorem aaq{h:ae}(w:Wf h){kind:Int}(B:1<=kind/\kind<=3){a:Option Addr}{n c:Nat}{R:List (List (List UInt8))}(r:Lf 107 h (.slice a n c) R)(k:∀l∈R,l.length=R.length)(E:∀l∈R,∀x∈l,aM kind x=true)(O:n<=3000):FW SS 123 [.int .i64 kind,.slice a n c] h (λv g=>v = .bool true/\Ok h g):=by
 have G:=r.len;refine aap kind a n c h _ ((ni kind h).mono ?_);rintro _ N ⟨rfl,K⟩;obtain rfl:h=N:=K.symm;refine⟨_,rfl,aa (λe=>?_) (λ_=>?_)⟩
 ·rw[decide_eq_true B.1,decide_eq_true B.2]at e;cases e
 refine C0 kind a n c (λs i g=>i<=n/\s=n-i/\Ok h g) _ (λs i=>?_) n (i:=0) ⟨by omega,rfl,Ok.refl w⟩;intros;rename_i g I;obtain⟨X,T,z⟩:=I;refine aa (λq=>?_) (λq=>⟨rfl,z⟩);have q:i<n:=by have:=dT q;omega
 have b:R.getD i []∈R:=by
  rw[gD,gE (by omega)];exact List.getElem_mem _
 obtain⟨p,J,d,F,t,y,u⟩:=(r.ok z).at_ ty (i:=i) (by omega);have C:=u.len;rw[ff,k _ b,<-G]at C;subst C;refine⟨_,t,_,_,_,y,aa (λe=>by simp at e) (λ_=>?_)⟩;refine C1 kind a d c _ s i (λo j g=>j<=d/\o=d-j/\Ok h g) _ (λo j=>?_) d (j:=0) ⟨by omega,rfl,z⟩;intros;rename_i P A;obtain⟨V,W,f⟩:=A;refine aa (λm=>?_) (λm=>?_)
 ·have m:j<d:=by have:=dT m;omega
  obtain⟨p,J,U,F,t,y,u⟩:=(r.ok f).at_ ty (i:=i) (by omega);obtain⟨Q,L,D⟩:=Rd.cell ty u (j:=j) (by rw[k _ b];omega);refine⟨_,t,_,_,_,y,_,L,_,D,(jD (E _ b _ ?_) f.wf).mono ?_⟩
  ·have M:j<(R.getD i []).length:=by rw[k _ b];omega
   generalize R.getD i []=l at*;rw[gD,gE M];exact List.getElem_mem _
  rintro _ S ⟨rfl,H⟩;refine⟨_,rfl,aa (λe=>by cases e) (λ_=>?_)⟩;rw[aJ m (by omega)];exact bY (d-(j+1)) (by omega) ⟨by omega,rfl,f.trans H⟩
 ·rw[aJ q (by omega)];exact bY (d-(i+1)) (by omega) ⟨by omega,rfl,f⟩
end
noncomputable def bC:FD:=cA Tryz.f124 [([1,1,1,0,1,0,0],[0,1,5,6,7]),([1,1,1,1,0,1,0,0],[0,5,6,8]),([1,1,1,1,0,1,0,0,1,0,0,1,1,0,1,0,0],[0,5,6,8,9,10,11]),([1,1,1,1,1,0,1,0,0],[0,5,6,13]),([1,1,1,1,0,1,0,0,1,0,0,1,1,0,1,0,0,1,0,0,1,0,0],[0,5,6,8,9,10,11,12])]
abbrev qs(d:Nat)(a:OA)(n c b:Nat)(i:Nat):LV:=[(pA d),(.slice a n c),(iA n),(sA b n n),(iA i)]
abbrev eQ(b n:Nat)(k a:Nat):LV:=[(pA b),(iA n),(sA a n n),(iA k)]
abbrev kK(c n b a k:Nat)(l:LB)(i:Nat):LV:=[(pA c),(iA n),(sA b n n),(iA k),(sA a n n),(strOf l),(iA i)]
abbrev kL(b n a:Nat)(i:Nat):LV:=[(pA b),(iA n),(sA a n n),(iA i)]
abbrev iT(c n b a k i:Nat)(l:LB)(j:Nat):LV:=[(pA c),(iA n),(sA b n n),(iA k),(sA a n n),(strOf l),(iA i),(iA j)]
theorem U6(k:Nat)(a:OA)(n c:Nat)(h:ae)(Q:VH)(l:fP 136 (pA k) 0 λj=>lI h j λi=>FW SS 156 [(.int .i64 i),(iA n)] h λf g=>yL f λb d e=>LL SS bC [1,1,1,0,1,0,0] [(pA k),(.slice a n c),(iA n),(.slice b d e),(.int .i64 0)] g (KK SS bC [1,1,1,0,1,0] [] (EE SS bC Q))):FW SS 124 [(pA k),(.slice a n c)] h Q:=cN bC Tryz.func124 (ai l)
theorem zO(r:Nat)(a:OA)(n c:Nat)(q:Nat)(p:Nat->Nat->ae->Prop)(Q:VH)(step:∀(o:Nat) (i:Nat) (t:Nat->Value) (h:ae),p o i h->au (decide (((i:Int):Int)<(n:Int))) (iP 103 (sA q n n) (iA i) λm=>lL 107 (room h 9) m λj k l=>iP 103 (.slice a n c) (iA i) λg=>lL 107 (room h 9) g λd e f=>xC (copyV SS.P 107 (.slice j k l) (.slice d e f) (room h 9)) (room h 9) λ_ _ b=>aB (eR (qs r a n c q) p) o [(pA r),(.slice a n c),(iA n),(sA q n n),(.int .i64 (wrap .i64 ((i:Int)+1)))] b) (LL SS bC [1,1,1,1,0,1,0,0] (eQ r n 0 q) h (KK SS bC [1,1,1,1,0,1,0] [] (EE SS bC Q))))(o:Nat){i:Nat}{h:ae}(s:p o i h):LL SS bC [1,1,1,0,1,0,0] (qs r a n c q i) h (KK SS bC [1,1,1,0,1,0] [] (EE SS bC Q)):=
 cY (qs r a n c q) p (λo i t h s=>ai (step o i t h s)) o s
theorem zP(u:Nat)(a:OA)(n c:Nat)  (t:Nat->Nat->Nat->ae->Prop) (Q:VH) (step:∀(s:Nat)(k kb:Nat)(w:Nat->Value)(h:ae),t s k kb h->au (decide (((k:Int):Int)<(n:Int))) (fP 136 (pA u) 0 λr=>lI h r λq=>FW SS 156 [(.int .i64 q),(iA n)] h λo p=>yL o λj l m=>iP 103 (sA kb n n) (iA k) λi=>lL 107 p i λf g h=>iP 107 (.slice f g h) (iA k) λe=>lS p e λd=>FW SS 157 [(pA u),(strOf d)] p λb c=>yS b λa=>LL SS bC [1,1,1,1,0,1,0,0,1,0,0,1,1,0,1,0,0] [(pA u),(iA n),(sA kb n n),(iA k),(.slice j l m),(strOf a),(.int .i64 0)] c (KK SS bC [1,0,0,1,1,0,1,0] [1,1,1,1,0,1,0,0] (RR bC [1,1,1,1,0,1,0,0] (qR (eQ u n) t) s (KK SS bC [1,1,1,1,0,1,0] [] (EE SS bC Q))))) (LL SS bC [1,1,1,1,1,0,1,0,0] (kL u n kb 0) h (KK SS bC [1,1,1,1,1,0,1,0] [] (EE SS bC Q)))) (s:Nat) {k kb:Nat} {h:ae} (v:t s k kb h):LL SS bC [1,1,1,1,0,1,0,0] (eQ u n k kb) h (KK SS bC [1,1,1,1,0,1,0] [] (EE SS bC Q)):=
 nE (eQ u n) t (λs k kb w h v=>ai (step s k kb w h v)) s v
theorem zQ(e:Nat)(a:OA)(n c:Nat)(m g:Nat)(l:LB)(f:Nat->Nat->Nat->ae->Prop)(j k:Nat)(d:Nat->Nat->ae->Prop)(Q:VH)(step:∀(b:Nat) (i:Nat) (p:Nat->Value) (h:ae),d b i h->au (decide (((i:Int):Int)<(n:Int))) (LL SS bC [1,1,1,1,0,1,0,0,1,0,0,1,1,0,1,0,0,1,0,0,1,0,0] (iT e n m g k i l 0) h (KK SS bC [1,0,0,1,0] [1,1,1,1,0,1,0,0,1,0,0,1,1,0,1,0,0] (RR bC [1,1,1,1,0,1,0,0,1,0,0,1,1,0,1,0,0] (eR (kK e n m g k l) d) b (KK SS bC [1,0,0,1,1,0,1,0] [1,1,1,1,0,1,0,0] (RR bC [1,1,1,1,0,1,0,0] (qR (eQ e n) f) j (KK SS bC [1,1,1,1,0,1,0] [] (EE SS bC Q))))))) (aB (qR (eQ e n) f) j [(pA e),(iA n),(sA g n n),(.int .i64 (wrap .i64 ((k:Int)+1)))] h))(b:Nat){i:Nat}{h:ae}(o:d b i h):LL SS bC [1,1,1,1,0,1,0,0,1,0,0,1,1,0,1,0,0] (kK e n m g k l i) h (KK SS bC [1,0,0,1,1,0,1,0] [1,1,1,1,0,1,0,0] (RR bC [1,1,1,1,0,1,0,0] (qR (eQ e n) f) j (KK SS bC [1,1,1,1,0,1,0] [] (EE SS bC Q)))):=
 cY (kK e n m g k l) d (λb i p h o=>ai (step b i p h o)) b o
theorem zS(A:Nat)(a:OA)(n c:Nat)(z:Nat)(y:Nat->Nat->ae->Prop)(Q:VH)(step:∀(x:Nat) (i:Nat) (C:Nat->Value) (h:ae),y x i h->au (decide (((i:Int):Int)<(n:Int))) (iP 103 (sA z n n) (iA i) λw=>lL 107 (room h 21) w λt u v=>fP 136 (pA A) 0 λs=>lI (room h 21) s λr=>FW SS 22 [(.int .i64 r)] (room h 21) λp q=>yS p λo=>iP 103 (sA z n n) (iA i) λm=>lL 107 q m λj k l=>iP 107 (.slice j k l) (iA i) λg=>lS q g λf=>FW SS 158 [(pA A),(strOf o),(strOf f)] q λd e=>yS d λc=>iP 107 (.slice t u v) (iA i) λb=>xU (ah SS.P 9 (.pointer (some b)) (strOf c) e) e λ_ a=>(aj SS.P 107 q (.pointer (some w))=some (.slice t u v)/\dC 4 (.slice t u v) (.slice t u v)=true)/\(aj SS.P 107 e (.pointer (some w))=some (.slice t u v)/\dC 4 (.slice t u v) (.slice t u v)=true)/\(aj SS.P 107 (room h 21) (.pointer (some m))=some (.slice j k l)/\dC 4 (.slice j k l) (.slice j k l)=true)/\(aj SS.P 9 (room h 21) (.pointer (some g))=some (strOf f)/\dC 4 (strOf f) (strOf f)=true)/\aB (eR (kL A n z) y) x [(pA A),(iA n),(sA z n n),(.int .i64 (wrap .i64 ((i:Int)+1)))] a) (Q (sA z n n) h))(x:Nat){i:Nat}{h:ae}(B:y x i h):LL SS bC [1,1,1,1,1,0,1,0,0] (kL A n z i) h (KK SS bC [1,1,1,1,1,0,1,0] [] (EE SS bC Q)):=
 cY (kL A n z) y (λx i C h B=>ai (step x i C h B)) x B
theorem zT(B:Nat)(a:OA)(n c:Nat)(A D:Nat)(l:LB)(x1:Nat->Nat->Nat->ae->Prop)(x2 k:Nat)(T:Nat->Nat->ae->Prop)(x0 i:Nat)(E:Nat->Nat->ae->Prop)(Q:VH)(step:∀(C:Nat) (j:Nat) (zz:Nat->Value) (h:ae),E C j h->au (decide (((j:Int):Int)<(n:Int))) (iP 103 (sA D n n) (iA i) λe5=>lL 107 (room h 14) e5 λe2 e3 e4=>iP 103 (sA A n n) (iA i) λe1=>lL 107 (room h 14) e1 λd8 d9 e0=>iP 107 (.slice d8 d9 e0) (iA j) λd7=>lS (room h 14) d7 λd6=>iP 107 (.slice e2 e3 e4) (iA j) λd5=>xU (ah SS.P 9 (.pointer (some d5)) (strOf d6) (room h 14)) (room h 14) λ_ U=>iP 103 (sA A n n) (iA i) λd3=>lL 107 (room U 28) d3 λS R K=>iP 107 (.slice S R K) (iA k) λc9=>lS (room U 28) c9 λN=>fP 136 (pA B) 0 λc7=>lI (room U 28) c7 λc6=>FW SS 18 [(.int .i64 c6)] (room U 28) λc4 J=>yS c4 λc3=>au (!((N:LB)==c3)) (iP 103 (sA A n n) (iA k) λc2=>lL 107 J c2 λV Z W=>iP 107 (.slice V Z W) (iA j) λb8=>lS J b8 λX=>fP 136 (pA B) 0 λb6=>lI J b6 λb5=>FW SS 18 [(.int .i64 b5)] J λb3 F=>yS b3 λb2=>(aj SS.P 107 J (.pointer (some d3))=some (.slice S R K)/\dC 4 (.slice S R K) (.slice S R K)=true)/\(aj SS.P 9 J (.pointer (some c9))=some (strOf N)/\dC 4 (strOf N) (strOf N)=true)/\(aj SS.P 107 F (.pointer (some c2))=some (.slice V Z W)/\dC 4 (.slice V Z W) (.slice V Z W)=true)/\(aj SS.P 9 F (.pointer (some b8))=some (strOf X)/\dC 4 (strOf X) (strOf X)=true)/\au (!((X:LB)==b2)) (iP 103 (sA D n n) (iA i) λY=>lL 107 (room F 35) Y λH G I=>iP 103 (sA A n n) (iA i) λa7=>lL 107 (room F 35) a7 λO P M=>iP 107 (.slice O P M) (iA j) λa3=>lS (room F 35) a3 λL=>iP 103 (sA A n n) (iA i) λa1=>lL 107 (room F 35) a1 λy z a0=>iP 107 (.slice y z a0) (iA k) λx=>lS (room F 35) x λw=>FW SS 159 [(pA B),(strOf w),(strOf l)] (room F 35) λu v=>yS u λt=>iP 103 (sA A n n) (iA k) λs=>lL 107 v s λp q r=>iP 107 (.slice p q r) (iA j) λo=>lS v o λm=>FW SS 159 [(pA B),(strOf t),(strOf m)] v λg h=>yS g λf=>FW SS 158 [(pA B),(strOf L),(strOf f)] h λd e=>yS d λc=>iP 107 (.slice H G I) (iA j) λb=>xU (ah SS.P 9 (.pointer (some b)) (strOf c) e) e λ_ a=>(aj SS.P 107 v (.pointer (some Y))=some (.slice H G I)/\dC 4 (.slice H G I) (.slice H G I)=true)/\(aj SS.P 107 h (.pointer (some Y))=some (.slice H G I)/\dC 4 (.slice H G I) (.slice H G I)=true)/\(aj SS.P 107 e (.pointer (some Y))=some (.slice H G I)/\dC 4 (.slice H G I) (.slice H G I)=true)/\(aj SS.P 107 v (.pointer (some a7))=some (.slice O P M)/\dC 4 (.slice O P M) (.slice O P M)=true)/\(aj SS.P 107 h (.pointer (some a7))=some (.slice O P M)/\dC 4 (.slice O P M) (.slice O P M)=true)/\(aj SS.P 9 v (.pointer (some a3))=some (strOf L)/\dC 4 (strOf L) (strOf L)=true)/\(aj SS.P 9 h (.pointer (some a3))=some (strOf L)/\dC 4 (strOf L) (strOf L)=true)/\(aj SS.P 107 (room F 35) (.pointer (some s))=some (.slice p q r)/\dC 4 (.slice p q r) (.slice p q r)=true)/\(aj SS.P 9 (room F 35) (.pointer (some o))=some (strOf m)/\dC 4 (strOf m) (strOf m)=true)/\aB (eR (iT B n A D k i l) E) C [(pA B),(iA n),(sA A n n),(iA k),(sA D n n),(strOf l),(iA i),(.int .i64 (wrap .i64 ((j:Int)+1)))] a) (aB (eR (iT B n A D k i l) E) C [(pA B),(iA n),(sA A n n),(iA k),(sA D n n),(strOf l),(iA i),(.int .i64 (wrap .i64 ((j:Int)+1)))] F)) ((aj SS.P 107 J (.pointer (some d3))=some (.slice S R K)/\dC 4 (.slice S R K) (.slice S R K)=true)/\(aj SS.P 9 J (.pointer (some c9))=some (strOf N)/\dC 4 (strOf N) (strOf N)=true)/\aB (eR (iT B n A D k i l) E) C [(pA B),(iA n),(sA A n n),(iA k),(sA D n n),(strOf l),(iA i),(.int .i64 (wrap .i64 ((j:Int)+1)))] J)) (aB (eR (kK B n A D k l) T) x0 [(pA B),(iA n),(sA A n n),(iA k),(sA D n n),(strOf l),(.int .i64 (wrap .i64 ((i:Int)+1)))] h))(C:Nat){j:Nat}{h:ae}(hi:E C j h):LL SS bC [1,1,1,1,0,1,0,0,1,0,0,1,1,0,1,0,0,1,0,0,1,0,0] (iT B n A D k i l j) h (KK SS bC [1,0,0,1,0] [1,1,1,1,0,1,0,0,1,0,0,1,1,0,1,0,0] (RR bC [1,1,1,1,0,1,0,0,1,0,0,1,1,0,1,0,0] (eR (kK B n A D k l) T) x0 (KK SS bC [1,0,0,1,1,0,1,0] [1,1,1,1,0,1,0,0] (RR bC [1,1,1,1,0,1,0,0] (qR (eQ B n) x1) x2 (KK SS bC [1,1,1,1,0,1,0] [] (EE SS bC Q)))))):=
 cY (iT B n A D k i l) E (λC j zz h hi=>ai (step C j zz h hi)) C hi
noncomputable def Ui:FD:=cA Tryz.f97 []
theorem Qc(m:Int)(a:OA)(n c:Nat)(h:ae)(Q:VH)(o:FW SS 123 [(.int .i64 m),(.slice a n c)] h λk l=>yB k λj=>au (!j) (Q (.tuple ⟨[nA,(.int .i64 1)]⟩) l) (au (decide (((n:Int):Int)>60)) (Q (.tuple ⟨[nA,(.int .i64 2)]⟩) l) (xA (bh SS.P 136 [(0,(.int .i64 m))]) λi=>xN (fi SS.P 136 (.agg ⟨i⟩)) l λ_ h=>FW SS 124 [(pA (l.next)),(.slice a n c)] h λf g=>yL f λc d e=>fP 136 (pA (l.next)) 1 λb=>lB g b λa=>au a (Q (.tuple ⟨[nA,(.int .i64 2)]⟩) g) (Q (.tuple ⟨[(.slice c d e),(.int .i64 0)]⟩) g)))):FW SS 97 [(.int .i64 m),(.slice a n c)] h Q:=cN Ui Tryz.func97 (ai o)
section
def aX(kind:Int):qb (List UInt8):=⟨bH kind,pE kind,λa=>a==bH kind,eO kind,dh kind,lP kind⟩
abbrev LM:=List (List (List UInt8))
structure Sq(kind:Int)(n:Nat)(B:LM):Prop where
 len:B.length=n
 row:∀i,i<n->(B.getD i []).length=n
 val:∀i j,i<n->j<n->aM kind ((B.getD i []).getD j [])=true
theorem dq{l:List A}{i:Nat}(a:i<l.length)(v d:A)(j:Nat):(l.set i v).getD j d=if j=i then v else l.getD j d:=by
 rw[gD,getElem?_set];by_cases e:i=j
 ·subst e;rw[if_pos rfl,if_pos a,if_pos rfl];rfl
 ·rw[if_neg e,if_neg λh=>e h.symm,<-gD]
theorem Sq.put{kind:Int}{n:Nat}{B:LM}(s:Sq kind n B){i j:Nat}(d:i<n)(h:j<n){x:List UInt8}(g:aM kind x=true):Sq kind n (B.set i ((B.getD i []).set j x)):=by
 have f:=s.len;refine⟨by rw[length_set];exact f,λa c=>?_,λa b c e=>?_⟩
 ·rw[dq (by omega)];split
  ·rw[length_set];exact s.row i d
  ·exact s.row a c
 ·rw[dq (by omega)];split
  ·rw[dq (by rw[s.row i d];exact h)];split
   ·exact g
   ·exact s.val i b d e
  ·exact s.val a b c e
theorem Fm{l:List (List UInt8)}{j:Nat}(b:j<l.length)(d a:List UInt8):l.getD j d=l.getD j a:=by
 rw[gD,gD,gE b];rfl
theorem Sq.Li{kind:Int}{n:Nat}{B:LM}(s:Sq kind n B){i j:Nat}(a:i<n)(b:j<n):bS (aX kind) B i j=(B.getD i []).getD j []:=Fm (by rw[s.row i a];exact b) _ _
def R2(kind:Int)(n:Nat)(B:LM)(k:Nat):Option LM:=match bg (fm (aX kind)) (n-k) k B with
 |none=>none
 |some a=>bg (nJ (aX kind)) n 0 a
def R3(kind:Int)(n:Nat)(B:LM)(l:List UInt8)(k:Nat)(C:LM)(i:Nat):Option LM:=match bg (iO (aX kind) B l k) (n-i) i C with
 |none=>none
 |some a=>R2 kind n a (k+1)
def R4(kind:Int)(n:Nat)(B:LM)(l:List UInt8)(k:Nat)(C:LM)(i:Nat)(r:List (List UInt8))(j:Nat):Option LM:=match bg (cp (aX kind) B l k i) (n-j) j r with
 |none=>none
 |some a=>R3 kind n B l k (C++[a]) (i+1)
section
variable {kind:Int} {n:Nat} {B C:LM} {l:List UInt8} {k i j:Nat} {r:List (List UInt8)}
theorem fg(f:A->Nat->Option A){n i:Nat}(h:i<n)(b:A):bg f (n-i) i b=match f b i with|some a=>bg f (n-(i+1)) (i+1) a|none=>none:=by
 rw[show n-i=(n-(i+1))+1 by omega];rfl
theorem iH(f:A->Nat->Option A){n:Nat}(b:A):bg f (n-n) n b=some b:=by rw[Nat.sub_self];rfl
theorem RI(a:B.length=n):jR (aX kind) B=R2 kind n B 0:=by
 unfold jR R2;rw[a,sub_zero]
 cases bg (fm (aX kind)) n 0 B<;>rfl
theorem Nj(a:B.length=n)(b:k<n):R2 kind n B k=match (aX kind).star (bS (aX kind) B k k)with|none=>none|some s=>R3 kind n B s k [] 0:=by
 unfold R2;rw[fg _ b];unfold fm
 cases (aX kind).star (bS (aX kind) B k k)with
 |none=>rfl
 |some s=>
  dsimp only;unfold R3;rw[a]
  cases bg (iO (aX kind) B s k) n 0 []<;>rfl
theorem Wj(a:B.length=n)(b:i<n):R3 kind n B l k C i=R4 kind n B l k C i [] 0:=by
 unfold R3;rw[fg _ b];have e:iO (aX kind) B l k C i=match bg (cp (aX kind) B l k i) n 0 []with|none=>none|some r=>some (C++[r]):=by
  unfold iO;rw[a]
  cases bg (cp (aX kind) B l k i) n 0 []<;>rfl
 rw[e];unfold R4
 cases bg (cp (aX kind) B l k i) n 0 []with
 |none=>rfl
 |some r=>rfl
theorem ZD:R3 kind n B l k C n=R2 kind n C (k+1):=by unfold R3;rw[iH]
theorem Gy(a:j<n):R4 kind n B l k C i r j=match cp (aX kind) B l k i r j with|none=>none|some b=>R4 kind n B l k C i b (j+1):=by
 unfold R4;rw[fg _ a]
 cases cp (aX kind) B l k i r j<;>rfl
theorem ZE:R4 kind n B l k C i r n=R3 kind n B l k (C++[r]) (i+1):=by unfold R4;rw[iH]
theorem lC{l:List A}{i:Nat}(h:m<=i)(x:A):(l.set i x).take m=l.take m:=by rw[List.take_set_of_le h]
theorem gb{l:List A}{i:Nat}(h:i<l.length)(d:A):l.take (i+1)=l.take i++[l.getD i d]:=by
 rw[List.take_add_one,gD,gE h];rfl
end
structure MI(kind:Int)(n N0:Nat)(kt:Nat)(ks cs:Nat->Nat)(B:LM)(g:ae):Prop where
 m:sC 107 g kt ks cs B
 sq:Sq kind n B
 new:N0<=kt/\∀i,i<n->N0<=ks i
section
variable {kind:Int} {n N0 N1 kt kb kc s0:Nat} {ks cs kbs bcs kcs ccs:Nat->Nat} {B C:LM} {g g' h:ae} {i j:Nat}
theorem MI.ld(x:MI kind n N0 kt ks cs B g)(a:i<n):aj SS.P 107 g (.pointer (some ⟨kt,i,none⟩))=some (.slice (some ⟨ks i,0,none⟩) n (cs i)):=by
 rw[x.m.ld ty (by rw[x.sq.len];exact a),x.sq.row i a]
theorem MI.cell(x:MI kind n N0 kt ks cs B g)(a:i<n)(b:j<n):aj SS.P 9 g (.pointer (some ⟨ks i,j,none⟩))=some (strOf ((B.getD i []).getD j [])):=(x.m.row i (by rw[x.sq.len];exact a)).ld ty (by rw[x.sq.row i a];exact b)
theorem MI.kI{X:Nat->Prop}(x:MI kind n N0 kt ks cs B g)(s:zd X g g')(b:∀a,X a->a<N0):MI kind n N0 kt ks cs B g':=
 ⟨x.m.kI s (λc=>by have:=b _ c;have:=x.new.1;omega) (λi d c=>by have:=b _ c;have:=x.new.2 i (by rw[<-x.sq.len];exact d);omega),x.sq,x.new⟩
theorem MI.ok(x:MI kind n N0 kt ks cs B g)(o:Ok g g'):MI kind n N0 kt ks cs B g':=⟨x.m.ok o,x.sq,x.new⟩
theorem MI.room(x:MI kind n N0 kt ks cs B g)(m:Nat):MI kind n N0 kt ks cs B (Go.Ab.room g m):=⟨x.m.room m,x.sq,x.new⟩
theorem MI.st(x:MI kind n N0 kt ks cs B g)(a:i<n)(b:j<n)(y:List UInt8):ah SS.P 9 (.pointer (some ⟨ks i,j,none⟩)) (strOf y) g=some (undef,.set (ks i) (.cells (eE ((B.getD i []).set j y)) 9 1 true)):=(x.m.row i (by rw[x.sq.len];exact a)).st ty (by rw[x.sq.row i a];exact b) y
theorem MI.put(x:MI kind n N0 kt ks cs B g)(a:i<n)(b:j<n){y:List UInt8}(c:aM kind y=true):MI kind n N0 kt ks cs (B.set i ((B.getD i []).set j y)) ((dL.set (ks i) (.cells (eE ((B.getD i []).set j y)) 9 1 true)).app g):=
 ⟨x.m.put (by rw[x.sq.len];exact a) j y,x.sq.put a b c,x.new⟩
theorem MI.lt(x:MI kind n N0 kt ks cs B g)(w:Wf g)(a:i<n):ks i<g.next:=(x.m.lt w).2 i (by rw[x.sq.len];exact a)
theorem MI.other(x:MI kind n N0 kt ks cs B g){k:Nat}(b:kt≠k/\∀i,i<n->ks i≠k)(l:dP):MI kind n N0 kt ks cs B ((dL.set k l).app g):=
 ⟨⟨by show(g.set k l).get kt=_;rw[ae.aw,if_neg b.1];exact x.m.out,λi a=>by
   have:=x.m.row i a;show(g.set k l).get (ks i)=_;rw[ae.aw,if_neg (b.2 i (by rw[<-x.sq.len];exact a))];exact this,x.m.ne,x.m.inj⟩,x.sq,x.new⟩
theorem m6.other{bad:Bool}(s:m6 g s0 kind bad){k:Nat}(a:s0≠k)(l:dP):m6 ((dL.set k l).app g) s0 kind bad:=by
 show(g.set k l).get s0=_;rw[ae.aw,if_neg a];exact s
theorem XF{X:Nat->Prop}(s:zd X h g)(d:Wf h){k:Nat}(i:h.next<=k)(c:k<g.next)(l:dP):zd X h ((dL.set k l).app g):=by
 refine⟨λa B b=>?_,λa B f b=>?_,s.nx⟩
 ·have b:(g.set k l).get a=some B:=b;rw[ae.aw]at b;split at b
  ·next e=>rw[e];exact c
  ·exact s.wf _ _ b
 ·show(g.set k l).get a=_;rw[ae.aw,if_neg (λe=>by have:=d _ _ b;omega)];exact s.ext _ _ f b
end
structure SI(h:ae)(s0:Nat)(kind:Int)(bad:Bool)(G now:Option LM)(g:ae):Prop where
 s:m6 g s0 kind bad
 ok:zd (λk=>k=s0) h g
 yes:bad=true->G=none
 no:bad=false->now=G
section
variable {h:ae} {s0:Nat} {kind:Int} {bad:Bool} {G now now':Option LM} {g g':ae}
theorem SI.step(x:SI h s0 kind bad G now g)(e:bad=false->now=now'):SI h s0 kind bad G now' g:=⟨x.s,x.ok,x.yes,λa=>by rw[<-e a];exact x.no a⟩
theorem SI.ux(x:SI h s0 kind bad G now g)(o:Ok g g'):SI h s0 kind bad G now g':=⟨x.s.ok o,x.ok.trans o.okS,x.yes,x.no⟩
theorem SI.op(x:SI h s0 kind bad G now g){a:Bool}{o:Option (List UInt8)}{c:List UInt8}(l:m6 g' s0 kind a)(p:zd (λk=>k=s0) g g')(m:a=false->bad=false/\o=some c)(n:a=true->bad=true\/o=none)(f:o=none->now=none)(j:o=some c->now=now'):SI h s0 kind a G now' g':=
 ⟨l,x.ok.trans p,λd=>(by
   rcases n d with e|e
   ·exact x.yes e
   ·cases b:bad with
    |true=>exact x.yes b
    |false=>rw[<-x.no b];exact f e),λd=>by
   obtain⟨i,q⟩:=m d;rw[<-j q];exact x.no i⟩
theorem SI.wf(x:SI h s0 kind bad G now g):Wf g:=x.ok.wf
theorem SI.room(x:SI h s0 kind bad G now g)(m:Nat):SI h s0 kind bad G now (Go.Ab.room g m):=⟨x.s,x.ok.room m,x.yes,x.no⟩
theorem SI.set(x:SI h s0 kind bad G now g)(b:Wf h){k:Nat}(c:s0≠k)(d:h.next<=k)(a:k<g.next)(l:dP):SI h s0 kind bad G now ((dL.set k l).app g):=⟨x.s.other c l,XF x.ok b d a l,x.yes,x.no⟩
end
structure Rs(h:ae)(s0:Nat)(kind:Int)(n N1 kb kc:Nat)(kbs bcs kcs ccs:Nat->Nat)(B C:LM)(g:ae):Prop where
 b:MI kind n h.next kb kbs bcs B g
 c:MI kind n N1 kc kcs ccs C g
 old:kb<N1/\(∀i,i<n->kbs i<N1)/\h.next<=N1
section
variable {h:ae} {s0:Nat} {kind:Int} {n N1 kb kc:Nat} {kbs bcs kcs ccs:Nat->Nat} {B C:LM} {g g':ae} {i j:Nat}
theorem Rs.op(t:Rs h s0 kind n N1 kb kc kbs bcs kcs ccs B C g)(b:s0<h.next)(o:zd (λk=>k=s0) g g'):Rs h s0 kind n N1 kb kc kbs bcs kcs ccs B C g':=
 ⟨t.b.kI o (λa e=>by rw[e];exact b),t.c.kI o (λa e=>by rw[e];have:=t.old.2.2;omega),t.old⟩
theorem Rs.room(t:Rs h s0 kind n N1 kb kc kbs bcs kcs ccs B C g)(m:Nat):Rs h s0 kind n N1 kb kc kbs bcs kcs ccs B C (Go.Ab.room g m):=⟨t.b.room m,t.c.room m,t.old⟩
theorem Rs.put(t:Rs h s0 kind n N1 kb kc kbs bcs kcs ccs B C g)(b:i<n)(d:j<n){y:List UInt8}(f:aM kind y=true):Rs h s0 kind n N1 kb kc kbs bcs kcs ccs B (C.set i ((C.getD i []).set j y)) ((dL.set (kcs i) (.cells (eE ((C.getD i []).set j y)) 9 1 true)).app g):=
 ⟨t.b.other ⟨λe=>by have:=t.c.new.2 i b;have:=t.old.1;omega,λa c e=>by have:=t.c.new.2 i b;have:=t.old.2.1 a c;omega⟩ _,t.c.put b d f,t.old⟩
end
def I4(h:ae)(s0:Nat)(kind:Int)(n N1 kb kc k i:Nat)(l:List UInt8)(kbs bcs kcs ccs:Nat->Nat)(B:LM)(G:Option LM)(a j:Nat)(g:ae):Prop:=j<=n/\a=n-j/\∃(C:LM)(bad:Bool),Rs h s0 kind n N1 kb kc kbs bcs kcs ccs B C g/\SI h s0 kind bad G (R4 kind n B l k (C.take i) i ((C.getD i []).take j) j) g
def I3(h:ae)(s0:Nat)(kind:Int)(n N1 kb kc k:Nat)(l:List UInt8)(kbs bcs kcs ccs:Nat->Nat)(B:LM)(G:Option LM)(a i:Nat)(g:ae):Prop:=i<=n/\a=n-i/\∃(C:LM)(bad:Bool),Rs h s0 kind n N1 kb kc kbs bcs kcs ccs B C g/\SI h s0 kind bad G (R3 kind n B l k (C.take i) i) g
section
variable {h:ae} {s0:Nat} {kind:Int} {n N1 kb kc k i:Nat} {l:List UInt8} {kbs bcs kcs ccs:Nat->Nat} {B:LM} {G:Option LM}
theorem UE{C:LM}{i j n:Nat}(e:C.length=n)(h:(C.getD i []).length=n)(f:i<n)(g:j<n)(x y:List UInt8):let b:=C.set i ((C.getD i []).set j x);let a:=b.set i ((b.getD i []).set j y);a.take i=C.take i/\(a.getD i []).take (j+1)=(C.getD i []).take j++[y]:=by
 dsimp only;have c:(C.set i ((C.getD i []).set j x)).getD i []=(C.getD i []).set j x:=by rw[dq (by omega),if_pos rfl]
 rw[c,List.set_set,List.set_set];refine⟨lC (Nat.le_refl _) _,?_⟩;rw[dq (by omega),if_pos rfl,gb (d:=[]) (by rw[length_set];omega),lC (Nat.le_refl _),dq (by omega),if_pos rfl]
theorem Yd{C:LM}{i j n:Nat}(b:C.length=n)(f:(C.getD i []).length=n)(c:i<n)(e:j<n)(y:List UInt8):let a:=C.set i ((C.getD i []).set j y);a.take i=C.take i/\(a.getD i []).take (j+1)=(C.getD i []).take j++[y]:=by
 dsimp only;refine⟨lC (Nat.le_refl _) _,?_⟩;rw[dq (by omega),if_pos rfl,gb (d:=[]) (by rw[length_set];omega),lC (Nat.le_refl _),dq (by omega),if_pos rfl]
theorem mf(l:List UInt8):dC 4 (strOf l) (strOf l)=true:=kM l
set_option linter.defProp false in
def U3(wh:Wf h)(S:s0<h.next)(hk:1<=kind/\kind<=3)(hn:n<=1000)(f:k<n)(d:i<n)(hl:aM kind l=true)(a:Option Addr)(c:Nat)(X:Nat->Nat->Nat->ae->Prop)(x1:Nat)(M:Nat)(x8:M=n-i)(Q:VH):=
 zT s0 a n c kb kc l X x1 k (I3 h s0 kind n N1 kb kc k l kbs bcs kcs ccs B G) M i (I4 h s0 kind n N1 kb kc k i l kbs bcs kcs ccs B G) Q (by
  intro x7 j;intros;rename_i g Z;obtain⟨f1,f2,C,bad,t,T⟩:=Z;refine aa (λq=>?_) (λq=>?_)
  ·have m:j<n:=by have:=dT q;omega
   have w:=t.room 14;have L:=t.b.sq.val i j d m;have P:s0≠kcs i:=λe=>by have:=t.c.new.2 i d;have:=t.old.2.2;omega
   refine⟨_,sC.ix ty d,_,_,_,w.c.ld d,_,sC.ix ty d,_,_,_,w.b.ld d,_,VB.ix ty m,_,w.b.cell d m,_,VB.ix ty m,_,w.c.st d m _,?_⟩;have t1:=w.put d m L;have x2:=(T.room 14).set wh P (Nat.le_trans t.old.2.2 (t.c.new.2 i d)) (w.c.lt (T.room 14).wf d) (.cells (eE ((C.getD i []).set j ((B.getD i []).getD j []))) 9 1 true);have hC:=t.c.sq.len;have hr:=t.c.sq.row i d;obtain⟨n1,n2⟩:=Yd hC hr d m ((B.getD i []).getD j []);obtain⟨r,N⟩:∃r,r=C.set i ((C.getD i []).set j ((B.getD i []).getD j [])):=⟨_,rfl⟩
   rw[<-N]at t1 n1 n2;have O:∀y,(r.set i ((r.getD i []).set j y)).take i=C.take i/\((r.set i ((r.getD i []).set j y)).getD i []).take (j+1)=(C.getD i []).take j++[y]:=λy=>by rw[N];exact UE hC hr d m _ y
   generalize (dL.set (kcs i) _).app (Go.Ab.room g 14)=U at*;have o:=t1.room 28;have u:=x2.room 28;rw[aJ m (by omega)];refine⟨_,sC.ix ty d,_,_,_,o.b.ld d,_,VB.ix ty f,_,o.b.cell d f,_,nQ _,_,u.s.l0,(gX hk _).mono ?_⟩;rintro _ Y ⟨rfl,V⟩;obtain rfl:Go.Ab.room U 28=Y:=V.symm;have zc:∀(b:Bool),((aX kind).xp (bS (aX kind) B i k)||(aX kind).xp (bS (aX kind) B k j))=true->SI h s0 kind bad G (R4 kind n B l k (r.take i) i ((r.getD i []).take (j+1)) (j+1)) (Go.Ab.room U 28):=λ_ J=>u.step λ_=>by
    rw[Gy m];unfold cp;rw[if_pos J,n1,n2,t.b.sq.Li d m]
   refine⟨_,rfl,aa (λE=>?_) (λE=>?_)⟩
   ·refine⟨_,sC.ix ty f,_,_,_,o.b.ld f,_,VB.ix ty m,_,o.b.cell f m,_,nQ _,_,u.s.l0,(gX hk _).mono ?_⟩;rintro _ Y ⟨rfl,V⟩;obtain rfl:Go.Ab.room U 28=Y:=V.symm;refine⟨_,rfl,⟨o.b.ld d,kz _ _ _⟩,⟨o.b.cell d f,mf _⟩,⟨o.b.ld f,kz _ _ _⟩,⟨o.b.cell f m,mf _⟩,aa (λz=>?_) (λz=>?_)⟩
    ·have s:=o.room 35;have x:=u.room 35;have x3:=t.b.sq.val i k d f;have x4:=t.b.sq.val k j f m;have J:¬((aX kind).xp (bS (aX kind) B i k)||(aX kind).xp (bS (aX kind) B k j))=true:=by
      rw[t.b.sq.Li d f,t.b.sq.Li f m];show ¬(((B.getD i []).getD k []==bH kind)||((B.getD k []).getD j []==bH kind))=true;rw[not_eq_true']at E z;rw[E,z];simp
     refine⟨_,sC.ix ty d,_,_,_,s.c.ld d,_,sC.ix ty d,_,_,_,s.b.ld d,_,VB.ix ty m,_,s.b.cell d m,_,sC.ix ty d,_,_,_,s.b.ld d,_,VB.ix ty f,_,s.b.cell d f,(FT x.wf x.s x3 hl).mono ?_⟩;rintro _ g4 ⟨x6,A,rfl,s4,o4,v4,y4,z4⟩;have v:=s.op S o4;have D:=x.op (now':=match dh kind A ((B.getD k []).getD j [])with|none=>none|some p=>match eO kind ((B.getD i []).getD j []) p with|none=>none|some c=>R4 kind n B l k (C.take i) i ((C.getD i []).take j++[c]) (j+1)) s4 o4 y4 z4 (λe=>by
      rw[Gy m];unfold cp;rw[if_neg J,t.b.sq.Li d f];have e:(aX kind).times ((B.getD i []).getD k []) l=none:=e;rw[e]) (λe=>by
      rw[Gy m];unfold cp;rw[if_neg J,t.b.sq.Li d f,t.b.sq.Li f m,t.b.sq.Li d m];have e:(aX kind).times ((B.getD i []).getD k []) l=some A:=e;rw[e];dsimp only;have e2:(aX kind).times A ((B.getD k []).getD j [])=dh kind A ((B.getD k []).getD j []):=rfl;rw[e2]
      cases dh kind A ((B.getD k []).getD j [])with
      |none=>rfl
      |some p=>
       dsimp only;have e3:(aX kind).plus ((B.getD i []).getD j []) p=eO kind ((B.getD i []).getD j []) p:=rfl;rw[e3]
       cases eO kind ((B.getD i []).getD j []) p<;>rfl)
     refine⟨_,rfl,_,sC.ix ty f,_,_,_,v.b.ld f,_,VB.ix ty m,_,v.b.cell f m,(FT D.wf D.s v4 x4).mono ?_⟩;rintro _ g5 ⟨x5,c5,rfl,s5,o5,v5,y5,z5⟩;have H:=v.op S o5;have F:=D.op (now':=match eO kind ((B.getD i []).getD j []) c5 with|none=>none|some c=>R4 kind n B l k (C.take i) i ((C.getD i []).take j++[c]) (j+1)) s5 o5 y5 z5 (λe=>by rw[e]) (λe=>by rw[e]);refine⟨_,rfl,(Kd F.wf F.s L v5).mono ?_⟩;rintro _ g6 ⟨W,K,rfl,s6,o6,v6,y6,z6⟩;have I:=H.op S o6;have R:=F.op (now':=R4 kind n B l k (C.take i) i ((C.getD i []).take j++[K]) (j+1)) s6 o6 y6 z6 (λe=>by rw[e]) (λe=>by rw[e]);refine⟨_,rfl,_,VB.ix ty m,_,I.c.st d m _,⟨v.c.ld d,kz _ _ _⟩,⟨H.c.ld d,kz _ _ _⟩,⟨I.c.ld d,kz _ _ _⟩,⟨v.b.ld d,kz _ _ _⟩,⟨H.b.ld d,kz _ _ _⟩,⟨v.b.cell d m,mf _⟩,⟨H.b.cell d m,mf _⟩,⟨s.b.ld f,kz _ _ _⟩,⟨s.b.cell f m,mf _⟩,?_⟩;refine bY (n-(j+1)) (by omega) ⟨by omega,rfl,_,W,I.put d m v6,?_⟩;have x0:=R.set wh P (Nat.le_trans t.old.2.2 (t.c.new.2 i d)) (I.c.lt R.wf d) (.cells (eE ((r.getD i []).set j K)) 9 1 true);rw[(O K).1,(O K).2];exact x0
    ·refine bY (n-(j+1)) (by omega) ⟨by omega,rfl,r,bad,o,zc true ?_⟩;rw[t.b.sq.Li d f,t.b.sq.Li f m];show(_||((B.getD k []).getD j []==bH kind))=true;rw[not_eq_false']at z;rw[z,Bool.or_true]
   ·refine⟨⟨o.b.ld d,kz _ _ _⟩,⟨o.b.cell d f,mf _⟩,bY (n-(j+1)) (by omega) ⟨by omega,rfl,r,bad,o,zc true ?_⟩⟩;rw[t.b.sq.Li d f];show(((B.getD i []).getD k []==bH kind)||_)=true;rw[not_eq_false']at E;rw[E,Bool.true_or]
  ·obtain rfl:j=n:=by have:=dF q;omega
   rw[aJ d (by omega)];refine bY (j-(i+1)) (by omega) ⟨by omega,rfl,C,bad,t,T.step λ_=>?_⟩;have e:(C.getD i []).take j=C.getD i []:=take_of_length_le (by rw[t.c.sq.row i d];exact Nat.le_refl _);rw[ZE,e,<-gb (by rw[t.c.sq.len];exact d)])
end
end
section
section
variable {h:ae} {s0:Nat} {kind:Int} {n:Nat} {G:Option LM}
def I2(h:ae)(s0:Nat)(kind:Int)(n:Nat)(G:Option LM)(c k d:Nat)(g:ae):Prop:=k<=n/\c=n-k/\∃(b a:Nat->Nat)(B:LM)(bad:Bool),MI kind n h.next d b a B g/\SI h s0 kind bad G (R2 kind n B k) g
def I5(h:ae)(s0:Nat)(kind:Int)(n:Nat)(G:Option LM)(d:Nat)(b a:Nat->Nat)(c i:Nat)(g:ae):Prop:=i<=n/\c=n-i/\∃(B:LM)(bad:Bool),MI kind n h.next d b a B g/\SI h s0 kind bad G (bg (nJ (aX kind)) (n-i) i B) g
def stQ(h:ae)(s0:Nat)(kind:Int)(n:Nat)(G:Option LM):VH:=λv g=>∃(b:Nat)(c a:Nat->Nat)(B:LM)(bad:Bool),v=sA b n n/\MI kind n h.next b c a B g/\m6 g s0 kind bad/\zd (λk=>k=s0) h g/\(bad=true->G=none)/\(bad=false->G=some B)
theorem Yq(C:Wf h)(E:s0<h.next)(x:1<=kind/\kind<=3)(L:n<=1000)(a:Option Addr)(c:Nat){m:Nat}{k l:Nat->Nat}{B:LM}{bad:Bool}{g:ae}(d:MI kind n h.next m k l B g)(f:SI h s0 kind bad G (R2 kind n B n) g):
  LL SS bC [1,1,1,1,1,0,1,0,0] (kL s0 n m 0) g (KK SS bC [1,1,1,1,1,0,1,0] [] (EE SS bC (stQ h s0 kind n G))):=by
 have w:SI h s0 kind bad G (bg (nJ (aX kind)) (n-0) 0 B) g:=f.step λ_=>by
  unfold R2;rw[iH,sub_zero]
 refine zS s0 a n c m (I5 h s0 kind n G m k l) (stQ h s0 kind n G) (λM i=>?_) n (i:=0) ⟨by omega,rfl,B,bad,d,w⟩;intros;rename_i g t;obtain⟨P,O,B,bad,d,f⟩:=t;refine aa (λq=>?_) (λq=>?_)
 ·have b:i<n:=by have:=dT q;omega
  have j:=d.room 21;have p:=f.room 21;have H:=d.sq.val i i b b;refine⟨_,sC.ix ty b,_,_,_,j.ld b,_,nQ _,_,p.s.l0,(Ho kind _).mono ?_⟩;rintro _ K ⟨rfl,I⟩;obtain rfl:Go.Ab.room g 21=K:=I.symm;rw[C6 x];refine⟨_,rfl,_,sC.ix ty b,_,_,_,j.ld b,_,VB.ix ty b,_,j.cell b b,(Kd p.wf p.s (aau x) H).mono ?_⟩;rintro _ N ⟨s,u,rfl,F,v,A,D,J⟩;have o:=j.kI v (λa e=>by rw[e];exact E);have r:=p.op (now':=bg (nJ (aX kind)) (n-(i+1)) (i+1) (B.set i ((B.getD i []).set i u))) F v D J (λe=>by
   rw[fg _ b];unfold nJ;rw[d.sq.Li b b];have e:(aX kind).plus (aX kind).one ((B.getD i []).getD i [])=none:=e;rw[e]) (λe=>by
   rw[fg _ b];unfold nJ;rw[d.sq.Li b b];have e:(aX kind).plus (aX kind).one ((B.getD i []).getD i [])=some u:=e;rw[e])
  refine⟨_,rfl,_,VB.ix ty b,_,o.st b b _,⟨j.ld b,kz _ _ _⟩,⟨o.ld b,kz _ _ _⟩,⟨j.ld b,kz _ _ _⟩,⟨j.cell b b,mf _⟩,?_⟩;have y:s0≠k i:=λe=>by have:=d.new.2 i b;omega
  rw[aJ b (by omega)];exact bY (n-(i+1)) (by omega) ⟨by omega,rfl,_,s,o.put b b A,r.set C y (d.new.2 i b) (o.lt r.wf b) _⟩
 ·obtain rfl:i=n:=by have:=dF q;omega
  refine⟨m,k,l,B,bad,rfl,d,f.s,f.ok,f.yes,λz=>?_⟩;rw[<-f.no z,iH]
theorem Yr(M:Wf h)(H:s0<h.next)(x:1<=kind/\kind<=3)(F:n<=1000)(a:Option Addr)(c:Nat){p:Nat}{kbs bcs:Nat->Nat}{B:LM}{bad:Bool}{g:ae}(f:MI kind n h.next p kbs bcs B g)(m:SI h s0 kind bad G (R2 kind n B 0) g):
  LL SS bC [1,1,1,1,0,1,0,0] (eQ s0 n 0 p) g (KK SS bC [1,1,1,1,0,1,0] [] (EE SS bC (stQ h s0 kind n G))):=by
 refine zP s0 a n c (I2 h s0 kind n G) (stQ h s0 kind n G) (λz k p=>?_) n (k:=0) (kb:=p) ⟨by omega,rfl,kbs,bcs,B,bad,f,m⟩;intros;rename_i g J;obtain⟨f1,f2,kbs,bcs,B,bad,f,m⟩:=J;refine aa (λq=>?_) (λq=>?_)
 ·have d:k<n:=by have:=dT q;omega
  refine⟨_,nQ _,_,m.s.l0,(VX m.wf x F).mono ?_⟩;rintro _ g1 ⟨D,s,w,rfl,Z,L,U,K⟩;have v:=f.ok L;have t:=m.ux L;have W:=f.sq.val k k d d;refine⟨_,_,_,rfl,_,sC.ix ty d,_,_,_,v.ld d,_,VB.ix ty d,_,v.cell d d,(UK t.wf t.s W).mono ?_⟩;rintro _ g2 ⟨E,l,rfl,s2,Q,X,T,Y⟩;have hN:h.next<=g.next:=m.ok.nx;have zq:Sq kind n (List.replicate n (List.replicate n (bH kind))):=by
   have R:∀a,a<n->(List.replicate n (List.replicate n (bH kind))).getD a []=List.replicate n (bH kind):=λa o=>by
    rw[gD,getElem?_replicate,if_pos o];rfl
   refine⟨length_replicate,λa o=>by rw[R a o];exact length_replicate,λa b o S=>?_⟩;rw[R a o,gD,getElem?_replicate,if_pos S];exact sw x
  have t1:Rs h s0 kind n g.next p D kbs bcs s w B _ g1:=⟨v,⟨Z,zq,U,K⟩,(f.m.lt m.wf).1,λa o=>f.lt m.wf o,hN⟩
  have V:=t1.op H Q;have O:=t.op (now':=R3 kind n B l k [] 0) s2 Q T Y (λe=>by
   rw[Nj f.sq.len d,f.sq.Li d d];have e:(aX kind).star ((B.getD k []).getD k [])=none:=e;rw[e]) (λe=>by
   rw[Nj f.sq.len d,f.sq.Li d d];have e:(aX kind).star ((B.getD k []).getD k [])=some l:=e;rw[e])
  refine⟨_,rfl,?_⟩;refine zQ s0 a n c p D l (I2 h s0 kind n G) z k (I3 h s0 kind n g.next p D k l kbs bcs s w B G) (stQ h s0 kind n G) (λN i=>?_) n (i:=0) ⟨by omega,rfl,_,E,V,by rw[take_zero];exact O⟩;intros;rename_i g3 I;obtain⟨e1,e2,C,u,r,y⟩:=I;refine aa (λA=>?_) (λA=>?_)
  ·have P:i<n:=by have:=dT A;omega
   exact U3 M H x F d P X a c (I2 h s0 kind n G) z N e2 (stQ h s0 kind n G) n (j:=0) ⟨by omega,rfl,C,u,r,by
    rw[take_zero];exact y.step λ_=>Wj f.sq.len P⟩
  ·obtain rfl:i=n:=by have:=dF A;omega
   rw[aJ d (by omega)];refine jb (i-(k+1)) (by omega) ⟨by omega,rfl,s,w,C,u,⟨r.c.m,r.c.sq,Nat.le_trans r.old.2.2 r.c.new.1,λa o=>Nat.le_trans r.old.2.2 (r.c.new.2 a o)⟩,y.step λ_=>?_⟩;rw[ZD,take_of_length_le (by rw[r.c.sq.len];exact Nat.le_refl _)]
 ·obtain rfl:k=n:=by have:=dF q;omega
  exact Yq M H x F a c f m
theorem U7(o:Wf h)(F:1<=kind/\kind<=3)(A:n<=1000)(x:m6 h s0 kind false){a:Option Addr}{c:Nat}{R:LM}(r:Lf 107 h (.slice a n c) R)(j:Sq kind n R):FW SS 124 [pA s0,.slice a n c] h (stQ h s0 kind n (jR (aX kind) R)):=by
 have K:s0<h.next:=o _ _ x;refine U6 s0 a n c h _ ⟨_,nQ _,_,x.l0,(VX o F A).mono ?_⟩;rintro _ W ⟨D,f,k,rfl,M,I,Q,u⟩;refine⟨_,_,_,rfl,?_⟩;have S:∀a,a<n->(List.replicate n (List.replicate n (bH kind))).getD a []=List.replicate n (bH kind):=λa d=>by
  rw[gD,getElem?_replicate,if_pos d];rfl
 refine zO s0 a n c D (λC i g=>i<=n/\C=n-i/\Ok h g/\∃B:LM,sC 107 g D f k B/\B.length=n/\(∀a,a<n->(B.getD a []).length=n)/\∀a,a<i->B.getD a []=R.getD a []) _ (λC i=>?_) n (i:=0) ⟨by omega,rfl,I,_,M,length_replicate,λa d=>by rw[S a d];exact length_replicate,λa d=>by omega⟩;intros;rename_i g z;obtain⟨X,U,l,B,m,w,s,H⟩:=z;refine aa (λq=>?_) (λq=>?_)
 ·have b:i<n:=by have:=dT q;omega
  have t:=m.room 9;obtain⟨p,V,N,T,J,P,E⟩:=(r.ok (l.room 9)).at_ ty (i:=i) (by rw[j.len];exact b);have G:=E.len;rw[ff,j.row i b]at G;subst G;have v:=t.ld ty (i:=i) (by omega);rw[s i b]at v;refine⟨_,sC.ix ty b,_,_,_,v,_,J,_,_,_,P,_,_,WV ty (t.row i (by omega)) (s i b) (by omega) E,?_⟩;rw[aJ b (by omega)];have y:f i<(Go.Ab.room g 9).next:=(t.lt (l.room 9).wf).2 i (by omega);refine bY (N-(i+1)) (by omega) ⟨by omega,rfl,(l.room 9).set _ (u i b) y o,B.set i (R.getD i []),t.acu (by omega) (by rw[j.row i b,s i b]),by rw[length_set];exact w,λa d=>?_,λa d=>?_⟩
  ·rw[dq (by omega)];split
   ·exact j.row i b
   ·exact s a d
  ·rw[dq (by omega)];split
   ·next e=>rw[e]
   ·exact H a (by omega)
 ·obtain rfl:i=n:=by have:=dF q;omega
  have e:B=R:=by
   refine ext_getElem (by rw[w,j.len]) λa L O=>?_;have:=H a (by omega);rw[gD,gD,gE L,gE O]at this;exact this
  subst e;exact Yr o K F A a c (kbs:=f) (bcs:=k) (B:=B) (bad:=false) ⟨m,j,Q,u⟩ ⟨x.ok l,l.okS,(λh=>by cases h),λ_=>(RI w).symm⟩
def Zx(kind:Int):dP:= .cells [.int .i64 kind,.bool false] 136 0 true
theorem abW(kind:Int):bh SS.P 136 [(0,.int .i64 kind)]=some (.agg ⟨[.int .i64 kind,.bool false]⟩):=by kernel_rfl
theorem abY(kind:Int):fi SS.P 136 (.agg ⟨[.int .i64 kind,.bool false]⟩)=some (Zx kind,lK):=by kernel_rfl
def adD(h:ae)(kind:Int)(n:Nat)(G:Option LM):VH:=λv g=>Ok h g/\match G with
 |none=>v = .tuple ⟨[nA,.int .i64 2]⟩
 |some B=>∃(a:Option Addr)(c:Nat),v = .tuple ⟨[.slice a n c,.int .i64 0]⟩/\a≠none/\Lf 107 g (.slice a n c) B/\Sq kind n B
theorem Qd(w:Wf h)(A:1<=kind/\kind<=3)(F:n<=3000){a:Option Addr}{c:Nat}{R:LM}(r:Lf 107 h (.slice a n c) R)(f:Sq kind n R):FW SS 97 [.int .i64 kind,.slice a n c] h (adD h kind n (if 60<n then none else jR (aX kind) R)):=by
 have s:∀l∈R,l.length=R.length/\∀x∈l,aM kind x=true:=λl d=>by
  obtain⟨i,z,e⟩:=List.mem_iff_getElem.1 d;have m:i<n:=by rw[<-f.len];exact z
  have t:R.getD i []=l:=by rw[gD,gE z];exact e
  have v:=f.row i m;rw[t]at v;refine⟨by rw[v,f.len],λx H=>?_⟩;obtain⟨j,K,J⟩:=List.mem_iff_getElem.1 H;have:=f.val i j m (by omega);rw[t,gD,gE K]at this;rw[<-J];exact this
 refine Qc kind a n c h _ ((aaq w A r (λl d=>(s l d).1) (λl d=>(s l d).2) F).mono ?_);rintro _ g ⟨rfl,b⟩;refine⟨_,rfl,aa (λe=>by cases e) (λ_=>aa (λq=>?_) (λq=>?_))⟩
 ·rw[if_pos (by have:=dT q;omega)];exact⟨b,rfl⟩
 have o:¬60<n:=by have:=dF q;omega
 rw[if_neg o];refine⟨_,abW kind,_,abY kind,?_⟩;have C:=(Ok.refl b.wf).push (Zx kind);have L:m6 (g.push (Zx kind)) g.next kind false:=aI g _;refine(U7 C.wf A (by omega) L (r.ok (b.trans C)) f).mono ?_;rintro _ G ⟨P,O,N,B,bad,rfl,p,y,I,M,u⟩;have D:Ok h G:=(I.ok (h0:=g) (Ok.push (Ok.refl b.wf) _) b.wf (λk e=>by rw[e];exact Nat.le_refl _)) |> b.trans
 refine⟨_,_,_,rfl,_,pI _,_,y.l1,aa (λq=>?_) (λq=>?_)⟩
 ·rw[M q];exact⟨D,rfl⟩
 ·rw[u q];have E:=p.m.rdM n;rw[p.sq.len]at E;exact⟨D,_,_,rfl,by simp,E,p.sq⟩
end
end
noncomputable def aa1:FD:=cA Tryz.f98 []
theorem YF(m:Int)(p n o:Nat)(t:Int)(a b:LB)(h:ae)(Q:VH)(q:FW SS 65 [(.int .i64 m),(strOf a),(strOf b)] h λk l=>∃j:LB,∃i:Int,k=(.tuple ⟨[(strOf j),(.int .i64 i)]⟩)/\au (((i:Int) !=0)) (Q (.int .i64 i) l) (iP 107 (sA p n o) (.int .i64 t) λh=>lS l h λg=>FW SS 62 [(.int .i64 m),(strOf g),(strOf j)] l λe f=>∃d:LB,∃c:Int,e=(.tuple ⟨[(strOf d),(.int .i64 c)]⟩)/\au (((c:Int)==0)) (iP 107 (sA p n o) (.int .i64 t) λb=>xU (ah SS.P 9 (.pointer (some b)) (strOf d) f) f λ_ a=>Q (.int .i64 c) a) (Q (.int .i64 c) f))):FW SS 98 [(.int .i64 m),(sA p n o),(.int .i64 t),(strOf a),(strOf b)] h Q:=cN aa1 Tryz.func98 (ai q)
noncomputable def pw:FD:=cA Tryz.f74 [([1,1,0,1,0,0],[1,3,4])]
abbrev px(k a n:Nat)(i:Nat):LV:=[(pA k),(sA a n n),(iA i)]
theorem Rk(g:LV)(h:ae)(Q:VH)(i:xN (fi SS.P 29 (.agg ⟨g⟩)) h λ_ f=>fP 29 (pA (h.next)) 3 λe=>lL 27 f e λ_ d _=>xR (bW SS.P 107 (iA d) (iA d)) f λ_ a b c=>LL SS pw [1,1,0,1,0,0] [(pA (h.next)),(sA (f.next) a b),(.int .i64 0)] c (KK SS pw [1,1,0,1,0] [] (EE SS pw Q))):FW SS 74 [(.agg ⟨g⟩)] h Q:=cN pw Tryz.func74 (ai i)
theorem yE(q:LV)(k m n:Nat)(l:Nat->Nat->ae->Prop)(Q:VH)(step:∀(j:Nat) (i:Nat) (p:Nat->Value) (h:ae),l j i h->au (decide (((i:Int):Int)<(n:Int))) (fP 29 (pA k) 0 λg=>lI h g λf=>FW SS 18 [(.int .i64 f)] h λd e=>yS d λc=>iP 107 (sA m n n) (iA i) λb=>xU (ah SS.P 9 (.pointer (some b)) (strOf c) e) e λ_ a=>aB (eR (px k m n) l) j [(pA k),(sA m n n),(.int .i64 (wrap .i64 ((i:Int)+1)))] a) (Q (sA m n n) h))(j:Nat){i:Nat}{h:ae}(o:l j i h):LL SS pw [1,1,0,1,0,0] (px k m n i) h (KK SS pw [1,1,0,1,0] [] (EE SS pw Q)):=
 cY (px k m n) l (λj i p h o=>ai (step j i p h o)) j o
noncomputable def wG:FD:=cA Tryz.f77 [([1,1,0,1,0,0],[0,1,2,8,9])]
abbrev sk(e:Int)(a:OA)(n c:Nat)(b:OA)(m d f:Nat)(i:Nat):LV:=[(.int .i64 e),(.slice a n c),(.slice b m d),(sA f n n),(iA i)]
theorem YL(i:Int)(a:OA)(n c:Nat)(b:OA)(m d:Nat)(h:ae)(Q:VH)(j:xR (bW SS.P 107 (iA n) (iA n)) h λ_ e f g=>LL SS wG [1,1,0,1,0,0] [(.int .i64 i),(.slice a n c),(.slice b m d),(sA (h.next) e f),(.int .i64 0)] g (KK SS wG [1,1,0,1,0] [] (EE SS wG Q))):FW SS 77 [(.int .i64 i),(.slice a n c),(.slice b m d)] h Q:=cN wG Tryz.func77 (ai j)
theorem Bl(r:Int)(a:OA)(n c:Nat)(b:OA)(m d:Nat)(u:Nat)(t:Nat->Nat->ae->Prop)(Q:VH)(step:∀(s:Nat) (i:Nat) (w:Nat->Value) (h:ae),t s i h->au (decide (((i:Int):Int)<(n:Int))) (iP 107 (.slice a n c) (iA i) λq=>lS (room h 15) q λp=>iP 107 (.slice b m d) (iA i) λo=>lS (room h 15) o λl=>FW SS 62 [(.int .i64 r),(strOf p),(strOf l)] (room h 15) λj k=>∃h:LB,∃g:Int,j=(.tuple ⟨[(strOf h),(.int .i64 g)]⟩)/\au (((g:Int) !=0)) (Q (.tuple ⟨[nA,(.int .i64 g)]⟩) k) (iP 107 (sA u n n) (iA i) λf=>xU (ah SS.P 9 (.pointer (some f)) (strOf h) k) k λ_ e=>aB (eR (sk r a n c b m d u) t) s [(.int .i64 r),(.slice a n c),(.slice b m d),(sA u n n),(.int .i64 (wrap .i64 ((i:Int)+1)))] e)) (Q (.tuple ⟨[(sA u n n),(.int .i64 0)]⟩) h))(s:Nat){i:Nat}{h:ae}(v:t s i h):LL SS wG [1,1,0,1,0,0] (sk r a n c b m d u i) h (KK SS wG [1,1,0,1,0] [] (EE SS wG Q)):=
 cY (sk r a n c b m d u) t (λs i w h v=>ai (step s i w h v)) s v
noncomputable def gx:FD:=cA Tryz.f76 [([1,1,0,1,0,0],[1,2,3,4,5,12,13]),([1,1,0,1,0,0,1,0,0,1,1,0,0],[1,2,3,4,5,12,13,14])]
abbrev iU(a:OA)(n c:Nat)(d e:Int)(k b N:Nat)(q:Nat):LV:=[(.slice a n c),(.int .i64 d),(.int .i64 e),(.bool false),(pA k),(sA b N N),(iA q)]
abbrev iV(a:OA)(n c:Nat)(d e:Int)(k b N q:Nat)(j:Nat):LV:=[(.slice a n c),(.int .i64 d),(.int .i64 e),(.bool false),(pA k),(sA b N N),(iA q),(iA j)]
theorem VC(k:LV)(a:OA)(n c:Nat)(l m:Int)(h:ae)(Q:VH)(o:xN (fi SS.P 29 (.agg ⟨k⟩)) h λ_ j=>lA 29 j (pA (h.next)) λi=>FW SS 74 [(.agg ⟨i⟩)] j λf g=>yL f λb d e=>LL SS gx [1,1,0,1,0,0] [(.slice a n c),(.int .i64 l),(.int .i64 m),(.bool false),(pA (h.next)),(.slice b d e),(.int .i64 0)] g (KK SS gx [1,1,0,1,0] [] (EE SS gx Q))):FW SS 76 [(.agg ⟨k⟩),(.slice a n c),(.int .i64 l),(.int .i64 m),(.bool false)] h Q:=cN gx Tryz.func76 (ai o)
theorem Ad(w:LV)(a:OA)(n c:Nat)(s t:Int)(k r N:Nat)(o:Nat->Nat->ae->Prop)(Q:VH)(step:∀(p:Nat) (q:Nat) (v:Nat->Value) (h:ae),o p q h->fP 29 (pA k) 3 λm=>lL 27 h m λ_ l _=>au (decide (((q:Int):Int)<(l:Int))) (iP 107 (.slice a n c) (iA q) λj=>lS (room h 8) j λi=>fP 29 (pA k) 0 λg=>lI (room h 8) g λf=>FW SS 18 [(.int .i64 f)] (room h 8) λd e=>yS d λb=>(aj SS.P 9 e (.pointer (some j))=some (strOf i)/\dC 4 (strOf i) (strOf i)=true)/\au ((i:LB)==b) (aB (eR (iU a n c s t k r N) o) p [(.slice a n c),(.int .i64 s),(.int .i64 t),(.bool false),(pA k),(sA r N N),(.int .i64 (wrap .i64 ((q:Int)+1)))] e) (LL SS gx [1,1,0,1,0,0,1,0,0,1,1,0,0] (iV a n c s t k r N q 0) e (KK SS gx [1,0,0,1,1,0] [1,1,0,1,0,0] (RR gx [1,1,0,1,0,0] (eR (iU a n c s t k r N) o) p (KK SS gx [1,1,0,1,0] [] (EE SS gx Q)))))) (Q (.tuple ⟨[(sA r N N),(.int .i64 0)]⟩) h))(p:Nat){q:Nat}{h:ae}(u:o p q h):LL SS gx [1,1,0,1,0,0] (iU a n c s t k r N q) h (KK SS gx [1,1,0,1,0] [] (EE SS gx Q)):=
 cY (iU a n c s t k r N) o (λp q v h u=>ai (step p q v h u)) p u
theorem Ae(mv:LV)(a:OA)(n c:Nat)(D E:Int)(k C N:Nat)(F:Nat->Nat->ae->Prop)(H q:Nat)(B:Nat->Nat->ae->Prop)(Q:VH)(step:∀(A:Nat) (j:Nat) (I:Nat->Value) (h:ae),B A j h->fP 29 (pA k) 3 λV=>lL 27 h V λb2 K R=>iP 27 (.slice b2 K R) (iA q) λY=>fP 73 (.pointer (some Y)) 1 λS=>lL 71 h S λ_ J _=>au (decide (((j:Int):Int)<(J:Int))) (fP 29 (pA k) 3 λL=>lL 27 h L λX P W=>iP 27 (.slice X P W) (iA q) λU=>fP 73 (.pointer (some U)) 1 λT=>lL 71 h T λO Z M=>iP 71 (.slice O Z M) (iA j) λz=>lA 70 h (.pointer (some z)) λy=>xN (bq SS.P 70) h λ_ x=>xU (ah SS.P 70 (pA (h.next)) (.agg ⟨y⟩) x) x λ_ w=>fP 70 (pA (h.next)) 0 λv=>lI w v λu=>au (((u:Int) !=D)) (aB (eR (iV a n c D E k C N q) B) A [(.slice a n c),(.int .i64 D),(.int .i64 E),(.bool false),(pA k),(sA C N N),(iA q),(.int .i64 (wrap .i64 ((j:Int)+1)))] w) (fP 70 (pA (h.next)) 1 λt=>lI w t λs=>au (((s:Int) !=E)) (aB (eR (iV a n c D E k C N q) B) A [(.slice a n c),(.int .i64 D),(.int .i64 E),(.bool false),(pA k),(sA C N N),(iA q),(.int .i64 (wrap .i64 ((j:Int)+1)))] w) (fP 29 (pA k) 0 λr=>lI (room w 13) r λp=>fP 70 (pA (h.next)) 3 λo=>lI (room w 13) o λm=>iP 107 (.slice a n c) (iA q) λl=>lS (room w 13) l λi=>fP 70 (pA (h.next)) 2 λg=>lS (room w 13) g λf=>FW SS 98 [(.int .i64 p),(sA C N N),(.int .i64 m),(strOf i),(strOf f)] (room w 13) λd e=>yI .i64 d λb=>au (((b:Int) !=0)) (Q (.tuple ⟨[nA,(.int .i64 b)]⟩) e) (aB (eR (iV a n c D E k C N q) B) A [(.slice a n c),(.int .i64 D),(.int .i64 E),(.bool false),(pA k),(sA C N N),(iA q),(.int .i64 (wrap .i64 ((j:Int)+1)))] e)))) (aB (eR (iU a n c D E k C N) F) H [(.slice a n c),(.int .i64 D),(.int .i64 E),(.bool false),(pA k),(sA C N N),(.int .i64 (wrap .i64 ((q:Int)+1)))] h))(A:Nat){j:Nat}{h:ae}(G:B A j h):LL SS gx [1,1,0,1,0,0,1,0,0,1,1,0,0] (iV a n c D E k C N q j) h (KK SS gx [1,0,0,1,1,0] [1,1,0,1,0,0] (RR gx [1,1,0,1,0,0] (eR (iU a n c D E k C N) F) H (KK SS gx [1,1,0,1,0] [] (EE SS gx Q)))):=
 cY (iV a n c D E k C N q) B (λA j I h G=>ai (step A j I h G)) A G
noncomputable def Vy:FD:=cA Tryz.f75 []
theorem Ri(d:LV)(a:OA)(n c:Nat)(h:ae)(Q:VH)(e:xN (fi SS.P 29 (.agg ⟨d⟩)) h λ_ b=>Q (.tuple ⟨[(.slice a n c),(.int .i64 0)]⟩) b):FW SS 75 [(.agg ⟨d⟩),(.slice a n c),nA] h Q:=cN Vy Tryz.func75 (ai e)
noncomputable def gw:FD:=cA Tryz.f75 [([1,1,1,0,1,0,0],[1,2,3,8,9]),([1,1,1,0,1,0,0,1,0,0,1,0,0],[1,2,3,8,9,10])]
abbrev kN(a:OA)(n c:Nat)(e:Addr)(m d k b:Nat)(q:Nat):LV:=[(.slice a n c),(.slice (some e) m d),(pA k),(sA b n n),(iA q)]
abbrev kO(a:OA)(n c:Nat)(e:Addr)(m d k b q:Nat)(p:Nat):LV:=[(.slice a n c),(.slice (some e) m d),(pA k),(sA b n n),(iA q),(iA p)]
theorem Vz(l:LV)(a:OA)(n c:Nat)(o:Addr)(m d:Nat)(h:ae)(Q:VH)(p:xN (fi SS.P 29 (.agg ⟨l⟩)) h λ_ k=>lA 29 k (pA (h.next)) λj=>FW SS 74 [(.agg ⟨j⟩)] k λg i=>yL g λb e f=>LL SS gw [1,1,1,0,1,0,0] [(.slice a n c),(.slice (some o) m d),(pA (h.next)),(.slice b e f),(.int .i64 0)] i (KK SS gw [1,1,1,0,1,0] [] (EE SS gw Q))):FW SS 75 [(.agg ⟨l⟩),(.slice a n c),(.slice (some o) m d)] h Q:=cN gw Tryz.func75 (ai p)
theorem Aa(l:LV)(a:OA)(n c:Nat)(g:Addr)(m d:Nat)(k f:Nat)(e:Nat->Nat->ae->Prop)(Q:VH)(step:∀(b:Nat) (q:Nat) (j:Nat->Value) (h:ae),e b q h->au (decide (((q:Int):Int)<(n:Int))) (LL SS gw [1,1,1,0,1,0,0,1,0,0,1,0,0] [(.slice a n c),(.slice (some g) m d),(pA k),(sA f n n),(iA q),(.int .i64 0)] h (KK SS gw [1,0,0,1,0] [1,1,1,0,1,0,0] (RR gw [1,1,1,0,1,0,0] (eR (kN a n c g m d k f) e) b (KK SS gw [1,1,1,0,1,0] [] (EE SS gw Q))))) (Q (.tuple ⟨[(sA f n n),(.int .i64 0)]⟩) h))(b:Nat){q:Nat}{h:ae}(i:e b q h):LL SS gw [1,1,1,0,1,0,0] (kN a n c g m d k f q) h (KK SS gw [1,1,1,0,1,0] [] (EE SS gw Q)):=
 cY (kN a n c g m d k f) e (λb q j h i=>ai (step b q j h i)) b i
theorem Ac(W:LV)(a:OA)(n c:Nat)(B:Addr)(m d:Nat)(k D:Nat)(K:Nat->Nat->ae->Prop)(N q:Nat)(C:Nat->Nat->ae->Prop)(Q:VH)(step:∀(A:Nat) (p:Nat) (O:Nat->Value) (h:ae),C A p h->au (decide (((p:Int):Int)<(n:Int))) (iP 107 (.slice a n c) (iA q) λM=>lS (room h 21) M λF=>fP 29 (pA k) 0 λU=>lI (room h 21) U λS=>FW SS 18 [(.int .i64 S)] (room h 21) λV E=>yS V λT=>au ((F:LB)==T) ((aj SS.P 9 E (.pointer (some M))=some (strOf F)/\dC 4 (strOf F) (strOf F)=true)/\aB (eR (kO a n c B m d k D q) C) A [(.slice a n c),(.slice (some B) m d),(pA k),(sA D n n),(iA q),(.int .i64 (wrap .i64 ((p:Int)+1)))] E) (iP 103 (.slice (some B) m d) (iA q) λP=>lL 107 E P λG I J=>iP 107 (.slice G I J) (iA p) λR=>lS E R λH=>fP 29 (pA k) 0 λz=>lI E z λy=>FW SS 18 [(.int .i64 y)] E λw x=>yS w λv=>(aj SS.P 9 E (.pointer (some M))=some (strOf F)/\dC 4 (strOf F) (strOf F)=true)/\(aj SS.P 107 x (.pointer (some P))=some (.slice G I J)/\dC 4 (.slice G I J) (.slice G I J)=true)/\(aj SS.P 9 x (.pointer (some R))=some (strOf H)/\dC 4 (strOf H) (strOf H)=true)/\au ((H:LB)==v) (aB (eR (kO a n c B m d k D q) C) A [(.slice a n c),(.slice (some B) m d),(pA k),(sA D n n),(iA q),(.int .i64 (wrap .i64 ((p:Int)+1)))] x) (fP 29 (pA k) 0 λu=>lI (room x 17) u λt=>iP 107 (.slice a n c) (iA q) λs=>lS (room x 17) s λr=>iP 103 (.slice (some B) m d) (iA q) λo=>lL 107 (room x 17) o λi j l=>iP 107 (.slice i j l) (iA p) λh=>lS (room x 17) h λg=>FW SS 98 [(.int .i64 t),(sA D n n),(iA p),(strOf r),(strOf g)] (room x 17) λe f=>yI .i64 e λb=>au (((b:Int) !=0)) (Q (.tuple ⟨[nA,(.int .i64 b)]⟩) f) (aB (eR (kO a n c B m d k D q) C) A [(.slice a n c),(.slice (some B) m d),(pA k),(sA D n n),(iA q),(.int .i64 (wrap .i64 ((p:Int)+1)))] f)))) (aB (eR (kN a n c B m d k D) K) N [(.slice a n c),(.slice (some B) m d),(pA k),(sA D n n),(.int .i64 (wrap .i64 ((q:Int)+1)))] h))(A:Nat){p:Nat}{h:ae}(L:C A p h):LL SS gw [1,1,1,0,1,0,0,1,0,0,1,0,0] (kO a n c B m d k D q p) h (KK SS gw [1,0,0,1,0] [1,1,1,0,1,0,0] (RR gw [1,1,1,0,1,0,0] (eR (kN a n c B m d k D) K) N (KK SS gw [1,1,1,0,1,0] [] (EE SS gw Q)))):=
 cY (kO a n c B m d k D q) C (λA p O h L=>ai (step A p O h L)) A L
noncomputable def wF:FD:=cA Tryz.f78 [([1,1,0,1,0,0],[1,2,6,7])]
abbrev oe(a:OA)(n c k b:Nat)(q:Nat):LV:=[(.slice a n c),(pA k),(sA b 1 1),(iA q)]
theorem YG(m:LV)(a:OA)(n c:Nat)(h:ae)(Q:VH)(o:xN (fi SS.P 29 (.agg ⟨m⟩)) h λ_ l=>fP 29 (pA (h.next)) 0 λk=>lI l k λj=>FW SS 18 [(.int .i64 j)] l λg i=>yS g λf=>xR (aF SS.P 107 1 [(0,(strOf f))]) i λ_ b d e=>LL SS wF [1,1,0,1,0,0] [(.slice a n c),(pA (h.next)),(sA (i.next) b d),(.int .i64 0)] e (KK SS wF [1,1,0,1,0] [] (EE SS wF Q))):FW SS 78 [(.agg ⟨m⟩),(.slice a n c)] h Q:=cN wF Tryz.func78 (ai o)
theorem Bi(G:LV)(a:OA)(n c:Nat)(k C:Nat)(A:Nat->Nat->ae->Prop)(Q:VH)(step:∀(B:Nat) (q:Nat) (E:Nat->Value) (h:ae),A B q h->au (decide (((q:Int):Int)<(n:Int))) (fP 29 (pA k) 3 λF=>lL 27 h F λx y z=>iP 27 (.slice x y z) (iA q) λw=>fP 73 (.pointer (some w)) 0 λv=>lS h v λu=>au (!((u:LB)==[])) (fP 29 (pA k) 0 λt=>lI (room h 15) t λs=>iP 107 (.slice a n c) (iA q) λr=>lS (room h 15) r λp=>fP 29 (pA k) 3 λo=>lL 27 (room h 15) o λj l m=>iP 27 (.slice j l m) (iA q) λi=>fP 73 (.pointer (some i)) 0 λg=>lS (room h 15) g λf=>FW SS 98 [(.int .i64 s),(sA C 1 1),(.int .i64 0),(strOf p),(strOf f)] (room h 15) λd e=>yI .i64 d λb=>au (((b:Int) !=0)) (Q (.tuple ⟨[(strOf []),(.int .i64 b)]⟩) e) (aB (eR (oe a n c k C) A) B [(.slice a n c),(pA k),(sA C 1 1),(.int .i64 (wrap .i64 ((q:Int)+1)))] e)) (aB (eR (oe a n c k C) A) B [(.slice a n c),(pA k),(sA C 1 1),(.int .i64 (wrap .i64 ((q:Int)+1)))] h)) (iP 107 (sA C 1 1) (.int .i64 0) λb=>lS h b λa=>Q (.tuple ⟨[(strOf a),(.int .i64 0)]⟩) h))(B:Nat){q:Nat}{h:ae}(D:A B q h):LL SS wF [1,1,0,1,0,0] (oe a n c k C q) h (KK SS wF [1,1,0,1,0] [] (EE SS wF Q)):=
 cY (oe a n c k C) A (λB q E h D=>ai (step B q E h D)) B D
noncomputable def jN:FD:=cA Tryz.f73 [([1,1,1,0,1,0,0],[1,2,6,7,8]),([1,1,1,0,1,0,0,1,0,0,1,1,0,0],[1,2,6,7,8,9])]
abbrev mg(k a N:Nat)(q:Nat)(an:Bool):LV:=[(.bool false),(pA k),(sA a N N),(.bool an),(iA q)]
abbrev kd(k a N q:Nat)(j:Nat)(an:Bool):LV:=[(.bool false),(pA k),(sA a N N),(.bool an),(iA q),(iA j)]
theorem YJ(g:LV)(h:ae)(Q:VH)(i:xN (fi SS.P 29 (.agg ⟨g⟩)) h λ_ f=>fP 29 (pA (h.next)) 3 λe=>lL 27 f e λ_ d _=>xR (bW SS.P 103 (iA d) (iA d)) f λ_ a b c=>LL SS jN [1,1,1,0,1,0,0] [(.bool false),(pA (h.next)),(sA (f.next) a b),(.bool false),(.int .i64 0)] c (KK SS jN [1,1,1,0,1,0] [] (EE SS jN Q))):FW SS 73 [(.agg ⟨g⟩),(.bool false)] h Q:=cN jN Tryz.func73 (ai i)
theorem Bj(t:LV)(k m N:Nat)(l:Nat->Nat->Bool->ae->Prop)(Q:VH)(step:∀(j:Nat) (q:Nat) (an:Bool) (s:Nat->Value) (h:ae),l j q an h->au (decide (((q:Int):Int)<(N:Int))) (lA 29 h (pA k) λi=>FW SS 74 [(.agg ⟨i⟩)] h λf g=>yL f λc d e=>iP 103 (sA m N N) (iA q) λb=>xU (ah SS.P 107 (.pointer (some b)) (.slice c d e) g) g λ_ a=>LL SS jN [1,1,1,0,1,0,0,1,0,0,1,1,0,0] (kd k m N q 0 an) a (KK SS jN [1,0,0,1,1,0] [1,1,1,0,1,0,0] (RR jN [1,1,1,0,1,0,0] (qR (mg k m N) l) j (KK SS jN [1,1,1,0,1,0] [] (EE SS jN Q))))) (au (!an) (Q (.tuple ⟨[nA,(.int .i64 0)]⟩) h) (au (decide (((N:Int):Int)>60)) (Q (.tuple ⟨[nA,(.int .i64 2)]⟩) h) (fP 29 (pA k) 0 λe=>lI h e λd=>FW SS 97 [(.int .i64 d),(sA m N N)] h λb c=>∃(o:OA) (n p:Nat),∃a:Int,b=(.tuple ⟨[(.slice o n p),(.int .i64 a)]⟩)/\Q (.tuple ⟨[(.slice o n p),(.int .i64 a)]⟩) c))))(j:Nat){q:Nat}{an:Bool}{h:ae}(r:l j q an h):LL SS jN [1,1,1,0,1,0,0] (mg k m N q an) h (KK SS jN [1,1,1,0,1,0] [] (EE SS jN Q)):=
 nE (mg k m N) l (λj q an s h r=>ai (step j q an s h r)) j r
theorem Bk(mv:LV)(k B N:Nat)(E:Nat->Nat->Bool->ae->Prop)(G q:Nat)(C:Nat->Nat->Bool->ae->Prop)(Q:VH)(step:∀(A:Nat) (j:Nat) (an:Bool) (H:Nat->Value) (h:ae),C A j an h->fP 29 (pA k) 3 λc5=>lL 27 h c5 λc2 c3 R=>iP 27 (.slice c2 c3 R) (iA q) λY=>fP 73 (.pointer (some Y)) 1 λc0=>lL 71 h c0 λ_ V _=>au (decide (((j:Int):Int)<(V:Int))) (fP 29 (pA k) 3 λS=>lL 27 h S λZ L b7=>iP 27 (.slice Z L b7) (iA q) λT=>fP 73 (.pointer (some T)) 1 λK=>lL 71 h K λU b1 b2=>iP 71 (.slice U b1 b2) (iA j) λJ=>lA 70 h (.pointer (some J)) λM=>xN (bq SS.P 70) h λ_ I=>xU (ah SS.P 70 (pA (h.next)) (.agg ⟨M⟩) I) I λ_ D=>fP 70 (pA (h.next)) 0 λa5=>lI D a5 λX=>au (((X:Int) !=0)) (aB (qR (kd k B N q) C) A [(.bool false),(pA k),(sA B N N),(.bool an),(iA q),(.int .i64 (wrap .i64 ((j:Int)+1)))] D) (fP 70 (pA (h.next)) 1 λW=>lI D W λO=>au (((O:Int) !=0)) (aB (qR (kd k B N q) C) A [(.bool false),(pA k),(sA B N N),(.bool an),(iA q),(.int .i64 (wrap .i64 ((j:Int)+1)))] D) (fP 29 (pA k) 0 λa1=>lI (room D 18) a1 λP=>iP 103 (sA B N N) (iA q) λz=>lL 107 (room D 18) z λw x y=>fP 70 (pA (h.next)) 3 λv=>lI (room D 18) v λu=>iP 107 (.slice w x y) (.int .i64 u) λt=>lS (room D 18) t λs=>fP 70 (pA (h.next)) 2 λr=>lS (room D 18) r λp=>FW SS 62 [(.int .i64 P),(strOf s),(strOf p)] (room D 18) λn o=>∃m:LB,∃l:Int,n=(.tuple ⟨[(strOf m),(.int .i64 l)]⟩)/\au (((l:Int) !=0)) (Q (.tuple ⟨[nA,(.int .i64 l)]⟩) o) (iP 103 (sA B N N) (iA q) λi=>lL 107 (room o 9) i λe f g=>fP 70 (pA (h.next)) 3 λd=>lI (room o 9) d λc=>iP 107 (.slice e f g) (.int .i64 c) λb=>xU (ah SS.P 9 (.pointer (some b)) (strOf m) (room o 9)) (room o 9) λ_ a=>aB (qR (kd k B N q) C) A [(.bool false),(pA k),(sA B N N),(.bool true),(iA q),(.int .i64 (wrap .i64 ((j:Int)+1)))] a)))) (aB (qR (mg k B N) E) G [(.bool false),(pA k),(sA B N N),(.bool an),(.int .i64 (wrap .i64 ((q:Int)+1)))] h))(A:Nat){j:Nat}{an:Bool}{h:ae}(F:C A j an h):LL SS jN [1,1,1,0,1,0,0,1,0,0,1,1,0,0] (kd k B N q j an) h (KK SS jN [1,0,0,1,1,0] [1,1,1,0,1,0,0] (RR jN [1,1,1,0,1,0,0] (qR (mg k B N) E) G (KK SS jN [1,1,1,0,1,0] [] (EE SS jN Q)))):=
 nE (kd k B N q) C (λA j an H h F=>ai (step A j an H h F)) A F
section
theorem sn{kind:Int}{a:List UInt8}(h:bJ kind a=true):aM kind a=true:=by
 unfold bJ at h;rw[and_eq_true,and_eq_true]at h;obtain⟨⟨c,d⟩,b⟩:=h;unfold aM;rw[c,d,Bool.true_and,Bool.true_and];rw[or_eq_true]at b;rcases b with h|h
 ·rw[h];simp
 ·have:=dT h;rw[decide_eq_true (show 0<=cZ a [48] by omega)];simp
structure Oi(M:bt):Prop where
 kind:1<=M.kind/\M.kind<=3
 fin:∀s∈M.af,s.f≠[]->aM M.kind s.f=true
 arc:∀s∈M.af,∀a∈s.arcs,aM M.kind a.w=true/\0<=a.t/\a.t<M.af.length
 lead:aM M.kind M.lead=true
 start:0<=M.start/\M.start<M.af.length
 n:M.af.length<=3000
 m:∀s∈M.af,s.arcs.length<=30000
theorem F6{kind:Int}{N:Nat}:∀{l:List dW}{a:Int},0<=a->nG kind N a l=true->∀s∈l,s.arcs.length<=30000
 |s::r,a,c,h,x,b=>by
  unfold nG at h;rw[and_eq_true,and_eq_true,and_eq_true,decide_eq_true_eq]at h;rcases List.mem_cons.1 b with rfl|b
  ·omega
  ·exact F6 (by omega) h.2 x b
theorem zE{M:bt}(h:cn M=true):Oi M:=by
 unfold cn at h;simp only[and_eq_true,decide_eq_true_eq]at h;obtain⟨⟨⟨⟨⟨⟨⟨j,k⟩,f⟩,d⟩,e⟩,n⟩,l⟩,g⟩:=h;have b:=uK g;refine⟨⟨j,k⟩,λs c i=>?_,λs c a m=>?_,sn l,⟨e,n⟩,d,F6 (by omega) g⟩
 ·have:=(b s c).1;rw[or_eq_true]at this;rcases this with h|h
  ·exact absurd (cj h) i
  ·exact sn h
 ·have:=(b s c).2 a m;unfold hP at this;simp only[and_eq_true,decide_eq_true_eq]at this;obtain⟨⟨⟨⟨_,_⟩,f⟩,d⟩,e⟩:=this;exact⟨sn e,f,d⟩
def CH(a:hO):jo (List UInt8):=⟨a.i,a.o,a.w,a.t.toNat⟩
def Bx(s:dW):H5 (List UInt8):=⟨if s.f=[]then none else some s.f,s.arcs.map CH⟩
def gm(M:bt):gf (List UInt8):=⟨M.lead,M.start.toNat,M.af.map Bx⟩
theorem S4{M:bt}{q:Nat}{s:dW}(h:M.af[q]?=some s):(gm M).bE.getD q dJ=Bx s:=by
 show(M.af.map Bx).getD q _=_;rw[gD,getElem?_map,h];rfl
theorem Zh{s:dW}{a:hO}(h:s.arcs[j]?=some a)(O:qb (List UInt8)):(Bx s).arcs.getD j (cg O)=CH a:=by
 show(s.arcs.map CH).getD j _=_;rw[gD,getElem?_map,h];rfl
theorem CK(M:bt):(gm M).bE.length=M.af.length:=lM _
theorem S8(s:dW):(Bx s).arcs.length=s.arcs.length:=lM _
structure VV(kind:Int)(n:Nat)(l:List (List UInt8)):Prop where
 len:l.length=n
 val:∀i,i<n->aM kind (l.getD i [])=true
theorem VV.at_{kind:Int}{n:Nat}{l:List (List UInt8)}(v:VV kind n l){i:Nat}(a:i<n)(d:List UInt8):l.getD i d=l.getD i []:=Fm (by rw[v.len];exact a) _ _
theorem VV.set{kind:Int}{n:Nat}{l:List (List UInt8)}(v:VV kind n l){t:Nat}{x:List UInt8}(b:aM kind x=true):VV kind n (l.set t x):=by
 refine⟨by rw[length_set];exact v.len,λi a=>?_⟩;by_cases c:t<l.length
 ·rw[dq c];split
  ·exact b
  ·exact v.val i a
 ·rw[List.set_eq_of_length_le (by omega)];exact v.val i a
theorem VV.Og{kind:Int}(b:1<=kind/\kind<=3)(n:Nat):VV kind n (bw (aX kind) n):=by
 refine⟨length_replicate,λi a=>?_⟩;show aM kind ((List.replicate n (bH kind)).getD i [])=true;rw[gD,getElem?_replicate,if_pos a];exact sw b
section
variable {kind:Int} {kl n cl t:Nat} {l:List (List UInt8)} {a b:List UInt8} {g g' h:ae}
theorem GC(d:VV kind n l)(i:aM kind a=true)(h:aM kind b=true)(g:t<n){l':List (List UInt8)}(e:gA (aX kind) l t a b=some l'):VV kind n l':=by
 unfold gA at e
 cases c:(aX kind).times a b with
 |none=>rw[c]at e;cases e
 | some p=>
  rw[c]at e;dsimp only at e;have j:=zU i h c
  cases f:(aX kind).plus (l.getD t (aX kind).zero) p with
  |none=>rw[f]at e;cases e
  |some s=>
   rw[f]at e;obtain rfl:=oI e;refine d.set (xM (a:=l.getD t (aX kind).zero) (b:=p) ?_ j f);rw[d.at_ g];exact d.val t g
def ade(g:ae)(kl:Nat)(r:Option (List (List UInt8))):VH:=λv g'=>zd (λk=>k=kl) g g'/\match r with
 |none=>v = .int .i64 2
 |some l'=>v = .int .i64 0/\VB g' kl l'
theorem HS(w:Wf g)(z:VB g kl l)(h:VV kind n l)(c:t<n)(q:aM kind a=true)(m:aM kind b=true):FW SS 98 [.int .i64 kind,sA kl n cl,iA t,strOf a,strOf b] g (ade g kl (gA (aX kind) l t a b)):=by
 refine YF kind kl n cl t a b g _ ((Dd q m w).mono ?_);rintro _ x ⟨rfl,d⟩;unfold gA;have y:(aX kind).times a b=dh kind a b:=rfl;rw[y]
 cases r:dh kind a b with
 |none=>exact⟨_,_,rfl,aa (λ_=>⟨d.okS,rfl⟩) (λe=>by cases e)⟩
 | some p=>
  have i:VB x kl l:=d.ext _ _ z;have A:=zU q m r;have u:=h.val t c;refine⟨_,_,rfl,aa (λe=>by cases e) (λ_=>⟨_,VB.ix ty c,_,i.ld ty (by rw[h.len];exact c),(uB u A d.wf).mono ?_⟩)⟩;rintro _ o ⟨rfl,f⟩;have j:VB o kl l:=f.ext _ _ i;dsimp only;rw[h.at_ c (aX kind).zero];have v:(aX kind).plus (l.getD t []) p=eO kind (l.getD t []) p:=rfl;rw[v]
  cases B:eO kind (l.getD t []) p with
  |none=>exact⟨_,_,rfl,aa (λe=>by cases e) (λ_=>⟨(d.trans f).okS,rfl⟩)⟩
  |some s=>
   refine⟨_,_,rfl,aa (λ_=>⟨_,VB.ix ty c,_,j.st ty (by rw[h.len];exact c) _,?_⟩) (λe=>by cases e)⟩;refine⟨(d.trans f).okS.trans (zd.set (X:=λk=>k=kl) f.wf rfl (f.wf _ _ j) _),rfl,?_⟩;show(o.set kl _).get kl=_;rw[ae.aw,if_pos rfl]
noncomputable def ti9:TypeInfo:=(SS.P.info? 9).getD default
theorem aaQ:SS.P.info? 9=some ti9:=by kernel_rfl
theorem Vo:ti9.size=1:=by kernel_rfl
theorem Rf:ti9.bytes=16:=by kernel_rfl
theorem ac3:zeroOf SS.P 9=some (strOf []):=by kernel_rfl
theorem Zl(n:Nat)(a:n<=100000):bW SS.P 107 (.int .i64 (n:Int)) (.int .i64 (n:Int))=some (.cells (eE (List.replicate n [])) 9 1 true,mh n n):=by
 unfold bW bV;dsimp only;rw[Dx]
 try dsimp only
 change (match SS.P.info? 9,zeroOf SS.P 9 with
  |some i,some z=>(if z.cells.size=i.size/\0<i.size/\(0:Int)<=(n:Int)/\(n:Int)<=(n:Int)/\(n:Int)*i.bytes<=140737488355328/\(n:Int)<=1099511627776 then some (dP.cells (cX z.cells.toList (n:Int).toNat) 9 i.size true,λk=>Value.slice (some ⟨k,0,none⟩) (n:Int).toNat (n:Int).toNat)else none)
  |_,_=>none)=_
 rw[aaQ,ac3];dsimp only;rw[Vo,Rf,if_pos ⟨rfl,by omega,by omega,Int.le_refl _,by omega,by omega⟩];have e:((n:Int)).toNat=n:=by omega
 rw[e,show(strOf []).cells.toList=[strOf []]from rfl,lH];unfold eE;rw[List.map_replicate];rfl
end
structure WI(h:ae)(M:bt)(x:Option Addr)(y z k kl:Nat)(l:List (List UInt8))(g:ae):Prop where
 box:g.get k=some (.cells (bR M x y z) 29 0 true)
 vb:VB g kl l
 ok:Ok h g
 nk:h.next<=k
 nl:h.next<=kl
 ne:k≠kl
section
variable {h g g':ae} {M:bt} {x:Option Addr} {y z k kl:Nat} {l l':List (List UInt8)}
theorem WI.mb(i:WI h M x y z k kl l g)(r:dS h (.slice x y z) M.af):MB g k M x y z:=⟨i.box,r.ok i.ok⟩
theorem WI.step(i:WI h M x y z k kl l g)(w:Wf h)(o:zd (λj=>j=kl) g g')(v:VB g' kl l'):WI h M x y z k kl l' g':=⟨o.ext _ _ i.ne i.box,v,o.ok i.ok w (λj e=>by rw[e];exact i.nl),i.nk,i.nl,i.ne⟩
theorem WI.ux(i:WI h M x y z k kl l g)(o:Ok g g'):WI h M x y z k kl l g':=⟨o.ext _ _ i.box,o.ext _ _ i.vb,i.ok.trans o,i.nk,i.nl,i.ne⟩
theorem WI.room(i:WI h M x y z k kl l g)(n:Nat):WI h M x y z k kl l (Go.Ab.room g n):=⟨i.box,i.vb,i.ok.room n,i.nk,i.nl,i.ne⟩
theorem WI.set(i:WI h M x y z k kl l g)(w:Wf h)(l':List (List UInt8)):WI h M x y z k kl l' ((dL.set kl (.cells (eE l') 9 1 true)).app g):=
 i.step w (zd.set (X:=λj=>j=kl) i.ok.wf rfl (i.ok.wf _ _ i.vb) _) (by show(g.set kl _).get kl=_;rw[ae.aw,if_pos rfl])
theorem uO(w:Wf h)(n:Oi M)(r:dS h (.slice x y z) M.af):FW SS 74 [.agg ⟨bR M x y z⟩] h (λv g=>∃kl,v=sA kl M.af.length M.af.length/\VB g kl (bw (aX M.kind) M.af.length)/\h.next<=kl/\Ok h g):=by
 obtain⟨c,b⟩:=fv w r;obtain rfl:y=M.af.length:=c.len;have D:=n.n;refine Rk (bR M x M.af.length z) h _ ⟨_,ja M x _ z,_,cI _,_,_,_,c.l3,_,_,_,Zl _ (by omega),?_⟩;generalize h.push (Bm M x M.af.length z)=f at*;have A:=aI f (.cells (eE (List.replicate M.af.length [])) 9 1 true);have k:=(Ok.refl b.wf).push (.cells (eE (List.replicate M.af.length [])) 9 1 true);have t:WI h M x M.af.length z h.next f.next (List.replicate M.af.length []) (f.push (.cells (eE (List.replicate M.af.length [])) 9 1 true)):=⟨k.ext _ _ c.box,A,b.trans k,Nat.le_refl _,b.nx,by have:=b.wf _ _ c.box;omega⟩
 refine yE (bR M x M.af.length z) h.next f.next M.af.length (λm i g=>i<=M.af.length/\m=M.af.length-i/\∃l,WI h M x M.af.length z h.next f.next l g/\l.length=M.af.length/\∀a,a<i->l.getD a []=bH M.kind) _ (λm i=>?_) M.af.length (i:=0) ⟨by omega,rfl,_,t,length_replicate,λa B=>by omega⟩;intros;rename_i g j;obtain⟨G,F,l,d,o,s⟩:=j;refine aa (λq=>?_) (λq=>?_)
 ·have p:i<M.af.length:=by have:=dT q;omega
  refine⟨_,dZ _,_,(d.mb r).l0,(gX n.kind g).mono ?_⟩;rintro _ g' ⟨rfl,C⟩;obtain rfl:g=g':=C.symm;refine⟨_,rfl,_,VB.ix ty p,_,d.vb.st ty (by omega) _,?_⟩;rw[aJ p (by omega)];refine bY (M.af.length-(i+1)) (by omega) ⟨by omega,rfl,l.set i (bH M.kind),d.set w _,by rw[length_set];exact o,λa B=>?_⟩;rw[dq (by omega)];split
  ·rfl
  ·exact s a (by omega)
 ·obtain rfl:i=M.af.length:=by have:=dF q;omega
  refine⟨_,rfl,?_,b.nx,d.ok⟩;have:l=bw (aX M.kind) M.af.length:=by
   refine ext_getElem (by rw[o];exact length_replicate.symm) λa u E=>?_;have:=s a (by omega);rw[gD,gE u]at this;have e:(bw (aX M.kind) M.af.length)[a]=bH M.kind:=List.getElem_replicate ..;rw[e];exact this
  rw[<-this];exact d.vb
end
def Vw(h:ae)(kind:Int)(n:Nat)(o:Option (List (List UInt8))):VH:=λv g=>Ok h g/\match o with
 |none=>v = .tuple ⟨[nA,.int .i64 2]⟩
 |some l=>∃(a:Option Addr)(c:Nat),v = .tuple ⟨[.slice a n c,.int .i64 0]⟩/\Rd g 9 (.slice a n c) (eE l)/\VV kind n l
section
variable {h:ae} {kind:Int} {a b:Option Addr} {n c d:Nat} {A B:List (List UInt8)}
theorem Rb{a:Type}{l:List a}{n:Nat}(b:l.length=n)(c:i<n)(x:a):(l.set i x).take (i+1)=l.take i++[x]:=by
 rw[gb (d:=x) (by rw[length_set];omega),lC (Nat.le_refl _),dq (by omega),if_pos rfl]
theorem YM(w:Wf h)(S:n<=3000)(L:Rd h 9 (.slice a n c) (eE A))(o:VV kind n A)(K:Rd h 9 (.slice b n d) (eE B))(t:VV kind n B):FW SS 77 [.int .i64 kind,.slice a n c,.slice b n d] h (Vw h kind n (nt (aX kind) A B)):=by
 refine YL kind a n c b n d h _ ⟨_,_,_,Zl n (by omega),?_⟩;have M:=aI h (.cells (eE (List.replicate n [])) 9 1 true);have I:=(Ok.refl w).push (.cells (eE (List.replicate n [])) 9 1 true);obtain⟨G,D⟩:∃G,G=nt (aX kind) A B:=⟨_,rfl⟩
 rw[<-D];refine Bl kind a n c b n d h.next (λy i g=>i<=n/\y=n-i/\Ok h g/\∃l,VB g h.next l/\l.length=n/\(∀j,j<i->aM kind (l.getD j [])=true)/\bg (wR (aX kind) A B) (n-i) i (l.take i)=G) _ (λy i=>?_) n (i:=0) ⟨by omega,rfl,I,_,M,length_replicate,λj Q=>by omega,by rw[take_zero,D];unfold nt;rw[o.len,sub_zero]⟩;intros;rename_i g x;obtain⟨W,U,H,l,F,r,z,k⟩:=x;refine aa (λq=>?_) (λq=>?_)
 ·have f:i<n:=by have:=dT q;omega
  have m:=H.room 15;obtain⟨V,J,P⟩:=Rd.cell ty (L.ok m) (j:=i) (by rw[o.len];exact f);obtain⟨T,N,O⟩:=Rd.cell ty (K.ok m) (j:=i) (by rw[t.len];exact f);refine⟨_,J,_,P,_,N,_,O,(uB (o.val i f) (t.val i f) m.wf).mono ?_⟩;rintro _ C ⟨rfl,E⟩;have p:=m.trans E;rw[fg _ f]at k;unfold wR at k;rw[o.at_ f (aX kind).zero,t.at_ f (aX kind).zero]at k;have R:(aX kind).plus (A.getD i []) (B.getD i [])=eO kind (A.getD i []) (B.getD i []):=rfl;rw[R]at k
  cases v:eO kind (A.getD i []) (B.getD i [])with
  |none=>
   rw[v]at k;exact⟨_,_,rfl,aa (λ_=>⟨p,by rw[<-k]⟩) (λe=>by cases e)⟩
  | some s=>
   rw[v]at k;have u:VB C h.next l:=E.ext _ _ F;refine⟨_,_,rfl,aa (λe=>by cases e) (λ_=>⟨_,VB.ix ty f,_,u.st ty (by omega) _,?_⟩)⟩;rw[aJ f (by omega)];refine bY (n-(i+1)) (by omega) ⟨by omega,rfl,p.set _ (Nat.le_refl _) (p.wf _ _ u) w,l.set i s,?_,by rw[length_set];exact r,λj Q=>?_,?_⟩
   ·show(C.set h.next _).get h.next=_;rw[ae.aw,if_pos rfl]
   ·rw[dq (by omega)];split
    ·exact xM (o.val i f) (t.val i f) v
    ·exact z j (by omega)
   ·rw[Rb r f];exact k
 ·obtain rfl:i=n:=by have:=dF q;omega
  rw[iH,take_of_length_le (by omega)]at k;rw[<-k];have:=F.rd i;rw[r]at this;exact⟨H,_,_,rfl,this,⟨r,z⟩⟩
end
section
variable {h:ae} {M:bt} {x a:Option Addr} {y z n c:Nat} {V:List (List UInt8)}
def stR(M:bt)(V:List (List UInt8))(a b:Int)(q:Nat)(l:List (List UInt8)):Option (List (List UInt8)):=bg (qy (aX M.kind) (gm M) V a b) (M.af.length-q) q l
theorem Nb(O:qb (List UInt8))(n:Nat):(bw O n).length=n:=length_replicate
theorem VD(w:Wf h)(H:Oi M)(r:dS h (.slice x y z) M.af)(rv:Rd h 9 (.slice a M.af.length c) (eE V))(J:VV M.kind M.af.length V)(i k:Int):FW SS 76 [.agg ⟨bR M x y z⟩,.slice a M.af.length c,.int .i64 i,.int .i64 k,.bool false] h (Vw h M.kind M.af.length (kQ (aX M.kind) (gm M) V i k)):=by
 obtain⟨t,D⟩:=fv w r;obtain rfl:y=M.af.length:=t.len;have hn:=H.n;refine VC (bR M x M.af.length z) a _ c i k h _ ⟨_,ja M x _ z,_,t.all,(uO D.wf H t.row).mono ?_⟩;rintro _ g1 ⟨kl,rfl,x2,nl,o1⟩;refine⟨_,_,_,rfl,?_⟩;have x3:=D.wf _ _ t.box;have i1:WI h M x M.af.length z h.next kl (bw (aX M.kind) M.af.length) g1:=⟨o1.ext _ _ t.box,x2,D.trans o1,Nat.le_refl _,Nat.le_trans D.nx nl,by omega⟩
 obtain⟨G,hG⟩:∃G,G=kQ (aX M.kind) (gm M) V i k:=⟨_,rfl⟩
 rw[<-hG];have x0:stR M V i k 0 (bw (aX M.kind) M.af.length)=G:=by rw[hG];unfold stR kQ;rw[CK,sub_zero]
 refine Ad (bR M x M.af.length z) a M.af.length c i k h.next kl M.af.length (λU q g=>q<=M.af.length/\U=M.af.length-q/\∃l,WI h M x M.af.length z h.next kl l g/\VV M.kind M.af.length l/\stR M V i k q l=G) _ (λU q=>?_) M.af.length (q:=0) ⟨by omega,rfl,_,i1,VV.Og H.kind _,x0⟩;intros;rename_i g x1;obtain⟨f1,f2,l,A,N,m⟩:=x1;have mb:=A.mb r;refine⟨_,cI _,_,_,_,mb.l3,aa (λZ=>?_) (λZ=>?_)⟩
 ·have p:q<M.af.length:=by have:=dT Z;omega
  obtain⟨s,W⟩:∃s,M.af[q]?=some s:=⟨_,gE p⟩
  have P:=List.mem_of_getElem? W;obtain⟨p1,e1,e2⟩:=Rd.cell ty (rv.ok (A.room 8).ok) (j:=q) (by rw[J.len];exact p);refine⟨_,e1,_,e2,_,dZ _,_,((A.room 8).mb r).l0,(gX H.kind _).mono ?_⟩;rintro _ g0 ⟨rfl,e0⟩;obtain rfl:Go.Ab.room g 8=g0:=e0.symm;unfold stR at m;rw[fg _ p]at m;unfold qy at m;rw[J.at_ p (aX M.kind).zero,S4 W,S8]at m;have ez:(aX M.kind).xp (V.getD q [])=(V.getD q []==bH M.kind):=rfl;rw[ez]at m;refine⟨_,rfl,⟨e2,mf _⟩,aa (λX=>?_) (λX=>?_)⟩
  ·rw[if_pos X]at m;rw[aJ p (by omega)];exact bY (M.af.length-(q+1)) (by omega) ⟨by omega,rfl,l,A.room 8,N,m⟩
  ·rw[if_neg (by rw[X];simp)]at m;refine Ae (bR M x M.af.length z) a M.af.length c i k h.next kl M.af.length _ U q (λQ j g=>j<=s.arcs.length/\Q=s.arcs.length-j/\∃l,WI h M x M.af.length z h.next kl l g/\VV M.kind M.af.length l/\(match bg (jS (aX M.kind) i k (V.getD q []) (Bx s).arcs) (s.arcs.length-j) j l with|none=>none|some l'=>stR M V i k (q+1) l')=G) _ (λQ j=>?_) s.arcs.length (j:=0) ⟨by omega,rfl,l,A.room 8,N,?_⟩
   ·intros;rename_i g2 Y;obtain⟨d1,d2,I,F,v,d⟩:=Y;have K:=F.mb r;obtain⟨b,o,xa,ya,za,u1,u2,u3,u4,ar⟩:=K.row.at_ W;have hm:=ar.len;subst hm;refine⟨_,cI _,_,_,_,K.l3,_,u1,_,fY _ _,_,_,_,u4,aa (λT=>?_) (λT=>?_)⟩
    ·have hj:j<s.arcs.length:=by have:=dT T;omega
     obtain⟨f,L⟩:∃f,s.arcs[j]?=some f:=⟨_,gE hj⟩
     obtain⟨b2,o2,v1,v2,v3,v4,v5,v6⟩:=ar.at_ L;obtain⟨u,p1,p2,p3⟩:=JT F.ok.wf f;have E:=F.ux p2;have hw:=H.arc s P f (List.mem_of_getElem? L);rw[fg _ hj]at d;unfold jS at d;rw[Zh L]at d;rw[aJ hj (by have:=H.m s P;omega)];refine⟨_,cI _,_,_,_,K.l3,_,u1,_,fY _ _,_,_,_,u4,_,v1,_,v2,_,RS,u,p1,?_⟩;generalize u.app (g2.push Oh)=g3 at*;refine⟨_,rE _ _,_,p3.l0,aa (λB=>?_) (λB=>⟨_,vZ _ _,_,p3.l1,aa (λC=>?_) (λC=>?_)⟩)⟩
     ·have B:f.i≠i:=by simpa using B
      rw[if_pos (.inl B)]at d;exact bY (s.arcs.length-(j+1)) (by omega) ⟨by omega,rfl,I,E,v,d⟩
     ·have C:f.o≠k:=by simpa using C
      rw[if_pos (.inr C)]at d;exact bY (s.arcs.length-(j+1)) (by omega) ⟨by omega,rfl,I,E,v,d⟩
     ·have B:f.i=i:=by simpa using B
      have C:f.o=k:=by simpa using C
      rw[if_neg (by rintro(h|h)<;>exact h (by first|exact B|exact C))]at d;have n:=E.room 13;obtain⟨p6,e6,e7⟩:=Rd.cell ty (rv.ok n.ok) (j:=q) (by rw[J.len];exact p);have ht:f.t.toNat<M.af.length:=by omega
      have et:f.t=((f.t.toNat:Nat):Int):=by omega
      have R:=p3.ok ((Ok.refl E.ok.wf).room 13);have S:=R.l3;rw[et]at S;refine⟨_,dZ _,_,(n.mb r).l0,_,rF _ _,_,S,_,e6,_,e7,_,GO _ _,_,R.l2,(HS n.ok.wf n.vb v ht (J.val q p) hw.1).mono ?_⟩;rintro _ g5 ⟨o5,O⟩;have ea:gA (aX M.kind) I (CH f).t (V.getD q []) (CH f).w=gA (aX M.kind) I f.t.toNat (V.getD q []) f.w:=rfl;rw[ea]at d
      cases e8:gA (aX M.kind) I f.t.toNat (V.getD q []) f.w with
      |none=>
       rw[e8]at O d;subst O;exact⟨_,rfl,aa (λ_=>⟨o5.ok n.ok w (λj e=>by rw[e];exact n.nl),by rw[<-d]⟩) (λe=>by cases e)⟩
      |some l5=>
       rw[e8]at O d;obtain⟨rfl,v5⟩:=O;exact⟨_,rfl,aa (λe=>by cases e) (λ_=>bY (s.arcs.length-(j+1)) (by omega) ⟨by omega,rfl,l5,n.step w o5 v5,GC v (J.val q p) hw.1 ht e8,d⟩)⟩
    ·obtain rfl:j=s.arcs.length:=by have:=dF T;omega
     rw[iH]at d;rw[aJ p (by omega)];exact bY (M.af.length-(q+1)) (by omega) ⟨by omega,rfl,I,F,v,d⟩
   ·rw[sub_zero];rw[<-m]
    cases bg (jS (aX M.kind) i k (V.getD q []) (Bx s).arcs) s.arcs.length 0 l<;>rfl
 ·obtain rfl:q=M.af.length:=by have:=dF Z;omega
  unfold stR at m;rw[iH]at m;rw[<-m];have:=A.vb.rd M.af.length;rw[N.len]at this;exact⟨A.ok,_,_,rfl,this,N⟩
end
end
section
section
variable {h:ae} {M:bt} {x a:Option Addr} {y z n c:Nat} {V:List (List UInt8)}
theorem Rj(w:Wf h)(r:dS h (.slice x y z) M.af)(e:Rd h 9 (.slice a n c) (eE V))(d:VV M.kind n V):FW SS 75 [.agg ⟨bR M x y z⟩,.slice a n c,nA] h (Vw h M.kind n (fS (aX M.kind) V none)):=by
 obtain⟨f,b⟩:=fv w r;exact Ri (bR M x y z) a n c h _ ⟨_,ja M x y z,b,_,_,rfl,e.ok b,d⟩
def reR(M:bt)(V:List (List UInt8))(B:LM)(q:Nat)(l:List (List UInt8)):Option (List (List UInt8)):=bg (λl q=>bg (fJ (aX M.kind) V B q) V.length 0 l) (M.af.length-q) q l
theorem VA(w:Wf h)(E:Oi M)(r:dS h (.slice x y z) M.af)(rv:Rd h 9 (.slice a M.af.length c) (eE V))(t:VV M.kind M.af.length V){F:Addr}{d:Nat}{B:LM}(rb:Lf 107 h (.slice (some F) M.af.length d) B)(A:Sq M.kind M.af.length B):
  FW SS 75 [.agg ⟨bR M x y z⟩,.slice a M.af.length c,.slice (some F) M.af.length d] h (Vw h M.kind M.af.length (fS (aX M.kind) V (some B))):=by
 obtain⟨n,v⟩:=fv w r;obtain rfl:y=M.af.length:=n.len;have hn:=E.n;refine Vz (bR M x M.af.length z) a _ c F _ d h _ ⟨_,ja M x _ z,_,n.all,(uO v.wf E n.row).mono ?_⟩;rintro _ g1 ⟨D,rfl,x0,nl,o1⟩;refine⟨_,_,_,rfl,?_⟩;have x7:=v.wf _ _ n.box;have i1:WI h M x M.af.length z h.next D (bw (aX M.kind) M.af.length) g1:=⟨o1.ext _ _ n.box,x0,v.trans o1,Nat.le_refl _,Nat.le_trans v.nx nl,by omega⟩
 obtain⟨G,hG⟩:∃G,G=fS (aX M.kind) V (some B):=⟨_,rfl⟩
 rw[<-hG];have Y:reR M V B 0 (bw (aX M.kind) M.af.length)=G:=by rw[hG];unfold reR fS;rw[t.len,sub_zero]
 refine Aa (bR M x M.af.length z) a M.af.length c F M.af.length d h.next D (λN q g=>q<=M.af.length/\N=M.af.length-q/\∃l,WI h M x M.af.length z h.next D l g/\VV M.kind M.af.length l/\reR M V B q l=G) _ (λN q=>?_) M.af.length (q:=0) ⟨by omega,rfl,_,i1,VV.Og E.kind _,Y⟩;intros;rename_i g Z;obtain⟨f1,f2,l,K,U,C⟩:=Z;refine aa (λR=>?_) (λR=>?_)
 ·have k:q<M.af.length:=by have:=dT R;omega
  unfold reR at C;rw[fg _ k]at C;refine Ac (bR M x M.af.length z) a M.af.length c F M.af.length d h.next D _ N q (λI p g=>p<=M.af.length/\I=M.af.length-p/\∃l,WI h M x M.af.length z h.next D l g/\VV M.kind M.af.length l/\(match bg (fJ (aX M.kind) V B q) (M.af.length-p) p l with|none=>none|some l'=>reR M V B (q+1) l')=G) _ (λI p=>?_) M.af.length (p:=0) ⟨by omega,rfl,l,K,U,?_⟩
  ·intros;rename_i g2 P;obtain⟨d1,d2,u,J,o,b⟩:=P;refine aa (λO=>?_) (λO=>?_)
   ·have s:p<M.af.length:=by have:=dT O;omega
    have m:=J.room 21;obtain⟨p1,e1,S⟩:=Rd.cell ty (rv.ok m.ok) (j:=q) (by rw[t.len];exact k);rw[fg _ s]at b;have hc:fJ (aX M.kind) V B q u p=if((V.getD q []==bH M.kind)||((B.getD q []).getD p []==bH M.kind))=true then some u else gA (aX M.kind) u p (V.getD q []) ((B.getD q []).getD p []):=by
     unfold fJ;rw[t.at_ k (aX M.kind).zero,A.Li k s];rfl
    rw[hc]at b;rw[aJ s (by omega)];refine⟨_,e1,_,S,_,dZ _,_,(m.mb r).l0,(gX E.kind _).mono ?_⟩;rintro _ X ⟨rfl,T⟩;obtain rfl:Go.Ab.room g2 21=X:=T.symm;refine⟨_,rfl,aa (λL=>⟨⟨S,mf _⟩,?_⟩) (λL=>?_)⟩
    ·rw[L,Bool.true_or,if_pos rfl]at b;exact bY (M.af.length-(p+1)) (by omega) ⟨by omega,rfl,u,m,o,b⟩
    ·obtain⟨pb,ab,nb,cb,b1,b2,b3⟩:=(rb.ok m.ok).at_ ty (i:=q) (by rw[A.len];exact k);obtain⟨p2,b4,b5⟩:=Rd.cell ty b3 (j:=p) (by rw[A.row q k];exact s);have hv:dC 4 (.slice ab nb cb) (.slice ab nb cb)=true:=by
      rcases b3 with⟨e,_⟩|⟨k',x3,x5,x4,x6,e,_⟩
      ·injection e with e _ _;rw[e];simp[dC]
      ·injection e with e _ _;rw[e];simp[dC]
     refine⟨_,b1,_,_,_,b2,_,b4,_,b5,_,dZ _,_,(m.mb r).l0,(gX E.kind _).mono ?_⟩;rintro _ X ⟨rfl,T⟩;obtain rfl:Go.Ab.room g2 21=X:=T.symm;refine⟨_,rfl,⟨S,mf _⟩,⟨b2,hv⟩,⟨b5,mf _⟩,aa (λQ=>?_) (λQ=>?_)⟩
     ·rw[Q,Bool.or_true,if_pos rfl]at b;exact bY (M.af.length-(p+1)) (by omega) ⟨by omega,rfl,u,m,o,b⟩
     ·rw[L,Q,Bool.or_false,if_neg (by simp)]at b;have f:=m.room 17;have x1:=t.val q k;have x2:=A.val q p k s;obtain⟨p6,e6,e7⟩:=Rd.cell ty (rv.ok f.ok) (j:=q) (by rw[t.len];exact k);obtain⟨pc,ac,nc,cc,c1,c2,c3⟩:=(rb.ok f.ok).at_ ty (i:=q) (by rw[A.len];exact k);obtain⟨p7,c4,c5⟩:=Rd.cell ty c3 (j:=p) (by rw[A.row q k];exact s);refine⟨_,dZ _,_,(f.mb r).l0,_,e6,_,e7,_,c1,_,_,_,c2,_,c4,_,c5,(HS f.ok.wf f.vb o s x1 x2).mono ?_⟩;rintro _ g5 ⟨o5,H⟩
      cases W:gA (aX M.kind) u p (V.getD q []) ((B.getD q []).getD p [])with
      |none=>
       rw[W]at H b;subst H;exact⟨_,rfl,aa (λ_=>⟨o5.ok f.ok w (λj e=>by rw[e];exact f.nl),by rw[<-b]⟩) (λe=>by cases e)⟩
      |some l5=>
       rw[W]at H b;obtain⟨rfl,v5⟩:=H;exact⟨_,rfl,aa (λe=>by cases e) (λ_=>bY (M.af.length-(p+1)) (by omega) ⟨by omega,rfl,l5,f.step w o5 v5,GC o x1 x2 s W,b⟩)⟩
   ·obtain rfl:p=M.af.length:=by have:=dF O;omega
    rw[iH]at b;rw[aJ k (by omega)];exact bY (M.af.length-(q+1)) (by omega) ⟨by omega,rfl,u,J,o,b⟩
  ·rw[sub_zero];rw[<-C,t.len]
   cases bg (fJ (aX M.kind) V B q) M.af.length 0 l with
   |none=>rfl
   |some l'=>dsimp only;unfold reR;rw[t.len]
 ·obtain rfl:q=M.af.length:=by have:=dF R;omega
  unfold reR at C;rw[iH]at C;rw[<-C];have:=K.vb.rd M.af.length;rw[U.len]at this;exact⟨K.ok,_,_,rfl,this,U⟩
def fiR(M:bt)(V:List (List UInt8))(q:Nat)(l:List (List UInt8)):Option (List UInt8):=match bg (jP (aX M.kind) (gm M) V) (M.af.length-q) q l with
 |none=>none
 |some l=>some (l.getD 0 (aX M.kind).zero)
theorem YH(w:Wf h)(D:Oi M)(r:dS h (.slice x y z) M.af)(rv:Rd h 9 (.slice a M.af.length c) (eE V))(E:VV M.kind M.af.length V):FW SS 78 [.agg ⟨bR M x y z⟩,.slice a M.af.length c] h (oQ h (oC (aX M.kind) (gm M) V)):=by
 obtain⟨p,n⟩:=fv w r;obtain rfl:y=M.af.length:=p.len;have hn:=D.n;refine YG (bR M x M.af.length z) a _ c h _ ⟨_,ja M x _ z,_,dZ _,_,p.l0,(gX D.kind _).mono ?_⟩;rintro _ m ⟨rfl,e0⟩;obtain rfl:h.push (Bm M x M.af.length z)=m:=e0.symm;refine⟨_,rfl,_,_,_,Y6 _,?_⟩;generalize h.push (Bm M x M.af.length z)=m at*;have k1:=aI m (.cells [strOf (bH M.kind)] 9 1 true);have P:=(Ok.refl n.wf).push (.cells [strOf (bH M.kind)] 9 1 true);have i1:WI h M x M.af.length z h.next m.next [bH M.kind] (m.push (.cells [strOf (bH M.kind)] 9 1 true)):=⟨P.ext _ _ p.box,k1,n.trans P,Nat.le_refl _,n.nx,by have:=n.wf _ _ p.box;omega⟩
 obtain⟨G,T⟩:∃G,G=oC (aX M.kind) (gm M) V:=⟨_,rfl⟩
 rw[<-T];have N:fiR M V 0 [bH M.kind]=G:=by
  rw[T];unfold fiR oC;rw[E.len,sub_zero];show(match bg (jP (aX M.kind) (gm M) V) M.af.length 0 [(aX M.kind).zero]with|none=>none|some l=>some (l.getD 0 (aX M.kind).zero))=_
  cases bg (jP (aX M.kind) (gm M) V) M.af.length 0 [(aX M.kind).zero]<;>rfl
 refine Bi (bR M x M.af.length z) a M.af.length c h.next m.next (λQ q g=>q<=M.af.length/\Q=M.af.length-q/\∃l,WI h M x M.af.length z h.next m.next l g/\VV M.kind 1 l/\fiR M V q l=G) _ (λQ q=>?_) M.af.length (q:=0) ⟨by omega,rfl,_,i1,⟨rfl,λi hi=>(by rw[show i=0 by omega];exact sw D.kind)⟩,N⟩;intros;rename_i g O;obtain⟨f1,f2,l,v,A,d⟩:=O;have W:=v.mb r;refine aa (λJ=>?_) (λJ=>?_)
 ·have u:q<M.af.length:=by have:=dT J;omega
  obtain⟨s,F⟩:∃s,M.af[q]?=some s:=⟨_,gE u⟩
  have R:=List.mem_of_getElem? F;obtain⟨b,o,xa,ya,za,u1,u2,u3,u4,ar⟩:=W.row.at_ F;unfold fiR at d;rw[fg _ u]at d;have hc:jP (aX M.kind) (gm M) V l q=match (Bx s).fin with|none=>some l|some f=>gA (aX M.kind) l 0 (V.getD q []) f:=by
   unfold jP;rw[S4 F,E.at_ u (aX M.kind).zero]
   cases (Bx s).fin<;>rfl
  rw[hc]at d;rw[aJ u (by omega)];refine⟨_,cI _,_,_,_,W.l3,_,u1,_,oN _ _,_,u3,aa (λI=>?_) (λI=>?_)⟩
  ·have C:s.f≠[]:=ca (by simpa using I);have K:(Bx s).fin=some s.f:=if_neg C;rw[K]at d;dsimp only at d;have k:=v.room 15;have B:=k.mb r;have Z:=E.val q u;have X:=D.fin s R C;obtain⟨p6,e6,e7⟩:=Rd.cell ty (rv.ok k.ok) (j:=q) (by rw[E.len];exact u);obtain⟨b',o',x6,x7,x5,S,x4,Y,x3,x0⟩:=B.row.at_ F;refine⟨_,dZ _,_,B.l0,_,e6,_,e7,_,cI _,_,_,_,B.l3,_,S,_,oN _ _,_,Y,(HS (t:=0) k.ok.wf k.vb A (by omega) Z X).mono ?_⟩;rintro _ g5 ⟨U,H⟩
   cases L:gA (aX M.kind) l 0 (V.getD q []) s.f with
   |none=>
    rw[L]at H d;subst H;exact⟨_,rfl,aa (λ_=>⟨by rw[<-d];rfl,U.ok k.ok w (λj e=>by rw[e];exact k.nl)⟩) (λe=>by cases e)⟩
   |some l5=>
    rw[L]at H d;obtain⟨rfl,v5⟩:=H;exact⟨_,rfl,aa (λe=>by cases e) (λ_=>bY (M.af.length-(q+1)) (by omega) ⟨by omega,rfl,l5,k.step w U v5,GC A Z X (by omega) L,d⟩)⟩
  ·have C:s.f=[]:=cj (by simpa using I);have K:(Bx s).fin=none:=if_pos C;rw[K]at d;exact bY (M.af.length-(q+1)) (by omega) ⟨by omega,rfl,l,v,A,d⟩
 ·obtain rfl:q=M.af.length:=by have:=dF J;omega
  unfold fiR at d;rw[iH]at d;refine⟨_,VB.ix ty (j:=0) (by omega),_,v.vb.ld ty (j:=0) (by rw[A.len];omega),?_,v.ok⟩;rw[<-d];show _=Mc (some (l.getD 0 (aX M.kind).zero));rw[A.at_ (i:=0) (by omega) (aX M.kind).zero];rfl
end
end
end Go.Proofs.YtaaichlgdgjgjaaGreatDoor
end
