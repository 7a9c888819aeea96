/- Laws and walks that the proof leans on (part 5): W14; P31; P32; W15; P33; P34 and others. No condition. -/
import Derived.Test.YtaaichlgdgjgjaaGreatDoorPart3
import Derived.Test.YtaaichlgdgjgjaaGreatDoorPart2
import Derived.Test.YtaaichlgdgjgjaaGreatDoorPart4
set_option linter.unusedVariables false
set_option linter.unusedSimpArgs false
set_option maxRecDepth 100000
open List (all_cons drop_eq_nil_of_le drop_zero ext_getElem getElem?_map getElem?_replicate length_replicate length_set mem_cons mem_singleton take_of_length_le take_zero)
open Nat (le_succ lt_of_le_of_lt mul_pos sub_zero)
open Bool (and_eq_true not_eq_false' not_eq_true' or_eq_true)
open Go.IntKind (wrap)
section
namespace Go.Proofs.YtaaichlgdgjgjaaGreatDoor
open Go Go.Ab Go.Num
noncomputable def Vr:FD:=cG Tryz.f89 []
theorem Rc(s:Int)(h:ae)(Q:VH)(a:au (decide ((s:Int)>=0)) (Q (.bool (decide ((s:Int)<=500))) h) (Q (.bool false) h)):FW SS 89 [(.int .i64 s)] h Q:=cQ Vr Tryz.func89 (ai a)
noncomputable def dA:FD:=cG Tryz.f66 [([1,1,1,1,0,1,0,0],[1,2,3,4,48,49,50]),([1,1,1,1,0,1,0,0,1,1,0,0,1,1,1,1,0,0],[1,2,3,4,6,48,49,50,75,76,77])]
abbrev gP(k:Nat)(a:OA)(n c:Nat)(i:Nat)(b:Int):LV:=[(pA k),(.bool false),(iA n),(.int .i64 b),(.slice a n c),(iA n),(iA i)]
abbrev jv(k:Nat)(a:OA)(n c f:Nat)(b:OA)(m d i:Nat)(e:Int)(j:Nat):LV:=[(pA k),(.bool false),(iA n),(.int .i64 e),(pA f),(.slice a n c),(iA n),(iA i),(.slice b m d),(iA m),(iA j)]
theorem PD(x:LV)(h:ae)(Q:VH)(y:xN (eK SS.P 29 (.agg ⟨x⟩)) h λ_ w=>fP 29 (pA (h.next)) 3 λv=>lL 27 w v λ_ u _=>fP 29 (pA (h.next)) 0 λt=>lI w t λs=>au (decide ((s:Int)<1)) (Q (.bool false) w) (fP 29 (pA (h.next)) 0 λr=>lI w r λq=>au (decide ((q:Int)>3)) (Q (.bool false) w) (au (decide (((u:Int):Int)<1)) (Q (.bool false) w) (au (decide (((u:Int):Int)>3000)) (Q (.bool false) w) (fP 29 (pA (h.next)) 1 λp=>lI w p λo=>au (decide ((o:Int)<0)) (Q (.bool false) w) (fP 29 (pA (h.next)) 1 λn=>lI w n λm=>au (decide ((m:Int)>=(u:Int))) (Q (.bool false) w) (fP 29 (pA (h.next)) 0 λl=>lI w l λk=>fP 29 (pA (h.next)) 2 λj=>lS w j λi=>FW SS 41 [(.int .i64 k),(strOf i)] w λf g=>yB f λe=>au (!e) (Q (.bool false) g) (fP 29 (pA (h.next)) 3 λd=>lL 27 g d λa b c=>LL SS dA [1,1,1,1,0,1,0,0] [(pA (h.next)),(.bool false),(iA u),(.int .i64 0),(.slice a b c),(iA b),(.int .i64 0)] g (KK SS dA [1,1,1,1,0,1,0] [] (EE SS dA Q)))))))))):FW SS 66 [(.agg ⟨x⟩)] h Q:=cQ dA Tryz.func66 (ai y)
theorem xw(D:LV)(k:Nat)(a:OA)(n c:Nat)(z:Nat->Nat->Int->ae->Prop)(Q:VH)(step:∀(A:Nat) (i:Nat) (acc:Int) (C:Nat->Value) (h:ae),z A i acc h->au (decide (((i:Int):Int)<(n:Int))) (iP 27 (.slice a n c) (iA i) λy=>lA 73 h (.pointer (some y)) λx=>xN (br SS.P 73) h λ_ w=>xU (ah SS.P 73 (pA (h.next)) (.agg ⟨x⟩) w) w λ_ v=>fP 73 (pA (h.next)) 1 λu=>lL 71 v u λ_ t _=>au (decide ((wrap .i64 (acc+(t:Int)):Int)>30000)) (Q (.bool false) v) (fP 73 (pA (h.next)) 0 λs=>lS v s λr=>au (!((r:LB)==[])) (fP 29 (pA k) 0 λq=>lI v q λp=>fP 73 (pA (h.next)) 0 λo=>lS v o λm=>FW SS 41 [(.int .i64 p),(strOf m)] v λj l=>yB j λg=>au (!g) (Q (.bool false) l) (fP 73 (pA (h.next)) 1 λf=>lL 71 l f λb d e=>LL SS dA [1,1,1,1,0,1,0,0,1,1,0,0,1,1,1,1,0,0] (jv k a n c (h.next) b d e i (wrap .i64 (acc+(t:Int))) 0) l (KK SS dA [1,1,0,0,1,1,1,1,0] [1,1,1,1,0,1,0,0] (RR dA [1,1,1,1,0,1,0,0] (qP (gP k a n c) z) A (KK SS dA [1,1,1,1,0,1,0] [] (EE SS dA Q)))))) (fP 73 (pA (h.next)) 1 λf=>lL 71 v f λb d e=>LL SS dA [1,1,1,1,0,1,0,0,1,1,0,0,1,1,1,1,0,0] (jv k a n c (h.next) b d e i (wrap .i64 (acc+(t:Int))) 0) v (KK SS dA [1,1,0,0,1,1,1,1,0] [1,1,1,1,0,1,0,0] (RR dA [1,1,1,1,0,1,0,0] (qP (gP k a n c) z) A (KK SS dA [1,1,1,1,0,1,0] [] (EE SS dA Q))))))) (Q (.bool true) h))(A:Nat){i:Nat}{acc:Int}{h:ae}(B:z A i acc h):LL SS dA [1,1,1,1,0,1,0,0] (gP k a n c i acc) h (KK SS dA [1,1,1,1,0,1,0] [] (EE SS dA Q)):=
 nu (gP k a n c) z (λA i acc C h B=>ai (step A i acc C h B)) A B
theorem xx(R:LV)(k:Nat)(a:OA)(n c:Nat)(D:Nat)(b:OA)(m d:Nat)(E:Nat->Nat->Int->ae->Prop)(H i:Nat)(C:Int)(B:Nat->Nat->ae->Prop)(Q:VH)(step:∀(A:Nat) (j:Nat) (I:Nat->Value) (h:ae),B A j h->au (decide (((j:Int):Int)<(m:Int))) (iP 71 (.slice b m d) (iA j) λP=>lA 70 h (.pointer (some P)) λN=>xN (br SS.P 70) h λ_ K=>xU (ah SS.P 70 (pA (h.next)) (.agg ⟨N⟩) K) K λ_ J=>fP 70 (pA (h.next)) 0 λO=>lI J O λL=>FW SS 89 [(.int .i64 L)] J λM G=>yB M λz=>au (!z) (Q (.bool false) G) (fP 70 (pA (h.next)) 1 λy=>lI G y λx=>FW SS 89 [(.int .i64 x)] G λv w=>yB v λu=>au (!u) (Q (.bool false) w) (fP 70 (pA (h.next)) 3 λt=>lI w t λs=>au (decide ((s:Int)<0)) (Q (.bool false) w) (fP 70 (pA (h.next)) 3 λr=>lI w r λq=>au (decide ((q:Int)>=(n:Int))) (Q (.bool false) w) (fP 29 (pA k) 0 λp=>lI w p λo=>fP 70 (pA (h.next)) 2 λl=>lS w l λh=>FW SS 41 [(.int .i64 o),(strOf h)] w λf g=>yB f λe=>au (!e) (Q (.bool false) g) (aI (fj (jv k a n c D b m d i C) B) A [(pA k),(.bool false),(iA n),(.int .i64 C),(pA D),(.slice a n c),(iA n),(iA i),(.slice b m d),(iA m),(.int .i64 (wrap .i64 ((j:Int)+1)))] g)))))) (aI (qP (gP k a n c) E) H [(pA k),(.bool false),(iA n),(.int .i64 C),(.slice a n c),(iA n),(.int .i64 (wrap .i64 ((i:Int)+1)))] h))(A:Nat){j:Nat}{h:ae}(F:B A j h):LL SS dA [1,1,1,1,0,1,0,0,1,1,0,0,1,1,1,1,0,0] (jv k a n c D b m d i C j) h (KK SS dA [1,1,0,0,1,1,1,1,0] [1,1,1,1,0,1,0,0] (RR dA [1,1,1,1,0,1,0,0] (qP (gP k a n c) E) H (KK SS dA [1,1,1,1,0,1,0] [] (EE SS dA Q)))):=
 dg (jv k a n c D b m d i C) B (λA j I h F=>ai (step A j I h F)) A F
noncomputable def dB:FD:=cG Tryz.f26 [([1,1,1,0,1,0,0],[1,2,3,4]),([1,1,1,0,1,0,0,1,0,0,1,1,1,1,0,0],[1,2,3,4,5,6])]
abbrev fN(k:Nat)(i:Nat)(a:Int):LV:=[(pA k),(.bool false),(.int .i64 a),(iA i)]
abbrev jA(k b i:Nat)(a:Int)(j:Nat):LV:=[(pA k),(.bool false),(.int .i64 a),(iA i),(pA b),(iA j)]
theorem Qm(y:LV)(h:ae)(Q:VH)(z:xN (eK SS.P 29 (.agg ⟨y⟩)) h λ_ x=>fP 29 (pA (h.next)) 0 λw=>lI x w λv=>FW SS 14 [(.int .i64 v)] x λt u=>yB t λs=>au (!s) (Q (.bool false) u) (fP 29 (pA (h.next)) 3 λr=>lL 27 u r λ_ q _=>au (decide (((q:Int):Int)<1)) (Q (.bool false) u) (fP 29 (pA (h.next)) 3 λp=>lL 27 u p λ_ o _=>au (decide (((o:Int):Int)>3000)) (Q (.bool false) u) (fP 29 (pA (h.next)) 1 λn=>lI u n λm=>au (decide ((m:Int)<0)) (Q (.bool false) u) (fP 29 (pA (h.next)) 1 λl=>lI u l λk=>fP 29 (pA (h.next)) 3 λj=>lL 27 u j λ_ i _=>au (decide ((k:Int)>=(i:Int))) (Q (.bool false) u) (fP 29 (pA (h.next)) 0 λg=>lI u g λf=>fP 29 (pA (h.next)) 2 λe=>lS u e λd=>FW SS 16 [(.int .i64 f),(strOf d)] u λb c=>yB b λa=>au (!a) (Q (.bool false) c) (LL SS dB [1,1,1,0,1,0,0] (fN (h.next) 0 0) c (KK SS dB [1,1,1,0,1,0] [] (EE SS dB Q))))))))):FW SS 26 [(.agg ⟨y⟩)] h Q:=cQ dB Tryz.func26 (ai z)
theorem xT(C:LV)(k:Nat)(y:Nat->Nat->Int->ae->Prop)(Q:VH)(step:∀(z:Nat) (i:Nat) (acc:Int) (B:Nat->Value) (h:ae),y z i acc h->fP 29 (pA k) 3 λx=>lL 27 h x λ_ w _=>au (decide (((i:Int):Int)<(w:Int))) (fP 29 (pA k) 3 λv=>lL 27 h v λs t u=>iP 27 (.slice s t u) (iA i) λr=>lA 73 h (.pointer (some r)) λq=>xN (br SS.P 73) h λ_ p=>xU (ah SS.P 73 (pA (h.next)) (.agg ⟨q⟩) p) p λ_ o=>fP 73 (pA (h.next)) 1 λn=>lL 71 o n λ_ m _=>au (decide ((wrap .i64 (acc+(m:Int)):Int)>30000)) (Q (.bool false) o) (fP 73 (pA (h.next)) 0 λl=>lS o l λj=>au (!((j:LB)==[])) (fP 29 (pA k) 0 λg=>lI o g λf=>fP 73 (pA (h.next)) 0 λe=>lS o e λd=>FW SS 16 [(.int .i64 f),(strOf d)] o λb c=>yB b λa=>au (!a) (Q (.bool false) c) (LL SS dB [1,1,1,0,1,0,0,1,0,0,1,1,1,1,0,0] (jA k (h.next) i (wrap .i64 (acc+(m:Int))) 0) c (KK SS dB [1,0,0,1,1,1,1,0] [1,1,1,0,1,0,0] (RR dB [1,1,1,0,1,0,0] (qP (fN k) y) z (KK SS dB [1,1,1,0,1,0] [] (EE SS dB Q)))))) (LL SS dB [1,1,1,0,1,0,0,1,0,0,1,1,1,1,0,0] (jA k (h.next) i (wrap .i64 (acc+(m:Int))) 0) o (KK SS dB [1,0,0,1,1,1,1,0] [1,1,1,0,1,0,0] (RR dB [1,1,1,0,1,0,0] (qP (fN k) y) z (KK SS dB [1,1,1,0,1,0] [] (EE SS dB Q))))))) (Q (.bool true) h))(z:Nat){i:Nat}{acc:Int}{h:ae}(A:y z i acc h):LL SS dB [1,1,1,0,1,0,0] (fN k i acc) h (KK SS dB [1,1,1,0,1,0] [] (EE SS dB Q)):=
 nu (fN k) y (λz i acc B h A=>ai (step z i acc B h A)) z A
theorem xV(S:LV)(k D:Nat)(E:Nat->Nat->Int->ae->Prop)(G i:Nat)(C:Int)(B:Nat->Nat->ae->Prop)(Q:VH)(step:∀(A:Nat) (j:Nat) (I:Nat->Value) (h:ae),B A j h->fP 73 (pA D) 1 λJ=>lL 71 h J λ_ O _=>au (decide (((j:Int):Int)<(O:Int))) (fP 73 (pA D) 1 λL=>lL 71 h L λM N P=>iP 71 (.slice M N P) (iA j) λK=>lA 70 h (.pointer (some K)) λR=>xN (br SS.P 70) h λ_ H=>xU (ah SS.P 70 (pA (h.next)) (.agg ⟨R⟩) H) H λ_ z=>fP 70 (pA (h.next)) 0 λy=>lI z y λx=>au (decide ((x:Int)<0)) (Q (.bool false) z) (fP 70 (pA (h.next)) 0 λw=>lI z w λv=>au (decide ((v:Int)>500)) (Q (.bool false) z) (fP 70 (pA (h.next)) 1 λu=>lI z u λt=>au (decide ((t:Int)<0)) (Q (.bool false) z) (fP 70 (pA (h.next)) 1 λs=>lI z s λr=>au (decide ((r:Int)>500)) (Q (.bool false) z) (fP 70 (pA (h.next)) 3 λq=>lI z q λp=>au (decide ((p:Int)<0)) (Q (.bool false) z) (fP 70 (pA (h.next)) 3 λo=>lI z o λn=>fP 29 (pA k) 3 λm=>lL 27 z m λ_ l _=>au (decide ((n:Int)>=(l:Int))) (Q (.bool false) z) (fP 29 (pA k) 0 λg=>lI z g λf=>fP 70 (pA (h.next)) 2 λe=>lS z e λd=>FW SS 16 [(.int .i64 f),(strOf d)] z λb c=>yB b λa=>au (!a) (Q (.bool false) c) (aI (fj (jA k D i C) B) A [(pA k),(.bool false),(.int .i64 C),(iA i),(pA D),(.int .i64 (wrap .i64 ((j:Int)+1)))] c)))))))) (aI (qP (fN k) E) G [(pA k),(.bool false),(.int .i64 C),(.int .i64 (wrap .i64 ((i:Int)+1)))] h))(A:Nat){j:Nat}{h:ae}(F:B A j h):LL SS dB [1,1,1,0,1,0,0,1,0,0,1,1,1,1,0,0] (jA k D i C j) h (KK SS dB [1,0,0,1,1,1,1,0] [1,1,1,0,1,0,0] (RR dB [1,1,1,0,1,0,0] (qP (fN k) E) G (KK SS dB [1,1,1,0,1,0] [] (EE SS dB Q)))):=
 dg (jA k D i C) B (λA j I h F=>ai (step A j I h F)) A F
noncomputable def r5:FD:=cG Tryz.f56 [([1,1,0,1,0,0],[1,3,4])]
abbrev m3(k:Nat)(i:Nat)(a:Int):LV:=[(pA k),(.int .i64 a),(iA i)]
theorem Ux(b:LV)(h:ae)(Q:VH)(c:xN (eK SS.P 29 (.agg ⟨b⟩)) h λ_ a=>LL SS r5 [1,1,0,1,0,0] (m3 (h.next) 0 0) a (KK SS r5 [1,1,0,1,0] [] (EE SS r5 Q))):FW SS 56 [(.agg ⟨b⟩)] h Q:=cQ r5 Tryz.func56 (ai c)
theorem zN(q:LV)(k:Nat)(n:Nat->Nat->Int->ae->Prop)(Q:VH)(step:∀(m:Nat) (i:Nat) (acc:Int) (p:Nat->Value) (h:ae),n m i acc h->fP 29 (pA k) 3 λl=>lL 27 h l λ_ j _=>au (decide (((i:Int):Int)<(j:Int))) (fP 29 (pA k) 3 λg=>lL 27 h g λd e f=>iP 27 (.slice d e f) (iA i) λc=>fP 73 (.pointer (some c)) 1 λb=>lL 71 h b λ_ a _=>aI (qP (m3 k) n) m [(pA k),(.int .i64 (wrap .i64 (acc+(a:Int)))),(.int .i64 (wrap .i64 ((i:Int)+1)))] h) (Q (.int .i64 acc) h))(m:Nat){i:Nat}{acc:Int}{h:ae}(o:n m i acc h):LL SS r5 [1,1,0,1,0,0] (m3 k i acc) h (KK SS r5 [1,1,0,1,0] [] (EE SS r5 Q)):=
 nu (m3 k) n (λm i acc p h o=>ai (step m i acc p h o)) m o
variable{A:Type}{i:Nat}
section
theorem fG{l:List A}{s:A}(h:l[i]?=some s):l.drop i=s::l.drop (i+1):=by
 obtain⟨a,rfl⟩:=List.getElem?_eq_some_iff.1 h;exact List.drop_eq_getElem_cons a
theorem Gh(s:Int)(h:ae):FW SS 89 [.int .i64 s] h (λv a=>v = .bool (sM s)/\a=h):=by
 refine Rc s h _ (aa (λg=>⟨?_,rfl⟩) (λg=>⟨?_,rfl⟩))
 ·have g:=dT g;unfold sM;rw[decide_eq_true (show 0<=s from g),Bool.true_and]
 ·have g:=dF g;unfold sM;rw[decide_eq_false (show ¬0<=s from g),Bool.false_and]
section
variable {h:ae} {k:Nat} {M:bw} {a:Option Addr} {n c:Nat}
def bQ(h:ae)(V:Bool):VH:=λv a=>v = .bool V/\Ok h a
def XW(h:ae)(k:Nat)(M:bw)(a:Option Addr)(n c:Nat)(V:Bool)(d i:Nat)(b:Int)(g:ae):Prop:=i<=n/\d=n-i/\0<=b/\b<=30000/\MB g k M a n c/\Ok h g/\nQ M.kind n b (M.af.drop i)=V
def mIn(h:ae)(k:Nat)(M:bw)(a:Option Addr)(n c:Nat)(s:dP)(b:Option Addr)(m d i:Nat)(f:Int)(V:Bool)(e j:Nat)(g:ae):Prop:=j<=m/\e=m-j/\MB g k M a n c/\Ok h g/\mh g (.slice b m d) s.arcs/\((s.arcs.drop j).all (hI M.kind n)&&nQ M.kind n f (M.af.drop (i+1)))=V
theorem aN{n:Nat}(h:i<n)(a:n<=1000000000):wrap .i64 ((i:Int)+1)=((i+1:Nat):Int):=by rw[aB (by omega) (by omega)];omega
theorem yw(a:Small M){s:dP}{i:Nat}(b:M.af[i]?=some s):s.arcs.length<=2000/\s.f.length<=1000000000/\∀q∈s.arcs,q.w.length<=1000000000:=by
 have h:=List.mem_of_getElem? b;exact⟨a.arcs s h,Nat.le_trans (a.fin s h) (by decide),λq c=>Nat.le_trans (a.w s h q c) (by decide)⟩
set_option linter.defProp false in
def JB(w:Wf h)(Z:nO h)(O:Small M)(V:Bool){s:dP}{b:Option Addr}{m d i T:Nat}{l:Int}(U:M.af[i]?=some s)(Y:i<n)(h0:0<=l)(W:l<=30000)(Q:List Value)(K:Nat)(x0:K=n-i):=
 xx Q k a n c T b m d (XW h k M a n c V) K i l (mIn h k M a n c s b m d i l V) (bQ h V) (by
  intro P j;intros;rename_i g J;obtain⟨f1,f2,E,H,C,f⟩:=J;have hn:n<=300:=by rw[E.len];exact O.bL
  obtain⟨l1,l2,X⟩:=yw O U;have hm:=C.len;refine aa (λy=>?_) (λy=>?_)
  ·have y:=dT y;obtain⟨q,F⟩:∃q,s.arcs[j]?=some q:=⟨_,gE (by omega)⟩
   obtain⟨bb,o,S,e2,e3⟩:=C.at_ F;have R:=X q (List.mem_of_getElem? F);rw[fG F,all_cons]at f;obtain⟨u,p1,D,z⟩:=JT H.wf q;refine⟨_,S,_,e2,_,RY,u,p1,?_⟩;have e:=H.trans D;have B:=E.ok D;generalize u.app (g.push Om)=L at*;refine⟨_,zA _ _,_,z.l0,(Gh _ _).mono ?_⟩;rintro _ I ⟨rfl,G⟩;obtain rfl:L=I:=G.symm;refine⟨_,rfl,aa (λt=>⟨?_,e⟩) (λt=>?_)⟩
   ·rw[not_eq_true']at t;rw[<-f];unfold hI;rw[t];simp
   rw[not_eq_false']at t;refine⟨_,zB _ _,_,z.l1,(Gh _ _).mono ?_⟩;rintro _ I ⟨rfl,G⟩;obtain rfl:L=I:=G.symm;refine⟨_,rfl,aa (λp=>⟨?_,e⟩) (λp=>?_)⟩
   ·rw[not_eq_true']at p;rw[<-f];unfold hI;rw[p];simp
   rw[not_eq_false']at p;refine⟨_,rG _ _,_,z.l3,aa (λx=>⟨?_,e⟩) (λx=>?_)⟩
   ·have x:=dT x;rw[<-f];unfold hI;rw[decide_eq_false (show ¬0<=q.t by omega)];simp
   have x:=dF x;refine⟨_,rG _ _,_,z.l3,aa (λr=>⟨?_,e⟩) (λr=>?_)⟩
   ·have r:=dT r;rw[<-f];unfold hI;rw[decide_eq_false (show ¬q.t<n by omega)];simp
   have r:=dF r;refine⟨_,dD _,_,B.l0,_,CD _ _,_,z.l2,(l9 M.kind q.w R (Z.ok e) e.wf).mono ?_⟩;rintro _ g4 ⟨rfl,A⟩;refine⟨_,rfl,aa (λv=>⟨?_,e.trans A⟩) (λv=>?_)⟩
   ·rw[not_eq_true']at v;rw[<-f];unfold hI;rw[v];simp
   rw[not_eq_false']at v;have N:hI M.kind n q=true:=by
    unfold hI;rw[t,p,v,decide_eq_true (show 0<=q.t by omega),decide_eq_true (show q.t<n by omega)];rfl
   rw[N,Bool.true_and]at f;rw[aN (i:=j) (n:=m) (by omega) (by omega)];exact bZ (P-1) (by omega) ⟨by omega,by omega,B.ok A,e.trans A,(C.ok D).ok A,f⟩
  ·have y:=dF y;obtain rfl:m=j:=by omega
   rw[drop_eq_nil_of_le (by omega)]at f;rw[aN Y (by omega)];exact iI (n-(i+1)) (by omega) ⟨by omega,rfl,h0,W,E,H,by simpa using f⟩)
theorem qG{h:ae}(N:nO h)(w:Wf h){M:bw}(q:Small M){a:Option Addr}{n c:Nat}(r:dx h (.slice a n c) M.af):FW SS 66 [.agg ⟨bK M a n c⟩] h (λv h'=>v = .bool (ca M)/\Ok h h'):=by
 obtain⟨f,k⟩:=fo w r;refine PD (bK M a n c) h _ ⟨_,iH M a n c,?_⟩;have Y:=f.len;have hn:n<=300:=by rw[Y];exact q.bL
 generalize h.push (Bm M a n c)=g at*;refine⟨_,da _,_,_,_,f.l3,_,dD _,_,f.l0,aa (λJ=>⟨?_,k⟩) (λJ=>?_)⟩
 ·have J:=dT J;unfold ca;rw[decide_eq_false (show ¬1<=M.kind by omega)];simp
 have J:=dF J;refine⟨_,dD _,_,f.l0,aa (λp=>⟨?_,k⟩) (λp=>aa (λF=>⟨?_,k⟩) (λF=>aa (λT=>⟨?_,k⟩) (λT=>?_)))⟩
 ·have p:=dT p;unfold ca;rw[decide_eq_false (show ¬M.kind<=3 by omega)];simp
 ·have F:=dT F;unfold ca;rw[decide_eq_false (show ¬1<=M.af.length by omega)];simp
 ·have T:=dT T;omega
 have p:=dF p;have F:=dF F;refine⟨_,tn _,_,f.l1,aa (λC=>⟨?_,k⟩) (λC=>?_)⟩
 ·have C:=dT C;unfold ca;rw[decide_eq_false (show ¬0<=M.start by omega)];simp
 have C:=dF C;refine⟨_,tn _,_,f.l1,aa (λD=>⟨?_,k⟩) (λD=>?_)⟩
 ·have D:=dT D;unfold ca;rw[decide_eq_false (show ¬M.start<M.af.length by omega)];simp
 have D:=dF D;refine⟨_,dD _,_,f.l0,_,mC _,_,f.l2,(l9 M.kind M.lead (Nat.le_trans q.lead (by decide)) (N.ok k) k.wf).mono ?_⟩;rintro _ g2 ⟨rfl,o2⟩;have R:=k.trans o2;have O:=f.ok o2;refine⟨_,rfl,aa (λI=>⟨?_,R⟩) (λI=>?_)⟩
 ·rw[not_eq_true']at I;unfold ca;rw[I];simp
 rw[not_eq_false']at I;have hV:ca M=nQ M.kind n 0 M.af:=by
  unfold ca;rw[I,decide_eq_true (show 1<=M.kind by omega),decide_eq_true (show M.kind<=3 by omega),decide_eq_true (show 1<=M.af.length by omega),decide_eq_true (show M.af.length<=3000 by omega),decide_eq_true (show 0<=M.start by omega),decide_eq_true (show M.start<M.af.length by omega),Y];rfl
 obtain⟨V,S⟩:∃V,V=nQ M.kind n 0 M.af:=⟨_,rfl⟩
 rw[hV,<-S];refine⟨_,da _,_,_,_,O.l3,?_⟩;refine xw (bK M a n c) h.next a n c (XW h h.next M a n c V) (bQ h V) (λW i l=>?_) n (i:=0) (acc:=0) ⟨by omega,rfl,by omega,by omega,O,R,S.symm⟩;intros;rename_i gg hi;obtain⟨f1,Z,f3,f4,Q,G,d⟩:=hi;refine aa (λH=>?_) (λH=>?_)
 ·have H:=dT H;obtain⟨s,t⟩:∃s,M.af[i]?=some s:=⟨_,gE (by omega)⟩
  obtain⟨b,o,x,y,z,e1,e2,e3,e4,X⟩:=Q.row.at_ t;obtain⟨l1,l2,l3⟩:=yw q t;have hy:=X.len;rw[fG t]at d;unfold nQ at d;obtain⟨u,p1,U,K⟩:=NX G.wf s.f x y z;refine⟨_,e1,_,e2,_,WL,u,p1,?_⟩;have e:=G.trans U;have L:=Q.ok U;have P:=X.ok U;generalize u.app (gg.push RC)=g3 at*;have hw:wrap .i64 (l+(y:Int))=l+(s.arcs.length:Int):=by rw[hy,aB (by omega) (by omega)]
  refine⟨_,iu _ _,_,_,_,K.l1,?_⟩;dsimp only;rw[hw];refine aa (λA=>⟨?_,e⟩) (λA=>?_)
  ·have A:=dT A;rw[<-d,decide_eq_false (show ¬l+(s.arcs.length:Int)<=30000 by omega)];simp
  have A:=dF A;rw[decide_eq_true (show l+(s.arcs.length:Int)<=30000 by omega),Bool.true_and]at d;refine⟨_,nE _ _,_,K.l0,aa (λm=>?_) (λm=>?_)⟩
  ·refine⟨_,dD _,_,L.l0,_,nE _ _,_,K.l0,(l9 M.kind s.f l2 (N.ok e) e.wf).mono ?_⟩;rintro _ g4 ⟨rfl,B⟩;have m:(s.f==[])=false:=by simpa using m
   rw[m,Bool.false_or]at d;refine⟨_,rfl,aa (λE=>⟨?_,e.trans B⟩) (λE=>?_)⟩
   ·rw[not_eq_true']at E;rw[<-d,E];simp
   rw[not_eq_false']at E;rw[E,Bool.true_and]at d;refine⟨_,iu _ _,_,_,_,(K.ok B).l1,?_⟩;exact JB w N q _ t (by omega) (by omega) (by omega) [] W Z y (j:=0) ⟨by omega,rfl,L.ok B,e.trans B,P.ok B,by rw[drop_zero];exact d⟩
  ·have m:(s.f==[])=true:=by simpa using m
   rw[m,Bool.true_or,Bool.true_and]at d;refine⟨_,iu _ _,_,_,_,K.l1,?_⟩;exact JB w N q _ t (by omega) (by omega) (by omega) [] W Z y (j:=0) ⟨by omega,rfl,L,e,P,by rw[drop_zero];exact d⟩
 ·have H:=dF H;refine⟨?_,G⟩;rw[drop_eq_nil_of_le (by omega)]at d;rw[<-d];rfl
end
end
section
theorem pV(a:Int)(h:ae):FW SS 14 [.int .i64 a] h (λv b=>v = .bool (decide (1<=a)&&decide (a<=3))/\b=h):=by
 refine AS a h _ (aa (λg=>⟨?_,rfl⟩) (λg=>⟨?_,rfl⟩))
 ·have g:=dT g;rw[decide_eq_true (show 1<=a from g),Bool.true_and]
 ·have g:=dF g;rw[decide_eq_false (show ¬1<=a from g),Bool.false_and]
section
variable {h:ae} {k:Nat} {M:bw} {a:Option Addr} {n c:Nat}
set_option linter.defProp false in
def Kc(w:Wf h)(P:Small M)(V:Bool){s:dP}{b:Option Addr}{m d i Q:Nat}{p:Int}(U:M.af[i]?=some s)(Y:i<n)(Z:0<=p)(W:p<=30000)(R:List Value)(N:Nat)(x0:N=n-i):=
 xV R k Q (XW h k M a n c V) N i p (λx j g=>mIn h k M a n c s b m d i p V x j g/\SB g Q s.f b m d) (bQ h V) (by
  intro x j;intros;rename_i g L;obtain⟨⟨f1,f2,H,K,G,f⟩,J⟩:=L;have hn:n<=300:=by rw[H.len];exact P.bL
  obtain⟨l1,l2,X⟩:=yw P U;have hm:=G.len;refine⟨_,iu _ _,_,_,_,J.l1,aa (λD=>?_) (λD=>?_)⟩
  ·have D:=dT D;obtain⟨q,I⟩:∃q,s.arcs[j]?=some q:=⟨_,gE (by omega)⟩
   obtain⟨bb,o,T,e2,e3⟩:=G.at_ I;have S:=X q (List.mem_of_getElem? I);rw[fG I,all_cons]at f;obtain⟨u,p1,F,l⟩:=JT K.wf q;refine⟨_,iu _ _,_,_,_,J.l1,_,T,_,e2,_,RY,u,p1,?_⟩;have e:=K.trans F;have E:=H.ok F;generalize u.app (g.push Om)=g2 at*;refine⟨_,zA _ _,_,l.l0,aa (λt=>⟨?_,e⟩) (λt=>⟨_,zA _ _,_,l.l0,aa (λr=>⟨?_,e⟩) (λr=>⟨_,zB _ _,_,l.l1,aa (λB=>⟨?_,e⟩) (λB=>⟨_,zB _ _,_,l.l1,aa (λv=>⟨?_,e⟩) (λv=>⟨_,rG _ _,_,l.l3,aa (λz=>⟨?_,e⟩) (λz=>⟨_,rG _ _,_,l.l3,_,da _,_,_,_,E.l3,aa (λA=>⟨?_,e⟩) (λA=>?_)⟩)⟩)⟩)⟩)⟩)⟩
   ·have t:=dT t;rw[<-f];unfold hI sM;rw[decide_eq_false (show ¬0<=q.i by omega)];simp
   ·have r:=dT r;rw[<-f];unfold hI sM;rw[decide_eq_false (show ¬q.i<=500 by omega)];simp
   ·have B:=dT B;rw[<-f];unfold hI sM;rw[decide_eq_false (show ¬0<=q.o by omega)];simp
   ·have v:=dT v;rw[<-f];unfold hI sM;rw[decide_eq_false (show ¬q.o<=500 by omega)];simp
   ·have z:=dT z;rw[<-f];unfold hI;rw[decide_eq_false (show ¬0<=q.t by omega)];simp
   ·have A:=dT A;rw[<-f];unfold hI;rw[decide_eq_false (show ¬q.t<n by omega)];simp
   have t:=dF t;have r:=dF r;have B:=dF B;have v:=dF v;have z:=dF z;have A:=dF A;refine⟨_,dD _,_,E.l0,_,CD _ _,_,l.l2,(m5 M.kind q.w S e.wf).mono ?_⟩;rintro _ g4 ⟨rfl,y⟩;refine⟨_,rfl,aa (λC=>⟨?_,e.trans y⟩) (λC=>?_)⟩
   ·rw[not_eq_true']at C;rw[<-f];unfold hI;rw[C];simp
   rw[not_eq_false']at C;have O:hI M.kind n q=true:=by
    unfold hI sM;rw[C,decide_eq_true (show 0<=q.i by omega),decide_eq_true (show q.i<=500 by omega),decide_eq_true (show 0<=q.o by omega),decide_eq_true (show q.o<=500 by omega),decide_eq_true (show 0<=q.t by omega),decide_eq_true (show q.t<n by omega)];rfl
   rw[O,Bool.true_and]at f;rw[aN (i:=j) (n:=m) (by omega) (by omega)];exact bZ (x-1) (by omega) ⟨⟨by omega,by omega,E.ok y,e.trans y,(G.ok F).ok y,f⟩,(J.ok F).ok y⟩
  ·have D:=dF D;obtain rfl:m=j:=by omega
   rw[drop_eq_nil_of_le (by omega)]at f;rw[aN Y (by omega)];exact iI (n-(i+1)) (by omega) ⟨by omega,rfl,Z,W,H,K,by simpa using f⟩)
end
theorem qI{h:ae}(w:Wf h){M:bw}(t:Small M){a:Option Addr}{n c:Nat}(r:dx h (.slice a n c) M.af):FW SS 26 [.agg ⟨bK M a n c⟩] h (λv h'=>v = .bool (ca M)/\Ok h h'):=by
 obtain⟨e,p⟩:=fo w r;refine Qm (bK M a n c) h _ ⟨_,iH M a n c,?_⟩;have W:=e.len;have hn:n<=300:=by rw[W];exact t.bL
 generalize h.push (Bm M a n c)=g at*;refine⟨_,dD _,_,e.l0,(pV _ _).mono ?_⟩;rintro _ g1 ⟨rfl,eg⟩;obtain rfl:g=g1:=eg.symm;refine⟨_,rfl,aa (λm=>⟨?_,p⟩) (λm=>?_)⟩
 ·rw[not_eq_true']at m;unfold ca;rw[m];simp
 rw[not_eq_false',and_eq_true]at m;have m:1<=M.kind/\M.kind<=3:=⟨dT m.1,dT m.2⟩
 refine⟨_,da _,_,_,_,e.l3,aa (λG=>⟨?_,p⟩) (λG=>⟨_,da _,_,_,_,e.l3,aa (λQ=>⟨?_,p⟩) (λQ=>?_)⟩)⟩
 ·have G:=dT G;unfold ca;rw[decide_eq_false (show ¬1<=M.af.length by omega)];simp
 ·have Q:=dT Q;omega
 have G:=dF G;refine⟨_,tn _,_,e.l1,aa (λD=>⟨?_,p⟩) (λD=>?_)⟩
 ·have D:=dT D;unfold ca;rw[decide_eq_false (show ¬0<=M.start by omega)];simp
 have D:=dF D;refine⟨_,tn _,_,e.l1,_,da _,_,_,_,e.l3,aa (λE=>⟨?_,p⟩) (λE=>?_)⟩
 ·have E:=dT E;unfold ca;rw[decide_eq_false (show ¬M.start<M.af.length by omega)];simp
 have E:=dF E;refine⟨_,dD _,_,e.l0,_,mC _,_,e.l2,(m5 M.kind M.lead (Nat.le_trans t.lead (by decide)) p.wf).mono ?_⟩;rintro _ g2 ⟨rfl,Y⟩;have O:=p.trans Y;have U:=e.ok Y;refine⟨_,rfl,aa (λJ=>⟨?_,O⟩) (λJ=>?_)⟩
 ·rw[not_eq_true']at J;unfold ca;rw[J];simp
 rw[not_eq_false']at J;have Z:ca M=nQ M.kind n 0 M.af:=by
  unfold ca;rw[J,decide_eq_true (show 1<=M.kind by omega),decide_eq_true (show M.kind<=3 by omega),decide_eq_true (show 1<=M.af.length by omega),decide_eq_true (show M.af.length<=3000 by omega),decide_eq_true (show 0<=M.start by omega),decide_eq_true (show M.start<M.af.length by omega),W];rfl
 obtain⟨V,P⟩:∃V,V=nQ M.kind n 0 M.af:=⟨_,rfl⟩
 rw[Z,<-P];refine xT (bK M a n c) h.next (XW h h.next M a n c V) (bQ h V) (λS i k=>?_) n (i:=0) (acc:=0) ⟨by omega,rfl,by omega,by omega,U,O,P.symm⟩;intros;rename_i gg hi;obtain⟨f1,X,f3,f4,q,H,d⟩:=hi;refine⟨_,da _,_,_,_,q.l3,aa (λI=>?_) (λI=>?_)⟩
 ·have I:=dT I;obtain⟨s,A⟩:∃s,M.af[i]?=some s:=⟨_,gE (by omega)⟩
  obtain⟨b,o,x,y,z,e1,e2,e3,e4,T⟩:=q.row.at_ A;obtain⟨l1,l2,l3⟩:=yw t A;have hy:=T.len;rw[fG A]at d;unfold nQ at d;obtain⟨u,p1,R,K⟩:=NX H.wf s.f x y z;refine⟨_,da _,_,_,_,q.l3,_,e1,_,e2,_,WL,u,p1,?_⟩;have f:=H.trans R;have L:=q.ok R;have N:=T.ok R;generalize u.app (gg.push RC)=g3 at*;have hw:wrap .i64 (k+(y:Int))=k+(s.arcs.length:Int):=by rw[hy,aB (by omega) (by omega)]
  refine⟨_,iu _ _,_,_,_,K.l1,?_⟩;dsimp only;rw[hw];refine aa (λB=>⟨?_,f⟩) (λB=>?_)
  ·have B:=dT B;rw[<-d,decide_eq_false (show ¬k+(s.arcs.length:Int)<=30000 by omega)];simp
  have B:=dF B;rw[decide_eq_true (show k+(s.arcs.length:Int)<=30000 by omega),Bool.true_and]at d;refine⟨_,nE _ _,_,K.l0,aa (λl=>?_) (λl=>?_)⟩
  ·refine⟨_,dD _,_,L.l0,_,nE _ _,_,K.l0,(m5 M.kind s.f l2 f.wf).mono ?_⟩;rintro _ g4 ⟨rfl,C⟩;have l:(s.f==[])=false:=by simpa using l
   rw[l,Bool.false_or]at d;refine⟨_,rfl,aa (λF=>⟨?_,f.trans C⟩) (λF=>?_)⟩
   ·rw[not_eq_true']at F;rw[<-d,F];simp
   rw[not_eq_false']at F;rw[F,Bool.true_and]at d;exact Kc w t _ A (by omega) (by omega) (by omega) [] S X y (j:=0) ⟨⟨by omega,rfl,L.ok C,f.trans C,N.ok C,by rw[drop_zero];exact d⟩,K.ok C⟩
  ·have l:(s.f==[])=true:=by simpa using l
   rw[l,Bool.true_or,Bool.true_and]at d;exact Kc w t _ A (by omega) (by omega) (by omega) [] S X y (j:=0) ⟨⟨by omega,rfl,L,f,N,by rw[drop_zero];exact d⟩,K⟩
 ·have I:=dF I;refine⟨?_,H⟩;rw[drop_eq_nil_of_le (by omega)]at d;rw[<-d];rfl
end
noncomputable def jz:FD:=cG Tryz.f20 [([1,1,0,1,0,0],[1,2,3]),([1,1,0,1,0,0,1,0,0,1,0,0],[1,2,3,4])]
abbrev jS(k:Nat)(i:Nat):LV:=[(pA k),(.bool false),(iA i)]
abbrev oi(k i:Nat)(j:Nat):LV:=[(pA k),(.bool false),(iA i),(iA j)]
theorem Ym(f:LV)(h:ae)(Q:VH)(g:xN (eK SS.P 29 (.agg ⟨f⟩)) h λ_ e=>lA 29 e (pA (h.next)) λd=>FW SS 26 [(.agg ⟨d⟩)] e λb c=>yB b λa=>au (!a) (Q (.bool false) c) (LL SS jz [1,1,0,1,0,0] (jS (h.next) 0) c (KK SS jz [1,1,0,1,0] [] (EE SS jz Q)))):FW SS 20 [(.agg ⟨f⟩)] h Q:=cQ jz Tryz.func20 (ai g)
theorem Bi(g:LV)(k:Nat)(d:Nat->Nat->ae->Prop)(Q:VH)(step:∀(c:Nat) (i:Nat) (f:Nat->Value) (h:ae),d c i h->fP 29 (pA k) 3 λb=>lL 27 h b λ_ a _=>au (decide (((i:Int):Int)<(a:Int))) (LL SS jz [1,1,0,1,0,0,1,0,0,1,0,0] (oi k i 0) h (KK SS jz [1,0,0,1,0] [1,1,0,1,0,0] (RR jz [1,1,0,1,0,0] (fj (jS k) d) c (KK SS jz [1,1,0,1,0] [] (EE SS jz Q))))) (Q (.bool true) h))(c:Nat){i:Nat}{h:ae}(e:d c i h):LL SS jz [1,1,0,1,0,0] (jS k i) h (KK SS jz [1,1,0,1,0] [] (EE SS jz Q)):=
 dg (jS k) d (λc i f h e=>ai (step c i f h e)) c e
theorem Bj(P:LV)(k:Nat)(C:Nat->Nat->ae->Prop)(E i:Nat)(B:Nat->Nat->ae->Prop)(Q:VH)(step:∀(A:Nat) (j:Nat) (F:Nat->Value) (h:ae),B A j h->fP 29 (pA k) 3 λG=>lL 27 h G λN J M=>iP 27 (.slice N J M) (iA i) λL=>fP 73 (.pointer (some L)) 1 λK=>lL 71 h K λ_ H _=>au (decide (((j:Int):Int)<(H:Int))) (fP 29 (pA k) 3 λO=>lL 27 (room h 21) O λy z I=>iP 27 (.slice y z I) (iA i) λx=>fP 73 (.pointer (some x)) 1 λw=>lL 71 (room h 21) w λt u v=>iP 71 (.slice t u v) (iA j) λs=>fP 70 (.pointer (some s)) 0 λr=>lI (room h 21) r λq=>fP 29 (pA k) 3 λp=>lL 27 (room h 21) p λm n o=>iP 27 (.slice m n o) (iA i) λl=>fP 73 (.pointer (some l)) 1 λg=>lL 71 (room h 21) g λd e f=>iP 71 (.slice d e f) (iA j) λc=>fP 70 (.pointer (some c)) 1 λb=>lI (room h 21) b λa=>au (((q:Int) !=a)) (Q (.bool false) (room h 21)) (aI (fj (oi k i) B) A [(pA k),(.bool false),(iA i),(.int .i64 (wrap .i64 ((j:Int)+1)))] (room h 21))) (aI (fj (jS k) C) E [(pA k),(.bool false),(.int .i64 (wrap .i64 ((i:Int)+1)))] h))(A:Nat){j:Nat}{h:ae}(D:B A j h):LL SS jz [1,1,0,1,0,0,1,0,0,1,0,0] (oi k i j) h (KK SS jz [1,0,0,1,0] [1,1,0,1,0,0] (RR jz [1,1,0,1,0,0] (fj (jS k) C) E (KK SS jz [1,1,0,1,0] [] (EE SS jz Q)))):=
 dg (oi k i) B (λA j F h D=>ai (step A j F h D)) A D
def R1(t:gZ->Bool)(l:List dP):Bool:=l.all λs=>s.arcs.all t
def zg(q:gZ):Bool:=q.i==q.o
def GM(M:bw):Bool:=ca M&&R1 zg M.af
section
section
variable {h:ae} {k:Nat} {M:bw} {a:Option Addr} {n c:Nat}
def iQ(h:ae)(V:Int):VH:=λv a=>v = .int .i64 V/\Ok h a
def ac5(t:gZ->Bool)(h:ae)(k:Nat)(M:bw)(a:Option Addr)(n c:Nat)(V:Bool)(b i:Nat)(g:ae):Prop:=i<=n/\b=n-i/\MB g k M a n c/\Ok h g/\R1 t (M.af.drop i)=V
def tIn(t:gZ->Bool)(h:ae)(k:Nat)(M:bw)(a:Option Addr)(n c:Nat)(s:dP)(i:Nat)(V:Bool)(b j:Nat)(g:ae):Prop:=j<=s.arcs.length/\b=s.arcs.length-j/\MB g k M a n c/\Ok h g/\((s.arcs.drop j).all t&&R1 t (M.af.drop (i+1)))=V
set_option linter.defProp false in
def Uz(w:Wf h)(C:Small M)(V:Bool){s:dP}{i:Nat}(v:M.af[i]?=some s)(L:i<n)(G:List Value)(B:Nat)(O:B=n-i):=
 Bj G k (ac5 zg h k M a n c V) B i (tIn zg h k M a n c s i V) (bQ h V) (by
  intro D j;intros;rename_i g A;obtain⟨f1,X,l,t,f⟩:=A;have Q:n<=300:=by rw[l.len];exact C.bL
  obtain⟨W,l2,U⟩:=yw C v;obtain⟨b,o,J,y,z,p,N,K,r,u⟩:=l.row.at_ v;have R:=u.len;refine⟨_,da _,_,_,_,l.l3,_,p,_,iu _ _,_,_,_,r,aa (λm=>?_) (λm=>?_)⟩
  ·have m:=dT m;obtain⟨q,E⟩:∃q,s.arcs[j]?=some q:=⟨_,gE (by omega)⟩
   have x:=(Ok.refl t.wf).room 21;have e:=l.ok x;obtain⟨b,o,J,y,z,p,N,K,r,u⟩:=e.row.at_ v;obtain⟨Y,Z,F,P,I,H,T,S⟩:=u.at_ E;rw[fG E,all_cons]at f;refine⟨_,da _,_,_,_,e.l3,_,p,_,iu _ _,_,_,_,r,_,F,_,zA _ _,_,I,_,da _,_,_,_,e.l3,_,p,_,iu _ _,_,_,_,r,_,F,_,zB _ _,_,H,aa (λd=>⟨?_,t.trans x⟩) (λd=>?_)⟩
   ·have d:¬q.i=q.o:=by simpa using d
    rw[<-f,show zg q=false by unfold zg;simpa using d];rfl
   ·have d:q.i=q.o:=by simpa using d
    rw[show zg q=true by unfold zg;simpa using d,Bool.true_and]at f;rw[aN (i:=j) (n:=s.arcs.length) (by omega) (by omega)];exact bZ (D-1) (by omega) ⟨by omega,by omega,e,t.trans x,f⟩
  ·have m:=dF m;rw[drop_eq_nil_of_le (by omega)]at f;rw[aN L (by omega)];exact bZ (n-(i+1)) (by omega) ⟨by omega,rfl,l,t,by simpa using f⟩)
theorem NZ{h:ae}(w:Wf h){M:bw}(m:Small M){a:Option Addr}{n c:Nat}(r:dx h (.slice a n c) M.af):FW SS 20 [.agg ⟨bK M a n c⟩] h (λv z=>v = .bool (GM M)/\Ok h z):=by
 obtain⟨e,x⟩:=fo w r;refine Ym (bK M a n c) h _ ⟨_,iH M a n c,_,e.all,(qI x.wf m e.row).mono ?_⟩;generalize h.push (Bm M a n c)=g at*;rintro _ D ⟨rfl,u⟩;have l:=x.trans u;have p:=e.ok u;have C:n<=300:=by rw[e.len];exact m.bL
 refine⟨_,rfl,aa (λq=>⟨?_,l⟩) (λq=>?_)⟩
 ·rw[not_eq_true']at q;unfold GM;rw[q];rfl
 rw[not_eq_false']at q;obtain⟨V,o⟩:∃V,V=R1 zg M.af:=⟨_,rfl⟩
 have:GM M=V:=by unfold GM;rw[q,o];rfl
 rw[this];refine Bi (bK M a n c) h.next (ac5 zg h h.next M a n c V) (bQ h V) (λy i=>?_) n (i:=0) ⟨by omega,rfl,p,l,o.symm⟩;intros;rename_i F B;obtain⟨G,A,b,k,f⟩:=B;have E:=b.len;refine⟨_,da _,_,_,_,b.l3,aa (λd=>?_) (λd=>?_)⟩
 ·have d:=dT d;obtain⟨s,t⟩:∃s,M.af[i]?=some s:=⟨_,gE (by omega)⟩
  rw[fG t]at f;exact Uz w m V t (by omega) [] y A s.arcs.length (j:=0) ⟨by omega,by omega,b,k,by rw[drop_zero];exact f⟩
 ·have d:=dF d;rw[drop_eq_nil_of_le (by omega)]at f;exact⟨by rw[<-f];rfl,k⟩
end
end
theorem Du(a:Option Addr)(n c:Nat):dO (.slice a n c)=true:=by cases a<;>rfl
variable{j:Nat}{h:ae}
theorem G1{l:List A}{x y:A}(h:(l.set i x)[j]?=some y):(j=i/\y=x)\/(j≠i/\l[j]?=some y):=by
 rw[List.getElem?_set]at h;split at h
 ·next e=>
  split at h
  ·exact .inl ⟨e.symm,(oI h).symm⟩
  ·cases h
 ·next e=>exact .inr ⟨λc=>e c.symm,h⟩
theorem NT(w:Wf h){n j:Nat}(a:j<n)(B:dS):Ok h (cj (Go.Ab.room h n) h.next [(j,B)])/\(cj (Go.Ab.room h n) h.next [(j,B)]).get (h.next+j)=some B:=by
 refine⟨((Ok.refl w).room n).set B (Nat.le_add_right _ _) (Nat.add_lt_add_left a _) w,?_⟩;show((Go.Ab.room h n).set (h.next+j) B).get (h.next+j)=_;rw[ae.aw,if_pos rfl]
variable{n:Nat}{T:TypeId}{m:Nat}{b:Bool}
section
noncomputable def aaX:TypeInfo:=(eS SS.P 73).getD default
theorem Yq:eS SS.P 73=some aaX:=by kernel_rfl
theorem QB:aaX.size=2:=by kernel_rfl
theorem Mw:aaX.bytes=40:=by kernel_rfl
noncomputable def aaW:TypeInfo:=(eS SS.P 70).getD default
theorem Yp:eS SS.P 70=some aaW:=by kernel_rfl
theorem QA:aaW.size=4:=by kernel_rfl
theorem Mv:aaW.bytes=40:=by kernel_rfl
theorem aev:dW SS.P 27=true:=by kernel_rfl
theorem aew:dW SS.P 71=true:=by kernel_rfl
theorem adJ(f:List UInt8)(a:Option Addr)(n c:Nat):aF SS.P 27 1 [(0,.agg ⟨[strOf f,.slice a n c]⟩)]=some (.cells [strOf f,.slice a n c] 73 2 true,mL 1 1):=by cases a<;>kernel_rfl
theorem adK(q:gZ):aF SS.P 71 1 [(0,.agg ⟨fE q⟩)]=some (.cells (fE q) 70 4 true,mL 1 1):=by kernel_rfl
theorem IH(q:gZ):(fE q).length=4:=rfl
structure ke(h0 h:ae)(v:Value)(ps:List (dP×Value)):Prop where
 row:fh h0 h 73 2 v (ps.map uL)
 arcs:∀(i:Nat)(p:dP×Value),ps[i]?=some p->fh h0 h 70 4 p.2 (p.1.arcs.map fE)
 ne:∀(i:Nat)(p:dP×Value),ps[i]?=some p->∀k,eZ p.2=some k->eZ v≠some k
 Zw:∀(i j:Nat)(p q:dP×Value),i≠j->ps[i]?=some p->ps[j]?=some q->∀k,eZ p.2=some k->eZ q.2≠some k
section
variable {hb g g':ae} {v:Value} {ps:List (dP×Value)}
theorem ke.ok(m:ke hb g v ps)(o:Ok g g'):ke hb g' v ps:=⟨m.row.ok o,λi p a=>(m.arcs i p a).ok o,m.ne,m.Zw⟩
theorem ke.nd(m:ke hb g v ps):v≠vx:=by
 obtain⟨_,⟨a,_⟩|⟨k,b,cs,c,a,_⟩⟩:=m.row
 ·rw[a];intro e;unfold vx at e;injection e with e _ _;cases e
 ·rw[a];intro e;unfold vx at e;injection e with e _ _;injection e with e;injection e with _ _ e;cases e
theorem ke.st(m:ke hb g v ps):dx g v (ps.map (·.1)):=
 ⟨ps,rfl,m.row.rd,λp b=>by
  obtain⟨i,a,e⟩:=List.mem_iff_getElem.1 b;exact(m.arcs i p (by rw[gE a,e])).rd,m.nd⟩
theorem ke.nil(hb g:ae):ke hb g (.slice none 0 0) []:=⟨fh.nil _ _ _ _,λi p a=>by simp at a,λi p a=>by simp at a,λi j p q _ a=>by simp at a⟩
theorem BR{cs:List Value}{z:Nat}(a:g.get n=some (.cells cs T z b))(c:cs.length=m):fQ g m (.slice (some ⟨n,0,none⟩) 1 1)=some (([cs]:List (List Value)).flatten,1):=by
 show(match g.get n with|some (.cells cs ..)=>if((cs.drop 0).take (1*m)).length=1*m then some ((cs.drop 0).take (1*m),1)else none|_=>none)=_;rw[a];dsimp only;rw[drop_zero,Nat.one_mul,take_of_length_le (by omega),if_pos c];simp
theorem ke.snoc(w:Wf hb)(C:Ok hb g)(m:ke hb g v ps){f:List UInt8}{a:Option Addr}{y z:Nat}{arcs:List gZ}(F:fh hb g 70 4 (.slice a y z) (arcs.map fE))(t:∀k,eZ (.slice a y z)=some k->eZ v≠some k/\∀(i:Nat) (p:dP×Value),ps[i]?=some p->eZ p.2≠some k){H:Nat}(E:g.get H=some (.cells [strOf f,.slice a y z] 73 2 true))(Q:ps.length<=100000):
  ∃(b:Option Addr)(n c:Nat)(u:dM),bI SS.P 27 27 v (.slice (some ⟨H,0,none⟩) 1 1) g=some (.slice b n c,u)/\ke hb (u.app g) (.slice b n c) (ps++[(⟨f,arcs⟩,.slice a y z)])/\Ok hb (u.app g)/\
   (∀j B,g.get j=some B->eZ v≠some j->(u.app g).get j=some B)/\(∀j,eZ (.slice b n c)=some j->g.next<=j\/eZ v=some j)/\g.next<=(u.app g).next:=by
 have s:(ps.map uL).length=ps.length:=lM ..;obtain⟨b,n,c,u,K,R,J,M,D,A,L⟩:=fh.add zY Yq QB aev w C m.row (ns:=[[strOf f,.slice a y z]]) (BR E rfl) (λr O=>by rw[mem_singleton.1 O];rfl) (by cases a<;>rfl) (by rw[Mw,s,List.length_singleton];omega) (by rw[s,List.length_singleton];omega) (.inl (Nat.le_refl _));refine⟨b,n,c,u,K,⟨by rw[List.map_append];exact J,λi p d=>?_,λi p d k l=>?_,λi j p q G d o k l=>?_⟩,M,D,A,L⟩
 ·rw[List.getElem?_append]at d;split at d
  ·exact(m.arcs i p d).kF λk B l x=>D k B x (m.ne i p d k l)
  ·obtain rfl:=(mem_singleton.1 (List.mem_of_getElem? d))
   exact F.kF λk B l x=>D k B x (t k l).1
 ·intro e;rw[List.getElem?_append]at d;split at d
  ·rcases A k e with h|h
   ·have:=((m.arcs i p d).lt C.wf l).1;omega
   ·exact m.ne i p d k l h
  ·obtain rfl:=(mem_singleton.1 (List.mem_of_getElem? d))
   rcases A k e with h|h
   ·have:=(F.lt C.wf l).1;omega
   ·exact(t k l).1 h
 ·rw[List.getElem?_append]at d o;split at d<;>split at o
  ·exact m.Zw i j p q G d o k l
  ·obtain rfl:=(mem_singleton.1 (List.mem_of_getElem? o))
   exact λe=>(t k e).2 i p d l
  ·obtain rfl:=(mem_singleton.1 (List.mem_of_getElem? d))
   exact(t k l).2 j q o
  ·rename_i S P;have I:=(List.getElem?_eq_some_iff.1 d).1;have N:=(List.getElem?_eq_some_iff.1 o).1;simp at I N;omega
theorem R6(w:Wf hb)(m:Ok hb g){x:Value}{a:List gZ}(k:fh hb g 70 4 x (a.map fE)){q:gZ}{f:Nat}(e:g.get f=some (.cells (fE q) 70 4 true))(p:a.length<=100000):
  ∃(b:Option Addr)(n c:Nat)(u:dM),bI SS.P 71 71 x (.slice (some ⟨f,0,none⟩) 1 1) g=some (.slice b n c,u)/\fh hb (u.app g) 70 4 (.slice b n c) ((a++[q]).map fE)/\Ok hb (u.app g)/\
   (∀j B,g.get j=some B->eZ x≠some j->(u.app g).get j=some B)/\(∀j,eZ (.slice b n c)=some j->g.next<=j\/eZ x=some j)/\g.next<=(u.app g).next:=by
 have d:(a.map fE).length=a.length:=lM ..;obtain⟨b,n,c,u,i,s,h,l⟩:=fh.add Va Yp QA aew w m k (ns:=[fE q]) (BR e rfl) (λr o=>by rw[mem_singleton.1 o];rfl) rfl (by rw[Mv,d,List.length_singleton];omega) (by rw[d,List.length_singleton];omega) (.inl (Nat.le_refl _));exact⟨b,n,c,u,i,by rw[List.map_append];exact h,l⟩
end
end
noncomputable def aa1:FD:=cG Tryz.f70 []
theorem Yy(i:Int)(h:ae)(Q:VH)(j:FW SS 69 [(.int .i64 i)] h λg h=>∃f:LV,∃e:Bool,g=(.tuple ⟨[(.agg ⟨f⟩),(.bool e)]⟩)/\xN (br SS.P 99) h λ_ d=>xU (ah SS.P 99 (pA (h.next)) (.agg ⟨f⟩) d) d λ_ c=>fP 99 (pA (h.next)) 1 λb=>lS c b λa=>Q (strOf a) c):FW SS 70 [(.int .i64 i)] h Q:=cQ aa1 Tryz.func70 (ai j)
noncomputable def aaT:FD:=cG Tryz.f22 []
theorem Yn(d:Int)(h:ae)(Q:VH)(e:FW SS 14 [(.int .i64 d)] h λb c=>yB b λa=>au (!a) (Q (strOf []) c) (au (((d:Int)==1)) (Q (strOf [48]) c) (Q (strOf [49]) c))):FW SS 22 [(.int .i64 d)] h Q:=cQ aaT Tryz.func22 (ai e)
section
section
variable {hb g g':ae} {k off n c:Nat} {ps:List (dP×Value)}
theorem C1{ps:List (dP×Value)}(p:dP×Value):(ps.set i p).map uL=(ps.map uL).set i (uL p):=by rw[List.map_set]
theorem ke.acY(w:Wf hb)(K:Ok hb g)(m:ke hb g (.slice (some ⟨k,off,none⟩) n c) ps){i:Nat}{p:dP×Value}(C:ps[i]?=some p)(f:List UInt8):
  ∃u:dM,ah SS.P 9 (.pointer (some ⟨k,off+i*2+0,none⟩)) (strOf f) g=some (undef,u)/\ke hb (u.app g) (.slice (some ⟨k,off,none⟩) n c) (ps.set i (⟨f,p.1.arcs⟩,p.2))/\Ok hb (u.app g)/\(∀j B,g.get j=some B->k≠j->(u.app g).get j=some B)/\(u.app g).next=g.next:=by
 obtain⟨u,H,I,F,A,M⟩:=m.row.put (e:=73) (t':=9) (by kernel_rfl) w K (i:=i) (j:=0) (r:=uL p) (by rw[getElem?_map,C];rfl) (by omega) (v':=strOf f) rfl rfl;have h:∀{j:Nat}{q:dP×Value},(ps.set i (⟨f,p.1.arcs⟩,p.2))[j]?=some q->∃d,ps[j]?=some d/\q.2=d.2/\q.1.arcs=d.1.arcs:=λ{j q} b=>by
  rw[List.getElem?_set]at b;split at b
  ·next e=>
   subst e;split at b
   ·obtain rfl:=oI b;exact⟨p,C,rfl,rfl⟩
   ·cases b
  ·exact⟨q,b,rfl,rfl⟩
 refine⟨u,H,⟨by rw[C1];exact I,λj q b=>?_,λj q b l a=>?_,λG N Q O z v D l a=>?_⟩,F,A,M⟩
 ·obtain⟨d,o,s,t⟩:=h b;rw[s,t];exact(m.arcs j d o).kF λl B a E=>A l B E (λe=>m.ne j d o l a (by rw[<-e];rfl))
 ·obtain⟨d,o,s,t⟩:=h b;rw[s]at a;exact m.ne j d o l a
 ·obtain⟨x,o,s,t⟩:=h v;obtain⟨y,J,L,P⟩:=h D;rw[s]at a;rw[L];exact m.Zw G N x y z o J l a
theorem ke.aen(w:Wf hb)(I:Ok hb g')(m:ke hb g (.slice (some ⟨k,off,none⟩) n c) ps){i:Nat}{p:dP×Value}(v:ps[i]?=some p)(H:∀j B,g.get j=some B->eZ p.2≠some j->g'.get j=some B){b:Option Addr}{o l:Nat}{s:List gZ}(Y:fh hb g' 70 4 (.slice b o l) (s.map fE))(L:∀j,eZ (.slice b o l)=some j->g.next<=j\/eZ p.2=some j)(J:Wf g):
  ∃u:dM,ah SS.P 71 (.pointer (some ⟨k,off+i*2+1,none⟩)) (.slice b o l) g'=some (undef,u)/\ke hb (u.app g') (.slice (some ⟨k,off,none⟩) n c) (ps.set i (⟨p.1.f,s⟩,.slice b o l))/\Ok hb (u.app g')/\(∀j B,g'.get j=some B->k≠j->(u.app g').get j=some B)/\(u.app g').next=g'.next:=by
 have P:eZ p.2≠some k:=λe=>m.ne i p v k e rfl;have D:fh hb g' 73 2 (.slice (some ⟨k,off,none⟩) n c) (ps.map uL):=m.row.kF λd B a y=>H d B y (λe=>m.ne i p v d e a);obtain⟨u,U,W,R,E,h5⟩:=D.put (e:=73) (t':=71) (by kernel_rfl) w I (i:=i) (j:=1) (r:=uL p) (by rw[getElem?_map,v];rfl) (by omega) (v':= .slice b o l) (Du ..) (by cases b<;>rfl);have x0:i<ps.length:=(List.getElem?_eq_some_iff.1 v).1;have C:eZ (.slice b o l)≠some k:=λe=>by
  rcases L k e with h|h
  ·have:=(m.row.lt J (k:=k) rfl).1;omega
  ·exact P h
 have t:∀{j:Nat}{q:dP×Value},(ps.set i (⟨p.1.f,s⟩,.slice b o l))[j]?=some q->(j=i/\q=(⟨p.1.f,s⟩,.slice b o l))\/(j≠i/\ps[j]?=some q):=λ{j q} f=>by
  rcases G1 f with⟨e,F⟩|⟨e,f⟩
  ·exact .inl ⟨e,F⟩
  ·exact .inr ⟨e,f⟩
 have z:∀{j:Nat}{q:dP×Value},j≠i->ps[j]?=some q->∀d,eZ q.2=some d->eZ (.slice b o l)≠some d:=λ{j q} x f d a e=>by
  rcases L d e with h|h
  ·have:=((m.arcs j q f).lt J a).1;omega
  ·exact m.Zw j i q p x f v d a h
 refine⟨u,U,⟨by rw[C1];exact W,λj q f=>?_,λj q f d a=>?_,λS j2 Z T A G N d a=>?_⟩,R,E,h5⟩
 ·rcases t f with⟨rfl,rfl⟩|⟨x,f⟩
  ·exact Y.kF λd B a y=>E d B y (λe=>C (by rw[e];exact a))
  ·exact(m.arcs j q f).kF λd B a y=>E d B (H d B y (λe=>m.Zw j i q p x f v d a e)) (λe=>m.ne j q f d a (by rw[<-e];rfl))
 ·rcases t f with⟨rfl,rfl⟩|⟨x,f⟩
  ·exact λe=>C (by rw[a,<-e];rfl)
  ·exact m.ne j q f d a
 ·rcases t G with⟨Q,F⟩|⟨x,O⟩<;>rcases t N with⟨V,X⟩|⟨M,K⟩
  ·exact absurd (Q.trans V.symm) A
  ·rw[F]at a;exact λe=>z M K d e a
  ·rw[X];exact z x O d a
  ·exact m.Zw S j2 Z T A O K d a
theorem ke.at_(m:ke hb g (.slice (some ⟨k,off,none⟩) n c) ps){i:Nat}{p:dP×Value}(e:ps[i]?=some p):
  aA SS.P 27 (.slice (some ⟨k,off,none⟩) n c) (.int .i64 (i:Int))=some (.pointer (some ⟨k,off+i*2,none⟩))/\aj SS.P 71 g (.pointer (some ⟨k,off+i*2+1,none⟩))=some p.2/\aj SS.P 73 g (.pointer (some ⟨k,off+i*2,none⟩))=some (.agg ⟨uL p⟩):=by
 obtain⟨b,d,a⟩:=m.row.at_ zY Vu (i:=i) (r:=uL p) (by rw[getElem?_map,e];rfl) .i64;exact⟨b,by rw[d 71 _ 1 Va Z4 (by omega)];rfl,a _ adj abE⟩
end
end
variable{g:ae}{v:Value}
def mQ:dS:= .cells [.int .i64 0,.int .i64 0,strOf [],.slice none 0 0] 29 0 true
theorem qC:br SS.P 29=some (mQ,k6):=by kernel_rfl
theorem uA(M:bw)(a:Option Addr)(n c:Nat):(bK M a n c).all dO=true:=by cases a<;>rfl
theorem ke.low{t b:ae}{s:List (dP×Value)}(m:ke g t v s)(o:Ok h g)(w:∀j B,t.get j=some B->g.next<=j->b.get j=some B):ke h b v s:=by
 have a:∀{e:TypeId}{d:Nat}{v:Value}{f:List (List Value)},fh g t e d v f->fh h b e d v f:=λ{e d v f} r=>by
  obtain⟨l,r|⟨k,n,cs,c,x,q,u,y⟩⟩:=r
  ·exact⟨l,.inl r⟩
  ·exact⟨l,.inr ⟨k,n,cs,c,x,Nat.le_trans o.nx q,w _ _ u q,y⟩⟩
 exact⟨a m.row,λi p z=>a (m.arcs i p z),m.ne,m.Zw⟩
def dN(a:Int):List UInt8:=if a=1 then[48]else if a=2\/a=3 then[49]else[]
theorem aaz(k:Nat):aG SS.P 99 (.pointer (some ⟨k,0,none⟩)) 1=some (.pointer (some ⟨k,1,none⟩)):=by kernel_rfl
theorem Yz(a:Int){h:ae}(w:Wf h):FW SS 70 [.int .i64 a] h (λv s=>v=strOf (dN a)/\Ok h s):=by
 refine Yy a h _ ((Dv a w).mono ?_);rintro _ g ⟨rfl,o⟩;have d:∀(c:List Value)(b:Bool),c.length=8->c.all dO=true->c.getD 1 undef=strOf (dN a)->∃cs:List Value,∃t:Bool,(Value.tuple ⟨[.agg ⟨c⟩,.bool b]⟩)=(.tuple ⟨[.agg ⟨cs⟩,.bool t]⟩)/\∃B:dS,br SS.P 99=some (B,k6)/\∃u:dM,ah SS.P 99 (.pointer (some ⟨g.next,0,none⟩)) (.agg ⟨cs⟩) (g.push B)=some (undef,u)/\∃p:Addr,aG SS.P 99 (.pointer (some ⟨g.next,0,none⟩)) 1=some (.pointer (some p))/\∃l:List UInt8,aj SS.P 9 (u.app (g.push B)) (.pointer (some p))=some (strOf l)/\(strOf l=strOf (dN a)/\Ok h (u.app (g.push B))):=by
  intro c b n q r;have j:=aJ g KQ;have k:=(Ok.refl o.wf).push KQ;obtain⟨x,m⟩:=ph (cs:=c) o.wf k j (Nat.le_refl _);refine⟨c,b,rfl,KQ,RZ,_,kS DJ rfl j n q,_,aaz _,dN a,?_,rfl,o.trans x⟩;rw[cq KV Rx m (by omega),r]
 unfold X7;split
 ·next e=>exact d yk true rfl rfl (by unfold dN;rw[if_pos e];rfl)
 ·next e=>
  split
  ·next f=>exact d yl true rfl rfl (by unfold dN;rw[if_neg e,if_pos (.inl f)];rfl)
  ·next f=>
   split
   ·next i=>exact d ym true rfl rfl (by unfold dN;rw[if_neg e,if_pos (.inr i)];rfl)
   ·next i=>exact d nt false rfl rfl (by unfold dN;rw[if_neg e,if_neg (by rintro(h|h)<;>contradiction)];rfl)
theorem N2(a:Int)(h:ae):FW SS 22 [.int .i64 a] h (λv c=>v=strOf (dN a)/\c=h):=by
 refine Yn a h _ ((pV a h).mono ?_);rintro _ g ⟨rfl,rfl⟩;refine⟨_,rfl,aa (λq=>?_) (λq=>?_)⟩
 ·refine⟨?_,rfl⟩;simp at q;unfold dN;rw[if_neg (by omega),if_neg (by omega)]
 ·simp at q;refine aa (λb=>?_) (λb=>?_)
  ·have b:a=1:=by simpa using b
   refine⟨?_,rfl⟩;unfold dN;rw[if_pos b]
  ·have b:¬a=1:=by simpa using b
   refine⟨?_,rfl⟩;unfold dN;rw[if_neg b,if_pos (by omega)]
def Bn(h:ae)(R:bw×Int):VH:=λv b=>∃(a:Option Addr)(n c:Nat)(d:List (dP×Value)),v = .tuple ⟨[.agg ⟨bK R.1 a n c⟩,.int .i64 R.2]⟩/\d.map (·.1)=R.1.af/\ke h b (.slice a n c) d/\Ok h b
def sN:bw:=⟨0,0,[],[]⟩
theorem aam:bh SS.P 29 []=some (.agg ⟨bK sN none 0 0⟩):=by kernel_rfl
theorem N5(w:Wf h)(o:Ok h g){k:Nat}(f:g.get k=some mQ)(i:h.next<=k){R:bw×Int}{a:Option Addr}{n c:Nat}{ps:List (dP×Value)}(e:ps.map (·.1)=R.1.af){d:ae}(q:ke d g (.slice a n c) ps)(r:Ok h d)(b:k<d.next\/ps=[]/\a=none/\n=0/\c=0):
  ∃u:dM,ah SS.P 29 (.pointer (some ⟨k,0,none⟩)) (.agg ⟨bK R.1 a n c⟩) g=some (undef,u)/\dY SS [(.pointer (some ⟨k,0,none⟩),some 29),(.int .i64 R.2,none)] (u.app g) (Bn h R):=by
 refine⟨_,kS (t:=29) tX (cs0:=[.int .i64 0,.int .i64 0,strOf [],.slice none 0 0]) rfl f (cs:=bK R.1 a n c) rfl (uA ..),?_⟩;obtain⟨l,m⟩:=ph (cs:=bK R.1 a n c) w o f i;refine xj (v:= .agg ⟨bK R.1 a n c⟩) (o0 M4 Lj tX m (by simp[bK])) ⟨a,n,c,ps,rfl,e,?_,l⟩;rcases b with b|⟨rfl,rfl,rfl,rfl⟩
 ·exact q.low r (λj B p s=>by
   show(g.set k _).get j=_;rw[ae.aw,if_neg (by omega)];exact p)
 ·exact ke.nil _ _
theorem YF(w:Wf h){n j:Nat}(b:j<n)(o:Ok (Go.Ab.room h n) g)(B:dS):Ok h (cj g h.next [(j,B)])/\(cj g h.next [(j,B)]).get (h.next+j)=some B:=by
 have a:h.next+n<=g.next:=o.nx;refine⟨(((Ok.refl w).room n).trans o).set B (Nat.le_add_right _ _) (by omega) w,?_⟩;show(g.set (h.next+j) B).get (h.next+j)=_;rw[ae.aw,if_pos rfl]
noncomputable def Um:FD:=cG Tryz.f103 []
theorem Qd(s:Bool)(n d:LB)(h:ae)(Q:VH)(z:FW SS 136 [(strOf n)] h λx y=>yB x λw=>au (!w) (Q (.tuple ⟨[(strOf []),(.int .i64 1)]⟩) y) (FW SS 136 [(strOf d)] y λu v=>yB u λt=>au (!t) (Q (.tuple ⟨[(strOf []),(.int .i64 1)]⟩) v) (au ((d:LB)==[48]) (Q (.tuple ⟨[(strOf []),(.int .i64 1)]⟩) v) (FW SS 118 [(strOf n),(strOf d)] v λq r=>∃p:LB,∃o:Int,q=(.tuple ⟨[(strOf p),(.int .i64 o)]⟩)/\FW SS 137 [(strOf n),(strOf p)] r λl m=>∃k:LB,∃j:LB,∃i:Int,l=(.tuple ⟨[(strOf k),(strOf j),(.int .i64 i)]⟩)/\FW SS 137 [(strOf d),(strOf p)] m λg h=>∃f:LB,∃e:LB,∃d:Int,g=(.tuple ⟨[(strOf f),(strOf e),(.int .i64 d)]⟩)/\au (decide ((((k:LB).length:Int):Int)>400)) (Q (.tuple ⟨[(strOf []),(.int .i64 2)]⟩) h) (au (decide ((((f:LB).length:Int):Int)>400)) (Q (.tuple ⟨[(strOf []),(.int .i64 2)]⟩) h) (au s (au (!((k:LB)==[48])) (xS (ay SS.P .add 9 (strOf [45]) (strOf k)) λc=>au ((f:LB)==[49]) (Q (.tuple ⟨[(strOf c),(.int .i64 0)]⟩) h) (xS (ay SS.P .add 9 (strOf c) (strOf [47])) λb=>xS (ay SS.P .add 9 (strOf b) (strOf f)) λa=>Q (.tuple ⟨[(strOf a),(.int .i64 0)]⟩) h)) (au ((f:LB)==[49]) (Q (.tuple ⟨[(strOf k),(.int .i64 0)]⟩) h) (xS (ay SS.P .add 9 (strOf k) (strOf [47])) λb=>xS (ay SS.P .add 9 (strOf b) (strOf f)) λa=>Q (.tuple ⟨[(strOf a),(.int .i64 0)]⟩) h))) (au ((f:LB)==[49]) (Q (.tuple ⟨[(strOf k),(.int .i64 0)]⟩) h) (xS (ay SS.P .add 9 (strOf k) (strOf [47])) λb=>xS (ay SS.P .add 9 (strOf b) (strOf f)) λa=>Q (.tuple ⟨[(strOf a),(.int .i64 0)]⟩) h)))))))):FW SS 103 [(.bool s),(strOf n),(strOf d)] h Q:=cQ Um Tryz.func103 (ai z)
noncomputable def Yk:FD:=cG Tryz.f105 []
theorem Up(a:LB)(h:ae)(Q:VH)(k:FW SS 94 [(strOf a)] h λi j=>∃h:Bool,∃g:LB,∃f:LB,∃e:Bool,i=(.tuple ⟨[(.bool h),(strOf g),(strOf f),(.bool e)]⟩)/\au (!e) (Q (.tuple ⟨[(strOf []),(.int .i64 1)]⟩) j) (FW SS 103 [(.bool (!h)),(strOf g),(strOf f)] j λc d=>∃b:LB,∃a:Int,c=(.tuple ⟨[(strOf b),(.int .i64 a)]⟩)/\Q (.tuple ⟨[(strOf b),(.int .i64 a)]⟩) d)):FW SS 105 [(strOf a)] h Q:=cQ Yk Tryz.func105 (ai k)
noncomputable def Yh:FD:=cG Tryz.f85 []
theorem Uj(a b:LB)(h:ae)(Q:VH)(B:FW SS 94 [(strOf a)] h λD C=>∃A:Bool,∃z:LB,∃y:LB,∃x:Bool,D=(.tuple ⟨[(.bool A),(strOf z),(strOf y),(.bool x)]⟩)/\FW SS 94 [(strOf b)] C λv w=>∃u:Bool,∃t:LB,∃s:LB,∃r:Bool,v=(.tuple ⟨[(.bool u),(strOf t),(strOf s),(.bool r)]⟩)/\au (!x) (Q (.tuple ⟨[(strOf []),(.int .i64 1)]⟩) w) (au (!r) (Q (.tuple ⟨[(strOf []),(.int .i64 1)]⟩) w) (FW SS 96 [(strOf z),(strOf s)] w λp q=>yS p λo=>FW SS 96 [(strOf t),(strOf y)] q λm n=>yS m λl=>FW SS 95 [(.bool A),(strOf o),(.bool u),(strOf l)] n λj k=>∃i:Bool,∃h:LB,j=(.tuple ⟨[(.bool i),(strOf h)]⟩)/\FW SS 96 [(strOf y),(strOf s)] k λf g=>yS f λe=>FW SS 103 [(.bool i),(strOf h),(strOf e)] g λc d=>∃b:LB,∃a:Int,c=(.tuple ⟨[(strOf b),(.int .i64 a)]⟩)/\Q (.tuple ⟨[(strOf b),(.int .i64 a)]⟩) d))):FW SS 85 [(strOf a),(strOf b)] h Q:=cQ Yh Tryz.func85 (ai B)
noncomputable def Yl:FD:=cG Tryz.f91 []
theorem Ur(a b:LB)(h:ae)(Q:VH)(l:FW SS 105 [(strOf b)] h λj k=>∃i:LB,∃h:Int,j=(.tuple ⟨[(strOf i),(.int .i64 h)]⟩)/\au (((h:Int) !=0)) (Q (.tuple ⟨[(strOf []),(.int .i64 1)]⟩) k) (FW SS 71 [(strOf a)] k λf g=>yB f λe=>au (!e) (Q (.tuple ⟨[(strOf []),(.int .i64 1)]⟩) g) (FW SS 85 [(strOf a),(strOf i)] g λc d=>∃b:LB,∃a:Int,c=(.tuple ⟨[(strOf b),(.int .i64 a)]⟩)/\Q (.tuple ⟨[(strOf b),(.int .i64 a)]⟩) d))):FW SS 91 [(strOf a),(strOf b)] h Q:=cQ Yl Tryz.func91 (ai l)
noncomputable def Yj:FD:=cG Tryz.f88 []
theorem Un(a b:LB)(h:ae)(Q:VH)(w:FW SS 94 [(strOf a)] h λu v=>∃t:Bool,∃s:LB,∃r:LB,∃q:Bool,u=(.tuple ⟨[(.bool t),(strOf s),(strOf r),(.bool q)]⟩)/\FW SS 94 [(strOf b)] v λo p=>∃n:Bool,∃m:LB,∃l:LB,∃k:Bool,o=(.tuple ⟨[(.bool n),(strOf m),(strOf l),(.bool k)]⟩)/\au (!q) (Q (.tuple ⟨[(strOf []),(.int .i64 1)]⟩) p) (au (!k) (Q (.tuple ⟨[(strOf []),(.int .i64 1)]⟩) p) (FW SS 96 [(strOf s),(strOf m)] p λi j=>yS i λh=>FW SS 96 [(strOf r),(strOf l)] j λf g=>yS f λe=>FW SS 103 [(.bool (!(t==n))),(strOf h),(strOf e)] g λc d=>∃b:LB,∃a:Int,c=(.tuple ⟨[(strOf b),(.int .i64 a)]⟩)/\Q (.tuple ⟨[(strOf b),(.int .i64 a)]⟩) d))):FW SS 88 [(strOf a),(strOf b)] h Q:=cQ Yj Tryz.func88 (ai w)
noncomputable def Yi:FD:=cG Tryz.f92 []
theorem Uk(a b:LB)(h:ae)(Q:VH)(w:FW SS 94 [(strOf a)] h λu v=>∃t:Bool,∃s:LB,∃r:LB,∃q:Bool,u=(.tuple ⟨[(.bool t),(strOf s),(strOf r),(.bool q)]⟩)/\FW SS 94 [(strOf b)] v λo p=>∃n:Bool,∃m:LB,∃l:LB,∃k:Bool,o=(.tuple ⟨[(.bool n),(strOf m),(strOf l),(.bool k)]⟩)/\au (!q) (Q (.tuple ⟨[(strOf []),(.int .i64 1)]⟩) p) (au (!k) (Q (.tuple ⟨[(strOf []),(.int .i64 1)]⟩) p) (au ((m:LB)==[48]) (Q (.tuple ⟨[(strOf []),(.int .i64 4)]⟩) p) (FW SS 96 [(strOf s),(strOf l)] p λi j=>yS i λh=>FW SS 96 [(strOf r),(strOf m)] j λf g=>yS f λe=>FW SS 103 [(.bool (!(t==n))),(strOf h),(strOf e)] g λc d=>∃b:LB,∃a:Int,c=(.tuple ⟨[(strOf b),(.int .i64 a)]⟩)/\Q (.tuple ⟨[(strOf b),(.int .i64 a)]⟩) d)))):FW SS 92 [(strOf a),(strOf b)] h Q:=cQ Yi Tryz.func92 (ai w)
noncomputable def Uv:FD:=cG Tryz.f18 []
theorem Qi(d:Int)(h:ae)(Q:VH)(e:FW SS 14 [(.int .i64 d)] h λb c=>yB b λa=>au (!a) (Q (strOf []) c) (au (((d:Int)==1)) (Q (strOf [105,110,102]) c) (Q (strOf [48]) c))):FW SS 18 [(.int .i64 d)] h Q:=cQ Uv Tryz.func18 (ai e)
noncomputable def JW:FD:=cG Tryz.f90 []
theorem Hy(a b:LB)(h:ae)(Q:VH)(d:au ((a:LB)==b) (Q (.int .i64 0) h) (au ((a:LB)==[45,105,110,102]) (Q (.int .i64 (-1)) h) (au ((b:LB)==[105,110,102]) (Q (.int .i64 (-1)) h) (au ((a:LB)==[105,110,102]) (Q (.int .i64 1) h) (au ((b:LB)==[45,105,110,102]) (Q (.int .i64 1) h) (FW SS 72 [(strOf a),(strOf b)] h λb c=>yI .i64 b λa=>Q (.int .i64 a) c)))))):FW SS 90 [(strOf a),(strOf b)] h Q:=cQ JW Tryz.func90 (ai d)
noncomputable def Mj:FD:=cG Tryz.f84 []
theorem JU(j:Int)(a b:LB)(h:ae)(Q:VH)(k:FW SS 47 [(.int .i64 j),(strOf a)] h λh i=>yB h λg=>au (!g) (Q (.int .i64 0) i) (FW SS 47 [(.int .i64 j),(strOf b)] i λe f=>yB e λd=>au (!d) (Q (.int .i64 0) f) (au (((j:Int)==1)) (FW SS 90 [(strOf a),(strOf b)] f λb c=>yI .i64 b λa=>Q (.int .i64 a) c) (FW SS 90 [(strOf b),(strOf a)] f λb c=>yI .i64 b λa=>Q (.int .i64 a) c)))):FW SS 84 [(.int .i64 j),(strOf a),(strOf b)] h Q:=cQ Mj Tryz.func84 (ai k)
noncomputable def Ut:FD:=cG Tryz.f62 []
theorem Qe(l:Int)(a b:LB)(h:ae)(Q:VH)(m:FW SS 47 [(.int .i64 l),(strOf a)] h λj k=>yB j λi=>au (!i) (Q (.tuple ⟨[(strOf []),(.int .i64 1)]⟩) k) (FW SS 47 [(.int .i64 l),(strOf b)] k λg h=>yB g λf=>au (!f) (Q (.tuple ⟨[(strOf []),(.int .i64 1)]⟩) h) (au (((l:Int) !=2)) (FW SS 84 [(.int .i64 l),(strOf b),(strOf a)] h λd e=>yI .i64 d λc=>au (decide ((c:Int)<0)) (Q (.tuple ⟨[(strOf b),(.int .i64 0)]⟩) e) (Q (.tuple ⟨[(strOf a),(.int .i64 0)]⟩) e)) (au ((a:LB)==[105,110,102]) (Q (.tuple ⟨[(strOf [105,110,102]),(.int .i64 0)]⟩) h) (au ((b:LB)==[105,110,102]) (Q (.tuple ⟨[(strOf [105,110,102]),(.int .i64 0)]⟩) h) (FW SS 85 [(strOf a),(strOf b)] h λc d=>∃b:LB,∃a:Int,c=(.tuple ⟨[(strOf b),(.int .i64 a)]⟩)/\Q (.tuple ⟨[(strOf b),(.int .i64 a)]⟩) d)))))):FW SS 62 [(.int .i64 l),(strOf a),(strOf b)] h Q:=cQ Ut Tryz.func62 (ai m)
noncomputable def Qh:FD:=cG Tryz.f65 []
theorem Mk(n:Int)(a b:LB)(h:ae)(Q:VH)(o:FW SS 47 [(.int .i64 n),(strOf a)] h λl m=>yB l λk=>au (!k) (Q (.tuple ⟨[(strOf []),(.int .i64 1)]⟩) m) (FW SS 47 [(.int .i64 n),(strOf b)] m λi j=>yB i λh=>au (!h) (Q (.tuple ⟨[(strOf []),(.int .i64 1)]⟩) j) (FW SS 18 [(.int .i64 n)] j λf g=>yS f λe=>au ((a:LB)==e) (Q (.tuple ⟨[(strOf e),(.int .i64 0)]⟩) g) (au ((b:LB)==e) (Q (.tuple ⟨[(strOf e),(.int .i64 0)]⟩) g) (au ((a:LB)==[105,110,102]) (Q (.tuple ⟨[(strOf [105,110,102]),(.int .i64 0)]⟩) g) (au ((b:LB)==[105,110,102]) (Q (.tuple ⟨[(strOf [105,110,102]),(.int .i64 0)]⟩) g) (au ((a:LB)==[45,105,110,102]) (Q (.tuple ⟨[(strOf [45,105,110,102]),(.int .i64 0)]⟩) g) (au ((b:LB)==[45,105,110,102]) (Q (.tuple ⟨[(strOf [45,105,110,102]),(.int .i64 0)]⟩) g) (au (((n:Int)==1)) (FW SS 85 [(strOf a),(strOf b)] g λc d=>∃b:LB,∃a:Int,c=(.tuple ⟨[(strOf b),(.int .i64 a)]⟩)/\Q (.tuple ⟨[(strOf b),(.int .i64 a)]⟩) d) (FW SS 88 [(strOf a),(strOf b)] g λc d=>∃b:LB,∃a:Int,c=(.tuple ⟨[(strOf b),(.int .i64 a)]⟩)/\Q (.tuple ⟨[(strOf b),(.int .i64 a)]⟩) d)))))))))):FW SS 65 [(.int .i64 n),(strOf a),(strOf b)] h Q:=cQ Qh Tryz.func65 (ai o)
noncomputable def Uu:FD:=cG Tryz.f67 []
theorem Qf(r:Int)(a:LB)(h:ae)(Q:VH)(s:FW SS 47 [(.int .i64 r),(strOf a)] h λp q=>yB p λo=>au (!o) (Q (.tuple ⟨[(strOf []),(.int .i64 1)]⟩) q) (FW SS 22 [(.int .i64 r)] q λm n=>yS m λl=>au (((r:Int)==1)) (FW SS 90 [(strOf a),(strOf [48])] n λb c=>yI .i64 b λa=>au (decide ((a:Int)>=0)) (Q (.tuple ⟨[(strOf l),(.int .i64 0)]⟩) c) (Q (.tuple ⟨[(strOf [45,105,110,102]),(.int .i64 0)]⟩) c)) (au (((r:Int)==3)) (FW SS 90 [(strOf a),(strOf [49])] n λb c=>yI .i64 b λa=>au (decide ((a:Int)<=0)) (Q (.tuple ⟨[(strOf l),(.int .i64 0)]⟩) c) (Q (.tuple ⟨[(strOf [105,110,102]),(.int .i64 0)]⟩) c)) (FW SS 90 [(strOf a),(strOf [49])] n λj k=>yI .i64 j λi=>au (decide ((i:Int)>=0)) (Q (.tuple ⟨[(strOf [105,110,102]),(.int .i64 0)]⟩) k) (FW SS 91 [(strOf [49]),(strOf a)] k λg h=>∃f:LB,∃e:Int,g=(.tuple ⟨[(strOf f),(.int .i64 e)]⟩)/\au (((e:Int) !=0)) (Q (.tuple ⟨[(strOf []),(.int .i64 e)]⟩) h) (FW SS 92 [(strOf [49]),(strOf f)] h λc d=>∃b:LB,∃a:Int,c=(.tuple ⟨[(strOf b),(.int .i64 a)]⟩)/\Q (.tuple ⟨[(strOf b),(.int .i64 a)]⟩) d)))))):FW SS 67 [(.int .i64 r),(strOf a)] h Q:=cQ Uu Tryz.func67 (ai s)
variable{s:List UInt8}{z:Int}
def Mf:Option (List UInt8)->Value
 |some l=>two l 0
 |none=>two [] 2
theorem T9(o:Option (List UInt8)):∃l n,Mf o=two l n:=by cases o<;>exact⟨_,_,rfl⟩
def oQ(h:ae)(o:Option (List UInt8)):VH:=λv a=>v=Mf o/\Ok h a
theorem je{o:Option (List UInt8)}(a:Ok h g):∃(l:List UInt8)(n:Int),Mf o = .tuple ⟨[strOf l,.int .i64 n]⟩/\oQ h o (.tuple ⟨[strOf l,.int .i64 n]⟩) g:=yC (K:=λv=>oQ h o v g) (T9 o) ⟨rfl,a⟩
theorem cn{a b:List UInt8}(g:(a==b)=true):a=b:=by simpa using g
theorem cd{a b:List UInt8}(g:(a==b)=false):a≠b:=by simpa using g
theorem UF{a:List UInt8}(r:gI a):Num.val (Num.numOf a)<10^400/\Num.val (ak a)<10^400:=⟨re (k:=400) r.num (by decide) r.ln,re (k:=400) r.den (by decide) r.ld⟩
theorem NM(s:Bool)(n d:Nat):cN s n d=(if s=true/\n≠0 then[45]else[])++(ag n++(if d=1 then[]else 47::ag d)):=rfl
theorem Oh{s:Bool}(h:s=true/\n≠0):[45]++(ag n++(if m=1 then[]else 47::ag m))=cN s n m:=by unfold cN;rw[if_pos h]
theorem HS{s:Bool}(h:¬(s=true/\n≠0)):[]++(ag n++(if m=1 then[]else 47::ag m))=cN s n m:=by unfold cN;rw[if_neg h]
theorem uD(s:Bool){N D:Nat}(m:N<10^1000)(g:D<10^1000)(z:0<D){h:ae}(w:Wf h):FW SS 103 [.bool s,strOf (ag N),strOf (ag D)] h (oQ h (jZ s N D)):=by
 have x:Num.valid (ag N)=true:=ee.2 m;have E:Num.valid (ag D)=true:=ee.2 g;refine Qd s _ _ h _ ((dt _ h).mono ?_);rintro _ r ⟨rfl,o⟩;obtain rfl:h=r:=o.symm;refine⟨_,rfl,aa (λe=>by rw[x]at e;cases e) (λ_=>(dt _ h).mono ?_)⟩;rintro _ r ⟨rfl,o⟩;obtain rfl:h=r:=o.symm;refine⟨_,rfl,aa (λe=>by rw[E]at e;cases e) (λ_=>aa (λe=>?_) (λ_=>?_))⟩
 ·exact absurd (bM.1 (cn e)) (by omega)
 refine(FV _ _ h w).mono ?_;rintro _ H ⟨rfl,u⟩;rw[xm x E,bu,bu];have C:0<Nat.gcd N D:=Nat.gcd_pos_of_pos_right N z;have v:Nat.gcd N D<=D:=Nat.gcd_le_right N z;have l:Nat.gcd N D<10^1000:=lt_of_le_of_lt v g;refine⟨_,_,rfl,(zQ N (Nat.gcd N D) m l C H u.wf).mono ?_⟩;rintro _ F ⟨rfl,A⟩;refine⟨_,_,_,rfl,(zQ D (Nat.gcd N D) g l C F A.wf).mono ?_⟩;rintro _ B ⟨rfl,G⟩;have j:=(u.trans A).trans G;unfold jZ;have I:=(dc (n:=N/Nat.gcd N D) (k:=1000) (by omega)).2 (lt_of_le_of_lt (Nat.div_le_self _ _) m);have J:=(dc (n:=D/Nat.gcd N D) (k:=1000) (by omega)).2 (lt_of_le_of_lt (Nat.div_le_self _ _) g);generalize N/Nat.gcd N D=n at*;generalize D/Nat.gcd N D=d at*;refine⟨_,_,_,rfl,aa (λq=>?_) (λq=>aa (λb=>?_) (λb=>?_))⟩
 ·have q:=dT q;rw[if_pos (.inl (by omega))];exact⟨rfl,j⟩
 ·have b:=dT b;rw[if_pos (.inr (by omega))];exact⟨rfl,j⟩
 have q:=dF q;have b:=dF b;rw[if_neg (by omega)];have f:∀(p:List UInt8),p.length<=2000->(p++(ag n++(if d=1 then[]else 47::ag d))=cN s n d)->au (ag d==[49]) (oQ h (some (cN s n d)) (.tuple ⟨[strOf (p++ag n),.int .i64 0]⟩) B) (xS (ay SS.P .add 9 (strOf (p++ag n)) (strOf [47])) λy=>xS (ay SS.P .add 9 (strOf y) (strOf (ag d))) λt=>oQ h (some (cN s n d)) (.tuple ⟨[strOf t,.int .i64 0]⟩) B):=λp K e=>by
  refine aa (λa=>⟨?_,j⟩) (λa=>?_)
  ·rw[if_pos (ei.1 (cn a)),List.append_nil]at e;rw[<-e];rfl
  ·rw[if_neg (λc=>cd a (ei.2 c))]at e;refine⟨_,rh _ _ (by simp;omega),_,rh _ _ (by simp;omega),?_,j⟩;rw[<-e,List.append_assoc,List.append_assoc];rfl
 refine aa (λa=>aa (λi=>?_) (λi=>?_)) (λa=>?_)
 ·refine⟨_,rh _ _ (by simp;omega),f [45] (by simp) (Oh ⟨a,λc=>by rw[bM.2 c]at i;cases i⟩)⟩
 ·have:n=0:=bM.1 (by simpa using i);exact f [] (by simp) (HS λc=>c.2 this)
 ·exact f [] (by simp) (HS λc=>by rw[c.1]at a;cases a)
theorem Hz{a:List UInt8}(r:gI a):Num.numOf a=ag (Num.val (Num.numOf a))/\ak a=ag (Num.val (ak a)):=by
 obtain⟨n,c,_,b⟩:=cx r.num;obtain⟨d,e,_,f⟩:=cx r.den;exact⟨by rw[b,<-c],by rw[f,<-e]⟩
theorem lX{a:List UInt8}(h:ax a=true):a.length<=1000:=by
 have r:=aP.1 h;obtain⟨b,c⟩:=Hz r;have d:=r.ln;have e:=r.ld;rw[r.txt,NM,List.length_append,List.length_append,<-b];have:(if Num.val (ak a)=1 then[]else 47::ag (Num.val (ak a))).length<=401:=by
  split
  ·simp
  ·rw[List.length_cons,<-c];omega
 have:(if Num.isNeg a=true/\Num.val (Num.numOf a)≠0 then[45]else([]:List UInt8)).length<=1:=by split<;>simp
 omega
theorem pg(h:ax s=true):kh s = .tuple ⟨[.bool (Num.isNeg s),strOf (Num.numOf s),strOf (ak s),.bool true]⟩:=by unfold kh;rw[if_pos h];rfl
theorem pO(h:n<10^800):n<10^1000:=Nat.lt_of_lt_of_le h (jK (k:=800) (m:=1000) (by decide))
theorem NV{s t:Bool}(b:n<10^800)(a:m<10^800):(de s n t m).2<10^1000:=by
 have h:=Nat.lt_of_lt_of_le (Nat.add_lt_add b a) E3;have:(de s n t m).2<=n+m:=by
  unfold de;split
  ·exact Nat.le_refl _
  ·split<;>dsimp only<;>omega
 exact lt_of_le_of_lt this h
theorem De{a b:List UInt8}(g:ax a=true)(f:ax b=true){h:ae}(w:Wf h):FW SS 85 [strOf a,strOf b] h (oQ h (oF a b)):=by
 have d:=aP.1 g;have c:=aP.1 f;have v:=lX g;have z:=lX f;refine Uj a b h _ ((ew a (by omega) w).mono ?_);rintro _ x ⟨rfl,i⟩;rw[pg g];refine⟨_,_,_,_,rfl,(ew b (by omega) i.wf).mono ?_⟩;rintro _ r ⟨rfl,o⟩;rw[pg f];refine⟨_,_,_,_,rfl,aa (λe=>by cases e) (λ_=>aa (λe=>by cases e) (λ_=>?_))⟩;refine(fx d.num c.den d.ln c.ld o.wf).mono ?_;rintro _ A ⟨rfl,n⟩;refine⟨_,rfl,(fx c.num d.den c.ln d.ld n.wf).mono ?_⟩;rintro _ s ⟨rfl,l⟩;have p:=(di d.num c.den d.ln c.ld).2;have j:=(di c.num d.den c.ln d.ld).2;refine⟨_,rfl,(Dq _ _ _ _ p j l.wf).mono ?_⟩;rintro _ y ⟨rfl,m⟩;refine⟨_,_,rfl,(fx d.den c.den d.ld c.ld m.wf).mono ?_⟩;rintro _ u ⟨rfl,k⟩;refine⟨_,rfl,(uD _ (NV p j) (pO (di d.den c.den d.ld c.ld).2) (mul_pos d.den_pos c.den_pos) k.wf).mono ?_⟩;rintro _ t ⟨rfl,q⟩;exact je (((((i.trans o).trans n).trans l).trans m).trans (k.trans q))
theorem Uo{a b:List UInt8}(g:ax a=true)(f:ax b=true){h:ae}(w:Wf h):FW SS 88 [strOf a,strOf b] h (oQ h (yT a b)):=by
 have d:=aP.1 g;have c:=aP.1 f;have p:=lX g;have s:=lX f;refine Un a b h _ ((ew a (by omega) w).mono ?_);rintro _ q ⟨rfl,i⟩;rw[pg g];refine⟨_,_,_,_,rfl,(ew b (by omega) i.wf).mono ?_⟩;rintro _ n ⟨rfl,l⟩;rw[pg f];refine⟨_,_,_,_,rfl,aa (λe=>by cases e) (λ_=>aa (λe=>by cases e) (λ_=>?_))⟩;refine(fx d.num c.num d.ln c.ln l.wf).mono ?_;rintro _ t ⟨rfl,k⟩;refine⟨_,rfl,(fx d.den c.den d.ld c.ld k.wf).mono ?_⟩;rintro _ o ⟨rfl,j⟩;refine⟨_,rfl,(uD _ (pO (di d.num c.num d.ln c.ln).2) (pO (di d.den c.den d.ld c.ld).2) (mul_pos d.den_pos c.den_pos) j.wf).mono ?_⟩;rintro _ r ⟨rfl,m⟩;exact je (((i.trans l).trans k).trans (j.trans m))
theorem Ul{a b:List UInt8}(g:ax a=true)(f:ax b=true)(l:Num.val (Num.numOf b)≠0){h:ae}(w:Wf h):FW SS 92 [strOf a,strOf b] h (oQ h (GA a b)):=by
 have d:=aP.1 g;have c:=aP.1 f;have q:=lX g;have t:=lX f;refine Uk a b h _ ((ew a (by omega) w).mono ?_);rintro _ r ⟨rfl,i⟩;rw[pg g];refine⟨_,_,_,_,rfl,(ew b (by omega) i.wf).mono ?_⟩;rintro _ o ⟨rfl,m⟩;rw[pg f];refine⟨_,_,_,_,rfl,aa (λe=>by cases e) (λ_=>aa (λe=>by cases e) (λ_=>aa (λe=>?_) (λ_=>?_)))⟩
 ·exact absurd ((ig c.num).1 (cn e)) l
 refine(fx d.num c.den d.ln c.ld m.wf).mono ?_;rintro _ u ⟨rfl,k⟩;refine⟨_,rfl,(fx d.den c.num d.ld c.ln k.wf).mono ?_⟩;rintro _ p ⟨rfl,j⟩;refine⟨_,rfl,(uD _ (pO (di d.num c.den d.ln c.ld).2) (pO (di d.den c.num d.ld c.ln).2) (mul_pos d.den_pos (Nat.pos_of_ne_zero l)) j.wf).mono ?_⟩;rintro _ s ⟨rfl,n⟩;exact je (((i.trans m).trans k).trans (j.trans n))
theorem Uq{a:List UInt8}(c:ax a=true){h:ae}(w:Wf h):FW SS 105 [strOf a] h (λv j=>v=two (qc a) 0/\Ok h j):=by
 have b:=aP.1 c;have p:=lX c;obtain⟨g,i⟩:=Hz b;refine Up a h _ ((ew a (by omega) w).mono ?_);rintro _ q ⟨rfl,d⟩;rw[pg c];refine⟨_,_,_,_,rfl,aa (λe=>by cases e) (λ_=>?_)⟩;have n:jZ (!Num.isNeg a) (Num.val (Num.numOf a)) (Num.val (ak a))=some (qc a):=K6 (by rw[<-g];exact b.ln) (by rw[<-i];exact b.ld) b.one;have f:=uD (!Num.isNeg a) (N:=Num.val (Num.numOf a)) (D:=Num.val (ak a)) (Nat.lt_of_lt_of_le (UF b).1 (jK (k:=400) (m:=1000) (by decide))) (Nat.lt_of_lt_of_le (UF b).2 (jK (k:=400) (m:=1000) (by decide))) b.den_pos d.wf;rw[<-g,<-i,n]at f;refine f.mono ?_;rintro _ o ⟨rfl,l⟩;exact⟨_,_,rfl,rfl,d.trans l⟩
theorem Us{a b:List UInt8}(c:ax a=true)(d:ax b=true){h:ae}(w:Wf h):FW SS 91 [strOf a,strOf b] h (oQ h (oF a (qc b))):=by
 have k:=lX c;refine Ur a b h _ ((Uq d w).mono ?_);rintro _ l ⟨rfl,f⟩;refine⟨_,_,rfl,aa (λe=>by cases e) (λ_=>(xX a (by omega) f.wf).mono ?_)⟩;rintro _ j ⟨rfl,g⟩;refine⟨_,rfl,aa (λe=>by rw[c]at e;cases e) (λ_=>(De c (uh d).1 g.wf).mono ?_)⟩;rintro _ m ⟨rfl,i⟩;exact je ((f.trans g).trans i)
theorem pY{a:List UInt8}(h:aM z a=true):a.length<=1000:=by
 unfold aM at h;rw[and_eq_true,or_eq_true,or_eq_true]at h;rcases h.2 with(h|h)|h
 ·rw[cn h];decide
 ·rw[and_eq_true]at h;rw[cn h.1];decide
 ·rw[and_eq_true]at h;exact lX h.1
theorem jy{a:List UInt8}(b:aM z a=true){h:ae}(w:Wf h):FW SS 47 [.int .i64 z,strOf a] h (λv c=>v = .bool true/\Ok h c):=by
 have d:=pY b;refine(xY z a (by omega) w).mono ?_;rintro _ g ⟨rfl,o⟩;exact⟨congrArg Value.bool b,o⟩
theorem gT(a:1<=z/\z<=3)(h:ae):FW SS 18 [.int .i64 z] h (λv b=>v=strOf (bF z)/\b=h):=by
 refine Qi z h _ ((pV z h).mono ?_);rintro _ g ⟨rfl,rfl⟩;refine⟨_,rfl,aa (λe=>?_) (λ_=>aa (λe=>⟨?_,rfl⟩) (λe=>⟨?_,rfl⟩))⟩
 ·rw[decide_eq_true a.1,decide_eq_true a.2]at e;cases e
 ·have e:z=1:=by simpa using e
  unfold bF;rw[if_pos e]
 ·have e:¬z=1:=by simpa using e
  unfold bF;rw[if_neg e]
theorem T3(a:1<=z/\z<=3):dN z=sG z:=by
 unfold dN sG;by_cases e:z=1
 ·rw[if_pos e,if_pos e]
 ·rw[if_neg e,if_neg e,if_pos (by omega)]
theorem lW{a b:List UInt8}(l:a.length<=1000)(m:b.length<=1000){h:ae}(w:Wf h):FW SS 90 [strOf a,strOf b] h (λv k=>v = .int .i64 (du a b)/\Ok h k):=by
 refine Hy a b h _ ?_;unfold du;refine aa (λe=>⟨by rw[if_pos (cn e)],Ok.refl w⟩) (λe=>?_);rw[if_neg (cd e)];refine aa (λd=>⟨by rw[if_pos (.inl (cn d))],Ok.refl w⟩) (λd=>aa (λj=>⟨by rw[if_pos (.inr (cn j))],Ok.refl w⟩) (λj=>?_));rw[if_neg (λc=>c.elim (cd d) (cd j))];refine aa (λf=>⟨by rw[if_pos (.inl (cn f))],Ok.refl w⟩) (λf=>aa (λi=>⟨by rw[if_pos (.inr (cn i))],Ok.refl w⟩) (λi=>?_));rw[if_neg (λc=>c.elim (cd f) (cd i))];refine(Dp a b (by omega) (by omega) w).mono ?_;rintro _ g ⟨rfl,o⟩;exact⟨_,rfl,rfl,o⟩
theorem JV{a b:List UInt8}(g:aM z a=true)(d:aM z b=true){h:ae}(w:Wf h):FW SS 84 [.int .i64 z,strOf a,strOf b] h (λv j=>v = .int .i64 (Gy z a b)/\Ok h j):=by
 refine JU z a b h _ ((jy g w).mono ?_);rintro _ m ⟨rfl,f⟩;refine⟨_,rfl,aa (λe=>by cases e) (λ_=>(jy d f.wf).mono ?_)⟩;rintro _ l ⟨rfl,c⟩;unfold Gy;refine⟨_,rfl,aa (λe=>by cases e) (λ_=>aa (λe=>?_) (λe=>?_))⟩
 ·rw[if_pos (by simpa using e)];refine(lW (pY g) (pY d) c.wf).mono ?_;rintro _ k ⟨rfl,i⟩;exact⟨_,rfl,rfl,(f.trans c).trans i⟩
 ·rw[if_neg (by simpa using e)];refine(lW (pY d) (pY g) c.wf).mono ?_;rintro _ k ⟨rfl,i⟩;exact⟨_,rfl,rfl,(f.trans c).trans i⟩
theorem lf{a:List UInt8}(h:aM z a=true)(b:a≠dj)(d:z≠1\/a≠hZ):ax a=true:=by
 rcases gA h with rfl|rfl|rfl
 ·rcases mU.1 h with e|e|e
  ·exact absurd e b
  ·exact absurd e (d.resolve_left (λc=>c rfl))
  ·exact e
 ·exact(((ic (.inl rfl)).1 h).resolve_left b).1
 ·exact(((ic (.inr rfl)).1 h).resolve_left b).1
theorem uE{a b:List UInt8}(j:aM z a=true)(i:aM z b=true){h:ae}(w:Wf h):FW SS 62 [.int .i64 z,strOf a,strOf b] h (oQ h (eR z a b)):=by
 refine Qe z a b h _ ((jy j w).mono ?_);rintro _ o ⟨rfl,l⟩;refine⟨_,rfl,aa (λe=>by cases e) (λ_=>(jy i l.wf).mono ?_)⟩;rintro _ n ⟨rfl,k⟩;have d:=l.trans k;unfold eR;refine⟨_,rfl,aa (λe=>by cases e) (λ_=>aa (λe=>?_) (λe=>?_))⟩
 ·rw[if_pos (by simpa using e)];refine(JV i j k.wf).mono ?_;rintro _ m ⟨rfl,g⟩;refine⟨_,rfl,aa (λq=>?_) (λq=>?_)⟩
  ·rw[if_pos (dT q)];exact⟨rfl,d.trans g⟩
  ·rw[if_neg (dF q)];exact⟨rfl,d.trans g⟩
 have e:z=2:=by simpa using e
 rw[if_neg (λc=>c e)];refine aa (λq=>?_) (λq=>aa (λf=>?_) (λf=>?_))
 ·rw[if_pos (.inl (cn q))];exact⟨rfl,d⟩
 ·rw[if_pos (.inr (cn f))];exact⟨rfl,d⟩
 ·rw[if_neg (λc=>c.elim (cd q) (cd f))];refine(De (lf j (cd q) (.inl (by omega))) (lf i (cd f) (.inl (by omega))) k.wf).mono ?_;rintro _ m ⟨rfl,g⟩;exact je (d.trans g)
theorem wA{a b:List UInt8}(n:aM z a=true)(p:aM z b=true){h:ae}(w:Wf h):FW SS 65 [.int .i64 z,strOf a,strOf b] h (oQ h (cD z a b)):=by
 have x:1<=z/\z<=3:=by have:=gA n;omega
 refine Mk z a b h _ ((jy n w).mono ?_);rintro _ y ⟨rfl,r⟩;refine⟨_,rfl,aa (λe=>by cases e) (λ_=>(jy p r.wf).mono ?_)⟩;rintro _ u ⟨rfl,o⟩;have d:=r.trans o;refine⟨_,rfl,aa (λe=>by cases e) (λ_=>(gT x u).mono ?_)⟩;rintro _ A ⟨rfl,rfl⟩;unfold cD;refine⟨_,rfl,aa (λq=>?_) (λq=>aa (λl=>?_) (λl=>?_))⟩
 ·rw[if_pos (.inl (cn q))];exact⟨rfl,d⟩
 ·rw[if_pos (.inr (cn l))];exact⟨rfl,d⟩
 rw[if_neg (λc=>c.elim (cd q) (cd l))];refine aa (λf=>?_) (λf=>aa (λi=>?_) (λi=>?_))
 ·rw[if_pos (.inl (cn f))];exact⟨rfl,d⟩
 ·rw[if_pos (.inr (cn i))];exact⟨rfl,d⟩
 rw[if_neg (λc=>c.elim (cd f) (cd i))];refine aa (λj=>?_) (λj=>aa (λg=>?_) (λg=>?_))
 ·rw[if_pos (.inl (cn j))];exact⟨rfl,d⟩
 ·rw[if_pos (.inr (cn g))];exact⟨rfl,d⟩
 rw[if_neg (λc=>c.elim (cd j) (cd g))];have t:=lf n (cd f) (.inr (cd j));have s:=lf p (cd i) (.inr (cd g));refine aa (λk=>?_) (λk=>?_)
 ·rw[if_pos (by simpa using k)];refine(De t s o.wf).mono ?_;rintro _ v ⟨rfl,m⟩;exact je (d.trans m)
 ·rw[if_neg (by simpa using k)];refine(Uo t s o.wf).mono ?_;rintro _ v ⟨rfl,m⟩;exact je (d.trans m)
theorem Qg{a:List UInt8}(j:aM z a=true){h:ae}(w:Wf h):FW SS 67 [.int .i64 z,strOf a] h (oQ h (lJ z a)):=by
 have x:1<=z/\z<=3:=by have:=gA j;omega
 have n:=pY j;refine Qf z a h _ ((jy j w).mono ?_);rintro _ A ⟨rfl,b⟩;refine⟨_,rfl,aa (λe=>by cases e) (λ_=>(N2 z A).mono ?_)⟩;rintro _ B ⟨rfl,rfl⟩;rw[T3 x];unfold lJ;refine⟨_,rfl,aa (λe=>?_) (λe=>aa (λg=>?_) (λg=>?_))⟩
 ·have e:z=1:=by simpa using e
  rw[if_pos e];refine(lW n (by simp) b.wf).mono ?_;rintro _ s ⟨rfl,f⟩;refine⟨_,rfl,aa (λq=>?_) (λq=>?_)⟩
  ·rw[if_pos (dT q)];exact⟨by unfold sG;rw[if_pos e];rfl,b.trans f⟩
  ·rw[if_neg (dF q)];exact⟨rfl,b.trans f⟩
 ·have e:¬z=1:=by simpa using e
  have g:z=3:=by simpa using g
  rw[if_neg e,if_pos g];refine(lW n (by simp) b.wf).mono ?_;rintro _ s ⟨rfl,f⟩;refine⟨_,rfl,aa (λq=>?_) (λq=>?_)⟩
  ·rw[if_pos (dT q)];exact⟨by unfold sG;rw[if_neg e];rfl,b.trans f⟩
  ·rw[if_neg (dF q)];exact⟨rfl,b.trans f⟩
 ·have e:¬z=1:=by simpa using e
  have g:¬z=3:=by simpa using g
  have E:z=2:=by omega
  rw[if_neg e,if_neg g];refine(lW n (by simp) b.wf).mono ?_;rintro _ s ⟨rfl,f⟩;have l:=b.trans f;refine⟨_,rfl,aa (λq=>?_) (λq=>?_)⟩
  ·rw[if_pos (dT q)];exact⟨rfl,l⟩
  have q:=dF q;rw[if_neg q];have u:a≠dj:=λc=>q (by rw[c];decide);have i:=lf j u (.inl e);refine(Us fy i f.wf).mono ?_;rintro _ D ⟨rfl,p⟩;have m:=l.trans p
  cases t:oF [49] (qc a)with
  |none=>exact⟨_,_,rfl,aa (λ_=>⟨rfl,m⟩) (λc=>by cases c)⟩
  | some d=>
   obtain⟨r,o⟩:=nf fy (uh i).1 t;rw[(uh i).2,kW]at o;have C:bg a<1:=by
    have:=(yR i fy)
    rw[kW]at this;exact Rat.not_le.1 λc=>q (this.2 c)
   have y:Num.val (Num.numOf d)≠0:=λc=>by
    have k:=(aP.1 r).wu;rw[c,qY]at k;have k:=Rat.num_eq_zero.1 k;rw[o]at k
    grind
   refine⟨_,_,rfl,aa (λc=>by cases c) (λ_=>(Ul fy r y p.wf).mono ?_)⟩;rintro _ F ⟨rfl,v⟩;exact je (m.trans v)
variable{c:List Value}{d:List Value}{k:Nat}
noncomputable def TX:FD:=cG Tryz.f190 []
theorem PN(a b:LB)(h:ae)(Q:VH)(E:FW SS 171 [(strOf a)] h λw x=>yB w λv=>au (!v) (Q (.tuple ⟨[(strOf []),(strOf []),(.int .i64 1)]⟩) x) (FW SS 171 [(strOf b)] x λt u=>yB t λs=>au (!s) (Q (.tuple ⟨[(strOf []),(strOf []),(.int .i64 1)]⟩) u) (au ((b:LB)==[48]) (Q (.tuple ⟨[(strOf []),(strOf []),(.int .i64 4)]⟩) u) (FW SS 172 [(strOf a)] u λq r=>yL q λn o p=>FW SS 172 [(strOf b)] r λl m=>yL l λi j k=>FW SS 189 [(.slice n o p),(.slice i j k)] m λg h=>∃(C:OA) (D y:Nat),∃(z:OA) (A B:Nat),g=(.tuple ⟨[(.slice C D y),(.slice z A B)]⟩)/\FW SS 187 [(.slice C D y)] h λe f=>yS e λd=>FW SS 187 [(.slice z A B)] f λb c=>yS b λa=>Q (.tuple ⟨[(strOf d),(strOf a),(.int .i64 0)]⟩) c)))):FW SS 190 [(strOf a),(strOf b)] h Q:=cQ TX Tryz.func190 (ai E)
noncomputable def UD:FD:=cG Tryz.f176 []
theorem Qx(a b:LB)(h:ae)(Q:VH)(i:FW SS 190 [(strOf a),(strOf b)] h λg h=>∃f:LB,∃e:LB,∃d:Int,g=(.tuple ⟨[(strOf f),(strOf e),(.int .i64 d)]⟩)/\FW SS 142 [(strOf f),(.int .i64 d)] h λb c=>yS b λa=>Q (strOf a) c):FW SS 176 [(strOf a),(strOf b)] h Q:=cQ UD Tryz.func176 (ai i)
noncomputable def UE:FD:=cG Tryz.f144 []
theorem Qy(s:Bool)(a b:LB)(h:ae)(Q:VH)(z:xN (br SS.P 155) h λ_ y=>FW SS 175 [(strOf a),(strOf b)] y λw x=>∃v:LB,∃u:Int,w=(.tuple ⟨[(strOf v),(.int .i64 u)]⟩)/\FW SS 142 [(strOf v),(.int .i64 u)] x λr t=>yS r λq=>au s (FW SS 176 [(strOf a),(strOf q)] t λo p=>yS o λn=>FW SS 176 [(strOf b),(strOf q)] p λl m=>yS l λk=>xA (bh SS.P 155 [(0,(.bool (!((a:LB)==[48])))),(1,(strOf n)),(2,(strOf k))]) λj=>xN (br SS.P 155) m λ_ i=>xU (ah SS.P 155 (pA (m.next)) (.agg ⟨j⟩) i) i λ_ g=>fP 155 (pA (m.next)) 1 λf=>lS g f λe=>au (decide ((((e:LB).length:Int):Int)>400)) (xA (bh SS.P 176 []) λ_=>False) (fP 155 (pA (m.next)) 2 λd=>lS g d λc=>au (decide ((((c:LB).length:Int):Int)>400)) (xA (bh SS.P 176 []) λ_=>False) (lA 155 g (pA (m.next)) λb=>xU (ah SS.P 155 (pA (h.next)) (.agg ⟨b⟩) g) g λ_ a=>dY SS [((pA (h.next)),some 155)] a Q))) (FW SS 176 [(strOf a),(strOf q)] t λo p=>yS o λn=>FW SS 176 [(strOf b),(strOf q)] p λl m=>yS l λk=>xA (bh SS.P 155 [(0,(.bool false)),(1,(strOf n)),(2,(strOf k))]) λj=>xN (br SS.P 155) m λ_ i=>xU (ah SS.P 155 (pA (m.next)) (.agg ⟨j⟩) i) i λ_ g=>fP 155 (pA (m.next)) 1 λf=>lS g f λe=>au (decide ((((e:LB).length:Int):Int)>400)) (xA (bh SS.P 176 []) λ_=>False) (fP 155 (pA (m.next)) 2 λd=>lS g d λc=>au (decide ((((c:LB).length:Int):Int)>400)) (xA (bh SS.P 176 []) λ_=>False) (lA 155 g (pA (m.next)) λb=>xU (ah SS.P 155 (pA (h.next)) (.agg ⟨b⟩) g) g λ_ a=>dY SS [((pA (h.next)),some 155)] a Q)))):FW SS 144 [(.bool s),(strOf a),(strOf b)] h Q:=cQ UE Tryz.func144 (ai z)
noncomputable def PW:FD:=cG Tryz.f184 []
theorem L9(s:Bool)(a b:LB)(h:ae)(Q:VH)(n:xN (eK SS.P 155 (.agg ⟨[(.bool s),(strOf a),(strOf b)]⟩)) h λ_ m=>fP 155 (pA (h.next)) 1 λl=>lS m l λk=>fP 155 (pA (h.next)) 0 λj=>lB m j λi=>au i (xS (ay SS.P .add 9 (strOf [45]) (strOf k)) λg=>fP 155 (pA (h.next)) 2 λf=>lS m f λe=>au (!((e:LB)==[49])) (fP 155 (pA (h.next)) 2 λd=>lS m d λc=>xS (ay SS.P .add 9 (strOf [47]) (strOf c)) λb=>xS (ay SS.P .add 9 (strOf g) (strOf b)) λa=>Q (strOf a) m) (Q (strOf g) m)) (fP 155 (pA (h.next)) 2 λf=>lS m f λe=>au (!((e:LB)==[49])) (fP 155 (pA (h.next)) 2 λd=>lS m d λc=>xS (ay SS.P .add 9 (strOf [47]) (strOf c)) λb=>xS (ay SS.P .add 9 (strOf k) (strOf b)) λa=>Q (strOf a) m) (Q (strOf k) m))):FW SS 184 [(.agg ⟨[(.bool s),(strOf a),(strOf b)]⟩)] h Q:=cQ PW Tryz.func184 (ai n)
noncomputable def Qr:FD:=cG Tryz.f139 []
theorem Mp(a b:LB)(g:Nat)(s t:LV)(h:ae)(Q:VH)(u:xN (eK SS.P 158 (.func (.func g) ⟨s⟩ ⟨t⟩)) h λ_ r=>FW SS 145 [(strOf a)] r λp q=>∃o:LV,∃n:Bool,p=(.tuple ⟨[(.agg ⟨o⟩),(.bool n)]⟩)/\xN (br SS.P 155) q λ_ m=>xU (ah SS.P 155 (pA (q.next)) (.agg ⟨o⟩) m) m λ_ l=>FW SS 145 [(strOf b)] l λj k=>∃i:LV,∃g:Bool,j=(.tuple ⟨[(.agg ⟨i⟩),(.bool g)]⟩)/\xN (br SS.P 155) k λ_ f=>xU (ah SS.P 155 (pA (k.next)) (.agg ⟨i⟩) f) f λ_ e=>au (!n) (Q (.tuple ⟨[(strOf []),(.int .i64 1)]⟩) e) (au (!g) (Q (.tuple ⟨[(strOf []),(.int .i64 1)]⟩) e) (FW SS 166 [(.func (.func 167) ⟨[]⟩ ⟨[(pA (h.next)),(pA (q.next)),(pA (k.next))]⟩)] e λc d=>∃b:LB,∃a:Int,c=(.tuple ⟨[(strOf b),(.int .i64 a)]⟩)/\Q (.tuple ⟨[(strOf b),(.int .i64 a)]⟩) d))):FW SS 139 [(strOf a),(strOf b),(.func (.func g) ⟨s⟩ ⟨t⟩)] h Q:=cQ Qr Tryz.func139 (ai u)
noncomputable def Mo:FD:=cG Tryz.f167 []
theorem JX(m l n:Nat)(h:ae)(Q:VH)(o:xN (br SS.P 155) h λ_ k=>xF (aj SS.P 158 k (pA m)) λg i j=>lA 155 k (pA l) λf=>lA 155 k (pA n) λe=>au (Nat.blt g YB) (FW SS g (i++[(.agg ⟨f⟩),(.agg ⟨e⟩)]++j) k λc d=>yA c λb=>xU (ah SS.P 155 (pA (h.next)) (.agg ⟨b⟩) d) d λ_ a=>dY SS [((pA (h.next)),some 155)] a Q) False):FW SS 167 [(pA m),(pA l),(pA n)] h Q:=cQ Mo Tryz.func167 (ai o)
noncomputable def UA:FD:=cG Tryz.f107 []
theorem Qo(a b:LB)(h:ae)(Q:VH)(e:FW SS 139 [(strOf a),(strOf b),(.func (.func 140) ⟨[]⟩ ⟨[]⟩)] h λc d=>∃b:LB,∃a:Int,c=(.tuple ⟨[(strOf b),(.int .i64 a)]⟩)/\Q (.tuple ⟨[(strOf b),(.int .i64 a)]⟩) d):FW SS 107 [(strOf a),(strOf b)] h Q:=cQ UA Tryz.func107 (ai e)
noncomputable def Qn:FD:=cG Tryz.f140 []
theorem Mm(s t:Bool)(a b c d:LB)(h:ae)(Q:VH)(S:xN (eK SS.P 155 (.agg ⟨[(.bool s),(strOf a),(strOf b)]⟩)) h λ_ F=>xN (eK SS.P 155 (.agg ⟨[(.bool t),(strOf c),(strOf d)]⟩)) F λ_ K=>xN (br SS.P 155) K λ_ E=>fP 155 (pA (h.next)) 0 λH=>lB (room E 26) H λA=>fP 155 (pA (h.next)) 1 λX=>lS (room E 26) X λU=>fP 155 (pA (F.next)) 2 λT=>lS (room E 26) T λP=>FW SS 143 [(strOf U),(strOf P)] (room E 26) λW J=>∃O:LB,∃N:Int,W=(.tuple ⟨[(strOf O),(.int .i64 N)]⟩)/\FW SS 142 [(strOf O),(.int .i64 N)] J λV G=>yS V λR=>fP 155 (pA (F.next)) 0 λI=>lB G I λB=>fP 155 (pA (F.next)) 1 λL=>lS G L λC=>fP 155 (pA (h.next)) 2 λM=>lS G M λD=>FW SS 143 [(strOf C),(strOf D)] G λy z=>∃x:LB,∃w:Int,y=(.tuple ⟨[(strOf x),(.int .i64 w)]⟩)/\FW SS 142 [(strOf x),(.int .i64 w)] z λu v=>yS u λt=>FW SS 141 [(.bool A),(strOf R),(.bool B),(strOf t)] v λr s=>∃q:Bool,∃p:LB,r=(.tuple ⟨[(.bool q),(strOf p)]⟩)/\(aj SS.P 4 J (.pointer (some H))=some (.bool A)/\dG 4 (.bool A) (.bool A)=true)/\(aj SS.P 4 G (.pointer (some H))=some (.bool A)/\dG 4 (.bool A) (.bool A)=true)/\(aj SS.P 4 z (.pointer (some H))=some (.bool A)/\dG 4 (.bool A) (.bool A)=true)/\(aj SS.P 4 v (.pointer (some H))=some (.bool A)/\dG 4 (.bool A) (.bool A)=true)/\(aj SS.P 4 (room E 26) (.pointer (some I))=some (.bool B)/\dG 4 (.bool B) (.bool B)=true)/\(aj SS.P 4 J (.pointer (some I))=some (.bool B)/\dG 4 (.bool B) (.bool B)=true)/\(aj SS.P 4 z (.pointer (some I))=some (.bool B)/\dG 4 (.bool B) (.bool B)=true)/\(aj SS.P 4 v (.pointer (some I))=some (.bool B)/\dG 4 (.bool B) (.bool B)=true)/\(aj SS.P 9 (room E 26) (.pointer (some L))=some (strOf C)/\dG 4 (strOf C) (strOf C)=true)/\(aj SS.P 9 J (.pointer (some L))=some (strOf C)/\dG 4 (strOf C) (strOf C)=true)/\(aj SS.P 9 (room E 26) (.pointer (some M))=some (strOf D)/\dG 4 (strOf D) (strOf D)=true)/\(aj SS.P 9 J (.pointer (some M))=some (strOf D)/\dG 4 (strOf D) (strOf D)=true)/\fP 155 (pA (h.next)) 2 λo=>lS s o λn=>fP 155 (pA (F.next)) 2 λm=>lS s m λl=>FW SS 143 [(strOf n),(strOf l)] s λj k=>∃i:LB,∃h:Int,j=(.tuple ⟨[(strOf i),(.int .i64 h)]⟩)/\FW SS 142 [(strOf i),(.int .i64 h)] k λf g=>yS f λe=>FW SS 144 [(.bool q),(strOf p),(strOf e)] g λc d=>yA c λb=>xU (ah SS.P 155 (pA (K.next)) (.agg ⟨b⟩) d) d λ_ a=>dY SS [((pA (K.next)),some 155)] a Q):FW SS 140 [(.agg ⟨[(.bool s),(strOf a),(strOf b)]⟩),(.agg ⟨[(.bool t),(strOf c),(strOf d)]⟩)] h Q:=cQ Qn Tryz.func140 (ai S)
noncomputable def UC:FD:=cG Tryz.f111 []
theorem Qt(a b:LB)(h:ae)(Q:VH)(e:FW SS 139 [(strOf a),(strOf b),(.func (.func 146) ⟨[]⟩ ⟨[]⟩)] h λc d=>∃b:LB,∃a:Int,c=(.tuple ⟨[(strOf b),(.int .i64 a)]⟩)/\Q (.tuple ⟨[(strOf b),(.int .i64 a)]⟩) d):FW SS 111 [(strOf a),(strOf b)] h Q:=cQ UC Tryz.func111 (ai e)
noncomputable def Qs:FD:=cG Tryz.f146 []
theorem Mq(s t:Bool)(a b c d:LB)(h:ae)(Q:VH)(H:xN (eK SS.P 155 (.agg ⟨[(.bool s),(strOf a),(strOf b)]⟩)) h λ_ F=>xN (eK SS.P 155 (.agg ⟨[(.bool t),(strOf c),(strOf d)]⟩)) F λ_ G=>xN (br SS.P 155) G λ_ C=>fP 155 (pA (h.next)) 0 λD=>lB (room C 23) D λB=>fP 155 (pA (F.next)) 0 λE=>lB (room C 23) E λA=>fP 155 (pA (h.next)) 1 λz=>lS (room C 23) z λy=>fP 155 (pA (F.next)) 1 λx=>lS (room C 23) x λw=>FW SS 143 [(strOf y),(strOf w)] (room C 23) λu v=>∃t:LB,∃s:Int,u=(.tuple ⟨[(strOf t),(.int .i64 s)]⟩)/\FW SS 142 [(strOf t),(.int .i64 s)] v λq r=>yS q λp=>fP 155 (pA (h.next)) 2 λo=>lS r o λn=>fP 155 (pA (F.next)) 2 λm=>lS r m λl=>FW SS 143 [(strOf n),(strOf l)] r λj k=>∃i:LB,∃h:Int,j=(.tuple ⟨[(strOf i),(.int .i64 h)]⟩)/\FW SS 142 [(strOf i),(.int .i64 h)] k λf g=>yS f λe=>FW SS 144 [(.bool (!(B==A))),(strOf p),(strOf e)] g λc d=>yA c λb=>xU (ah SS.P 155 (pA (G.next)) (.agg ⟨b⟩) d) d λ_ a=>(aj SS.P 4 v (.pointer (some D))=some (.bool B)/\dG 4 (.bool B) (.bool B)=true)/\(aj SS.P 4 r (.pointer (some D))=some (.bool B)/\dG 4 (.bool B) (.bool B)=true)/\(aj SS.P 4 k (.pointer (some D))=some (.bool B)/\dG 4 (.bool B) (.bool B)=true)/\(aj SS.P 4 g (.pointer (some D))=some (.bool B)/\dG 4 (.bool B) (.bool B)=true)/\(aj SS.P 4 v (.pointer (some E))=some (.bool A)/\dG 4 (.bool A) (.bool A)=true)/\(aj SS.P 4 r (.pointer (some E))=some (.bool A)/\dG 4 (.bool A) (.bool A)=true)/\(aj SS.P 4 k (.pointer (some E))=some (.bool A)/\dG 4 (.bool A) (.bool A)=true)/\(aj SS.P 4 g (.pointer (some E))=some (.bool A)/\dG 4 (.bool A) (.bool A)=true)/\(aj SS.P 9 (room C 23) (.pointer (some o))=some (strOf n)/\dG 4 (strOf n) (strOf n)=true)/\(aj SS.P 9 v (.pointer (some o))=some (strOf n)/\dG 4 (strOf n) (strOf n)=true)/\(aj SS.P 9 (room C 23) (.pointer (some m))=some (strOf l)/\dG 4 (strOf l) (strOf l)=true)/\(aj SS.P 9 v (.pointer (some m))=some (strOf l)/\dG 4 (strOf l) (strOf l)=true)/\dY SS [((pA (G.next)),some 155)] a Q):FW SS 146 [(.agg ⟨[(.bool s),(strOf a),(strOf b)]⟩),(.agg ⟨[(.bool t),(strOf c),(strOf d)]⟩)] h Q:=cQ Qs Tryz.func146 (ai H)
noncomputable def U8:FD:=cG Tryz.f113 []
theorem QY(a:LB)(h:ae)(Q:VH)(g:FW SS 109 [(strOf a)] h λe f=>yB e λd=>au d (FW SS 149 [(strOf a),(strOf [48])] f λb c=>yI .i64 b λa=>Q (.bool (decide ((a:Int)>=0))) c) (Q (.bool false) f)):FW SS 113 [(strOf a)] h Q:=cQ U8 Tryz.func113 (ai g)
noncomputable def Yw:FD:=cG Tryz.f104 []
theorem UR(r:LV)(a:LB)(h:ae)(Q:VH)(l:xN (eK SS.P 99 (.agg ⟨r⟩)) h λ_ k=>au ((a:LB)==[105,110,102]) (Q (.bool true) k) (au ((a:LB)==[45,105,110,102]) (fP 99 (pA (h.next)) 2 λj=>lB k j λi=>au i (Q (.bool true) k) (fP 99 (pA (h.next)) 6 λg=>xF (aj SS.P 97 k (.pointer (some g))) λd e f=>au (Nat.blt d YB) (FW SS d (e++[(strOf a)]++f) k λb c=>yB b λa=>Q (.bool a) c) False)) (fP 99 (pA (h.next)) 6 λg=>xF (aj SS.P 97 k (.pointer (some g))) λd e f=>au (Nat.blt d YB) (FW SS d (e++[(strOf a)]++f) k λb c=>yB b λa=>Q (.bool a) c) False))):FW SS 104 [(.agg ⟨r⟩),(strOf a)] h Q:=cQ Yw Tryz.func104 (ai l)
noncomputable def k9:FD:=cG Tryz.f86 [([1,1,1,0,1,0,0],[1,2,8,33,34])]
abbrev jT(a b:LB)(k:Nat)(c:LV)(i:Nat):LV:=[(strOf a),(strOf b),(pA k),(.agg ⟨c⟩),(iA i)]
theorem Kj(t:Int)(a b:LB)(h:ae)(Q:VH)(u:FW SS 69 [(.int .i64 t)] h λr s=>∃q:LV,∃p:Bool,r=(.tuple ⟨[(.agg ⟨q⟩),(.bool p)]⟩)/\xN (br SS.P 99) s λ_ o=>xU (ah SS.P 99 (pA (s.next)) (.agg ⟨q⟩) o) o λ_ n=>au (!p) (Q (.tuple ⟨[(strOf []),(.int .i64 1)]⟩) n) (lA 99 n (pA (s.next)) λm=>FW SS 104 [(.agg ⟨m⟩),(strOf a)] n λk l=>yB k λj=>au (!j) (Q (.tuple ⟨[(strOf []),(.int .i64 1)]⟩) l) (lA 99 l (pA (s.next)) λi=>FW SS 104 [(.agg ⟨i⟩),(strOf b)] l λg h=>yB g λf=>au (!f) (Q (.tuple ⟨[(strOf []),(.int .i64 1)]⟩) h) (fP 99 (pA (s.next)) 0 λe=>lS h e λd=>xA (bh SS.P 131 [(0,(strOf d)),(1,(strOf [105,110,102])),(2,(strOf [45,105,110,102]))]) λc=>LL SS k9 [1,1,1,0,1,0,0] (jT a b (s.next) c 0) h (KK SS k9 [1,1,1,0,1,0] [] (EE SS k9 Q)))))):FW SS 86 [(.int .i64 t),(strOf a),(strOf b)] h Q:=cQ k9 Tryz.func86 (ai u)
theorem vi(p:Int)(a b:LB)(k:Nat)(m:LV)(l:Nat->Nat->ae->Prop)(Q:VH)(step:∀(j:Nat) (i:Nat) (o:Nat->Value) (h:ae),l j i h->au (decide (((i:Int):Int)<3)) (xS (bP SS.P 131 (.agg ⟨m⟩) (iA i)) λc=>au ((a:LB)==c) (Q (.tuple ⟨[(strOf c),(.int .i64 0)]⟩) h) (au ((b:LB)==c) (Q (.tuple ⟨[(strOf c),(.int .i64 0)]⟩) h) (aI (fj (jT a b k m) l) j [(strOf a),(strOf b),(pA k),(.agg ⟨m⟩),(.int .i64 (wrap .i64 ((i:Int)+1)))] h))) (fP 99 (pA k) 4 λi=>xF (aj SS.P 95 h (.pointer (some i))) λe f g=>au (Nat.blt e YB) (FW SS e (f++[(strOf a),(strOf b)]++g) h λc d=>∃b:LB,∃a:Int,c=(.tuple ⟨[(strOf b),(.int .i64 a)]⟩)/\Q (.tuple ⟨[(strOf b),(.int .i64 a)]⟩) d) False))(j:Nat){i:Nat}{h:ae}(n:l j i h):LL SS k9 [1,1,1,0,1,0,0] (jT a b k m i) h (KK SS k9 [1,1,1,0,1,0] [] (EE SS k9 Q)):=
 dg (jT a b k m) l (λj i o h n=>ai (step j i o h n)) j n
noncomputable def A1:FD:=cG Tryz.f166 []
theorem Y7{Q:eQ}(e:xN (br SS.P 9) h λ_ b=>xN (br SS.P 30) b λ_ a=>Q .normal (uN [(.func (.func n) ⟨c⟩ ⟨d⟩),undef,(pA (h.next)),(pA (b.next))] 7) a):TT SS A1 [0] (uN [(.func (.func n) ⟨c⟩ ⟨d⟩)] 10) h Q:=ai e
theorem Y8{g:LV}{j:Value}{Q:eQ}(l:au (Nat.blt n YB) (FW SS n (d++[]++g) h λh i=>yA h λf=>FW SS 184 [(.agg ⟨f⟩)] i λo e=>yS o λc=>xU (ah SS.P 9 (pA m) (strOf c) e) e λ_ b=>xU (ah SS.P 30 (pA k) (.int .i64 0) b) b λ_ a=>Q .ret [(.func (.func n) ⟨d⟩ ⟨g⟩),undef,(pA m),(pA k),(.func (.func 184) ⟨[(.agg ⟨f⟩)]⟩ ⟨[]⟩),j,(.func (.func n) ⟨d⟩ ⟨g⟩),(.agg ⟨f⟩),(.func (.func 184) ⟨[(.agg ⟨f⟩)]⟩ ⟨[]⟩),(.func (.func 184) ⟨[(.agg ⟨f⟩)]⟩ ⟨[]⟩),(strOf c)] a) False):TT SS A1 [1,1] [(.func (.func n) ⟨d⟩ ⟨g⟩),undef,(pA m),(pA k),undef,j,undef,undef,undef,undef,undef] h Q:=ai l
theorem PO(c:n<10^1000)(k:m<10^1000)(y:0<m){h:ae}(p:nO h)(w:Wf h):FW SS 190 [strOf (ag n),strOf (ag m)] h (λv x=>v=three (ag (n/m)) (ag (n%m)) 0/\Ok h x):=by
 have l:Num.valid (ag n)=true:=ee.2 c;have t:Num.valid (ag m)=true:=ee.2 k;refine PN _ _ h _ ((dI _ h).mono ?_);rintro _ i ⟨rfl,g⟩;obtain rfl:h=i:=g.symm;refine⟨_,rfl,aa (λe=>by rw[l]at e;cases e) (λ_=>(dI _ h).mono ?_)⟩;rintro _ i ⟨rfl,g⟩;obtain rfl:h=i:=g.symm;refine⟨_,rfl,aa (λe=>by rw[t]at e;cases e) (λ_=>aa (λe=>?_) (λ_=>?_))⟩
 ·exact absurd (bM.1 (cn e)) (by omega)
 refine(kx l w).mono ?_;rintro _ H ⟨R,B,M,rfl,j,d⟩;refine⟨_,_,_,rfl,(kx t d.wf).mono ?_⟩;rintro _ I ⟨D,C,Q,rfl,q,a⟩;rw[bu]at j q;have L:=hO c;have U:=hO k;have P:=hO (lt_of_le_of_lt (Nat.div_le_self n m) c);have F:=hO (lt_of_le_of_lt (Nat.mod_le n m) c);refine⟨_,_,_,rfl,(xy (j.rd.ok a) q.rd y (by omega) (by omega) a.wf).mono ?_⟩;rintro _ E ⟨J,A,N,K,S,G,rfl,u,z,f⟩;have s:=(d.trans a).trans f;refine⟨_,_,_,_,_,_,rfl,(pa u (by omega) (p.ok s) f.wf).mono ?_⟩;rintro _ O ⟨rfl,b⟩;have o:=s.trans b;refine⟨_,rfl,(pa (z.ok b) (by omega) (p.ok o) b.wf).mono ?_⟩;rintro _ T ⟨rfl,r⟩;exact⟨_,rfl,rfl,o.trans r⟩
theorem FO(d:n<10^1000)(c:m<10^1000)(g:0<m){h:ae}(f:nO h)(w:Wf h):FW SS 176 [strOf (ag n),strOf (ag m)] h (λv e=>v=strOf (ag (n/m))/\Ok h e):=by
 refine Qx _ _ h _ ((PO d c g f w).mono ?_);rintro _ i ⟨rfl,a⟩;refine⟨_,_,_,rfl,(fp _ _).mono ?_⟩;rintro _ b ⟨rfl,j⟩;obtain rfl:i=b:=j.symm;exact⟨_,rfl,rfl,a⟩
theorem BK{cs0:List Value}(w:Wf h)(e:cs0.length=3)(c:g.get k=some (.cells cs0 155 0 true))(i:h.next<=k)(o:Ok h g)(b:Bool)(n d:List UInt8){Q:VH}(f:∀a,Ok h a->Q (rU b n d) a):
  ∃u:dM,ah SS.P 155 (pA k) (.agg ⟨[.bool b,strOf n,strOf d]⟩) g=some (undef,u)/\dY SS [(pA k,some 155)] (u.app g) Q:=by
 refine⟨_,Vj e c b n d,I9 (v:=rU b n d) (Ju ?_) (f _ (o.set _ i (o.wf _ _ c) w))⟩;show(g.set k _).get k=_;rw[ae.aw,if_pos rfl]
theorem FP(s:Bool){N D:Nat}(F:N<10^1000)(k:D<10^1000)(K:0<D)(h1:(ag (N/Nat.gcd N D)).length<=400)(h2:(ag (D/Nat.gcd N D)).length<=400){h:ae}(t:nO h)(w:Wf h):
  FW SS 144 [.bool s,strOf (ag N),strOf (ag D)] h (λv p=>v=rU (s&&decide (N≠0)) (ag (N/Nat.gcd N D)) (ag (D/Nat.gcd N D))/\Ok h p):=by
 have W:Num.valid (ag N)=true:=ee.2 F;have vD:Num.valid (ag D)=true:=ee.2 k;have Q:0<Nat.gcd N D:=Nat.gcd_pos_of_pos_right N K;have g:Nat.gcd N D<10^1000:=lt_of_le_of_lt (Nat.gcd_le_right N K) k;have n:=(Ok.refl w).push qS;refine Qy s _ _ h _ ⟨_,vr,(FE _ _ (t.ok n) n.wf).mono ?_⟩;rintro _ O ⟨rfl,j⟩;rw[xm W vD,bu,bu];refine⟨_,_,rfl,(fp _ _).mono ?_⟩;rintro _ T ⟨rfl,e2⟩;obtain rfl:O=T:=e2.symm;have E:=n.trans j;have f:∀b:Bool,b=(s&&decide (N≠0))->FW SS 176 [strOf (ag N),strOf (ag (Nat.gcd N D))] O λz A=>yS z λP=>FW SS 176 [strOf (ag D),strOf (ag (Nat.gcd N D))] A λM d=>yS M λx=>xA (bh SS.P 155 [(0,(.bool b)),(1,(strOf P)),(2,(strOf x))]) λI=>xN (br SS.P 155) d λx3 i=>xU (ah SS.P 155 (pA (d.next)) (.agg ⟨I⟩) i) i λx2 a=>xP (aG SS.P 155 (pA (d.next)) 1) λy=>xS (aj SS.P 9 a (.pointer (some y))) λJ=>au (decide ((((J:LB).length:Int):Int)>400)) (xA (bh SS.P 176 []) λx1=>False) (xP (aG SS.P 155 (pA (d.next)) 2) λH=>xS (aj SS.P 9 a (.pointer (some H))) λL=>au (decide ((((L:LB).length:Int):Int)>400)) (xA (bh SS.P 176 []) λx4=>False) (xA (aj SS.P 155 a (pA (d.next))) λB=>xU (ah SS.P 155 (pA (h.next)) (.agg ⟨B⟩) a) a λx0 C=>dY SS [((pA (h.next)),some 155)] C (λv p=>v=rU (s&&decide (N≠0)) (ag (N/Nat.gcd N D)) (ag (D/Nat.gcd N D))/\Ok h p))):=by
  intro b S;refine(FO F g Q (t.ok E) j.wf).mono ?_;rintro _ g3 ⟨rfl,r⟩;have R:=E.trans r;refine⟨_,rfl,(FO k g Q (t.ok R) r.wf).mono ?_⟩;rintro _ U ⟨rfl,m⟩;obtain⟨u,s1,G,l⟩:=Dc m.wf b (ag (N/Nat.gcd N D)) (ag (D/Nat.gcd N D));have X:=R.trans m;have Y:=X.trans G;have Z:(u.app (U.push qS)).get h.next=some qS:=G.ext _ _ (m.ext _ _ (r.ext _ _ (j.ext _ _ (aJ h qS))));refine⟨_,rfl,_,Zr _ _ _,_,vr,u,s1,_,pK _,_,l.l1,aa (λq=>?_) (λ_=>⟨_,lR _,_,l.l2,aa (λq=>?_) (λ_=>⟨_,Ju l,BK w rfl Z (Nat.le_refl _) Y _ _ _ (λg' o=>⟨by rw[S],o⟩)⟩)⟩)⟩
  ·have:=dT q;omega
  ·have:=dT q;omega
 have V:(!(ag N==[48]))=decide (N≠0):=by
  by_cases e:N=0
  ·rw[bM.2 e,e];rfl
  ·rw[decide_eq_true e];have:(ag N==[48])=false:=by
    have:=λc=>e (bM.1 c);simpa using this
   rw[this];rfl
 refine⟨_,rfl,aa (λq=>?_) (λq=>?_)⟩
 ·rw[V];exact f _ (by rw[q,Bool.true_and])
 ·exact f false (by rw[q,Bool.false_and])
theorem IS(b:Bool)(n d:List UInt8):eK SS.P 155 (.agg ⟨[.bool b,strOf n,strOf d]⟩)=some (.cells [.bool b,strOf n,strOf d] 155 0 true,k6):=by kernel_rfl
theorem Ma{s:Bool}(l:s=true->n≠0)(t:(ag n).length<=400)(x:(ag m).length<=400){h:ae}(w:Wf h):FW SS 184 [rU s (ag n) (ag m)] h (λv o=>v=strOf (cN s n m)/\Ok h o):=by
 have f:=(Ok.refl w).push (.cells [.bool s,strOf (ag n),strOf (ag m)] 155 0 true);have a:jj (h.push (.cells [.bool s,strOf (ag n),strOf (ag m)] 155 0 true)) h.next s (ag n) (ag m):=aJ h _;have b:∀(p:List UInt8),p.length<=2000->(p++(ag n++(if m=1 then[]else 47::ag m))=cN s n m)->xP (aG SS.P 155 (pA (h.next)) 2) λk=>xS (aj SS.P 9 (h.push (.cells [.bool s,strOf (ag n),strOf (ag m)] 155 0 true)) (.pointer (some k))) λr=>au (!((r:LB)==[49])) (xP (aG SS.P 155 (pA (h.next)) 2) λd=>xS (aj SS.P 9 (h.push (.cells [.bool s,strOf (ag n),strOf (ag m)] 155 0 true)) (.pointer (some d))) λj=>xS (ay SS.P .add 9 (strOf [47]) (strOf j)) λi=>xS (ay SS.P .add 9 (strOf (p++ag n)) (strOf i)) λg=>strOf g=strOf (cN s n m)/\Ok h (h.push (.cells [.bool s,strOf (ag n),strOf (ag m)] 155 0 true))) (strOf (p++ag n)=strOf (cN s n m)/\Ok h (h.push (.cells [.bool s,strOf (ag n),strOf (ag m)] 155 0 true))):=λp u e=>by
  refine⟨_,lR _,_,a.l2,aa (λq=>?_) (λq=>⟨?_,f⟩)⟩
  ·have q:ag m≠[49]:=by simpa using q
   rw[if_neg (λc=>q (ei.2 c))]at e;refine⟨_,lR _,_,a.l2,_,rh _ _ (by simp;omega),_,rh _ _ (by simp;omega),?_,f⟩;rw[<-e,List.append_assoc];rfl
  ·have q:ag m=[49]:=by simpa using q
   rw[if_pos (ei.1 q),List.append_nil]at e;rw[e]
 refine L9 s _ _ h _ ⟨_,IS _ _ _,_,pK _,_,a.l1,_,rF _,_,a.l0,aa (λq=>?_) (λq=>?_)⟩
 ·exact⟨_,rh _ _ (by simp;omega),b [45] (by simp) (Oh ⟨q,l q⟩)⟩
 ·exact b [] (by simp) (HS λc=>by rw[c.1]at q;cases q)
variable{Q:VH}
section
theorem al9:br SS.P 9=some (.cells [strOf []] 9 0 true,k6):=by kernel_rfl
theorem adG:br SS.P 30=some (.cells [.int .i64 0] 30 0 true,k6):=by kernel_rfl
theorem zs9:aE SS.P 9=some 1:=by kernel_rfl
theorem aeB:aE SS.P 30=some 1:=by kernel_rfl
theorem adf:SS.P.underlying 30=some (.int .i64):=by kernel_rfl
theorem abC:Go.Ab.isAgg SS.P 30=false:=by kernel_rfl
theorem Wk:SS.pr 166=some (wG SS.P SS.gl Tryz.f166 (ML Fj) (HM (HM Fj)) 5):=by kernel_rfl
theorem XE(c:aj SS.P 9 g (pA n)=some (strOf s))(a:aj SS.P 30 g (pA m)=some (.int .i64 z))(b:Q (two s z) g):dY SS [(pA n,some 9),(pA m,some 30)] g Q:=by
 unfold dY;simp only[QT,c,a];exact b
theorem abp{g:Nat}{fa:List Value}(K:Nat.blt g YB=true){s:Bool}{n d:Nat}(I:s=true->n≠0)(E:(ag n).length<=400)(R:(ag d).length<=400){h:ae}(w:Wf h)
  (F:∀p,Ok h p->FW SS g (fa++[]++c) p (λv f=>v=rU s (ag n) (ag d)/\Ok p f)):FW SS 166 [.func (.func g) ⟨fa⟩ ⟨c⟩] h (oQ h (some (cN s n d))):=by
 have o:=(Ok.refl w).push (.cells [strOf []] 9 0 true);have z:=o.push (.cells [.int .i64 0] 30 0 true);have A:=(Ok.refl o.wf).push (.cells [.int .i64 0] 30 0 true);have P:((h.push (.cells [strOf []] 9 0 true)).push (.cells [.int .i64 0] 30 0 true)).get h.next=some (.cells [strOf []] 9 0 true):=A.ext _ _ (aJ h _);have N:=aJ (h.push (.cells [strOf []] 9 0 true)) (.cells [.int .i64 0] 30 0 true);generalize r:(h.push (.cells [strOf []] 9 0 true)).push (.cells [.int .i64 0] 30 0 true)=G at*;have D:h.next<=(h.push (.cells [strOf []] 9 0 true)).next:=o.nx;have l:h.next≠(h.push (.cells [strOf []] 9 0 true)).next:=by show h.next≠h.next+1;omega
 generalize B:(h.push (.cells [strOf []] 9 0 true)).next=j at*;have m:TT SS A1 [1,1] [(.func (.func g) ⟨fa⟩ ⟨c⟩),undef,(pA h.next),(pA j),undef,hH,undef,undef,undef,undef,undef] G (λx b f=>x = .ret/\EE SS A1 (oQ h (some (cN s n d))) .ret b f):=by
  refine Y8 (aa (λ_=>(F _ z).mono ?_) (λe=>by rw[K]at e;cases e));rintro _ U ⟨rfl,u⟩;refine⟨_,rfl,(Ma I E R u.wf).mono ?_⟩;rintro _ q ⟨rfl,L⟩;have a:=u.trans L;have y:=a.ext _ _ P;have T:=a.ext _ _ N;have t:=(z.trans a).set (.cells [strOf (cN s n d)] 9 0 true) (Nat.le_refl _) (a.wf _ _ y) w;have k:(q.set h.next (.cells [strOf (cN s n d)] 9 0 true)).get j=some (.cells [.int .i64 0] 30 0 true):=by rw[ae.aw,if_neg (λe=>l e.symm)];exact T
  refine⟨_,rfl,_,iX zs9 y (i:=0) (by simp) (v:=strOf (cN s n d)) rfl rfl,_,iX aeB k (i:=0) (by simp) (v:= .int .i64 0) rfl rfl,rfl,?_⟩;have S:=t.set (.cells [.int .i64 0] 30 0 true) D (t.wf _ _ k) w;have C:((q.set h.next (.cells [strOf (cN s n d)] 9 0 true)).set j (.cells [.int .i64 0] 30 0 true)).get j=some (.cells [.int .i64 0] 30 0 true):=by rw[ae.aw,if_pos rfl]
  have J:((q.set h.next (.cells [strOf (cN s n d)] 9 0 true)).set j (.cells [.int .i64 0] 30 0 true)).get h.next=some (.cells [strOf (cN s n d)] 9 0 true):=by rw[ae.aw,if_neg l,ae.aw,if_pos rfl]
  have H:=XE (Q:=oQ h (some (cN s n d))) (cq KV Rx J (i:=0) (by simp)) (cq adf abC C (i:=0) (by simp)) ⟨rfl,S⟩;exact ai H
 have O:TT SS A1 [0] (uN [(.func (.func g) ⟨fa⟩ ⟨c⟩)] 10) h (λx b M=>x = .normal/\TT SS A1 [1,1] (b.set 5 hH) M λx b f=>x = .ret/\EE SS A1 (oQ h (some (cN s n d))) .ret b f):=by
  refine Y7 ⟨_,al9,_,adG,rfl,?_⟩;rw[r,B];exact ai m
 exact S7 A1 Wk (ai O)
theorem FU{s:Bool}{c:List UInt8}(b:0<m)(a:jZ s n m=some c):(ag (n/Nat.gcd n m)).length<=400/\(ag (m/Nat.gcd n m)).length<=400/\c=cN (s&&decide (n≠0)) (n/Nat.gcd n m) (m/Nat.gcd n m)/\((s&&decide (n≠0))=true->n/Nat.gcd n m≠0):=by
 unfold jZ at a;split at a
 ·cases a
 ·next q=>
  obtain rfl:=oI a;refine⟨by omega,by omega,?_,λe=>?_⟩
  ·unfold cN;by_cases e:n=0
   ·subst e;rw[Nat.zero_div,if_neg (show ¬(s=true/\(0:Nat)≠0)from λc=>c.2 rfl),if_neg (show ¬((s&&decide ((0:Nat)≠0))=true/\(0:Nat)≠0)from λc=>c.2 rfl)]
   ·rw[decide_eq_true e,Bool.and_true]
  ·rw[and_eq_true,decide_eq_true_eq]at e;have d:0<Nat.gcd n m:=Nat.gcd_pos_of_pos_right n b;exact Nat.ne_of_gt (Nat.div_pos (Nat.le_of_dvd (Nat.pos_of_ne_zero e.2) (Nat.gcd_dvd_left n m)) d)
abbrev XY(a:List UInt8):Value:=rU (Num.isNeg a) (Num.numOf a) (ak a)
section
variable {a b:List UInt8} {h:ae}
theorem ace(w:Wf h)(a b c:dS):Ok h (((h.push a).push b).push c)/\(((h.push a).push b).push c).get h.next=some a/\(((h.push a).push b).push c).get (h.push a).next=some b/\(((h.push a).push b).push c).get ((h.push a).push b).next=some c:=by
 have f:=(Ok.refl w).push a;have e:=(Ok.refl f.wf).push b;have d:=(Ok.refl e.wf).push c;exact⟨(f.trans e).trans d,d.ext _ _ (e.ext _ _ (aJ _ _)),d.ext _ _ (aJ _ _),aJ _ _⟩
theorem Mn(d:gI a)(c:gI b)(m:nO h)(w:Wf h){N D:Nat}{s:Bool}(M:s=(de (Num.isNeg a) (Num.val (Num.numOf a)*Num.val (ak b)) (Num.isNeg b) (Num.val (Num.numOf b)*Num.val (ak a))).1)(B:N=(de (Num.isNeg a) (Num.val (Num.numOf a)*Num.val (ak b)) (Num.isNeg b) (Num.val (Num.numOf b)*Num.val (ak a))).2)(q:D=Num.val (ak a)*Num.val (ak b))
  (Q:(ag (N/Nat.gcd N D)).length<=400) (S:(ag (D/Nat.gcd N D)).length<=400):
  FW SS 140 [XY a,XY b] h (λv T=>v=rU (s&&decide (N≠0)) (ag (N/Nat.gcd N D)) (ag (D/Nat.gcd N D))/\Ok h T):=by
 obtain⟨k,f,e,X⟩:=ace w (.cells [.bool (Num.isNeg a),strOf (Num.numOf a),strOf (ak a)] 155 0 true) (.cells [.bool (Num.isNeg b),strOf (Num.numOf b),strOf (ak b)] 155 0 true) qS;refine Mm _ _ _ _ _ _ h _ ⟨_,IS _ _ _,_,IS _ _ _,_,vr,?_⟩;have z:h.next<=((h.push (.cells [.bool (Num.isNeg a),strOf (Num.numOf a),strOf (ak a)] 155 0 true)).push (.cells [.bool (Num.isNeg b),strOf (Num.numOf b),strOf (ak b)] 155 0 true)).next:=Nat.le_trans (le_succ _) (le_succ _);generalize (((h.push (.cells [.bool (Num.isNeg a),strOf (Num.numOf a),strOf (ak a)] 155 0 true)).push (.cells [.bool (Num.isNeg b),strOf (Num.numOf b),strOf (ak b)] 155 0 true)).push qS)=p at*;generalize ((h.push (.cells [.bool (Num.isNeg a),strOf (Num.numOf a),strOf (ak a)] 155 0 true)).push (.cells [.bool (Num.isNeg b),strOf (Num.numOf b),strOf (ak b)] 155 0 true)).next=k3 at*;generalize (h.push (.cells [.bool (Num.isNeg a),strOf (Num.numOf a),strOf (ak a)] 155 0 true)).next=K at*;have f:jj p h.next (Num.isNeg a) (Num.numOf a) (ak a):=f;have e:jj p K (Num.isNeg b) (Num.numOf b) (ak b):=e;have i:Ok p (Go.Ab.room p 26):=(Ok.refl k.wf).room 26;refine⟨_,rF _,_,(f.ok i).l0,_,pK _,_,(f.ok i).l1,_,lR _,_,(e.ok i).l2,(mD _ _ (m.ok (k.trans i)) i.wf).mono ?_⟩;rintro _ Y ⟨rfl,W⟩;rw[(di d.num c.den d.ln c.ld).1];refine⟨_,_,rfl,(fp _ _).mono ?_⟩;rintro _ y ⟨rfl,n⟩;obtain rfl:Y=y:=n.symm;have g:=i.trans W;have u:=k.trans g;refine⟨_,rfl,_,rF _,_,(e.ok g).l0,_,pK _,_,(e.ok g).l1,_,lR _,_,(f.ok g).l2,(mD _ _ (m.ok u) g.wf).mono ?_⟩;rintro _ J ⟨rfl,O⟩;rw[(di c.num d.den c.ln d.ld).1];refine⟨_,_,rfl,(fp _ _).mono ?_⟩;rintro _ C ⟨rfl,n⟩;obtain rfl:J=C:=n.symm;have j:=g.trans O;have R:=k.trans j;have x:=(di d.num c.den d.ln c.ld).2;have I:=(di c.num d.den c.ln d.ld).2;refine⟨_,rfl,(Dk _ _ _ _ x I (m.ok R) j.wf).mono ?_⟩;rintro _ g5 ⟨rfl,P⟩;have l:=j.trans P;have V:=k.trans l;have G:=NV (s:=Num.isNeg a) (t:=Num.isNeg b) x I;refine⟨_,_,rfl,⟨(f.ok g).l0,jg _⟩,⟨(f.ok g).l0,jg _⟩,⟨(f.ok j).l0,jg _⟩,⟨(f.ok j).l0,jg _⟩,⟨(e.ok i).l0,jg _⟩,⟨(e.ok g).l0,jg _⟩,⟨(e.ok j).l0,jg _⟩,⟨(e.ok j).l0,jg _⟩,⟨(e.ok i).l1,kJ _⟩,⟨(e.ok g).l1,kJ _⟩,⟨(f.ok i).l2,kJ _⟩,⟨(f.ok g).l2,kJ _⟩,_,lR _,_,(f.ok l).l2,_,lR _,_,(e.ok l).l2,(mD _ _ (m.ok V) l.wf).mono ?_⟩;rintro _ U ⟨rfl,L⟩;rw[(di d.den c.den d.ld c.ld).1];refine⟨_,_,rfl,(fp _ _).mono ?_⟩;rintro _ E ⟨rfl,n⟩;obtain rfl:U=E:=n.symm;have r:=l.trans L;have A:=k.trans r;have F:=pO (di d.den c.den d.ld c.ld).2;rw[<-B]at G;rw[<-M,<-B,<-q];rw[<-q]at F;refine⟨_,rfl,(FP s G F (by rw[q];exact mul_pos d.den_pos c.den_pos) Q S (m.ok A) r.wf).mono ?_⟩;rintro _ g7 ⟨rfl,H⟩;exact⟨_,rfl,BK w (cs0:=[.bool false,strOf [],strOf []]) rfl ((r.trans H).ext _ _ X) z (A.trans H) _ _ _ (λZ o=>⟨rfl,o⟩)⟩
theorem Mr(g:gI a)(f:gI b)(p:nO h)(w:Wf h){N D:Nat}{s:Bool}(I:s=(Num.isNeg a !=Num.isNeg b))(B:N=Num.val (Num.numOf a)*Num.val (Num.numOf b))(m:D=Num.val (ak a)*Num.val (ak b))
  (K:(ag (N/Nat.gcd N D)).length<=400) (M:(ag (D/Nat.gcd N D)).length<=400):
  FW SS 146 [XY a,XY b] h (λv n=>v=rU (s&&decide (N≠0)) (ag (N/Nat.gcd N D)) (ag (D/Nat.gcd N D))/\Ok h n):=by
 obtain⟨l,e,c,R⟩:=ace w (.cells [.bool (Num.isNeg a),strOf (Num.numOf a),strOf (ak a)] 155 0 true) (.cells [.bool (Num.isNeg b),strOf (Num.numOf b),strOf (ak b)] 155 0 true) qS;refine Mq _ _ _ _ _ _ h _ ⟨_,IS _ _ _,_,IS _ _ _,_,vr,?_⟩;have y:h.next<=((h.push (.cells [.bool (Num.isNeg a),strOf (Num.numOf a),strOf (ak a)] 155 0 true)).push (.cells [.bool (Num.isNeg b),strOf (Num.numOf b),strOf (ak b)] 155 0 true)).next:=Nat.le_trans (le_succ _) (le_succ _);generalize (((h.push (.cells [.bool (Num.isNeg a),strOf (Num.numOf a),strOf (ak a)] 155 0 true)).push (.cells [.bool (Num.isNeg b),strOf (Num.numOf b),strOf (ak b)] 155 0 true)).push qS)=k at*;generalize ((h.push (.cells [.bool (Num.isNeg a),strOf (Num.numOf a),strOf (ak a)] 155 0 true)).push (.cells [.bool (Num.isNeg b),strOf (Num.numOf b),strOf (ak b)] 155 0 true)).next=V at*;generalize (h.push (.cells [.bool (Num.isNeg a),strOf (Num.numOf a),strOf (ak a)] 155 0 true)).next=G at*;have e:jj k h.next (Num.isNeg a) (Num.numOf a) (ak a):=e;have c:jj k G (Num.isNeg b) (Num.numOf b) (ak b):=c;have i:Ok k (Go.Ab.room k 23):=(Ok.refl l.wf).room 23;refine⟨_,rF _,_,(e.ok i).l0,_,rF _,_,(c.ok i).l0,_,pK _,_,(e.ok i).l1,_,pK _,_,(c.ok i).l1,(mD _ _ (p.ok (l.trans i)) i.wf).mono ?_⟩;rintro _ S ⟨rfl,O⟩;rw[(di g.num f.num g.ln f.ln).1];refine⟨_,_,rfl,(fp _ _).mono ?_⟩;rintro _ x ⟨rfl,q⟩;obtain rfl:S=x:=q.symm;have d:=i.trans O;have r:=l.trans d;refine⟨_,rfl,_,lR _,_,(e.ok d).l2,_,lR _,_,(c.ok d).l2,(mD _ _ (p.ok r) d.wf).mono ?_⟩;rintro _ F ⟨rfl,J⟩;rw[(di g.den f.den g.ld f.ld).1];refine⟨_,_,rfl,(fp _ _).mono ?_⟩;rintro _ C ⟨rfl,q⟩;obtain rfl:F=C:=q.symm;have j:=d.trans J;have A:=l.trans j;have t:=pO (di g.num f.num g.ln f.ln).2;have E:=pO (di g.den f.den g.ld f.ld).2;have L:(!(Num.isNeg a==Num.isNeg b))=s:=by rw[I];rfl
 rw[L];rw[<-B,<-m];rw[<-B]at t;rw[<-m]at E;refine⟨_,rfl,(FP s t E (by rw[m];exact mul_pos g.den_pos f.den_pos) K M (p.ok A) j.wf).mono ?_⟩;rintro _ U ⟨rfl,z⟩;obtain⟨u,P,H⟩:=BK w (cs0:=[.bool false,strOf [],strOf []]) rfl ((j.trans z).ext _ _ R) y (A.trans z) (s&&decide (N≠0)) (ag (N/Nat.gcd N D)) (ag (D/Nat.gcd N D)) (Q:=λv n=>v=rU (s&&decide (N≠0)) (ag (N/Nat.gcd N D)) (ag (D/Nat.gcd N D))/\Ok h n) (λT o=>⟨rfl,o⟩);exact⟨_,rfl,u,P,⟨(e.ok d).l0,jg _⟩,⟨(e.ok d).l0,jg _⟩,⟨(e.ok j).l0,jg _⟩,⟨(e.ok j).l0,jg _⟩,⟨(c.ok d).l0,jg _⟩,⟨(c.ok d).l0,jg _⟩,⟨(c.ok j).l0,jg _⟩,⟨(c.ok j).l0,jg _⟩,⟨(e.ok i).l2,kJ _⟩,⟨(e.ok d).l2,kJ _⟩,⟨(c.ok i).l2,kJ _⟩,⟨(c.ok d).l2,kJ _⟩,H⟩
end
end
section
noncomputable def abd:TypeDesc:=(SS.P.underlying 158).getD .bool
theorem ada:SS.P.underlying 158=some abd:=by kernel_rfl
theorem abB:Go.Ab.isAgg SS.P 158=false:=by kernel_rfl
theorem acn(f:Nat):eK SS.P 158 (oU f)=some (.cells [oU f] 158 0 true,k6):=by kernel_rfl
section
variable {a b:List UInt8} {h:ae} {s:Bool} {n d f k1 k2 k3:Nat}
theorem SG(w:Wf h)(r:h.get k1=some (.cells [oU f] 158 0 true))(p:jj h k2 (Num.isNeg a) (Num.numOf a) (ak a))(t:jj h k3 (Num.isNeg b) (Num.numOf b) (ak b))(m:Nat.blt f YB=true)
  (l:∀j,Ok h j->FW SS f [XY a,XY b] j (λv g=>v=rU s (ag n) (ag d)/\Ok j g)):FW SS 167 [pA k1,pA k2,pA k3] h (λv g=>v=rU s (ag n) (ag d)/\Ok h g):=by
 have c:=(Ok.refl w).push qS;have q:=cq ada abB (c.ext _ _ r) (i:=0) (by simp);refine JX k1 k2 k3 h _ ⟨_,vr,f,[],[],q,_,Ju (p.ok c),_,Ju (t.ok c),aa (λ_=>(l _ c).mono ?_) (λe=>by rw[m]at e;cases e)⟩;rintro _ x ⟨rfl,k⟩;exact⟨_,rfl,BK w (cs0:=[.bool false,strOf [],strOf []]) rfl (k.ext _ _ (aJ h _)) (Nat.le_refl _) (c.trans k) _ _ _ (λu o=>⟨rfl,o⟩)⟩
theorem JQ{a:List UInt8}(b:ax a=true):r4 a = .tuple ⟨[XY a,.bool true]⟩:=by unfold r4;rw[if_pos b]
theorem NA(t:ax a=true)(q:ax b=true)(u:nO h)(w:Wf h)(F:s=true->n≠0)(z:(ag n).length<=400)(J:(ag d).length<=400)(H:Nat.blt f YB=true)
  (A:∀j,Ok h j->FW SS f [XY a,XY b] j (λv r=>v=rU s (ag n) (ag d)/\Ok j r)):FW SS 139 [strOf a,strOf b,oU f] h (oQ h (some (cN s n d))):=by
 have M:=lX t;have N:=lX q;have l:=(Ok.refl w).push (.cells [oU f] 158 0 true);refine Mp a b f [] [] h _ ⟨_,acn f,(nr a (by omega) (u.ok l) l.wf).mono ?_⟩;rintro _ K ⟨rfl,p⟩;rw[JQ t];obtain⟨E,I,m,D⟩:=Dc p.wf (Num.isNeg a) (Num.numOf a) (ak a);have k2:=(l.trans p).trans m;refine⟨_,_,rfl,_,vr,E,I,(nr b (by omega) (u.ok k2) m.wf).mono ?_⟩;rintro _ O ⟨rfl,k⟩;rw[JQ q];obtain⟨x,C,i,y⟩:=Dc k.wf (Num.isNeg b) (Num.numOf b) (ak b);have k3:=(k2.trans k).trans i;have B:=(((p.trans m).trans k).trans i).ext _ _ (aJ h (.cells [oU f] 158 0 true));refine⟨_,_,rfl,_,vr,x,C,aa (λe=>by cases e) (λ_=>aa (λe=>by cases e) (λ_=>?_))⟩;refine(abp (g:=167) (fa:=[]) (by decide +kernel) F z J i.wf (λj c=>SG c.wf (c.ext _ _ B) (((D.ok k).ok i).ok c) (y.ok c) H (λr o=>A _ ((k3.trans c).trans o)))).mono ?_;rintro _ L ⟨rfl,G⟩;exact je (k3.trans G)
theorem Qp{c:List UInt8}(l:ax a=true)(d:ax b=true)(p:oF a b=some c)(m:nO h)(w:Wf h):FW SS 107 [strOf a,strOf b] h (oQ h (some c)):=by
 have j:=aP.1 l;have i:=aP.1 d;obtain⟨e,k,rfl,n⟩:=FU (mul_pos j.den_pos i.den_pos) p;refine Qo a b h _ ((NA (f:=140) l d m w n e k (by decide +kernel) (λq o=>Mn j i (m.ok o) o.wf rfl rfl rfl e k)).mono ?_);rintro _ g ⟨rfl,o⟩;exact je o
theorem Qu{c:List UInt8}(l:ax a=true)(d:ax b=true)(p:yT a b=some c)(m:nO h)(w:Wf h):FW SS 111 [strOf a,strOf b] h (oQ h (some c)):=by
 have j:=aP.1 l;have i:=aP.1 d;obtain⟨e,k,rfl,n⟩:=FU (mul_pos j.den_pos i.den_pos) p;refine Qt a b h _ ((NA (f:=146) l d m w n e k (by decide +kernel) (λq o=>Mr j i (m.ok o) o.wf rfl rfl rfl e k)).mono ?_);rintro _ g ⟨rfl,o⟩;exact je o
theorem QZ(c:a.length<=1000000000)(d:nO h)(w:Wf h):FW SS 113 [strOf a] h (λv g=>v = .bool (ax a&&decide (0<=cz a [48]))/\Ok h g):=by
 refine QY a h _ ((pT a c d w).mono ?_);rintro _ i ⟨rfl,b⟩;refine⟨_,rfl,aa (λq=>(FN a [48] c (by simp) (d.ok b) b.wf).mono ?_) (λq=>⟨by rw[q];rfl,b⟩)⟩;rintro _ f ⟨rfl,e⟩;refine⟨_,rfl,?_,b.trans e⟩;rw[q,Bool.true_and]
end
theorem aay(k:Nat):aG SS.P 99 (pA k) 0=some (.pointer (some ⟨k,0,none⟩)):=by kernel_rfl
theorem aaA(k:Nat):aG SS.P 99 (pA k) 2=some (.pointer (some ⟨k,2,none⟩)):=by kernel_rfl
theorem aaB(k:Nat):aG SS.P 99 (pA k) 4=some (.pointer (some ⟨k,4,none⟩)):=by kernel_rfl
theorem S0(k:Nat):aG SS.P 99 (pA k) 6=some (.pointer (some ⟨k,6,none⟩)):=by kernel_rfl
noncomputable def adl:TypeDesc:=(SS.P.underlying 95).getD .bool
theorem aex:SS.P.underlying 95=some adl:=by kernel_rfl
theorem adF:Go.Ab.isAgg SS.P 95=false:=by kernel_rfl
theorem adT(a b:List UInt8)(l:Bool)(f c g d e:Nat):eK SS.P 99 (.agg ⟨[strOf a,strOf b,.bool l,oU f,oU c,oU g,oU d,oU e]⟩)=some (.cells [strOf a,strOf b,.bool l,oU f,oU c,oU g,oU d,oU e] 99 0 true,k6):=by kernel_rfl
def AU(kind:Int):List Value:=if kind=1 then yk else if kind=2 then yl else ym
theorem Ka{kind:Int}(d:1<=kind/\kind<=3):∃b c a:Nat,AU kind=[strOf (bF kind),strOf (sG kind),.bool (kind==1),oU b,oU (if kind=1 then 107 else 111),oU c,oU (if kind=1 then 109 else 113),oU a]:=by
 have:kind=1\/kind=2\/kind=3:=by omega
 rcases this with rfl|rfl|rfl
 ·exact⟨106,108,109,rfl⟩
 ·exact⟨110,112,114,rfl⟩
 ·exact⟨106,115,114,rfl⟩
theorem aaM{kind:Int}(a:1<=kind/\kind<=3):X7 kind = .tuple ⟨[.agg ⟨AU kind⟩,.bool true]⟩:=by
 have:kind=1\/kind=2\/kind=3:=by omega
 rcases this with rfl|rfl|rfl<;>rfl
section
variable {kind:Int} {a b:List UInt8} {h:ae}
theorem J9(p:1<=kind/\kind<=3)(o:a.length<=1000000000)(s:nO h)(w:Wf h):FW SS 104 [.agg ⟨AU kind⟩,strOf a] h (λv g=>v = .bool (aM kind a)/\Ok h g):=by
 obtain⟨y,z,u,G⟩:=Ka p;rw[G];have m:aM kind a=(a==[105,110,102]||a==[45,105,110,102]&&kind==1||ax a&&(kind==1||decide (0<=cz a [48]))):=by
  unfold aM;rw[decide_eq_true p,Bool.true_and]
 have d:=(Ok.refl w).push (.cells [strOf (bF kind),strOf (sG kind),.bool (kind==1),oU y,oU (if kind=1 then 107 else 111),oU z,oU (if kind=1 then 109 else 113),oU u] 99 0 true);have t:=aJ h (.cells [strOf (bF kind),strOf (sG kind),.bool (kind==1),oU y,oU (if kind=1 then 107 else 111),oU z,oU (if kind=1 then 109 else 113),oU u] 99 0 true);have F:=cq un4 ag4 t (i:=2) (by simp);have r:=cq adm abF t (i:=6) (by simp);have call:∀k,Ok h k->a≠[105,110,102]->(a==[45,105,110,102]&&kind==1)=false->au (Nat.blt (if kind=1 then 109 else 113) YB) (FW SS (if kind=1 then 109 else 113) ([]++[strOf a]++[]) k λE x=>yB E λn=>(.bool n:Value) = .bool (aM kind a)/\Ok h x) False:=by
  intro k b A D;have B:aM kind a=(ax a&&(kind==1||decide (0<=cz a [48]))):=by
   rw[m,D,Bool.or_false];have:(a==[105,110,102])=false:=by simpa using A
   rw[this,Bool.false_or]
  rw[B];by_cases c:kind=1
  ·subst c;refine aa (λ_=>(pT a o (s.ok b) b.wf).mono ?_) (λe=>by revert e;decide +kernel);rintro _ C ⟨rfl,l⟩;exact⟨_,rfl,by simp,b.trans l⟩
  ·rw[if_neg c];refine aa (λ_=>(QZ o (s.ok b) b.wf).mono ?_) (λe=>by revert e;decide +kernel);rintro _ C ⟨rfl,l⟩;refine⟨_,rfl,?_,b.trans l⟩;have:(kind==1)=false:=by simpa using c
   rw[this,Bool.false_or]
 refine UR _ a h _ ⟨_,adT _ _ _ _ _ _ _ _,aa (λq=>⟨by rw[m,q];rfl,d⟩) (λq=>aa (λj=>⟨_,aaA _,_,F,aa (λf=>⟨?_,d⟩) (λf=>?_)⟩) (λj=>?_))⟩
 ·rw[m,j,f];simp
 ·refine⟨_,S0 _,_,[],[],r,call _ d (cd q) (by rw[f,Bool.and_false])⟩
 ·exact⟨_,S0 _,_,[],[],r,call _ d (cd q) (by rw[j,Bool.false_and])⟩
theorem aci(a b c:List UInt8):bh SS.P 131 [(0,strOf a),(1,strOf b),(2,strOf c)]=some (.agg ⟨[strOf a,strOf b,strOf c]⟩):=by kernel_rfl
theorem XM(a b c:List UInt8):bP SS.P 131 (.agg ⟨[strOf a,strOf b,strOf c]⟩) (iA 0)=some (strOf a):=by kernel_rfl
theorem XN(a b c:List UInt8):bP SS.P 131 (.agg ⟨[strOf a,strOf b,strOf c]⟩) (iA 1)=some (strOf b):=by kernel_rfl
theorem XO(a b c:List UInt8):bP SS.P 131 (.agg ⟨[strOf a,strOf b,strOf c]⟩) (iA 2)=some (strOf c):=by kernel_rfl
theorem Kk{c:List UInt8}(t:aM kind a=true)(D:aM kind b=true)(d:cD kind a b=some c)(x:nO h)(w:Wf h):FW SS 86 [.int .i64 kind,strOf a,strOf b] h (oQ h (some c)):=by
 have v:1<=kind/\kind<=3:=by have:=gA t;omega
 have W:=pY t;have Y:=pY D;refine Kj kind a b h _ ((Dv kind w).mono ?_);rintro _ r ⟨rfl,E⟩;rw[aaM v];obtain⟨f1,f3,X,y⟩:=Ka v;have F:(AU kind).length=8:=by rw[y];rfl
 have O:(AU kind).all dO=true:=by rw[y];rfl
 refine⟨_,_,rfl,_,RZ,_,kS DJ rfl (aJ r KQ) F O,?_⟩;obtain⟨H,k2⟩:=ph (cs:=AU kind) E.wf ((Ok.refl E.wf).push KQ) (aJ r KQ) (Nat.le_refl _);generalize (dM.set r.next (.cells (AU kind) 99 0 true)).app (r.push KQ)=P at*;have B:=E.trans H;have z:∀g,Ok P g->aj SS.P 99 g (pA r.next)=some (.agg ⟨AU kind⟩):=λg o=>by
  rw[o0 ado abG DJ (o.ext _ _ k2) (by omega),drop_zero,take_of_length_le (by omega)]
 refine aa (λe=>by cases e) (λ_=>⟨_,z _ (Ok.refl H.wf),(J9 v (by omega) (x.ok B) H.wf).mono ?_⟩);rintro _ Z ⟨rfl,u⟩;have A:=B.trans u;refine⟨_,rfl,aa (λe=>by rw[t]at e;cases e) (λ_=>⟨_,z _ u,(J9 v (by omega) (x.ok A) u.wf).mono ?_⟩)⟩;rintro _ Q ⟨rfl,s⟩;have f:=A.trans s;have C:=u.trans s;have N:=cq KV Rx (C.ext _ _ k2) (i:=0) (by omega);rw[y]at N;have M:=cq aex adF (C.ext _ _ k2) (i:=4) (by omega);rw[y]at M;refine⟨_,rfl,aa (λe=>by rw[D]at e;cases e) (λ_=>⟨_,aay _,_,N,_,aci _ _ _,?_⟩)⟩;unfold cD at d;refine vi kind a b r.next [strOf (bF kind),strOf [105,110,102],strOf [45,105,110,102]] (λJ i g=>i<=3/\J=3-i/\g=Q/\(1<=i->a≠bF kind/\b≠bF kind)/\(2<=i->a≠dj/\b≠dj)/\(3<=i->a≠hZ/\b≠hZ)) _ (λJ i=>?_) 3 (i:=0) ⟨by omega,rfl,rfl,λe=>by omega,λe=>by omega,λe=>by omega⟩;intros;rename_i g I;obtain⟨U,V,rfl,j,m,p⟩:=I;refine aa (λq=>?_) (λq=>?_)
 ·have S:i=0\/i=1\/i=2:=by have:=dT q;omega
  have R:wrap .i64 ((i:Int)+1)=((i+1:Nat):Int):=aN (n:=3) (by omega) (by omega);rw[R];rcases S with rfl|rfl|rfl
  ·refine⟨_,XM _ _ _,aa (λl=>⟨?_,f⟩) (λl=>aa (λk=>⟨?_,f⟩) (λk=>?_))⟩
   ·rw[if_pos (.inl (cn l))]at d;rw[<-d];rfl
   ·rw[if_pos (.inr (cn k))]at d;rw[<-d];rfl
   ·exact bZ 2 (by omega) ⟨by omega,rfl,rfl,λ_=>⟨cd l,cd k⟩,λe=>by omega,λe=>by omega⟩
  ·have j:=j (by omega);rw[if_neg (λe=>e.elim j.1 j.2)]at d;refine⟨_,XN _ _ _,aa (λl=>⟨?_,f⟩) (λl=>aa (λk=>⟨?_,f⟩) (λk=>?_))⟩
   ·rw[if_pos (.inl (cn l))]at d;rw[<-d];rfl
   ·rw[if_pos (.inr (cn k))]at d;rw[<-d];rfl
   ·exact bZ 1 (by omega) ⟨by omega,rfl,rfl,λ_=>j,λe=>⟨cd l,cd k⟩,λe=>by omega⟩
  ·have j:=j (by omega);have m:=m (by omega);rw[if_neg (λe=>e.elim j.1 j.2),if_neg (λe=>e.elim m.1 m.2)]at d;refine⟨_,XO _ _ _,aa (λl=>⟨?_,f⟩) (λl=>aa (λk=>⟨?_,f⟩) (λk=>?_))⟩
   ·rw[if_pos (.inl (cn l))]at d;rw[<-d];rfl
   ·rw[if_pos (.inr (cn k))]at d;rw[<-d];rfl
   ·exact bZ 0 (by omega) ⟨by omega,rfl,rfl,λ_=>j,λ_=>m,λ_=>⟨cd l,cd k⟩⟩
 ·obtain rfl:i=3:=by have:=dF q;omega
  have j:=j (by omega);have m:=m (by omega);have p:=p (by omega);rw[if_neg (λe=>e.elim j.1 j.2),if_neg (λe=>e.elim m.1 m.2),if_neg (λe=>e.elim p.1 p.2)]at d;have L:=lf t m.1 (.inr p.1);have K:=lf D m.2 (.inr p.2);refine⟨_,aaB _,_,[],[],M,?_⟩;by_cases c:kind=1
  ·rw[if_pos c]at d⊢;refine aa (λ_=>(Qp L K d (x.ok f) s.wf).mono ?_) (λe=>by revert e;decide +kernel);rintro _ T ⟨rfl,G⟩;exact je (f.trans G)
  ·rw[if_neg c]at d⊢;refine aa (λ_=>(Qu L K d (x.ok f) s.wf).mono ?_) (λe=>by revert e;decide +kernel);rintro _ T ⟨rfl,G⟩;exact je (f.trans G)
end
end
noncomputable def UZ:FD:=cG Tryz.f181 []
theorem QU(i:Nat)(c:LB)(h:ae)(Q:VH)(j:fP 136 (pA i) 1 λg=>lB h g λf=>au f (fP 136 (pA i) 0 λe=>lI h e λd=>FW SS 18 [(.int .i64 d)] h λb c=>yS b λa=>Q (strOf a) c) (Q (strOf c) h)):FW SS 181 [(pA i),(strOf c)] h Q:=cQ UZ Tryz.func181 (ai j)
noncomputable def YA:FD:=cG Tryz.f158 []
theorem U0(n:Nat)(a b:LB)(h:ae)(Q:VH)(o:fP 136 (pA n) 0 λm=>lI h m λl=>FW SS 62 [(.int .i64 l),(strOf a),(strOf b)] h λj k=>∃i:LB,∃h:Int,j=(.tuple ⟨[(strOf i),(.int .i64 h)]⟩)/\fP 136 (pA n) 1 λg=>lB k g λf=>au f (fP 136 (pA n) 1 λe=>xU (ah SS.P 4 (.pointer (some e)) (.bool true) k) k λ_ d=>FW SS 181 [(pA n),(strOf i)] d λb c=>yS b λa=>Q (strOf a) c) (fP 136 (pA n) 1 λe=>xU (ah SS.P 4 (.pointer (some e)) (.bool (((h:Int) !=0))) k) k λ_ d=>FW SS 181 [(pA n),(strOf i)] d λb c=>yS b λa=>Q (strOf a) c)):FW SS 158 [(pA n),(strOf a),(strOf b)] h Q:=cQ YA Tryz.func158 (ai o)
noncomputable def U4:FD:=cG Tryz.f159 []
theorem QW(n:Nat)(a b:LB)(h:ae)(Q:VH)(o:fP 136 (pA n) 0 λm=>lI h m λl=>FW SS 65 [(.int .i64 l),(strOf a),(strOf b)] h λj k=>∃i:LB,∃h:Int,j=(.tuple ⟨[(strOf i),(.int .i64 h)]⟩)/\fP 136 (pA n) 1 λg=>lB k g λf=>au f (fP 136 (pA n) 1 λe=>xU (ah SS.P 4 (.pointer (some e)) (.bool true) k) k λ_ d=>FW SS 181 [(pA n),(strOf i)] d λb c=>yS b λa=>Q (strOf a) c) (fP 136 (pA n) 1 λe=>xU (ah SS.P 4 (.pointer (some e)) (.bool (((h:Int) !=0))) k) k λ_ d=>FW SS 181 [(pA n),(strOf i)] d λb c=>yS b λa=>Q (strOf a) c)):FW SS 159 [(pA n),(strOf a),(strOf b)] h Q:=cQ U4 Tryz.func159 (ai o)
noncomputable def YC:FD:=cG Tryz.f157 []
theorem U1(n:Nat)(a:LB)(h:ae)(Q:VH)(o:fP 136 (pA n) 0 λm=>lI h m λl=>FW SS 67 [(.int .i64 l),(strOf a)] h λj k=>∃i:LB,∃h:Int,j=(.tuple ⟨[(strOf i),(.int .i64 h)]⟩)/\fP 136 (pA n) 1 λg=>lB k g λf=>au f (fP 136 (pA n) 1 λe=>xU (ah SS.P 4 (.pointer (some e)) (.bool true) k) k λ_ d=>FW SS 181 [(pA n),(strOf i)] d λb c=>yS b λa=>Q (strOf a) c) (fP 136 (pA n) 1 λe=>xU (ah SS.P 4 (.pointer (some e)) (.bool (((h:Int) !=0))) k) k λ_ d=>FW SS 181 [(pA n),(strOf i)] d λb c=>yS b λa=>Q (strOf a) c)):FW SS 157 [(pA n),(strOf a)] h Q:=cQ YC Tryz.func157 (ai o)
noncomputable def nn:FD:=cG Tryz.f123 [([1,1,0,1,0,0],[0,1,4,5]),([1,1,0,1,0,0,1,0,0,1,1,0,0],[0,1,4,5,6])]
abbrev lq(b:Int)(a:OA)(n c:Nat)(i:Nat):LV:=[(.int .i64 b),(.slice a n c),(.bool false),(iA i)]
abbrev pP(b:Int)(a:OA)(n c i:Nat)(j:Nat):LV:=[(.int .i64 b),(.slice a n c),(.bool false),(iA i),(iA j)]
theorem aaI(f:Int)(a:OA)(n c:Nat)(h:ae)(Q:VH)(g:FW SS 14 [(.int .i64 f)] h λd e=>yB d λb=>au (!b) (Q (.bool false) e) (LL SS nn [1,1,0,1,0,0] (lq f a n c 0) e (KK SS nn [1,1,0,1,0] [] (EE SS nn Q)))):FW SS 123 [(.int .i64 f),(.slice a n c)] h Q:=cQ nn Tryz.func123 (ai g)
theorem C3(e:Int)(a:OA)(n c:Nat)  (g:Nat->Nat->ae->Prop) (Q:VH) (step:∀(f:Nat)(i:Nat)(k:Nat->Value)(h:ae),g f i h->au (decide (((i:Int):Int)<(n:Int))) (iP 103 (.slice a n c) (iA i) λd=>lL 107 h d λ_ b _=>au ((((b:Int):Int) !=(n:Int))) (Q (.bool false) h) (LL SS nn [1,1,0,1,0,0,1,0,0,1,1,0,0] (pP e a n c i 0) h (KK SS nn [1,0,0,1,1,0] [1,1,0,1,0,0] (RR nn [1,1,0,1,0,0] (fj (lq e a n c) g) f (KK SS nn [1,1,0,1,0] [] (EE SS nn Q)))))) (Q (.bool true) h)) (f:Nat) {i:Nat} {h:ae} (j:g f i h):LL SS nn [1,1,0,1,0,0] (lq e a n c i) h (KK SS nn [1,1,0,1,0] [] (EE SS nn Q)):=
 dg (lq e a n c) g (λf i k h j=>ai (step f i k h j)) f j
theorem C4(p:Int)(a:OA)(n c:Nat)(s:Nat->Nat->ae->Prop)(u i:Nat)(r:Nat->Nat->ae->Prop)(Q:VH)(step:∀(q:Nat) (j:Nat) (v:Nat->Value) (h:ae),r q j h->au (decide (((j:Int):Int)<(n:Int))) (iP 103 (.slice a n c) (iA i) λo=>lL 107 h o λk l m=>iP 107 (.slice k l m) (iA j) λg=>lS h g λf=>FW SS 47 [(.int .i64 p),(strOf f)] h λd e=>yB d λb=>au (!b) (Q (.bool false) e) (aI (fj (pP p a n c i) r) q [(.int .i64 p),(.slice a n c),(.bool false),(iA i),(.int .i64 (wrap .i64 ((j:Int)+1)))] e)) (aI (fj (lq p a n c) s) u [(.int .i64 p),(.slice a n c),(.bool false),(.int .i64 (wrap .i64 ((i:Int)+1)))] h))(q:Nat){j:Nat}{h:ae}(t:r q j h):LL SS nn [1,1,0,1,0,0,1,0,0,1,1,0,0] (pP p a n c i j) h (KK SS nn [1,0,0,1,1,0] [1,1,0,1,0,0] (RR nn [1,1,0,1,0,0] (fj (lq p a n c) s) u (KK SS nn [1,1,0,1,0] [] (EE SS nn Q)))):=
 dg (pP p a n c i) r (λq j v h t=>ai (step q j v h t)) q t
noncomputable def nw:FD:=cG Tryz.f156 [([1,1,0,1,0,0],[0,1,5,6]),([1,1,0,1,0,0,1,0,0,1,0,0],[0,1,5,6,7])]
abbrev lE(a:Int)(n b:Nat)(i:Nat):LV:=[(.int .i64 a),(iA n),(sA b n n),(iA i)]
abbrev p0(a:Int)(n b i:Nat)(j:Nat):LV:=[(.int .i64 a),(iA n),(sA b n n),(iA i),(iA j)]
theorem abq(d:Int)(n:Nat)(h:ae)(Q:VH)(e:xR (ch SS.P 103 (iA n) (iA n)) h λ_ a b c=>LL SS nw [1,1,0,1,0,0] [(.int .i64 d),(iA n),(sA (h.next) a b),(.int .i64 0)] c (KK SS nw [1,1,0,1,0] [] (EE SS nw Q))):FW SS 156 [(.int .i64 d),(iA n)] h Q:=cQ nw Tryz.func156 (ai e)
theorem D7(a:Int)(n:Nat)(d:Nat)(c:Nat->Nat->ae->Prop)(Q:VH)(step:∀(b:Nat) (i:Nat) (f:Nat->Value) (h:ae),c b i h->au (decide (((i:Int):Int)<(n:Int))) (LL SS nw [1,1,0,1,0,0,1,0,0,1,0,0] (p0 a n d i 0) h (KK SS nw [1,0,0,1,0] [1,1,0,1,0,0] (RR nw [1,1,0,1,0,0] (fj (lE a n d) c) b (KK SS nw [1,1,0,1,0] [] (EE SS nw Q))))) (Q (sA d n n) h))(b:Nat){i:Nat}{h:ae}(e:c b i h):LL SS nw [1,1,0,1,0,0] (lE a n d i) h (KK SS nw [1,1,0,1,0] [] (EE SS nw Q)):=
 dg (lE a n d) c (λb i f h e=>ai (step b i f h e)) b e
theorem D8(u:Int)(n:Nat)(w:Nat)(y:Nat->Nat->ae->Prop)(A i:Nat)(x:Nat->Nat->ae->Prop)(Q:VH)(step:∀(v:Nat) (j:Nat) (B:Nat->Value) (h:ae),x v j h->au (decide (((j:Int):Int)<(n:Int))) (iP 103 (sA w n n) (iA i) λt=>lL 107 (room h 12) t λq r s=>FW SS 18 [(.int .i64 u)] (room h 12) λo p=>yS o λm=>zR (aF SS.P 107 1 [(0,(strOf m))]) λg k l=>xE (bI SS.P 107 107 (.slice q r s) (sA (h.next+8) k l) (cj p h.next [(8,g)])) (cj p h.next [(8,g)]) λc d e _ f=>iP 103 (sA w n n) (iA i) λb=>xU (ah SS.P 107 (.pointer (some b)) (.slice c d e) f) f λ_ a=>(aj SS.P 107 p (.pointer (some t))=some (.slice q r s)/\dG 4 (.slice q r s) (.slice q r s)=true)/\aI (fj (p0 u n w i) x) v [(.int .i64 u),(iA n),(sA w n n),(iA i),(.int .i64 (wrap .i64 ((j:Int)+1)))] a) (aI (fj (lE u n w) y) A [(.int .i64 u),(iA n),(sA w n n),(.int .i64 (wrap .i64 ((i:Int)+1)))] h))(v:Nat){j:Nat}{h:ae}(z:x v j h):LL SS nw [1,1,0,1,0,0,1,0,0,1,0,0] (p0 u n w i j) h (KK SS nw [1,0,0,1,0] [1,1,0,1,0,0] (RR nw [1,1,0,1,0,0] (fj (lE u n w) y) A (KK SS nw [1,1,0,1,0] [] (EE SS nw Q)))):=
 dg (p0 u n w i) x (λv j B h z=>ai (step v j B h z)) v z
section
theorem dm(s:dP)(l:List dP):cg (s::l)=s.arcs.length+cg l:=by simp[cg]
theorem C2{s:dP}:∀{l:List dP},s∈l->s.arcs.length<=cg l
 |x::l,h=>by
  rw[dm];rcases mem_cons.1 h with rfl|h
  ·omega
  ·have:=C2 h;omega
theorem Oe{B:Nat}:∀{l:List dP},(∀s∈l,s.arcs.length<=B)->cg l<=l.length*B
 |[],_=>by simp[cg]
 |x::l,h=>by
  rw[dm,List.length_cons,Nat.add_mul,Nat.one_mul];have b:=h x (List.mem_cons_self ..);have c:=Oe (l:=l) λs a=>h s (List.mem_cons_of_mem _ a);omega
def Bnd(M:bw):Prop:=∀s∈M.af,s.arcs.length<=281474976710656
section
variable {h:ae} {k:Nat} {M:bw} {a:Option Addr} {n c:Nat}
theorem Uy(w:Wf h)(D:Bnd M)(t:M.af.length<=300)(r:dx h (.slice a n c) M.af):FW SS 56 [.agg ⟨bK M a n c⟩] h (λv E=>v = .int .i64 (cg M.af:Nat)/\Ok h E):=by
 obtain⟨x,I⟩:=fo w r;refine Ux (bK M a n c) h _ ⟨_,iH M a n c,?_⟩;generalize h.push (Bm M a n c)=g at*;have J:=x.len;have C:=Oe D;have u:M.af.length*281474976710656<=300*281474976710656:=Nat.mul_le_mul_right _ t;have P:cg M.af<=300*281474976710656:=Nat.le_trans C u;refine zN (bK M a n c) h.next (λm i f p=>i<=n/\m=n-i/\MB p h.next M a n c/\Ok h p/\∃j:Nat,f=(j:Int)/\j+cg (M.af.drop i)=cg M.af) (iQ h (cg M.af:Nat)) (λm i f=>?_) n (i:=0) (acc:=0) ⟨by omega,rfl,x,I,0,rfl,by rw[drop_zero];omega⟩;intros;rename_i N H;obtain⟨R,O,d,l,j,rfl,k⟩:=H;refine⟨_,da _,_,_,_,d.l3,aa (λe=>?_) (λe=>?_)⟩
 ·have e:=dT e;obtain⟨s,q⟩:∃s,M.af[i]?=some s:=⟨_,gE (by omega)⟩
  obtain⟨b,o,K,y,z,B,Q,L,F,A⟩:=d.row.at_ q;have S:=A.len;rw[fG q,dm]at k;refine⟨_,da _,_,_,_,d.l3,_,B,_,iu _ _,_,_,_,F,?_⟩;have G:wrap .i64 ((j:Int)+(y:Int))=((j+y:Nat):Int):=by rw[aB (by omega) (by omega)];omega
  dsimp only;rw[G,aN (i:=i) (n:=n) (by omega) (by omega)];exact iI (m-1) (by omega) ⟨by omega,by omega,d,l,_,rfl,by omega⟩
 ·have e:=dF e;rw[drop_eq_nil_of_le (by omega)]at k;refine⟨?_,l⟩;rw[show cg []=0 from rfl,Nat.add_zero]at k;rw[k]
end
end
theorem Af{a:Int}{N:Nat}:∀{l:List dP}{c:Int},nQ a N c l=true->∀s∈l,(s.f==[]||ba a s.f)=true/\∀q∈s.arcs,hI a N q=true
 |[],_,_,s,b=>by cases b
 |x::l,c,h,s,b=>by
  unfold nQ at h;simp only[and_eq_true]at h;obtain⟨⟨⟨i,f⟩,d⟩,g⟩:=h;rcases mem_cons.1 b with rfl|b
  ·exact⟨f,λq e=>List.all_eq_true.1 d q e⟩
  ·exact Af g s b
theorem ac4:aE SS.P 4=some 1:=by kernel_rfl
section
theorem Dy:SS.P.underlying 107=some (.slice 9):=by kernel_rfl
theorem nP:SS.P.underlying 103=some (.slice 107):=by kernel_rfl
theorem zz9:aE SS.P 9=some 1:=by kernel_rfl
theorem nz:aE SS.P 107=some 1:=by kernel_rfl
theorem IF:Go.Ab.isAgg SS.P 107=false:=by kernel_rfl
theorem ty:ZT SS.P 103 107:=⟨nP,Dy,KV,nz,zz9,IF,Rx⟩
theorem oa(k:Nat):aG SS.P 136 (.pointer (some ⟨k,0,none⟩)) 0=some (.pointer (some ⟨k,0,none⟩)):=by kernel_rfl
theorem pJ(k:Nat):aG SS.P 136 (.pointer (some ⟨k,0,none⟩)) 1=some (.pointer (some ⟨k,1,none⟩)):=by kernel_rfl
def nh(g:ae)(ks:Nat)(kind:Int)(bad:Bool):Prop:=g.get ks=some (.cells [.int .i64 kind,.bool bad] 136 0 true)
section
variable {g g' h:ae} {ks:Nat} {kind:Int} {bad:Bool}
theorem nh.l0(s:nh g ks kind bad):aj SS.P 3 g (.pointer (some ⟨ks,0,none⟩))=some (.int .i64 kind):=cq Gm Fa s (by simp)
theorem nh.l1(s:nh g ks kind bad):aj SS.P 4 g (.pointer (some ⟨ks,1,none⟩))=some (.bool bad):=cq un4 ag4 s (by simp)
theorem nh.st(s:nh g ks kind bad)(b:Bool):ah SS.P 4 (.pointer (some ⟨ks,1,none⟩)) (.bool b) g=some (undef,.set ks (.cells [.int .i64 kind,.bool b] 136 0 true)):=iX ac4 s (by simp) rfl rfl
theorem nh.set(w:Wf g)(s:nh g ks kind bad)(b:Bool):nh ((dM.set ks (.cells [.int .i64 kind,.bool b] 136 0 true)).app g) ks kind b/\zd (λk=>k=ks) g ((dM.set ks (.cells [.int .i64 kind,.bool b] 136 0 true)).app g):=
 ⟨by show(g.set ks _).get ks=_;rw[ae.aw,if_pos rfl],zd.set (X:=λk=>k=ks) w rfl (w _ _ s) _⟩
theorem nh.ok(s:nh g ks kind bad)(o:Ok g g'):nh g' ks kind bad:=o.ext _ _ s
theorem xQ{a b c:List UInt8}(d:aM kind a=true)(e:aM kind b=true)(h:eR kind a b=some c):aM kind c=true:=by
 obtain⟨K,S,g,f⟩:=wR (kind:=kind) (by have:=gA d;omega);exact(f.plus d e h).1
theorem Ah{a b c:List UInt8}(d:aM kind a=true)(e:aM kind b=true)(h:cD kind a b=some c):aM kind c=true:=by
 obtain⟨K,S,g,f⟩:=wR (kind:=kind) (by have:=gA d;omega);exact(f.times d e h).1
theorem Vm{a c:List UInt8}(b:aM kind a=true)(h:lJ kind a=some c):aM kind c=true:=by
 obtain⟨K,S,e,d⟩:=wR (kind:=kind) (by have:=gA b;omega);exact(d.star b h).1
theorem sC(b:1<=kind/\kind<=3):aM kind (bF kind)=true:=by
 obtain rfl|rfl|rfl:kind=1\/kind=2\/kind=3:=by omega
 ·decide
 ·exact qA (a:=[48]) (.inl rfl) ef (by rw[fz];exact Rat.le_refl)
 ·exact qA (a:=[48]) (.inr rfl) ef (by rw[fz];exact Rat.le_refl)
theorem aaN(a:1<=kind/\kind<=3):aM kind (sG kind)=true:=by
 obtain rfl|rfl|rfl:kind=1\/kind=2\/kind=3:=by omega
 ·decide
 ·exact qy (.inl rfl)
 ·exact qy (.inr rfl)
theorem QV(b:1<=kind/\kind<=3)(c:List UInt8)(s:nh h ks kind bad):FW SS 181 [pA ks,strOf c] h (λv a=>v=strOf (if bad=true then bF kind else c)/\a=h):=by
 refine QU ks c h _ ⟨_,pJ _,_,s.l1,aa (λq=>⟨_,oa _,_,s.l0,(gT b h).mono ?_⟩) (λq=>⟨?_,rfl⟩)⟩
 ·rintro _ e ⟨rfl,d⟩;obtain rfl:h=e:=d.symm;exact⟨_,rfl,by rw[if_pos q],rfl⟩
 ·rw[q];rfl
def sQ(g:ae)(ks:Nat)(kind:Int)(bad:Bool)(o:Option (List UInt8)):VH:=λv g'=>∃(a:Bool)(c:List UInt8),v=strOf c/\nh g' ks kind a/\zd (λk=>k=ks) g g'/\aM kind c=true/\(a=false->bad=false/\o=some c)/\(a=true->bad=true\/o=none)
theorem U3(x:1<=kind/\kind<=3)(w:Wf g')(s:nh g' ks kind bad)(C:Ok g g'){o:Option (List UInt8)}(G:∀c,o=some c->aM kind c=true):∃(m:List UInt8)(u:Int),Mf o=(.tuple ⟨[(strOf m),(.int .i64 u)]⟩)/\xP (aG SS.P 136 (pA ks) 1) λF=>xB (aj SS.P 4 g' (.pointer (some F))) λE=>au E (xP (aG SS.P 136 (pA ks) 1) λH=>xU (ah SS.P 4 (.pointer (some H)) (.bool true) g') g' λI v=>FW SS 181 [(pA ks),(strOf m)] v λd j=>yS d λf=>sQ g ks kind bad o (strOf f) j) (xP (aG SS.P 136 (pA ks) 1) λt=>xU (ah SS.P 4 (.pointer (some t)) (.bool (((u:Int) !=0))) g') g' λJ A=>FW SS 181 [(pA ks),(strOf m)] A λp B=>yS p λn=>sQ g ks kind bad o (strOf n) B):=by
 have a:∀(b:Bool)(l:List UInt8),(b=false->bad=false/\o=some l)->(b=true->bad=true\/o=none)->FW SS 181 [(pA ks),(strOf l)] ((dM.set ks (.cells [.int .i64 kind,.bool b] 136 0 true)).app g') λd j=>yS d λf=>sQ g ks kind bad o (strOf f) j:=λb l i r=>by
  obtain⟨y,D⟩:=s.set w b;refine(QV x l y).mono ?_;rintro _ K ⟨rfl,z⟩;refine⟨_,rfl,b,_,rfl,by rw[z];exact y,by rw[z];exact C.okS.trans D,?_,?_,r⟩
  ·cases b with
   |true=>exact sC x
   |false=>exact G _ (i rfl).2
  ·intro k;refine⟨(i k).1,?_⟩;rw[(i k).2,k];rfl
 cases e:o with
 |some l=>
  refine⟨_,_,rfl,_,pJ _,_,s.l1,aa (λq=>⟨_,pJ _,_,s.st true,?_⟩) (λq=>⟨_,pJ _,_,s.st _,?_⟩)⟩
  ·rw[e]at a;exact a true l (λh=>by cases h) (λ_=> .inl q)
  ·rw[e]at a;exact a false l (λh=>⟨q,rfl⟩) (λh=>by cases h)
 |none=>
  refine⟨_,_,rfl,_,pJ _,_,s.l1,aa (λq=>⟨_,pJ _,_,s.st true,?_⟩) (λq=>⟨_,pJ _,_,s.st _,?_⟩)⟩
  ·rw[e]at a;exact a true [] (λh=>by cases h) (λ_=> .inl q)
  ·rw[e]at a;exact a true [] (λh=>by cases h) (λ_=> .inr rfl)
theorem Kd(w:Wf g)(s:nh g ks kind bad){a b:List UInt8}(e:aM kind a=true)(f:aM kind b=true):FW SS 158 [pA ks,strOf a,strOf b] g (sQ g ks kind bad (eR kind a b)):=by
 refine U0 ks a b g _ ⟨_,oa _,_,s.l0,(uE e f w).mono ?_⟩;rintro _ i ⟨rfl,d⟩;exact U3 (by have:=gA e;omega) d.wf (s.ok d) d (λc h=>xQ e f h)
theorem F2(w:Wf g)(s:nh g ks kind bad){a b:List UInt8}(e:aM kind a=true)(f:aM kind b=true):FW SS 159 [pA ks,strOf a,strOf b] g (sQ g ks kind bad (cD kind a b)):=by
 refine QW ks a b g _ ⟨_,oa _,_,s.l0,(wA e f w).mono ?_⟩;rintro _ i ⟨rfl,d⟩;exact U3 (by have:=gA e;omega) d.wf (s.ok d) d (λc h=>Ah e f h)
theorem U2(w:Wf g)(s:nh g ks kind bad){a:List UInt8}(d:aM kind a=true):FW SS 157 [pA ks,strOf a] g (sQ g ks kind bad (lJ kind a)):=by
 refine U1 ks a g _ ⟨_,oa _,_,s.l0,(Qg d w).mono ?_⟩;rintro _ f ⟨rfl,b⟩;exact U3 (by have:=gA d;omega) b.wf (s.ok b) b (λc e=>Vm d e)
end
noncomputable def VA:TypeInfo:=(SS.P.info? 107).getD default
theorem VC:SS.P.info? 107=some VA:=by kernel_rfl
theorem MZ:VA.size=1:=by kernel_rfl
theorem KC:VA.bytes=24:=by kernel_rfl
theorem Zd:zeroOf SS.P 107=some nA:=by kernel_rfl
theorem TO(n:Nat)(a:n<=100000):ch SS.P 103 (.int .i64 (n:Int)) (.int .i64 (n:Int))=some (.cells (List.replicate n nA) 107 1 true,mL n n):=by
 unfold ch bV;dsimp only;rw[nP]
 try dsimp only
 change (match SS.P.info? 107,zeroOf SS.P 107 with
  |some i,some z=>(if z.cells.size=i.size/\0<i.size/\(0:Int)<=(n:Int)/\(n:Int)<=(n:Int)/\(n:Int)*i.bytes<=140737488355328/\(n:Int)<=1099511627776 then some (dS.cells (df z.cells.toList (n:Int).toNat) 107 i.size true,λk=>Value.slice (some ⟨k,0,none⟩) (n:Int).toNat (n:Int).toNat)else none)
  |_,_=>none)=_
 rw[VC,Zd];dsimp only;rw[MZ,KC,if_pos ⟨rfl,by omega,by omega,Int.le_refl _,by omega,by omega⟩];have e:((n:Int)).toNat=n:=by omega
 rw[e,show(nA).cells.toList=[nA]from rfl,ny];rfl
noncomputable def re9:TypeInfo:=(eS SS.P 9).getD default
theorem aaY:eS SS.P 9=some re9:=by kernel_rfl
theorem UJ:re9.size=1:=by kernel_rfl
theorem QC:re9.bytes=16:=by kernel_rfl
theorem ac7:dW SS.P 107=true:=by kernel_rfl
theorem Zo(l:List UInt8):aF SS.P 107 1 [(0,strOf l)]=some (.cells [strOf l] 9 1 true,mL 1 1):=by kernel_rfl
theorem kj(k n c:Nat):dG 4 (.slice (some ⟨k,0,none⟩) n c) (.slice (some ⟨k,0,none⟩) n c)=true:=by simp[dG]
theorem abi:dG 4 nA nA=true:=by simp[dG]
def rZ(n i:Nat)(ks cs:Nat->Nat)(x:Value):List Value:=(List.range n).map λa=>if a<i then vS (ks a) n (cs a)else if a=i then x else nA
theorem tG(n i:Nat)(ks cs:Nat->Nat)(x:Value):(rZ n i ks cs x).length=n:=by unfold rZ;simp
theorem Da(h:i<n)(ks cs:Nat->Nat)(x:Value):(rZ n i ks cs x).getD i undef=x:=by
 unfold rZ;rw[BO h,if_neg (Nat.lt_irrefl i),if_pos rfl]
theorem JP(ks cs:Nat->Nat)(x y:Value):(rZ n i ks cs x).set i y=rZ n i ks cs y:=by
 unfold rZ;refine ext_getElem (by simp) λa b d=>?_;simp only[length_set,lM,List.length_range]at b;rw[List.getElem_set];simp only[List.getElem_map,List.getElem_range];by_cases e:i=a
 ·subst e;rw[if_pos rfl,if_neg (Nat.lt_irrefl i),if_pos rfl]
 ·rw[if_neg e];by_cases c:a<i
  ·rw[if_pos c,if_pos c]
  ·rw[if_neg c,if_neg c,if_neg (λh=>e h.symm),if_neg (λh=>e h.symm)]
theorem FI{ks cs:Nat->Nat}{c:Nat}:rZ n i ks cs (vS k n c)=rZ n (i+1) (λa=>if a=i then k else ks a) (λa=>if a=i then c else cs a) nA:=by
 unfold rZ;refine List.map_congr_left λa _=>?_;dsimp only;by_cases e:a=i
 ·subst e;rw[if_neg (Nat.lt_irrefl a),if_pos rfl,if_pos (Nat.lt_succ_self a),if_pos rfl,if_pos rfl]
 ·by_cases b:a<i
  ·rw[if_pos b,if_pos (by omega),if_neg e,if_neg e]
  ·rw[if_neg b,if_neg e,if_neg (by omega)];split<;>rfl
structure ZI(h:ae)(n:Nat)(z:List UInt8)(kr i:Nat)(x:Value)(ks cs:Nat->Nat)(g:ae):Prop where
 out:g.get kr=some (.cells (rZ n i ks cs x) 107 1 true)
 new:h.next<=kr
 row:∀a,a<i->VB g (ks a) (List.replicate n z)
 ne:∀a,a<i->ks a≠kr/\h.next<=ks a
 inj:∀a b,a<i->b<i->ks a=ks b->a=b
 ok:Ok h g
theorem ZI.lt{h:ae}{z:List UInt8}{x:Value}{ks cs:Nat->Nat}{g:ae}(b:ZI h n z m i x ks cs g):m<g.next/\∀a,a<i->ks a<g.next:=⟨b.ok.wf _ _ b.out,λa c=>b.ok.wf _ _ (b.row a c)⟩
theorem ZI.kF{h:ae}(w:Wf h){n:Nat}{z:List UInt8}{b i:Nat}{x y:Value}{ks cs:Nat->Nat}{g g':ae}(m:ZI h n z b i x ks cs g)(e:Ok h g')(d:g'.get b=some (.cells (rZ n i ks cs y) 107 1 true))(f:∀a,a<i->g'.get (ks a)=g.get (ks a)):ZI h n z b i y ks cs g':=
 ⟨d,m.new,λa c=>by have:=m.row a c;unfold VB at this⊢;rw[f a c];exact this,m.ne,m.inj,e⟩
theorem UQ(j:Nat)(z:A):List.replicate (j+1) z=List.replicate j z++[z]:=List.replicate_succ'
theorem Ya{g:ae}(w:Wf g){n j:Nat}(a:j<n)(B:dS):Ok g (cj (Go.Ab.room g n) g.next [(j,B)])/\(cj (Go.Ab.room g n) g.next [(j,B)]).get (g.next+j)=some B/\(cj (Go.Ab.room g n) g.next [(j,B)]).next=g.next+n:=⟨(NT w a B).1,(NT w a B).2,rfl⟩
def adt(h:ae)(n:Nat)(z:List UInt8)(c i:Nat)(b j:Nat)(g:ae):Prop:=j<=n/\b=n-j/\∃(ks cs:Nat->Nat)(x:Value),ZI h n z c i x ks cs g/\A6 h g 9 x (eF (List.replicate j z))/\∀k,eZ x=some k->k≠c/\∀a,a<i->ks a≠k
set_option linter.defProp false in
def Rt{h:ae}(w:Wf h){kind:Int}(Z:1<=kind/\kind<=3){n f i:Nat}(r:i<n)(hn:n<=1000)(y:Nat->Nat->ae->Prop)(K:Nat)(Q:VH)(O:∀g,(∃ks cs,ZI h n (bF kind) f (i+1) nA ks cs g)->aI (fj (lE kind n f) y) K [.int .i64 kind,iA n,sA f n n,iA (i+1)] g):=
 D8 kind n f y K i (adt h n (bF kind) f i) Q (by
  intro x0 j;intros;rename_i g J;obtain⟨f1,f2,ks,cs,x,m,D,E⟩:=J;refine aa (λq=>?_) (λq=>?_)
  ·have q:j<n:=by have:=dT q;omega
   have hr:(Go.Ab.room g 12).get f=some (.cells (rZ n i ks cs x) 107 1 true):=m.out;have B:aj SS.P 107 (Go.Ab.room g 12) (.pointer (some ⟨f,i,none⟩))=some x:=by rw[cq Dy IF hr (by rw[tG];exact r),Da r]
   obtain⟨I,U,L,ex,M⟩:∃a n c,x = .slice a n c/\dG 4 x x=true:=by
    rcases D with⟨e,_⟩|⟨k,e,_⟩
    ·exact⟨_,_,_,e,by rw[e];exact abi⟩
    ·exact⟨_,_,_,e,by rw[e];exact kj _ _ _⟩
   subst ex;refine⟨_,CS nP nz r,_,_,_,B,(gT Z _).mono ?_⟩;rintro _ g0 ⟨rfl,e0⟩;obtain rfl:Go.Ab.room g 12=g0:=e0.symm;refine⟨_,rfl,_,_,_,Zo _,?_⟩;obtain⟨s,Y,x1⟩:=Ya m.ok.wf (show 8<12 by omega) (.cells [strOf (bF kind)] 9 1 true);generalize cj (Go.Ab.room g 12) g.next [(8,.cells [strOf (bF kind)] 9 1 true)]=o at*;have v:=m.ok.trans s;have R:A6 h o 9 (.slice I U L) (eF (List.replicate j (bF kind))):=by
    rcases D with e|⟨k,e,H,G⟩
    ·exact .inl e
    ·exact .inr ⟨k,e,H,s.ext _ _ G⟩
   have C:fQ o 1 (sA (g.next+8) 1 1)=some ([strOf (bF kind)],1):=BR Y rfl;obtain⟨u,V,X,P,a4,T⟩:=A6.ac2 Dy aaY UJ ac7 w v R C rfl (by rw[QC,ff,length_replicate];omega) (by rw[ff,length_replicate];omega);rw[ff,length_replicate]at V;refine⟨_,_,_,u,V,?_⟩;have z:(u.app o).get f=some (.cells (rZ n i ks cs (.slice I U L)) 107 1 true):=T _ _ (s.ext _ _ m.out) (λe=>(E f e).1 rfl);have N:∀a,a<i->(u.app o).get (ks a)=g.get (ks a):=λa l=>by
    have:=m.row a l;unfold VB at this;rw[this];exact T _ _ (s.ext _ _ this) (λe=>(E _ e).2 a l rfl)
   generalize u.app o=F at*;refine⟨_,CS nP nz r,_,iX nz z (by rw[tG];exact r) rfl rfl,⟨B,M⟩,?_⟩;rw[JP];rw[aN (i:=j) (n:=n) q (by omega)];have t:=m.lt;have A:o.next≠f:=by have:=t.1;omega
   refine bZ (n-(j+1)) (by omega) ⟨by omega,rfl,ks,cs,.slice (some ⟨o.next,0,none⟩) (j+1) (dn+(j+1)),m.kF w ?_ ?_ ?_,.inr ⟨o.next,?_,v.nx,?_⟩,?_⟩
   ·exact P.set _ m.new (P.wf _ _ z) w
   ·show(F.set f _).get f=_;rw[ae.aw,if_pos rfl]
   ·intro a l;show(F.set f _).get (ks a)=_;rw[ae.aw,if_neg (m.ne a l).1];exact N a l
   ·rw[ff,length_replicate]
   ·show(F.set f _).get o.next=_;rw[ae.aw,if_neg A,X];unfold eF;rw[UQ,List.map_append];rfl
   ·intro k ek;obtain rfl:o.next=k:=oI ek;exact⟨A,λa l e=>by have:=t.2 a l;omega⟩
  ·have q:=dF q;obtain rfl:j=n:=by omega
   rw[aN r (by omega)];refine O g ?_;rcases D with⟨_,e⟩|⟨k,e,H,G⟩
   ·have:=congrArg List.length e;rw[ff,length_replicate]at this;exact absurd this (by simp;omega)
   ·rw[ff,length_replicate]at e;obtain⟨b1,W⟩:=E k (by rw[e];rfl);have S:=m.out;rw[e,show(Value.slice (some ⟨k,0,none⟩) j (dn+j))=vS k j (dn+j)from rfl,FI]at S;refine⟨_,_,S,m.new,λa l=>?_,λa l=>?_,λa b l hb p=>?_,m.ok⟩
    ·by_cases c:a=i
     ·rw[if_pos c];exact G
     ·rw[if_neg c];exact m.row a (by omega)
    ·by_cases c:a=i
     ·rw[if_pos c];exact⟨b1,H⟩
     ·rw[if_neg c];exact m.ne a (by omega)
    ·by_cases c:a=i<;>by_cases d:b=i
     ·omega
     ·rw[if_pos c,if_neg d]at p;exact absurd p.symm (W b (by omega))
     ·rw[if_neg c,if_pos d]at p;exact absurd p (W a (by omega))
     ·rw[if_neg c,if_neg d]at p;exact m.inj a b (by omega) (by omega) p)
theorem Wq{h:ae}(w:Wf h){kind:Int}(t:1<=kind/\kind<=3){n:Nat}(p:n<=1000):FW SS 156 [.int .i64 kind,iA n] h (λv g=>∃l ks cs,v=sA l n n/\sE 107 g l ks cs (List.replicate n (List.replicate n (bF kind)))/\Ok h g/\h.next<=l/\∀i,i<n->h.next<=ks i):=by
 refine abq kind n h _ ⟨_,_,_,TO n (by omega),?_⟩;have u:=aJ h (.cells (List.replicate n nA) 107 1 true);have r:=(Ok.refl w).push (.cells (List.replicate n nA) 107 1 true);refine D7 kind n h.next (λf i g=>i<=n/\f=n-i/\∃ks cs,ZI h n (bF kind) h.next i nA ks cs g) _ (λf i=>?_) n (i:=0) ⟨by omega,rfl,λ_=>0,λ_=>0,?_,Nat.le_refl _,λa c=>by omega,λa c=>by omega,λa b c=>by omega,r⟩
 ·intros;rename_i g s;obtain⟨A,z,ks,cs,m⟩:=s;refine aa (λq=>?_) (λq=>?_)
  ·have q:i<n:=by have:=dT q;omega
   refine Rt w t q p _ f _ (λg' d=>?_) n (j:=0) ⟨by omega,rfl,ks,cs,nA,m,.inl ⟨rfl,rfl⟩,λk e=>by cases e⟩;exact bZ (n-(i+1)) (by omega) ⟨by omega,rfl,d⟩
  ·have q:=dF q;obtain rfl:i=n:=by omega
   have d:∀a,a<i->(List.replicate i (List.replicate i (bF kind))).getD a []=List.replicate i (bF kind):=λa c=>by
    rw[gD,getElem?_replicate,if_pos c];rfl
   refine⟨h.next,ks,cs,rfl,⟨?_,λa c=>?_,λa c=>?_,λa b c o=>?_⟩,m.ok,Nat.le_refl _,λa c=>(m.ne a c).2⟩
   ·rw[m.out,length_replicate];congr 2;unfold rZ;refine List.map_congr_left λa c=>?_;have c:=List.mem_range.1 c;rw[if_pos c,d a c,length_replicate]
   ·rw[length_replicate]at c;rw[d a c];exact m.row a c
   ·rw[length_replicate]at c;exact(m.ne a c).1
   ·rw[length_replicate]at c o;exact m.inj a b c o
 ·rw[u];congr 2;unfold rZ;refine ext_getElem (by simp) λa x y=>?_;simp
theorem aaJ{h:ae}(w:Wf h){kind:Int}(B:1<=kind/\kind<=3){a:Option Addr}{n c:Nat}{R:List (List (List UInt8))}(r:Li 107 h (.slice a n c) R)(k:∀l∈R,l.length=R.length)(E:∀l∈R,∀x∈l,aM kind x=true)(O:n<=3000):FW SS 123 [.int .i64 kind,.slice a n c] h (λv g=>v = .bool true/\Ok h g):=by
 have G:=r.len;refine aaI kind a n c h _ ((pV kind h).mono ?_);rintro _ N ⟨rfl,K⟩;obtain rfl:h=N:=K.symm;refine⟨_,rfl,aa (λe=>?_) (λ_=>?_)⟩
 ·rw[decide_eq_true B.1,decide_eq_true B.2]at e;cases e
 refine C3 kind a n c (λs i g=>i<=n/\s=n-i/\Ok h g) _ (λs i=>?_) n (i:=0) ⟨by omega,rfl,Ok.refl w⟩;intros;rename_i g I;obtain⟨X,T,z⟩:=I;refine aa (λq=>?_) (λq=>⟨rfl,z⟩);have q:i<n:=by have:=dT q;omega
 have b:R.getD i []∈R:=by
  rw[gD,gE (by omega)];exact List.getElem_mem _
 obtain⟨p,J,d,F,t,y,u⟩:=(r.ok z).at_ ty (i:=i) (by omega);have C:=u.len;rw[ff,k _ b,<-G]at C;subst C;refine⟨_,t,_,_,_,y,aa (λe=>by simp at e) (λ_=>?_)⟩;refine C4 kind a d c _ s i (λo j g=>j<=d/\o=d-j/\Ok h g) _ (λo j=>?_) d (j:=0) ⟨by omega,rfl,z⟩;intros;rename_i P A;obtain⟨V,W,f⟩:=A;refine aa (λm=>?_) (λm=>?_)
 ·have m:j<d:=by have:=dT m;omega
  obtain⟨p,J,U,F,t,y,u⟩:=(r.ok f).at_ ty (i:=i) (by omega);obtain⟨Q,L,D⟩:=Rd.cell ty u (j:=j) (by rw[k _ b];omega);refine⟨_,t,_,_,_,y,_,L,_,D,(jy (E _ b _ ?_) f.wf).mono ?_⟩
  ·have M:j<(R.getD i []).length:=by rw[k _ b];omega
   generalize R.getD i []=l at*;rw[gD,gE M];exact List.getElem_mem _
  rintro _ S ⟨rfl,H⟩;refine⟨_,rfl,aa (λe=>by cases e) (λ_=>?_)⟩;rw[aN m (by omega)];exact bZ (d-(j+1)) (by omega) ⟨by omega,rfl,f.trans H⟩
 ·rw[aN q (by omega)];exact bZ (d-(i+1)) (by omega) ⟨by omega,rfl,f⟩
end
noncomputable def bD:FD:=cG Tryz.f124 [([1,1,1,0,1,0,0],[0,1,5,6,7]),([1,1,1,1,0,1,0,0],[0,5,6,8]),([1,1,1,1,0,1,0,0,1,0,0,1,1,0,1,0,0],[0,5,6,8,9,10,11]),([1,1,1,1,1,0,1,0,0],[0,5,6,13]),([1,1,1,1,0,1,0,0,1,0,0,1,1,0,1,0,0,1,0,0,1,0,0],[0,5,6,8,9,10,11,12])]
abbrev qq(d:Nat)(a:OA)(n c b:Nat)(i:Nat):LV:=[(pA d),(.slice a n c),(iA n),(sA b n n),(iA i)]
abbrev eT(b n:Nat)(k a:Nat):LV:=[(pA b),(iA n),(sA a n n),(iA k)]
abbrev kH(c n b a k:Nat)(l:LB)(i:Nat):LV:=[(pA c),(iA n),(sA b n n),(iA k),(sA a n n),(strOf l),(iA i)]
abbrev kI(b n a:Nat)(i:Nat):LV:=[(pA b),(iA n),(sA a n n),(iA i)]
abbrev iS(c n b a k i:Nat)(l:LB)(j:Nat):LV:=[(pA c),(iA n),(sA b n n),(iA k),(sA a n n),(strOf l),(iA i),(iA j)]
theorem Vn(k:Nat)(a:OA)(n c:Nat)(h:ae)(Q:VH)(l:fP 136 (pA k) 0 λj=>lI h j λi=>FW SS 156 [(.int .i64 i),(iA n)] h λf g=>yL f λb d e=>LL SS bD [1,1,1,0,1,0,0] [(pA k),(.slice a n c),(iA n),(.slice b d e),(.int .i64 0)] g (KK SS bD [1,1,1,0,1,0] [] (EE SS bD Q))):FW SS 124 [(pA k),(.slice a n c)] h Q:=cQ bD Tryz.func124 (ai l)
theorem zZ(r:Nat)(a:OA)(n c:Nat)(q:Nat)(p:Nat->Nat->ae->Prop)(Q:VH)(step:∀(o:Nat) (i:Nat) (t:Nat->Value) (h:ae),p o i h->au (decide (((i:Int):Int)<(n:Int))) (iP 103 (sA q n n) (iA i) λm=>lL 107 (room h 9) m λj k l=>iP 103 (.slice a n c) (iA i) λg=>lL 107 (room h 9) g λd e f=>xC (copyV SS.P 107 (.slice j k l) (.slice d e f) (room h 9)) (room h 9) λ_ _ b=>aI (fj (qq r a n c q) p) o [(pA r),(.slice a n c),(iA n),(sA q n n),(.int .i64 (wrap .i64 ((i:Int)+1)))] b) (LL SS bD [1,1,1,1,0,1,0,0] (eT r n 0 q) h (KK SS bD [1,1,1,1,0,1,0] [] (EE SS bD Q))))(o:Nat){i:Nat}{h:ae}(s:p o i h):LL SS bD [1,1,1,0,1,0,0] (qq r a n c q i) h (KK SS bD [1,1,1,0,1,0] [] (EE SS bD Q)):=
 dg (qq r a n c q) p (λo i t h s=>ai (step o i t h s)) o s
theorem Aa(u:Nat)(a:OA)(n c:Nat)  (t:Nat->Nat->Nat->ae->Prop) (Q:VH) (step:∀(s:Nat)(k kb:Nat)(w:Nat->Value)(h:ae),t s k kb h->au (decide (((k:Int):Int)<(n:Int))) (fP 136 (pA u) 0 λr=>lI h r λq=>FW SS 156 [(.int .i64 q),(iA n)] h λo p=>yL o λj l m=>iP 103 (sA kb n n) (iA k) λi=>lL 107 p i λf g h=>iP 107 (.slice f g h) (iA k) λe=>lS p e λd=>FW SS 157 [(pA u),(strOf d)] p λb c=>yS b λa=>LL SS bD [1,1,1,1,0,1,0,0,1,0,0,1,1,0,1,0,0] [(pA u),(iA n),(sA kb n n),(iA k),(.slice j l m),(strOf a),(.int .i64 0)] c (KK SS bD [1,0,0,1,1,0,1,0] [1,1,1,1,0,1,0,0] (RR bD [1,1,1,1,0,1,0,0] (qP (eT u n) t) s (KK SS bD [1,1,1,1,0,1,0] [] (EE SS bD Q))))) (LL SS bD [1,1,1,1,1,0,1,0,0] (kI u n kb 0) h (KK SS bD [1,1,1,1,1,0,1,0] [] (EE SS bD Q)))) (s:Nat) {k kb:Nat} {h:ae} (v:t s k kb h):LL SS bD [1,1,1,1,0,1,0,0] (eT u n k kb) h (KK SS bD [1,1,1,1,0,1,0] [] (EE SS bD Q)):=
 nu (eT u n) t (λs k kb w h v=>ai (step s k kb w h v)) s v
theorem Ac(e:Nat)(a:OA)(n c:Nat)(m g:Nat)(l:LB)(f:Nat->Nat->Nat->ae->Prop)(j k:Nat)(d:Nat->Nat->ae->Prop)(Q:VH)(step:∀(b:Nat) (i:Nat) (p:Nat->Value) (h:ae),d b i h->au (decide (((i:Int):Int)<(n:Int))) (LL SS bD [1,1,1,1,0,1,0,0,1,0,0,1,1,0,1,0,0,1,0,0,1,0,0] (iS e n m g k i l 0) h (KK SS bD [1,0,0,1,0] [1,1,1,1,0,1,0,0,1,0,0,1,1,0,1,0,0] (RR bD [1,1,1,1,0,1,0,0,1,0,0,1,1,0,1,0,0] (fj (kH e n m g k l) d) b (KK SS bD [1,0,0,1,1,0,1,0] [1,1,1,1,0,1,0,0] (RR bD [1,1,1,1,0,1,0,0] (qP (eT e n) f) j (KK SS bD [1,1,1,1,0,1,0] [] (EE SS bD Q))))))) (aI (qP (eT e n) f) j [(pA e),(iA n),(sA g n n),(.int .i64 (wrap .i64 ((k:Int)+1)))] h))(b:Nat){i:Nat}{h:ae}(o:d b i h):LL SS bD [1,1,1,1,0,1,0,0,1,0,0,1,1,0,1,0,0] (kH e n m g k l i) h (KK SS bD [1,0,0,1,1,0,1,0] [1,1,1,1,0,1,0,0] (RR bD [1,1,1,1,0,1,0,0] (qP (eT e n) f) j (KK SS bD [1,1,1,1,0,1,0] [] (EE SS bD Q)))):=
 dg (kH e n m g k l) d (λb i p h o=>ai (step b i p h o)) b o
theorem Ad(A:Nat)(a:OA)(n c:Nat)(z:Nat)(y:Nat->Nat->ae->Prop)(Q:VH)(step:∀(x:Nat) (i:Nat) (C:Nat->Value) (h:ae),y x i h->au (decide (((i:Int):Int)<(n:Int))) (iP 103 (sA z n n) (iA i) λw=>lL 107 (room h 21) w λt u v=>fP 136 (pA A) 0 λs=>lI (room h 21) s λr=>FW SS 22 [(.int .i64 r)] (room h 21) λp q=>yS p λo=>iP 103 (sA z n n) (iA i) λm=>lL 107 q m λj k l=>iP 107 (.slice j k l) (iA i) λg=>lS q g λf=>FW SS 158 [(pA A),(strOf o),(strOf f)] q λd e=>yS d λc=>iP 107 (.slice t u v) (iA i) λb=>xU (ah SS.P 9 (.pointer (some b)) (strOf c) e) e λ_ a=>(aj SS.P 107 q (.pointer (some w))=some (.slice t u v)/\dG 4 (.slice t u v) (.slice t u v)=true)/\(aj SS.P 107 e (.pointer (some w))=some (.slice t u v)/\dG 4 (.slice t u v) (.slice t u v)=true)/\(aj SS.P 107 (room h 21) (.pointer (some m))=some (.slice j k l)/\dG 4 (.slice j k l) (.slice j k l)=true)/\(aj SS.P 9 (room h 21) (.pointer (some g))=some (strOf f)/\dG 4 (strOf f) (strOf f)=true)/\aI (fj (kI A n z) y) x [(pA A),(iA n),(sA z n n),(.int .i64 (wrap .i64 ((i:Int)+1)))] a) (Q (sA z n n) h))(x:Nat){i:Nat}{h:ae}(B:y x i h):LL SS bD [1,1,1,1,1,0,1,0,0] (kI A n z i) h (KK SS bD [1,1,1,1,1,0,1,0] [] (EE SS bD Q)):=
 dg (kI A n z) y (λx i C h B=>ai (step x i C h B)) x B
theorem Ae(B:Nat)(a:OA)(n c:Nat)(A D:Nat)(l:LB)(x1:Nat->Nat->Nat->ae->Prop)(x2 k:Nat)(T:Nat->Nat->ae->Prop)(x0 i:Nat)(E:Nat->Nat->ae->Prop)(Q:VH)(step:∀(C:Nat) (j:Nat) (zz:Nat->Value) (h:ae),E C j h->au (decide (((j:Int):Int)<(n:Int))) (iP 103 (sA D n n) (iA i) λe5=>lL 107 (room h 14) e5 λe2 e3 e4=>iP 103 (sA A n n) (iA i) λe1=>lL 107 (room h 14) e1 λd8 d9 e0=>iP 107 (.slice d8 d9 e0) (iA j) λd7=>lS (room h 14) d7 λd6=>iP 107 (.slice e2 e3 e4) (iA j) λd5=>xU (ah SS.P 9 (.pointer (some d5)) (strOf d6) (room h 14)) (room h 14) λ_ U=>iP 103 (sA A n n) (iA i) λd3=>lL 107 (room U 28) d3 λS R K=>iP 107 (.slice S R K) (iA k) λc9=>lS (room U 28) c9 λN=>fP 136 (pA B) 0 λc7=>lI (room U 28) c7 λc6=>FW SS 18 [(.int .i64 c6)] (room U 28) λc4 J=>yS c4 λc3=>au (!((N:LB)==c3)) (iP 103 (sA A n n) (iA k) λc2=>lL 107 J c2 λV Z W=>iP 107 (.slice V Z W) (iA j) λb8=>lS J b8 λX=>fP 136 (pA B) 0 λb6=>lI J b6 λb5=>FW SS 18 [(.int .i64 b5)] J λb3 F=>yS b3 λb2=>(aj SS.P 107 J (.pointer (some d3))=some (.slice S R K)/\dG 4 (.slice S R K) (.slice S R K)=true)/\(aj SS.P 9 J (.pointer (some c9))=some (strOf N)/\dG 4 (strOf N) (strOf N)=true)/\(aj SS.P 107 F (.pointer (some c2))=some (.slice V Z W)/\dG 4 (.slice V Z W) (.slice V Z W)=true)/\(aj SS.P 9 F (.pointer (some b8))=some (strOf X)/\dG 4 (strOf X) (strOf X)=true)/\au (!((X:LB)==b2)) (iP 103 (sA D n n) (iA i) λY=>lL 107 (room F 35) Y λH G I=>iP 103 (sA A n n) (iA i) λa7=>lL 107 (room F 35) a7 λO P M=>iP 107 (.slice O P M) (iA j) λa3=>lS (room F 35) a3 λL=>iP 103 (sA A n n) (iA i) λa1=>lL 107 (room F 35) a1 λy z a0=>iP 107 (.slice y z a0) (iA k) λx=>lS (room F 35) x λw=>FW SS 159 [(pA B),(strOf w),(strOf l)] (room F 35) λu v=>yS u λt=>iP 103 (sA A n n) (iA k) λs=>lL 107 v s λp q r=>iP 107 (.slice p q r) (iA j) λo=>lS v o λm=>FW SS 159 [(pA B),(strOf t),(strOf m)] v λg h=>yS g λf=>FW SS 158 [(pA B),(strOf L),(strOf f)] h λd e=>yS d λc=>iP 107 (.slice H G I) (iA j) λb=>xU (ah SS.P 9 (.pointer (some b)) (strOf c) e) e λ_ a=>(aj SS.P 107 v (.pointer (some Y))=some (.slice H G I)/\dG 4 (.slice H G I) (.slice H G I)=true)/\(aj SS.P 107 h (.pointer (some Y))=some (.slice H G I)/\dG 4 (.slice H G I) (.slice H G I)=true)/\(aj SS.P 107 e (.pointer (some Y))=some (.slice H G I)/\dG 4 (.slice H G I) (.slice H G I)=true)/\(aj SS.P 107 v (.pointer (some a7))=some (.slice O P M)/\dG 4 (.slice O P M) (.slice O P M)=true)/\(aj SS.P 107 h (.pointer (some a7))=some (.slice O P M)/\dG 4 (.slice O P M) (.slice O P M)=true)/\(aj SS.P 9 v (.pointer (some a3))=some (strOf L)/\dG 4 (strOf L) (strOf L)=true)/\(aj SS.P 9 h (.pointer (some a3))=some (strOf L)/\dG 4 (strOf L) (strOf L)=true)/\(aj SS.P 107 (room F 35) (.pointer (some s))=some (.slice p q r)/\dG 4 (.slice p q r) (.slice p q r)=true)/\(aj SS.P 9 (room F 35) (.pointer (some o))=some (strOf m)/\dG 4 (strOf m) (strOf m)=true)/\aI (fj (iS B n A D k i l) E) C [(pA B),(iA n),(sA A n n),(iA k),(sA D n n),(strOf l),(iA i),(.int .i64 (wrap .i64 ((j:Int)+1)))] a) (aI (fj (iS B n A D k i l) E) C [(pA B),(iA n),(sA A n n),(iA k),(sA D n n),(strOf l),(iA i),(.int .i64 (wrap .i64 ((j:Int)+1)))] F)) ((aj SS.P 107 J (.pointer (some d3))=some (.slice S R K)/\dG 4 (.slice S R K) (.slice S R K)=true)/\(aj SS.P 9 J (.pointer (some c9))=some (strOf N)/\dG 4 (strOf N) (strOf N)=true)/\aI (fj (iS B n A D k i l) E) C [(pA B),(iA n),(sA A n n),(iA k),(sA D n n),(strOf l),(iA i),(.int .i64 (wrap .i64 ((j:Int)+1)))] J)) (aI (fj (kH B n A D k l) T) x0 [(pA B),(iA n),(sA A n n),(iA k),(sA D n n),(strOf l),(.int .i64 (wrap .i64 ((i:Int)+1)))] h))(C:Nat){j:Nat}{h:ae}(hi:E C j h):LL SS bD [1,1,1,1,0,1,0,0,1,0,0,1,1,0,1,0,0,1,0,0,1,0,0] (iS B n A D k i l j) h (KK SS bD [1,0,0,1,0] [1,1,1,1,0,1,0,0,1,0,0,1,1,0,1,0,0] (RR bD [1,1,1,1,0,1,0,0,1,0,0,1,1,0,1,0,0] (fj (kH B n A D k l) T) x0 (KK SS bD [1,0,0,1,1,0,1,0] [1,1,1,1,0,1,0,0] (RR bD [1,1,1,1,0,1,0,0] (qP (eT B n) x1) x2 (KK SS bD [1,1,1,1,0,1,0] [] (EE SS bD Q)))))):=
 dg (iS B n A D k i l) E (λC j zz h hi=>ai (step C j zz h hi)) C hi
noncomputable def Uw:FD:=cG Tryz.f97 []
theorem Qj(m:Int)(a:OA)(n c:Nat)(h:ae)(Q:VH)(o:FW SS 123 [(.int .i64 m),(.slice a n c)] h λk l=>yB k λj=>au (!j) (Q (.tuple ⟨[nA,(.int .i64 1)]⟩) l) (au (decide (((n:Int):Int)>60)) (Q (.tuple ⟨[nA,(.int .i64 2)]⟩) l) (xA (bh SS.P 136 [(0,(.int .i64 m))]) λi=>xN (eK SS.P 136 (.agg ⟨i⟩)) l λ_ h=>FW SS 124 [(pA (l.next)),(.slice a n c)] h λf g=>yL f λc d e=>fP 136 (pA (l.next)) 1 λb=>lB g b λa=>au a (Q (.tuple ⟨[nA,(.int .i64 2)]⟩) g) (Q (.tuple ⟨[(.slice c d e),(.int .i64 0)]⟩) g)))):FW SS 97 [(.int .i64 m),(.slice a n c)] h Q:=cQ Uw Tryz.func97 (ai o)
section
def aY(kind:Int):qb (List UInt8):=⟨bF kind,sG kind,λa=>a==bF kind,eR kind,cD kind,lJ kind⟩
abbrev LM:=List (List (List UInt8))
structure Sq(kind:Int)(n:Nat)(B:LM):Prop where
 len:B.length=n
 row:∀i,i<n->(B.getD i []).length=n
 val:∀i j,i<n->j<n->aM kind ((B.getD i []).getD j [])=true
theorem dv{l:List A}{i:Nat}(a:i<l.length)(v d:A)(j:Nat):(l.set i v).getD j d=if j=i then v else l.getD j d:=by
 rw[gD,List.getElem?_set];by_cases e:i=j
 ·subst e;rw[if_pos rfl,if_pos a,if_pos rfl];rfl
 ·rw[if_neg e,if_neg λh=>e h.symm,<-gD]
theorem Sq.put{kind:Int}{n:Nat}{B:LM}(s:Sq kind n B){i j:Nat}(d:i<n)(h:j<n){x:List UInt8}(g:aM kind x=true):Sq kind n (B.set i ((B.getD i []).set j x)):=by
 have f:=s.len;refine⟨by rw[length_set];exact f,λa c=>?_,λa b c e=>?_⟩
 ·rw[dv (by omega)];split
  ·rw[length_set];exact s.row i d
  ·exact s.row a c
 ·rw[dv (by omega)];split
  ·rw[dv (by rw[s.row i d];exact h)];split
   ·exact g
   ·exact s.val i b d e
  ·exact s.val a b c e
theorem Fw{l:List (List UInt8)}{j:Nat}(b:j<l.length)(d a:List UInt8):l.getD j d=l.getD j a:=by
 rw[gD,gD,gE b];rfl
theorem Sq.Lm{kind:Int}{n:Nat}{B:LM}(s:Sq kind n B){i j:Nat}(a:i<n)(b:j<n):bS (aY kind) B i j=(B.getD i []).getD j []:=Fw (by rw[s.row i a];exact b) _ _
def R2(kind:Int)(n:Nat)(B:LM)(k:Nat):Option LM:=match bd (fk (aY kind)) (n-k) k B with
 |none=>none
 |some a=>bd (nW (aY kind)) n 0 a
def R3(kind:Int)(n:Nat)(B:LM)(l:List UInt8)(k:Nat)(C:LM)(i:Nat):Option LM:=match bd (iM (aY kind) B l k) (n-i) i C with
 |none=>none
 |some a=>R2 kind n a (k+1)
def R4(kind:Int)(n:Nat)(B:LM)(l:List UInt8)(k:Nat)(C:LM)(i:Nat)(r:List (List UInt8))(j:Nat):Option LM:=match bd (cw (aY kind) B l k i) (n-j) j r with
 |none=>none
 |some a=>R3 kind n B l k (C++[a]) (i+1)
section
variable {kind:Int} {n:Nat} {B C:LM} {l:List UInt8} {k i j:Nat} {r:List (List UInt8)}
theorem fg(f:A->Nat->Option A){n i:Nat}(h:i<n)(b:A):bd f (n-i) i b=match f b i with|some a=>bd f (n-(i+1)) (i+1) a|none=>none:=by
 rw[show n-i=(n-(i+1))+1 by omega];rfl
theorem iD(f:A->Nat->Option A){n:Nat}(b:A):bd f (n-n) n b=some b:=by rw[Nat.sub_self];rfl
theorem RM(a:B.length=n):jL (aY kind) B=R2 kind n B 0:=by
 unfold jL R2;rw[a,sub_zero]
 cases bd (fk (aY kind)) n 0 B<;>rfl
theorem No(a:B.length=n)(b:k<n):R2 kind n B k=match (aY kind).star (bS (aY kind) B k k)with|none=>none|some s=>R3 kind n B s k [] 0:=by
 unfold R2;rw[fg _ b];unfold fk
 cases (aY kind).star (bS (aY kind) B k k)with
 |none=>rfl
 |some s=>
  dsimp only;unfold R3;rw[a]
  cases bd (iM (aY kind) B s k) n 0 []<;>rfl
theorem WE(a:B.length=n)(b:i<n):R3 kind n B l k C i=R4 kind n B l k C i [] 0:=by
 unfold R3;rw[fg _ b];have e:iM (aY kind) B l k C i=match bd (cw (aY kind) B l k i) n 0 []with|none=>none|some r=>some (C++[r]):=by
  unfold iM;rw[a]
  cases bd (cw (aY kind) B l k i) n 0 []<;>rfl
 rw[e];unfold R4
 cases bd (cw (aY kind) B l k i) n 0 []with
 |none=>rfl
 |some r=>rfl
theorem ZX:R3 kind n B l k C n=R2 kind n C (k+1):=by unfold R3;rw[iD]
theorem GJ(a:j<n):R4 kind n B l k C i r j=match cw (aY kind) B l k i r j with|none=>none|some b=>R4 kind n B l k C i b (j+1):=by
 unfold R4;rw[fg _ a]
 cases cw (aY kind) B l k i r j<;>rfl
theorem ZY:R4 kind n B l k C i r n=R3 kind n B l k (C++[r]) (i+1):=by unfold R4;rw[iD]
theorem lr{l:List A}{i:Nat}(h:m<=i)(x:A):(l.set i x).take m=l.take m:=by rw[List.take_set_of_le h]
theorem jV{l:List A}{i:Nat}(h:i<l.length)(d:A):l.take (i+1)=l.take i++[l.getD i d]:=by
 rw[List.take_add_one,gD,gE h];rfl
end
structure MI(kind:Int)(n N0:Nat)(kt:Nat)(ks cs:Nat->Nat)(B:LM)(g:ae):Prop where
 m:sE 107 g kt ks cs B
 sq:Sq kind n B
 new:N0<=kt/\∀i,i<n->N0<=ks i
section
variable {kind:Int} {n N0 N1 kt kb kc s0:Nat} {ks cs kbs bcs kcs ccs:Nat->Nat} {B C:LM} {g g' h:ae} {i j:Nat}
theorem MI.ld(x:MI kind n N0 kt ks cs B g)(a:i<n):aj SS.P 107 g (.pointer (some ⟨kt,i,none⟩))=some (.slice (some ⟨ks i,0,none⟩) n (cs i)):=by
 rw[x.m.ld ty (by rw[x.sq.len];exact a),x.sq.row i a]
theorem MI.cell(x:MI kind n N0 kt ks cs B g)(a:i<n)(b:j<n):aj SS.P 9 g (.pointer (some ⟨ks i,j,none⟩))=some (strOf ((B.getD i []).getD j [])):=(x.m.row i (by rw[x.sq.len];exact a)).ld ty (by rw[x.sq.row i a];exact b)
theorem MI.kF{X:Nat->Prop}(x:MI kind n N0 kt ks cs B g)(s:zd X g g')(b:∀a,X a->a<N0):MI kind n N0 kt ks cs B g':=
 ⟨x.m.kF s (λc=>by have:=b _ c;have:=x.new.1;omega) (λi d c=>by have:=b _ c;have:=x.new.2 i (by rw[<-x.sq.len];exact d);omega),x.sq,x.new⟩
theorem MI.ok(x:MI kind n N0 kt ks cs B g)(o:Ok g g'):MI kind n N0 kt ks cs B g':=⟨x.m.ok o,x.sq,x.new⟩
theorem MI.room(x:MI kind n N0 kt ks cs B g)(m:Nat):MI kind n N0 kt ks cs B (Go.Ab.room g m):=⟨x.m.room m,x.sq,x.new⟩
theorem MI.st(x:MI kind n N0 kt ks cs B g)(a:i<n)(b:j<n)(y:List UInt8):ah SS.P 9 (.pointer (some ⟨ks i,j,none⟩)) (strOf y) g=some (undef,.set (ks i) (.cells (eF ((B.getD i []).set j y)) 9 1 true)):=(x.m.row i (by rw[x.sq.len];exact a)).st ty (by rw[x.sq.row i a];exact b) y
theorem MI.put(x:MI kind n N0 kt ks cs B g)(a:i<n)(b:j<n){y:List UInt8}(c:aM kind y=true):MI kind n N0 kt ks cs (B.set i ((B.getD i []).set j y)) ((dM.set (ks i) (.cells (eF ((B.getD i []).set j y)) 9 1 true)).app g):=
 ⟨x.m.put (by rw[x.sq.len];exact a) j y,x.sq.put a b c,x.new⟩
theorem MI.lt(x:MI kind n N0 kt ks cs B g)(w:Wf g)(a:i<n):ks i<g.next:=(x.m.lt w).2 i (by rw[x.sq.len];exact a)
theorem MI.other(x:MI kind n N0 kt ks cs B g){k:Nat}(b:kt≠k/\∀i,i<n->ks i≠k)(l:dS):MI kind n N0 kt ks cs B ((dM.set k l).app g):=
 ⟨⟨by show(g.set k l).get kt=_;rw[ae.aw,if_neg b.1];exact x.m.out,λi a=>by
   have:=x.m.row i a;show(g.set k l).get (ks i)=_;rw[ae.aw,if_neg (b.2 i (by rw[<-x.sq.len];exact a))];exact this,x.m.ne,x.m.inj⟩,x.sq,x.new⟩
theorem nh.other{bad:Bool}(s:nh g s0 kind bad){k:Nat}(a:s0≠k)(l:dS):nh ((dM.set k l).app g) s0 kind bad:=by
 show(g.set k l).get s0=_;rw[ae.aw,if_neg a];exact s
theorem X9{X:Nat->Prop}(s:zd X h g)(d:Wf h){k:Nat}(i:h.next<=k)(c:k<g.next)(l:dS):zd X h ((dM.set k l).app g):=by
 refine⟨λa B b=>?_,λa B f b=>?_,s.nx⟩
 ·have b:(g.set k l).get a=some B:=b;rw[ae.aw]at b;split at b
  ·next e=>rw[e];exact c
  ·exact s.wf _ _ b
 ·show(g.set k l).get a=_;rw[ae.aw,if_neg (λe=>by have:=d _ _ b;omega)];exact s.ext _ _ f b
end
structure SI(h:ae)(s0:Nat)(kind:Int)(bad:Bool)(G now:Option LM)(g:ae):Prop where
 s:nh g s0 kind bad
 ok:zd (λk=>k=s0) h g
 yes:bad=true->G=none
 no:bad=false->now=G
section
variable {h:ae} {s0:Nat} {kind:Int} {bad:Bool} {G now now':Option LM} {g g':ae}
theorem SI.step(x:SI h s0 kind bad G now g)(e:bad=false->now=now'):SI h s0 kind bad G now' g:=⟨x.s,x.ok,x.yes,λa=>by rw[<-e a];exact x.no a⟩
theorem SI.qQ(x:SI h s0 kind bad G now g)(o:Ok g g'):SI h s0 kind bad G now g':=⟨x.s.ok o,x.ok.trans o.okS,x.yes,x.no⟩
theorem SI.op(x:SI h s0 kind bad G now g){a:Bool}{o:Option (List UInt8)}{c:List UInt8}(l:nh g' s0 kind a)(p:zd (λk=>k=s0) g g')(m:a=false->bad=false/\o=some c)(n:a=true->bad=true\/o=none)(f:o=none->now=none)(j:o=some c->now=now'):SI h s0 kind a G now' g':=
 ⟨l,x.ok.trans p,λd=>(by
   rcases n d with e|e
   ·exact x.yes e
   ·cases b:bad with
    |true=>exact x.yes b
    |false=>rw[<-x.no b];exact f e),λd=>by
   obtain⟨i,q⟩:=m d;rw[<-j q];exact x.no i⟩
theorem SI.wf(x:SI h s0 kind bad G now g):Wf g:=x.ok.wf
theorem SI.room(x:SI h s0 kind bad G now g)(m:Nat):SI h s0 kind bad G now (Go.Ab.room g m):=⟨x.s,x.ok.room m,x.yes,x.no⟩
theorem SI.set(x:SI h s0 kind bad G now g)(b:Wf h){k:Nat}(c:s0≠k)(d:h.next<=k)(a:k<g.next)(l:dS):SI h s0 kind bad G now ((dM.set k l).app g):=⟨x.s.other c l,X9 x.ok b d a l,x.yes,x.no⟩
end
structure Rw(h:ae)(s0:Nat)(kind:Int)(n N1 kb kc:Nat)(kbs bcs kcs ccs:Nat->Nat)(B C:LM)(g:ae):Prop where
 b:MI kind n h.next kb kbs bcs B g
 c:MI kind n N1 kc kcs ccs C g
 old:kb<N1/\(∀i,i<n->kbs i<N1)/\h.next<=N1
section
variable {h:ae} {s0:Nat} {kind:Int} {n N1 kb kc:Nat} {kbs bcs kcs ccs:Nat->Nat} {B C:LM} {g g':ae} {i j:Nat}
theorem Rw.op(t:Rw h s0 kind n N1 kb kc kbs bcs kcs ccs B C g)(b:s0<h.next)(o:zd (λk=>k=s0) g g'):Rw h s0 kind n N1 kb kc kbs bcs kcs ccs B C g':=
 ⟨t.b.kF o (λa e=>by rw[e];exact b),t.c.kF o (λa e=>by rw[e];have:=t.old.2.2;omega),t.old⟩
theorem Rw.room(t:Rw h s0 kind n N1 kb kc kbs bcs kcs ccs B C g)(m:Nat):Rw h s0 kind n N1 kb kc kbs bcs kcs ccs B C (Go.Ab.room g m):=⟨t.b.room m,t.c.room m,t.old⟩
theorem Rw.put(t:Rw h s0 kind n N1 kb kc kbs bcs kcs ccs B C g)(b:i<n)(d:j<n){y:List UInt8}(f:aM kind y=true):Rw h s0 kind n N1 kb kc kbs bcs kcs ccs B (C.set i ((C.getD i []).set j y)) ((dM.set (kcs i) (.cells (eF ((C.getD i []).set j y)) 9 1 true)).app g):=
 ⟨t.b.other ⟨λe=>by have:=t.c.new.2 i b;have:=t.old.1;omega,λa c e=>by have:=t.c.new.2 i b;have:=t.old.2.1 a c;omega⟩ _,t.c.put b d f,t.old⟩
end
def I4(h:ae)(s0:Nat)(kind:Int)(n N1 kb kc k i:Nat)(l:List UInt8)(kbs bcs kcs ccs:Nat->Nat)(B:LM)(G:Option LM)(a j:Nat)(g:ae):Prop:=j<=n/\a=n-j/\∃(C:LM)(bad:Bool),Rw h s0 kind n N1 kb kc kbs bcs kcs ccs B C g/\SI h s0 kind bad G (R4 kind n B l k (C.take i) i ((C.getD i []).take j) j) g
def I3(h:ae)(s0:Nat)(kind:Int)(n N1 kb kc k:Nat)(l:List UInt8)(kbs bcs kcs ccs:Nat->Nat)(B:LM)(G:Option LM)(a i:Nat)(g:ae):Prop:=i<=n/\a=n-i/\∃(C:LM)(bad:Bool),Rw h s0 kind n N1 kb kc kbs bcs kcs ccs B C g/\SI h s0 kind bad G (R3 kind n B l k (C.take i) i) g
section
variable {h:ae} {s0:Nat} {kind:Int} {n N1 kb kc k i:Nat} {l:List UInt8} {kbs bcs kcs ccs:Nat->Nat} {B:LM} {G:Option LM}
theorem UW{C:LM}{i j n:Nat}(e:C.length=n)(h:(C.getD i []).length=n)(f:i<n)(g:j<n)(x y:List UInt8):let b:=C.set i ((C.getD i []).set j x);let a:=b.set i ((b.getD i []).set j y);a.take i=C.take i/\(a.getD i []).take (j+1)=(C.getD i []).take j++[y]:=by
 dsimp only;have c:(C.set i ((C.getD i []).set j x)).getD i []=(C.getD i []).set j x:=by rw[dv (by omega),if_pos rfl]
 rw[c,List.set_set,List.set_set];refine⟨lr (Nat.le_refl _) _,?_⟩;rw[dv (by omega),if_pos rfl,jV (d:=[]) (by rw[length_set];omega),lr (Nat.le_refl _),dv (by omega),if_pos rfl]
theorem Yx{C:LM}{i j n:Nat}(b:C.length=n)(f:(C.getD i []).length=n)(c:i<n)(e:j<n)(y:List UInt8):let a:=C.set i ((C.getD i []).set j y);a.take i=C.take i/\(a.getD i []).take (j+1)=(C.getD i []).take j++[y]:=by
 dsimp only;refine⟨lr (Nat.le_refl _) _,?_⟩;rw[dv (by omega),if_pos rfl,jV (d:=[]) (by rw[length_set];omega),lr (Nat.le_refl _),dv (by omega),if_pos rfl]
theorem me(l:List UInt8):dG 4 (strOf l) (strOf l)=true:=kJ l
set_option linter.defProp false in
def Vk(wh:Wf h)(S:s0<h.next)(hk:1<=kind/\kind<=3)(hn:n<=1000)(f:k<n)(d:i<n)(hl:aM kind l=true)(a:Option Addr)(c:Nat)(X:Nat->Nat->Nat->ae->Prop)(x1:Nat)(M:Nat)(x8:M=n-i)(Q:VH):=
 Ae s0 a n c kb kc l X x1 k (I3 h s0 kind n N1 kb kc k l kbs bcs kcs ccs B G) M i (I4 h s0 kind n N1 kb kc k i l kbs bcs kcs ccs B G) Q (by
  intro x7 j;intros;rename_i g Z;obtain⟨f1,f2,C,bad,t,T⟩:=Z;refine aa (λq=>?_) (λq=>?_)
  ·have m:j<n:=by have:=dT q;omega
   have w:=t.room 14;have L:=t.b.sq.val i j d m;have P:s0≠kcs i:=λe=>by have:=t.c.new.2 i d;have:=t.old.2.2;omega
   refine⟨_,sE.ix ty d,_,_,_,w.c.ld d,_,sE.ix ty d,_,_,_,w.b.ld d,_,VB.ix ty m,_,w.b.cell d m,_,VB.ix ty m,_,w.c.st d m _,?_⟩;have t1:=w.put d m L;have x2:=(T.room 14).set wh P (Nat.le_trans t.old.2.2 (t.c.new.2 i d)) (w.c.lt (T.room 14).wf d) (.cells (eF ((C.getD i []).set j ((B.getD i []).getD j []))) 9 1 true);have hC:=t.c.sq.len;have hr:=t.c.sq.row i d;obtain⟨n1,n2⟩:=Yx hC hr d m ((B.getD i []).getD j []);obtain⟨r,N⟩:∃r,r=C.set i ((C.getD i []).set j ((B.getD i []).getD j [])):=⟨_,rfl⟩
   rw[<-N]at t1 n1 n2;have O:∀y,(r.set i ((r.getD i []).set j y)).take i=C.take i/\((r.set i ((r.getD i []).set j y)).getD i []).take (j+1)=(C.getD i []).take j++[y]:=λy=>by rw[N];exact UW hC hr d m _ y
   generalize (dM.set (kcs i) _).app (Go.Ab.room g 14)=U at*;have o:=t1.room 28;have u:=x2.room 28;rw[aN m (by omega)];refine⟨_,sE.ix ty d,_,_,_,o.b.ld d,_,VB.ix ty f,_,o.b.cell d f,_,oa _,_,u.s.l0,(gT hk _).mono ?_⟩;rintro _ Y ⟨rfl,V⟩;obtain rfl:Go.Ab.room U 28=Y:=V.symm;have zc:∀(b:Bool),((aY kind).xq (bS (aY kind) B i k)||(aY kind).xq (bS (aY kind) B k j))=true->SI h s0 kind bad G (R4 kind n B l k (r.take i) i ((r.getD i []).take (j+1)) (j+1)) (Go.Ab.room U 28):=λ_ J=>u.step λ_=>by
    rw[GJ m];unfold cw;rw[if_pos J,n1,n2,t.b.sq.Lm d m]
   refine⟨_,rfl,aa (λE=>?_) (λE=>?_)⟩
   ·refine⟨_,sE.ix ty f,_,_,_,o.b.ld f,_,VB.ix ty m,_,o.b.cell f m,_,oa _,_,u.s.l0,(gT hk _).mono ?_⟩;rintro _ Y ⟨rfl,V⟩;obtain rfl:Go.Ab.room U 28=Y:=V.symm;refine⟨_,rfl,⟨o.b.ld d,kj _ _ _⟩,⟨o.b.cell d f,me _⟩,⟨o.b.ld f,kj _ _ _⟩,⟨o.b.cell f m,me _⟩,aa (λz=>?_) (λz=>?_)⟩
    ·have s:=o.room 35;have x:=u.room 35;have x3:=t.b.sq.val i k d f;have x4:=t.b.sq.val k j f m;have J:¬((aY kind).xq (bS (aY kind) B i k)||(aY kind).xq (bS (aY kind) B k j))=true:=by
      rw[t.b.sq.Lm d f,t.b.sq.Lm f m];show ¬(((B.getD i []).getD k []==bF kind)||((B.getD k []).getD j []==bF kind))=true;rw[not_eq_true']at E z;rw[E,z];simp
     refine⟨_,sE.ix ty d,_,_,_,s.c.ld d,_,sE.ix ty d,_,_,_,s.b.ld d,_,VB.ix ty m,_,s.b.cell d m,_,sE.ix ty d,_,_,_,s.b.ld d,_,VB.ix ty f,_,s.b.cell d f,(F2 x.wf x.s x3 hl).mono ?_⟩;rintro _ g4 ⟨x6,A,rfl,s4,o4,v4,y4,z4⟩;have v:=s.op S o4;have D:=x.op (now':=match cD kind A ((B.getD k []).getD j [])with|none=>none|some p=>match eR kind ((B.getD i []).getD j []) p with|none=>none|some c=>R4 kind n B l k (C.take i) i ((C.getD i []).take j++[c]) (j+1)) s4 o4 y4 z4 (λe=>by
      rw[GJ m];unfold cw;rw[if_neg J,t.b.sq.Lm d f];have e:(aY kind).times ((B.getD i []).getD k []) l=none:=e;rw[e]) (λe=>by
      rw[GJ m];unfold cw;rw[if_neg J,t.b.sq.Lm d f,t.b.sq.Lm f m,t.b.sq.Lm d m];have e:(aY kind).times ((B.getD i []).getD k []) l=some A:=e;rw[e];dsimp only;have e2:(aY kind).times A ((B.getD k []).getD j [])=cD kind A ((B.getD k []).getD j []):=rfl;rw[e2]
      cases cD kind A ((B.getD k []).getD j [])with
      |none=>rfl
      |some p=>
       dsimp only;have e3:(aY kind).plus ((B.getD i []).getD j []) p=eR kind ((B.getD i []).getD j []) p:=rfl;rw[e3]
       cases eR kind ((B.getD i []).getD j []) p<;>rfl)
     refine⟨_,rfl,_,sE.ix ty f,_,_,_,v.b.ld f,_,VB.ix ty m,_,v.b.cell f m,(F2 D.wf D.s v4 x4).mono ?_⟩;rintro _ g5 ⟨x5,c5,rfl,s5,o5,v5,y5,z5⟩;have H:=v.op S o5;have F:=D.op (now':=match eR kind ((B.getD i []).getD j []) c5 with|none=>none|some c=>R4 kind n B l k (C.take i) i ((C.getD i []).take j++[c]) (j+1)) s5 o5 y5 z5 (λe=>by rw[e]) (λe=>by rw[e]);refine⟨_,rfl,(Kd F.wf F.s L v5).mono ?_⟩;rintro _ g6 ⟨W,K,rfl,s6,o6,v6,y6,z6⟩;have I:=H.op S o6;have R:=F.op (now':=R4 kind n B l k (C.take i) i ((C.getD i []).take j++[K]) (j+1)) s6 o6 y6 z6 (λe=>by rw[e]) (λe=>by rw[e]);refine⟨_,rfl,_,VB.ix ty m,_,I.c.st d m _,⟨v.c.ld d,kj _ _ _⟩,⟨H.c.ld d,kj _ _ _⟩,⟨I.c.ld d,kj _ _ _⟩,⟨v.b.ld d,kj _ _ _⟩,⟨H.b.ld d,kj _ _ _⟩,⟨v.b.cell d m,me _⟩,⟨H.b.cell d m,me _⟩,⟨s.b.ld f,kj _ _ _⟩,⟨s.b.cell f m,me _⟩,?_⟩;refine bZ (n-(j+1)) (by omega) ⟨by omega,rfl,_,W,I.put d m v6,?_⟩;have x0:=R.set wh P (Nat.le_trans t.old.2.2 (t.c.new.2 i d)) (I.c.lt R.wf d) (.cells (eF ((r.getD i []).set j K)) 9 1 true);rw[(O K).1,(O K).2];exact x0
    ·refine bZ (n-(j+1)) (by omega) ⟨by omega,rfl,r,bad,o,zc true ?_⟩;rw[t.b.sq.Lm d f,t.b.sq.Lm f m];show(_||((B.getD k []).getD j []==bF kind))=true;rw[not_eq_false']at z;rw[z,Bool.or_true]
   ·refine⟨⟨o.b.ld d,kj _ _ _⟩,⟨o.b.cell d f,me _⟩,bZ (n-(j+1)) (by omega) ⟨by omega,rfl,r,bad,o,zc true ?_⟩⟩;rw[t.b.sq.Lm d f];show(((B.getD i []).getD k []==bF kind)||_)=true;rw[not_eq_false']at E;rw[E,Bool.true_or]
  ·obtain rfl:j=n:=by have:=dF q;omega
   rw[aN d (by omega)];refine bZ (j-(i+1)) (by omega) ⟨by omega,rfl,C,bad,t,T.step λ_=>?_⟩;have e:(C.getD i []).take j=C.getD i []:=take_of_length_le (by rw[t.c.sq.row i d];exact Nat.le_refl _);rw[ZY,e,<-jV (by rw[t.c.sq.len];exact d)])
end
end
section
section
variable {h:ae} {s0:Nat} {kind:Int} {n:Nat} {G:Option LM}
def I2(h:ae)(s0:Nat)(kind:Int)(n:Nat)(G:Option LM)(c k d:Nat)(g:ae):Prop:=k<=n/\c=n-k/\∃(b a:Nat->Nat)(B:LM)(bad:Bool),MI kind n h.next d b a B g/\SI h s0 kind bad G (R2 kind n B k) g
def I5(h:ae)(s0:Nat)(kind:Int)(n:Nat)(G:Option LM)(d:Nat)(b a:Nat->Nat)(c i:Nat)(g:ae):Prop:=i<=n/\c=n-i/\∃(B:LM)(bad:Bool),MI kind n h.next d b a B g/\SI h s0 kind bad G (bd (nW (aY kind)) (n-i) i B) g
def stQ(h:ae)(s0:Nat)(kind:Int)(n:Nat)(G:Option LM):VH:=λv g=>∃(b:Nat)(c a:Nat->Nat)(B:LM)(bad:Bool),v=sA b n n/\MI kind n h.next b c a B g/\nh g s0 kind bad/\zd (λk=>k=s0) h g/\(bad=true->G=none)/\(bad=false->G=some B)
theorem YN(C:Wf h)(E:s0<h.next)(x:1<=kind/\kind<=3)(L:n<=1000)(a:Option Addr)(c:Nat){m:Nat}{k l:Nat->Nat}{B:LM}{bad:Bool}{g:ae}(d:MI kind n h.next m k l B g)(f:SI h s0 kind bad G (R2 kind n B n) g):
  LL SS bD [1,1,1,1,1,0,1,0,0] (kI s0 n m 0) g (KK SS bD [1,1,1,1,1,0,1,0] [] (EE SS bD (stQ h s0 kind n G))):=by
 have w:SI h s0 kind bad G (bd (nW (aY kind)) (n-0) 0 B) g:=f.step λ_=>by
  unfold R2;rw[iD,sub_zero]
 refine Ad s0 a n c m (I5 h s0 kind n G m k l) (stQ h s0 kind n G) (λM i=>?_) n (i:=0) ⟨by omega,rfl,B,bad,d,w⟩;intros;rename_i g t;obtain⟨P,O,B,bad,d,f⟩:=t;refine aa (λq=>?_) (λq=>?_)
 ·have b:i<n:=by have:=dT q;omega
  have j:=d.room 21;have p:=f.room 21;have H:=d.sq.val i i b b;refine⟨_,sE.ix ty b,_,_,_,j.ld b,_,oa _,_,p.s.l0,(N2 kind _).mono ?_⟩;rintro _ K ⟨rfl,I⟩;obtain rfl:Go.Ab.room g 21=K:=I.symm;rw[T3 x];refine⟨_,rfl,_,sE.ix ty b,_,_,_,j.ld b,_,VB.ix ty b,_,j.cell b b,(Kd p.wf p.s (aaN x) H).mono ?_⟩;rintro _ N ⟨s,u,rfl,F,v,A,D,J⟩;have o:=j.kF v (λa e=>by rw[e];exact E);have r:=p.op (now':=bd (nW (aY kind)) (n-(i+1)) (i+1) (B.set i ((B.getD i []).set i u))) F v D J (λe=>by
   rw[fg _ b];unfold nW;rw[d.sq.Lm b b];have e:(aY kind).plus (aY kind).one ((B.getD i []).getD i [])=none:=e;rw[e]) (λe=>by
   rw[fg _ b];unfold nW;rw[d.sq.Lm b b];have e:(aY kind).plus (aY kind).one ((B.getD i []).getD i [])=some u:=e;rw[e])
  refine⟨_,rfl,_,VB.ix ty b,_,o.st b b _,⟨j.ld b,kj _ _ _⟩,⟨o.ld b,kj _ _ _⟩,⟨j.ld b,kj _ _ _⟩,⟨j.cell b b,me _⟩,?_⟩;have y:s0≠k i:=λe=>by have:=d.new.2 i b;omega
  rw[aN b (by omega)];exact bZ (n-(i+1)) (by omega) ⟨by omega,rfl,_,s,o.put b b A,r.set C y (d.new.2 i b) (o.lt r.wf b) _⟩
 ·obtain rfl:i=n:=by have:=dF q;omega
  refine⟨m,k,l,B,bad,rfl,d,f.s,f.ok,f.yes,λz=>?_⟩;rw[<-f.no z,iD]
theorem YO(M:Wf h)(H:s0<h.next)(x:1<=kind/\kind<=3)(F:n<=1000)(a:Option Addr)(c:Nat){p:Nat}{kbs bcs:Nat->Nat}{B:LM}{bad:Bool}{g:ae}(f:MI kind n h.next p kbs bcs B g)(m:SI h s0 kind bad G (R2 kind n B 0) g):
  LL SS bD [1,1,1,1,0,1,0,0] (eT s0 n 0 p) g (KK SS bD [1,1,1,1,0,1,0] [] (EE SS bD (stQ h s0 kind n G))):=by
 refine Aa s0 a n c (I2 h s0 kind n G) (stQ h s0 kind n G) (λz k p=>?_) n (k:=0) (kb:=p) ⟨by omega,rfl,kbs,bcs,B,bad,f,m⟩;intros;rename_i g J;obtain⟨f1,f2,kbs,bcs,B,bad,f,m⟩:=J;refine aa (λq=>?_) (λq=>?_)
 ·have d:k<n:=by have:=dT q;omega
  refine⟨_,oa _,_,m.s.l0,(Wq m.wf x F).mono ?_⟩;rintro _ g1 ⟨D,s,w,rfl,Z,L,U,K⟩;have v:=f.ok L;have t:=m.qQ L;have W:=f.sq.val k k d d;refine⟨_,_,_,rfl,_,sE.ix ty d,_,_,_,v.ld d,_,VB.ix ty d,_,v.cell d d,(U2 t.wf t.s W).mono ?_⟩;rintro _ g2 ⟨E,l,rfl,s2,Q,X,T,Y⟩;have hN:h.next<=g.next:=m.ok.nx;have zq:Sq kind n (List.replicate n (List.replicate n (bF kind))):=by
   have R:∀a,a<n->(List.replicate n (List.replicate n (bF kind))).getD a []=List.replicate n (bF kind):=λa o=>by
    rw[gD,getElem?_replicate,if_pos o];rfl
   refine⟨length_replicate,λa o=>by rw[R a o];exact length_replicate,λa b o S=>?_⟩;rw[R a o,gD,getElem?_replicate,if_pos S];exact sC x
  have t1:Rw h s0 kind n g.next p D kbs bcs s w B _ g1:=⟨v,⟨Z,zq,U,K⟩,(f.m.lt m.wf).1,λa o=>f.lt m.wf o,hN⟩
  have V:=t1.op H Q;have O:=t.op (now':=R3 kind n B l k [] 0) s2 Q T Y (λe=>by
   rw[No f.sq.len d,f.sq.Lm d d];have e:(aY kind).star ((B.getD k []).getD k [])=none:=e;rw[e]) (λe=>by
   rw[No f.sq.len d,f.sq.Lm d d];have e:(aY kind).star ((B.getD k []).getD k [])=some l:=e;rw[e])
  refine⟨_,rfl,?_⟩;refine Ac s0 a n c p D l (I2 h s0 kind n G) z k (I3 h s0 kind n g.next p D k l kbs bcs s w B G) (stQ h s0 kind n G) (λN i=>?_) n (i:=0) ⟨by omega,rfl,_,E,V,by rw[take_zero];exact O⟩;intros;rename_i g3 I;obtain⟨e1,e2,C,u,r,y⟩:=I;refine aa (λA=>?_) (λA=>?_)
  ·have P:i<n:=by have:=dT A;omega
   exact Vk M H x F d P X a c (I2 h s0 kind n G) z N e2 (stQ h s0 kind n G) n (j:=0) ⟨by omega,rfl,C,u,r,by
    rw[take_zero];exact y.step λ_=>WE f.sq.len P⟩
  ·obtain rfl:i=n:=by have:=dF A;omega
   rw[aN d (by omega)];refine iI (i-(k+1)) (by omega) ⟨by omega,rfl,s,w,C,u,⟨r.c.m,r.c.sq,Nat.le_trans r.old.2.2 r.c.new.1,λa o=>Nat.le_trans r.old.2.2 (r.c.new.2 a o)⟩,y.step λ_=>?_⟩;rw[ZX,take_of_length_le (by rw[r.c.sq.len];exact Nat.le_refl _)]
 ·obtain rfl:k=n:=by have:=dF q;omega
  exact YN M H x F a c f m
theorem Vo(o:Wf h)(F:1<=kind/\kind<=3)(A:n<=1000)(x:nh h s0 kind false){a:Option Addr}{c:Nat}{R:LM}(r:Li 107 h (.slice a n c) R)(j:Sq kind n R):FW SS 124 [pA s0,.slice a n c] h (stQ h s0 kind n (jL (aY kind) R)):=by
 have K:s0<h.next:=o _ _ x;refine Vn s0 a n c h _ ⟨_,oa _,_,x.l0,(Wq o F A).mono ?_⟩;rintro _ W ⟨D,f,k,rfl,M,I,Q,u⟩;refine⟨_,_,_,rfl,?_⟩;have S:∀a,a<n->(List.replicate n (List.replicate n (bF kind))).getD a []=List.replicate n (bF kind):=λa d=>by
  rw[gD,getElem?_replicate,if_pos d];rfl
 refine zZ s0 a n c D (λC i g=>i<=n/\C=n-i/\Ok h g/\∃B:LM,sE 107 g D f k B/\B.length=n/\(∀a,a<n->(B.getD a []).length=n)/\∀a,a<i->B.getD a []=R.getD a []) _ (λC i=>?_) n (i:=0) ⟨by omega,rfl,I,_,M,length_replicate,λa d=>by rw[S a d];exact length_replicate,λa d=>by omega⟩;intros;rename_i g z;obtain⟨X,U,l,B,m,w,s,H⟩:=z;refine aa (λq=>?_) (λq=>?_)
 ·have b:i<n:=by have:=dT q;omega
  have t:=m.room 9;obtain⟨p,V,N,T,J,P,E⟩:=(r.ok (l.room 9)).at_ ty (i:=i) (by rw[j.len];exact b);have G:=E.len;rw[ff,j.row i b]at G;subst G;have v:=t.ld ty (i:=i) (by omega);rw[s i b]at v;refine⟨_,sE.ix ty b,_,_,_,v,_,J,_,_,_,P,_,_,Xp ty (t.row i (by omega)) (s i b) (by omega) E,?_⟩;rw[aN b (by omega)];have y:f i<(Go.Ab.room g 9).next:=(t.lt (l.room 9).wf).2 i (by omega);refine bZ (N-(i+1)) (by omega) ⟨by omega,rfl,(l.room 9).set _ (u i b) y o,B.set i (R.getD i []),t.acS (by omega) (by rw[j.row i b,s i b]),by rw[length_set];exact w,λa d=>?_,λa d=>?_⟩
  ·rw[dv (by omega)];split
   ·exact j.row i b
   ·exact s a d
  ·rw[dv (by omega)];split
   ·next e=>rw[e]
   ·exact H a (by omega)
 ·obtain rfl:i=n:=by have:=dF q;omega
  have e:B=R:=by
   refine ext_getElem (by rw[w,j.len]) λa L O=>?_;have:=H a (by omega);rw[gD,gD,gE L,gE O]at this;exact this
  subst e;exact YO o K F A a c (kbs:=f) (bcs:=k) (B:=B) (bad:=false) ⟨m,j,Q,u⟩ ⟨x.ok l,l.okS,(λh=>by cases h),λ_=>(RM w).symm⟩
def ZQ(kind:Int):dS:= .cells [.int .i64 kind,.bool false] 136 0 true
theorem acj(kind:Int):bh SS.P 136 [(0,.int .i64 kind)]=some (.agg ⟨[.int .i64 kind,.bool false]⟩):=by kernel_rfl
theorem acm(kind:Int):eK SS.P 136 (.agg ⟨[.int .i64 kind,.bool false]⟩)=some (ZQ kind,k6):=by kernel_rfl
def ad5(h:ae)(kind:Int)(n:Nat)(G:Option LM):VH:=λv g=>Ok h g/\match G with
 |none=>v = .tuple ⟨[nA,.int .i64 2]⟩
 |some B=>∃(a:Option Addr)(c:Nat),v = .tuple ⟨[.slice a n c,.int .i64 0]⟩/\a≠none/\Li 107 g (.slice a n c) B/\Sq kind n B
theorem Qk(w:Wf h)(A:1<=kind/\kind<=3)(F:n<=3000){a:Option Addr}{c:Nat}{R:LM}(r:Li 107 h (.slice a n c) R)(f:Sq kind n R):FW SS 97 [.int .i64 kind,.slice a n c] h (ad5 h kind n (if 60<n then none else jL (aY kind) R)):=by
 have s:∀l∈R,l.length=R.length/\∀x∈l,aM kind x=true:=λl d=>by
  obtain⟨i,z,e⟩:=List.mem_iff_getElem.1 d;have m:i<n:=by rw[<-f.len];exact z
  have t:R.getD i []=l:=by rw[gD,gE z];exact e
  have v:=f.row i m;rw[t]at v;refine⟨by rw[v,f.len],λx H=>?_⟩;obtain⟨j,K,J⟩:=List.mem_iff_getElem.1 H;have:=f.val i j m (by omega);rw[t,gD,gE K]at this;rw[<-J];exact this
 refine Qj kind a n c h _ ((aaJ w A r (λl d=>(s l d).1) (λl d=>(s l d).2) F).mono ?_);rintro _ g ⟨rfl,b⟩;refine⟨_,rfl,aa (λe=>by cases e) (λ_=>aa (λq=>?_) (λq=>?_))⟩
 ·rw[if_pos (by have:=dT q;omega)];exact⟨b,rfl⟩
 have o:¬60<n:=by have:=dF q;omega
 rw[if_neg o];refine⟨_,acj kind,_,acm kind,?_⟩;have C:=(Ok.refl b.wf).push (ZQ kind);have L:nh (g.push (ZQ kind)) g.next kind false:=aJ g _;refine(Vo C.wf A (by omega) L (r.ok (b.trans C)) f).mono ?_;rintro _ G ⟨P,O,N,B,bad,rfl,p,y,I,M,u⟩;have D:Ok h G:=(I.ok (h0:=g) (Ok.push (Ok.refl b.wf) _) b.wf (λk e=>by rw[e];exact Nat.le_refl _)) |> b.trans
 refine⟨_,_,_,rfl,_,pJ _,_,y.l1,aa (λq=>?_) (λq=>?_)⟩
 ·rw[M q];exact⟨D,rfl⟩
 ·rw[u q];have E:=p.m.rdM n;rw[p.sq.len]at E;exact⟨D,_,_,rfl,by simp,E,p.sq⟩
end
end
noncomputable def abm:FD:=cG Tryz.f98 []
theorem YZ(m:Int)(p n o:Nat)(t:Int)(a b:LB)(h:ae)(Q:VH)(q:FW SS 65 [(.int .i64 m),(strOf a),(strOf b)] h λk l=>∃j:LB,∃i:Int,k=(.tuple ⟨[(strOf j),(.int .i64 i)]⟩)/\au (((i:Int) !=0)) (Q (.int .i64 i) l) (iP 107 (sA p n o) (.int .i64 t) λh=>lS l h λg=>FW SS 62 [(.int .i64 m),(strOf g),(strOf j)] l λe f=>∃d:LB,∃c:Int,e=(.tuple ⟨[(strOf d),(.int .i64 c)]⟩)/\au (((c:Int)==0)) (iP 107 (sA p n o) (.int .i64 t) λb=>xU (ah SS.P 9 (.pointer (some b)) (strOf d) f) f λ_ a=>Q (.int .i64 c) a) (Q (.int .i64 c) f))):FW SS 98 [(.int .i64 m),(sA p n o),(.int .i64 t),(strOf a),(strOf b)] h Q:=cQ abm Tryz.func98 (ai q)
noncomputable def py:FD:=cG Tryz.f74 [([1,1,0,1,0,0],[1,3,4])]
abbrev pz(k a n:Nat)(i:Nat):LV:=[(pA k),(sA a n n),(iA i)]
theorem Rn(g:LV)(h:ae)(Q:VH)(i:xN (eK SS.P 29 (.agg ⟨g⟩)) h λ_ f=>fP 29 (pA (h.next)) 3 λe=>lL 27 f e λ_ d _=>xR (ch SS.P 107 (iA d) (iA d)) f λ_ a b c=>LL SS py [1,1,0,1,0,0] [(pA (h.next)),(sA (f.next) a b),(.int .i64 0)] c (KK SS py [1,1,0,1,0] [] (EE SS py Q))):FW SS 74 [(.agg ⟨g⟩)] h Q:=cQ py Tryz.func74 (ai i)
theorem yD(q:LV)(k m n:Nat)(l:Nat->Nat->ae->Prop)(Q:VH)(step:∀(j:Nat) (i:Nat) (p:Nat->Value) (h:ae),l j i h->au (decide (((i:Int):Int)<(n:Int))) (fP 29 (pA k) 0 λg=>lI h g λf=>FW SS 18 [(.int .i64 f)] h λd e=>yS d λc=>iP 107 (sA m n n) (iA i) λb=>xU (ah SS.P 9 (.pointer (some b)) (strOf c) e) e λ_ a=>aI (fj (pz k m n) l) j [(pA k),(sA m n n),(.int .i64 (wrap .i64 ((i:Int)+1)))] a) (Q (sA m n n) h))(j:Nat){i:Nat}{h:ae}(o:l j i h):LL SS py [1,1,0,1,0,0] (pz k m n i) h (KK SS py [1,1,0,1,0] [] (EE SS py Q)):=
 dg (pz k m n) l (λj i p h o=>ai (step j i p h o)) j o
noncomputable def wJ:FD:=cG Tryz.f77 [([1,1,0,1,0,0],[0,1,2,8,9])]
abbrev ss(e:Int)(a:OA)(n c:Nat)(b:OA)(m d f:Nat)(i:Nat):LV:=[(.int .i64 e),(.slice a n c),(.slice b m d),(sA f n n),(iA i)]
theorem Y4(i:Int)(a:OA)(n c:Nat)(b:OA)(m d:Nat)(h:ae)(Q:VH)(j:xR (ch SS.P 107 (iA n) (iA n)) h λ_ e f g=>LL SS wJ [1,1,0,1,0,0] [(.int .i64 i),(.slice a n c),(.slice b m d),(sA (h.next) e f),(.int .i64 0)] g (KK SS wJ [1,1,0,1,0] [] (EE SS wJ Q))):FW SS 77 [(.int .i64 i),(.slice a n c),(.slice b m d)] h Q:=cQ wJ Tryz.func77 (ai j)
theorem Bu(r:Int)(a:OA)(n c:Nat)(b:OA)(m d:Nat)(u:Nat)(t:Nat->Nat->ae->Prop)(Q:VH)(step:∀(s:Nat) (i:Nat) (w:Nat->Value) (h:ae),t s i h->au (decide (((i:Int):Int)<(n:Int))) (iP 107 (.slice a n c) (iA i) λq=>lS (room h 15) q λp=>iP 107 (.slice b m d) (iA i) λo=>lS (room h 15) o λl=>FW SS 62 [(.int .i64 r),(strOf p),(strOf l)] (room h 15) λj k=>∃h:LB,∃g:Int,j=(.tuple ⟨[(strOf h),(.int .i64 g)]⟩)/\au (((g:Int) !=0)) (Q (.tuple ⟨[nA,(.int .i64 g)]⟩) k) (iP 107 (sA u n n) (iA i) λf=>xU (ah SS.P 9 (.pointer (some f)) (strOf h) k) k λ_ e=>aI (fj (ss r a n c b m d u) t) s [(.int .i64 r),(.slice a n c),(.slice b m d),(sA u n n),(.int .i64 (wrap .i64 ((i:Int)+1)))] e)) (Q (.tuple ⟨[(sA u n n),(.int .i64 0)]⟩) h))(s:Nat){i:Nat}{h:ae}(v:t s i h):LL SS wJ [1,1,0,1,0,0] (ss r a n c b m d u i) h (KK SS wJ [1,1,0,1,0] [] (EE SS wJ Q)):=
 dg (ss r a n c b m d u) t (λs i w h v=>ai (step s i w h v)) s v
noncomputable def gw:FD:=cG Tryz.f76 [([1,1,0,1,0,0],[1,2,3,4,5,12,13]),([1,1,0,1,0,0,1,0,0,1,1,0,0],[1,2,3,4,5,12,13,14])]
abbrev iT(a:OA)(n c:Nat)(d e:Int)(k b N:Nat)(q:Nat):LV:=[(.slice a n c),(.int .i64 d),(.int .i64 e),(.bool false),(pA k),(sA b N N),(iA q)]
abbrev iU(a:OA)(n c:Nat)(d e:Int)(k b N q:Nat)(j:Nat):LV:=[(.slice a n c),(.int .i64 d),(.int .i64 e),(.bool false),(pA k),(sA b N N),(iA q),(iA j)]
theorem VW(k:LV)(a:OA)(n c:Nat)(l m:Int)(h:ae)(Q:VH)(o:xN (eK SS.P 29 (.agg ⟨k⟩)) h λ_ j=>lA 29 j (pA (h.next)) λi=>FW SS 74 [(.agg ⟨i⟩)] j λf g=>yL f λb d e=>LL SS gw [1,1,0,1,0,0] [(.slice a n c),(.int .i64 l),(.int .i64 m),(.bool false),(pA (h.next)),(.slice b d e),(.int .i64 0)] g (KK SS gw [1,1,0,1,0] [] (EE SS gw Q))):FW SS 76 [(.agg ⟨k⟩),(.slice a n c),(.int .i64 l),(.int .i64 m),(.bool false)] h Q:=cQ gw Tryz.func76 (ai o)
theorem Ao(w:LV)(a:OA)(n c:Nat)(s t:Int)(k r N:Nat)(o:Nat->Nat->ae->Prop)(Q:VH)(step:∀(p:Nat) (q:Nat) (v:Nat->Value) (h:ae),o p q h->fP 29 (pA k) 3 λm=>lL 27 h m λ_ l _=>au (decide (((q:Int):Int)<(l:Int))) (iP 107 (.slice a n c) (iA q) λj=>lS (room h 8) j λi=>fP 29 (pA k) 0 λg=>lI (room h 8) g λf=>FW SS 18 [(.int .i64 f)] (room h 8) λd e=>yS d λb=>(aj SS.P 9 e (.pointer (some j))=some (strOf i)/\dG 4 (strOf i) (strOf i)=true)/\au ((i:LB)==b) (aI (fj (iT a n c s t k r N) o) p [(.slice a n c),(.int .i64 s),(.int .i64 t),(.bool false),(pA k),(sA r N N),(.int .i64 (wrap .i64 ((q:Int)+1)))] e) (LL SS gw [1,1,0,1,0,0,1,0,0,1,1,0,0] (iU a n c s t k r N q 0) e (KK SS gw [1,0,0,1,1,0] [1,1,0,1,0,0] (RR gw [1,1,0,1,0,0] (fj (iT a n c s t k r N) o) p (KK SS gw [1,1,0,1,0] [] (EE SS gw Q)))))) (Q (.tuple ⟨[(sA r N N),(.int .i64 0)]⟩) h))(p:Nat){q:Nat}{h:ae}(u:o p q h):LL SS gw [1,1,0,1,0,0] (iT a n c s t k r N q) h (KK SS gw [1,1,0,1,0] [] (EE SS gw Q)):=
 dg (iT a n c s t k r N) o (λp q v h u=>ai (step p q v h u)) p u
theorem Ap(mv:LV)(a:OA)(n c:Nat)(D E:Int)(k C N:Nat)(F:Nat->Nat->ae->Prop)(H q:Nat)(B:Nat->Nat->ae->Prop)(Q:VH)(step:∀(A:Nat) (j:Nat) (I:Nat->Value) (h:ae),B A j h->fP 29 (pA k) 3 λV=>lL 27 h V λb2 K R=>iP 27 (.slice b2 K R) (iA q) λY=>fP 73 (.pointer (some Y)) 1 λS=>lL 71 h S λ_ J _=>au (decide (((j:Int):Int)<(J:Int))) (fP 29 (pA k) 3 λL=>lL 27 h L λX P W=>iP 27 (.slice X P W) (iA q) λU=>fP 73 (.pointer (some U)) 1 λT=>lL 71 h T λO Z M=>iP 71 (.slice O Z M) (iA j) λz=>lA 70 h (.pointer (some z)) λy=>xN (br SS.P 70) h λ_ x=>xU (ah SS.P 70 (pA (h.next)) (.agg ⟨y⟩) x) x λ_ w=>fP 70 (pA (h.next)) 0 λv=>lI w v λu=>au (((u:Int) !=D)) (aI (fj (iU a n c D E k C N q) B) A [(.slice a n c),(.int .i64 D),(.int .i64 E),(.bool false),(pA k),(sA C N N),(iA q),(.int .i64 (wrap .i64 ((j:Int)+1)))] w) (fP 70 (pA (h.next)) 1 λt=>lI w t λs=>au (((s:Int) !=E)) (aI (fj (iU a n c D E k C N q) B) A [(.slice a n c),(.int .i64 D),(.int .i64 E),(.bool false),(pA k),(sA C N N),(iA q),(.int .i64 (wrap .i64 ((j:Int)+1)))] w) (fP 29 (pA k) 0 λr=>lI (room w 13) r λp=>fP 70 (pA (h.next)) 3 λo=>lI (room w 13) o λm=>iP 107 (.slice a n c) (iA q) λl=>lS (room w 13) l λi=>fP 70 (pA (h.next)) 2 λg=>lS (room w 13) g λf=>FW SS 98 [(.int .i64 p),(sA C N N),(.int .i64 m),(strOf i),(strOf f)] (room w 13) λd e=>yI .i64 d λb=>au (((b:Int) !=0)) (Q (.tuple ⟨[nA,(.int .i64 b)]⟩) e) (aI (fj (iU a n c D E k C N q) B) A [(.slice a n c),(.int .i64 D),(.int .i64 E),(.bool false),(pA k),(sA C N N),(iA q),(.int .i64 (wrap .i64 ((j:Int)+1)))] e)))) (aI (fj (iT a n c D E k C N) F) H [(.slice a n c),(.int .i64 D),(.int .i64 E),(.bool false),(pA k),(sA C N N),(.int .i64 (wrap .i64 ((q:Int)+1)))] h))(A:Nat){j:Nat}{h:ae}(G:B A j h):LL SS gw [1,1,0,1,0,0,1,0,0,1,1,0,0] (iU a n c D E k C N q j) h (KK SS gw [1,0,0,1,1,0] [1,1,0,1,0,0] (RR gw [1,1,0,1,0,0] (fj (iT a n c D E k C N) F) H (KK SS gw [1,1,0,1,0] [] (EE SS gw Q)))):=
 dg (iU a n c D E k C N q) B (λA j I h G=>ai (step A j I h G)) A G
noncomputable def VS:FD:=cG Tryz.f75 []
theorem Rl(d:LV)(a:OA)(n c:Nat)(h:ae)(Q:VH)(e:xN (eK SS.P 29 (.agg ⟨d⟩)) h λ_ b=>Q (.tuple ⟨[(.slice a n c),(.int .i64 0)]⟩) b):FW SS 75 [(.agg ⟨d⟩),(.slice a n c),nA] h Q:=cQ VS Tryz.func75 (ai e)
noncomputable def gr:FD:=cG Tryz.f75 [([1,1,1,0,1,0,0],[1,2,3,8,9]),([1,1,1,0,1,0,0,1,0,0,1,0,0],[1,2,3,8,9,10])]
abbrev kK(a:OA)(n c:Nat)(e:Addr)(m d k b:Nat)(q:Nat):LV:=[(.slice a n c),(.slice (some e) m d),(pA k),(sA b n n),(iA q)]
abbrev kL(a:OA)(n c:Nat)(e:Addr)(m d k b q:Nat)(p:Nat):LV:=[(.slice a n c),(.slice (some e) m d),(pA k),(sA b n n),(iA q),(iA p)]
theorem VT(l:LV)(a:OA)(n c:Nat)(o:Addr)(m d:Nat)(h:ae)(Q:VH)(p:xN (eK SS.P 29 (.agg ⟨l⟩)) h λ_ k=>lA 29 k (pA (h.next)) λj=>FW SS 74 [(.agg ⟨j⟩)] k λg i=>yL g λb e f=>LL SS gr [1,1,1,0,1,0,0] [(.slice a n c),(.slice (some o) m d),(pA (h.next)),(.slice b e f),(.int .i64 0)] i (KK SS gr [1,1,1,0,1,0] [] (EE SS gr Q))):FW SS 75 [(.agg ⟨l⟩),(.slice a n c),(.slice (some o) m d)] h Q:=cQ gr Tryz.func75 (ai p)
theorem Am(l:LV)(a:OA)(n c:Nat)(g:Addr)(m d:Nat)(k f:Nat)(e:Nat->Nat->ae->Prop)(Q:VH)(step:∀(b:Nat) (q:Nat) (j:Nat->Value) (h:ae),e b q h->au (decide (((q:Int):Int)<(n:Int))) (LL SS gr [1,1,1,0,1,0,0,1,0,0,1,0,0] [(.slice a n c),(.slice (some g) m d),(pA k),(sA f n n),(iA q),(.int .i64 0)] h (KK SS gr [1,0,0,1,0] [1,1,1,0,1,0,0] (RR gr [1,1,1,0,1,0,0] (fj (kK a n c g m d k f) e) b (KK SS gr [1,1,1,0,1,0] [] (EE SS gr Q))))) (Q (.tuple ⟨[(sA f n n),(.int .i64 0)]⟩) h))(b:Nat){q:Nat}{h:ae}(i:e b q h):LL SS gr [1,1,1,0,1,0,0] (kK a n c g m d k f q) h (KK SS gr [1,1,1,0,1,0] [] (EE SS gr Q)):=
 dg (kK a n c g m d k f) e (λb q j h i=>ai (step b q j h i)) b i
theorem An(W:LV)(a:OA)(n c:Nat)(B:Addr)(m d:Nat)(k D:Nat)(K:Nat->Nat->ae->Prop)(N q:Nat)(C:Nat->Nat->ae->Prop)(Q:VH)(step:∀(A:Nat) (p:Nat) (O:Nat->Value) (h:ae),C A p h->au (decide (((p:Int):Int)<(n:Int))) (iP 107 (.slice a n c) (iA q) λM=>lS (room h 21) M λF=>fP 29 (pA k) 0 λU=>lI (room h 21) U λS=>FW SS 18 [(.int .i64 S)] (room h 21) λV E=>yS V λT=>au ((F:LB)==T) ((aj SS.P 9 E (.pointer (some M))=some (strOf F)/\dG 4 (strOf F) (strOf F)=true)/\aI (fj (kL a n c B m d k D q) C) A [(.slice a n c),(.slice (some B) m d),(pA k),(sA D n n),(iA q),(.int .i64 (wrap .i64 ((p:Int)+1)))] E) (iP 103 (.slice (some B) m d) (iA q) λP=>lL 107 E P λG I J=>iP 107 (.slice G I J) (iA p) λR=>lS E R λH=>fP 29 (pA k) 0 λz=>lI E z λy=>FW SS 18 [(.int .i64 y)] E λw x=>yS w λv=>(aj SS.P 9 E (.pointer (some M))=some (strOf F)/\dG 4 (strOf F) (strOf F)=true)/\(aj SS.P 107 x (.pointer (some P))=some (.slice G I J)/\dG 4 (.slice G I J) (.slice G I J)=true)/\(aj SS.P 9 x (.pointer (some R))=some (strOf H)/\dG 4 (strOf H) (strOf H)=true)/\au ((H:LB)==v) (aI (fj (kL a n c B m d k D q) C) A [(.slice a n c),(.slice (some B) m d),(pA k),(sA D n n),(iA q),(.int .i64 (wrap .i64 ((p:Int)+1)))] x) (fP 29 (pA k) 0 λu=>lI (room x 17) u λt=>iP 107 (.slice a n c) (iA q) λs=>lS (room x 17) s λr=>iP 103 (.slice (some B) m d) (iA q) λo=>lL 107 (room x 17) o λi j l=>iP 107 (.slice i j l) (iA p) λh=>lS (room x 17) h λg=>FW SS 98 [(.int .i64 t),(sA D n n),(iA p),(strOf r),(strOf g)] (room x 17) λe f=>yI .i64 e λb=>au (((b:Int) !=0)) (Q (.tuple ⟨[nA,(.int .i64 b)]⟩) f) (aI (fj (kL a n c B m d k D q) C) A [(.slice a n c),(.slice (some B) m d),(pA k),(sA D n n),(iA q),(.int .i64 (wrap .i64 ((p:Int)+1)))] f)))) (aI (fj (kK a n c B m d k D) K) N [(.slice a n c),(.slice (some B) m d),(pA k),(sA D n n),(.int .i64 (wrap .i64 ((q:Int)+1)))] h))(A:Nat){p:Nat}{h:ae}(L:C A p h):LL SS gr [1,1,1,0,1,0,0,1,0,0,1,0,0] (kL a n c B m d k D q p) h (KK SS gr [1,0,0,1,0] [1,1,1,0,1,0,0] (RR gr [1,1,1,0,1,0,0] (fj (kK a n c B m d k D) K) N (KK SS gr [1,1,1,0,1,0] [] (EE SS gr Q)))):=
 dg (kL a n c B m d k D q) C (λA p O h L=>ai (step A p O h L)) A L
noncomputable def wI:FD:=cG Tryz.f78 [([1,1,0,1,0,0],[1,2,6,7])]
abbrev ou(a:OA)(n c k b:Nat)(q:Nat):LV:=[(.slice a n c),(pA k),(sA b 1 1),(iA q)]
theorem Y0(m:LV)(a:OA)(n c:Nat)(h:ae)(Q:VH)(o:xN (eK SS.P 29 (.agg ⟨m⟩)) h λ_ l=>fP 29 (pA (h.next)) 0 λk=>lI l k λj=>FW SS 18 [(.int .i64 j)] l λg i=>yS g λf=>xR (aF SS.P 107 1 [(0,(strOf f))]) i λ_ b d e=>LL SS wI [1,1,0,1,0,0] [(.slice a n c),(pA (h.next)),(sA (i.next) b d),(.int .i64 0)] e (KK SS wI [1,1,0,1,0] [] (EE SS wI Q))):FW SS 78 [(.agg ⟨m⟩),(.slice a n c)] h Q:=cQ wI Tryz.func78 (ai o)
theorem Br(G:LV)(a:OA)(n c:Nat)(k C:Nat)(A:Nat->Nat->ae->Prop)(Q:VH)(step:∀(B:Nat) (q:Nat) (E:Nat->Value) (h:ae),A B q h->au (decide (((q:Int):Int)<(n:Int))) (fP 29 (pA k) 3 λF=>lL 27 h F λx y z=>iP 27 (.slice x y z) (iA q) λw=>fP 73 (.pointer (some w)) 0 λv=>lS h v λu=>au (!((u:LB)==[])) (fP 29 (pA k) 0 λt=>lI (room h 15) t λs=>iP 107 (.slice a n c) (iA q) λr=>lS (room h 15) r λp=>fP 29 (pA k) 3 λo=>lL 27 (room h 15) o λj l m=>iP 27 (.slice j l m) (iA q) λi=>fP 73 (.pointer (some i)) 0 λg=>lS (room h 15) g λf=>FW SS 98 [(.int .i64 s),(sA C 1 1),(.int .i64 0),(strOf p),(strOf f)] (room h 15) λd e=>yI .i64 d λb=>au (((b:Int) !=0)) (Q (.tuple ⟨[(strOf []),(.int .i64 b)]⟩) e) (aI (fj (ou a n c k C) A) B [(.slice a n c),(pA k),(sA C 1 1),(.int .i64 (wrap .i64 ((q:Int)+1)))] e)) (aI (fj (ou a n c k C) A) B [(.slice a n c),(pA k),(sA C 1 1),(.int .i64 (wrap .i64 ((q:Int)+1)))] h)) (iP 107 (sA C 1 1) (.int .i64 0) λb=>lS h b λa=>Q (.tuple ⟨[(strOf a),(.int .i64 0)]⟩) h))(B:Nat){q:Nat}{h:ae}(D:A B q h):LL SS wI [1,1,0,1,0,0] (ou a n c k C q) h (KK SS wI [1,1,0,1,0] [] (EE SS wI Q)):=
 dg (ou a n c k C) A (λB q E h D=>ai (step B q E h D)) B D
noncomputable def jG:FD:=cG Tryz.f73 [([1,1,1,0,1,0,0],[1,2,6,7,8]),([1,1,1,0,1,0,0,1,0,0,1,1,0,0],[1,2,6,7,8,9])]
abbrev mf(k a N:Nat)(q:Nat)(an:Bool):LV:=[(.bool false),(pA k),(sA a N N),(.bool an),(iA q)]
abbrev jW(k a N q:Nat)(j:Nat)(an:Bool):LV:=[(.bool false),(pA k),(sA a N N),(.bool an),(iA q),(iA j)]
theorem Y2(g:LV)(h:ae)(Q:VH)(i:xN (eK SS.P 29 (.agg ⟨g⟩)) h λ_ f=>fP 29 (pA (h.next)) 3 λe=>lL 27 f e λ_ d _=>xR (ch SS.P 103 (iA d) (iA d)) f λ_ a b c=>LL SS jG [1,1,1,0,1,0,0] [(.bool false),(pA (h.next)),(sA (f.next) a b),(.bool false),(.int .i64 0)] c (KK SS jG [1,1,1,0,1,0] [] (EE SS jG Q))):FW SS 73 [(.agg ⟨g⟩),(.bool false)] h Q:=cQ jG Tryz.func73 (ai i)
theorem Bs(t:LV)(k m N:Nat)(l:Nat->Nat->Bool->ae->Prop)(Q:VH)(step:∀(j:Nat) (q:Nat) (an:Bool) (s:Nat->Value) (h:ae),l j q an h->au (decide (((q:Int):Int)<(N:Int))) (lA 29 h (pA k) λi=>FW SS 74 [(.agg ⟨i⟩)] h λf g=>yL f λc d e=>iP 103 (sA m N N) (iA q) λb=>xU (ah SS.P 107 (.pointer (some b)) (.slice c d e) g) g λ_ a=>LL SS jG [1,1,1,0,1,0,0,1,0,0,1,1,0,0] (jW k m N q 0 an) a (KK SS jG [1,0,0,1,1,0] [1,1,1,0,1,0,0] (RR jG [1,1,1,0,1,0,0] (qP (mf k m N) l) j (KK SS jG [1,1,1,0,1,0] [] (EE SS jG Q))))) (au (!an) (Q (.tuple ⟨[nA,(.int .i64 0)]⟩) h) (au (decide (((N:Int):Int)>60)) (Q (.tuple ⟨[nA,(.int .i64 2)]⟩) h) (fP 29 (pA k) 0 λe=>lI h e λd=>FW SS 97 [(.int .i64 d),(sA m N N)] h λb c=>∃(o:OA) (n p:Nat),∃a:Int,b=(.tuple ⟨[(.slice o n p),(.int .i64 a)]⟩)/\Q (.tuple ⟨[(.slice o n p),(.int .i64 a)]⟩) c))))(j:Nat){q:Nat}{an:Bool}{h:ae}(r:l j q an h):LL SS jG [1,1,1,0,1,0,0] (mf k m N q an) h (KK SS jG [1,1,1,0,1,0] [] (EE SS jG Q)):=
 nu (mf k m N) l (λj q an s h r=>ai (step j q an s h r)) j r
theorem Bt(mv:LV)(k B N:Nat)(E:Nat->Nat->Bool->ae->Prop)(G q:Nat)(C:Nat->Nat->Bool->ae->Prop)(Q:VH)(step:∀(A:Nat) (j:Nat) (an:Bool) (H:Nat->Value) (h:ae),C A j an h->fP 29 (pA k) 3 λc5=>lL 27 h c5 λc2 c3 R=>iP 27 (.slice c2 c3 R) (iA q) λY=>fP 73 (.pointer (some Y)) 1 λc0=>lL 71 h c0 λ_ V _=>au (decide (((j:Int):Int)<(V:Int))) (fP 29 (pA k) 3 λS=>lL 27 h S λZ L b7=>iP 27 (.slice Z L b7) (iA q) λT=>fP 73 (.pointer (some T)) 1 λK=>lL 71 h K λU b1 b2=>iP 71 (.slice U b1 b2) (iA j) λJ=>lA 70 h (.pointer (some J)) λM=>xN (br SS.P 70) h λ_ I=>xU (ah SS.P 70 (pA (h.next)) (.agg ⟨M⟩) I) I λ_ D=>fP 70 (pA (h.next)) 0 λa5=>lI D a5 λX=>au (((X:Int) !=0)) (aI (qP (jW k B N q) C) A [(.bool false),(pA k),(sA B N N),(.bool an),(iA q),(.int .i64 (wrap .i64 ((j:Int)+1)))] D) (fP 70 (pA (h.next)) 1 λW=>lI D W λO=>au (((O:Int) !=0)) (aI (qP (jW k B N q) C) A [(.bool false),(pA k),(sA B N N),(.bool an),(iA q),(.int .i64 (wrap .i64 ((j:Int)+1)))] D) (fP 29 (pA k) 0 λa1=>lI (room D 18) a1 λP=>iP 103 (sA B N N) (iA q) λz=>lL 107 (room D 18) z λw x y=>fP 70 (pA (h.next)) 3 λv=>lI (room D 18) v λu=>iP 107 (.slice w x y) (.int .i64 u) λt=>lS (room D 18) t λs=>fP 70 (pA (h.next)) 2 λr=>lS (room D 18) r λp=>FW SS 62 [(.int .i64 P),(strOf s),(strOf p)] (room D 18) λn o=>∃m:LB,∃l:Int,n=(.tuple ⟨[(strOf m),(.int .i64 l)]⟩)/\au (((l:Int) !=0)) (Q (.tuple ⟨[nA,(.int .i64 l)]⟩) o) (iP 103 (sA B N N) (iA q) λi=>lL 107 (room o 9) i λe f g=>fP 70 (pA (h.next)) 3 λd=>lI (room o 9) d λc=>iP 107 (.slice e f g) (.int .i64 c) λb=>xU (ah SS.P 9 (.pointer (some b)) (strOf m) (room o 9)) (room o 9) λ_ a=>aI (qP (jW k B N q) C) A [(.bool false),(pA k),(sA B N N),(.bool true),(iA q),(.int .i64 (wrap .i64 ((j:Int)+1)))] a)))) (aI (qP (mf k B N) E) G [(.bool false),(pA k),(sA B N N),(.bool an),(.int .i64 (wrap .i64 ((q:Int)+1)))] h))(A:Nat){j:Nat}{an:Bool}{h:ae}(F:C A j an h):LL SS jG [1,1,1,0,1,0,0,1,0,0,1,1,0,0] (jW k B N q j an) h (KK SS jG [1,0,0,1,1,0] [1,1,1,0,1,0,0] (RR jG [1,1,1,0,1,0,0] (qP (mf k B N) E) G (KK SS jG [1,1,1,0,1,0] [] (EE SS jG Q)))):=
 nu (jW k B N q) C (λA j an H h F=>ai (step A j an H h F)) A F
section
theorem lg{kind:Int}{a:List UInt8}(h:ba kind a=true):aM kind a=true:=by
 unfold ba at h;rw[and_eq_true,and_eq_true]at h;obtain⟨⟨c,d⟩,b⟩:=h;unfold aM;rw[c,d,Bool.true_and,Bool.true_and];rw[or_eq_true]at b;rcases b with h|h
 ·rw[h];simp
 ·have:=dT h;rw[decide_eq_true (show 0<=cz a [48] by omega)];simp
structure On(M:bw):Prop where
 kind:1<=M.kind/\M.kind<=3
 fin:∀s∈M.af,s.f≠[]->aM M.kind s.f=true
 arc:∀s∈M.af,∀a∈s.arcs,aM M.kind a.w=true/\0<=a.t/\a.t<M.af.length
 lead:aM M.kind M.lead=true
 start:0<=M.start/\M.start<M.af.length
 n:M.af.length<=3000
 m:∀s∈M.af,s.arcs.length<=30000
theorem Gf{kind:Int}{N:Nat}:∀{l:List dP}{a:Int},0<=a->nQ kind N a l=true->∀s∈l,s.arcs.length<=30000
 |s::r,a,c,h,x,b=>by
  unfold nQ at h;rw[and_eq_true,and_eq_true,and_eq_true,decide_eq_true_eq]at h;rcases mem_cons.1 b with rfl|b
  ·omega
  ·exact Gf (by omega) h.2 x b
theorem tz{M:bw}(h:ca M=true):On M:=by
 unfold ca at h;simp only[and_eq_true,decide_eq_true_eq]at h;obtain⟨⟨⟨⟨⟨⟨⟨j,k⟩,f⟩,d⟩,e⟩,n⟩,l⟩,g⟩:=h;have b:=Af g;refine⟨⟨j,k⟩,λs c i=>?_,λs c a m=>?_,lg l,⟨e,n⟩,d,Gf (by omega) g⟩
 ·have:=(b s c).1;rw[or_eq_true]at this;rcases this with h|h
  ·exact absurd (cn h) i
  ·exact lg h
 ·have:=(b s c).2 a m;unfold hI at this;simp only[and_eq_true,decide_eq_true_eq]at this;obtain⟨⟨⟨⟨_,_⟩,f⟩,d⟩,e⟩:=this;exact⟨lg e,f,d⟩
def Ey(a:gZ):jk (List UInt8):=⟨a.i,a.o,a.w,a.t.toNat⟩
def Ez(s:dP):Ib (List UInt8):=⟨if s.f=[]then none else some s.f,s.arcs.map Ey⟩
def gm(M:bw):gb (List UInt8):=⟨M.lead,M.start.toNat,M.af.map Ez⟩
theorem Ta{M:bw}{q:Nat}{s:dP}(h:M.af[q]?=some s):(gm M).bL.getD q eh=Ez s:=by
 show(M.af.map Ez).getD q _=_;rw[gD,getElem?_map,h];rfl
theorem ZA{s:dP}{a:gZ}(h:s.arcs[j]?=some a)(O:qb (List UInt8)):(Ez s).arcs.getD j (ck O)=Ey a:=by
 show(s.arcs.map Ey).getD j _=_;rw[gD,getElem?_map,h];rfl
theorem CN(M:bw):(gm M).bL.length=M.af.length:=lM _
theorem Te(s:dP):(Ez s).arcs.length=s.arcs.length:=lM _
structure VV(kind:Int)(n:Nat)(l:List (List UInt8)):Prop where
 len:l.length=n
 val:∀i,i<n->aM kind (l.getD i [])=true
theorem VV.at_{kind:Int}{n:Nat}{l:List (List UInt8)}(v:VV kind n l){i:Nat}(a:i<n)(d:List UInt8):l.getD i d=l.getD i []:=Fw (by rw[v.len];exact a) _ _
theorem VV.set{kind:Int}{n:Nat}{l:List (List UInt8)}(v:VV kind n l){t:Nat}{x:List UInt8}(b:aM kind x=true):VV kind n (l.set t x):=by
 refine⟨by rw[length_set];exact v.len,λi a=>?_⟩;by_cases c:t<l.length
 ·rw[dv c];split
  ·exact b
  ·exact v.val i a
 ·rw[List.set_eq_of_length_le (by omega)];exact v.val i a
theorem VV.Ol{kind:Int}(b:1<=kind/\kind<=3)(n:Nat):VV kind n (bB (aY kind) n):=by
 refine⟨length_replicate,λi a=>?_⟩;show aM kind ((List.replicate n (bF kind)).getD i [])=true;rw[gD,getElem?_replicate,if_pos a];exact sC b
section
variable {kind:Int} {kl n cl t:Nat} {l:List (List UInt8)} {a b:List UInt8} {g g' h:ae}
theorem GN(d:VV kind n l)(i:aM kind a=true)(h:aM kind b=true)(g:t<n){l':List (List UInt8)}(e:gz (aY kind) l t a b=some l'):VV kind n l':=by
 unfold gz at e
 cases c:(aY kind).times a b with
 |none=>rw[c]at e;cases e
 | some p=>
  rw[c]at e;dsimp only at e;have j:=Ah i h c
  cases f:(aY kind).plus (l.getD t (aY kind).zero) p with
  |none=>rw[f]at e;cases e
  |some s=>
   rw[f]at e;obtain rfl:=oI e;refine d.set (xQ (a:=l.getD t (aY kind).zero) (b:=p) ?_ j f);rw[d.at_ g];exact d.val t g
def adD(g:ae)(kl:Nat)(r:Option (List (List UInt8))):VH:=λv g'=>zd (λk=>k=kl) g g'/\match r with
 |none=>v = .int .i64 2
 |some l'=>v = .int .i64 0/\VB g' kl l'
theorem HY(w:Wf g)(z:VB g kl l)(h:VV kind n l)(c:t<n)(q:aM kind a=true)(m:aM kind b=true):FW SS 98 [.int .i64 kind,sA kl n cl,iA t,strOf a,strOf b] g (adD g kl (gz (aY kind) l t a b)):=by
 refine YZ kind kl n cl t a b g _ ((wA q m w).mono ?_);rintro _ x ⟨rfl,d⟩;unfold gz;have y:(aY kind).times a b=cD kind a b:=rfl;rw[y]
 cases r:cD kind a b with
 |none=>exact⟨_,_,rfl,aa (λ_=>⟨d.okS,rfl⟩) (λe=>by cases e)⟩
 | some p=>
  have i:VB x kl l:=d.ext _ _ z;have A:=Ah q m r;have u:=h.val t c;refine⟨_,_,rfl,aa (λe=>by cases e) (λ_=>⟨_,VB.ix ty c,_,i.ld ty (by rw[h.len];exact c),(uE u A d.wf).mono ?_⟩)⟩;rintro _ o ⟨rfl,f⟩;have j:VB o kl l:=f.ext _ _ i;dsimp only;rw[h.at_ c (aY kind).zero];have v:(aY kind).plus (l.getD t []) p=eR kind (l.getD t []) p:=rfl;rw[v]
  cases B:eR kind (l.getD t []) p with
  |none=>exact⟨_,_,rfl,aa (λe=>by cases e) (λ_=>⟨(d.trans f).okS,rfl⟩)⟩
  |some s=>
   refine⟨_,_,rfl,aa (λ_=>⟨_,VB.ix ty c,_,j.st ty (by rw[h.len];exact c) _,?_⟩) (λe=>by cases e)⟩;refine⟨(d.trans f).okS.trans (zd.set (X:=λk=>k=kl) f.wf rfl (f.wf _ _ j) _),rfl,?_⟩;show(o.set kl _).get kl=_;rw[ae.aw,if_pos rfl]
noncomputable def ti9:TypeInfo:=(SS.P.info? 9).getD default
theorem aa9:SS.P.info? 9=some ti9:=by kernel_rfl
theorem VG:ti9.size=1:=by kernel_rfl
theorem Ri:ti9.bytes=16:=by kernel_rfl
theorem adu:zeroOf SS.P 9=some (strOf []):=by kernel_rfl
theorem ZE(n:Nat)(a:n<=100000):ch SS.P 107 (.int .i64 (n:Int)) (.int .i64 (n:Int))=some (.cells (eF (List.replicate n [])) 9 1 true,mL n n):=by
 unfold ch bV;dsimp only;rw[Dy]
 try dsimp only
 change (match SS.P.info? 9,zeroOf SS.P 9 with
  |some i,some z=>(if z.cells.size=i.size/\0<i.size/\(0:Int)<=(n:Int)/\(n:Int)<=(n:Int)/\(n:Int)*i.bytes<=140737488355328/\(n:Int)<=1099511627776 then some (dS.cells (df z.cells.toList (n:Int).toNat) 9 i.size true,λk=>Value.slice (some ⟨k,0,none⟩) (n:Int).toNat (n:Int).toNat)else none)
  |_,_=>none)=_
 rw[aa9,adu];dsimp only;rw[VG,Ri,if_pos ⟨rfl,by omega,by omega,Int.le_refl _,by omega,by omega⟩];have e:((n:Int)).toNat=n:=by omega
 rw[e,show(strOf []).cells.toList=[strOf []]from rfl,ny];unfold eF;rw[List.map_replicate];rfl
end
structure WI(h:ae)(M:bw)(x:Option Addr)(y z k kl:Nat)(l:List (List UInt8))(g:ae):Prop where
 box:g.get k=some (.cells (bK M x y z) 29 0 true)
 vb:VB g kl l
 ok:Ok h g
 nk:h.next<=k
 nl:h.next<=kl
 ne:k≠kl
section
variable {h g g':ae} {M:bw} {x:Option Addr} {y z k kl:Nat} {l l':List (List UInt8)}
theorem WI.mb(i:WI h M x y z k kl l g)(r:dx h (.slice x y z) M.af):MB g k M x y z:=⟨i.box,r.ok i.ok⟩
theorem WI.step(i:WI h M x y z k kl l g)(w:Wf h)(o:zd (λj=>j=kl) g g')(v:VB g' kl l'):WI h M x y z k kl l' g':=⟨o.ext _ _ i.ne i.box,v,o.ok i.ok w (λj e=>by rw[e];exact i.nl),i.nk,i.nl,i.ne⟩
theorem WI.qQ(i:WI h M x y z k kl l g)(o:Ok g g'):WI h M x y z k kl l g':=⟨o.ext _ _ i.box,o.ext _ _ i.vb,i.ok.trans o,i.nk,i.nl,i.ne⟩
theorem WI.room(i:WI h M x y z k kl l g)(n:Nat):WI h M x y z k kl l (Go.Ab.room g n):=⟨i.box,i.vb,i.ok.room n,i.nk,i.nl,i.ne⟩
theorem WI.set(i:WI h M x y z k kl l g)(w:Wf h)(l':List (List UInt8)):WI h M x y z k kl l' ((dM.set kl (.cells (eF l') 9 1 true)).app g):=
 i.step w (zd.set (X:=λj=>j=kl) i.ok.wf rfl (i.ok.wf _ _ i.vb) _) (by show(g.set kl _).get kl=_;rw[ae.aw,if_pos rfl])
theorem uS(w:Wf h)(n:On M)(r:dx h (.slice x y z) M.af):FW SS 74 [.agg ⟨bK M x y z⟩] h (λv g=>∃kl,v=sA kl M.af.length M.af.length/\VB g kl (bB (aY M.kind) M.af.length)/\h.next<=kl/\Ok h g):=by
 obtain⟨c,b⟩:=fo w r;obtain rfl:y=M.af.length:=c.len;have D:=n.n;refine Rn (bK M x M.af.length z) h _ ⟨_,iH M x _ z,_,da _,_,_,_,c.l3,_,_,_,ZE _ (by omega),?_⟩;generalize h.push (Bm M x M.af.length z)=f at*;have A:=aJ f (.cells (eF (List.replicate M.af.length [])) 9 1 true);have k:=(Ok.refl b.wf).push (.cells (eF (List.replicate M.af.length [])) 9 1 true);have t:WI h M x M.af.length z h.next f.next (List.replicate M.af.length []) (f.push (.cells (eF (List.replicate M.af.length [])) 9 1 true)):=⟨k.ext _ _ c.box,A,b.trans k,Nat.le_refl _,b.nx,by have:=b.wf _ _ c.box;omega⟩
 refine yD (bK M x M.af.length z) h.next f.next M.af.length (λm i g=>i<=M.af.length/\m=M.af.length-i/\∃l,WI h M x M.af.length z h.next f.next l g/\l.length=M.af.length/\∀a,a<i->l.getD a []=bF M.kind) _ (λm i=>?_) M.af.length (i:=0) ⟨by omega,rfl,_,t,length_replicate,λa B=>by omega⟩;intros;rename_i g j;obtain⟨G,F,l,d,o,s⟩:=j;refine aa (λq=>?_) (λq=>?_)
 ·have p:i<M.af.length:=by have:=dT q;omega
  refine⟨_,dD _,_,(d.mb r).l0,(gT n.kind g).mono ?_⟩;rintro _ g' ⟨rfl,C⟩;obtain rfl:g=g':=C.symm;refine⟨_,rfl,_,VB.ix ty p,_,d.vb.st ty (by omega) _,?_⟩;rw[aN p (by omega)];refine bZ (M.af.length-(i+1)) (by omega) ⟨by omega,rfl,l.set i (bF M.kind),d.set w _,by rw[length_set];exact o,λa B=>?_⟩;rw[dv (by omega)];split
  ·rfl
  ·exact s a (by omega)
 ·obtain rfl:i=M.af.length:=by have:=dF q;omega
  refine⟨_,rfl,?_,b.nx,d.ok⟩;have:l=bB (aY M.kind) M.af.length:=by
   refine ext_getElem (by rw[o];exact length_replicate.symm) λa u E=>?_;have:=s a (by omega);rw[gD,gE u]at this;have e:(bB (aY M.kind) M.af.length)[a]=bF M.kind:=List.getElem_replicate ..;rw[e];exact this
  rw[<-this];exact d.vb
end
def VR(h:ae)(kind:Int)(n:Nat)(o:Option (List (List UInt8))):VH:=λv g=>Ok h g/\match o with
 |none=>v = .tuple ⟨[nA,.int .i64 2]⟩
 |some l=>∃(a:Option Addr)(c:Nat),v = .tuple ⟨[.slice a n c,.int .i64 0]⟩/\Rd g 9 (.slice a n c) (eF l)/\VV kind n l
section
variable {h:ae} {kind:Int} {a b:Option Addr} {n c d:Nat} {A B:List (List UInt8)}
theorem Rg{a:Type}{l:List a}{n:Nat}(b:l.length=n)(c:i<n)(x:a):(l.set i x).take (i+1)=l.take i++[x]:=by
 rw[jV (d:=x) (by rw[length_set];omega),lr (Nat.le_refl _),dv (by omega),if_pos rfl]
theorem Y5(w:Wf h)(S:n<=3000)(L:Rd h 9 (.slice a n c) (eF A))(o:VV kind n A)(K:Rd h 9 (.slice b n d) (eF B))(t:VV kind n B):FW SS 77 [.int .i64 kind,.slice a n c,.slice b n d] h (VR h kind n (nB (aY kind) A B)):=by
 refine Y4 kind a n c b n d h _ ⟨_,_,_,ZE n (by omega),?_⟩;have M:=aJ h (.cells (eF (List.replicate n [])) 9 1 true);have I:=(Ok.refl w).push (.cells (eF (List.replicate n [])) 9 1 true);obtain⟨G,D⟩:∃G,G=nB (aY kind) A B:=⟨_,rfl⟩
 rw[<-D];refine Bu kind a n c b n d h.next (λy i g=>i<=n/\y=n-i/\Ok h g/\∃l,VB g h.next l/\l.length=n/\(∀j,j<i->aM kind (l.getD j [])=true)/\bd (wT (aY kind) A B) (n-i) i (l.take i)=G) _ (λy i=>?_) n (i:=0) ⟨by omega,rfl,I,_,M,length_replicate,λj Q=>by omega,by rw[take_zero,D];unfold nB;rw[o.len,sub_zero]⟩;intros;rename_i g x;obtain⟨W,U,H,l,F,r,z,k⟩:=x;refine aa (λq=>?_) (λq=>?_)
 ·have f:i<n:=by have:=dT q;omega
  have m:=H.room 15;obtain⟨V,J,P⟩:=Rd.cell ty (L.ok m) (j:=i) (by rw[o.len];exact f);obtain⟨T,N,O⟩:=Rd.cell ty (K.ok m) (j:=i) (by rw[t.len];exact f);refine⟨_,J,_,P,_,N,_,O,(uE (o.val i f) (t.val i f) m.wf).mono ?_⟩;rintro _ C ⟨rfl,E⟩;have p:=m.trans E;rw[fg _ f]at k;unfold wT at k;rw[o.at_ f (aY kind).zero,t.at_ f (aY kind).zero]at k;have R:(aY kind).plus (A.getD i []) (B.getD i [])=eR kind (A.getD i []) (B.getD i []):=rfl;rw[R]at k
  cases v:eR kind (A.getD i []) (B.getD i [])with
  |none=>
   rw[v]at k;exact⟨_,_,rfl,aa (λ_=>⟨p,by rw[<-k]⟩) (λe=>by cases e)⟩
  | some s=>
   rw[v]at k;have u:VB C h.next l:=E.ext _ _ F;refine⟨_,_,rfl,aa (λe=>by cases e) (λ_=>⟨_,VB.ix ty f,_,u.st ty (by omega) _,?_⟩)⟩;rw[aN f (by omega)];refine bZ (n-(i+1)) (by omega) ⟨by omega,rfl,p.set _ (Nat.le_refl _) (p.wf _ _ u) w,l.set i s,?_,by rw[length_set];exact r,λj Q=>?_,?_⟩
   ·show(C.set h.next _).get h.next=_;rw[ae.aw,if_pos rfl]
   ·rw[dv (by omega)];split
    ·exact xQ (o.val i f) (t.val i f) v
    ·exact z j (by omega)
   ·rw[Rg r f];exact k
 ·obtain rfl:i=n:=by have:=dF q;omega
  rw[iD,take_of_length_le (by omega)]at k;rw[<-k];have:=F.rd i;rw[r]at this;exact⟨H,_,_,rfl,this,⟨r,z⟩⟩
end
section
variable {h:ae} {M:bw} {x a:Option Addr} {y z n c:Nat} {V:List (List UInt8)}
def stR(M:bw)(V:List (List UInt8))(a b:Int)(q:Nat)(l:List (List UInt8)):Option (List (List UInt8)):=bd (qx (aY M.kind) (gm M) V a b) (M.af.length-q) q l
theorem Nh(O:qb (List UInt8))(n:Nat):(bB O n).length=n:=length_replicate
theorem VX(w:Wf h)(H:On M)(r:dx h (.slice x y z) M.af)(rv:Rd h 9 (.slice a M.af.length c) (eF V))(J:VV M.kind M.af.length V)(i k:Int):FW SS 76 [.agg ⟨bK M x y z⟩,.slice a M.af.length c,.int .i64 i,.int .i64 k,.bool false] h (VR h M.kind M.af.length (kN (aY M.kind) (gm M) V i k)):=by
 obtain⟨t,D⟩:=fo w r;obtain rfl:y=M.af.length:=t.len;have hn:=H.n;refine VW (bK M x M.af.length z) a _ c i k h _ ⟨_,iH M x _ z,_,t.all,(uS D.wf H t.row).mono ?_⟩;rintro _ g1 ⟨kl,rfl,x2,nl,o1⟩;refine⟨_,_,_,rfl,?_⟩;have x3:=D.wf _ _ t.box;have i1:WI h M x M.af.length z h.next kl (bB (aY M.kind) M.af.length) g1:=⟨o1.ext _ _ t.box,x2,D.trans o1,Nat.le_refl _,Nat.le_trans D.nx nl,by omega⟩
 obtain⟨G,hG⟩:∃G,G=kN (aY M.kind) (gm M) V i k:=⟨_,rfl⟩
 rw[<-hG];have x0:stR M V i k 0 (bB (aY M.kind) M.af.length)=G:=by rw[hG];unfold stR kN;rw[CN,sub_zero]
 refine Ao (bK M x M.af.length z) a M.af.length c i k h.next kl M.af.length (λU q g=>q<=M.af.length/\U=M.af.length-q/\∃l,WI h M x M.af.length z h.next kl l g/\VV M.kind M.af.length l/\stR M V i k q l=G) _ (λU q=>?_) M.af.length (q:=0) ⟨by omega,rfl,_,i1,VV.Ol H.kind _,x0⟩;intros;rename_i g x1;obtain⟨f1,f2,l,A,N,m⟩:=x1;have mb:=A.mb r;refine⟨_,da _,_,_,_,mb.l3,aa (λZ=>?_) (λZ=>?_)⟩
 ·have p:q<M.af.length:=by have:=dT Z;omega
  obtain⟨s,W⟩:∃s,M.af[q]?=some s:=⟨_,gE p⟩
  have P:=List.mem_of_getElem? W;obtain⟨p1,e1,e2⟩:=Rd.cell ty (rv.ok (A.room 8).ok) (j:=q) (by rw[J.len];exact p);refine⟨_,e1,_,e2,_,dD _,_,((A.room 8).mb r).l0,(gT H.kind _).mono ?_⟩;rintro _ g0 ⟨rfl,e0⟩;obtain rfl:Go.Ab.room g 8=g0:=e0.symm;unfold stR at m;rw[fg _ p]at m;unfold qx at m;rw[J.at_ p (aY M.kind).zero,Ta W,Te]at m;have ez:(aY M.kind).xq (V.getD q [])=(V.getD q []==bF M.kind):=rfl;rw[ez]at m;refine⟨_,rfl,⟨e2,me _⟩,aa (λX=>?_) (λX=>?_)⟩
  ·rw[if_pos X]at m;rw[aN p (by omega)];exact bZ (M.af.length-(q+1)) (by omega) ⟨by omega,rfl,l,A.room 8,N,m⟩
  ·rw[if_neg (by rw[X];simp)]at m;refine Ap (bK M x M.af.length z) a M.af.length c i k h.next kl M.af.length _ U q (λQ j g=>j<=s.arcs.length/\Q=s.arcs.length-j/\∃l,WI h M x M.af.length z h.next kl l g/\VV M.kind M.af.length l/\(match bd (jM (aY M.kind) i k (V.getD q []) (Ez s).arcs) (s.arcs.length-j) j l with|none=>none|some l'=>stR M V i k (q+1) l')=G) _ (λQ j=>?_) s.arcs.length (j:=0) ⟨by omega,rfl,l,A.room 8,N,?_⟩
   ·intros;rename_i g2 Y;obtain⟨d1,d2,I,F,v,d⟩:=Y;have K:=F.mb r;obtain⟨b,o,xa,ya,za,u1,u2,u3,u4,ar⟩:=K.row.at_ W;have hm:=ar.len;subst hm;refine⟨_,da _,_,_,_,K.l3,_,u1,_,iu _ _,_,_,_,u4,aa (λT=>?_) (λT=>?_)⟩
    ·have hj:j<s.arcs.length:=by have:=dT T;omega
     obtain⟨f,L⟩:∃f,s.arcs[j]?=some f:=⟨_,gE hj⟩
     obtain⟨b2,o2,v1,v2,v3,v4,v5,v6⟩:=ar.at_ L;obtain⟨u,p1,p2,p3⟩:=JT F.ok.wf f;have E:=F.qQ p2;have hw:=H.arc s P f (List.mem_of_getElem? L);rw[fg _ hj]at d;unfold jM at d;rw[ZA L]at d;rw[aN hj (by have:=H.m s P;omega)];refine⟨_,da _,_,_,_,K.l3,_,u1,_,iu _ _,_,_,_,u4,_,v1,_,v2,_,RY,u,p1,?_⟩;generalize u.app (g2.push Om)=g3 at*;refine⟨_,zA _ _,_,p3.l0,aa (λB=>?_) (λB=>⟨_,zB _ _,_,p3.l1,aa (λC=>?_) (λC=>?_)⟩)⟩
     ·have B:f.i≠i:=by simpa using B
      rw[if_pos (.inl B)]at d;exact bZ (s.arcs.length-(j+1)) (by omega) ⟨by omega,rfl,I,E,v,d⟩
     ·have C:f.o≠k:=by simpa using C
      rw[if_pos (.inr C)]at d;exact bZ (s.arcs.length-(j+1)) (by omega) ⟨by omega,rfl,I,E,v,d⟩
     ·have B:f.i=i:=by simpa using B
      have C:f.o=k:=by simpa using C
      rw[if_neg (by rintro(h|h)<;>exact h (by first|exact B|exact C))]at d;have n:=E.room 13;obtain⟨p6,e6,e7⟩:=Rd.cell ty (rv.ok n.ok) (j:=q) (by rw[J.len];exact p);have ht:f.t.toNat<M.af.length:=by omega
      have et:f.t=((f.t.toNat:Nat):Int):=by omega
      have R:=p3.ok ((Ok.refl E.ok.wf).room 13);have S:=R.l3;rw[et]at S;refine⟨_,dD _,_,(n.mb r).l0,_,rG _ _,_,S,_,e6,_,e7,_,CD _ _,_,R.l2,(HY n.ok.wf n.vb v ht (J.val q p) hw.1).mono ?_⟩;rintro _ g5 ⟨o5,O⟩;have ea:gz (aY M.kind) I (Ey f).t (V.getD q []) (Ey f).w=gz (aY M.kind) I f.t.toNat (V.getD q []) f.w:=rfl;rw[ea]at d
      cases e8:gz (aY M.kind) I f.t.toNat (V.getD q []) f.w with
      |none=>
       rw[e8]at O d;subst O;exact⟨_,rfl,aa (λ_=>⟨o5.ok n.ok w (λj e=>by rw[e];exact n.nl),by rw[<-d]⟩) (λe=>by cases e)⟩
      |some l5=>
       rw[e8]at O d;obtain⟨rfl,v5⟩:=O;exact⟨_,rfl,aa (λe=>by cases e) (λ_=>bZ (s.arcs.length-(j+1)) (by omega) ⟨by omega,rfl,l5,n.step w o5 v5,GN v (J.val q p) hw.1 ht e8,d⟩)⟩
    ·obtain rfl:j=s.arcs.length:=by have:=dF T;omega
     rw[iD]at d;rw[aN p (by omega)];exact bZ (M.af.length-(q+1)) (by omega) ⟨by omega,rfl,I,F,v,d⟩
   ·rw[sub_zero];rw[<-m]
    cases bd (jM (aY M.kind) i k (V.getD q []) (Ez s).arcs) s.arcs.length 0 l<;>rfl
 ·obtain rfl:q=M.af.length:=by have:=dF Z;omega
  unfold stR at m;rw[iD]at m;rw[<-m];have:=A.vb.rd M.af.length;rw[N.len]at this;exact⟨A.ok,_,_,rfl,this,N⟩
end
end
section
section
variable {h:ae} {M:bw} {x a:Option Addr} {y z n c:Nat} {V:List (List UInt8)}
theorem Rm(w:Wf h)(r:dx h (.slice x y z) M.af)(e:Rd h 9 (.slice a n c) (eF V))(d:VV M.kind n V):FW SS 75 [.agg ⟨bK M x y z⟩,.slice a n c,nA] h (VR h M.kind n (fS (aY M.kind) V none)):=by
 obtain⟨f,b⟩:=fo w r;exact Rl (bK M x y z) a n c h _ ⟨_,iH M x y z,b,_,_,rfl,e.ok b,d⟩
def reR(M:bw)(V:List (List UInt8))(B:LM)(q:Nat)(l:List (List UInt8)):Option (List (List UInt8)):=bd (λl q=>bd (fJ (aY M.kind) V B q) V.length 0 l) (M.af.length-q) q l
theorem VU(w:Wf h)(E:On M)(r:dx h (.slice x y z) M.af)(rv:Rd h 9 (.slice a M.af.length c) (eF V))(t:VV M.kind M.af.length V){F:Addr}{d:Nat}{B:LM}(rb:Li 107 h (.slice (some F) M.af.length d) B)(A:Sq M.kind M.af.length B):
  FW SS 75 [.agg ⟨bK M x y z⟩,.slice a M.af.length c,.slice (some F) M.af.length d] h (VR h M.kind M.af.length (fS (aY M.kind) V (some B))):=by
 obtain⟨n,v⟩:=fo w r;obtain rfl:y=M.af.length:=n.len;have hn:=E.n;refine VT (bK M x M.af.length z) a _ c F _ d h _ ⟨_,iH M x _ z,_,n.all,(uS v.wf E n.row).mono ?_⟩;rintro _ g1 ⟨D,rfl,x0,nl,o1⟩;refine⟨_,_,_,rfl,?_⟩;have x7:=v.wf _ _ n.box;have i1:WI h M x M.af.length z h.next D (bB (aY M.kind) M.af.length) g1:=⟨o1.ext _ _ n.box,x0,v.trans o1,Nat.le_refl _,Nat.le_trans v.nx nl,by omega⟩
 obtain⟨G,hG⟩:∃G,G=fS (aY M.kind) V (some B):=⟨_,rfl⟩
 rw[<-hG];have Y:reR M V B 0 (bB (aY M.kind) M.af.length)=G:=by rw[hG];unfold reR fS;rw[t.len,sub_zero]
 refine Am (bK M x M.af.length z) a M.af.length c F M.af.length d h.next D (λN q g=>q<=M.af.length/\N=M.af.length-q/\∃l,WI h M x M.af.length z h.next D l g/\VV M.kind M.af.length l/\reR M V B q l=G) _ (λN q=>?_) M.af.length (q:=0) ⟨by omega,rfl,_,i1,VV.Ol E.kind _,Y⟩;intros;rename_i g Z;obtain⟨f1,f2,l,K,U,C⟩:=Z;refine aa (λR=>?_) (λR=>?_)
 ·have k:q<M.af.length:=by have:=dT R;omega
  unfold reR at C;rw[fg _ k]at C;refine An (bK M x M.af.length z) a M.af.length c F M.af.length d h.next D _ N q (λI p g=>p<=M.af.length/\I=M.af.length-p/\∃l,WI h M x M.af.length z h.next D l g/\VV M.kind M.af.length l/\(match bd (fJ (aY M.kind) V B q) (M.af.length-p) p l with|none=>none|some l'=>reR M V B (q+1) l')=G) _ (λI p=>?_) M.af.length (p:=0) ⟨by omega,rfl,l,K,U,?_⟩
  ·intros;rename_i g2 P;obtain⟨d1,d2,u,J,o,b⟩:=P;refine aa (λO=>?_) (λO=>?_)
   ·have s:p<M.af.length:=by have:=dT O;omega
    have m:=J.room 21;obtain⟨p1,e1,S⟩:=Rd.cell ty (rv.ok m.ok) (j:=q) (by rw[t.len];exact k);rw[fg _ s]at b;have hc:fJ (aY M.kind) V B q u p=if((V.getD q []==bF M.kind)||((B.getD q []).getD p []==bF M.kind))=true then some u else gz (aY M.kind) u p (V.getD q []) ((B.getD q []).getD p []):=by
     unfold fJ;rw[t.at_ k (aY M.kind).zero,A.Lm k s];rfl
    rw[hc]at b;rw[aN s (by omega)];refine⟨_,e1,_,S,_,dD _,_,(m.mb r).l0,(gT E.kind _).mono ?_⟩;rintro _ X ⟨rfl,T⟩;obtain rfl:Go.Ab.room g2 21=X:=T.symm;refine⟨_,rfl,aa (λL=>⟨⟨S,me _⟩,?_⟩) (λL=>?_)⟩
    ·rw[L,Bool.true_or,if_pos rfl]at b;exact bZ (M.af.length-(p+1)) (by omega) ⟨by omega,rfl,u,m,o,b⟩
    ·obtain⟨pb,ab,nb,cb,b1,b2,b3⟩:=(rb.ok m.ok).at_ ty (i:=q) (by rw[A.len];exact k);obtain⟨p2,b4,b5⟩:=Rd.cell ty b3 (j:=p) (by rw[A.row q k];exact s);have hv:dG 4 (.slice ab nb cb) (.slice ab nb cb)=true:=by
      rcases b3 with⟨e,_⟩|⟨k',x3,x5,x4,x6,e,_⟩
      ·injection e with e _ _;rw[e];simp[dG]
      ·injection e with e _ _;rw[e];simp[dG]
     refine⟨_,b1,_,_,_,b2,_,b4,_,b5,_,dD _,_,(m.mb r).l0,(gT E.kind _).mono ?_⟩;rintro _ X ⟨rfl,T⟩;obtain rfl:Go.Ab.room g2 21=X:=T.symm;refine⟨_,rfl,⟨S,me _⟩,⟨b2,hv⟩,⟨b5,me _⟩,aa (λQ=>?_) (λQ=>?_)⟩
     ·rw[Q,Bool.or_true,if_pos rfl]at b;exact bZ (M.af.length-(p+1)) (by omega) ⟨by omega,rfl,u,m,o,b⟩
     ·rw[L,Q,Bool.or_false,if_neg (by simp)]at b;have f:=m.room 17;have x1:=t.val q k;have x2:=A.val q p k s;obtain⟨p6,e6,e7⟩:=Rd.cell ty (rv.ok f.ok) (j:=q) (by rw[t.len];exact k);obtain⟨pc,ac,nc,cc,c1,c2,c3⟩:=(rb.ok f.ok).at_ ty (i:=q) (by rw[A.len];exact k);obtain⟨p7,c4,c5⟩:=Rd.cell ty c3 (j:=p) (by rw[A.row q k];exact s);refine⟨_,dD _,_,(f.mb r).l0,_,e6,_,e7,_,c1,_,_,_,c2,_,c4,_,c5,(HY f.ok.wf f.vb o s x1 x2).mono ?_⟩;rintro _ g5 ⟨o5,H⟩
      cases W:gz (aY M.kind) u p (V.getD q []) ((B.getD q []).getD p [])with
      |none=>
       rw[W]at H b;subst H;exact⟨_,rfl,aa (λ_=>⟨o5.ok f.ok w (λj e=>by rw[e];exact f.nl),by rw[<-b]⟩) (λe=>by cases e)⟩
      |some l5=>
       rw[W]at H b;obtain⟨rfl,v5⟩:=H;exact⟨_,rfl,aa (λe=>by cases e) (λ_=>bZ (M.af.length-(p+1)) (by omega) ⟨by omega,rfl,l5,f.step w o5 v5,GN o x1 x2 s W,b⟩)⟩
   ·obtain rfl:p=M.af.length:=by have:=dF O;omega
    rw[iD]at b;rw[aN k (by omega)];exact bZ (M.af.length-(q+1)) (by omega) ⟨by omega,rfl,u,J,o,b⟩
  ·rw[sub_zero];rw[<-C,t.len]
   cases bd (fJ (aY M.kind) V B q) M.af.length 0 l with
   |none=>rfl
   |some l'=>dsimp only;unfold reR;rw[t.len]
 ·obtain rfl:q=M.af.length:=by have:=dF R;omega
  unfold reR at C;rw[iD]at C;rw[<-C];have:=K.vb.rd M.af.length;rw[U.len]at this;exact⟨K.ok,_,_,rfl,this,U⟩
def fiR(M:bw)(V:List (List UInt8))(q:Nat)(l:List (List UInt8)):Option (List UInt8):=match bd (jJ (aY M.kind) (gm M) V) (M.af.length-q) q l with
 |none=>none
 |some l=>some (l.getD 0 (aY M.kind).zero)
theorem Y1(w:Wf h)(D:On M)(r:dx h (.slice x y z) M.af)(rv:Rd h 9 (.slice a M.af.length c) (eF V))(E:VV M.kind M.af.length V):FW SS 78 [.agg ⟨bK M x y z⟩,.slice a M.af.length c] h (oQ h (oJ (aY M.kind) (gm M) V)):=by
 obtain⟨p,n⟩:=fo w r;obtain rfl:y=M.af.length:=p.len;have hn:=D.n;refine Y0 (bK M x M.af.length z) a _ c h _ ⟨_,iH M x _ z,_,dD _,_,p.l0,(gT D.kind _).mono ?_⟩;rintro _ m ⟨rfl,e0⟩;obtain rfl:h.push (Bm M x M.af.length z)=m:=e0.symm;refine⟨_,rfl,_,_,_,Zo _,?_⟩;generalize h.push (Bm M x M.af.length z)=m at*;have k1:=aJ m (.cells [strOf (bF M.kind)] 9 1 true);have P:=(Ok.refl n.wf).push (.cells [strOf (bF M.kind)] 9 1 true);have i1:WI h M x M.af.length z h.next m.next [bF M.kind] (m.push (.cells [strOf (bF M.kind)] 9 1 true)):=⟨P.ext _ _ p.box,k1,n.trans P,Nat.le_refl _,n.nx,by have:=n.wf _ _ p.box;omega⟩
 obtain⟨G,T⟩:∃G,G=oJ (aY M.kind) (gm M) V:=⟨_,rfl⟩
 rw[<-T];have N:fiR M V 0 [bF M.kind]=G:=by
  rw[T];unfold fiR oJ;rw[E.len,sub_zero];show(match bd (jJ (aY M.kind) (gm M) V) M.af.length 0 [(aY M.kind).zero]with|none=>none|some l=>some (l.getD 0 (aY M.kind).zero))=_
  cases bd (jJ (aY M.kind) (gm M) V) M.af.length 0 [(aY M.kind).zero]<;>rfl
 refine Br (bK M x M.af.length z) a M.af.length c h.next m.next (λQ q g=>q<=M.af.length/\Q=M.af.length-q/\∃l,WI h M x M.af.length z h.next m.next l g/\VV M.kind 1 l/\fiR M V q l=G) _ (λQ q=>?_) M.af.length (q:=0) ⟨by omega,rfl,_,i1,⟨rfl,λi hi=>(by rw[show i=0 by omega];exact sC D.kind)⟩,N⟩;intros;rename_i g O;obtain⟨f1,f2,l,v,A,d⟩:=O;have W:=v.mb r;refine aa (λJ=>?_) (λJ=>?_)
 ·have u:q<M.af.length:=by have:=dT J;omega
  obtain⟨s,F⟩:∃s,M.af[q]?=some s:=⟨_,gE u⟩
  have R:=List.mem_of_getElem? F;obtain⟨b,o,xa,ya,za,u1,u2,u3,u4,ar⟩:=W.row.at_ F;unfold fiR at d;rw[fg _ u]at d;have hc:jJ (aY M.kind) (gm M) V l q=match (Ez s).fin with|none=>some l|some f=>gz (aY M.kind) l 0 (V.getD q []) f:=by
   unfold jJ;rw[Ta F,E.at_ u (aY M.kind).zero]
   cases (Ez s).fin<;>rfl
  rw[hc]at d;rw[aN u (by omega)];refine⟨_,da _,_,_,_,W.l3,_,u1,_,nE _ _,_,u3,aa (λI=>?_) (λI=>?_)⟩
  ·have C:s.f≠[]:=cd (by simpa using I);have K:(Ez s).fin=some s.f:=if_neg C;rw[K]at d;dsimp only at d;have k:=v.room 15;have B:=k.mb r;have Z:=E.val q u;have X:=D.fin s R C;obtain⟨p6,e6,e7⟩:=Rd.cell ty (rv.ok k.ok) (j:=q) (by rw[E.len];exact u);obtain⟨b',o',x6,x7,x5,S,x4,Y,x3,x0⟩:=B.row.at_ F;refine⟨_,dD _,_,B.l0,_,e6,_,e7,_,da _,_,_,_,B.l3,_,S,_,nE _ _,_,Y,(HY (t:=0) k.ok.wf k.vb A (by omega) Z X).mono ?_⟩;rintro _ g5 ⟨U,H⟩
   cases L:gz (aY M.kind) l 0 (V.getD q []) s.f with
   |none=>
    rw[L]at H d;subst H;exact⟨_,rfl,aa (λ_=>⟨by rw[<-d];rfl,U.ok k.ok w (λj e=>by rw[e];exact k.nl)⟩) (λe=>by cases e)⟩
   |some l5=>
    rw[L]at H d;obtain⟨rfl,v5⟩:=H;exact⟨_,rfl,aa (λe=>by cases e) (λ_=>bZ (M.af.length-(q+1)) (by omega) ⟨by omega,rfl,l5,k.step w U v5,GN A Z X (by omega) L,d⟩)⟩
  ·have C:s.f=[]:=cn (by simpa using I);have K:(Ez s).fin=none:=if_pos C;rw[K]at d;exact bZ (M.af.length-(q+1)) (by omega) ⟨by omega,rfl,l,v,A,d⟩
 ·obtain rfl:q=M.af.length:=by have:=dF J;omega
  unfold fiR at d;rw[iD]at d;refine⟨_,VB.ix ty (j:=0) (by omega),_,v.vb.ld ty (j:=0) (by rw[A.len];omega),?_,v.ok⟩;rw[<-d];show _=Mf (some (l.getD 0 (aY M.kind).zero));rw[A.at_ (i:=0) (by omega) (aY M.kind).zero];rfl
end
end
section
theorem kf{g:ae}{k:Nat}{cs:List Value}{z:Nat}{e:Bool}(a:g.get k=some (.cells cs m z b))(f:g.get n=some (.cells d i j e))(h:m≠i):k≠n:=λc=>by
 rw[c,f]at a;injection a with a
 injection a with _ a
 exact h a.symm
def Kq(a:gZ):Bool:=decide (a.i=0)&&decide (a.o=0)
def Q2(s:dP):Bool:=s.arcs.any Kq
theorem OH(M:bw):oG (gm M)=M.af.any Q2:=by
 unfold oG;show(M.af.map Ez).any _=_;rw[List.any_map];congr 1;funext s;show((s.arcs.map Ey).any _)=_;rw[List.any_map];rfl
structure QI(h:ae)(M:bw)(x:Option Addr)(z N k kr q:Nat)(cur:Value)(ks cs:Nat->Nat)(R:LM)(g:ae):Prop where
 box:g.get k=some (.cells (bK M x N z) 29 0 true)
 out:g.get kr=some (.cells (rZ N q ks cs cur) 107 1 true)
 row:∀a,a<q->VB g (ks a) (R.getD a [])
 new:h.next<=k/\h.next<=kr/\∀a,a<q->h.next<=ks a
 inj:∀a b,a<q->b<q->ks a=ks b->a=b
 ok:Ok h g
 len:R.length=q
 sq:∀a,a<q->VV M.kind N (R.getD a [])
section
variable {h:ae} {M:bw} {x:Option Addr} {z N k kr q kl:Nat} {cur:Value} {ks cs:Nat->Nat} {R:LM} {l:List (List UInt8)} {g g':ae}
theorem QI.mb(i:QI h M x z N k kr q cur ks cs R g)(r:dx h (.slice x N z) M.af):MB g k M x N z:=⟨i.box,r.ok i.ok⟩
theorem QI.qQ(i:QI h M x z N k kr q cur ks cs R g)(o:Ok g g'):QI h M x z N k kr q cur ks cs R g':=⟨o.ext _ _ i.box,o.ext _ _ i.out,λa b=>o.ext _ _ (i.row a b),i.new,i.inj,i.ok.trans o,i.len,i.sq⟩
theorem QI.room(i:QI h M x z N k kr q cur ks cs R g)(n:Nat):QI h M x z N k kr q cur ks cs R (Go.Ab.room g n):=⟨i.box,i.out,i.row,i.new,i.inj,i.ok.room n,i.len,i.sq⟩
theorem QI.adX(i:QI h M x z N k kr q cur ks cs R g)(w:Wf h)(y:Value)(l:dO y=true)(j:y.cells = #[y])(d:q<N):∃u:dM,ah SS.P 107 (.pointer (some ⟨kr,q,none⟩)) y g=some (undef,u)/\QI h M x z N k kr q y ks cs R (u.app g)/\∀b B,g.get b=some B->b≠kr->(u.app g).get b=some B:=by
 refine⟨_,iX nz i.out (by rw[tG];exact d) l j,?_,λb B f c=>by show(g.set kr _).get b=_;rw[ae.aw,if_neg c];exact f⟩;rw[JP];refine⟨?_,by show(g.set kr _).get kr=_;rw[ae.aw,if_pos rfl],λa e=>?_,i.new,i.inj,i.ok.set _ i.new.2.1 (i.ok.wf _ _ i.out) w,i.len,i.sq⟩
 ·show(g.set kr _).get k=_;rw[ae.aw,if_neg (kf i.box i.out (by decide))];exact i.box
 ·have:=i.row a e;show(g.set kr _).get (ks a)=_;rw[ae.aw,if_neg (kf this i.out (by decide))];exact this
theorem QI.set(i:QI h M x z N k kr q cur ks cs R g)(w:Wf h)(c:VB g kl l)(e:h.next<=kl)(f:∀a,a<q->ks a≠kl)(b:List (List UInt8)):QI h M x z N k kr q cur ks cs R ((dM.set kl (.cells (eF b) 9 1 true)).app g)/\VB ((dM.set kl (.cells (eF b) 9 1 true)).app g) kl b:=by
 refine⟨⟨?_,?_,λa d=>?_,i.new,i.inj,i.ok.set _ e (i.ok.wf _ _ c) w,i.len,i.sq⟩,by show(g.set kl _).get kl=_;rw[ae.aw,if_pos rfl]⟩
 ·show(g.set kl _).get k=_;rw[ae.aw,if_neg (kf i.box c (by decide))];exact i.box
 ·show(g.set kl _).get kr=_;rw[ae.aw,if_neg (kf i.out c (by decide))];exact i.out
 ·have:=i.row a d;show(g.set kl _).get (ks a)=_;rw[ae.aw,if_neg (f a d)];exact this
theorem QI.next(i:QI h M x z N k kr q (vS kl N N) ks cs R g)(r:VB g kl l)(p:VV M.kind N l)(o:h.next<=kl)(m:∀a,a<q->ks a≠kl):QI h M x z N k kr (q+1) nA (λa=>if a=q then kl else ks a) (λa=>if a=q then N else cs a) (R++[l]) g:=by
 have e:∀a,a<q->(R++[l]).getD a []=R.getD a []:=λa j=>by
  rw[gD,List.getElem?_append_left (by rw[i.len];exact j),<-gD]
 have n:(R++[l]).getD q []=l:=by
  rw[gD,List.getElem?_append_right (by rw[i.len];exact Nat.le_refl _),i.len,Nat.sub_self];rfl
 refine⟨i.box,by rw[<-FI];exact i.out,λa j=>?_,⟨i.new.1,i.new.2.1,λa j=>?_⟩,λa b j s f=>?_,i.ok,by rw[List.length_append,i.len];rfl,λa j=>?_⟩
 ·by_cases c:a=q
  ·subst c;rw[n,if_pos rfl];exact r
  ·rw[if_neg c,e a (by omega)];exact i.row a (by omega)
 ·by_cases c:a=q
  ·rw[if_pos c];exact o
  ·rw[if_neg c];exact i.new.2.2 a (by omega)
 ·by_cases c:a=q<;>by_cases d:b=q
  ·omega
  ·rw[if_pos c,if_neg d]at f;exact absurd f.symm (m b (by omega))
  ·rw[if_neg c,if_pos d]at f;exact absurd f (m a (by omega))
  ·rw[if_neg c,if_neg d]at f;exact i.inj a b (by omega) (by omega) f
 ·by_cases c:a=q
  ·subst c;rw[n];exact p
  ·rw[e a (by omega)];exact i.sq a (by omega)
theorem QI.mtx(i:QI h M x z N k kr N cur ks cs R g):sE 107 g kr ks cs R/\Sq M.kind N R:=by
 refine⟨⟨?_,λa c=>i.row a (by rw[<-i.len];exact c),λa c=>?_,λa b c d=>i.inj a b (by rw[<-i.len];exact c) (by rw[<-i.len];exact d)⟩,i.len,λa c=>(i.sq a c).len,λa b c d=>(i.sq a c).val b d⟩
 ·rw[i.out,i.len];congr 2;unfold rZ;refine List.map_congr_left λa c=>?_;have c:=List.mem_range.1 c;rw[if_pos c,(i.sq a c).len]
 ·exact kf (i.row a (by rw[<-i.len];exact c)) i.out (by decide)
end
def aer(h:ae)(M:bw)(o:Option (Option LM)):VH:=λv g=>Ok h g/\match o with
 |none=>v = .tuple ⟨[nA,.int .i64 2]⟩
 |some none=>v = .tuple ⟨[nA,.int .i64 0]⟩
 |some (some B)=>∃(a:Addr)(d:Nat),v = .tuple ⟨[.slice (some a) M.af.length d,.int .i64 0]⟩/\Li 107 g (.slice (some a) M.af.length d) B/\Sq M.kind M.af.length B
theorem Y3{h:ae}{M:bw}{x:Option Addr}{z:Nat}(w:Wf h)(K:On M)(r:dx h (.slice x n z) M.af):FW SS 73 [.agg ⟨bK M x n z⟩,.bool false] h (aer h M (dU (aY M.kind) (gm M))):=by
 obtain⟨W,P⟩:=fo w r;obtain rfl:n=M.af.length:=W.len;have hn:=K.n;obtain⟨N,hN⟩:∃N,N=M.af.length:=⟨_,rfl⟩
 refine Y2 (bK M x M.af.length z) h _ ⟨_,iH M x _ z,_,da _,_,_,_,W.l3,_,_,_,TO _ (by omega),?_⟩;generalize h.push (Bm M x M.af.length z)=C at*;have k1:=aJ C (.cells (List.replicate M.af.length nA) 107 1 true);have o1:=(Ok.refl P.wf).push (.cells (List.replicate M.af.length nA) 107 1 true);obtain⟨G,hG⟩:∃G,G=dU (aY M.kind) (gm M):=⟨_,rfl⟩
 obtain⟨L,Q⟩:∃L,L=bd (gJ (aY M.kind) (gm M)) M.af.length 0 []:=⟨_,rfl⟩
 have z0:L=none->G=none:=λe=>by
  rw[hG];unfold dU;rw[CN,<-Q,e]
 have S:∀A,L=some A->G=if M.af.any Q2=true then(if 60<M.af.length then none else match jL (aY M.kind) A with|none=>none|some B=>some (some B))else some none:=λA e=>by
  rw[hG];unfold dU;rw[CN,<-Q,e,OH];dsimp only
  cases jL (aY M.kind) A<;>rfl
 rw[<-hG];have i0:QI h M x z M.af.length h.next C.next 0 nA (λ_=>0) (λ_=>0) [] (C.push (.cells (List.replicate M.af.length nA) 107 1 true)):=by
  refine⟨o1.ext _ _ W.box,?_,λa t=>by omega,⟨Nat.le_refl _,P.nx,λa t=>by omega⟩,λa b t=>by omega,P.trans o1,rfl,λa t=>by omega⟩;rw[k1];congr 2;unfold rZ;refine ext_getElem (by simp) λa h1 h2=>?_;simp
 refine Bs (bK M x M.af.length z) h.next C.next M.af.length (λmz q an g=>q<=M.af.length/\mz=M.af.length-q/\(an||(M.af.drop q).any Q2)=M.af.any Q2/\∃ks cs R,QI h M x z M.af.length h.next C.next q nA ks cs R g/\bd (gJ (aY M.kind) (gm M)) (M.af.length-q) q R=L) _ (λmz q an=>?_) M.af.length (q:=0) (an:=false) ⟨by omega,rfl,by rw[drop_zero,Bool.false_or],_,_,_,i0,by rw[Q,sub_zero]⟩;intros;rename_i g y7;obtain⟨f1,f2,t,ks,cs,R,k,Y⟩:=y7;refine aa (λq1=>?_) (λq1=>?_)
 ·have p:q<M.af.length:=by have:=dT q1;omega
  obtain⟨s,hs⟩:∃s,M.af[q]?=some s:=⟨_,gE p⟩
  have x0:=List.mem_of_getElem? hs;rw[fG hs,List.any_cons]at t;rw[fg _ p]at Y;have hc:gJ (aY M.kind) (gm M) R q=match bd (eX (aY M.kind) (Ez s).arcs) s.arcs.length 0 (bB (aY M.kind) M.af.length)with|none=>none|some r=>some (R++[r]):=by
   unfold gJ;rw[Ta hs,Te,CN]
   cases bd (eX (aY M.kind) (Ez s).arcs) s.arcs.length 0 (bB (aY M.kind) M.af.length)<;>rfl
  rw[hc]at Y;refine⟨_,(k.mb r).all,(uS k.ok.wf K (r.ok k.ok)).mono ?_⟩;rintro _ g1 ⟨kl,rfl,x2,nl,o2⟩;have x5:=k.qQ o2;have x6:h.next<=kl:=Nat.le_trans k.ok.nx nl;have hk:∀a,a<q->ks a≠kl:=λa t=>by have:=k.ok.wf _ _ (k.row a t);omega
  obtain⟨u,st,z4,kp⟩:=x5.adX w (vS kl M.af.length M.af.length) rfl rfl p;have z5:=kp _ _ x2 (λe=>kf x2 x5.out (by decide) e);refine⟨_,_,_,rfl,_,CS nP nz p,u,st,?_⟩;generalize u.app g1=g2 at*;refine Bt (bK M x M.af.length z) h.next C.next M.af.length _ mz q (λx3 j an g=>j<=s.arcs.length/\x3=s.arcs.length-j/\(an||((s.arcs.drop j).any Kq||(M.af.drop (q+1)).any Q2))=M.af.any Q2/\∃l,QI h M x z M.af.length h.next C.next q (vS kl M.af.length M.af.length) ks cs R g/\VB g kl l/\VV M.kind M.af.length l/\(match bd (eX (aY M.kind) (Ez s).arcs) (s.arcs.length-j) j l with|none=>none|some r=>bd (gJ (aY M.kind) (gm M)) (M.af.length-(q+1)) (q+1) (R++[r]))=L) _ (λx3 j an=>?_) s.arcs.length (j:=0) (an:=an) ⟨by omega,rfl,by rw[drop_zero];exact t,_,z4,z5,VV.Ol K.kind _,?_⟩
  ·intros;rename_i g3 y5;obtain⟨d1,d2,i,l,J,y2,m,f⟩:=y5;have X:=J.mb r;obtain⟨b,o,xa,ya,za,u1,u2,u3,u4,ar⟩:=X.row.at_ hs;have hm:=ar.len;subst hm;have z7:=K.m s x0;refine⟨_,da _,_,_,_,X.l3,_,u1,_,iu _ _,_,_,_,u4,aa (λE=>?_) (λE=>?_)⟩
   ·have hj:j<s.arcs.length:=by have:=dT E;omega
    obtain⟨d,I⟩:∃d,s.arcs[j]?=some d:=⟨_,gE hj⟩
    obtain⟨b2,z8,v1,v2,v3,v4,v5,v6⟩:=ar.at_ I;obtain⟨uu,p1,p2,p3⟩:=JT J.ok.wf d;have F:=J.qQ p2;have V:VB _ kl l:=p2.ext _ _ y2;have hw:=K.arc s x0 d (List.mem_of_getElem? I);rw[fG I,List.any_cons]at i;rw[fg _ hj]at f;have O:d.t.toNat<M.af.length:=by omega
    have et:d.t=((d.t.toNat:Nat):Int):=by omega
    have z1:eX (aY M.kind) (Ez s).arcs l j=if d.i≠0\/d.o≠0 then some l else match eR M.kind (l.getD d.t.toNat []) d.w with|none=>none|some x=>some (l.set d.t.toNat x):=by
     unfold eX;rw[ZA I];have e1:(Ey d).t=d.t.toNat:=rfl;have e2:(Ey d).i=d.i:=rfl;have e3:(Ey d).o=d.o:=rfl;have e4:(Ey d).w=d.w:=rfl;rw[e1,e2,e3,e4,m.at_ O (aY M.kind).zero];have e5:(aY M.kind).plus (l.getD d.t.toNat []) d.w=eR M.kind (l.getD d.t.toNat []) d.w:=rfl;rw[e5]
     cases eR M.kind (l.getD d.t.toNat []) d.w<;>rfl
    rw[z1]at f;rw[aN hj (by omega)];refine⟨_,da _,_,_,_,X.l3,_,u1,_,iu _ _,_,_,_,u4,_,v1,_,v2,_,RY,uu,p1,?_⟩;generalize uu.app (g3.push Om)=g4 at*;refine⟨_,zA _ _,_,p3.l0,aa (λy=>?_) (λy=>⟨_,zB _ _,_,p3.l1,aa (λD=>?_) (λD=>?_)⟩)⟩
    ·have y:d.i≠0:=by simpa using y
     rw[if_pos (.inl y)]at f;have e:Kq d=false:=by unfold Kq;simp[y]
     rw[e,Bool.false_or]at i;exact iI (s.arcs.length-(j+1)) (by omega) ⟨by omega,rfl,i,l,F,V,m,f⟩
    ·have D:d.o≠0:=by simpa using D
     rw[if_pos (.inr D)]at f;have e:Kq d=false:=by unfold Kq;simp[D]
     rw[e,Bool.false_or]at i;exact iI (s.arcs.length-(j+1)) (by omega) ⟨by omega,rfl,i,l,F,V,m,f⟩
    ·have y:d.i=0:=by simpa using y
     have D:d.o=0:=by simpa using D
     rw[if_neg (by rintro(h|h)<;>exact h (by first|exact y|exact D))]at f;have e:Kq d=true:=by unfold Kq;simp[y,D]
     rw[e]at i;simp only[Bool.true_or,Bool.or_true]at i;have H:=F.room 18;have x9:VB (Go.Ab.room g4 18) kl l:=V;have z6:aj SS.P 107 (Go.Ab.room g4 18) (.pointer (some ⟨C.next,q,none⟩))=some (vS kl M.af.length M.af.length):=by rw[cq Dy IF H.out (by rw[tG];exact p),Da p]
     have U:=p3.ok ((Ok.refl F.ok.wf).room 18);have y1:=U.l3;rw[et]at y1;have x1:=m.val _ O;refine⟨_,dD _,_,(H.mb r).l0,_,CS nP nz p,_,_,_,z6,_,rG _ _,_,y1,_,VB.ix ty O,_,x9.ld ty (by rw[m.len];exact O),_,CD _ _,_,U.l2,(uE x1 hw.1 H.ok.wf).mono ?_⟩;rintro _ g6 ⟨rfl,o6⟩;have y0:=H.qQ o6;have z3:VB g6 kl l:=o6.ext _ _ x9
     cases e6:eR M.kind (l.getD d.t.toNat []) d.w with
     |none=>
      rw[e6]at f;exact⟨_,_,rfl,aa (λ_=>⟨y0.ok,by rw[z0 f.symm]⟩) (λe=>by cases e)⟩
     |some sv=>
      rw[e6]at f;have y3:=y0.room 9;have x8:VB (Go.Ab.room g6 9) kl l:=z3;have y6:aj SS.P 107 (Go.Ab.room g6 9) (.pointer (some ⟨C.next,q,none⟩))=some (vS kl M.af.length M.af.length):=by rw[cq Dy IF y3.out (by rw[tG];exact p),Da p]
      have y4:=(U.ok (o6.trans ((Ok.refl o6.wf).room 9))).l3;rw[et]at y4;obtain⟨y8,y9⟩:=y3.set w x8 x6 hk (l.set d.t.toNat sv);refine⟨_,_,rfl,aa (λe=>by cases e) (λ_=>⟨_,CS nP nz p,_,_,_,y6,_,rG _ _,_,y4,_,VB.ix ty O,_,x8.st ty (by rw[m.len];exact O) _,?_⟩)⟩;exact iI (s.arcs.length-(j+1)) (by omega) ⟨by omega,rfl,by rw[Bool.true_or];exact i,_,y8,y9,m.set (xQ x1 hw.1 e6),f⟩
   ·obtain rfl:j=s.arcs.length:=by have:=dF E;omega
    rw[iD]at f;rw[drop_eq_nil_of_le (Nat.le_refl _)]at i;rw[aN p (by omega)];exact iI (M.af.length-(q+1)) (by omega) ⟨by omega,rfl,by rw[<-i];rfl,_,_,_,J.next y2 m x6 hk,f⟩
  ·rw[sub_zero,<-Y]
   cases bd (eX (aY M.kind) (Ez s).arcs) s.arcs.length 0 (bB (aY M.kind) M.af.length)<;>rfl
 ·obtain rfl:q=M.af.length:=by have:=dF q1;omega
  rw[iD]at Y;have S:=S R Y.symm;rw[drop_eq_nil_of_le (Nat.le_refl _),List.any_nil,Bool.or_false]at t;rw[S,<-t];refine aa (λT=>?_) (λT=>?_)
  ·rw[not_eq_true']at T;rw[T];exact⟨k.ok,rfl⟩
  ·rw[not_eq_false']at T;rw[T,if_pos rfl];refine aa (λE=>?_) (λE=>?_)
   ·rw[if_pos (by have:=dT E;omega)];exact⟨k.ok,rfl⟩
   ·have x7:¬60<M.af.length:=by have:=dF E;omega
    rw[if_neg x7];obtain⟨mm,sq⟩:=k.mtx;have rm:=mm.rdM M.af.length;rw[sq.len]at rm;have x4:=Qk k.ok.wf K.kind (by omega) rm sq;rw[if_neg x7]at x4;refine⟨_,dD _,_,(k.mb r).l0,x4.mono ?_⟩;rintro v g2 ⟨o2,Z⟩
    cases e:jL (aY M.kind) R with
    |none=>
     rw[e]at Z;subst Z;exact⟨_,_,_,_,rfl,k.ok.trans o2,rfl⟩
    |some B=>
     rw[e]at Z;obtain⟨a,c,rfl,z2,rd,sB⟩:=Z
     cases a with
     |none=>exact absurd rfl z2
     |some ps=>exact⟨_,_,_,_,rfl,k.ok.trans o2,ps,c,rfl,rd,sB⟩
end
end Go.Proofs.YtaaichlgdgjgjaaGreatDoor
end
