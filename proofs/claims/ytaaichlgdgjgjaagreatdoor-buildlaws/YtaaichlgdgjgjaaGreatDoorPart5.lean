/- Laws and walks that the proof leans on (part 5): W14; P31; P32; W15; P33; P34 and others. No condition. -/
import Derived.Test.YtaaichlgdgjgjaaGreatDoorPart3
import Derived.Test.YtaaichlgdgjgjaaGreatDoorPart2
import Derived.Test.YtaaichlgdgjgjaaGreatDoorPart4
set_option linter.unusedVariables false
set_option linter.unusedSimpArgs false
set_option maxRecDepth 100000
open List (drop_eq_nil_of_le drop_zero ext_getElem length_replicate length_set mem_cons mem_singleton take_of_length_le take_zero)
open Nat (le_succ lt_of_le_of_lt mul_pos sub_zero)
open Bool (and_eq_true not_eq_false' not_eq_true')
open Go.IntKind (wrap)
section
namespace Go.Proofs.YtaaichlgdgjgjaaGreatDoor
open Go Go.Ab Go.Num
noncomputable def YH:FD:=dq Tryz.f89 []
theorem Uf(s:Int)(h:ae)(Q:VH)(a:au (decide ((s:Int)>=0)) (Q (.bool (decide ((s:Int)<=500))) h) (Q (.bool false) h)):FW SS 89 [(.int .i64 s)] h Q:=du YH Tryz.func89 (ai a)
noncomputable def dZ:FD:=dq Tryz.f66 [([1,1,1,1,0,1,0,0],[1,2,3,4,48,49,50]),([1,1,1,1,0,1,0,0,1,1,0,0,1,1,1,1,0,0],[1,2,3,4,6,48,49,50,75,76,77])]
abbrev iU(k:Nat)(a:OA)(n c:Nat)(i:Nat)(b:Int):LV:=[(pA k),(.bool false),(iA n),(.int .i64 b),(.slice a n c),(iA n),(iA i)]
abbrev kM(k:Nat)(a:OA)(n c f:Nat)(b:OA)(m d i:Nat)(e:Int)(j:Nat):LV:=[(pA k),(.bool false),(iA n),(.int .i64 e),(pA f),(.slice a n c),(iA n),(iA i),(.slice b m d),(iA m),(iA j)]
theorem SK(x:LV)(h:ae)(Q:VH)(y:xN (fu SS.P 29 (.agg ⟨x⟩)) h λ_ w=>fP 29 (pA (h.next)) 3 λv=>lL 27 w v λ_ u _=>fP 29 (pA (h.next)) 0 λt=>lI w t λs=>au (decide ((s:Int)<1)) (Q (.bool false) w) (fP 29 (pA (h.next)) 0 λr=>lI w r λq=>au (decide ((q:Int)>3)) (Q (.bool false) w) (au (decide (((u:Int):Int)<1)) (Q (.bool false) w) (au (decide (((u:Int):Int)>3000)) (Q (.bool false) w) (fP 29 (pA (h.next)) 1 λp=>lI w p λo=>au (decide ((o:Int)<0)) (Q (.bool false) w) (fP 29 (pA (h.next)) 1 λn=>lI w n λm=>au (decide ((m:Int)>=(u:Int))) (Q (.bool false) w) (fP 29 (pA (h.next)) 0 λl=>lI w l λk=>fP 29 (pA (h.next)) 2 λj=>lS w j λi=>FW SS 41 [(.int .i64 k),(strOf i)] w λf g=>yB f λe=>au (!e) (Q (.bool false) g) (fP 29 (pA (h.next)) 3 λd=>lL 27 g d λa b c=>LL SS dZ [1,1,1,1,0,1,0,0] [(pA (h.next)),(.bool false),(iA u),(.int .i64 0),(.slice a b c),(iA b),(.int .i64 0)] g (KK SS dZ [1,1,1,1,0,1,0] [] (EE SS dZ Q)))))))))):FW SS 66 [(.agg ⟨x⟩)] h Q:=du dZ Tryz.func66 (ai y)
theorem A7(D:LV)(k:Nat)(a:OA)(n c:Nat)(z:Nat->Nat->Int->ae->Prop)(Q:VH)(step:∀(A:Nat) (i:Nat) (acc:Int) (C:Nat->Value) (h:ae),z A i acc h->au (decide (((i:Int):Int)<(n:Int))) (iP 27 (.slice a n c) (iA i) λy=>lA 73 h (.pointer (some y)) λx=>xN (av SS.P 73) h λ_ w=>xU (ah SS.P 73 (pA (h.next)) (.agg ⟨x⟩) w) w λ_ v=>fP 73 (pA (h.next)) 1 λu=>lL 71 v u λ_ t _=>au (decide ((wrap .i64 (acc+(t:Int)):Int)>30000)) (Q (.bool false) v) (fP 73 (pA (h.next)) 0 λs=>lS v s λr=>au (!((r:LB)==[])) (fP 29 (pA k) 0 λq=>lI v q λp=>fP 73 (pA (h.next)) 0 λo=>lS v o λm=>FW SS 41 [(.int .i64 p),(strOf m)] v λj l=>yB j λg=>au (!g) (Q (.bool false) l) (fP 73 (pA (h.next)) 1 λf=>lL 71 l f λb d e=>LL SS dZ [1,1,1,1,0,1,0,0,1,1,0,0,1,1,1,1,0,0] (kM k a n c (h.next) b d e i (wrap .i64 (acc+(t:Int))) 0) l (KK SS dZ [1,1,0,0,1,1,1,1,0] [1,1,1,1,0,1,0,0] (RR dZ [1,1,1,1,0,1,0,0] (tE (iU k a n c) z) A (KK SS dZ [1,1,1,1,0,1,0] [] (EE SS dZ Q)))))) (fP 73 (pA (h.next)) 1 λf=>lL 71 v f λb d e=>LL SS dZ [1,1,1,1,0,1,0,0,1,1,0,0,1,1,1,1,0,0] (kM k a n c (h.next) b d e i (wrap .i64 (acc+(t:Int))) 0) v (KK SS dZ [1,1,0,0,1,1,1,1,0] [1,1,1,1,0,1,0,0] (RR dZ [1,1,1,1,0,1,0,0] (tE (iU k a n c) z) A (KK SS dZ [1,1,1,1,0,1,0] [] (EE SS dZ Q))))))) (Q (.bool true) h))(A:Nat){i:Nat}{acc:Int}{h:ae}(B:z A i acc h):LL SS dZ [1,1,1,1,0,1,0,0] (iU k a n c i acc) h (KK SS dZ [1,1,1,1,0,1,0] [] (EE SS dZ Q)):=
 pU (iU k a n c) z (λA i acc C h B=>ai (step A i acc C h B)) A B
theorem A8(R:LV)(k:Nat)(a:OA)(n c:Nat)(D:Nat)(b:OA)(m d:Nat)(E:Nat->Nat->Int->ae->Prop)(H i:Nat)(C:Int)(B:Nat->Nat->ae->Prop)(Q:VH)(step:∀(A:Nat) (j:Nat) (I:Nat->Value) (h:ae),B A j h->au (decide (((j:Int):Int)<(m:Int))) (iP 71 (.slice b m d) (iA j) λP=>lA 70 h (.pointer (some P)) λN=>xN (av SS.P 70) h λ_ K=>xU (ah SS.P 70 (pA (h.next)) (.agg ⟨N⟩) K) K λ_ J=>fP 70 (pA (h.next)) 0 λO=>lI J O λL=>FW SS 89 [(.int .i64 L)] J λM G=>yB M λz=>au (!z) (Q (.bool false) G) (fP 70 (pA (h.next)) 1 λy=>lI G y λx=>FW SS 89 [(.int .i64 x)] G λv w=>yB v λu=>au (!u) (Q (.bool false) w) (fP 70 (pA (h.next)) 3 λt=>lI w t λs=>au (decide ((s:Int)<0)) (Q (.bool false) w) (fP 70 (pA (h.next)) 3 λr=>lI w r λq=>au (decide ((q:Int)>=(n:Int))) (Q (.bool false) w) (fP 29 (pA k) 0 λp=>lI w p λo=>fP 70 (pA (h.next)) 2 λl=>lS w l λh=>FW SS 41 [(.int .i64 o),(strOf h)] w λf g=>yB f λe=>au (!e) (Q (.bool false) g) (aM (gp (kM k a n c D b m d i C) B) A [(pA k),(.bool false),(iA n),(.int .i64 C),(pA D),(.slice a n c),(iA n),(iA i),(.slice b m d),(iA m),(.int .i64 (wrap .i64 ((j:Int)+1)))] g)))))) (aM (tE (iU k a n c) E) H [(pA k),(.bool false),(iA n),(.int .i64 C),(.slice a n c),(iA n),(.int .i64 (wrap .i64 ((i:Int)+1)))] h))(A:Nat){j:Nat}{h:ae}(F:B A j h):LL SS dZ [1,1,1,1,0,1,0,0,1,1,0,0,1,1,1,1,0,0] (kM k a n c D b m d i C j) h (KK SS dZ [1,1,0,0,1,1,1,1,0] [1,1,1,1,0,1,0,0] (RR dZ [1,1,1,1,0,1,0,0] (tE (iU k a n c) E) H (KK SS dZ [1,1,1,1,0,1,0] [] (EE SS dZ Q)))):=
 dJ (kM k a n c D b m d i C) B (λA j I h F=>ai (step A j I h F)) A F
noncomputable def ee:FD:=dq Tryz.f26 [([1,1,1,0,1,0,0],[1,2,3,4]),([1,1,1,0,1,0,0,1,0,0,1,1,1,1,0,0],[1,2,3,4,5,6])]
abbrev gX(k:Nat)(i:Nat)(a:Int):LV:=[(pA k),(.bool false),(.int .i64 a),(iA i)]
abbrev lb(k b i:Nat)(a:Int)(j:Nat):LV:=[(pA k),(.bool false),(.int .i64 a),(iA i),(pA b),(iA j)]
theorem Tm(y:LV)(h:ae)(Q:VH)(z:xN (fu SS.P 29 (.agg ⟨y⟩)) h λ_ x=>fP 29 (pA (h.next)) 0 λw=>lI x w λv=>FW SS 14 [(.int .i64 v)] x λt u=>yB t λs=>au (!s) (Q (.bool false) u) (fP 29 (pA (h.next)) 3 λr=>lL 27 u r λ_ q _=>au (decide (((q:Int):Int)<1)) (Q (.bool false) u) (fP 29 (pA (h.next)) 3 λp=>lL 27 u p λ_ o _=>au (decide (((o:Int):Int)>3000)) (Q (.bool false) u) (fP 29 (pA (h.next)) 1 λn=>lI u n λm=>au (decide ((m:Int)<0)) (Q (.bool false) u) (fP 29 (pA (h.next)) 1 λl=>lI u l λk=>fP 29 (pA (h.next)) 3 λj=>lL 27 u j λ_ i _=>au (decide ((k:Int)>=(i:Int))) (Q (.bool false) u) (fP 29 (pA (h.next)) 0 λg=>lI u g λf=>fP 29 (pA (h.next)) 2 λe=>lS u e λd=>FW SS 16 [(.int .i64 f),(strOf d)] u λb c=>yB b λa=>au (!a) (Q (.bool false) c) (LL SS ee [1,1,1,0,1,0,0] (gX (h.next) 0 0) c (KK SS ee [1,1,1,0,1,0] [] (EE SS ee Q))))))))):FW SS 26 [(.agg ⟨y⟩)] h Q:=du ee Tryz.func26 (ai z)
theorem Bj(C:LV)(k:Nat)(y:Nat->Nat->Int->ae->Prop)(Q:VH)(step:∀(z:Nat) (i:Nat) (acc:Int) (B:Nat->Value) (h:ae),y z i acc h->fP 29 (pA k) 3 λx=>lL 27 h x λ_ w _=>au (decide (((i:Int):Int)<(w:Int))) (fP 29 (pA k) 3 λv=>lL 27 h v λs t u=>iP 27 (.slice s t u) (iA i) λr=>lA 73 h (.pointer (some r)) λq=>xN (av SS.P 73) h λ_ p=>xU (ah SS.P 73 (pA (h.next)) (.agg ⟨q⟩) p) p λ_ o=>fP 73 (pA (h.next)) 1 λn=>lL 71 o n λ_ m _=>au (decide ((wrap .i64 (acc+(m:Int)):Int)>30000)) (Q (.bool false) o) (fP 73 (pA (h.next)) 0 λl=>lS o l λj=>au (!((j:LB)==[])) (fP 29 (pA k) 0 λg=>lI o g λf=>fP 73 (pA (h.next)) 0 λe=>lS o e λd=>FW SS 16 [(.int .i64 f),(strOf d)] o λb c=>yB b λa=>au (!a) (Q (.bool false) c) (LL SS ee [1,1,1,0,1,0,0,1,0,0,1,1,1,1,0,0] (lb k (h.next) i (wrap .i64 (acc+(m:Int))) 0) c (KK SS ee [1,0,0,1,1,1,1,0] [1,1,1,0,1,0,0] (RR ee [1,1,1,0,1,0,0] (tE (gX k) y) z (KK SS ee [1,1,1,0,1,0] [] (EE SS ee Q)))))) (LL SS ee [1,1,1,0,1,0,0,1,0,0,1,1,1,1,0,0] (lb k (h.next) i (wrap .i64 (acc+(m:Int))) 0) o (KK SS ee [1,0,0,1,1,1,1,0] [1,1,1,0,1,0,0] (RR ee [1,1,1,0,1,0,0] (tE (gX k) y) z (KK SS ee [1,1,1,0,1,0] [] (EE SS ee Q))))))) (Q (.bool true) h))(z:Nat){i:Nat}{acc:Int}{h:ae}(A:y z i acc h):LL SS ee [1,1,1,0,1,0,0] (gX k i acc) h (KK SS ee [1,1,1,0,1,0] [] (EE SS ee Q)):=
 pU (gX k) y (λz i acc B h A=>ai (step z i acc B h A)) z A
theorem Bk(S:LV)(k D:Nat)(E:Nat->Nat->Int->ae->Prop)(G i:Nat)(C:Int)(B:Nat->Nat->ae->Prop)(Q:VH)(step:∀(A:Nat) (j:Nat) (I:Nat->Value) (h:ae),B A j h->fP 73 (pA D) 1 λJ=>lL 71 h J λ_ O _=>au (decide (((j:Int):Int)<(O:Int))) (fP 73 (pA D) 1 λL=>lL 71 h L λM N P=>iP 71 (.slice M N P) (iA j) λK=>lA 70 h (.pointer (some K)) λR=>xN (av SS.P 70) h λ_ H=>xU (ah SS.P 70 (pA (h.next)) (.agg ⟨R⟩) H) H λ_ z=>fP 70 (pA (h.next)) 0 λy=>lI z y λx=>au (decide ((x:Int)<0)) (Q (.bool false) z) (fP 70 (pA (h.next)) 0 λw=>lI z w λv=>au (decide ((v:Int)>500)) (Q (.bool false) z) (fP 70 (pA (h.next)) 1 λu=>lI z u λt=>au (decide ((t:Int)<0)) (Q (.bool false) z) (fP 70 (pA (h.next)) 1 λs=>lI z s λr=>au (decide ((r:Int)>500)) (Q (.bool false) z) (fP 70 (pA (h.next)) 3 λq=>lI z q λp=>au (decide ((p:Int)<0)) (Q (.bool false) z) (fP 70 (pA (h.next)) 3 λo=>lI z o λn=>fP 29 (pA k) 3 λm=>lL 27 z m λ_ l _=>au (decide ((n:Int)>=(l:Int))) (Q (.bool false) z) (fP 29 (pA k) 0 λg=>lI z g λf=>fP 70 (pA (h.next)) 2 λe=>lS z e λd=>FW SS 16 [(.int .i64 f),(strOf d)] z λb c=>yB b λa=>au (!a) (Q (.bool false) c) (aM (gp (lb k D i C) B) A [(pA k),(.bool false),(.int .i64 C),(iA i),(pA D),(.int .i64 (wrap .i64 ((j:Int)+1)))] c)))))))) (aM (tE (gX k) E) G [(pA k),(.bool false),(.int .i64 C),(.int .i64 (wrap .i64 ((i:Int)+1)))] h))(A:Nat){j:Nat}{h:ae}(F:B A j h):LL SS ee [1,1,1,0,1,0,0,1,0,0,1,1,1,1,0,0] (lb k D i C j) h (KK SS ee [1,0,0,1,1,1,1,0] [1,1,1,0,1,0,0] (RR ee [1,1,1,0,1,0,0] (tE (gX k) E) G (KK SS ee [1,1,1,0,1,0] [] (EE SS ee Q)))):=
 dJ (lb k D i C) B (λA j I h F=>ai (step A j I h F)) A F
noncomputable def vd:FD:=dq Tryz.f56 [([1,1,0,1,0,0],[1,3,4])]
abbrev pF(k:Nat)(i:Nat)(a:Int):LV:=[(pA k),(.int .i64 a),(iA i)]
theorem XD(b:LV)(h:ae)(Q:VH)(c:xN (fu SS.P 29 (.agg ⟨b⟩)) h λ_ a=>LL SS vd [1,1,0,1,0,0] (pF (h.next) 0 0) a (KK SS vd [1,1,0,1,0] [] (EE SS vd Q))):FW SS 56 [(.agg ⟨b⟩)] h Q:=du vd Tryz.func56 (ai c)
theorem CH(q:LV)(k:Nat)(n:Nat->Nat->Int->ae->Prop)(Q:VH)(step:∀(m:Nat) (i:Nat) (acc:Int) (p:Nat->Value) (h:ae),n m i acc h->fP 29 (pA k) 3 λl=>lL 27 h l λ_ j _=>au (decide (((i:Int):Int)<(j:Int))) (fP 29 (pA k) 3 λg=>lL 27 h g λd e f=>iP 27 (.slice d e f) (iA i) λc=>fP 73 (.pointer (some c)) 1 λb=>lL 71 h b λ_ a _=>aM (tE (pF k) n) m [(pA k),(.int .i64 (wrap .i64 (acc+(a:Int)))),(.int .i64 (wrap .i64 ((i:Int)+1)))] h) (Q (.int .i64 acc) h))(m:Nat){i:Nat}{acc:Int}{h:ae}(o:n m i acc h):LL SS vd [1,1,0,1,0,0] (pF k i acc) h (KK SS vd [1,1,0,1,0] [] (EE SS vd Q)):=
 pU (pF k) n (λm i acc p h o=>ai (step m i acc p h o)) m o
variable{A:Type}{i:Nat}
section
theorem iS{l:List A}{s:A}(h:l[i]?=some s):l.drop i=s::l.drop (i+1):=by
 obtain⟨a,rfl⟩:=List.getElem?_eq_some_iff.1 h;exact List.drop_eq_getElem_cons a
theorem I9(s:Int)(h:ae):FW SS 89 [.int .i64 s] h (λv a=>v = .bool (sF s)/\a=h):=by
 refine Uf s h _ (aa (λg=>⟨?_,rfl⟩) (λg=>⟨?_,rfl⟩))
 ·have g:=dT g;unfold sF;rw[decide_eq_true (show 0<=s from g),Bool.true_and]
 ·have g:=dF g;unfold sF;rw[decide_eq_false (show ¬0<=s from g),Bool.false_and]
section
variable {h:ae} {k:Nat} {M:bJ} {a:Option Addr} {n c:Nat}
def bQ(h:ae)(V:Bool):VH:=λv a=>v = .bool V/\Ok h a
def aa7(h:ae)(k:Nat)(M:bJ)(a:Option Addr)(n c:Nat)(V:Bool)(d i:Nat)(b:Int)(g:ae):Prop:=i<=n/\d=n-i/\0<=b/\b<=30000/\MB g k M a n c/\Ok h g/\qq M.kind n b (M.af.drop i)=V
def mIn(h:ae)(k:Nat)(M:bJ)(a:Option Addr)(n c:Nat)(s:dW)(b:Option Addr)(m d i:Nat)(f:Int)(V:Bool)(e j:Nat)(g:ae):Prop:=j<=m/\e=m-j/\MB g k M a n c/\Ok h g/\oH g (.slice b m d) s.arcs/\((s.arcs.drop j).all (jf M.kind n)&&qq M.kind n f (M.af.drop (i+1)))=V
theorem bg{n:Nat}(h:i<n)(a:n<=1000000000):wrap .i64 ((i:Int)+1)=((i+1:Nat):Int):=by rw[aF (by omega) (by omega)];omega
theorem EA(a:Small M){s:dW}{i:Nat}(b:M.af[i]?=some s):s.arcs.length<=2000/\s.f.length<=1000000000/\∀q∈s.arcs,q.w.length<=1000000000:=by
 have h:=List.mem_of_getElem? b;exact⟨a.arcs s h,Nat.le_trans (a.fin s h) (by decide),λq c=>Nat.le_trans (a.w s h q c) (by decide)⟩
set_option linter.defProp false in
def Mw(w:Wf h)(Z:qJ h)(O:Small M)(V:Bool){s:dW}{b:Option Addr}{m d i T:Nat}{l:Int}(U:M.af[i]?=some s)(Y:i<n)(h0:0<=l)(W:l<=30000)(Q:List Value)(K:Nat)(x0:K=n-i):=
 A8 Q k a n c T b m d (aa7 h k M a n c V) K i l (mIn h k M a n c s b m d i l V) (bQ h V) (by
  intro P j;intros;rename_i g J;obtain⟨f1,f2,E,H,C,f⟩:=J;have hn:n<=300:=by rw[E.len];exact O.bT
  obtain⟨l1,l2,X⟩:=EA O U;have hm:=C.len;refine aa (λy=>?_) (λy=>?_)
  ·have y:=dT y;obtain⟨q,F⟩:∃q,s.arcs[j]?=some q:=⟨_,gE (by omega)⟩
   obtain⟨bb,o,S,e2,e3⟩:=C.at_ F;have R:=X q (List.mem_of_getElem? F);rw[iS F,List.all_cons]at f;obtain⟨u,p1,D,z⟩:=MS H.wf q;refine⟨_,S,_,e2,_,UU,u,p1,?_⟩;have e:=H.trans D;have B:=E.ok D;generalize u.app (g.push Rl)=L at*;refine⟨_,Fw _ _,_,z.l0,(I9 _ _).mono ?_⟩;rintro _ I ⟨rfl,G⟩;obtain rfl:L=I:=G.symm;refine⟨_,rfl,aa (λt=>⟨?_,e⟩) (λt=>?_)⟩
   ·rw[not_eq_true']at t;rw[<-f];unfold jf;rw[t];simp
   rw[not_eq_false']at t;refine⟨_,Fx _ _,_,z.l1,(I9 _ _).mono ?_⟩;rintro _ I ⟨rfl,G⟩;obtain rfl:L=I:=G.symm;refine⟨_,rfl,aa (λp=>⟨?_,e⟩) (λp=>?_)⟩
   ·rw[not_eq_true']at p;rw[<-f];unfold jf;rw[p];simp
   rw[not_eq_false']at p;refine⟨_,uo _ _,_,z.l3,aa (λx=>⟨?_,e⟩) (λx=>?_)⟩
   ·have x:=dT x;rw[<-f];unfold jf;rw[decide_eq_false (show ¬0<=q.t by omega)];simp
   have x:=dF x;refine⟨_,uo _ _,_,z.l3,aa (λr=>⟨?_,e⟩) (λr=>?_)⟩
   ·have r:=dT r;rw[<-f];unfold jf;rw[decide_eq_false (show ¬q.t<n by omega)];simp
   have r:=dF r;refine⟨_,dN _,_,B.l0,_,Fy _ _,_,z.l2,(oC M.kind q.w R (Z.ok e) e.wf).mono ?_⟩;rintro _ g4 ⟨rfl,A⟩;refine⟨_,rfl,aa (λv=>⟨?_,e.trans A⟩) (λv=>?_)⟩
   ·rw[not_eq_true']at v;rw[<-f];unfold jf;rw[v];simp
   rw[not_eq_false']at v;have N:jf M.kind n q=true:=by
    unfold jf;rw[t,p,v,decide_eq_true (show 0<=q.t by omega),decide_eq_true (show q.t<n by omega)];rfl
   rw[N,Bool.true_and]at f;rw[bg (i:=j) (n:=m) (by omega) (by omega)];exact cz (P-1) (by omega) ⟨by omega,by omega,B.ok A,e.trans A,(C.ok D).ok A,f⟩
  ·have y:=dF y;obtain rfl:m=j:=by omega
   rw[drop_eq_nil_of_le (by omega)]at f;rw[bg Y (by omega)];exact jV (n-(i+1)) (by omega) ⟨by omega,rfl,h0,W,E,H,by simpa using f⟩)
theorem tk{h:ae}(N:qJ h)(w:Wf h){M:bJ}(q:Small M){a:Option Addr}{n c:Nat}(r:dR h (.slice a n c) M.af):FW SS 66 [.agg ⟨bM M a n c⟩] h (λv h'=>v = .bool (db M)/\Ok h h'):=by
 obtain⟨f,k⟩:=fv w r;refine SK (bM M a n c) h _ ⟨_,iO M a n c,?_⟩;have Y:=f.len;have hn:n<=300:=by rw[Y];exact q.bT
 generalize h.push (Bm M a n c)=g at*;refine⟨_,dO _,_,_,_,f.l3,_,dN _,_,f.l0,aa (λJ=>⟨?_,k⟩) (λJ=>?_)⟩
 ·have J:=dT J;unfold db;rw[decide_eq_false (show ¬1<=M.kind by omega)];simp
 have J:=dF J;refine⟨_,dN _,_,f.l0,aa (λp=>⟨?_,k⟩) (λp=>aa (λF=>⟨?_,k⟩) (λF=>aa (λT=>⟨?_,k⟩) (λT=>?_)))⟩
 ·have p:=dT p;unfold db;rw[decide_eq_false (show ¬M.kind<=3 by omega)];simp
 ·have F:=dT F;unfold db;rw[decide_eq_false (show ¬1<=M.af.length by omega)];simp
 ·have T:=dT T;omega
 have p:=dF p;have F:=dF F;refine⟨_,wJ _,_,f.l1,aa (λC=>⟨?_,k⟩) (λC=>?_)⟩
 ·have C:=dT C;unfold db;rw[decide_eq_false (show ¬0<=M.start by omega)];simp
 have C:=dF C;refine⟨_,wJ _,_,f.l1,aa (λD=>⟨?_,k⟩) (λD=>?_)⟩
 ·have D:=dT D;unfold db;rw[decide_eq_false (show ¬M.start<M.af.length by omega)];simp
 have D:=dF D;refine⟨_,dN _,_,f.l0,_,oX _,_,f.l2,(oC M.kind M.lead (Nat.le_trans q.lead (by decide)) (N.ok k) k.wf).mono ?_⟩;rintro _ g2 ⟨rfl,o2⟩;have R:=k.trans o2;have O:=f.ok o2;refine⟨_,rfl,aa (λI=>⟨?_,R⟩) (λI=>?_)⟩
 ·rw[not_eq_true']at I;unfold db;rw[I];simp
 rw[not_eq_false']at I;have hV:db M=qq M.kind n 0 M.af:=by
  unfold db;rw[I,decide_eq_true (show 1<=M.kind by omega),decide_eq_true (show M.kind<=3 by omega),decide_eq_true (show 1<=M.af.length by omega),decide_eq_true (show M.af.length<=3000 by omega),decide_eq_true (show 0<=M.start by omega),decide_eq_true (show M.start<M.af.length by omega),Y];rfl
 obtain⟨V,S⟩:∃V,V=qq M.kind n 0 M.af:=⟨_,rfl⟩
 rw[hV,<-S];refine⟨_,dO _,_,_,_,O.l3,?_⟩;refine A7 (bM M a n c) h.next a n c (aa7 h h.next M a n c V) (bQ h V) (λW i l=>?_) n (i:=0) (acc:=0) ⟨by omega,rfl,by omega,by omega,O,R,S.symm⟩;intros;rename_i gg hi;obtain⟨f1,Z,f3,f4,Q,G,d⟩:=hi;refine aa (λH=>?_) (λH=>?_)
 ·have H:=dT H;obtain⟨s,t⟩:∃s,M.af[i]?=some s:=⟨_,gE (by omega)⟩
  obtain⟨b,o,x,y,z,e1,e2,e3,e4,X⟩:=Q.row.at_ t;obtain⟨l1,l2,l3⟩:=EA q t;have hy:=X.len;rw[iS t]at d;unfold qq at d;obtain⟨u,p1,U,K⟩:=QZ G.wf s.f x y z;refine⟨_,e1,_,e2,_,aaa,u,p1,?_⟩;have e:=G.trans U;have L:=Q.ok U;have P:=X.ok U;generalize u.app (gg.push UB)=g3 at*;have hw:wrap .i64 (l+(y:Int))=l+(s.arcs.length:Int):=by rw[hy,aF (by omega) (by omega)]
  refine⟨_,mh _ _,_,_,_,K.l1,?_⟩;dsimp only;rw[hw];refine aa (λA=>⟨?_,e⟩) (λA=>?_)
  ·have A:=dT A;rw[<-d,decide_eq_false (show ¬l+(s.arcs.length:Int)<=30000 by omega)];simp
  have A:=dF A;rw[decide_eq_true (show l+(s.arcs.length:Int)<=30000 by omega),Bool.true_and]at d;refine⟨_,qg _ _,_,K.l0,aa (λm=>?_) (λm=>?_)⟩
  ·refine⟨_,dN _,_,L.l0,_,qg _ _,_,K.l0,(oC M.kind s.f l2 (N.ok e) e.wf).mono ?_⟩;rintro _ g4 ⟨rfl,B⟩;have m:(s.f==[])=false:=by simpa using m
   rw[m,Bool.false_or]at d;refine⟨_,rfl,aa (λE=>⟨?_,e.trans B⟩) (λE=>?_)⟩
   ·rw[not_eq_true']at E;rw[<-d,E];simp
   rw[not_eq_false']at E;rw[E,Bool.true_and]at d;refine⟨_,mh _ _,_,_,_,(K.ok B).l1,?_⟩;exact Mw w N q _ t (by omega) (by omega) (by omega) [] W Z y (j:=0) ⟨by omega,rfl,L.ok B,e.trans B,P.ok B,by rw[drop_zero];exact d⟩
  ·have m:(s.f==[])=true:=by simpa using m
   rw[m,Bool.true_or,Bool.true_and]at d;refine⟨_,mh _ _,_,_,_,K.l1,?_⟩;exact Mw w N q _ t (by omega) (by omega) (by omega) [] W Z y (j:=0) ⟨by omega,rfl,L,e,P,by rw[drop_zero];exact d⟩
 ·have H:=dF H;refine⟨?_,G⟩;rw[drop_eq_nil_of_le (by omega)]at d;rw[<-d];rfl
end
end
section
theorem sx(a:Int)(h:ae):FW SS 14 [.int .i64 a] h (λv b=>v = .bool (decide (1<=a)&&decide (a<=3))/\b=h):=by
 refine DB a h _ (aa (λg=>⟨?_,rfl⟩) (λg=>⟨?_,rfl⟩))
 ·have g:=dT g;rw[decide_eq_true (show 1<=a from g),Bool.true_and]
 ·have g:=dF g;rw[decide_eq_false (show ¬1<=a from g),Bool.false_and]
section
variable {h:ae} {k:Nat} {M:bJ} {a:Option Addr} {n c:Nat}
set_option linter.defProp false in
def Nh(w:Wf h)(P:Small M)(V:Bool){s:dW}{b:Option Addr}{m d i Q:Nat}{p:Int}(U:M.af[i]?=some s)(Y:i<n)(Z:0<=p)(W:p<=30000)(R:List Value)(N:Nat)(x0:N=n-i):=
 Bk R k Q (aa7 h k M a n c V) N i p (λx j g=>mIn h k M a n c s b m d i p V x j g/\SB g Q s.f b m d) (bQ h V) (by
  intro x j;intros;rename_i g L;obtain⟨⟨f1,f2,H,K,G,f⟩,J⟩:=L;have hn:n<=300:=by rw[H.len];exact P.bT
  obtain⟨l1,l2,X⟩:=EA P U;have hm:=G.len;refine⟨_,mh _ _,_,_,_,J.l1,aa (λD=>?_) (λD=>?_)⟩
  ·have D:=dT D;obtain⟨q,I⟩:∃q,s.arcs[j]?=some q:=⟨_,gE (by omega)⟩
   obtain⟨bb,o,T,e2,e3⟩:=G.at_ I;have S:=X q (List.mem_of_getElem? I);rw[iS I,List.all_cons]at f;obtain⟨u,p1,F,l⟩:=MS K.wf q;refine⟨_,mh _ _,_,_,_,J.l1,_,T,_,e2,_,UU,u,p1,?_⟩;have e:=K.trans F;have E:=H.ok F;generalize u.app (g.push Rl)=g2 at*;refine⟨_,Fw _ _,_,l.l0,aa (λt=>⟨?_,e⟩) (λt=>⟨_,Fw _ _,_,l.l0,aa (λr=>⟨?_,e⟩) (λr=>⟨_,Fx _ _,_,l.l1,aa (λB=>⟨?_,e⟩) (λB=>⟨_,Fx _ _,_,l.l1,aa (λv=>⟨?_,e⟩) (λv=>⟨_,uo _ _,_,l.l3,aa (λz=>⟨?_,e⟩) (λz=>⟨_,uo _ _,_,l.l3,_,dO _,_,_,_,E.l3,aa (λA=>⟨?_,e⟩) (λA=>?_)⟩)⟩)⟩)⟩)⟩)⟩
   ·have t:=dT t;rw[<-f];unfold jf sF;rw[decide_eq_false (show ¬0<=q.i by omega)];simp
   ·have r:=dT r;rw[<-f];unfold jf sF;rw[decide_eq_false (show ¬q.i<=500 by omega)];simp
   ·have B:=dT B;rw[<-f];unfold jf sF;rw[decide_eq_false (show ¬0<=q.o by omega)];simp
   ·have v:=dT v;rw[<-f];unfold jf sF;rw[decide_eq_false (show ¬q.o<=500 by omega)];simp
   ·have z:=dT z;rw[<-f];unfold jf;rw[decide_eq_false (show ¬0<=q.t by omega)];simp
   ·have A:=dT A;rw[<-f];unfold jf;rw[decide_eq_false (show ¬q.t<n by omega)];simp
   have t:=dF t;have r:=dF r;have B:=dF B;have v:=dF v;have z:=dF z;have A:=dF A;refine⟨_,dN _,_,E.l0,_,Fy _ _,_,l.l2,(sY M.kind q.w S e.wf).mono ?_⟩;rintro _ g4 ⟨rfl,y⟩;refine⟨_,rfl,aa (λC=>⟨?_,e.trans y⟩) (λC=>?_)⟩
   ·rw[not_eq_true']at C;rw[<-f];unfold jf;rw[C];simp
   rw[not_eq_false']at C;have O:jf M.kind n q=true:=by
    unfold jf sF;rw[C,decide_eq_true (show 0<=q.i by omega),decide_eq_true (show q.i<=500 by omega),decide_eq_true (show 0<=q.o by omega),decide_eq_true (show q.o<=500 by omega),decide_eq_true (show 0<=q.t by omega),decide_eq_true (show q.t<n by omega)];rfl
   rw[O,Bool.true_and]at f;rw[bg (i:=j) (n:=m) (by omega) (by omega)];exact cz (x-1) (by omega) ⟨⟨by omega,by omega,E.ok y,e.trans y,(G.ok F).ok y,f⟩,(J.ok F).ok y⟩
  ·have D:=dF D;obtain rfl:m=j:=by omega
   rw[drop_eq_nil_of_le (by omega)]at f;rw[bg Y (by omega)];exact jV (n-(i+1)) (by omega) ⟨by omega,rfl,Z,W,H,K,by simpa using f⟩)
end
theorem yv{h:ae}(w:Wf h){M:bJ}(t:Small M){a:Option Addr}{n c:Nat}(r:dR h (.slice a n c) M.af):FW SS 26 [.agg ⟨bM M a n c⟩] h (λv h'=>v = .bool (db M)/\Ok h h'):=by
 obtain⟨e,p⟩:=fv w r;refine Tm (bM M a n c) h _ ⟨_,iO M a n c,?_⟩;have W:=e.len;have hn:n<=300:=by rw[W];exact t.bT
 generalize h.push (Bm M a n c)=g at*;refine⟨_,dN _,_,e.l0,(sx _ _).mono ?_⟩;rintro _ g1 ⟨rfl,eg⟩;obtain rfl:g=g1:=eg.symm;refine⟨_,rfl,aa (λm=>⟨?_,p⟩) (λm=>?_)⟩
 ·rw[not_eq_true']at m;unfold db;rw[m];simp
 rw[not_eq_false',and_eq_true]at m;have m:1<=M.kind/\M.kind<=3:=⟨dT m.1,dT m.2⟩
 refine⟨_,dO _,_,_,_,e.l3,aa (λG=>⟨?_,p⟩) (λG=>⟨_,dO _,_,_,_,e.l3,aa (λQ=>⟨?_,p⟩) (λQ=>?_)⟩)⟩
 ·have G:=dT G;unfold db;rw[decide_eq_false (show ¬1<=M.af.length by omega)];simp
 ·have Q:=dT Q;omega
 have G:=dF G;refine⟨_,wJ _,_,e.l1,aa (λD=>⟨?_,p⟩) (λD=>?_)⟩
 ·have D:=dT D;unfold db;rw[decide_eq_false (show ¬0<=M.start by omega)];simp
 have D:=dF D;refine⟨_,wJ _,_,e.l1,_,dO _,_,_,_,e.l3,aa (λE=>⟨?_,p⟩) (λE=>?_)⟩
 ·have E:=dT E;unfold db;rw[decide_eq_false (show ¬M.start<M.af.length by omega)];simp
 have E:=dF E;refine⟨_,dN _,_,e.l0,_,oX _,_,e.l2,(sY M.kind M.lead (Nat.le_trans t.lead (by decide)) p.wf).mono ?_⟩;rintro _ g2 ⟨rfl,Y⟩;have O:=p.trans Y;have U:=e.ok Y;refine⟨_,rfl,aa (λJ=>⟨?_,O⟩) (λJ=>?_)⟩
 ·rw[not_eq_true']at J;unfold db;rw[J];simp
 rw[not_eq_false']at J;have Z:db M=qq M.kind n 0 M.af:=by
  unfold db;rw[J,decide_eq_true (show 1<=M.kind by omega),decide_eq_true (show M.kind<=3 by omega),decide_eq_true (show 1<=M.af.length by omega),decide_eq_true (show M.af.length<=3000 by omega),decide_eq_true (show 0<=M.start by omega),decide_eq_true (show M.start<M.af.length by omega),W];rfl
 obtain⟨V,P⟩:∃V,V=qq M.kind n 0 M.af:=⟨_,rfl⟩
 rw[Z,<-P];refine Bj (bM M a n c) h.next (aa7 h h.next M a n c V) (bQ h V) (λS i k=>?_) n (i:=0) (acc:=0) ⟨by omega,rfl,by omega,by omega,U,O,P.symm⟩;intros;rename_i gg hi;obtain⟨f1,X,f3,f4,q,H,d⟩:=hi;refine⟨_,dO _,_,_,_,q.l3,aa (λI=>?_) (λI=>?_)⟩
 ·have I:=dT I;obtain⟨s,A⟩:∃s,M.af[i]?=some s:=⟨_,gE (by omega)⟩
  obtain⟨b,o,x,y,z,e1,e2,e3,e4,T⟩:=q.row.at_ A;obtain⟨l1,l2,l3⟩:=EA t A;have hy:=T.len;rw[iS A]at d;unfold qq at d;obtain⟨u,p1,R,K⟩:=QZ H.wf s.f x y z;refine⟨_,dO _,_,_,_,q.l3,_,e1,_,e2,_,aaa,u,p1,?_⟩;have f:=H.trans R;have L:=q.ok R;have N:=T.ok R;generalize u.app (gg.push UB)=g3 at*;have hw:wrap .i64 (k+(y:Int))=k+(s.arcs.length:Int):=by rw[hy,aF (by omega) (by omega)]
  refine⟨_,mh _ _,_,_,_,K.l1,?_⟩;dsimp only;rw[hw];refine aa (λB=>⟨?_,f⟩) (λB=>?_)
  ·have B:=dT B;rw[<-d,decide_eq_false (show ¬k+(s.arcs.length:Int)<=30000 by omega)];simp
  have B:=dF B;rw[decide_eq_true (show k+(s.arcs.length:Int)<=30000 by omega),Bool.true_and]at d;refine⟨_,qg _ _,_,K.l0,aa (λl=>?_) (λl=>?_)⟩
  ·refine⟨_,dN _,_,L.l0,_,qg _ _,_,K.l0,(sY M.kind s.f l2 f.wf).mono ?_⟩;rintro _ g4 ⟨rfl,C⟩;have l:(s.f==[])=false:=by simpa using l
   rw[l,Bool.false_or]at d;refine⟨_,rfl,aa (λF=>⟨?_,f.trans C⟩) (λF=>?_)⟩
   ·rw[not_eq_true']at F;rw[<-d,F];simp
   rw[not_eq_false']at F;rw[F,Bool.true_and]at d;exact Nh w t _ A (by omega) (by omega) (by omega) [] S X y (j:=0) ⟨⟨by omega,rfl,L.ok C,f.trans C,N.ok C,by rw[drop_zero];exact d⟩,K.ok C⟩
  ·have l:(s.f==[])=true:=by simpa using l
   rw[l,Bool.true_or,Bool.true_and]at d;exact Nh w t _ A (by omega) (by omega) (by omega) [] S X y (j:=0) ⟨⟨by omega,rfl,L,f,N,by rw[drop_zero];exact d⟩,K⟩
 ·have I:=dF I;refine⟨?_,H⟩;rw[drop_eq_nil_of_le (by omega)]at d;rw[<-d];rfl
end
section
section
variable {h:ae} {k:Nat} {M:bJ} {a:Option Addr} {n c:Nat}
def iQ(h:ae)(V:Int):VH:=λv a=>v = .int .i64 V/\Ok h a
end
end
theorem Gx(a:Option Addr)(n c:Nat):ey (.slice a n c)=true:=by cases a<;>rfl
variable{j:Nat}{h:ae}
theorem JM{l:List A}{x y:A}(h:(l.set i x)[j]?=some y):(j=i/\y=x)\/(j≠i/\l[j]?=some y):=by
 rw[List.getElem?_set]at h;split at h
 ·next e=>
  split at h
  ·exact .inl ⟨e.symm,(oI h).symm⟩
  ·cases h
 ·next e=>exact .inr ⟨λc=>e c.symm,h⟩
theorem QV(w:Wf h){n j:Nat}(a:j<n)(B:eB):Ok h (cd (Go.Ab.room h n) h.next [(j,B)])/\(cd (Go.Ab.room h n) h.next [(j,B)]).get (h.next+j)=some B:=by
 refine⟨((Ok.refl w).room n).set B (Nat.le_add_right _ _) (Nat.add_lt_add_left a _) w,?_⟩;show((Go.Ab.room h n).set (h.next+j) B).get (h.next+j)=_;rw[ae.ay,if_pos rfl]
variable{n:Nat}{T:TypeId}{m:Nat}{b:Bool}
section
noncomputable def adZ:TypeInfo:=(fE SS.P 73).getD default
theorem abu:fE SS.P 73=some adZ:=by kernel_rfl
theorem TC:adZ.size=2:=by kernel_rfl
theorem Pu:adZ.bytes=40:=by kernel_rfl
noncomputable def adY:TypeInfo:=(fE SS.P 70).getD default
theorem abt:fE SS.P 70=some adY:=by kernel_rfl
theorem TA:adY.size=4:=by kernel_rfl
theorem Pt:adY.bytes=40:=by kernel_rfl
theorem aho:eI SS.P 27=true:=by kernel_rfl
theorem ahp:eI SS.P 71=true:=by kernel_rfl
theorem agv(f:List UInt8)(a:Option Addr)(n c:Nat):aJ SS.P 27 1 [(0,.agg ⟨[strOf f,.slice a n c]⟩)]=some (.cells [strOf f,.slice a n c] 73 2 true,ph 1 1):=by cases a<;>kernel_rfl
theorem agw(q:jj):aJ SS.P 71 1 [(0,.agg ⟨gM q⟩)]=some (.cells (gM q) 70 4 true,ph 1 1):=by kernel_rfl
theorem LA(q:jj):(gM q).length=4:=rfl
structure lO(h0 h:ae)(v:Value)(ps:List (dW×Value)):Prop where
 row:gh h0 h 73 2 v (ps.map yG)
 arcs:∀(i:Nat)(p:dW×Value),ps[i]?=some p->gh h0 h 70 4 p.2 (p.1.arcs.map gM)
 ne:∀(i:Nat)(p:dW×Value),ps[i]?=some p->∀k,fN p.2=some k->fN v≠some k
 dis:∀(i j:Nat)(p q:dW×Value),i≠j->ps[i]?=some p->ps[j]?=some q->∀k,fN p.2=some k->fN q.2≠some k
section
variable {hb g g':ae} {v:Value} {ps:List (dW×Value)}
theorem lO.ok(m:lO hb g v ps)(o:Ok g g'):lO hb g' v ps:=⟨m.row.ok o,λi p a=>(m.arcs i p a).ok o,m.ne,m.dis⟩
theorem lO.nd(m:lO hb g v ps):v≠zr:=by
 obtain⟨_,⟨a,_⟩|⟨k,b,cs,c,a,_⟩⟩:=m.row
 ·rw[a];intro e;unfold zr at e;injection e with e _ _;cases e
 ·rw[a];intro e;unfold zr at e;injection e with e _ _;injection e with e;injection e with _ _ e;cases e
theorem lO.st(m:lO hb g v ps):dR g v (ps.map (·.1)):=
 ⟨ps,rfl,m.row.rd,λp b=>by
  obtain⟨i,a,e⟩:=List.mem_iff_getElem.1 b;exact(m.arcs i p (by rw[gE a,e])).rd,m.nd⟩
theorem lO.nil(hb g:ae):lO hb g (.slice none 0 0) []:=⟨gh.nil _ _ _ _,λi p a=>by simp at a,λi p a=>by simp at a,λi j p q _ a=>by simp at a⟩
theorem Ez{cs:List Value}{z:Nat}(a:g.get n=some (.cells cs T z b))(c:cs.length=m):gZ g m (.slice (some ⟨n,0,none⟩) 1 1)=some (([cs]:List (List Value)).flatten,1):=by
 show(match g.get n with|some (.cells cs ..)=>if((cs.drop 0).take (1*m)).length=1*m then some ((cs.drop 0).take (1*m),1)else none|_=>none)=_;rw[a];dsimp only;rw[drop_zero,Nat.one_mul,take_of_length_le (by omega),if_pos c];simp
theorem lO.snoc(w:Wf hb)(C:Ok hb g)(m:lO hb g v ps){f:List UInt8}{a:Option Addr}{y z:Nat}{arcs:List jj}(F:gh hb g 70 4 (.slice a y z) (arcs.map gM))(t:∀k,fN (.slice a y z)=some k->fN v≠some k/\∀(i:Nat) (p:dW×Value),ps[i]?=some p->fN p.2≠some k){H:Nat}(E:g.get H=some (.cells [strOf f,.slice a y z] 73 2 true))(Q:ps.length<=100000):
  ∃(b:Option Addr)(n c:Nat)(u:eu),bR SS.P 27 27 v (.slice (some ⟨H,0,none⟩) 1 1) g=some (.slice b n c,u)/\lO hb (u.app g) (.slice b n c) (ps++[(⟨f,arcs⟩,.slice a y z)])/\Ok hb (u.app g)/\
   (∀j B,g.get j=some B->fN v≠some j->(u.app g).get j=some B)/\(∀j,fN (.slice b n c)=some j->g.next<=j\/fN v=some j)/\g.next<=(u.app g).next:=by
 have s:(ps.map yG).length=ps.length:=lM ..;obtain⟨b,n,c,u,K,R,J,M,D,A,L⟩:=gh.add CR abu TC aho w C m.row (ns:=[[strOf f,.slice a y z]]) (Ez E rfl) (λr O=>by rw[mem_singleton.1 O];rfl) (by cases a<;>rfl) (by rw[Pu,s,List.length_singleton];omega) (by rw[s,List.length_singleton];omega) (.inl (Nat.le_refl _));refine⟨b,n,c,u,K,⟨by rw[List.map_append];exact J,λi p d=>?_,λi p d k l=>?_,λi j p q G d o k l=>?_⟩,M,D,A,L⟩
 ·rw[List.getElem?_append]at d;split at d
  ·exact(m.arcs i p d).kL λk B l x=>D k B x (m.ne i p d k l)
  ·obtain rfl:=(mem_singleton.1 (List.mem_of_getElem? d))
   exact F.kL λk B l x=>D k B x (t k l).1
 ·intro e;rw[List.getElem?_append]at d;split at d
  ·rcases A k e with h|h
   ·have:=((m.arcs i p d).lt C.wf l).1;omega
   ·exact m.ne i p d k l h
  ·obtain rfl:=(mem_singleton.1 (List.mem_of_getElem? d))
   rcases A k e with h|h
   ·have:=(F.lt C.wf l).1;omega
   ·exact(t k l).1 h
 ·rw[List.getElem?_append]at d o;split at d<;>split at o
  ·exact m.dis i j p q G d o k l
  ·obtain rfl:=(mem_singleton.1 (List.mem_of_getElem? o))
   exact λe=>(t k e).2 i p d l
  ·obtain rfl:=(mem_singleton.1 (List.mem_of_getElem? d))
   exact(t k l).2 j q o
  ·rename_i S P;have I:=(List.getElem?_eq_some_iff.1 d).1;have N:=(List.getElem?_eq_some_iff.1 o).1;simp at I N;omega
theorem UZ(w:Wf hb)(m:Ok hb g){x:Value}{a:List jj}(k:gh hb g 70 4 x (a.map gM)){q:jj}{f:Nat}(e:g.get f=some (.cells (gM q) 70 4 true))(p:a.length<=100000):
  ∃(b:Option Addr)(n c:Nat)(u:eu),bR SS.P 71 71 x (.slice (some ⟨f,0,none⟩) 1 1) g=some (.slice b n c,u)/\gh hb (u.app g) 70 4 (.slice b n c) ((a++[q]).map gM)/\Ok hb (u.app g)/\
   (∀j B,g.get j=some B->fN x≠some j->(u.app g).get j=some B)/\(∀j,fN (.slice b n c)=some j->g.next<=j\/fN x=some j)/\g.next<=(u.app g).next:=by
 have d:(a.map gM).length=a.length:=lM ..;obtain⟨b,n,c,u,i,s,h,l⟩:=gh.add Yp abt TA ahp w m k (ns:=[gM q]) (Ez e rfl) (λr o=>by rw[mem_singleton.1 o];rfl) rfl (by rw[Pt,d,List.length_singleton];omega) (by rw[d,List.length_singleton];omega) (.inl (Nat.le_refl _));exact⟨b,n,c,u,i,by rw[List.map_append];exact h,l⟩
end
end
noncomputable def ad3:FD:=dq Tryz.f70 []
theorem abB(i:Int)(h:ae)(Q:VH)(j:FW SS 69 [(.int .i64 i)] h λg h=>∃f:LV,∃e:Bool,g=(.tuple ⟨[(.agg ⟨f⟩),(.bool e)]⟩)/\xN (av SS.P 99) h λ_ d=>xU (ah SS.P 99 (pA (h.next)) (.agg ⟨f⟩) d) d λ_ c=>fP 99 (pA (h.next)) 1 λb=>lS c b λa=>Q (strOf a) c):FW SS 70 [(.int .i64 i)] h Q:=du ad3 Tryz.func70 (ai j)
noncomputable def adV:FD:=dq Tryz.f22 []
theorem abq(d:Int)(h:ae)(Q:VH)(e:FW SS 14 [(.int .i64 d)] h λb c=>yB b λa=>au (!a) (Q (strOf []) c) (au (((d:Int)==1)) (Q (strOf [48]) c) (Q (strOf [49]) c))):FW SS 22 [(.int .i64 d)] h Q:=du adV Tryz.func22 (ai e)
section
section
variable {hb g g':ae} {k off n c:Nat} {ps:List (dW×Value)}
theorem F2{ps:List (dW×Value)}(p:dW×Value):(ps.set i p).map yG=(ps.map yG).set i (yG p):=by rw[List.map_set]
theorem lO.afQ(w:Wf hb)(K:Ok hb g)(m:lO hb g (.slice (some ⟨k,off,none⟩) n c) ps){i:Nat}{p:dW×Value}(C:ps[i]?=some p)(f:List UInt8):
  ∃u:eu,ah SS.P 9 (.pointer (some ⟨k,off+i*2+0,none⟩)) (strOf f) g=some (undef,u)/\lO hb (u.app g) (.slice (some ⟨k,off,none⟩) n c) (ps.set i (⟨f,p.1.arcs⟩,p.2))/\Ok hb (u.app g)/\(∀j B,g.get j=some B->k≠j->(u.app g).get j=some B)/\(u.app g).next=g.next:=by
 obtain⟨u,H,I,F,A,M⟩:=m.row.put (e:=73) (t':=9) (by kernel_rfl) w K (i:=i) (j:=0) (r:=yG p) (by rw[List.getElem?_map,C];rfl) (by omega) (v':=strOf f) rfl rfl;have h:∀{j:Nat}{q:dW×Value},(ps.set i (⟨f,p.1.arcs⟩,p.2))[j]?=some q->∃d,ps[j]?=some d/\q.2=d.2/\q.1.arcs=d.1.arcs:=λ{j q} b=>by
  rw[List.getElem?_set]at b;split at b
  ·next e=>
   subst e;split at b
   ·obtain rfl:=oI b;exact⟨p,C,rfl,rfl⟩
   ·cases b
  ·exact⟨q,b,rfl,rfl⟩
 refine⟨u,H,⟨by rw[F2];exact I,λj q b=>?_,λj q b l a=>?_,λG N Q O z v D l a=>?_⟩,F,A,M⟩
 ·obtain⟨d,o,s,t⟩:=h b;rw[s,t];exact(m.arcs j d o).kL λl B a E=>A l B E (λe=>m.ne j d o l a (by rw[<-e];rfl))
 ·obtain⟨d,o,s,t⟩:=h b;rw[s]at a;exact m.ne j d o l a
 ·obtain⟨x,o,s,t⟩:=h v;obtain⟨y,J,L,P⟩:=h D;rw[s]at a;rw[L];exact m.dis G N x y z o J l a
theorem lO.ahe(w:Wf hb)(I:Ok hb g')(m:lO hb g (.slice (some ⟨k,off,none⟩) n c) ps){i:Nat}{p:dW×Value}(v:ps[i]?=some p)(H:∀j B,g.get j=some B->fN p.2≠some j->g'.get j=some B){b:Option Addr}{o l:Nat}{s:List jj}(Y:gh hb g' 70 4 (.slice b o l) (s.map gM))(L:∀j,fN (.slice b o l)=some j->g.next<=j\/fN p.2=some j)(J:Wf g):
  ∃u:eu,ah SS.P 71 (.pointer (some ⟨k,off+i*2+1,none⟩)) (.slice b o l) g'=some (undef,u)/\lO hb (u.app g') (.slice (some ⟨k,off,none⟩) n c) (ps.set i (⟨p.1.f,s⟩,.slice b o l))/\Ok hb (u.app g')/\(∀j B,g'.get j=some B->k≠j->(u.app g').get j=some B)/\(u.app g').next=g'.next:=by
 have P:fN p.2≠some k:=λe=>m.ne i p v k e rfl;have D:gh hb g' 73 2 (.slice (some ⟨k,off,none⟩) n c) (ps.map yG):=m.row.kL λd B a y=>H d B y (λe=>m.ne i p v d e a);obtain⟨u,U,W,R,E,h5⟩:=D.put (e:=73) (t':=71) (by kernel_rfl) w I (i:=i) (j:=1) (r:=yG p) (by rw[List.getElem?_map,v];rfl) (by omega) (v':= .slice b o l) (Gx ..) (by cases b<;>rfl);have x0:i<ps.length:=(List.getElem?_eq_some_iff.1 v).1;have C:fN (.slice b o l)≠some k:=λe=>by
  rcases L k e with h|h
  ·have:=(m.row.lt J (k:=k) rfl).1;omega
  ·exact P h
 have t:∀{j:Nat}{q:dW×Value},(ps.set i (⟨p.1.f,s⟩,.slice b o l))[j]?=some q->(j=i/\q=(⟨p.1.f,s⟩,.slice b o l))\/(j≠i/\ps[j]?=some q):=λ{j q} f=>by
  rcases JM f with⟨e,F⟩|⟨e,f⟩
  ·exact .inl ⟨e,F⟩
  ·exact .inr ⟨e,f⟩
 have z:∀{j:Nat}{q:dW×Value},j≠i->ps[j]?=some q->∀d,fN q.2=some d->fN (.slice b o l)≠some d:=λ{j q} x f d a e=>by
  rcases L d e with h|h
  ·have:=((m.arcs j q f).lt J a).1;omega
  ·exact m.dis j i q p x f v d a h
 refine⟨u,U,⟨by rw[F2];exact W,λj q f=>?_,λj q f d a=>?_,λS j2 Z T A G N d a=>?_⟩,R,E,h5⟩
 ·rcases t f with⟨rfl,rfl⟩|⟨x,f⟩
  ·exact Y.kL λd B a y=>E d B y (λe=>C (by rw[e];exact a))
  ·exact(m.arcs j q f).kL λd B a y=>E d B (H d B y (λe=>m.dis j i q p x f v d a e)) (λe=>m.ne j q f d a (by rw[<-e];rfl))
 ·rcases t f with⟨rfl,rfl⟩|⟨x,f⟩
  ·exact λe=>C (by rw[a,<-e];rfl)
  ·exact m.ne j q f d a
 ·rcases t G with⟨Q,F⟩|⟨x,O⟩<;>rcases t N with⟨V,X⟩|⟨M,K⟩
  ·exact absurd (Q.trans V.symm) A
  ·rw[F]at a;exact λe=>z M K d e a
  ·rw[X];exact z x O d a
  ·exact m.dis S j2 Z T A O K d a
theorem lO.at_(m:lO hb g (.slice (some ⟨k,off,none⟩) n c) ps){i:Nat}{p:dW×Value}(e:ps[i]?=some p):
  aD SS.P 27 (.slice (some ⟨k,off,none⟩) n c) (.int .i64 (i:Int))=some (.pointer (some ⟨k,off+i*2,none⟩))/\aj SS.P 71 g (.pointer (some ⟨k,off+i*2+1,none⟩))=some p.2/\aj SS.P 73 g (.pointer (some ⟨k,off+i*2,none⟩))=some (.agg ⟨yG p⟩):=by
 obtain⟨b,d,a⟩:=m.row.at_ CR YL (i:=i) (r:=yG p) (by rw[List.getElem?_map,e];rfl) .i64;exact⟨b,by rw[d 71 _ 1 Yp ac6 (by omega)];rfl,a _ af6 aeC⟩
end
end
variable{g:ae}{v:Value}
def lz:eB:= .cells [.int .i64 0,.int .i64 0,strOf [],.slice none 0 0] 29 0 true
theorem me:av SS.P 29=some (lz,np):=by kernel_rfl
theorem tl(M:bJ)(a:Option Addr)(n c:Nat):(bM M a n c).all ey=true:=by cases a<;>rfl
theorem lO.low{t b:ae}{s:List (dW×Value)}(m:lO g t v s)(o:Ok h g)(w:∀j B,t.get j=some B->g.next<=j->b.get j=some B):lO h b v s:=by
 have a:∀{e:TypeId}{d:Nat}{v:Value}{f:List (List Value)},gh g t e d v f->gh h b e d v f:=λ{e d v f} r=>by
  obtain⟨l,r|⟨k,n,cs,c,x,q,u,y⟩⟩:=r
  ·exact⟨l,.inl r⟩
  ·exact⟨l,.inr ⟨k,n,cs,c,x,Nat.le_trans o.nx q,w _ _ u q,y⟩⟩
 exact⟨a m.row,λi p z=>a (m.arcs i p z),m.ne,m.dis⟩
def ct(a:Int):List UInt8:=if a=1 then[48]else if a=2\/a=3 then[49]else[]
theorem adC(k:Nat):bk SS.P 99 (.pointer (some ⟨k,0,none⟩)) 1=some (.pointer (some ⟨k,1,none⟩)):=by kernel_rfl
theorem abC(a:Int){h:ae}(w:Wf h):FW SS 70 [.int .i64 a] h (λv s=>v=strOf (ct a)/\Ok h s):=by
 refine abB a h _ ((Gy a w).mono ?_);rintro _ g ⟨rfl,o⟩;have d:∀(c:List Value)(b:Bool),c.length=8->c.all ey=true->c.getD 1 undef=strOf (ct a)->∃cs:List Value,∃t:Bool,(Value.tuple ⟨[.agg ⟨c⟩,.bool b]⟩)=(.tuple ⟨[.agg ⟨cs⟩,.bool t]⟩)/\∃B:eB,av SS.P 99=some (B,np)/\∃u:eu,ah SS.P 99 (.pointer (some ⟨g.next,0,none⟩)) (.agg ⟨cs⟩) (g.push B)=some (undef,u)/\∃p:Addr,bk SS.P 99 (.pointer (some ⟨g.next,0,none⟩)) 1=some (.pointer (some p))/\∃l:List UInt8,aj SS.P 9 (u.app (g.push B)) (.pointer (some p))=some (strOf l)/\(strOf l=strOf (ct a)/\Ok h (u.app (g.push B))):=by
  intro c b n q r;have j:=aN g NT;have k:=(Ok.refl o.wf).push NT;obtain⟨x,m⟩:=qk (cs:=c) o.wf k j (Nat.le_refl _);refine⟨c,b,rfl,NT,UW,_,lR GL rfl j n q,_,adC _,ct a,?_,rfl,o.trans x⟩;rw[dp NX Ux m (by omega),r]
 unfold ofV;split
 ·next e=>exact d Bx true rfl rfl (by unfold ct;rw[if_pos e];rfl)
 ·next e=>
  split
  ·next f=>exact d By true rfl rfl (by unfold ct;rw[if_neg e,if_pos (.inl f)];rfl)
  ·next f=>
   split
   ·next i=>exact d Bz true rfl rfl (by unfold ct;rw[if_neg e,if_pos (.inr i)];rfl)
   ·next i=>exact d pT false rfl rfl (by unfold ct;rw[if_neg e,if_neg (by rintro(h|h)<;>contradiction)];rfl)
theorem Kl(a:Int)(h:ae):FW SS 22 [.int .i64 a] h (λv c=>v=strOf (ct a)/\c=h):=by
 refine abq a h _ ((sx a h).mono ?_);rintro _ g ⟨rfl,rfl⟩;refine⟨_,rfl,aa (λq=>?_) (λq=>?_)⟩
 ·refine⟨?_,rfl⟩;simp at q;unfold ct;rw[if_neg (by omega),if_neg (by omega)]
 ·simp at q;refine aa (λb=>?_) (λb=>?_)
  ·have b:a=1:=by simpa using b
   refine⟨?_,rfl⟩;unfold ct;rw[if_pos b]
  ·have b:¬a=1:=by simpa using b
   refine⟨?_,rfl⟩;unfold ct;rw[if_neg b,if_pos (by omega)]
def D3(h:ae)(R:bJ×Int):VH:=λv b=>∃(a:Option Addr)(n c:Nat)(d:List (dW×Value)),v = .tuple ⟨[.agg ⟨bM R.1 a n c⟩,.int .i64 R.2]⟩/\d.map (·.1)=R.1.af/\lO h b (.slice a n c) d/\Ok h b
def zH:bJ:=⟨0,0,[],[]⟩
theorem adp:bu SS.P 29 []=some (.agg ⟨bM zH none 0 0⟩):=by kernel_rfl
theorem Q3(w:Wf h)(o:Ok h g){k:Nat}(f:g.get k=some lz)(i:h.next<=k){R:bJ×Int}{a:Option Addr}{n c:Nat}{ps:List (dW×Value)}(e:ps.map (·.1)=R.1.af){d:ae}(q:lO d g (.slice a n c) ps)(r:Ok h d)(b:k<d.next\/ps=[]/\a=none/\n=0/\c=0):
  ∃u:eu,ah SS.P 29 (.pointer (some ⟨k,0,none⟩)) (.agg ⟨bM R.1 a n c⟩) g=some (undef,u)/\eK SS [(.pointer (some ⟨k,0,none⟩),some 29),(.int .i64 R.2,none)] (u.app g) (D3 h R):=by
 refine⟨_,lR (t:=29) xQ (cs0:=[.int .i64 0,.int .i64 0,strOf [],.slice none 0 0]) rfl f (cs:=bM R.1 a n c) rfl (tl ..),?_⟩;obtain⟨l,m⟩:=qk (cs:=bM R.1 a n c) w o f i;refine AX (v:= .agg ⟨bM R.1 a n c⟩) (sj Uk RD xQ m (by simp[bM])) ⟨a,n,c,ps,rfl,e,?_,l⟩;rcases b with b|⟨rfl,rfl,rfl,rfl⟩
 ·exact q.low r (λj B p s=>by
   show(g.set k _).get j=_;rw[ae.ay,if_neg (by omega)];exact p)
 ·exact lO.nil _ _
theorem Q8(w:Wf h){n j:Nat}(b:j<n)(o:Ok (Go.Ab.room h n) g)(B:eB):Ok h (cd g h.next [(j,B)])/\(cd g h.next [(j,B)]).get (h.next+j)=some B:=by
 have a:h.next+n<=g.next:=o.nx;refine⟨(((Ok.refl w).room n).trans o).set B (Nat.le_add_right _ _) (by omega) w,?_⟩;show(g.set (h.next+j) B).get (h.next+j)=_;rw[ae.ay,if_pos rfl]
noncomputable def Xs:FD:=dq Tryz.f103 []
theorem Te(s:Bool)(n d:LB)(h:ae)(Q:VH)(z:FW SS 136 [(strOf n)] h λx y=>yB x λw=>au (!w) (Q (.tuple ⟨[(strOf []),(.int .i64 1)]⟩) y) (FW SS 136 [(strOf d)] y λu v=>yB u λt=>au (!t) (Q (.tuple ⟨[(strOf []),(.int .i64 1)]⟩) v) (au ((d:LB)==[48]) (Q (.tuple ⟨[(strOf []),(.int .i64 1)]⟩) v) (FW SS 118 [(strOf n),(strOf d)] v λq r=>∃p:LB,∃o:Int,q=(.tuple ⟨[(strOf p),(.int .i64 o)]⟩)/\FW SS 137 [(strOf n),(strOf p)] r λl m=>∃k:LB,∃j:LB,∃i:Int,l=(.tuple ⟨[(strOf k),(strOf j),(.int .i64 i)]⟩)/\FW SS 137 [(strOf d),(strOf p)] m λg h=>∃f:LB,∃e:LB,∃d:Int,g=(.tuple ⟨[(strOf f),(strOf e),(.int .i64 d)]⟩)/\au (decide ((((k:LB).length:Int):Int)>400)) (Q (.tuple ⟨[(strOf []),(.int .i64 2)]⟩) h) (au (decide ((((f:LB).length:Int):Int)>400)) (Q (.tuple ⟨[(strOf []),(.int .i64 2)]⟩) h) (au s (au (!((k:LB)==[48])) (xS (aB SS.P .add 9 (strOf [45]) (strOf k)) λc=>au ((f:LB)==[49]) (Q (.tuple ⟨[(strOf c),(.int .i64 0)]⟩) h) (xS (aB SS.P .add 9 (strOf c) (strOf [47])) λb=>xS (aB SS.P .add 9 (strOf b) (strOf f)) λa=>Q (.tuple ⟨[(strOf a),(.int .i64 0)]⟩) h)) (au ((f:LB)==[49]) (Q (.tuple ⟨[(strOf k),(.int .i64 0)]⟩) h) (xS (aB SS.P .add 9 (strOf k) (strOf [47])) λb=>xS (aB SS.P .add 9 (strOf b) (strOf f)) λa=>Q (.tuple ⟨[(strOf a),(.int .i64 0)]⟩) h))) (au ((f:LB)==[49]) (Q (.tuple ⟨[(strOf k),(.int .i64 0)]⟩) h) (xS (aB SS.P .add 9 (strOf k) (strOf [47])) λb=>xS (aB SS.P .add 9 (strOf b) (strOf f)) λa=>Q (.tuple ⟨[(strOf a),(.int .i64 0)]⟩) h)))))))):FW SS 103 [(.bool s),(strOf n),(strOf d)] h Q:=du Xs Tryz.func103 (ai z)
noncomputable def abo:FD:=dq Tryz.f105 []
theorem Xv(a:LB)(h:ae)(Q:VH)(k:FW SS 94 [(strOf a)] h λi j=>∃h:Bool,∃g:LB,∃f:LB,∃e:Bool,i=(.tuple ⟨[(.bool h),(strOf g),(strOf f),(.bool e)]⟩)/\au (!e) (Q (.tuple ⟨[(strOf []),(.int .i64 1)]⟩) j) (FW SS 103 [(.bool (!h)),(strOf g),(strOf f)] j λc d=>∃b:LB,∃a:Int,c=(.tuple ⟨[(strOf b),(.int .i64 a)]⟩)/\Q (.tuple ⟨[(strOf b),(.int .i64 a)]⟩) d)):FW SS 105 [(strOf a)] h Q:=du abo Tryz.func105 (ai k)
noncomputable def abl:FD:=dq Tryz.f85 []
theorem Xp(a b:LB)(h:ae)(Q:VH)(B:FW SS 94 [(strOf a)] h λD C=>∃A:Bool,∃z:LB,∃y:LB,∃x:Bool,D=(.tuple ⟨[(.bool A),(strOf z),(strOf y),(.bool x)]⟩)/\FW SS 94 [(strOf b)] C λv w=>∃u:Bool,∃t:LB,∃s:LB,∃r:Bool,v=(.tuple ⟨[(.bool u),(strOf t),(strOf s),(.bool r)]⟩)/\au (!x) (Q (.tuple ⟨[(strOf []),(.int .i64 1)]⟩) w) (au (!r) (Q (.tuple ⟨[(strOf []),(.int .i64 1)]⟩) w) (FW SS 96 [(strOf z),(strOf s)] w λp q=>yS p λo=>FW SS 96 [(strOf t),(strOf y)] q λm n=>yS m λl=>FW SS 95 [(.bool A),(strOf o),(.bool u),(strOf l)] n λj k=>∃i:Bool,∃h:LB,j=(.tuple ⟨[(.bool i),(strOf h)]⟩)/\FW SS 96 [(strOf y),(strOf s)] k λf g=>yS f λe=>FW SS 103 [(.bool i),(strOf h),(strOf e)] g λc d=>∃b:LB,∃a:Int,c=(.tuple ⟨[(strOf b),(.int .i64 a)]⟩)/\Q (.tuple ⟨[(strOf b),(.int .i64 a)]⟩) d))):FW SS 85 [(strOf a),(strOf b)] h Q:=du abl Tryz.func85 (ai B)
noncomputable def abp:FD:=dq Tryz.f91 []
theorem Xx(a b:LB)(h:ae)(Q:VH)(l:FW SS 105 [(strOf b)] h λj k=>∃i:LB,∃h:Int,j=(.tuple ⟨[(strOf i),(.int .i64 h)]⟩)/\au (((h:Int) !=0)) (Q (.tuple ⟨[(strOf []),(.int .i64 1)]⟩) k) (FW SS 71 [(strOf a)] k λf g=>yB f λe=>au (!e) (Q (.tuple ⟨[(strOf []),(.int .i64 1)]⟩) g) (FW SS 85 [(strOf a),(strOf i)] g λc d=>∃b:LB,∃a:Int,c=(.tuple ⟨[(strOf b),(.int .i64 a)]⟩)/\Q (.tuple ⟨[(strOf b),(.int .i64 a)]⟩) d))):FW SS 91 [(strOf a),(strOf b)] h Q:=du abp Tryz.func91 (ai l)
noncomputable def abn:FD:=dq Tryz.f88 []
theorem Xt(a b:LB)(h:ae)(Q:VH)(w:FW SS 94 [(strOf a)] h λu v=>∃t:Bool,∃s:LB,∃r:LB,∃q:Bool,u=(.tuple ⟨[(.bool t),(strOf s),(strOf r),(.bool q)]⟩)/\FW SS 94 [(strOf b)] v λo p=>∃n:Bool,∃m:LB,∃l:LB,∃k:Bool,o=(.tuple ⟨[(.bool n),(strOf m),(strOf l),(.bool k)]⟩)/\au (!q) (Q (.tuple ⟨[(strOf []),(.int .i64 1)]⟩) p) (au (!k) (Q (.tuple ⟨[(strOf []),(.int .i64 1)]⟩) p) (FW SS 96 [(strOf s),(strOf m)] p λi j=>yS i λh=>FW SS 96 [(strOf r),(strOf l)] j λf g=>yS f λe=>FW SS 103 [(.bool (!(t==n))),(strOf h),(strOf e)] g λc d=>∃b:LB,∃a:Int,c=(.tuple ⟨[(strOf b),(.int .i64 a)]⟩)/\Q (.tuple ⟨[(strOf b),(.int .i64 a)]⟩) d))):FW SS 88 [(strOf a),(strOf b)] h Q:=du abn Tryz.func88 (ai w)
noncomputable def abm:FD:=dq Tryz.f92 []
theorem Xq(a b:LB)(h:ae)(Q:VH)(w:FW SS 94 [(strOf a)] h λu v=>∃t:Bool,∃s:LB,∃r:LB,∃q:Bool,u=(.tuple ⟨[(.bool t),(strOf s),(strOf r),(.bool q)]⟩)/\FW SS 94 [(strOf b)] v λo p=>∃n:Bool,∃m:LB,∃l:LB,∃k:Bool,o=(.tuple ⟨[(.bool n),(strOf m),(strOf l),(.bool k)]⟩)/\au (!q) (Q (.tuple ⟨[(strOf []),(.int .i64 1)]⟩) p) (au (!k) (Q (.tuple ⟨[(strOf []),(.int .i64 1)]⟩) p) (au ((m:LB)==[48]) (Q (.tuple ⟨[(strOf []),(.int .i64 4)]⟩) p) (FW SS 96 [(strOf s),(strOf l)] p λi j=>yS i λh=>FW SS 96 [(strOf r),(strOf m)] j λf g=>yS f λe=>FW SS 103 [(.bool (!(t==n))),(strOf h),(strOf e)] g λc d=>∃b:LB,∃a:Int,c=(.tuple ⟨[(strOf b),(.int .i64 a)]⟩)/\Q (.tuple ⟨[(strOf b),(.int .i64 a)]⟩) d)))):FW SS 92 [(strOf a),(strOf b)] h Q:=du abm Tryz.func92 (ai w)
noncomputable def XB:FD:=dq Tryz.f18 []
theorem Tj(d:Int)(h:ae)(Q:VH)(e:FW SS 14 [(.int .i64 d)] h λb c=>yB b λa=>au (!a) (Q (strOf []) c) (au (((d:Int)==1)) (Q (strOf [105,110,102]) c) (Q (strOf [48]) c))):FW SS 18 [(.int .i64 d)] h Q:=du XB Tryz.func18 (ai e)
noncomputable def MW:FD:=dq Tryz.f90 []
theorem Kk(a b:LB)(h:ae)(Q:VH)(d:au ((a:LB)==b) (Q (.int .i64 0) h) (au ((a:LB)==[45,105,110,102]) (Q (.int .i64 (-1)) h) (au ((b:LB)==[105,110,102]) (Q (.int .i64 (-1)) h) (au ((a:LB)==[105,110,102]) (Q (.int .i64 1) h) (au ((b:LB)==[45,105,110,102]) (Q (.int .i64 1) h) (FW SS 72 [(strOf a),(strOf b)] h λb c=>yI .i64 b λa=>Q (.int .i64 a) c)))))):FW SS 90 [(strOf a),(strOf b)] h Q:=du MW Tryz.func90 (ai d)
noncomputable def Pg:FD:=dq Tryz.f84 []
theorem MT(j:Int)(a b:LB)(h:ae)(Q:VH)(k:FW SS 47 [(.int .i64 j),(strOf a)] h λh i=>yB h λg=>au (!g) (Q (.int .i64 0) i) (FW SS 47 [(.int .i64 j),(strOf b)] i λe f=>yB e λd=>au (!d) (Q (.int .i64 0) f) (au (((j:Int)==1)) (FW SS 90 [(strOf a),(strOf b)] f λb c=>yI .i64 b λa=>Q (.int .i64 a) c) (FW SS 90 [(strOf b),(strOf a)] f λb c=>yI .i64 b λa=>Q (.int .i64 a) c)))):FW SS 84 [(.int .i64 j),(strOf a),(strOf b)] h Q:=du Pg Tryz.func84 (ai k)
noncomputable def Xz:FD:=dq Tryz.f62 []
theorem Tf(l:Int)(a b:LB)(h:ae)(Q:VH)(m:FW SS 47 [(.int .i64 l),(strOf a)] h λj k=>yB j λi=>au (!i) (Q (.tuple ⟨[(strOf []),(.int .i64 1)]⟩) k) (FW SS 47 [(.int .i64 l),(strOf b)] k λg h=>yB g λf=>au (!f) (Q (.tuple ⟨[(strOf []),(.int .i64 1)]⟩) h) (au (((l:Int) !=2)) (FW SS 84 [(.int .i64 l),(strOf b),(strOf a)] h λd e=>yI .i64 d λc=>au (decide ((c:Int)<0)) (Q (.tuple ⟨[(strOf b),(.int .i64 0)]⟩) e) (Q (.tuple ⟨[(strOf a),(.int .i64 0)]⟩) e)) (au ((a:LB)==[105,110,102]) (Q (.tuple ⟨[(strOf [105,110,102]),(.int .i64 0)]⟩) h) (au ((b:LB)==[105,110,102]) (Q (.tuple ⟨[(strOf [105,110,102]),(.int .i64 0)]⟩) h) (FW SS 85 [(strOf a),(strOf b)] h λc d=>∃b:LB,∃a:Int,c=(.tuple ⟨[(strOf b),(.int .i64 a)]⟩)/\Q (.tuple ⟨[(strOf b),(.int .i64 a)]⟩) d)))))):FW SS 62 [(.int .i64 l),(strOf a),(strOf b)] h Q:=du Xz Tryz.func62 (ai m)
noncomputable def Ti:FD:=dq Tryz.f65 []
theorem Ph(n:Int)(a b:LB)(h:ae)(Q:VH)(o:FW SS 47 [(.int .i64 n),(strOf a)] h λl m=>yB l λk=>au (!k) (Q (.tuple ⟨[(strOf []),(.int .i64 1)]⟩) m) (FW SS 47 [(.int .i64 n),(strOf b)] m λi j=>yB i λh=>au (!h) (Q (.tuple ⟨[(strOf []),(.int .i64 1)]⟩) j) (FW SS 18 [(.int .i64 n)] j λf g=>yS f λe=>au ((a:LB)==e) (Q (.tuple ⟨[(strOf e),(.int .i64 0)]⟩) g) (au ((b:LB)==e) (Q (.tuple ⟨[(strOf e),(.int .i64 0)]⟩) g) (au ((a:LB)==[105,110,102]) (Q (.tuple ⟨[(strOf [105,110,102]),(.int .i64 0)]⟩) g) (au ((b:LB)==[105,110,102]) (Q (.tuple ⟨[(strOf [105,110,102]),(.int .i64 0)]⟩) g) (au ((a:LB)==[45,105,110,102]) (Q (.tuple ⟨[(strOf [45,105,110,102]),(.int .i64 0)]⟩) g) (au ((b:LB)==[45,105,110,102]) (Q (.tuple ⟨[(strOf [45,105,110,102]),(.int .i64 0)]⟩) g) (au (((n:Int)==1)) (FW SS 85 [(strOf a),(strOf b)] g λc d=>∃b:LB,∃a:Int,c=(.tuple ⟨[(strOf b),(.int .i64 a)]⟩)/\Q (.tuple ⟨[(strOf b),(.int .i64 a)]⟩) d) (FW SS 88 [(strOf a),(strOf b)] g λc d=>∃b:LB,∃a:Int,c=(.tuple ⟨[(strOf b),(.int .i64 a)]⟩)/\Q (.tuple ⟨[(strOf b),(.int .i64 a)]⟩) d)))))))))):FW SS 65 [(.int .i64 n),(strOf a),(strOf b)] h Q:=du Ti Tryz.func65 (ai o)
noncomputable def XA:FD:=dq Tryz.f67 []
theorem Tg(r:Int)(a:LB)(h:ae)(Q:VH)(s:FW SS 47 [(.int .i64 r),(strOf a)] h λp q=>yB p λo=>au (!o) (Q (.tuple ⟨[(strOf []),(.int .i64 1)]⟩) q) (FW SS 22 [(.int .i64 r)] q λm n=>yS m λl=>au (((r:Int)==1)) (FW SS 90 [(strOf a),(strOf [48])] n λb c=>yI .i64 b λa=>au (decide ((a:Int)>=0)) (Q (.tuple ⟨[(strOf l),(.int .i64 0)]⟩) c) (Q (.tuple ⟨[(strOf [45,105,110,102]),(.int .i64 0)]⟩) c)) (au (((r:Int)==3)) (FW SS 90 [(strOf a),(strOf [49])] n λb c=>yI .i64 b λa=>au (decide ((a:Int)<=0)) (Q (.tuple ⟨[(strOf l),(.int .i64 0)]⟩) c) (Q (.tuple ⟨[(strOf [105,110,102]),(.int .i64 0)]⟩) c)) (FW SS 90 [(strOf a),(strOf [49])] n λj k=>yI .i64 j λi=>au (decide ((i:Int)>=0)) (Q (.tuple ⟨[(strOf [105,110,102]),(.int .i64 0)]⟩) k) (FW SS 91 [(strOf [49]),(strOf a)] k λg h=>∃f:LB,∃e:Int,g=(.tuple ⟨[(strOf f),(.int .i64 e)]⟩)/\au (((e:Int) !=0)) (Q (.tuple ⟨[(strOf []),(.int .i64 e)]⟩) h) (FW SS 92 [(strOf [49]),(strOf f)] h λc d=>∃b:LB,∃a:Int,c=(.tuple ⟨[(strOf b),(.int .i64 a)]⟩)/\Q (.tuple ⟨[(strOf b),(.int .i64 a)]⟩) d)))))):FW SS 67 [(.int .i64 r),(strOf a)] h Q:=du XA Tryz.func67 (ai s)
variable{s:List UInt8}{z:Int}
def Pd:Option (List UInt8)->Value
 |some l=>two l 0
 |none=>two [] 2
theorem Xe(o:Option (List UInt8)):∃l n,Pd o=two l n:=by cases o<;>exact⟨_,_,rfl⟩
def oQ(h:ae)(o:Option (List UInt8)):VH:=λv a=>v=Pd o/\Ok h a
theorem ka{o:Option (List UInt8)}(a:Ok h g):∃(l:List UInt8)(n:Int),Pd o = .tuple ⟨[strOf l,.int .i64 n]⟩/\oQ h o (.tuple ⟨[strOf l,.int .i64 n]⟩) g:=BJ (K:=λv=>oQ h o v g) (Xe o) ⟨rfl,a⟩
theorem dw{a b:List UInt8}(g:(a==b)=true):a=b:=by simpa using g
theorem cD{a b:List UInt8}(g:(a==b)=false):a≠b:=by simpa using g
theorem XL{a:List UInt8}(r:iJ a):Num.val (Num.numOf a)<10^400/\Num.val (ak a)<10^400:=⟨tT (k:=400) r.num (by decide) r.ln,tT (k:=400) r.den (by decide) r.ld⟩
theorem QO(s:Bool)(n d:Nat):dh s n d=(if s=true/\n≠0 then[45]else[])++(ag n++(if d=1 then[]else 47::ag d)):=rfl
theorem Rh{s:Bool}(h:s=true/\n≠0):[45]++(ag n++(if m=1 then[]else 47::ag m))=dh s n m:=by unfold dh;rw[if_pos h]
theorem KJ{s:Bool}(h:¬(s=true/\n≠0)):[]++(ag n++(if m=1 then[]else 47::ag m))=dh s n m:=by unfold dh;rw[if_neg h]
theorem yr(s:Bool){N D:Nat}(m:N<10^1000)(g:D<10^1000)(z:0<D){h:ae}(w:Wf h):FW SS 103 [.bool s,strOf (ag N),strOf (ag D)] h (oQ h (lY s N D)):=by
 have x:Num.valid (ag N)=true:=eM.2 m;have E:Num.valid (ag D)=true:=eM.2 g;refine Te s _ _ h _ ((dQ _ h).mono ?_);rintro _ r ⟨rfl,o⟩;obtain rfl:h=r:=o.symm;refine⟨_,rfl,aa (λe=>by rw[x]at e;cases e) (λ_=>(dQ _ h).mono ?_)⟩;rintro _ r ⟨rfl,o⟩;obtain rfl:h=r:=o.symm;refine⟨_,rfl,aa (λe=>by rw[E]at e;cases e) (λ_=>aa (λe=>?_) (λ_=>?_))⟩
 ·exact absurd (bU.1 (dw e)) (by omega)
 refine(IL _ _ h w).mono ?_;rintro _ H ⟨rfl,u⟩;rw[A1 x E,bI,bI];have C:0<Nat.gcd N D:=Nat.gcd_pos_of_pos_right N z;have v:Nat.gcd N D<=D:=Nat.gcd_le_right N z;have l:Nat.gcd N D<10^1000:=lt_of_le_of_lt v g;refine⟨_,_,rfl,(CK N (Nat.gcd N D) m l C H u.wf).mono ?_⟩;rintro _ F ⟨rfl,A⟩;refine⟨_,_,_,rfl,(CK D (Nat.gcd N D) g l C F A.wf).mono ?_⟩;rintro _ B ⟨rfl,G⟩;have j:=(u.trans A).trans G;unfold lY;have I:=(dB (n:=N/Nat.gcd N D) (k:=1000) (by omega)).2 (lt_of_le_of_lt (Nat.div_le_self _ _) m);have J:=(dB (n:=D/Nat.gcd N D) (k:=1000) (by omega)).2 (lt_of_le_of_lt (Nat.div_le_self _ _) g);generalize N/Nat.gcd N D=n at*;generalize D/Nat.gcd N D=d at*;refine⟨_,_,_,rfl,aa (λq=>?_) (λq=>aa (λb=>?_) (λb=>?_))⟩
 ·have q:=dT q;rw[if_pos (.inl (by omega))];exact⟨rfl,j⟩
 ·have b:=dT b;rw[if_pos (.inr (by omega))];exact⟨rfl,j⟩
 have q:=dF q;have b:=dF b;rw[if_neg (by omega)];have f:∀(p:List UInt8),p.length<=2000->(p++(ag n++(if d=1 then[]else 47::ag d))=dh s n d)->au (ag d==[49]) (oQ h (some (dh s n d)) (.tuple ⟨[strOf (p++ag n),.int .i64 0]⟩) B) (xS (aB SS.P .add 9 (strOf (p++ag n)) (strOf [47])) λy=>xS (aB SS.P .add 9 (strOf y) (strOf (ag d))) λt=>oQ h (some (dh s n d)) (.tuple ⟨[strOf t,.int .i64 0]⟩) B):=λp K e=>by
  refine aa (λa=>⟨?_,j⟩) (λa=>?_)
  ·rw[if_pos (eN.1 (dw a)),List.append_nil]at e;rw[<-e];rfl
  ·rw[if_neg (λc=>cD a (eN.2 c))]at e;refine⟨_,tW _ _ (by simp;omega),_,tW _ _ (by simp;omega),?_,j⟩;rw[<-e,List.append_assoc,List.append_assoc];rfl
 refine aa (λa=>aa (λi=>?_) (λi=>?_)) (λa=>?_)
 ·refine⟨_,tW _ _ (by simp;omega),f [45] (by simp) (Rh ⟨a,λc=>by rw[bU.2 c]at i;cases i⟩)⟩
 ·have:n=0:=bU.1 (by simpa using i);exact f [] (by simp) (KJ λc=>c.2 this)
 ·exact f [] (by simp) (KJ λc=>by rw[c.1]at a;cases a)
theorem Km{a:List UInt8}(r:iJ a):Num.numOf a=ag (Num.val (Num.numOf a))/\ak a=ag (Num.val (ak a)):=by
 obtain⟨n,c,_,b⟩:=di r.num;obtain⟨d,e,_,f⟩:=di r.den;exact⟨by rw[b,<-c],by rw[f,<-e]⟩
theorem ox{a:List UInt8}(h:aA a=true):a.length<=1000:=by
 have r:=ba.1 h;obtain⟨b,c⟩:=Km r;have d:=r.ln;have e:=r.ld;rw[r.txt,QO,List.length_append,List.length_append,<-b];have:(if Num.val (ak a)=1 then[]else 47::ag (Num.val (ak a))).length<=401:=by
  split
  ·simp
  ·rw[List.length_cons,<-c];omega
 have:(if Num.isNeg a=true/\Num.val (Num.numOf a)≠0 then[45]else([]:List UInt8)).length<=1:=by split<;>simp
 omega
theorem rK(h:aA s=true):mi s = .tuple ⟨[.bool (Num.isNeg s),strOf (Num.numOf s),strOf (ak s),.bool true]⟩:=by unfold mi;rw[if_pos h];rfl
theorem sk(h:n<10^800):n<10^1000:=Nat.lt_of_lt_of_le h (lG (k:=800) (m:=1000) (by decide))
theorem QX{s t:Bool}(b:n<10^800)(a:m<10^800):(dC s n t m).2<10^1000:=by
 have h:=Nat.lt_of_lt_of_le (Nat.add_lt_add b a) HX;have:(dC s n t m).2<=n+m:=by
  unfold dC;split
  ·exact Nat.le_refl _
  ·split<;>dsimp only<;>omega
 exact lt_of_le_of_lt this h
theorem Gf{a b:List UInt8}(g:aA a=true)(f:aA b=true){h:ae}(w:Wf h):FW SS 85 [strOf a,strOf b] h (oQ h (qT a b)):=by
 have d:=ba.1 g;have c:=ba.1 f;have v:=ox g;have z:=ox f;refine Xp a b h _ ((ff a (by omega) w).mono ?_);rintro _ x ⟨rfl,i⟩;rw[rK g];refine⟨_,_,_,_,rfl,(ff b (by omega) i.wf).mono ?_⟩;rintro _ r ⟨rfl,o⟩;rw[rK f];refine⟨_,_,_,_,rfl,aa (λe=>by cases e) (λ_=>aa (λe=>by cases e) (λ_=>?_))⟩;refine(gF d.num c.den d.ln c.ld o.wf).mono ?_;rintro _ A ⟨rfl,n⟩;refine⟨_,rfl,(gF c.num d.den c.ln d.ld n.wf).mono ?_⟩;rintro _ s ⟨rfl,l⟩;have p:=(dG d.num c.den d.ln c.ld).2;have j:=(dG c.num d.den c.ln d.ld).2;refine⟨_,rfl,(Gt _ _ _ _ p j l.wf).mono ?_⟩;rintro _ y ⟨rfl,m⟩;refine⟨_,_,rfl,(gF d.den c.den d.ld c.ld m.wf).mono ?_⟩;rintro _ u ⟨rfl,k⟩;refine⟨_,rfl,(yr _ (QX p j) (sk (dG d.den c.den d.ld c.ld).2) (mul_pos d.den_pos c.den_pos) k.wf).mono ?_⟩;rintro _ t ⟨rfl,q⟩;exact ka (((((i.trans o).trans n).trans l).trans m).trans (k.trans q))
theorem Xu{a b:List UInt8}(g:aA a=true)(f:aA b=true){h:ae}(w:Wf h):FW SS 88 [strOf a,strOf b] h (oQ h (B3 a b)):=by
 have d:=ba.1 g;have c:=ba.1 f;have p:=ox g;have s:=ox f;refine Xt a b h _ ((ff a (by omega) w).mono ?_);rintro _ q ⟨rfl,i⟩;rw[rK g];refine⟨_,_,_,_,rfl,(ff b (by omega) i.wf).mono ?_⟩;rintro _ n ⟨rfl,l⟩;rw[rK f];refine⟨_,_,_,_,rfl,aa (λe=>by cases e) (λ_=>aa (λe=>by cases e) (λ_=>?_))⟩;refine(gF d.num c.num d.ln c.ln l.wf).mono ?_;rintro _ t ⟨rfl,k⟩;refine⟨_,rfl,(gF d.den c.den d.ld c.ld k.wf).mono ?_⟩;rintro _ o ⟨rfl,j⟩;refine⟨_,rfl,(yr _ (sk (dG d.num c.num d.ln c.ln).2) (sk (dG d.den c.den d.ld c.ld).2) (mul_pos d.den_pos c.den_pos) j.wf).mono ?_⟩;rintro _ r ⟨rfl,m⟩;exact ka (((i.trans l).trans k).trans (j.trans m))
theorem Xr{a b:List UInt8}(g:aA a=true)(f:aA b=true)(l:Num.val (Num.numOf b)≠0){h:ae}(w:Wf h):FW SS 92 [strOf a,strOf b] h (oQ h (Jo a b)):=by
 have d:=ba.1 g;have c:=ba.1 f;have q:=ox g;have t:=ox f;refine Xq a b h _ ((ff a (by omega) w).mono ?_);rintro _ r ⟨rfl,i⟩;rw[rK g];refine⟨_,_,_,_,rfl,(ff b (by omega) i.wf).mono ?_⟩;rintro _ o ⟨rfl,m⟩;rw[rK f];refine⟨_,_,_,_,rfl,aa (λe=>by cases e) (λ_=>aa (λe=>by cases e) (λ_=>aa (λe=>?_) (λ_=>?_)))⟩
 ·exact absurd ((jt c.num).1 (dw e)) l
 refine(gF d.num c.den d.ln c.ld m.wf).mono ?_;rintro _ u ⟨rfl,k⟩;refine⟨_,rfl,(gF d.den c.num d.ld c.ln k.wf).mono ?_⟩;rintro _ p ⟨rfl,j⟩;refine⟨_,rfl,(yr _ (sk (dG d.num c.den d.ln c.ld).2) (sk (dG d.den c.num d.ld c.ln).2) (mul_pos d.den_pos (Nat.pos_of_ne_zero l)) j.wf).mono ?_⟩;rintro _ s ⟨rfl,n⟩;exact ka (((i.trans m).trans k).trans (j.trans n))
theorem Xw{a:List UInt8}(c:aA a=true){h:ae}(w:Wf h):FW SS 105 [strOf a] h (λv j=>v=two (sM a) 0/\Ok h j):=by
 have b:=ba.1 c;have p:=ox c;obtain⟨g,i⟩:=Km b;refine Xv a h _ ((ff a (by omega) w).mono ?_);rintro _ q ⟨rfl,d⟩;rw[rK c];refine⟨_,_,_,_,rfl,aa (λe=>by cases e) (λ_=>?_)⟩;have n:lY (!Num.isNeg a) (Num.val (Num.numOf a)) (Num.val (ak a))=some (sM a):=Oe (by rw[<-g];exact b.ln) (by rw[<-i];exact b.ld) b.one;have f:=yr (!Num.isNeg a) (N:=Num.val (Num.numOf a)) (D:=Num.val (ak a)) (Nat.lt_of_lt_of_le (XL b).1 (lG (k:=400) (m:=1000) (by decide))) (Nat.lt_of_lt_of_le (XL b).2 (lG (k:=400) (m:=1000) (by decide))) b.den_pos d.wf;rw[<-g,<-i,n]at f;refine f.mono ?_;rintro _ o ⟨rfl,l⟩;exact⟨_,_,rfl,rfl,d.trans l⟩
theorem Xy{a b:List UInt8}(c:aA a=true)(d:aA b=true){h:ae}(w:Wf h):FW SS 91 [strOf a,strOf b] h (oQ h (qT a (sM b))):=by
 have k:=ox c;refine Xx a b h _ ((Xw d w).mono ?_);rintro _ l ⟨rfl,f⟩;refine⟨_,_,rfl,aa (λe=>by cases e) (λ_=>(Bn a (by omega) f.wf).mono ?_)⟩;rintro _ j ⟨rfl,g⟩;refine⟨_,rfl,aa (λe=>by rw[c]at e;cases e) (λ_=>(Gf c (yb d).1 g.wf).mono ?_)⟩;rintro _ m ⟨rfl,i⟩;exact ka ((f.trans g).trans i)
theorem sG{a:List UInt8}(h:aO z a=true):a.length<=1000:=by
 unfold aO at h;rw[and_eq_true,Bool.or_eq_true,Bool.or_eq_true]at h;rcases h.2 with(h|h)|h
 ·rw[dw h];decide
 ·rw[and_eq_true]at h;rw[dw h.1];decide
 ·rw[and_eq_true]at h;exact ox h.1
theorem kW{a:List UInt8}(b:aO z a=true){h:ae}(w:Wf h):FW SS 47 [.int .i64 z,strOf a] h (λv c=>v = .bool true/\Ok h c):=by
 have d:=sG b;refine(Bo z a (by omega) w).mono ?_;rintro _ g ⟨rfl,o⟩;exact⟨congrArg Value.bool b,o⟩
theorem jM(a:1<=z/\z<=3)(h:ae):FW SS 18 [.int .i64 z] h (λv b=>v=strOf (bP z)/\b=h):=by
 refine Tj z h _ ((sx z h).mono ?_);rintro _ g ⟨rfl,rfl⟩;refine⟨_,rfl,aa (λe=>?_) (λ_=>aa (λe=>⟨?_,rfl⟩) (λe=>⟨?_,rfl⟩))⟩
 ·rw[decide_eq_true a.1,decide_eq_true a.2]at e;cases e
 ·have e:z=1:=by simpa using e
  unfold bP;rw[if_pos e]
 ·have e:¬z=1:=by simpa using e
  unfold bP;rw[if_neg e]
theorem Ai(a:1<=z/\z<=3):ct z=r6 z:=by
 unfold ct r6;by_cases e:z=1
 ·rw[if_pos e,if_pos e]
 ·rw[if_neg e,if_neg e,if_pos (by omega)]
theorem ow{a b:List UInt8}(l:a.length<=1000)(m:b.length<=1000){h:ae}(w:Wf h):FW SS 90 [strOf a,strOf b] h (λv k=>v = .int .i64 (dS a b)/\Ok h k):=by
 refine Kk a b h _ ?_;unfold dS;refine aa (λe=>⟨by rw[if_pos (dw e)],Ok.refl w⟩) (λe=>?_);rw[if_neg (cD e)];refine aa (λd=>⟨by rw[if_pos (.inl (dw d))],Ok.refl w⟩) (λd=>aa (λj=>⟨by rw[if_pos (.inr (dw j))],Ok.refl w⟩) (λj=>?_));rw[if_neg (λc=>c.elim (cD d) (cD j))];refine aa (λf=>⟨by rw[if_pos (.inl (dw f))],Ok.refl w⟩) (λf=>aa (λi=>⟨by rw[if_pos (.inr (dw i))],Ok.refl w⟩) (λi=>?_));rw[if_neg (λc=>c.elim (cD f) (cD i))];refine(Gs a b (by omega) (by omega) w).mono ?_;rintro _ g ⟨rfl,o⟩;exact⟨_,rfl,rfl,o⟩
theorem MU{a b:List UInt8}(g:aO z a=true)(d:aO z b=true){h:ae}(w:Wf h):FW SS 84 [.int .i64 z,strOf a,strOf b] h (λv j=>v = .int .i64 (Jm z a b)/\Ok h j):=by
 refine MT z a b h _ ((kW g w).mono ?_);rintro _ m ⟨rfl,f⟩;refine⟨_,rfl,aa (λe=>by cases e) (λ_=>(kW d f.wf).mono ?_)⟩;rintro _ l ⟨rfl,c⟩;unfold Jm;refine⟨_,rfl,aa (λe=>by cases e) (λ_=>aa (λe=>?_) (λe=>?_))⟩
 ·rw[if_pos (by simpa using e)];refine(ow (sG g) (sG d) c.wf).mono ?_;rintro _ k ⟨rfl,i⟩;exact⟨_,rfl,rfl,(f.trans c).trans i⟩
 ·rw[if_neg (by simpa using e)];refine(ow (sG d) (sG g) c.wf).mono ?_;rintro _ k ⟨rfl,i⟩;exact⟨_,rfl,rfl,(f.trans c).trans i⟩
theorem nt{a:List UInt8}(h:aO z a=true)(b:a≠dI)(d:z≠1\/a≠jm):aA a=true:=by
 rcases iC h with rfl|rfl|rfl
 ·rcases py.1 h with e|e|e
  ·exact absurd e b
  ·exact absurd e (d.resolve_left (λc=>c rfl))
  ·exact e
 ·exact(((jr (.inl rfl)).1 h).resolve_left b).1
 ·exact(((jr (.inr rfl)).1 h).resolve_left b).1
theorem yu{a b:List UInt8}(j:aO z a=true)(i:aO z b=true){h:ae}(w:Wf h):FW SS 62 [.int .i64 z,strOf a,strOf b] h (oQ h (fD z a b)):=by
 refine Tf z a b h _ ((kW j w).mono ?_);rintro _ o ⟨rfl,l⟩;refine⟨_,rfl,aa (λe=>by cases e) (λ_=>(kW i l.wf).mono ?_)⟩;rintro _ n ⟨rfl,k⟩;have d:=l.trans k;unfold fD;refine⟨_,rfl,aa (λe=>by cases e) (λ_=>aa (λe=>?_) (λe=>?_))⟩
 ·rw[if_pos (by simpa using e)];refine(MU i j k.wf).mono ?_;rintro _ m ⟨rfl,g⟩;refine⟨_,rfl,aa (λq=>?_) (λq=>?_)⟩
  ·rw[if_pos (dT q)];exact⟨rfl,d.trans g⟩
  ·rw[if_neg (dF q)];exact⟨rfl,d.trans g⟩
 have e:z=2:=by simpa using e
 rw[if_neg (λc=>c e)];refine aa (λq=>?_) (λq=>aa (λf=>?_) (λf=>?_))
 ·rw[if_pos (.inl (dw q))];exact⟨rfl,d⟩
 ·rw[if_pos (.inr (dw f))];exact⟨rfl,d⟩
 ·rw[if_neg (λc=>c.elim (cD q) (cD f))];refine(Gf (nt j (cD q) (.inl (by omega))) (nt i (cD f) (.inl (by omega))) k.wf).mono ?_;rintro _ m ⟨rfl,g⟩;exact ka (d.trans g)
theorem Gg{a b:List UInt8}(n:aO z a=true)(p:aO z b=true){h:ae}(w:Wf h):FW SS 65 [.int .i64 z,strOf a,strOf b] h (oQ h (cO z a b)):=by
 have x:1<=z/\z<=3:=by have:=iC n;omega
 refine Ph z a b h _ ((kW n w).mono ?_);rintro _ y ⟨rfl,r⟩;refine⟨_,rfl,aa (λe=>by cases e) (λ_=>(kW p r.wf).mono ?_)⟩;rintro _ u ⟨rfl,o⟩;have d:=r.trans o;refine⟨_,rfl,aa (λe=>by cases e) (λ_=>(jM x u).mono ?_)⟩;rintro _ A ⟨rfl,rfl⟩;unfold cO;refine⟨_,rfl,aa (λq=>?_) (λq=>aa (λl=>?_) (λl=>?_))⟩
 ·rw[if_pos (.inl (dw q))];exact⟨rfl,d⟩
 ·rw[if_pos (.inr (dw l))];exact⟨rfl,d⟩
 rw[if_neg (λc=>c.elim (cD q) (cD l))];refine aa (λf=>?_) (λf=>aa (λi=>?_) (λi=>?_))
 ·rw[if_pos (.inl (dw f))];exact⟨rfl,d⟩
 ·rw[if_pos (.inr (dw i))];exact⟨rfl,d⟩
 rw[if_neg (λc=>c.elim (cD f) (cD i))];refine aa (λj=>?_) (λj=>aa (λg=>?_) (λg=>?_))
 ·rw[if_pos (.inl (dw j))];exact⟨rfl,d⟩
 ·rw[if_pos (.inr (dw g))];exact⟨rfl,d⟩
 rw[if_neg (λc=>c.elim (cD j) (cD g))];have t:=nt n (cD f) (.inr (cD j));have s:=nt p (cD i) (.inr (cD g));refine aa (λk=>?_) (λk=>?_)
 ·rw[if_pos (by simpa using k)];refine(Gf t s o.wf).mono ?_;rintro _ v ⟨rfl,m⟩;exact ka (d.trans m)
 ·rw[if_neg (by simpa using k)];refine(Xu t s o.wf).mono ?_;rintro _ v ⟨rfl,m⟩;exact ka (d.trans m)
theorem Th{a:List UInt8}(j:aO z a=true){h:ae}(w:Wf h):FW SS 67 [.int .i64 z,strOf a] h (oQ h (nW z a)):=by
 have x:1<=z/\z<=3:=by have:=iC j;omega
 have n:=sG j;refine Tg z a h _ ((kW j w).mono ?_);rintro _ A ⟨rfl,b⟩;refine⟨_,rfl,aa (λe=>by cases e) (λ_=>(Kl z A).mono ?_)⟩;rintro _ B ⟨rfl,rfl⟩;rw[Ai x];unfold nW;refine⟨_,rfl,aa (λe=>?_) (λe=>aa (λg=>?_) (λg=>?_))⟩
 ·have e:z=1:=by simpa using e
  rw[if_pos e];refine(ow n (by simp) b.wf).mono ?_;rintro _ s ⟨rfl,f⟩;refine⟨_,rfl,aa (λq=>?_) (λq=>?_)⟩
  ·rw[if_pos (dT q)];exact⟨by unfold r6;rw[if_pos e];rfl,b.trans f⟩
  ·rw[if_neg (dF q)];exact⟨rfl,b.trans f⟩
 ·have e:¬z=1:=by simpa using e
  have g:z=3:=by simpa using g
  rw[if_neg e,if_pos g];refine(ow n (by simp) b.wf).mono ?_;rintro _ s ⟨rfl,f⟩;refine⟨_,rfl,aa (λq=>?_) (λq=>?_)⟩
  ·rw[if_pos (dT q)];exact⟨by unfold r6;rw[if_neg e];rfl,b.trans f⟩
  ·rw[if_neg (dF q)];exact⟨rfl,b.trans f⟩
 ·have e:¬z=1:=by simpa using e
  have g:¬z=3:=by simpa using g
  have E:z=2:=by omega
  rw[if_neg e,if_neg g];refine(ow n (by simp) b.wf).mono ?_;rintro _ s ⟨rfl,f⟩;have l:=b.trans f;refine⟨_,rfl,aa (λq=>?_) (λq=>?_)⟩
  ·rw[if_pos (dT q)];exact⟨rfl,l⟩
  have q:=dF q;rw[if_neg q];have u:a≠dI:=λc=>q (by rw[c];decide);have i:=nt j u (.inl e);refine(Xy gH i f.wf).mono ?_;rintro _ D ⟨rfl,p⟩;have m:=l.trans p
  cases t:qT [49] (sM a)with
  |none=>exact⟨_,_,rfl,aa (λ_=>⟨rfl,m⟩) (λc=>by cases c)⟩
  | some d=>
   obtain⟨r,o⟩:=pK gH (yb i).1 t;rw[(yb i).2,ng]at o;have C:br a<1:=by
    have:=(B1 i gH)
    rw[ng]at this;exact Rat.not_le.1 λc=>q (this.2 c)
   have y:Num.val (Num.numOf d)≠0:=λc=>by
    have k:=(ba.1 r).Ah;rw[c,tN]at k;have k:=Rat.num_eq_zero.1 k;rw[o]at k
    grind
   refine⟨_,_,rfl,aa (λc=>by cases c) (λ_=>(Xr gH r y p.wf).mono ?_)⟩;rintro _ F ⟨rfl,v⟩;exact ka (m.trans v)
variable{c:List Value}{d:List Value}{k:Nat}
noncomputable def WW:FD:=dq Tryz.f190 []
theorem SX(a b:LB)(h:ae)(Q:VH)(E:FW SS 171 [(strOf a)] h λw x=>yB w λv=>au (!v) (Q (.tuple ⟨[(strOf []),(strOf []),(.int .i64 1)]⟩) x) (FW SS 171 [(strOf b)] x λt u=>yB t λs=>au (!s) (Q (.tuple ⟨[(strOf []),(strOf []),(.int .i64 1)]⟩) u) (au ((b:LB)==[48]) (Q (.tuple ⟨[(strOf []),(strOf []),(.int .i64 4)]⟩) u) (FW SS 172 [(strOf a)] u λq r=>yL q λn o p=>FW SS 172 [(strOf b)] r λl m=>yL l λi j k=>FW SS 189 [(.slice n o p),(.slice i j k)] m λg h=>∃(C:OA) (D y:Nat),∃(z:OA) (A B:Nat),g=(.tuple ⟨[(.slice C D y),(.slice z A B)]⟩)/\FW SS 187 [(.slice C D y)] h λe f=>yS e λd=>FW SS 187 [(.slice z A B)] f λb c=>yS b λa=>Q (.tuple ⟨[(strOf d),(strOf a),(.int .i64 0)]⟩) c)))):FW SS 190 [(strOf a),(strOf b)] h Q:=du WW Tryz.func190 (ai E)
noncomputable def XI:FD:=dq Tryz.f176 []
theorem Tx(a b:LB)(h:ae)(Q:VH)(i:FW SS 190 [(strOf a),(strOf b)] h λg h=>∃f:LB,∃e:LB,∃d:Int,g=(.tuple ⟨[(strOf f),(strOf e),(.int .i64 d)]⟩)/\FW SS 142 [(strOf f),(.int .i64 d)] h λb c=>yS b λa=>Q (strOf a) c):FW SS 176 [(strOf a),(strOf b)] h Q:=du XI Tryz.func176 (ai i)
noncomputable def XJ:FD:=dq Tryz.f144 []
theorem Ty(s:Bool)(a b:LB)(h:ae)(Q:VH)(z:xN (av SS.P 155) h λ_ y=>FW SS 175 [(strOf a),(strOf b)] y λw x=>∃v:LB,∃u:Int,w=(.tuple ⟨[(strOf v),(.int .i64 u)]⟩)/\FW SS 142 [(strOf v),(.int .i64 u)] x λr t=>yS r λq=>au s (FW SS 176 [(strOf a),(strOf q)] t λo p=>yS o λn=>FW SS 176 [(strOf b),(strOf q)] p λl m=>yS l λk=>xA (bu SS.P 155 [(0,(.bool (!((a:LB)==[48])))),(1,(strOf n)),(2,(strOf k))]) λj=>xN (av SS.P 155) m λ_ i=>xU (ah SS.P 155 (pA (m.next)) (.agg ⟨j⟩) i) i λ_ g=>fP 155 (pA (m.next)) 1 λf=>lS g f λe=>au (decide ((((e:LB).length:Int):Int)>400)) (xA (bu SS.P 176 []) λ_=>False) (fP 155 (pA (m.next)) 2 λd=>lS g d λc=>au (decide ((((c:LB).length:Int):Int)>400)) (xA (bu SS.P 176 []) λ_=>False) (lA 155 g (pA (m.next)) λb=>xU (ah SS.P 155 (pA (h.next)) (.agg ⟨b⟩) g) g λ_ a=>eK SS [((pA (h.next)),some 155)] a Q))) (FW SS 176 [(strOf a),(strOf q)] t λo p=>yS o λn=>FW SS 176 [(strOf b),(strOf q)] p λl m=>yS l λk=>xA (bu SS.P 155 [(0,(.bool false)),(1,(strOf n)),(2,(strOf k))]) λj=>xN (av SS.P 155) m λ_ i=>xU (ah SS.P 155 (pA (m.next)) (.agg ⟨j⟩) i) i λ_ g=>fP 155 (pA (m.next)) 1 λf=>lS g f λe=>au (decide ((((e:LB).length:Int):Int)>400)) (xA (bu SS.P 176 []) λ_=>False) (fP 155 (pA (m.next)) 2 λd=>lS g d λc=>au (decide ((((c:LB).length:Int):Int)>400)) (xA (bu SS.P 176 []) λ_=>False) (lA 155 g (pA (m.next)) λb=>xU (ah SS.P 155 (pA (h.next)) (.agg ⟨b⟩) g) g λ_ a=>eK SS [((pA (h.next)),some 155)] a Q)))):FW SS 144 [(.bool s),(strOf a),(strOf b)] h Q:=du XJ Tryz.func144 (ai z)
noncomputable def S5:FD:=dq Tryz.f184 []
theorem O6(s:Bool)(a b:LB)(h:ae)(Q:VH)(n:xN (fu SS.P 155 (.agg ⟨[(.bool s),(strOf a),(strOf b)]⟩)) h λ_ m=>fP 155 (pA (h.next)) 1 λl=>lS m l λk=>fP 155 (pA (h.next)) 0 λj=>lB m j λi=>au i (xS (aB SS.P .add 9 (strOf [45]) (strOf k)) λg=>fP 155 (pA (h.next)) 2 λf=>lS m f λe=>au (!((e:LB)==[49])) (fP 155 (pA (h.next)) 2 λd=>lS m d λc=>xS (aB SS.P .add 9 (strOf [47]) (strOf c)) λb=>xS (aB SS.P .add 9 (strOf g) (strOf b)) λa=>Q (strOf a) m) (Q (strOf g) m)) (fP 155 (pA (h.next)) 2 λf=>lS m f λe=>au (!((e:LB)==[49])) (fP 155 (pA (h.next)) 2 λd=>lS m d λc=>xS (aB SS.P .add 9 (strOf [47]) (strOf c)) λb=>xS (aB SS.P .add 9 (strOf k) (strOf b)) λa=>Q (strOf a) m) (Q (strOf k) m))):FW SS 184 [(.agg ⟨[(.bool s),(strOf a),(strOf b)]⟩)] h Q:=du S5 Tryz.func184 (ai n)
noncomputable def Tr:FD:=dq Tryz.f139 []
theorem Pn(a b:LB)(g:Nat)(s t:LV)(h:ae)(Q:VH)(u:xN (fu SS.P 158 (.func (.func g) ⟨s⟩ ⟨t⟩)) h λ_ r=>FW SS 145 [(strOf a)] r λp q=>∃o:LV,∃n:Bool,p=(.tuple ⟨[(.agg ⟨o⟩),(.bool n)]⟩)/\xN (av SS.P 155) q λ_ m=>xU (ah SS.P 155 (pA (q.next)) (.agg ⟨o⟩) m) m λ_ l=>FW SS 145 [(strOf b)] l λj k=>∃i:LV,∃g:Bool,j=(.tuple ⟨[(.agg ⟨i⟩),(.bool g)]⟩)/\xN (av SS.P 155) k λ_ f=>xU (ah SS.P 155 (pA (k.next)) (.agg ⟨i⟩) f) f λ_ e=>au (!n) (Q (.tuple ⟨[(strOf []),(.int .i64 1)]⟩) e) (au (!g) (Q (.tuple ⟨[(strOf []),(.int .i64 1)]⟩) e) (FW SS 166 [(.func (.func 167) ⟨[]⟩ ⟨[(pA (h.next)),(pA (q.next)),(pA (k.next))]⟩)] e λc d=>∃b:LB,∃a:Int,c=(.tuple ⟨[(strOf b),(.int .i64 a)]⟩)/\Q (.tuple ⟨[(strOf b),(.int .i64 a)]⟩) d))):FW SS 139 [(strOf a),(strOf b),(.func (.func g) ⟨s⟩ ⟨t⟩)] h Q:=du Tr Tryz.func139 (ai u)
noncomputable def Pm:FD:=dq Tryz.f167 []
theorem MX(m l n:Nat)(h:ae)(Q:VH)(o:xN (av SS.P 155) h λ_ k=>xF (aj SS.P 158 k (pA m)) λg i j=>lA 155 k (pA l) λf=>lA 155 k (pA n) λe=>au (Nat.blt g YB) (FW SS g (i++[(.agg ⟨f⟩),(.agg ⟨e⟩)]++j) k λc d=>yA c λb=>xU (ah SS.P 155 (pA (h.next)) (.agg ⟨b⟩) d) d λ_ a=>eK SS [((pA (h.next)),some 155)] a Q) False):FW SS 167 [(pA m),(pA l),(pA n)] h Q:=du Pm Tryz.func167 (ai o)
noncomputable def XF:FD:=dq Tryz.f107 []
theorem To(a b:LB)(h:ae)(Q:VH)(e:FW SS 139 [(strOf a),(strOf b),(.func (.func 140) ⟨[]⟩ ⟨[]⟩)] h λc d=>∃b:LB,∃a:Int,c=(.tuple ⟨[(strOf b),(.int .i64 a)]⟩)/\Q (.tuple ⟨[(strOf b),(.int .i64 a)]⟩) d):FW SS 107 [(strOf a),(strOf b)] h Q:=du XF Tryz.func107 (ai e)
noncomputable def Tn:FD:=dq Tryz.f140 []
theorem Pk(s t:Bool)(a b c d:LB)(h:ae)(Q:VH)(S:xN (fu SS.P 155 (.agg ⟨[(.bool s),(strOf a),(strOf b)]⟩)) h λ_ F=>xN (fu SS.P 155 (.agg ⟨[(.bool t),(strOf c),(strOf d)]⟩)) F λ_ K=>xN (av SS.P 155) K λ_ E=>fP 155 (pA (h.next)) 0 λH=>lB (room E 26) H λA=>fP 155 (pA (h.next)) 1 λX=>lS (room E 26) X λU=>fP 155 (pA (F.next)) 2 λT=>lS (room E 26) T λP=>FW SS 143 [(strOf U),(strOf P)] (room E 26) λW J=>∃O:LB,∃N:Int,W=(.tuple ⟨[(strOf O),(.int .i64 N)]⟩)/\FW SS 142 [(strOf O),(.int .i64 N)] J λV G=>yS V λR=>fP 155 (pA (F.next)) 0 λI=>lB G I λB=>fP 155 (pA (F.next)) 1 λL=>lS G L λC=>fP 155 (pA (h.next)) 2 λM=>lS G M λD=>FW SS 143 [(strOf C),(strOf D)] G λy z=>∃x:LB,∃w:Int,y=(.tuple ⟨[(strOf x),(.int .i64 w)]⟩)/\FW SS 142 [(strOf x),(.int .i64 w)] z λu v=>yS u λt=>FW SS 141 [(.bool A),(strOf R),(.bool B),(strOf t)] v λr s=>∃q:Bool,∃p:LB,r=(.tuple ⟨[(.bool q),(strOf p)]⟩)/\(aj SS.P 4 J (.pointer (some H))=some (.bool A)/\dV 4 (.bool A) (.bool A)=true)/\(aj SS.P 4 G (.pointer (some H))=some (.bool A)/\dV 4 (.bool A) (.bool A)=true)/\(aj SS.P 4 z (.pointer (some H))=some (.bool A)/\dV 4 (.bool A) (.bool A)=true)/\(aj SS.P 4 v (.pointer (some H))=some (.bool A)/\dV 4 (.bool A) (.bool A)=true)/\(aj SS.P 4 (room E 26) (.pointer (some I))=some (.bool B)/\dV 4 (.bool B) (.bool B)=true)/\(aj SS.P 4 J (.pointer (some I))=some (.bool B)/\dV 4 (.bool B) (.bool B)=true)/\(aj SS.P 4 z (.pointer (some I))=some (.bool B)/\dV 4 (.bool B) (.bool B)=true)/\(aj SS.P 4 v (.pointer (some I))=some (.bool B)/\dV 4 (.bool B) (.bool B)=true)/\(aj SS.P 9 (room E 26) (.pointer (some L))=some (strOf C)/\dV 4 (strOf C) (strOf C)=true)/\(aj SS.P 9 J (.pointer (some L))=some (strOf C)/\dV 4 (strOf C) (strOf C)=true)/\(aj SS.P 9 (room E 26) (.pointer (some M))=some (strOf D)/\dV 4 (strOf D) (strOf D)=true)/\(aj SS.P 9 J (.pointer (some M))=some (strOf D)/\dV 4 (strOf D) (strOf D)=true)/\fP 155 (pA (h.next)) 2 λo=>lS s o λn=>fP 155 (pA (F.next)) 2 λm=>lS s m λl=>FW SS 143 [(strOf n),(strOf l)] s λj k=>∃i:LB,∃h:Int,j=(.tuple ⟨[(strOf i),(.int .i64 h)]⟩)/\FW SS 142 [(strOf i),(.int .i64 h)] k λf g=>yS f λe=>FW SS 144 [(.bool q),(strOf p),(strOf e)] g λc d=>yA c λb=>xU (ah SS.P 155 (pA (K.next)) (.agg ⟨b⟩) d) d λ_ a=>eK SS [((pA (K.next)),some 155)] a Q):FW SS 140 [(.agg ⟨[(.bool s),(strOf a),(strOf b)]⟩),(.agg ⟨[(.bool t),(strOf c),(strOf d)]⟩)] h Q:=du Tn Tryz.func140 (ai S)
noncomputable def XH:FD:=dq Tryz.f111 []
theorem Tt(a b:LB)(h:ae)(Q:VH)(e:FW SS 139 [(strOf a),(strOf b),(.func (.func 146) ⟨[]⟩ ⟨[]⟩)] h λc d=>∃b:LB,∃a:Int,c=(.tuple ⟨[(strOf b),(.int .i64 a)]⟩)/\Q (.tuple ⟨[(strOf b),(.int .i64 a)]⟩) d):FW SS 111 [(strOf a),(strOf b)] h Q:=du XH Tryz.func111 (ai e)
noncomputable def Ts:FD:=dq Tryz.f146 []
theorem Po(s t:Bool)(a b c d:LB)(h:ae)(Q:VH)(H:xN (fu SS.P 155 (.agg ⟨[(.bool s),(strOf a),(strOf b)]⟩)) h λ_ F=>xN (fu SS.P 155 (.agg ⟨[(.bool t),(strOf c),(strOf d)]⟩)) F λ_ G=>xN (av SS.P 155) G λ_ C=>fP 155 (pA (h.next)) 0 λD=>lB (room C 23) D λB=>fP 155 (pA (F.next)) 0 λE=>lB (room C 23) E λA=>fP 155 (pA (h.next)) 1 λz=>lS (room C 23) z λy=>fP 155 (pA (F.next)) 1 λx=>lS (room C 23) x λw=>FW SS 143 [(strOf y),(strOf w)] (room C 23) λu v=>∃t:LB,∃s:Int,u=(.tuple ⟨[(strOf t),(.int .i64 s)]⟩)/\FW SS 142 [(strOf t),(.int .i64 s)] v λq r=>yS q λp=>fP 155 (pA (h.next)) 2 λo=>lS r o λn=>fP 155 (pA (F.next)) 2 λm=>lS r m λl=>FW SS 143 [(strOf n),(strOf l)] r λj k=>∃i:LB,∃h:Int,j=(.tuple ⟨[(strOf i),(.int .i64 h)]⟩)/\FW SS 142 [(strOf i),(.int .i64 h)] k λf g=>yS f λe=>FW SS 144 [(.bool (!(B==A))),(strOf p),(strOf e)] g λc d=>yA c λb=>xU (ah SS.P 155 (pA (G.next)) (.agg ⟨b⟩) d) d λ_ a=>(aj SS.P 4 v (.pointer (some D))=some (.bool B)/\dV 4 (.bool B) (.bool B)=true)/\(aj SS.P 4 r (.pointer (some D))=some (.bool B)/\dV 4 (.bool B) (.bool B)=true)/\(aj SS.P 4 k (.pointer (some D))=some (.bool B)/\dV 4 (.bool B) (.bool B)=true)/\(aj SS.P 4 g (.pointer (some D))=some (.bool B)/\dV 4 (.bool B) (.bool B)=true)/\(aj SS.P 4 v (.pointer (some E))=some (.bool A)/\dV 4 (.bool A) (.bool A)=true)/\(aj SS.P 4 r (.pointer (some E))=some (.bool A)/\dV 4 (.bool A) (.bool A)=true)/\(aj SS.P 4 k (.pointer (some E))=some (.bool A)/\dV 4 (.bool A) (.bool A)=true)/\(aj SS.P 4 g (.pointer (some E))=some (.bool A)/\dV 4 (.bool A) (.bool A)=true)/\(aj SS.P 9 (room C 23) (.pointer (some o))=some (strOf n)/\dV 4 (strOf n) (strOf n)=true)/\(aj SS.P 9 v (.pointer (some o))=some (strOf n)/\dV 4 (strOf n) (strOf n)=true)/\(aj SS.P 9 (room C 23) (.pointer (some m))=some (strOf l)/\dV 4 (strOf l) (strOf l)=true)/\(aj SS.P 9 v (.pointer (some m))=some (strOf l)/\dV 4 (strOf l) (strOf l)=true)/\eK SS [((pA (G.next)),some 155)] a Q):FW SS 146 [(.agg ⟨[(.bool s),(strOf a),(strOf b)]⟩),(.agg ⟨[(.bool t),(strOf c),(strOf d)]⟩)] h Q:=du Ts Tryz.func146 (ai H)
noncomputable def Yn:FD:=dq Tryz.f113 []
theorem T1(a:LB)(h:ae)(Q:VH)(g:FW SS 109 [(strOf a)] h λe f=>yB e λd=>au d (FW SS 149 [(strOf a),(strOf [48])] f λb c=>yI .i64 b λa=>Q (.bool (decide ((a:Int)>=0))) c) (Q (.bool false) f)):FW SS 113 [(strOf a)] h Q:=du Yn Tryz.func113 (ai g)
noncomputable def abz:FD:=dq Tryz.f104 []
theorem XX(r:LV)(a:LB)(h:ae)(Q:VH)(l:xN (fu SS.P 99 (.agg ⟨r⟩)) h λ_ k=>au ((a:LB)==[105,110,102]) (Q (.bool true) k) (au ((a:LB)==[45,105,110,102]) (fP 99 (pA (h.next)) 2 λj=>lB k j λi=>au i (Q (.bool true) k) (fP 99 (pA (h.next)) 6 λg=>xF (aj SS.P 97 k (.pointer (some g))) λd e f=>au (Nat.blt d YB) (FW SS d (e++[(strOf a)]++f) k λb c=>yB b λa=>Q (.bool a) c) False)) (fP 99 (pA (h.next)) 6 λg=>xF (aj SS.P 97 k (.pointer (some g))) λd e f=>au (Nat.blt d YB) (FW SS d (e++[(strOf a)]++f) k λb c=>yB b λa=>Q (.bool a) c) False))):FW SS 104 [(.agg ⟨r⟩),(strOf a)] h Q:=du abz Tryz.func104 (ai l)
noncomputable def nq:FD:=dq Tryz.f86 [([1,1,1,0,1,0,0],[1,2,8,33,34])]
abbrev lT(a b:LB)(k:Nat)(c:LV)(i:Nat):LV:=[(strOf a),(strOf b),(pA k),(.agg ⟨c⟩),(iA i)]
theorem No(t:Int)(a b:LB)(h:ae)(Q:VH)(u:FW SS 69 [(.int .i64 t)] h λr s=>∃q:LV,∃p:Bool,r=(.tuple ⟨[(.agg ⟨q⟩),(.bool p)]⟩)/\xN (av SS.P 99) s λ_ o=>xU (ah SS.P 99 (pA (s.next)) (.agg ⟨q⟩) o) o λ_ n=>au (!p) (Q (.tuple ⟨[(strOf []),(.int .i64 1)]⟩) n) (lA 99 n (pA (s.next)) λm=>FW SS 104 [(.agg ⟨m⟩),(strOf a)] n λk l=>yB k λj=>au (!j) (Q (.tuple ⟨[(strOf []),(.int .i64 1)]⟩) l) (lA 99 l (pA (s.next)) λi=>FW SS 104 [(.agg ⟨i⟩),(strOf b)] l λg h=>yB g λf=>au (!f) (Q (.tuple ⟨[(strOf []),(.int .i64 1)]⟩) h) (fP 99 (pA (s.next)) 0 λe=>lS h e λd=>xA (bu SS.P 131 [(0,(strOf d)),(1,(strOf [105,110,102])),(2,(strOf [45,105,110,102]))]) λc=>LL SS nq [1,1,1,0,1,0,0] (lT a b (s.next) c 0) h (KK SS nq [1,1,1,0,1,0] [] (EE SS nq Q)))))):FW SS 86 [(.int .i64 t),(strOf a),(strOf b)] h Q:=du nq Tryz.func86 (ai u)
theorem zg(p:Int)(a b:LB)(k:Nat)(m:LV)(l:Nat->Nat->ae->Prop)(Q:VH)(step:∀(j:Nat) (i:Nat) (o:Nat->Value) (h:ae),l j i h->au (decide (((i:Int):Int)<3)) (xS (bZ SS.P 131 (.agg ⟨m⟩) (iA i)) λc=>au ((a:LB)==c) (Q (.tuple ⟨[(strOf c),(.int .i64 0)]⟩) h) (au ((b:LB)==c) (Q (.tuple ⟨[(strOf c),(.int .i64 0)]⟩) h) (aM (gp (lT a b k m) l) j [(strOf a),(strOf b),(pA k),(.agg ⟨m⟩),(.int .i64 (wrap .i64 ((i:Int)+1)))] h))) (fP 99 (pA k) 4 λi=>xF (aj SS.P 95 h (.pointer (some i))) λe f g=>au (Nat.blt e YB) (FW SS e (f++[(strOf a),(strOf b)]++g) h λc d=>∃b:LB,∃a:Int,c=(.tuple ⟨[(strOf b),(.int .i64 a)]⟩)/\Q (.tuple ⟨[(strOf b),(.int .i64 a)]⟩) d) False))(j:Nat){i:Nat}{h:ae}(n:l j i h):LL SS nq [1,1,1,0,1,0,0] (lT a b k m i) h (KK SS nq [1,1,1,0,1,0] [] (EE SS nq Q)):=
 dJ (lT a b k m) l (λj i o h n=>ai (step j i o h n)) j n
noncomputable def DK:FD:=dq Tryz.f166 []
theorem acf{Q:fB}(e:xN (av SS.P 9) h λ_ b=>xN (av SS.P 30) b λ_ a=>Q .normal (uN [(.func (.func n) ⟨c⟩ ⟨d⟩),undef,(pA (h.next)),(pA (b.next))] 7) a):TT SS DK [0] (uN [(.func (.func n) ⟨c⟩ ⟨d⟩)] 10) h Q:=ai e
theorem acg{g:LV}{j:Value}{Q:fB}(l:au (Nat.blt n YB) (FW SS n (d++[]++g) h λh i=>yA h λf=>FW SS 184 [(.agg ⟨f⟩)] i λo e=>yS o λc=>xU (ah SS.P 9 (pA m) (strOf c) e) e λ_ b=>xU (ah SS.P 30 (pA k) (.int .i64 0) b) b λ_ a=>Q .ret [(.func (.func n) ⟨d⟩ ⟨g⟩),undef,(pA m),(pA k),(.func (.func 184) ⟨[(.agg ⟨f⟩)]⟩ ⟨[]⟩),j,(.func (.func n) ⟨d⟩ ⟨g⟩),(.agg ⟨f⟩),(.func (.func 184) ⟨[(.agg ⟨f⟩)]⟩ ⟨[]⟩),(.func (.func 184) ⟨[(.agg ⟨f⟩)]⟩ ⟨[]⟩),(strOf c)] a) False):TT SS DK [1,1] [(.func (.func n) ⟨d⟩ ⟨g⟩),undef,(pA m),(pA k),undef,j,undef,undef,undef,undef,undef] h Q:=ai l
theorem SY(c:n<10^1000)(k:m<10^1000)(y:0<m){h:ae}(p:qJ h)(w:Wf h):FW SS 190 [strOf (ag n),strOf (ag m)] h (λv x=>v=three (ag (n/m)) (ag (n%m)) 0/\Ok h x):=by
 have l:Num.valid (ag n)=true:=eM.2 c;have t:Num.valid (ag m)=true:=eM.2 k;refine SX _ _ h _ ((eo _ h).mono ?_);rintro _ i ⟨rfl,g⟩;obtain rfl:h=i:=g.symm;refine⟨_,rfl,aa (λe=>by rw[l]at e;cases e) (λ_=>(eo _ h).mono ?_)⟩;rintro _ i ⟨rfl,g⟩;obtain rfl:h=i:=g.symm;refine⟨_,rfl,aa (λe=>by rw[t]at e;cases e) (λ_=>aa (λe=>?_) (λ_=>?_))⟩
 ·exact absurd (bU.1 (dw e)) (by omega)
 refine(mq l w).mono ?_;rintro _ H ⟨R,B,M,rfl,j,d⟩;refine⟨_,_,_,rfl,(mq t d.wf).mono ?_⟩;rintro _ I ⟨D,C,Q,rfl,q,a⟩;rw[bI]at j q;have L:=ji c;have U:=ji k;have P:=ji (lt_of_le_of_lt (Nat.div_le_self n m) c);have F:=ji (lt_of_le_of_lt (Nat.mod_le n m) c);refine⟨_,_,_,rfl,(A9 (j.rd.ok a) q.rd y (by omega) (by omega) a.wf).mono ?_⟩;rintro _ E ⟨J,A,N,K,S,G,rfl,u,z,f⟩;have s:=(d.trans a).trans f;refine⟨_,_,_,_,_,_,rfl,(rH u (by omega) (p.ok s) f.wf).mono ?_⟩;rintro _ O ⟨rfl,b⟩;have o:=s.trans b;refine⟨_,rfl,(rH (z.ok b) (by omega) (p.ok o) b.wf).mono ?_⟩;rintro _ T ⟨rfl,r⟩;exact⟨_,rfl,rfl,o.trans r⟩
theorem IG(d:n<10^1000)(c:m<10^1000)(g:0<m){h:ae}(f:qJ h)(w:Wf h):FW SS 176 [strOf (ag n),strOf (ag m)] h (λv e=>v=strOf (ag (n/m))/\Ok h e):=by
 refine Tx _ _ h _ ((SY d c g f w).mono ?_);rintro _ i ⟨rfl,a⟩;refine⟨_,_,_,rfl,(gn _ _).mono ?_⟩;rintro _ b ⟨rfl,j⟩;obtain rfl:i=b:=j.symm;exact⟨_,rfl,rfl,a⟩
theorem Et{cs0:List Value}(w:Wf h)(e:cs0.length=3)(c:g.get k=some (.cells cs0 155 0 true))(i:h.next<=k)(o:Ok h g)(b:Bool)(n d:List UInt8){Q:VH}(f:∀a,Ok h a->Q (uJ b n d) a):
  ∃u:eu,ah SS.P 155 (pA k) (.agg ⟨[.bool b,strOf n,strOf d]⟩) g=some (undef,u)/\eK SS [(pA k,some 155)] (u.app g) Q:=by
 refine⟨_,Yy e c b n d,L4 (v:=uJ b n d) (Mp ?_) (f _ (o.set _ i (o.wf _ _ c) w))⟩;show(g.set k _).get k=_;rw[ae.ay,if_pos rfl]
theorem IH(s:Bool){N D:Nat}(F:N<10^1000)(k:D<10^1000)(K:0<D)(h1:(ag (N/Nat.gcd N D)).length<=400)(h2:(ag (D/Nat.gcd N D)).length<=400){h:ae}(t:qJ h)(w:Wf h):
  FW SS 144 [.bool s,strOf (ag N),strOf (ag D)] h (λv p=>v=uJ (s&&decide (N≠0)) (ag (N/Nat.gcd N D)) (ag (D/Nat.gcd N D))/\Ok h p):=by
 have W:Num.valid (ag N)=true:=eM.2 F;have vD:Num.valid (ag D)=true:=eM.2 k;have Q:0<Nat.gcd N D:=Nat.gcd_pos_of_pos_right N K;have g:Nat.gcd N D<10^1000:=lt_of_le_of_lt (Nat.gcd_le_right N K) k;have n:=(Ok.refl w).push tG;refine Ty s _ _ h _ ⟨_,zm,(Ix _ _ (t.ok n) n.wf).mono ?_⟩;rintro _ O ⟨rfl,j⟩;rw[A1 W vD,bI,bI];refine⟨_,_,rfl,(gn _ _).mono ?_⟩;rintro _ T ⟨rfl,e2⟩;obtain rfl:O=T:=e2.symm;have E:=n.trans j;have f:∀b:Bool,b=(s&&decide (N≠0))->FW SS 176 [strOf (ag N),strOf (ag (Nat.gcd N D))] O λz A=>yS z λP=>FW SS 176 [strOf (ag D),strOf (ag (Nat.gcd N D))] A λM d=>yS M λx=>xA (bu SS.P 155 [(0,(.bool b)),(1,(strOf P)),(2,(strOf x))]) λI=>xN (av SS.P 155) d λx3 i=>xU (ah SS.P 155 (pA (d.next)) (.agg ⟨I⟩) i) i λx2 a=>xP (bk SS.P 155 (pA (d.next)) 1) λy=>xS (aj SS.P 9 a (.pointer (some y))) λJ=>au (decide ((((J:LB).length:Int):Int)>400)) (xA (bu SS.P 176 []) λx1=>False) (xP (bk SS.P 155 (pA (d.next)) 2) λH=>xS (aj SS.P 9 a (.pointer (some H))) λL=>au (decide ((((L:LB).length:Int):Int)>400)) (xA (bu SS.P 176 []) λx4=>False) (xA (aj SS.P 155 a (pA (d.next))) λB=>xU (ah SS.P 155 (pA (h.next)) (.agg ⟨B⟩) a) a λx0 C=>eK SS [((pA (h.next)),some 155)] C (λv p=>v=uJ (s&&decide (N≠0)) (ag (N/Nat.gcd N D)) (ag (D/Nat.gcd N D))/\Ok h p))):=by
  intro b S;refine(IG F g Q (t.ok E) j.wf).mono ?_;rintro _ g3 ⟨rfl,r⟩;have R:=E.trans r;refine⟨_,rfl,(IG k g Q (t.ok R) r.wf).mono ?_⟩;rintro _ U ⟨rfl,m⟩;obtain⟨u,s1,G,l⟩:=Gd m.wf b (ag (N/Nat.gcd N D)) (ag (D/Nat.gcd N D));have X:=R.trans m;have Y:=X.trans G;have Z:(u.app (U.push tG)).get h.next=some tG:=G.ext _ _ (m.ext _ _ (r.ext _ _ (j.ext _ _ (aN h tG))));refine⟨_,rfl,_,acz _ _ _,_,zm,u,s1,_,sf _,_,l.l1,aa (λq=>?_) (λ_=>⟨_,oj _,_,l.l2,aa (λq=>?_) (λ_=>⟨_,Mp l,Et w rfl Z (Nat.le_refl _) Y _ _ _ (λg' o=>⟨by rw[S],o⟩)⟩)⟩)⟩
  ·have:=dT q;omega
  ·have:=dT q;omega
 have V:(!(ag N==[48]))=decide (N≠0):=by
  by_cases e:N=0
  ·rw[bU.2 e,e];rfl
  ·rw[decide_eq_true e];have:(ag N==[48])=false:=by
    have:=λc=>e (bU.1 c);simpa using this
   rw[this];rfl
 refine⟨_,rfl,aa (λq=>?_) (λq=>?_)⟩
 ·rw[V];exact f _ (by rw[q,Bool.true_and])
 ·exact f false (by rw[q,Bool.false_and])
theorem LK(b:Bool)(n d:List UInt8):fu SS.P 155 (.agg ⟨[.bool b,strOf n,strOf d]⟩)=some (.cells [.bool b,strOf n,strOf d] 155 0 true,np):=by kernel_rfl
theorem O7{s:Bool}(l:s=true->n≠0)(t:(ag n).length<=400)(x:(ag m).length<=400){h:ae}(w:Wf h):FW SS 184 [uJ s (ag n) (ag m)] h (λv o=>v=strOf (dh s n m)/\Ok h o):=by
 have f:=(Ok.refl w).push (.cells [.bool s,strOf (ag n),strOf (ag m)] 155 0 true);have a:ko (h.push (.cells [.bool s,strOf (ag n),strOf (ag m)] 155 0 true)) h.next s (ag n) (ag m):=aN h _;have b:∀(p:List UInt8),p.length<=2000->(p++(ag n++(if m=1 then[]else 47::ag m))=dh s n m)->xP (bk SS.P 155 (pA (h.next)) 2) λk=>xS (aj SS.P 9 (h.push (.cells [.bool s,strOf (ag n),strOf (ag m)] 155 0 true)) (.pointer (some k))) λr=>au (!((r:LB)==[49])) (xP (bk SS.P 155 (pA (h.next)) 2) λd=>xS (aj SS.P 9 (h.push (.cells [.bool s,strOf (ag n),strOf (ag m)] 155 0 true)) (.pointer (some d))) λj=>xS (aB SS.P .add 9 (strOf [47]) (strOf j)) λi=>xS (aB SS.P .add 9 (strOf (p++ag n)) (strOf i)) λg=>strOf g=strOf (dh s n m)/\Ok h (h.push (.cells [.bool s,strOf (ag n),strOf (ag m)] 155 0 true))) (strOf (p++ag n)=strOf (dh s n m)/\Ok h (h.push (.cells [.bool s,strOf (ag n),strOf (ag m)] 155 0 true))):=λp u e=>by
  refine⟨_,oj _,_,a.l2,aa (λq=>?_) (λq=>⟨?_,f⟩)⟩
  ·have q:ag m≠[49]:=by simpa using q
   rw[if_neg (λc=>q (eN.2 c))]at e;refine⟨_,oj _,_,a.l2,_,tW _ _ (by simp;omega),_,tW _ _ (by simp;omega),?_,f⟩;rw[<-e,List.append_assoc];rfl
  ·have q:ag m=[49]:=by simpa using q
   rw[if_pos (eN.1 q),List.append_nil]at e;rw[e]
 refine O6 s _ _ h _ ⟨_,LK _ _ _,_,sf _,_,a.l1,_,um _,_,a.l0,aa (λq=>?_) (λq=>?_)⟩
 ·exact⟨_,tW _ _ (by simp;omega),b [45] (by simp) (Rh ⟨q,l q⟩)⟩
 ·exact b [] (by simp) (KJ λc=>by rw[c.1]at q;cases q)
variable{Q:VH}
section
theorem al9:av SS.P 9=some (.cells [strOf []] 9 0 true,np):=by rfl
theorem ags:av SS.P 30=some (.cells [.int .i64 0] 30 0 true,np):=by rfl
theorem zs9:aI SS.P 9=some 1:=by rfl
theorem ahu:aI SS.P 30=some 1:=by rfl
theorem af2:SS.P.underlying 30=some (.int .i64):=by rfl
theorem aeA:Go.Ab.isAgg SS.P 30=false:=by rfl
theorem ZC:SS.pr 166=some (Ap SS.P SS.gl Tryz.f166 (PI Ib) (KC (KC Ib)) 5):=by rfl
theorem aaR(c:aj SS.P 9 g (pA n)=some (strOf s))(a:aj SS.P 30 g (pA m)=some (.int .i64 z))(b:Q (two s z) g):eK SS [(pA n,some 9),(pA m,some 30)] g Q:=by
 unfold eK;simp only[TW,c,a];exact b
theorem aeo{g:Nat}{fa:List Value}(U:Nat.blt g YB=true){s:Bool}{n d:Nat}(I:s=true->n≠0)(E:(ag n).length<=400)(P:(ag d).length<=400){h:ae}(w:Wf h)
  (F:∀p,Ok h p->FW SS g (fa++[]++c) p (λv f=>v=uJ s (ag n) (ag d)/\Ok p f)):FW SS 166 [.func (.func g) ⟨fa⟩ ⟨c⟩] h (oQ h (some (dh s n d))):=by
 have o:=(Ok.refl w).push (.cells [strOf []] 9 0 true);have z:=o.push (.cells [.int .i64 0] 30 0 true);have A:=(Ok.refl o.wf).push (.cells [.int .i64 0] 30 0 true);have O:((h.push (.cells [strOf []] 9 0 true)).push (.cells [.int .i64 0] 30 0 true)).get h.next=some (.cells [strOf []] 9 0 true):=A.ext _ _ (aN h _);have M:=aN (h.push (.cells [strOf []] 9 0 true)) (.cells [.int .i64 0] 30 0 true);generalize r:(h.push (.cells [strOf []] 9 0 true)).push (.cells [.int .i64 0] 30 0 true)=G at*;have D:h.next<=(h.push (.cells [strOf []] 9 0 true)).next:=o.nx;have l:h.next≠(h.push (.cells [strOf []] 9 0 true)).next:=by show h.next≠h.next+1;omega
 generalize B:(h.push (.cells [strOf []] 9 0 true)).next=j at*;have m:TT SS DK [1,1] [(.func (.func g) ⟨fa⟩ ⟨c⟩),undef,(pA h.next),(pA j),undef,jd,undef,undef,undef,undef,undef] G (λx b f=>x = .ret/\EE SS DK (oQ h (some (dh s n d))) .ret b f):=by
  refine acg (aa (λ_=>(F _ z).mono ?_) (λe=>by grind));rintro _ T ⟨rfl,u⟩;refine⟨_,rfl,(O7 I E P u.wf).mono ?_⟩;rintro _ q ⟨rfl,K⟩;have a:=u.trans K;have y:=a.ext _ _ O;have S:=a.ext _ _ M;have t:=(z.trans a).set (.cells [strOf (dh s n d)] 9 0 true) (Nat.le_refl _) (a.wf _ _ y) w;have k:(q.set h.next (.cells [strOf (dh s n d)] 9 0 true)).get j=some (.cells [.int .i64 0] 30 0 true):=by rw[ae.ay,if_neg (λe=>l e.symm)];exact S
  refine⟨_,rfl,_,ll zs9 y (i:=0) (by simp) (v:=strOf (dh s n d)) rfl rfl,_,ll ahu k (i:=0) (by simp) (v:= .int .i64 0) rfl rfl,rfl,?_⟩;have R:=t.set (.cells [.int .i64 0] 30 0 true) D (t.wf _ _ k) w;have C:((q.set h.next (.cells [strOf (dh s n d)] 9 0 true)).set j (.cells [.int .i64 0] 30 0 true)).get j=some (.cells [.int .i64 0] 30 0 true):=by rw[ae.ay,if_pos rfl]
  have J:((q.set h.next (.cells [strOf (dh s n d)] 9 0 true)).set j (.cells [.int .i64 0] 30 0 true)).get h.next=some (.cells [strOf (dh s n d)] 9 0 true):=by rw[ae.ay,if_neg l,ae.ay,if_pos rfl]
  have H:=aaR (Q:=oQ h (some (dh s n d))) (dp NX Ux J (i:=0) (by simp)) (dp af2 aeA C (i:=0) (by simp)) ⟨rfl,R⟩;exact ai H
 have N:TT SS DK [0] (uN [(.func (.func g) ⟨fa⟩ ⟨c⟩)] 10) h (λx b L=>x = .normal/\TT SS DK [1,1] (b.set 5 jd) L λx b f=>x = .ret/\EE SS DK (oQ h (some (dh s n d))) .ret b f):=by
  refine acf ⟨_,al9,_,ags,rfl,?_⟩;rw[r,B];exact ai m
 exact V9 DK ZC (ai N)
theorem IK{s:Bool}{c:List UInt8}(b:0<m)(a:lY s n m=some c):(ag (n/Nat.gcd n m)).length<=400/\(ag (m/Nat.gcd n m)).length<=400/\c=dh (s&&decide (n≠0)) (n/Nat.gcd n m) (m/Nat.gcd n m)/\((s&&decide (n≠0))=true->n/Nat.gcd n m≠0):=by
 unfold lY at a;split at a
 ·grind
 ·next q=>
  obtain rfl:=oI a;refine⟨by omega,by omega,?_,λe=>?_⟩
  ·unfold dh;by_cases e:n=0
   all_goals simp_all
  ·rw[and_eq_true,decide_eq_true_eq]at e;have d:0<Nat.gcd n m:=Nat.gcd_pos_of_pos_right n b;exact Nat.ne_of_gt (Nat.div_pos (Nat.le_of_dvd (Nat.pos_of_ne_zero e.2) (Nat.gcd_dvd_left n m)) d)
abbrev nOf(a:List UInt8):Value:=uJ (Num.isNeg a) (Num.numOf a) (ak a)
section
variable {a b:List UInt8} {h:ae}
theorem afa(w:Wf h)(a b c:eB):Ok h (((h.push a).push b).push c)/\(((h.push a).push b).push c).get h.next=some a/\(((h.push a).push b).push c).get (h.push a).next=some b/\(((h.push a).push b).push c).get ((h.push a).push b).next=some c:=by
 have f:=(Ok.refl w).push a;have e:=(Ok.refl f.wf).push b;have d:=(Ok.refl e.wf).push c;exact⟨(f.trans e).trans d,d.ext _ _ (e.ext _ _ (aN _ _)),d.ext _ _ (aN _ _),aN _ _⟩
theorem Pl(d:iJ a)(c:iJ b)(m:qJ h)(w:Wf h){N D:Nat}{s:Bool}(M:s=(dC (Num.isNeg a) (Num.val (Num.numOf a)*Num.val (ak b)) (Num.isNeg b) (Num.val (Num.numOf b)*Num.val (ak a))).1)(B:N=(dC (Num.isNeg a) (Num.val (Num.numOf a)*Num.val (ak b)) (Num.isNeg b) (Num.val (Num.numOf b)*Num.val (ak a))).2)(q:D=Num.val (ak a)*Num.val (ak b))
  (Q:(ag (N/Nat.gcd N D)).length<=400) (S:(ag (D/Nat.gcd N D)).length<=400):
  FW SS 140 [nOf a,nOf b] h (λv T=>v=uJ (s&&decide (N≠0)) (ag (N/Nat.gcd N D)) (ag (D/Nat.gcd N D))/\Ok h T):=by
 obtain⟨k,f,e,X⟩:=afa w (.cells [.bool (Num.isNeg a),strOf (Num.numOf a),strOf (ak a)] 155 0 true) (.cells [.bool (Num.isNeg b),strOf (Num.numOf b),strOf (ak b)] 155 0 true) tG;refine Pk _ _ _ _ _ _ h _ ⟨_,LK _ _ _,_,LK _ _ _,_,zm,?_⟩;have z:h.next<=((h.push (.cells [.bool (Num.isNeg a),strOf (Num.numOf a),strOf (ak a)] 155 0 true)).push (.cells [.bool (Num.isNeg b),strOf (Num.numOf b),strOf (ak b)] 155 0 true)).next:=Nat.le_trans (le_succ _) (le_succ _);generalize (((h.push (.cells [.bool (Num.isNeg a),strOf (Num.numOf a),strOf (ak a)] 155 0 true)).push (.cells [.bool (Num.isNeg b),strOf (Num.numOf b),strOf (ak b)] 155 0 true)).push tG)=p at*;generalize ((h.push (.cells [.bool (Num.isNeg a),strOf (Num.numOf a),strOf (ak a)] 155 0 true)).push (.cells [.bool (Num.isNeg b),strOf (Num.numOf b),strOf (ak b)] 155 0 true)).next=k3 at*;generalize (h.push (.cells [.bool (Num.isNeg a),strOf (Num.numOf a),strOf (ak a)] 155 0 true)).next=K at*;have f:ko p h.next (Num.isNeg a) (Num.numOf a) (ak a):=f;have e:ko p K (Num.isNeg b) (Num.numOf b) (ak b):=e;have i:Ok p (Go.Ab.room p 26):=(Ok.refl k.wf).room 26;refine⟨_,um _,_,(f.ok i).l0,_,sf _,_,(f.ok i).l1,_,oj _,_,(e.ok i).l2,(oY _ _ (m.ok (k.trans i)) i.wf).mono ?_⟩;rintro _ Y ⟨rfl,W⟩;rw[(dG d.num c.den d.ln c.ld).1];refine⟨_,_,rfl,(gn _ _).mono ?_⟩;rintro _ y ⟨rfl,n⟩;obtain rfl:Y=y:=n.symm;have g:=i.trans W;have u:=k.trans g;refine⟨_,rfl,_,um _,_,(e.ok g).l0,_,sf _,_,(e.ok g).l1,_,oj _,_,(f.ok g).l2,(oY _ _ (m.ok u) g.wf).mono ?_⟩;rintro _ J ⟨rfl,O⟩;rw[(dG c.num d.den c.ln d.ld).1];refine⟨_,_,rfl,(gn _ _).mono ?_⟩;rintro _ C ⟨rfl,n⟩;obtain rfl:J=C:=n.symm;have j:=g.trans O;have R:=k.trans j;have x:=(dG d.num c.den d.ln c.ld).2;have I:=(dG c.num d.den c.ln d.ld).2;refine⟨_,rfl,(Gn _ _ _ _ x I (m.ok R) j.wf).mono ?_⟩;rintro _ g5 ⟨rfl,P⟩;have l:=j.trans P;have V:=k.trans l;have G:=QX (s:=Num.isNeg a) (t:=Num.isNeg b) x I;refine⟨_,_,rfl,⟨(f.ok g).l0,kh _⟩,⟨(f.ok g).l0,kh _⟩,⟨(f.ok j).l0,kh _⟩,⟨(f.ok j).l0,kh _⟩,⟨(e.ok i).l0,kh _⟩,⟨(e.ok g).l0,kh _⟩,⟨(e.ok j).l0,kh _⟩,⟨(e.ok j).l0,kh _⟩,⟨(e.ok i).l1,mD _⟩,⟨(e.ok g).l1,mD _⟩,⟨(f.ok i).l2,mD _⟩,⟨(f.ok g).l2,mD _⟩,_,oj _,_,(f.ok l).l2,_,oj _,_,(e.ok l).l2,(oY _ _ (m.ok V) l.wf).mono ?_⟩;rintro _ U ⟨rfl,L⟩;rw[(dG d.den c.den d.ld c.ld).1];refine⟨_,_,rfl,(gn _ _).mono ?_⟩;rintro _ E ⟨rfl,n⟩;obtain rfl:U=E:=n.symm;have r:=l.trans L;have A:=k.trans r;have F:=sk (dG d.den c.den d.ld c.ld).2;rw[<-B]at G;rw[<-M,<-B,<-q];rw[<-q]at F;refine⟨_,rfl,(IH s G F (by rw[q];exact mul_pos d.den_pos c.den_pos) Q S (m.ok A) r.wf).mono ?_⟩;rintro _ g7 ⟨rfl,H⟩;exact⟨_,rfl,Et w (cs0:=[.bool false,strOf [],strOf []]) rfl ((r.trans H).ext _ _ X) z (A.trans H) _ _ _ (λZ o=>⟨rfl,o⟩)⟩
theorem Pp(g:iJ a)(f:iJ b)(p:qJ h)(w:Wf h){N D:Nat}{s:Bool}(I:s=(Num.isNeg a !=Num.isNeg b))(B:N=Num.val (Num.numOf a)*Num.val (Num.numOf b))(m:D=Num.val (ak a)*Num.val (ak b))
  (K:(ag (N/Nat.gcd N D)).length<=400) (M:(ag (D/Nat.gcd N D)).length<=400):
  FW SS 146 [nOf a,nOf b] h (λv n=>v=uJ (s&&decide (N≠0)) (ag (N/Nat.gcd N D)) (ag (D/Nat.gcd N D))/\Ok h n):=by
 obtain⟨l,e,c,R⟩:=afa w (.cells [.bool (Num.isNeg a),strOf (Num.numOf a),strOf (ak a)] 155 0 true) (.cells [.bool (Num.isNeg b),strOf (Num.numOf b),strOf (ak b)] 155 0 true) tG;refine Po _ _ _ _ _ _ h _ ⟨_,LK _ _ _,_,LK _ _ _,_,zm,?_⟩;have y:h.next<=((h.push (.cells [.bool (Num.isNeg a),strOf (Num.numOf a),strOf (ak a)] 155 0 true)).push (.cells [.bool (Num.isNeg b),strOf (Num.numOf b),strOf (ak b)] 155 0 true)).next:=Nat.le_trans (le_succ _) (le_succ _);generalize (((h.push (.cells [.bool (Num.isNeg a),strOf (Num.numOf a),strOf (ak a)] 155 0 true)).push (.cells [.bool (Num.isNeg b),strOf (Num.numOf b),strOf (ak b)] 155 0 true)).push tG)=k at*;generalize ((h.push (.cells [.bool (Num.isNeg a),strOf (Num.numOf a),strOf (ak a)] 155 0 true)).push (.cells [.bool (Num.isNeg b),strOf (Num.numOf b),strOf (ak b)] 155 0 true)).next=V at*;generalize (h.push (.cells [.bool (Num.isNeg a),strOf (Num.numOf a),strOf (ak a)] 155 0 true)).next=G at*;have e:ko k h.next (Num.isNeg a) (Num.numOf a) (ak a):=e;have c:ko k G (Num.isNeg b) (Num.numOf b) (ak b):=c;have i:Ok k (Go.Ab.room k 23):=(Ok.refl l.wf).room 23;refine⟨_,um _,_,(e.ok i).l0,_,um _,_,(c.ok i).l0,_,sf _,_,(e.ok i).l1,_,sf _,_,(c.ok i).l1,(oY _ _ (p.ok (l.trans i)) i.wf).mono ?_⟩;rintro _ S ⟨rfl,O⟩;rw[(dG g.num f.num g.ln f.ln).1];refine⟨_,_,rfl,(gn _ _).mono ?_⟩;rintro _ x ⟨rfl,q⟩;obtain rfl:S=x:=q.symm;have d:=i.trans O;have r:=l.trans d;refine⟨_,rfl,_,oj _,_,(e.ok d).l2,_,oj _,_,(c.ok d).l2,(oY _ _ (p.ok r) d.wf).mono ?_⟩;rintro _ F ⟨rfl,J⟩;rw[(dG g.den f.den g.ld f.ld).1];refine⟨_,_,rfl,(gn _ _).mono ?_⟩;rintro _ C ⟨rfl,q⟩;obtain rfl:F=C:=q.symm;have j:=d.trans J;have A:=l.trans j;have t:=sk (dG g.num f.num g.ln f.ln).2;have E:=sk (dG g.den f.den g.ld f.ld).2;have L:(!(Num.isNeg a==Num.isNeg b))=s:=by rw[I];rfl
 rw[L];rw[<-B,<-m];rw[<-B]at t;rw[<-m]at E;refine⟨_,rfl,(IH s t E (by rw[m];exact mul_pos g.den_pos f.den_pos) K M (p.ok A) j.wf).mono ?_⟩;rintro _ U ⟨rfl,z⟩;obtain⟨u,P,H⟩:=Et w (cs0:=[.bool false,strOf [],strOf []]) rfl ((j.trans z).ext _ _ R) y (A.trans z) (s&&decide (N≠0)) (ag (N/Nat.gcd N D)) (ag (D/Nat.gcd N D)) (Q:=λv n=>v=uJ (s&&decide (N≠0)) (ag (N/Nat.gcd N D)) (ag (D/Nat.gcd N D))/\Ok h n) (λT o=>⟨rfl,o⟩);exact⟨_,rfl,u,P,⟨(e.ok d).l0,kh _⟩,⟨(e.ok d).l0,kh _⟩,⟨(e.ok j).l0,kh _⟩,⟨(e.ok j).l0,kh _⟩,⟨(c.ok d).l0,kh _⟩,⟨(c.ok d).l0,kh _⟩,⟨(c.ok j).l0,kh _⟩,⟨(c.ok j).l0,kh _⟩,⟨(e.ok i).l2,mD _⟩,⟨(e.ok d).l2,mD _⟩,⟨(c.ok i).l2,mD _⟩,⟨(c.ok d).l2,mD _⟩,H⟩
end
end
section
noncomputable def aeg:TypeDesc:=(SS.P.underlying 158).getD .bool
theorem afZ:SS.P.underlying 158=some aeg:=by rfl
theorem aez:Go.Ab.isAgg SS.P 158=false:=by rfl
theorem afh(f:Nat):fu SS.P 158 (rq f)=some (.cells [rq f] 158 0 true,np):=by rfl
section
variable {a b:List UInt8} {h:ae} {s:Bool} {n d f k1 k2 k3:Nat}
theorem Vz(w:Wf h)(q:h.get k1=some (.cells [rq f] 158 0 true))(m:ko h k2 (Num.isNeg a) (Num.numOf a) (ak a))(r:ko h k3 (Num.isNeg b) (Num.numOf b) (ak b))(x:Nat.blt f YB=true)
  (l:∀j,Ok h j->FW SS f [nOf a,nOf b] j (λv g=>v=uJ s (ag n) (ag d)/\Ok j g)):FW SS 167 [pA k1,pA k2,pA k3] h (λv g=>v=uJ s (ag n) (ag d)/\Ok h g):=by
 have c:=(Ok.refl w).push tG;have p:=dp afZ aez (c.ext _ _ q) (i:=0) (by simp);refine MX k1 k2 k3 h _ ⟨_,zm,f,[],[],p,_,Mp (m.ok c),_,Mp (r.ok c),aa (λ_=>(l _ c).mono ?_) (λe=>by grind)⟩;rintro _ u ⟨rfl,k⟩;exact⟨_,rfl,Et w (cs0:=[.bool false,strOf [],strOf []]) rfl (k.ext _ _ (aN h _)) (Nat.le_refl _) (c.trans k) _ _ _ (λt o=>⟨rfl,o⟩)⟩
theorem MO{a:List UInt8}(b:aA a=true):uW a = .tuple ⟨[nOf a,.bool true]⟩:=by simp_all[uW]
theorem QA(t:aA a=true)(q:aA b=true)(u:qJ h)(w:Wf h)(F:s=true->n≠0)(z:(ag n).length<=400)(J:(ag d).length<=400)(H:Nat.blt f YB=true)
  (A:∀j,Ok h j->FW SS f [nOf a,nOf b] j (λv r=>v=uJ s (ag n) (ag d)/\Ok j r)):FW SS 139 [strOf a,strOf b,rq f] h (oQ h (some (dh s n d))):=by
 have M:=ox t;have N:=ox q;have l:=(Ok.refl w).push (.cells [rq f] 158 0 true);refine Pn a b f [] [] h _ ⟨_,afh f,(pS a (by omega) (u.ok l) l.wf).mono ?_⟩;rintro _ K ⟨rfl,p⟩;rw[MO t];obtain⟨E,I,m,D⟩:=Gd p.wf (Num.isNeg a) (Num.numOf a) (ak a);have k2:=(l.trans p).trans m;refine⟨_,_,rfl,_,zm,E,I,(pS b (by omega) (u.ok k2) m.wf).mono ?_⟩;rintro _ O ⟨rfl,k⟩;rw[MO q];obtain⟨x,C,i,y⟩:=Gd k.wf (Num.isNeg b) (Num.numOf b) (ak b);have k3:=(k2.trans k).trans i;have B:=(((p.trans m).trans k).trans i).ext _ _ (aN h (.cells [rq f] 158 0 true));refine⟨_,_,rfl,_,zm,x,C,aa (λe=>by cases e) (λ_=>aa (λe=>by cases e) (λ_=>?_))⟩;refine(aeo (g:=167) (fa:=[]) (by rfl) F z J i.wf (λj c=>Vz c.wf (c.ext _ _ B) (((D.ok k).ok i).ok c) (y.ok c) H (λr o=>A _ ((k3.trans c).trans o)))).mono ?_;rintro _ L ⟨rfl,G⟩;exact ka (k3.trans G)
theorem Tp{c:List UInt8}(l:aA a=true)(d:aA b=true)(p:qT a b=some c)(m:qJ h)(w:Wf h):FW SS 107 [strOf a,strOf b] h (oQ h (some c)):=by
 have j:=ba.1 l;have i:=ba.1 d;obtain⟨e,k,rfl,n⟩:=IK (mul_pos j.den_pos i.den_pos) p;refine To a b h _ ((QA (f:=140) l d m w n e k (by rfl) (λq o=>Pl j i (m.ok o) o.wf rfl rfl rfl e k)).mono ?_);rintro _ g ⟨rfl,o⟩;exact ka o
theorem Tu{c:List UInt8}(l:aA a=true)(d:aA b=true)(p:B3 a b=some c)(m:qJ h)(w:Wf h):FW SS 111 [strOf a,strOf b] h (oQ h (some c)):=by
 have j:=ba.1 l;have i:=ba.1 d;obtain⟨e,k,rfl,n⟩:=IK (mul_pos j.den_pos i.den_pos) p;refine Tt a b h _ ((QA (f:=146) l d m w n e k (by rfl) (λq o=>Pp j i (m.ok o) o.wf rfl rfl rfl e k)).mono ?_);rintro _ g ⟨rfl,o⟩;exact ka o
theorem T3(c:a.length<=1000000000)(d:qJ h)(w:Wf h):FW SS 113 [strOf a] h (λv g=>v = .bool (aA a&&decide (0<=de a [48]))/\Ok h g):=by
 refine T1 a h _ ((su a c d w).mono ?_);rintro _ i ⟨rfl,b⟩;refine⟨_,rfl,aa (λq=>(IF a [48] c (by simp) (d.ok b) b.wf).mono ?_) (λq=>⟨by rw[q];rfl,b⟩)⟩;rintro _ f ⟨rfl,e⟩;refine⟨_,rfl,?_,b.trans e⟩
 grind
end
theorem adB(k:Nat):bk SS.P 99 (pA k) 0=some (.pointer (some ⟨k,0,none⟩)):=by rfl
theorem adD(k:Nat):bk SS.P 99 (pA k) 2=some (.pointer (some ⟨k,2,none⟩)):=by rfl
theorem adE(k:Nat):bk SS.P 99 (pA k) 4=some (.pointer (some ⟨k,4,none⟩)):=by rfl
theorem VT(k:Nat):bk SS.P 99 (pA k) 6=some (.pointer (some ⟨k,6,none⟩)):=by rfl
noncomputable def af8:TypeDesc:=(SS.P.underlying 95).getD .bool
theorem ahq:SS.P.underlying 95=some af8:=by rfl
theorem agr:Go.Ab.isAgg SS.P 95=false:=by rfl
theorem agF(a b:List UInt8)(l:Bool)(f c g d e:Nat):fu SS.P 99 (.agg ⟨[strOf a,strOf b,.bool l,rq f,rq c,rq g,rq d,rq e]⟩)=some (.cells [strOf a,strOf b,.bool l,rq f,rq c,rq g,rq d,rq e] 99 0 true,np):=by rfl
def DD(kind:Int):List Value:=if kind=1 then Bx else if kind=2 then By else Bz
theorem Nf{kind:Int}(d:1<=kind/\kind<=3):∃b c a:Nat,DD kind=[strOf (bP kind),strOf (r6 kind),.bool (kind==1),rq b,rq (if kind=1 then 107 else 111),rq c,rq (if kind=1 then 109 else 113),rq a]:=by
 have:kind=1\/kind=2\/kind=3:=by omega
 rcases this with rfl|rfl|rfl
 ·exact⟨106,108,109,rfl⟩
 ·exact⟨110,112,114,rfl⟩
 ·exact⟨106,115,114,rfl⟩
theorem adO{kind:Int}(a:1<=kind/\kind<=3):ofV kind = .tuple ⟨[.agg ⟨DD kind⟩,.bool true]⟩:=by
 have:kind=1\/kind=2\/kind=3:=by omega
 rcases this with rfl|rfl|rfl<;>rfl
section
variable {kind:Int} {a b:List UInt8} {h:ae}
theorem Nd(m:1<=kind/\kind<=3)(l:a.length<=1000000000)(o:qJ h)(w:Wf h):FW SS 104 [.agg ⟨DD kind⟩,strOf a] h (λv g=>v = .bool (aO kind a)/\Ok h g):=by
 obtain⟨t,u,r,G⟩:=Nf m;rw[G];have E:aO kind a=(a==[105,110,102]||a==[45,105,110,102]&&kind==1||aA a&&(kind==1||decide (0<=de a [48]))):=by
  unfold aO;rw[decide_eq_true m,Bool.true_and]
 have d:=(Ok.refl w).push (.cells [strOf (bP kind),strOf (r6 kind),.bool (kind==1),rq t,rq (if kind=1 then 107 else 111),rq u,rq (if kind=1 then 109 else 113),rq r] 99 0 true);have p:=aN h (.cells [strOf (bP kind),strOf (r6 kind),.bool (kind==1),rq t,rq (if kind=1 then 107 else 111),rq u,rq (if kind=1 then 109 else 113),rq r] 99 0 true);have F:=dp un4 ag4 p (i:=2) (by simp);have n:=dp af9 aeD p (i:=6) (by simp);have call:∀f,Ok h f->a≠[105,110,102]->(a==[45,105,110,102]&&kind==1)=false->au (Nat.blt (if kind=1 then 109 else 113) YB) (FW SS (if kind=1 then 109 else 113) ([]++[strOf a]++[]) f λD s=>yB D λk=>(.bool k:Value) = .bool (aO kind a)/\Ok h s) False:=by
  intro f b y B;have z:aO kind a=(aA a&&(kind==1||decide (0<=de a [48]))):=by
   rw[E,B,Bool.or_false];have:(a==[105,110,102])=false:=by simpa using y
   rw[this,Bool.false_or]
  rw[z];by_cases c:kind=1
  ·subst c;refine aa (λ_=>(su a l (o.ok b) b.wf).mono ?_) (λe=>by revert e;decide +kernel);rintro _ A ⟨rfl,j⟩;exact⟨_,rfl,by simp,b.trans j⟩
  ·rw[if_neg c];refine aa (λ_=>(T3 l (o.ok b) b.wf).mono ?_) (λe=>by revert e;decide +kernel);rintro _ A ⟨rfl,j⟩;refine⟨_,rfl,?_,b.trans j⟩
   grind
 refine XX _ a h _ ⟨_,agF _ _ _ _ _ _ _ _,aa (λq=>⟨by grind,d⟩) (λq=>aa (λC=>⟨_,adD _,_,F,aa (λx=>⟨?_,d⟩) (λx=>?_)⟩) (λC=>?_))⟩
 ·grind
 ·refine⟨_,VT _,_,[],[],n,call _ d (cD q) (by grind)⟩
 ·exact⟨_,VT _,_,[],[],n,call _ d (cD q) (by grind)⟩
theorem afd(a b c:List UInt8):bu SS.P 131 [(0,strOf a),(1,strOf b),(2,strOf c)]=some (.agg ⟨[strOf a,strOf b,strOf c]⟩):=by rfl
theorem aaY(a b c:List UInt8):bZ SS.P 131 (.agg ⟨[strOf a,strOf b,strOf c]⟩) (iA 0)=some (strOf a):=by rfl
theorem aaZ(a b c:List UInt8):bZ SS.P 131 (.agg ⟨[strOf a,strOf b,strOf c]⟩) (iA 1)=some (strOf b):=by rfl
theorem aa0(a b c:List UInt8):bZ SS.P 131 (.agg ⟨[strOf a,strOf b,strOf c]⟩) (iA 2)=some (strOf c):=by rfl
theorem Np{c:List UInt8}(F:aO kind a=true)(H:aO kind b=true)(d:cO kind a b=some c)(v:qJ h)(w:Wf h):FW SS 86 [.int .i64 kind,strOf a,strOf b] h (oQ h (some c)):=by
 have u:1<=kind/\kind<=3:=by have:=iC F;omega
 have W:=sG F;have Y:=sG H;refine No kind a b h _ ((Gy kind w).mono ?_);rintro _ r ⟨rfl,C⟩;rw[adO u];obtain⟨f1,f3,X,x⟩:=Nf u;have D:(DD kind).length=8:=by rw[x];rfl
 have O:(DD kind).all ey=true:=by rw[x];rfl
 refine⟨_,_,rfl,_,UW,_,lR GL rfl (aN r NT) D O,?_⟩;obtain⟨G,k2⟩:=qk (cs:=DD kind) C.wf ((Ok.refl C.wf).push NT) (aN r NT) (Nat.le_refl _);generalize (eu.set r.next (.cells (DD kind) 99 0 true)).app (r.push NT)=P at*;have A:=C.trans G;have y:∀g,Ok P g->aj SS.P 99 g (pA r.next)=some (.agg ⟨DD kind⟩):=λg o=>by
  rw[sj agb aeE GL (o.ext _ _ k2) (by omega),drop_zero,take_of_length_le (by omega)]
 refine aa (λe=>by cases e) (λ_=>⟨_,y _ (Ok.refl G.wf),(Nd u (by omega) (v.ok A) G.wf).mono ?_⟩);rintro _ Z ⟨rfl,t⟩;have z:=A.trans t;refine⟨_,rfl,aa (λe=>by grind) (λ_=>⟨_,y _ t,(Nd u (by omega) (v.ok z) t.wf).mono ?_⟩)⟩;rintro _ Q ⟨rfl,s⟩;have f:=z.trans s;have B:=t.trans s;have N:=dp NX Ux (B.ext _ _ k2) (i:=0) (by omega);rw[x]at N;have M:=dp ahq agr (B.ext _ _ k2) (i:=4) (by omega);rw[x]at M;refine⟨_,rfl,aa (λe=>by grind) (λ_=>⟨_,adB _,_,N,_,afd _ _ _,?_⟩)⟩;unfold cO at d;refine zg kind a b r.next [strOf (bP kind),strOf [105,110,102],strOf [45,105,110,102]] (λJ i g=>i<=3/\J=3-i/\g=Q/\(1<=i->a≠bP kind/\b≠bP kind)/\(2<=i->a≠dI/\b≠dI)/\(3<=i->a≠jm/\b≠jm)) _ (λJ i=>?_) 3 (i:=0) ⟨by omega,rfl,rfl,λe=>by omega,λe=>by omega,λe=>by omega⟩;intros;rename_i g I;obtain⟨U,V,rfl,j,m,p⟩:=I;refine aa (λq=>?_) (λq=>?_)
 ·have S:i=0\/i=1\/i=2:=by have:=dT q;omega
  have R:wrap .i64 ((i:Int)+1)=((i+1:Nat):Int):=bg (n:=3) (by omega) (by omega);rw[R];rcases S with rfl|rfl|rfl
  ·refine⟨_,aaY _ _ _,aa (λl=>⟨?_,f⟩) (λl=>aa (λk=>⟨?_,f⟩) (λk=>?_))⟩
   ·rw[if_pos (.inl (dw l))]at d;rw[<-d];rfl
   ·rw[if_pos (.inr (dw k))]at d;rw[<-d];rfl
   ·exact cz 2 (by omega) ⟨by omega,rfl,rfl,λ_=>⟨cD l,cD k⟩,λe=>by omega,λe=>by omega⟩
  ·have j:=j (by omega);rw[if_neg (λe=>e.elim j.1 j.2)]at d;refine⟨_,aaZ _ _ _,aa (λl=>⟨?_,f⟩) (λl=>aa (λk=>⟨?_,f⟩) (λk=>?_))⟩
   ·rw[if_pos (.inl (dw l))]at d;rw[<-d];rfl
   ·rw[if_pos (.inr (dw k))]at d;rw[<-d];rfl
   ·exact cz 1 (by omega) ⟨by omega,rfl,rfl,λ_=>j,λe=>⟨cD l,cD k⟩,λe=>by omega⟩
  ·have j:=j (by omega);have m:=m (by omega);rw[if_neg (λe=>e.elim j.1 j.2),if_neg (λe=>e.elim m.1 m.2)]at d;refine⟨_,aa0 _ _ _,aa (λl=>⟨?_,f⟩) (λl=>aa (λk=>⟨?_,f⟩) (λk=>?_))⟩
   ·rw[if_pos (.inl (dw l))]at d;rw[<-d];rfl
   ·rw[if_pos (.inr (dw k))]at d;rw[<-d];rfl
   ·exact cz 0 (by omega) ⟨by omega,rfl,rfl,λ_=>j,λ_=>m,λ_=>⟨cD l,cD k⟩⟩
 ·obtain rfl:i=3:=by grind
  have j:=j (by omega);have m:=m (by omega);have p:=p (by omega);rw[if_neg (λe=>e.elim j.1 j.2),if_neg (λe=>e.elim m.1 m.2),if_neg (λe=>e.elim p.1 p.2)]at d;have L:=nt F m.1 (.inr p.1);have K:=nt H m.2 (.inr p.2);refine⟨_,adE _,_,[],[],M,?_⟩;by_cases c:kind=1
  ·rw[if_pos c]at d⊢;refine aa (λ_=>(Tp L K d (v.ok f) s.wf).mono ?_) (λe=>by revert e;decide +kernel);rintro _ T ⟨rfl,E⟩;exact ka (f.trans E)
  ·rw[if_neg c]at d⊢;refine aa (λ_=>(Tu L K d (v.ok f) s.wf).mono ?_) (λe=>by revert e;decide +kernel);rintro _ T ⟨rfl,E⟩;exact ka (f.trans E)
end
end
noncomputable def Ye:FD:=dq Tryz.f181 []
theorem TX(i:Nat)(c:LB)(h:ae)(Q:VH)(j:fP 136 (pA i) 1 λg=>lB h g λf=>au f (fP 136 (pA i) 0 λe=>lI h e λd=>FW SS 18 [(.int .i64 d)] h λb c=>yS b λa=>Q (strOf a) c) (Q (strOf c) h)):FW SS 181 [(pA i),(strOf c)] h Q:=du Ye Tryz.func181 (ai j)
noncomputable def abD:FD:=dq Tryz.f158 []
theorem Yf(n:Nat)(a b:LB)(h:ae)(Q:VH)(o:fP 136 (pA n) 0 λm=>lI h m λl=>FW SS 62 [(.int .i64 l),(strOf a),(strOf b)] h λj k=>∃i:LB,∃h:Int,j=(.tuple ⟨[(strOf i),(.int .i64 h)]⟩)/\fP 136 (pA n) 1 λg=>lB k g λf=>au f (fP 136 (pA n) 1 λe=>xU (ah SS.P 4 (.pointer (some e)) (.bool true) k) k λ_ d=>FW SS 181 [(pA n),(strOf i)] d λb c=>yS b λa=>Q (strOf a) c) (fP 136 (pA n) 1 λe=>xU (ah SS.P 4 (.pointer (some e)) (.bool (((h:Int) !=0))) k) k λ_ d=>FW SS 181 [(pA n),(strOf i)] d λb c=>yS b λa=>Q (strOf a) c)):FW SS 158 [(pA n),(strOf a),(strOf b)] h Q:=du abD Tryz.func158 (ai o)
noncomputable def Yj:FD:=dq Tryz.f159 []
theorem TZ(n:Nat)(a b:LB)(h:ae)(Q:VH)(o:fP 136 (pA n) 0 λm=>lI h m λl=>FW SS 65 [(.int .i64 l),(strOf a),(strOf b)] h λj k=>∃i:LB,∃h:Int,j=(.tuple ⟨[(strOf i),(.int .i64 h)]⟩)/\fP 136 (pA n) 1 λg=>lB k g λf=>au f (fP 136 (pA n) 1 λe=>xU (ah SS.P 4 (.pointer (some e)) (.bool true) k) k λ_ d=>FW SS 181 [(pA n),(strOf i)] d λb c=>yS b λa=>Q (strOf a) c) (fP 136 (pA n) 1 λe=>xU (ah SS.P 4 (.pointer (some e)) (.bool (((h:Int) !=0))) k) k λ_ d=>FW SS 181 [(pA n),(strOf i)] d λb c=>yS b λa=>Q (strOf a) c)):FW SS 159 [(pA n),(strOf a),(strOf b)] h Q:=du Yj Tryz.func159 (ai o)
noncomputable def abE:FD:=dq Tryz.f157 []
theorem Yg(n:Nat)(a:LB)(h:ae)(Q:VH)(o:fP 136 (pA n) 0 λm=>lI h m λl=>FW SS 67 [(.int .i64 l),(strOf a)] h λj k=>∃i:LB,∃h:Int,j=(.tuple ⟨[(strOf i),(.int .i64 h)]⟩)/\fP 136 (pA n) 1 λg=>lB k g λf=>au f (fP 136 (pA n) 1 λe=>xU (ah SS.P 4 (.pointer (some e)) (.bool true) k) k λ_ d=>FW SS 181 [(pA n),(strOf i)] d λb c=>yS b λa=>Q (strOf a) c) (fP 136 (pA n) 1 λe=>xU (ah SS.P 4 (.pointer (some e)) (.bool (((h:Int) !=0))) k) k λ_ d=>FW SS 181 [(pA n),(strOf i)] d λb c=>yS b λa=>Q (strOf a) c)):FW SS 157 [(pA n),(strOf a)] h Q:=du abE Tryz.func157 (ai o)
noncomputable def pP:FD:=dq Tryz.f123 [([1,1,0,1,0,0],[0,1,4,5]),([1,1,0,1,0,0,1,0,0,1,1,0,0],[0,1,4,5,6])]
abbrev nw(b:Int)(a:OA)(n c:Nat)(i:Nat):LV:=[(.int .i64 b),(.slice a n c),(.bool false),(iA i)]
abbrev sn(b:Int)(a:OA)(n c i:Nat)(j:Nat):LV:=[(.int .i64 b),(.slice a n c),(.bool false),(iA i),(iA j)]
theorem adK(f:Int)(a:OA)(n c:Nat)(h:ae)(Q:VH)(g:FW SS 14 [(.int .i64 f)] h λd e=>yB d λb=>au (!b) (Q (.bool false) e) (LL SS pP [1,1,0,1,0,0] (nw f a n c 0) e (KK SS pP [1,1,0,1,0] [] (EE SS pP Q)))):FW SS 123 [(.int .i64 f),(.slice a n c)] h Q:=du pP Tryz.func123 (ai g)
theorem F4(e:Int)(a:OA)(n c:Nat)  (g:Nat->Nat->ae->Prop) (Q:VH) (step:∀(f:Nat)(i:Nat)(k:Nat->Value)(h:ae),g f i h->au (decide (((i:Int):Int)<(n:Int))) (iP 103 (.slice a n c) (iA i) λd=>lL 107 h d λ_ b _=>au ((((b:Int):Int) !=(n:Int))) (Q (.bool false) h) (LL SS pP [1,1,0,1,0,0,1,0,0,1,1,0,0] (sn e a n c i 0) h (KK SS pP [1,0,0,1,1,0] [1,1,0,1,0,0] (RR pP [1,1,0,1,0,0] (gp (nw e a n c) g) f (KK SS pP [1,1,0,1,0] [] (EE SS pP Q)))))) (Q (.bool true) h)) (f:Nat) {i:Nat} {h:ae} (j:g f i h):LL SS pP [1,1,0,1,0,0] (nw e a n c i) h (KK SS pP [1,1,0,1,0] [] (EE SS pP Q)):=
 dJ (nw e a n c) g (λf i k h j=>ai (step f i k h j)) f j
theorem F5(p:Int)(a:OA)(n c:Nat)(s:Nat->Nat->ae->Prop)(u i:Nat)(r:Nat->Nat->ae->Prop)(Q:VH)(step:∀(q:Nat) (j:Nat) (v:Nat->Value) (h:ae),r q j h->au (decide (((j:Int):Int)<(n:Int))) (iP 103 (.slice a n c) (iA i) λo=>lL 107 h o λk l m=>iP 107 (.slice k l m) (iA j) λg=>lS h g λf=>FW SS 47 [(.int .i64 p),(strOf f)] h λd e=>yB d λb=>au (!b) (Q (.bool false) e) (aM (gp (sn p a n c i) r) q [(.int .i64 p),(.slice a n c),(.bool false),(iA i),(.int .i64 (wrap .i64 ((j:Int)+1)))] e)) (aM (gp (nw p a n c) s) u [(.int .i64 p),(.slice a n c),(.bool false),(.int .i64 (wrap .i64 ((i:Int)+1)))] h))(q:Nat){j:Nat}{h:ae}(t:r q j h):LL SS pP [1,1,0,1,0,0,1,0,0,1,1,0,0] (sn p a n c i j) h (KK SS pP [1,0,0,1,1,0] [1,1,0,1,0,0] (RR pP [1,1,0,1,0,0] (gp (nw p a n c) s) u (KK SS pP [1,1,0,1,0] [] (EE SS pP Q)))):=
 dJ (sn p a n c i) r (λq j v h t=>ai (step q j v h t)) q t
noncomputable def pX:FD:=dq Tryz.f156 [([1,1,0,1,0,0],[0,1,5,6]),([1,1,0,1,0,0,1,0,0,1,0,0],[0,1,5,6,7])]
abbrev nI(a:Int)(n b:Nat)(i:Nat):LV:=[(.int .i64 a),(iA n),(sA b n n),(iA i)]
abbrev sI(a:Int)(n b i:Nat)(j:Nat):LV:=[(.int .i64 a),(iA n),(sA b n n),(iA i),(iA j)]
theorem aep(d:Int)(n:Nat)(h:ae)(Q:VH)(e:xR (cF SS.P 103 (iA n) (iA n)) h λ_ a b c=>LL SS pX [1,1,0,1,0,0] [(.int .i64 d),(iA n),(sA (h.next) a b),(.int .i64 0)] c (KK SS pX [1,1,0,1,0] [] (EE SS pX Q))):FW SS 156 [(.int .i64 d),(iA n)] h Q:=du pX Tryz.func156 (ai e)
theorem G9(a:Int)(n:Nat)(d:Nat)(c:Nat->Nat->ae->Prop)(Q:VH)(step:∀(b:Nat) (i:Nat) (f:Nat->Value) (h:ae),c b i h->au (decide (((i:Int):Int)<(n:Int))) (LL SS pX [1,1,0,1,0,0,1,0,0,1,0,0] (sI a n d i 0) h (KK SS pX [1,0,0,1,0] [1,1,0,1,0,0] (RR pX [1,1,0,1,0,0] (gp (nI a n d) c) b (KK SS pX [1,1,0,1,0] [] (EE SS pX Q))))) (Q (sA d n n) h))(b:Nat){i:Nat}{h:ae}(e:c b i h):LL SS pX [1,1,0,1,0,0] (nI a n d i) h (KK SS pX [1,1,0,1,0] [] (EE SS pX Q)):=
 dJ (nI a n d) c (λb i f h e=>ai (step b i f h e)) b e
theorem Ha(u:Int)(n:Nat)(w:Nat)(y:Nat->Nat->ae->Prop)(A i:Nat)(x:Nat->Nat->ae->Prop)(Q:VH)(step:∀(v:Nat) (j:Nat) (B:Nat->Value) (h:ae),x v j h->au (decide (((j:Int):Int)<(n:Int))) (iP 103 (sA w n n) (iA i) λt=>lL 107 (room h 12) t λq r s=>FW SS 18 [(.int .i64 u)] (room h 12) λo p=>yS o λm=>zR (aJ SS.P 107 1 [(0,(strOf m))]) λg k l=>xE (bR SS.P 107 107 (.slice q r s) (sA (h.next+8) k l) (cd p h.next [(8,g)])) (cd p h.next [(8,g)]) λc d e _ f=>iP 103 (sA w n n) (iA i) λb=>xU (ah SS.P 107 (.pointer (some b)) (.slice c d e) f) f λ_ a=>(aj SS.P 107 p (.pointer (some t))=some (.slice q r s)/\dV 4 (.slice q r s) (.slice q r s)=true)/\aM (gp (sI u n w i) x) v [(.int .i64 u),(iA n),(sA w n n),(iA i),(.int .i64 (wrap .i64 ((j:Int)+1)))] a) (aM (gp (nI u n w) y) A [(.int .i64 u),(iA n),(sA w n n),(.int .i64 (wrap .i64 ((i:Int)+1)))] h))(v:Nat){j:Nat}{h:ae}(z:x v j h):LL SS pX [1,1,0,1,0,0,1,0,0,1,0,0] (sI u n w i j) h (KK SS pX [1,0,0,1,0] [1,1,0,1,0,0] (RR pX [1,1,0,1,0,0] (gp (nI u n w) y) A (KK SS pX [1,1,0,1,0] [] (EE SS pX Q)))):=
 dJ (sI u n w i) x (λv j B h z=>ai (step v j B h z)) v z
section
theorem dy(s:dW)(l:List dW):bV (s::l)=s.arcs.length+bV l:=by simp[bV]
theorem F3{s:dW}:∀{l:List dW},s∈l->s.arcs.length<=bV l
 |x::l,h=>by
  rw[dy];rcases mem_cons.1 h with rfl|h
  ·omega
  ·have:=F3 h;omega
theorem Re{B:Nat}:∀{l:List dW},(∀s∈l,s.arcs.length<=B)->bV l<=l.length*B
 |[],_=>by simp[bV]
 |x::l,h=>by
  rw[dy,List.length_cons,Nat.add_mul,Nat.one_mul];have b:=h x (List.mem_cons_self ..);have c:=Re (l:=l) λs a=>h s (List.mem_cons_of_mem _ a);omega
def Bnd(M:bJ):Prop:=∀s∈M.af,s.arcs.length<=281474976710656
section
variable {h:ae} {k:Nat} {M:bJ} {a:Option Addr} {n c:Nat}
theorem XE(w:Wf h)(D:Bnd M)(t:M.af.length<=300)(r:dR h (.slice a n c) M.af):FW SS 56 [.agg ⟨bM M a n c⟩] h (λv E=>v = .int .i64 (bV M.af:Nat)/\Ok h E):=by
 obtain⟨x,I⟩:=fv w r;refine XD (bM M a n c) h _ ⟨_,iO M a n c,?_⟩;generalize h.push (Bm M a n c)=g at*;have J:=x.len;have C:=Re D;have u:M.af.length*281474976710656<=300*281474976710656:=Nat.mul_le_mul_right _ t;have P:bV M.af<=300*281474976710656:=Nat.le_trans C u;refine CH (bM M a n c) h.next (λm i f p=>i<=n/\m=n-i/\MB p h.next M a n c/\Ok h p/\∃j:Nat,f=(j:Int)/\j+bV (M.af.drop i)=bV M.af) (iQ h (bV M.af:Nat)) (λm i f=>?_) n (i:=0) (acc:=0) ⟨by omega,rfl,x,I,0,rfl,by rw[drop_zero];omega⟩;intros;rename_i N H;obtain⟨R,O,d,l,j,rfl,k⟩:=H;refine⟨_,dO _,_,_,_,d.l3,aa (λe=>?_) (λe=>?_)⟩
 ·have e:=dT e;obtain⟨s,q⟩:∃s,M.af[i]?=some s:=⟨_,gE (by omega)⟩
  obtain⟨b,o,K,y,z,B,Q,L,F,A⟩:=d.row.at_ q;have S:=A.len;rw[iS q,dy]at k;refine⟨_,dO _,_,_,_,d.l3,_,B,_,mh _ _,_,_,_,F,?_⟩;have G:wrap .i64 ((j:Int)+(y:Int))=((j+y:Nat):Int):=by rw[aF (by omega) (by omega)];omega
  dsimp only;rw[G,bg (i:=i) (n:=n) (by omega) (by omega)];exact jV (m-1) (by omega) ⟨by omega,by omega,d,l,_,rfl,by omega⟩
 ·have e:=dF e;rw[drop_eq_nil_of_le (by omega)]at k;refine⟨?_,l⟩;rw[show bV []=0 from rfl,Nat.add_zero]at k;rw[k]
end
end
theorem CX{a:Int}{N:Nat}:∀{l:List dW}{c:Int},qq a N c l=true->∀s∈l,(s.f==[]||bq a s.f)=true/\∀q∈s.arcs,jf a N q=true
 |[],_,_,s,b=>by cases b
 |x::l,c,h,s,b=>by
  unfold qq at h;simp only[and_eq_true]at h;obtain⟨⟨⟨i,f⟩,d⟩,g⟩:=h;rcases mem_cons.1 b with rfl|b
  ·exact⟨f,λq e=>List.all_eq_true.1 d q e⟩
  ·exact CX g s b
theorem ahm:aI SS.P 4=some 1:=by kernel_rfl
section
theorem GB:SS.P.underlying 107=some (.slice 9):=by rfl
theorem qp:SS.P.underlying 103=some (.slice 107):=by rfl
theorem zz9:aI SS.P 9=some 1:=by rfl
theorem pZ:aI SS.P 107=some 1:=by rfl
theorem Ly:Go.Ab.isAgg SS.P 107=false:=by rfl
theorem ty:MTy SS.P 103 107:=⟨qp,GB,NX,pZ,zz9,Ly,Ux⟩
theorem qx(k:Nat):bk SS.P 136 (.pointer (some ⟨k,0,none⟩)) 0=some (.pointer (some ⟨k,0,none⟩)):=by rfl
theorem se(k:Nat):bk SS.P 136 (.pointer (some ⟨k,0,none⟩)) 1=some (.pointer (some ⟨k,1,none⟩)):=by rfl
def pM(g:ae)(ks:Nat)(kind:Int)(bad:Bool):Prop:=g.get ks=some (.cells [.int .i64 kind,.bool bad] 136 0 true)
section
variable {g g' h:ae} {ks:Nat} {kind:Int} {bad:Bool}
theorem pM.l0(s:pM g ks kind bad):aj SS.P 3 g (.pointer (some ⟨ks,0,none⟩))=some (.int .i64 kind):=dp KL JA s (by simp)
theorem pM.l1(s:pM g ks kind bad):aj SS.P 4 g (.pointer (some ⟨ks,1,none⟩))=some (.bool bad):=dp un4 ag4 s (by simp)
theorem pM.st(s:pM g ks kind bad)(b:Bool):ah SS.P 4 (.pointer (some ⟨ks,1,none⟩)) (.bool b) g=some (undef,.set ks (.cells [.int .i64 kind,.bool b] 136 0 true)):=ll ahm s (by simp) rfl rfl
theorem pM.set(w:Wf g)(s:pM g ks kind bad)(b:Bool):pM ((eu.set ks (.cells [.int .i64 kind,.bool b] 136 0 true)).app g) ks kind b/\Cd (λk=>k=ks) g ((eu.set ks (.cells [.int .i64 kind,.bool b] 136 0 true)).app g):=
 ⟨by show(g.set ks _).get ks=_;rw[ae.ay,if_pos rfl],Cd.set (X:=λk=>k=ks) w rfl (w _ _ s) _⟩
theorem pM.ok(s:pM g ks kind bad)(o:Ok g g'):pM g' ks kind bad:=o.ext _ _ s
theorem Bi{a b c:List UInt8}(f:aO kind a=true)(d:aO kind b=true)(h:fD kind a b=some c):aO kind c=true:=by
 obtain⟨K,S,g,e⟩:=AF (kind:=kind) (by grind[iC]);exact(e.plus f d h).1
theorem CY{a b c:List UInt8}(f:aO kind a=true)(d:aO kind b=true)(h:cO kind a b=some c):aO kind c=true:=by
 obtain⟨K,S,g,e⟩:=AF (kind:=kind) (by grind[iC]);exact(e.times f d h).1
theorem YC{a c:List UInt8}(d:aO kind a=true)(h:nW kind a=some c):aO kind c=true:=by
 obtain⟨K,S,e,b⟩:=AF (kind:=kind) (by grind[iC]);exact(b.star d h).1
theorem yQ(a:1<=kind/\kind<=3):aO kind (bP kind)=true:=by
 obtain rfl|rfl|rfl:kind=1\/kind=2\/kind=3:=by omega
 all_goals rfl
theorem adP(a:1<=kind/\kind<=3):aO kind (r6 kind)=true:=by
 obtain rfl|rfl|rfl:kind=1\/kind=2\/kind=3:=by omega
 all_goals rfl
theorem TY(b:1<=kind/\kind<=3)(c:List UInt8)(s:pM h ks kind bad):FW SS 181 [pA ks,strOf c] h (λv a=>v=strOf (if bad=true then bP kind else c)/\a=h):=by
 refine TX ks c h _ ⟨_,se _,_,s.l1,aa (λq=>⟨_,qx _,_,s.l0,(jM b h).mono ?_⟩) (λq=>⟨?_,rfl⟩)⟩
 all_goals grind
def sQ(g:ae)(ks:Nat)(kind:Int)(bad:Bool)(o:Option (List UInt8)):VH:=λv g'=>∃(a:Bool)(c:List UInt8),v=strOf c/\pM g' ks kind a/\Cd (λk=>k=ks) g g'/\aO kind c=true/\(a=false->bad=false/\o=some c)/\(a=true->bad=true\/o=none)
theorem Yi(B:1<=kind/\kind<=3)(w:Wf g')(s:pM g' ks kind bad)(x:Ok g g'){o:Option (List UInt8)}(H:∀c,o=some c->aO kind c=true):∃(h:List UInt8)(n:Int),Pd o=(.tuple ⟨[(strOf h),(.int .i64 n)]⟩)/\xP (bk SS.P 136 (pA ks) 1) λA=>xB (aj SS.P 4 g' (.pointer (some A))) λz=>au z (xP (bk SS.P 136 (pA ks) 1) λC=>xU (ah SS.P 4 (.pointer (some C)) (.bool true) g') g' λE p=>FW SS 181 [(pA ks),(strOf h)] p λa f=>yS a λd=>sQ g ks kind bad o (strOf d) f) (xP (bk SS.P 136 (pA ks) 1) λm=>xU (ah SS.P 4 (.pointer (some m)) (.bool (((n:Int) !=0))) g') g' λG u=>FW SS 181 [(pA ks),(strOf h)] u λj v=>yS j λi=>sQ g ks kind bad o (strOf i) v):=by
 have F:∀(b:Bool)(l:List UInt8),(b=false->bad=false/\o=some l)->(b=true->bad=true\/o=none)->FW SS 181 [(pA ks),(strOf l)] ((eu.set ks (.cells [.int .i64 kind,.bool b] 136 0 true)).app g') λa f=>yS a λd=>sQ g ks kind bad o (strOf d) f:=λb l D k=>by
  obtain⟨r,y⟩:=s.set w b;refine(TY B l r).mono ?_;rintro _ I ⟨rfl,t⟩;refine⟨_,rfl,b,_,rfl,by rw[t];exact r,by rw[t];exact x.okS.trans y,?_,?_,k⟩
  all_goals grind[yQ]
 cases e:o with
 |some l=>
  refine⟨_,_,rfl,_,se _,_,s.l1,aa (λq=>⟨_,se _,_,s.st true,?_⟩) (λq=>⟨_,se _,_,s.st _,?_⟩)⟩
  all_goals simp_all
 |none=>
  refine⟨_,_,rfl,_,se _,_,s.l1,aa (λq=>⟨_,se _,_,s.st true,?_⟩) (λq=>⟨_,se _,_,s.st _,?_⟩)⟩
  all_goals simp_all
theorem Ni(w:Wf g)(s:pM g ks kind bad){a b:List UInt8}(f:aO kind a=true)(e:aO kind b=true):FW SS 158 [pA ks,strOf a,strOf b] g (sQ g ks kind bad (fD kind a b)):=by
 refine Yf ks a b g _ ⟨_,qx _,_,s.l0,(yu f e w).mono ?_⟩;rintro _ i ⟨rfl,d⟩;exact Yi (by grind[iC]) d.wf (s.ok d) d (λc h=>Bi f e h)
theorem IT(w:Wf g)(s:pM g ks kind bad){a b:List UInt8}(f:aO kind a=true)(e:aO kind b=true):FW SS 159 [pA ks,strOf a,strOf b] g (sQ g ks kind bad (cO kind a b)):=by
 refine TZ ks a b g _ ⟨_,qx _,_,s.l0,(Gg f e w).mono ?_⟩;rintro _ i ⟨rfl,d⟩;exact Yi (by grind[iC]) d.wf (s.ok d) d (λc h=>CY f e h)
theorem Yh(w:Wf g)(s:pM g ks kind bad){a:List UInt8}(d:aO kind a=true):FW SS 157 [pA ks,strOf a] g (sQ g ks kind bad (nW kind a)):=by
 refine Yg ks a g _ ⟨_,qx _,_,s.l0,(Th d w).mono ?_⟩;rintro _ f ⟨rfl,b⟩;exact Yi (by grind[iC]) b.wf (s.ok b) b (λc e=>YC d e)
end
noncomputable def YQ:TypeInfo:=(SS.P.info? 107).getD default
theorem YR:SS.P.info? 107=some YQ:=by rfl
theorem PU:YQ.size=1:=by rfl
theorem NF:YQ.bytes=24:=by rfl
theorem acm:zeroOf SS.P 107=some nA:=by rfl
theorem WR(n:Nat)(a:n<=100000):cF SS.P 103 (.int .i64 (n:Int)) (.int .i64 (n:Int))=some (.cells (List.replicate n nA) 107 1 true,ph n n):=by
 unfold cF cn;dsimp only;rw[qp]
 try dsimp only
 change (match SS.P.info? 107,zeroOf SS.P 107 with
  |some i,some z=>(if z.cells.size=i.size/\0<i.size/\(0:Int)<=(n:Int)/\(n:Int)<=(n:Int)/\(n:Int)*i.bytes<=140737488355328/\(n:Int)<=1099511627776 then some (eB.cells (dD z.cells.toList (n:Int).toNat) 107 i.size true,λk=>Value.slice (some ⟨k,0,none⟩) (n:Int).toNat (n:Int).toNat)else none)
  |_,_=>none)=_
 rw[YR,acm];dsimp only;rw[PU,NF,if_pos ⟨rfl,by omega,by omega,Int.le_refl _,by omega,by omega⟩];have e:((n:Int)).toNat=n:=by omega
 rw[e,show(nA).cells.toList=[nA]from rfl,pY];rfl
noncomputable def re9:TypeInfo:=(fE SS.P 9).getD default
theorem ad0:fE SS.P 9=some re9:=by rfl
theorem XP:re9.size=1:=by rfl
theorem TD:re9.bytes=16:=by rfl
theorem afW:eI SS.P 107=true:=by rfl
theorem acx(l:List UInt8):aJ SS.P 107 1 [(0,strOf l)]=some (.cells [strOf l] 9 1 true,ph 1 1):=by rfl
theorem mj(k n c:Nat):dV 4 (.slice (some ⟨k,0,none⟩) n c) (.slice (some ⟨k,0,none⟩) n c)=true:=by simp[dV]
theorem aei:dV 4 nA nA=true:=by rfl
def uO(n i:Nat)(ks cs:Nat->Nat)(x:Value):List Value:=(List.range n).map λa=>if a<i then vS (ks a) n (cs a)else if a=i then x else nA
theorem xj(n i:Nat)(ks cs:Nat->Nat)(x:Value):(uO n i ks cs x).length=n:=by grind[uO]
theorem Gb(h:i<n)(ks cs:Nat->Nat)(x:Value):(uO n i ks cs x).getD i undef=x:=by simp_all[uO]
theorem MN(ks cs:Nat->Nat)(x y:Value):(uO n i ks cs x).set i y=uO n i ks cs y:=by
 unfold uO;refine ext_getElem (by simp) λa b c=>?_
 grind
theorem IA{ks cs:Nat->Nat}{c:Nat}:uO n i ks cs (vS k n c)=uO n (i+1) (λa=>if a=i then k else ks a) (λa=>if a=i then c else cs a) nA:=by
 unfold uO
 grind
structure ZI(h:ae)(n:Nat)(z:List UInt8)(kr i:Nat)(x:Value)(ks cs:Nat->Nat)(g:ae):Prop where
 out:g.get kr=some (.cells (uO n i ks cs x) 107 1 true)
 new:h.next<=kr
 row:∀a,a<i->VB g (ks a) (List.replicate n z)
 ne:∀a,a<i->ks a≠kr/\h.next<=ks a
 inj:∀a b,a<i->b<i->ks a=ks b->a=b
 ok:Ok h g
theorem ZI.lt{h:ae}{z:List UInt8}{x:Value}{ks cs:Nat->Nat}{g:ae}(b:ZI h n z m i x ks cs g):m<g.next/\∀a,a<i->ks a<g.next:=⟨b.ok.wf _ _ b.out,λa c=>b.ok.wf _ _ (b.row a c)⟩
theorem ZI.kL{h:ae}(w:Wf h){n:Nat}{z:List UInt8}{b i:Nat}{x y:Value}{ks cs:Nat->Nat}{g g':ae}(m:ZI h n z b i x ks cs g)(e:Ok h g')(d:g'.get b=some (.cells (uO n i ks cs y) 107 1 true))(f:∀a,a<i->g'.get (ks a)=g.get (ks a)):ZI h n z b i y ks cs g':=
 ⟨d,m.new,λa c=>by have:=m.row a c;grind[VB],m.ne,m.inj,e⟩
theorem XW(j:Nat)(z:A):List.replicate (j+1) z=List.replicate j z++[z]:=List.replicate_succ'
theorem abe{g:ae}(w:Wf g){n j:Nat}(a:j<n)(B:eB):Ok g (cd (Go.Ab.room g n) g.next [(j,B)])/\(cd (Go.Ab.room g n) g.next [(j,B)]).get (g.next+j)=some B/\(cd (Go.Ab.room g n) g.next [(j,B)]).next=g.next+n:=⟨(QV w a B).1,(QV w a B).2,rfl⟩
def agh(h:ae)(n:Nat)(z:List UInt8)(c i:Nat)(b j:Nat)(g:ae):Prop:=j<=n/\b=n-j/\∃(ks cs:Nat->Nat)(x:Value),ZI h n z c i x ks cs g/\DQ h g 9 x (fk (List.replicate j z))/\∀k,fN x=some k->k≠c/\∀a,a<i->ks a≠k
set_option linter.defProp false in
def Uv{h:ae}(w:Wf h){kind:Int}(V:1<=kind/\kind<=3){n f i:Nat}(r:i<n)(hn:n<=1000)(t:Nat->Nat->ae->Prop)(I:Nat)(Q:VH)(L:∀g,(∃ks cs,ZI h n (bP kind) f (i+1) nA ks cs g)->aM (gp (nI kind n f) t) I [.int .i64 kind,iA n,sA f n n,iA (i+1)] g):=
 Ha kind n f t I i (agh h n (bP kind) f i) Q (by
  intro x0 j;intros;rename_i g H;obtain⟨f1,f2,ks,cs,x,m,B,C⟩:=H;refine aa (λq=>?_) (λq=>?_)
  ·have q:j<n:=by have:=dT q;omega
   have Z:(Go.Ab.room g 12).get f=some (.cells (uO n i ks cs x) 107 1 true):=m.out;have z:aj SS.P 107 (Go.Ab.room g 12) (.pointer (some ⟨f,i,none⟩))=some x:=by rw[dp GB Ly Z (by grind[xj]),Gb r]
   obtain⟨G,S,J,X,K⟩:∃a n c,x = .slice a n c/\dV 4 x x=true:=by
    rcases B with⟨e,_⟩|⟨k,e,_⟩
    all_goals grind[aei,mj]
   subst X;refine⟨_,FP qp pZ r,_,_,_,z,(jM V _).mono ?_⟩;rintro _ g0 ⟨rfl,W⟩;obtain rfl:Go.Ab.room g 12=g0:=W.symm;refine⟨_,rfl,_,_,_,acx _,?_⟩;obtain⟨p,U,x1⟩:=abe m.ok.wf (show 8<12 by omega) (.cells [strOf (bP kind)] 9 1 true);generalize cd (Go.Ab.room g 12) g.next [(8,.cells [strOf (bP kind)] 9 1 true)]=l at*;have s:=m.ok.trans p;have N:DQ h l 9 (.slice G S J) (fk (List.replicate j (bP kind))):=by
    rcases B with e|⟨k,e,R,E⟩
    ·exact .inl e
    ·exact .inr ⟨k,e,R,p.ext _ _ E⟩
   have A:gZ l 1 (sA (g.next+8) 1 1)=some ([strOf (bP kind)],1):=Ez U rfl;obtain⟨u,T,a2,M,a4,P⟩:=DQ.afU GB ad0 XP afW w s N A rfl (by grind[TD,gb]) (by grind[gb]);rw[gb,length_replicate]at T;refine⟨_,_,_,u,T,?_⟩;have v:(u.app l).get f=some (.cells (uO n i ks cs (.slice G S J)) 107 1 true):=P _ _ (p.ext _ _ m.out) (λe=>(C f e).1 rfl);have x3:∀a,a<i->(u.app l).get (ks a)=g.get (ks a):=λa o=>by
    have:=m.row a o;unfold VB at this;rw[this];exact P _ _ (p.ext _ _ this) (λe=>(C _ e).2 a o rfl)
   generalize u.app l=D at*;refine⟨_,FP qp pZ r,_,ll pZ v (by grind[xj]) rfl rfl,⟨z,K⟩,?_⟩;rw[MN];rw[bg (i:=j) (n:=n) q (by omega)];have F:=m.lt;have x2:l.next≠f:=by have:=F.1;omega
   refine cz (n-(j+1)) (by omega) ⟨by omega,rfl,ks,cs,.slice (some ⟨l.next,0,none⟩) (j+1) (dK+(j+1)),m.kL w ?_ ?_ ?_,.inr ⟨l.next,?_,s.nx,?_⟩,?_⟩
   ·exact M.set _ m.new (M.wf _ _ v) w
   ·show(D.set f _).get f=_;rw[ae.ay,if_pos rfl]
   ·intro a o;show(D.set f _).get (ks a)=_;rw[ae.ay,if_neg (m.ne a o).1];grind
   ·rw[gb,length_replicate]
   ·show(D.set f _).get l.next=_
    simp_all[ae.ay,XW,fk]
   ·intro k Y;obtain rfl:l.next=k:=oI Y
    grind
  ·have q:=dF q;obtain rfl:j=n:=by omega
   rw[bg r (by omega)];refine L g ?_;rcases B with⟨_,e⟩|⟨k,e,R,E⟩
   ·have:=congrArg List.length e
    grind[gb]
   ·rw[gb,length_replicate]at e;obtain⟨b1,b2⟩:=C k (by rw[e];rfl);have O:=m.out;rw[e,show(Value.slice (some ⟨k,0,none⟩) j (dK+j))=vS k j (dK+j)from rfl,IA]at O;refine⟨_,_,O,m.new,λa o=>?_,λa o=>?_,λa b o hb y=>?_,m.ok⟩
    ·by_cases c:a=i
     ·rw[if_pos c];exact E
     ·rw[if_neg c];exact m.row a (by omega)
    ·by_cases c:a=i
     ·grind
     ·rw[if_neg c];exact m.ne a (by omega)
    ·by_cases c:a=i<;>by_cases d:b=i
     ·omega
     ·grind
     ·grind
     ·rw[if_neg c,if_neg d]at y;exact m.inj a b (by omega) (by omega) y)
theorem ZJ{h:ae}(w:Wf h){kind:Int}(t:1<=kind/\kind<=3){n:Nat}(p:n<=1000):FW SS 156 [.int .i64 kind,iA n] h (λv g=>∃f ks cs,v=sA f n n/\vL 107 g f ks cs (List.replicate n (List.replicate n (bP kind)))/\Ok h g/\h.next<=f/\∀i,i<n->h.next<=ks i):=by
 refine aep kind n h _ ⟨_,_,_,WR n (by omega),?_⟩;have u:=aN h (.cells (List.replicate n nA) 107 1 true);have r:=(Ok.refl w).push (.cells (List.replicate n nA) 107 1 true);refine G9 kind n h.next (λd i g=>i<=n/\d=n-i/\∃ks cs,ZI h n (bP kind) h.next i nA ks cs g) _ (λd i=>?_) n (i:=0) ⟨by omega,rfl,λ_=>0,λ_=>0,?_,Nat.le_refl _,λa c=>by omega,λa c=>by omega,λa b c=>by omega,r⟩
 ·intros;rename_i g s;obtain⟨A,z,ks,cs,m⟩:=s;refine aa (λq=>?_) (λq=>?_)
  ·have q:i<n:=by have:=dT q;omega
   refine Uv w t q p _ d _ (λg' l=>?_) n (j:=0) ⟨by omega,rfl,ks,cs,nA,m,.inl ⟨rfl,rfl⟩,λk e=>by cases e⟩;exact cz (n-(i+1)) (by omega) ⟨by omega,rfl,l⟩
  ·have q:=dF q;obtain rfl:i=n:=by omega
   have l:∀a,a<i->(List.replicate i (List.replicate i (bP kind))).getD a []=List.replicate i (bP kind):=λa c=>by grind
   refine⟨h.next,ks,cs,rfl,⟨?_,λa c=>?_,λa c=>?_,λa b c o=>?_⟩,m.ok,Nat.le_refl _,λa c=>(m.ne a c).2⟩
   ·rw[m.out,length_replicate]
    simp_all[uO]
   ·rw[length_replicate]at c;rw[l a c];exact m.row a c
   ·rw[length_replicate]at c;exact(m.ne a c).1
   ·rw[length_replicate]at c o;exact m.inj a b c o
 ·rw[u];congr 2;unfold uO;refine ext_getElem (by simp) λa x y=>?_;simp
theorem adL{h:ae}(w:Wf h){kind:Int}(S:1<=kind/\kind<=3){a:Option Addr}{n c:Nat}{R:List (List (List UInt8))}(r:Ou 107 h (.slice a n c) R)(A:∀l∈R,l.length=R.length)(D:∀l∈R,∀x∈l,aO kind x=true)(M:n<=3000):FW SS 123 [.int .i64 kind,.slice a n c] h (λv g=>v = .bool true/\Ok h g):=by
 have F:=r.len;refine adK kind a n c h _ ((sx kind h).mono ?_);rintro _ L ⟨rfl,J⟩;obtain rfl:h=L:=J.symm;refine⟨_,rfl,aa (λe=>?_) (λ_=>?_)⟩
 ·grind
 refine F4 kind a n c (λo i g=>i<=n/\o=n-i/\Ok h g) _ (λo i=>?_) n (i:=0) ⟨by omega,rfl,Ok.refl w⟩;intros;rename_i g H;obtain⟨W,Q,y⟩:=H;refine aa (λq=>?_) (λq=>⟨rfl,y⟩);have q:i<n:=by have:=dT q;omega
 have f:R.getD i []∈R:=by
  rw[gD,gE (by omega)];exact List.getElem_mem _
 obtain⟨p,I,b,E,s,u,t⟩:=(r.ok y).at_ ty (i:=i) (by omega);have B:=t.len;rw[gb,A _ f,<-F]at B;subst B;refine⟨_,s,_,_,_,u,aa (λe=>by grind) (λ_=>?_)⟩;refine F5 kind a b c _ o i (λm j g=>j<=b/\m=b-j/\Ok h g) _ (λm j=>?_) b (j:=0) ⟨by omega,rfl,y⟩;intros;rename_i N z;obtain⟨U,V,d⟩:=z;refine aa (λk=>?_) (λk=>?_)
 ·have k:j<b:=by have:=dT k;omega
  obtain⟨p,I,T,E,s,u,t⟩:=(r.ok d).at_ ty (i:=i) (by omega);obtain⟨O,K,C⟩:=Rd.cell ty t (j:=j) (by grind);refine⟨_,s,_,_,_,u,_,K,_,C,(kW (D _ f _ ?_) d.wf).mono ?_⟩
  ·grind
  rintro _ P ⟨rfl,G⟩;refine⟨_,rfl,aa (λe=>by cases e) (λ_=>?_)⟩;rw[bg k (by omega)];exact cz (b-(j+1)) (by omega) ⟨by omega,rfl,d.trans G⟩
 ·rw[bg q (by omega)];exact cz (b-(i+1)) (by omega) ⟨by omega,rfl,d⟩
end
noncomputable def bN:FD:=dq Tryz.f124 [([1,1,1,0,1,0,0],[0,1,5,6,7]),([1,1,1,1,0,1,0,0],[0,5,6,8]),([1,1,1,1,0,1,0,0,1,0,0,1,1,0,1,0,0],[0,5,6,8,9,10,11]),([1,1,1,1,1,0,1,0,0],[0,5,6,13]),([1,1,1,1,0,1,0,0,1,0,0,1,1,0,1,0,0,1,0,0,1,0,0],[0,5,6,8,9,10,11,12])]
abbrev s7(d:Nat)(a:OA)(n c b:Nat)(i:Nat):LV:=[(pA d),(.slice a n c),(iA n),(sA b n n),(iA i)]
abbrev fF(b n:Nat)(k a:Nat):LV:=[(pA b),(iA n),(sA a n n),(iA k)]
abbrev mB(c n b a k:Nat)(l:LB)(i:Nat):LV:=[(pA c),(iA n),(sA b n n),(iA k),(sA a n n),(strOf l),(iA i)]
abbrev mC(b n a:Nat)(i:Nat):LV:=[(pA b),(iA n),(sA a n n),(iA i)]
abbrev jP(c n b a k i:Nat)(l:LB)(j:Nat):LV:=[(pA c),(iA n),(sA b n n),(iA k),(sA a n n),(strOf l),(iA i),(iA j)]
theorem YD(k:Nat)(a:OA)(n c:Nat)(h:ae)(Q:VH)(l:fP 136 (pA k) 0 λj=>lI h j λi=>FW SS 156 [(.int .i64 i),(iA n)] h λf g=>yL f λb d e=>LL SS bN [1,1,1,0,1,0,0] [(pA k),(.slice a n c),(iA n),(.slice b d e),(.int .i64 0)] g (KK SS bN [1,1,1,0,1,0] [] (EE SS bN Q))):FW SS 124 [(pA k),(.slice a n c)] h Q:=du bN Tryz.func124 (ai l)
theorem CS(r:Nat)(a:OA)(n c:Nat)(q:Nat)(p:Nat->Nat->ae->Prop)(Q:VH)(step:∀(o:Nat) (i:Nat) (t:Nat->Value) (h:ae),p o i h->au (decide (((i:Int):Int)<(n:Int))) (iP 103 (sA q n n) (iA i) λm=>lL 107 (room h 9) m λj k l=>iP 103 (.slice a n c) (iA i) λg=>lL 107 (room h 9) g λd e f=>xC (copyV SS.P 107 (.slice j k l) (.slice d e f) (room h 9)) (room h 9) λ_ _ b=>aM (gp (s7 r a n c q) p) o [(pA r),(.slice a n c),(iA n),(sA q n n),(.int .i64 (wrap .i64 ((i:Int)+1)))] b) (LL SS bN [1,1,1,1,0,1,0,0] (fF r n 0 q) h (KK SS bN [1,1,1,1,0,1,0] [] (EE SS bN Q))))(o:Nat){i:Nat}{h:ae}(s:p o i h):LL SS bN [1,1,1,0,1,0,0] (s7 r a n c q i) h (KK SS bN [1,1,1,0,1,0] [] (EE SS bN Q)):=
 dJ (s7 r a n c q) p (λo i t h s=>ai (step o i t h s)) o s
theorem CT(u:Nat)(a:OA)(n c:Nat)  (t:Nat->Nat->Nat->ae->Prop) (Q:VH) (step:∀(s:Nat)(k kb:Nat)(w:Nat->Value)(h:ae),t s k kb h->au (decide (((k:Int):Int)<(n:Int))) (fP 136 (pA u) 0 λr=>lI h r λq=>FW SS 156 [(.int .i64 q),(iA n)] h λo p=>yL o λj l m=>iP 103 (sA kb n n) (iA k) λi=>lL 107 p i λf g h=>iP 107 (.slice f g h) (iA k) λe=>lS p e λd=>FW SS 157 [(pA u),(strOf d)] p λb c=>yS b λa=>LL SS bN [1,1,1,1,0,1,0,0,1,0,0,1,1,0,1,0,0] [(pA u),(iA n),(sA kb n n),(iA k),(.slice j l m),(strOf a),(.int .i64 0)] c (KK SS bN [1,0,0,1,1,0,1,0] [1,1,1,1,0,1,0,0] (RR bN [1,1,1,1,0,1,0,0] (tE (fF u n) t) s (KK SS bN [1,1,1,1,0,1,0] [] (EE SS bN Q))))) (LL SS bN [1,1,1,1,1,0,1,0,0] (mC u n kb 0) h (KK SS bN [1,1,1,1,1,0,1,0] [] (EE SS bN Q)))) (s:Nat) {k kb:Nat} {h:ae} (v:t s k kb h):LL SS bN [1,1,1,1,0,1,0,0] (fF u n k kb) h (KK SS bN [1,1,1,1,0,1,0] [] (EE SS bN Q)):=
 pU (fF u n) t (λs k kb w h v=>ai (step s k kb w h v)) s v
theorem CU(e:Nat)(a:OA)(n c:Nat)(m g:Nat)(l:LB)(f:Nat->Nat->Nat->ae->Prop)(j k:Nat)(d:Nat->Nat->ae->Prop)(Q:VH)(step:∀(b:Nat) (i:Nat) (p:Nat->Value) (h:ae),d b i h->au (decide (((i:Int):Int)<(n:Int))) (LL SS bN [1,1,1,1,0,1,0,0,1,0,0,1,1,0,1,0,0,1,0,0,1,0,0] (jP e n m g k i l 0) h (KK SS bN [1,0,0,1,0] [1,1,1,1,0,1,0,0,1,0,0,1,1,0,1,0,0] (RR bN [1,1,1,1,0,1,0,0,1,0,0,1,1,0,1,0,0] (gp (mB e n m g k l) d) b (KK SS bN [1,0,0,1,1,0,1,0] [1,1,1,1,0,1,0,0] (RR bN [1,1,1,1,0,1,0,0] (tE (fF e n) f) j (KK SS bN [1,1,1,1,0,1,0] [] (EE SS bN Q))))))) (aM (tE (fF e n) f) j [(pA e),(iA n),(sA g n n),(.int .i64 (wrap .i64 ((k:Int)+1)))] h))(b:Nat){i:Nat}{h:ae}(o:d b i h):LL SS bN [1,1,1,1,0,1,0,0,1,0,0,1,1,0,1,0,0] (mB e n m g k l i) h (KK SS bN [1,0,0,1,1,0,1,0] [1,1,1,1,0,1,0,0] (RR bN [1,1,1,1,0,1,0,0] (tE (fF e n) f) j (KK SS bN [1,1,1,1,0,1,0] [] (EE SS bN Q)))):=
 dJ (mB e n m g k l) d (λb i p h o=>ai (step b i p h o)) b o
theorem CV(A:Nat)(a:OA)(n c:Nat)(z:Nat)(y:Nat->Nat->ae->Prop)(Q:VH)(step:∀(x:Nat) (i:Nat) (C:Nat->Value) (h:ae),y x i h->au (decide (((i:Int):Int)<(n:Int))) (iP 103 (sA z n n) (iA i) λw=>lL 107 (room h 21) w λt u v=>fP 136 (pA A) 0 λs=>lI (room h 21) s λr=>FW SS 22 [(.int .i64 r)] (room h 21) λp q=>yS p λo=>iP 103 (sA z n n) (iA i) λm=>lL 107 q m λj k l=>iP 107 (.slice j k l) (iA i) λg=>lS q g λf=>FW SS 158 [(pA A),(strOf o),(strOf f)] q λd e=>yS d λc=>iP 107 (.slice t u v) (iA i) λb=>xU (ah SS.P 9 (.pointer (some b)) (strOf c) e) e λ_ a=>(aj SS.P 107 q (.pointer (some w))=some (.slice t u v)/\dV 4 (.slice t u v) (.slice t u v)=true)/\(aj SS.P 107 e (.pointer (some w))=some (.slice t u v)/\dV 4 (.slice t u v) (.slice t u v)=true)/\(aj SS.P 107 (room h 21) (.pointer (some m))=some (.slice j k l)/\dV 4 (.slice j k l) (.slice j k l)=true)/\(aj SS.P 9 (room h 21) (.pointer (some g))=some (strOf f)/\dV 4 (strOf f) (strOf f)=true)/\aM (gp (mC A n z) y) x [(pA A),(iA n),(sA z n n),(.int .i64 (wrap .i64 ((i:Int)+1)))] a) (Q (sA z n n) h))(x:Nat){i:Nat}{h:ae}(B:y x i h):LL SS bN [1,1,1,1,1,0,1,0,0] (mC A n z i) h (KK SS bN [1,1,1,1,1,0,1,0] [] (EE SS bN Q)):=
 dJ (mC A n z) y (λx i C h B=>ai (step x i C h B)) x B
theorem CW(B:Nat)(a:OA)(n c:Nat)(A D:Nat)(l:LB)(x1:Nat->Nat->Nat->ae->Prop)(x2 k:Nat)(T:Nat->Nat->ae->Prop)(x0 i:Nat)(E:Nat->Nat->ae->Prop)(Q:VH)(step:∀(C:Nat) (j:Nat) (zz:Nat->Value) (h:ae),E C j h->au (decide (((j:Int):Int)<(n:Int))) (iP 103 (sA D n n) (iA i) λe5=>lL 107 (room h 14) e5 λe2 e3 e4=>iP 103 (sA A n n) (iA i) λe1=>lL 107 (room h 14) e1 λd8 d9 e0=>iP 107 (.slice d8 d9 e0) (iA j) λd7=>lS (room h 14) d7 λd6=>iP 107 (.slice e2 e3 e4) (iA j) λd5=>xU (ah SS.P 9 (.pointer (some d5)) (strOf d6) (room h 14)) (room h 14) λ_ U=>iP 103 (sA A n n) (iA i) λd3=>lL 107 (room U 28) d3 λS R K=>iP 107 (.slice S R K) (iA k) λc9=>lS (room U 28) c9 λN=>fP 136 (pA B) 0 λc7=>lI (room U 28) c7 λc6=>FW SS 18 [(.int .i64 c6)] (room U 28) λc4 J=>yS c4 λc3=>au (!((N:LB)==c3)) (iP 103 (sA A n n) (iA k) λc2=>lL 107 J c2 λV Z W=>iP 107 (.slice V Z W) (iA j) λb8=>lS J b8 λX=>fP 136 (pA B) 0 λb6=>lI J b6 λb5=>FW SS 18 [(.int .i64 b5)] J λb3 F=>yS b3 λb2=>(aj SS.P 107 J (.pointer (some d3))=some (.slice S R K)/\dV 4 (.slice S R K) (.slice S R K)=true)/\(aj SS.P 9 J (.pointer (some c9))=some (strOf N)/\dV 4 (strOf N) (strOf N)=true)/\(aj SS.P 107 F (.pointer (some c2))=some (.slice V Z W)/\dV 4 (.slice V Z W) (.slice V Z W)=true)/\(aj SS.P 9 F (.pointer (some b8))=some (strOf X)/\dV 4 (strOf X) (strOf X)=true)/\au (!((X:LB)==b2)) (iP 103 (sA D n n) (iA i) λY=>lL 107 (room F 35) Y λH G I=>iP 103 (sA A n n) (iA i) λa7=>lL 107 (room F 35) a7 λO P M=>iP 107 (.slice O P M) (iA j) λa3=>lS (room F 35) a3 λL=>iP 103 (sA A n n) (iA i) λa1=>lL 107 (room F 35) a1 λy z a0=>iP 107 (.slice y z a0) (iA k) λx=>lS (room F 35) x λw=>FW SS 159 [(pA B),(strOf w),(strOf l)] (room F 35) λu v=>yS u λt=>iP 103 (sA A n n) (iA k) λs=>lL 107 v s λp q r=>iP 107 (.slice p q r) (iA j) λo=>lS v o λm=>FW SS 159 [(pA B),(strOf t),(strOf m)] v λg h=>yS g λf=>FW SS 158 [(pA B),(strOf L),(strOf f)] h λd e=>yS d λc=>iP 107 (.slice H G I) (iA j) λb=>xU (ah SS.P 9 (.pointer (some b)) (strOf c) e) e λ_ a=>(aj SS.P 107 v (.pointer (some Y))=some (.slice H G I)/\dV 4 (.slice H G I) (.slice H G I)=true)/\(aj SS.P 107 h (.pointer (some Y))=some (.slice H G I)/\dV 4 (.slice H G I) (.slice H G I)=true)/\(aj SS.P 107 e (.pointer (some Y))=some (.slice H G I)/\dV 4 (.slice H G I) (.slice H G I)=true)/\(aj SS.P 107 v (.pointer (some a7))=some (.slice O P M)/\dV 4 (.slice O P M) (.slice O P M)=true)/\(aj SS.P 107 h (.pointer (some a7))=some (.slice O P M)/\dV 4 (.slice O P M) (.slice O P M)=true)/\(aj SS.P 9 v (.pointer (some a3))=some (strOf L)/\dV 4 (strOf L) (strOf L)=true)/\(aj SS.P 9 h (.pointer (some a3))=some (strOf L)/\dV 4 (strOf L) (strOf L)=true)/\(aj SS.P 107 (room F 35) (.pointer (some s))=some (.slice p q r)/\dV 4 (.slice p q r) (.slice p q r)=true)/\(aj SS.P 9 (room F 35) (.pointer (some o))=some (strOf m)/\dV 4 (strOf m) (strOf m)=true)/\aM (gp (jP B n A D k i l) E) C [(pA B),(iA n),(sA A n n),(iA k),(sA D n n),(strOf l),(iA i),(.int .i64 (wrap .i64 ((j:Int)+1)))] a) (aM (gp (jP B n A D k i l) E) C [(pA B),(iA n),(sA A n n),(iA k),(sA D n n),(strOf l),(iA i),(.int .i64 (wrap .i64 ((j:Int)+1)))] F)) ((aj SS.P 107 J (.pointer (some d3))=some (.slice S R K)/\dV 4 (.slice S R K) (.slice S R K)=true)/\(aj SS.P 9 J (.pointer (some c9))=some (strOf N)/\dV 4 (strOf N) (strOf N)=true)/\aM (gp (jP B n A D k i l) E) C [(pA B),(iA n),(sA A n n),(iA k),(sA D n n),(strOf l),(iA i),(.int .i64 (wrap .i64 ((j:Int)+1)))] J)) (aM (gp (mB B n A D k l) T) x0 [(pA B),(iA n),(sA A n n),(iA k),(sA D n n),(strOf l),(.int .i64 (wrap .i64 ((i:Int)+1)))] h))(C:Nat){j:Nat}{h:ae}(hi:E C j h):LL SS bN [1,1,1,1,0,1,0,0,1,0,0,1,1,0,1,0,0,1,0,0,1,0,0] (jP B n A D k i l j) h (KK SS bN [1,0,0,1,0] [1,1,1,1,0,1,0,0,1,0,0,1,1,0,1,0,0] (RR bN [1,1,1,1,0,1,0,0,1,0,0,1,1,0,1,0,0] (gp (mB B n A D k l) T) x0 (KK SS bN [1,0,0,1,1,0,1,0] [1,1,1,1,0,1,0,0] (RR bN [1,1,1,1,0,1,0,0] (tE (fF B n) x1) x2 (KK SS bN [1,1,1,1,0,1,0] [] (EE SS bN Q)))))):=
 dJ (jP B n A D k i l) E (λC j zz h hi=>ai (step C j zz h hi)) C hi
noncomputable def XC:FD:=dq Tryz.f97 []
theorem Tk(m:Int)(a:OA)(n c:Nat)(h:ae)(Q:VH)(o:FW SS 123 [(.int .i64 m),(.slice a n c)] h λk l=>yB k λj=>au (!j) (Q (.tuple ⟨[nA,(.int .i64 1)]⟩) l) (au (decide (((n:Int):Int)>60)) (Q (.tuple ⟨[nA,(.int .i64 2)]⟩) l) (xA (bu SS.P 136 [(0,(.int .i64 m))]) λi=>xN (fu SS.P 136 (.agg ⟨i⟩)) l λ_ h=>FW SS 124 [(pA (l.next)),(.slice a n c)] h λf g=>yL f λc d e=>fP 136 (pA (l.next)) 1 λb=>lB g b λa=>au a (Q (.tuple ⟨[nA,(.int .i64 2)]⟩) g) (Q (.tuple ⟨[(.slice c d e),(.int .i64 0)]⟩) g)))):FW SS 97 [(.int .i64 m),(.slice a n c)] h Q:=du XC Tryz.func97 (ai o)
section
def bo(kind:Int):sK (List UInt8):=⟨bP kind,r6 kind,λa=>a==bP kind,fD kind,cO kind,nW kind⟩
abbrev LM:=List (List (List UInt8))
structure Sq(kind:Int)(n:Nat)(B:LM):Prop where
 len:B.length=n
 row:∀i,i<n->(B.getD i []).length=n
 val:∀i j,i<n->j<n->aO kind ((B.getD i []).getD j [])=true
theorem fz{l:List A}{i:Nat}(a:i<l.length)(v d:A)(j:Nat):(l.set i v).getD j d=if j=i then v else l.getD j d:=by grind
theorem Sq.put{kind:Int}{n:Nat}{B:LM}(s:Sq kind n B){i j:Nat}(d:i<n)(h:j<n){x:List UInt8}(g:aO kind x=true):Sq kind n (B.set i ((B.getD i []).set j x)):=by
 have f:=s.len;refine⟨by grind,λa c=>?_,λa b c e=>?_⟩
 ·rw[fz (by omega)];split
  ·rw[length_set];exact s.row i d
  ·exact s.row a c
 ·rw[fz (by omega)];split
  ·rw[fz (by rw[s.row i d];omega)];split
   ·omega
   ·exact s.val i b d e
  ·exact s.val a b c e
theorem Iq{l:List (List UInt8)}{j:Nat}(b:j<l.length)(d a:List UInt8):l.getD j d=l.getD j a:=by grind
theorem Sq.Ox{kind:Int}{n:Nat}{B:LM}(s:Sq kind n B){i j:Nat}(a:i<n)(b:j<n):ch (bo kind) B i j=(B.getD i []).getD j []:=Iq (by rw[s.row i a];omega) _ _
def R2(kind:Int)(n:Nat)(B:LM)(k:Nat):Option LM:=match bt (gQ (bo kind)) (n-k) k B with
 |none=>none
 |some a=>bt (qt (bo kind)) n 0 a
def R3(kind:Int)(n:Nat)(B:LM)(l:List UInt8)(k:Nat)(C:LM)(i:Nat):Option LM:=match bt (jJ (bo kind) B l k) (n-i) i C with
 |none=>none
 |some a=>R2 kind n a (k+1)
def R4(kind:Int)(n:Nat)(B:LM)(l:List UInt8)(k:Nat)(C:LM)(i:Nat)(r:List (List UInt8))(j:Nat):Option LM:=match bt (df (bo kind) B l k i) (n-j) j r with
 |none=>none
 |some a=>R3 kind n B l k (C++[a]) (i+1)
section
variable {kind:Int} {n:Nat} {B C:LM} {l:List UInt8} {k i j:Nat} {r:List (List UInt8)}
theorem gf(f:A->Nat->Option A){n i:Nat}(h:i<n)(b:A):bt f (n-i) i b=match f b i with|some a=>bt f (n-(i+1)) (i+1) a|none=>none:=by
 rw[show n-i=(n-(i+1))+1 by omega];rfl
theorem kg(f:A->Nat->Option A){n:Nat}(b:A):bt f (n-n) n b=some b:=by rw[Nat.sub_self];rfl
theorem UL(a:B.length=n):mL (bo kind) B=R2 kind n B 0:=by
 unfold mL R2
 grind
theorem Qp(a:B.length=n)(b:k<n):R2 kind n B k=match (bo kind).star (ch (bo kind) B k k)with|none=>none|some s=>R3 kind n B s k [] 0:=by
 unfold R2;rw[gf _ b];unfold gQ
 cases (bo kind).star (ch (bo kind) B k k)with
 |none=>rfl
 |some s=>
  dsimp only;unfold R3;rw[a]
  cases bt (jJ (bo kind) B s k) n 0 []<;>rfl
theorem ZW(a:B.length=n)(b:i<n):R3 kind n B l k C i=R4 kind n B l k C i [] 0:=by
 unfold R3;rw[gf _ b];have e:jJ (bo kind) B l k C i=match bt (df (bo kind) B l k i) n 0 []with|none=>none|some r=>some (C++[r]):=by
  unfold jJ;rw[a]
  cases bt (df (bo kind) B l k i) n 0 []<;>rfl
 rw[e];unfold R4
 cases bt (df (bo kind) B l k i) n 0 []with
 |none=>rfl
 |some r=>rfl
theorem acZ:R3 kind n B l k C n=R2 kind n C (k+1):=by grind[kg,R3]
theorem Jw(b:j<n):R4 kind n B l k C i r j=match df (bo kind) B l k i r j with|none=>none|some a=>R4 kind n B l k C i a (j+1):=by grind[gf,R4]
theorem ac0:R4 kind n B l k C i r n=R3 kind n B l k (C++[r]) (i+1):=by grind[kg,R4]
theorem nz{l:List A}{i:Nat}(h:m<=i)(x:A):(l.set i x).take m=l.take m:=by rw[List.take_set_of_le h]
theorem lU{l:List A}{i:Nat}(h:i<l.length)(d:A):l.take (i+1)=l.take i++[l.getD i d]:=by simp_all
end
structure MI(kind:Int)(n N0:Nat)(kt:Nat)(ks cs:Nat->Nat)(B:LM)(g:ae):Prop where
 m:vL 107 g kt ks cs B
 sq:Sq kind n B
 new:N0<=kt/\∀i,i<n->N0<=ks i
section
variable {kind:Int} {n N0 N1 kt kb kc s0:Nat} {ks cs kbs bcs kcs ccs:Nat->Nat} {B C:LM} {g g' h:ae} {i j:Nat}
theorem MI.ld(x:MI kind n N0 kt ks cs B g)(a:i<n):aj SS.P 107 g (.pointer (some ⟨kt,i,none⟩))=some (.slice (some ⟨ks i,0,none⟩) n (cs i)):=by
 rw[x.m.ld ty (by rw[x.sq.len];omega),x.sq.row i a]
theorem MI.cell(x:MI kind n N0 kt ks cs B g)(a:i<n)(b:j<n):aj SS.P 9 g (.pointer (some ⟨ks i,j,none⟩))=some (strOf ((B.getD i []).getD j [])):=(x.m.row i (by rw[x.sq.len];omega)).ld ty (by rw[x.sq.row i a];omega)
theorem MI.kL{X:Nat->Prop}(x:MI kind n N0 kt ks cs B g)(s:Cd X g g')(b:∀a,X a->a<N0):MI kind n N0 kt ks cs B g':=
 ⟨x.m.kL s (λc=>by have:=b _ c;have:=x.new.1;omega) (λi d c=>by have:=b _ c;have:=x.new.2 i (by rw[<-x.sq.len];omega);omega),x.sq,x.new⟩
theorem MI.ok(x:MI kind n N0 kt ks cs B g)(o:Ok g g'):MI kind n N0 kt ks cs B g':=⟨x.m.ok o,x.sq,x.new⟩
theorem MI.room(x:MI kind n N0 kt ks cs B g)(m:Nat):MI kind n N0 kt ks cs B (Go.Ab.room g m):=⟨x.m.room m,x.sq,x.new⟩
theorem MI.st(x:MI kind n N0 kt ks cs B g)(a:i<n)(b:j<n)(y:List UInt8):ah SS.P 9 (.pointer (some ⟨ks i,j,none⟩)) (strOf y) g=some (undef,.set (ks i) (.cells (fk ((B.getD i []).set j y)) 9 1 true)):=(x.m.row i (by rw[x.sq.len];omega)).st ty (by rw[x.sq.row i a];omega) y
theorem MI.put(x:MI kind n N0 kt ks cs B g)(a:i<n)(b:j<n){y:List UInt8}(c:aO kind y=true):MI kind n N0 kt ks cs (B.set i ((B.getD i []).set j y)) ((eu.set (ks i) (.cells (fk ((B.getD i []).set j y)) 9 1 true)).app g):=
 ⟨x.m.put (by rw[x.sq.len];omega) j y,x.sq.put a b c,x.new⟩
theorem MI.lt(x:MI kind n N0 kt ks cs B g)(w:Wf g)(a:i<n):ks i<g.next:=(x.m.lt w).2 i (by rw[x.sq.len];omega)
theorem MI.other(x:MI kind n N0 kt ks cs B g){k:Nat}(a:kt≠k/\∀i,i<n->ks i≠k)(l:eB):MI kind n N0 kt ks cs B ((eu.set k l).app g):=
 ⟨⟨by show(g.set k l).get kt=_;rw[ae.ay,if_neg a.1];exact x.m.out,λi b=>by
   have:=x.m.row i b;show(g.set k l).get (ks i)=_;rw[ae.ay,if_neg (a.2 i (by rw[<-x.sq.len];omega))];exact this,x.m.ne,x.m.inj⟩,x.sq,x.new⟩
theorem pM.other{bad:Bool}(s:pM g s0 kind bad){k:Nat}(a:s0≠k)(l:eB):pM ((eu.set k l).app g) s0 kind bad:=by
 show(g.set k l).get s0=_;rw[ae.ay,if_neg a];exact s
theorem abd{X:Nat->Prop}(s:Cd X h g)(d:Wf h){k:Nat}(i:h.next<=k)(c:k<g.next)(l:eB):Cd X h ((eu.set k l).app g):=by
 refine⟨λa B b=>?_,λa B f b=>?_,s.nx⟩
 ·have b:(g.set k l).get a=some B:=b;rw[ae.ay]at b;split at b
  ·next e=>rw[e];exact c
  ·exact s.wf _ _ b
 ·show(g.set k l).get a=_;rw[ae.ay,if_neg (λe=>by have:=d _ _ b;omega)];exact s.ext _ _ f b
end
structure SI(h:ae)(s0:Nat)(kind:Int)(bad:Bool)(G now:Option LM)(g:ae):Prop where
 s:pM g s0 kind bad
 ok:Cd (λk=>k=s0) h g
 yes:bad=true->G=none
 no:bad=false->now=G
section
variable {h:ae} {s0:Nat} {kind:Int} {bad:Bool} {G now now':Option LM} {g g':ae}
theorem SI.step(x:SI h s0 kind bad G now g)(e:bad=false->now=now'):SI h s0 kind bad G now' g:=⟨x.s,x.ok,x.yes,λa=>by rw[<-e a];exact x.no a⟩
theorem SI.ym(x:SI h s0 kind bad G now g)(o:Ok g g'):SI h s0 kind bad G now g':=⟨x.s.ok o,x.ok.trans o.okS,x.yes,x.no⟩
theorem SI.op(x:SI h s0 kind bad G now g){a:Bool}{o:Option (List UInt8)}{c:List UInt8}(j:pM g' s0 kind a)(n:Cd (λk=>k=s0) g g')(l:a=false->bad=false/\o=some c)(m:a=true->bad=true\/o=none)(q:o=none->now=none)(i:o=some c->now=now'):SI h s0 kind a G now' g':=
 ⟨j,x.ok.trans n,λd=>(by
   rcases m d with e|e
   ·exact x.yes e
   ·cases b:bad with
    |true=>exact x.yes b
    |false=>rw[<-x.no b];grind),λd=>by
   obtain⟨f,p⟩:=l d;rw[<-i p];exact x.no f⟩
theorem SI.wf(x:SI h s0 kind bad G now g):Wf g:=x.ok.wf
theorem SI.room(x:SI h s0 kind bad G now g)(m:Nat):SI h s0 kind bad G now (Go.Ab.room g m):=⟨x.s,x.ok.room m,x.yes,x.no⟩
theorem SI.set(x:SI h s0 kind bad G now g)(b:Wf h){k:Nat}(c:s0≠k)(d:h.next<=k)(a:k<g.next)(l:eB):SI h s0 kind bad G now ((eu.set k l).app g):=⟨x.s.other c l,abd x.ok b d a l,x.yes,x.no⟩
end
structure Uw(h:ae)(s0:Nat)(kind:Int)(n N1 kb kc:Nat)(kbs bcs kcs ccs:Nat->Nat)(B C:LM)(g:ae):Prop where
 b:MI kind n h.next kb kbs bcs B g
 c:MI kind n N1 kc kcs ccs C g
 old:kb<N1/\(∀i,i<n->kbs i<N1)/\h.next<=N1
section
variable {h:ae} {s0:Nat} {kind:Int} {n N1 kb kc:Nat} {kbs bcs kcs ccs:Nat->Nat} {B C:LM} {g g':ae} {i j:Nat}
theorem Uw.op(t:Uw h s0 kind n N1 kb kc kbs bcs kcs ccs B C g)(b:s0<h.next)(o:Cd (λk=>k=s0) g g'):Uw h s0 kind n N1 kb kc kbs bcs kcs ccs B C g':=
 ⟨t.b.kL o (λa e=>by omega),t.c.kL o (λa e=>by rw[e];have:=t.old.2.2;omega),t.old⟩
theorem Uw.room(t:Uw h s0 kind n N1 kb kc kbs bcs kcs ccs B C g)(m:Nat):Uw h s0 kind n N1 kb kc kbs bcs kcs ccs B C (Go.Ab.room g m):=⟨t.b.room m,t.c.room m,t.old⟩
theorem Uw.put(t:Uw h s0 kind n N1 kb kc kbs bcs kcs ccs B C g)(b:i<n)(d:j<n){y:List UInt8}(f:aO kind y=true):Uw h s0 kind n N1 kb kc kbs bcs kcs ccs B (C.set i ((C.getD i []).set j y)) ((eu.set (kcs i) (.cells (fk ((C.getD i []).set j y)) 9 1 true)).app g):=
 ⟨t.b.other ⟨λe=>by have:=t.c.new.2 i b;have:=t.old.1;omega,λa c e=>by have:=t.c.new.2 i b;have:=t.old.2.1 a c;omega⟩ _,t.c.put b d f,t.old⟩
end
def I4(h:ae)(s0:Nat)(kind:Int)(n N1 kb kc k i:Nat)(l:List UInt8)(kbs bcs kcs ccs:Nat->Nat)(B:LM)(G:Option LM)(a j:Nat)(g:ae):Prop:=j<=n/\a=n-j/\∃(C:LM)(bad:Bool),Uw h s0 kind n N1 kb kc kbs bcs kcs ccs B C g/\SI h s0 kind bad G (R4 kind n B l k (C.take i) i ((C.getD i []).take j) j) g
def I3(h:ae)(s0:Nat)(kind:Int)(n N1 kb kc k:Nat)(l:List UInt8)(kbs bcs kcs ccs:Nat->Nat)(B:LM)(G:Option LM)(a i:Nat)(g:ae):Prop:=i<=n/\a=n-i/\∃(C:LM)(bad:Bool),Uw h s0 kind n N1 kb kc kbs bcs kcs ccs B C g/\SI h s0 kind bad G (R3 kind n B l k (C.take i) i) g
section
variable {h:ae} {s0:Nat} {kind:Int} {n N1 kb kc k i:Nat} {l:List UInt8} {kbs bcs kcs ccs:Nat->Nat} {B:LM} {G:Option LM}
theorem Yb{C:LM}{i j n:Nat}(e:C.length=n)(h:(C.getD i []).length=n)(f:i<n)(g:j<n)(x y:List UInt8):let b:=C.set i ((C.getD i []).set j x);let a:=b.set i ((b.getD i []).set j y);a.take i=C.take i/\(a.getD i []).take (j+1)=(C.getD i []).take j++[y]:=by
 dsimp only;have c:(C.set i ((C.getD i []).set j x)).getD i []=(C.getD i []).set j x:=by rw[fz (by omega),if_pos rfl]
 rw[c,List.set_set,List.set_set];refine⟨nz (Nat.le_refl _) _,?_⟩;rw[fz (by omega),if_pos rfl,lU (d:=[]) (by grind),nz (Nat.le_refl _),fz (by omega),if_pos rfl]
theorem abA{C:LM}{i j n:Nat}(b:C.length=n)(f:(C.getD i []).length=n)(c:i<n)(e:j<n)(y:List UInt8):let a:=C.set i ((C.getD i []).set j y);a.take i=C.take i/\(a.getD i []).take (j+1)=(C.getD i []).take j++[y]:=by
 dsimp only;refine⟨nz (Nat.le_refl _) _,?_⟩;rw[fz (by omega),if_pos rfl,lU (d:=[]) (by grind),nz (Nat.le_refl _),fz (by omega),if_pos rfl]
theorem oE(l:List UInt8):dV 4 (strOf l) (strOf l)=true:=mD l
set_option linter.defProp false in
def Yz(Y:Wf h)(M:s0<h.next)(hk:1<=kind/\kind<=3)(hn:n<=1000)(f:k<n)(d:i<n)(hl:aO kind l=true)(a:Option Addr)(c:Nat)(U:Nat->Nat->Nat->ae->Prop)(x0:Nat)(J:Nat)(x9:J=n-i)(Q:VH):=
 CW s0 a n c kb kc l U x0 k (I3 h s0 kind n N1 kb kc k l kbs bcs kcs ccs B G) J i (I4 h s0 kind n N1 kb kc k i l kbs bcs kcs ccs B G) Q (by
  intro x8 j;intros;rename_i g W;obtain⟨f1,f2,C,bad,t,O⟩:=W;refine aa (λq=>?_) (λq=>?_)
  ·have m:j<n:=by have:=dT q;omega
   have w:=t.room 14;have I:=t.b.sq.val i j d m;have K:s0≠kcs i:=λe=>by have:=t.c.new.2 i d;have:=t.old.2.2;omega
   refine⟨_,vL.ix ty d,_,_,_,w.c.ld d,_,vL.ix ty d,_,_,_,w.b.ld d,_,VB.ix ty m,_,w.b.cell d m,_,VB.ix ty m,_,w.c.st d m _,?_⟩;have t1:=w.put d m I;have x1:=(O.room 14).set Y K (Nat.le_trans t.old.2.2 (t.c.new.2 i d)) (w.c.lt (O.room 14).wf d) (.cells (fk ((C.getD i []).set j ((B.getD i []).getD j []))) 9 1 true);have hC:=t.c.sq.len;have hr:=t.c.sq.row i d;obtain⟨X,Z⟩:=abA hC hr d m ((B.getD i []).getD j []);obtain⟨r,x2⟩:∃r,r=C.set i ((C.getD i []).set j ((B.getD i []).getD j [])):=⟨_,rfl⟩
   rw[<-x2]at t1 X Z;have y0:∀y,(r.set i ((r.getD i []).set j y)).take i=C.take i/\((r.set i ((r.getD i []).set j y)).getD i []).take (j+1)=(C.getD i []).take j++[y]:=λy=>by grind[Yb]
   generalize (eu.set (kcs i) _).app (Go.Ab.room g 14)=R at*;have o:=t1.room 28;have u:=x1.room 28;rw[bg m (by omega)];refine⟨_,vL.ix ty d,_,_,_,o.b.ld d,_,VB.ix ty f,_,o.b.cell d f,_,qx _,_,u.s.l0,(jM hk _).mono ?_⟩;rintro _ V ⟨rfl,S⟩;obtain rfl:Go.Ab.room R 28=V:=S.symm;have zc:∀(b:Bool),((bo kind).A4 (ch (bo kind) B i k)||(bo kind).A4 (ch (bo kind) B k j))=true->SI h s0 kind bad G (R4 kind n B l k (r.take i) i ((r.getD i []).take (j+1)) (j+1)) (Go.Ab.room R 28):=λ_ H=>u.step λ_=>by
    rw[Jw m];unfold df;rw[if_pos H,X,Z,t.b.sq.Ox d m]
   refine⟨_,rfl,aa (λP=>?_) (λP=>?_)⟩
   ·refine⟨_,vL.ix ty f,_,_,_,o.b.ld f,_,VB.ix ty m,_,o.b.cell f m,_,qx _,_,u.s.l0,(jM hk _).mono ?_⟩;rintro _ V ⟨rfl,S⟩;obtain rfl:Go.Ab.room R 28=V:=S.symm;refine⟨_,rfl,⟨o.b.ld d,mj _ _ _⟩,⟨o.b.cell d f,oE _⟩,⟨o.b.ld f,mj _ _ _⟩,⟨o.b.cell f m,oE _⟩,aa (λN=>?_) (λN=>?_)⟩
    ·have s:=o.room 35;have x:=u.room 35;have x3:=t.b.sq.val i k d f;have x4:=t.b.sq.val k j f m;have H:¬((bo kind).A4 (ch (bo kind) B i k)||(bo kind).A4 (ch (bo kind) B k j))=true:=by
      rw[t.b.sq.Ox d f,t.b.sq.Ox f m];show ¬(((B.getD i []).getD k []==bP kind)||((B.getD k []).getD j []==bP kind))=true;rw[not_eq_true']at P N;rw[P,N];simp
     refine⟨_,vL.ix ty d,_,_,_,s.c.ld d,_,vL.ix ty d,_,_,_,s.b.ld d,_,VB.ix ty m,_,s.b.cell d m,_,vL.ix ty d,_,_,_,s.b.ld d,_,VB.ix ty f,_,s.b.cell d f,(IT x.wf x.s x3 hl).mono ?_⟩;rintro _ g4 ⟨x6,z,rfl,s4,o4,v4,y4,z4⟩;have v:=s.op M o4;have A:=x.op (now':=match cO kind z ((B.getD k []).getD j [])with|none=>none|some p=>match fD kind ((B.getD i []).getD j []) p with|none=>none|some c=>R4 kind n B l k (C.take i) i ((C.getD i []).take j++[c]) (j+1)) s4 o4 y4 z4 (λe=>by
      rw[Jw m];unfold df;rw[if_neg H,t.b.sq.Ox d f];have e:(bo kind).times ((B.getD i []).getD k []) l=none:=e;rw[e]) (λe=>by
      rw[Jw m];unfold df;rw[if_neg H,t.b.sq.Ox d f,t.b.sq.Ox f m,t.b.sq.Ox d m];have e:(bo kind).times ((B.getD i []).getD k []) l=some z:=e;rw[e];dsimp only;have e2:(bo kind).times z ((B.getD k []).getD j [])=cO kind z ((B.getD k []).getD j []):=rfl;rw[e2]
      cases cO kind z ((B.getD k []).getD j [])with
      |none=>rfl
      |some p=>
       dsimp only;have e3:(bo kind).plus ((B.getD i []).getD j []) p=fD kind ((B.getD i []).getD j []) p:=rfl;rw[e3]
       cases fD kind ((B.getD i []).getD j []) p<;>rfl)
     refine⟨_,rfl,_,vL.ix ty f,_,_,_,v.b.ld f,_,VB.ix ty m,_,v.b.cell f m,(IT A.wf A.s v4 x4).mono ?_⟩;rintro _ g5 ⟨x5,c5,rfl,s5,o5,v5,y5,z5⟩;have E:=v.op M o5;have D:=A.op (now':=match fD kind ((B.getD i []).getD j []) c5 with|none=>none|some c=>R4 kind n B l k (C.take i) i ((C.getD i []).take j++[c]) (j+1)) s5 o5 y5 z5 (λe=>by rw[e]) (λe=>by rw[e]);refine⟨_,rfl,(Ni D.wf D.s I v5).mono ?_⟩;rintro _ g6 ⟨T,c6,rfl,s6,o6,v6,y6,z6⟩;have F:=E.op M o6;have L:=D.op (now':=R4 kind n B l k (C.take i) i ((C.getD i []).take j++[c6]) (j+1)) s6 o6 y6 z6 (λe=>by rw[e]) (λe=>by rw[e]);refine⟨_,rfl,_,VB.ix ty m,_,F.c.st d m _,⟨v.c.ld d,mj _ _ _⟩,⟨E.c.ld d,mj _ _ _⟩,⟨F.c.ld d,mj _ _ _⟩,⟨v.b.ld d,mj _ _ _⟩,⟨E.b.ld d,mj _ _ _⟩,⟨v.b.cell d m,oE _⟩,⟨E.b.cell d m,oE _⟩,⟨s.b.ld f,mj _ _ _⟩,⟨s.b.cell f m,oE _⟩,?_⟩;refine cz (n-(j+1)) (by omega) ⟨by omega,rfl,_,T,F.put d m v6,?_⟩;have x7:=L.set Y K (Nat.le_trans t.old.2.2 (t.c.new.2 i d)) (F.c.lt L.wf d) (.cells (fk ((r.getD i []).set j c6)) 9 1 true)
     grind
    ·refine cz (n-(j+1)) (by omega) ⟨by omega,rfl,r,bad,o,zc true ?_⟩;rw[t.b.sq.Ox d f,t.b.sq.Ox f m];show(_||((B.getD k []).getD j []==bP kind))=true
     grind
   ·refine⟨⟨o.b.ld d,mj _ _ _⟩,⟨o.b.cell d f,oE _⟩,cz (n-(j+1)) (by omega) ⟨by omega,rfl,r,bad,o,zc true ?_⟩⟩;rw[t.b.sq.Ox d f];show(((B.getD i []).getD k []==bP kind)||_)=true
    grind
  ·obtain rfl:j=n:=by grind
   rw[bg d (by omega)];refine cz (j-(i+1)) (by omega) ⟨by omega,rfl,C,bad,t,O.step λ_=>?_⟩;have e:(C.getD i []).take j=C.getD i []:=take_of_length_le (by rw[t.c.sq.row i d];omega);rw[ac0,e,<-lU (by rw[t.c.sq.len];omega)])
end
end
section
section
variable {h:ae} {s0:Nat} {kind:Int} {n:Nat} {G:Option LM}
def I2(h:ae)(s0:Nat)(kind:Int)(n:Nat)(G:Option LM)(c k d:Nat)(g:ae):Prop:=k<=n/\c=n-k/\∃(b a:Nat->Nat)(B:LM)(bad:Bool),MI kind n h.next d b a B g/\SI h s0 kind bad G (R2 kind n B k) g
def I5(h:ae)(s0:Nat)(kind:Int)(n:Nat)(G:Option LM)(d:Nat)(b a:Nat->Nat)(c i:Nat)(g:ae):Prop:=i<=n/\c=n-i/\∃(B:LM)(bad:Bool),MI kind n h.next d b a B g/\SI h s0 kind bad G (bt (qt (bo kind)) (n-i) i B) g
def stQ(h:ae)(s0:Nat)(kind:Int)(n:Nat)(G:Option LM):VH:=λv g=>∃(b:Nat)(c a:Nat->Nat)(B:LM)(bad:Bool),v=sA b n n/\MI kind n h.next b c a B g/\pM g s0 kind bad/\Cd (λk=>k=s0) h g/\(bad=true->G=none)/\(bad=false->G=some B)
theorem abP(A:Wf h)(N:s0<h.next)(w:1<=kind/\kind<=3)(K:n<=1000)(a:Option Addr)(c:Nat){m:Nat}{k l:Nat->Nat}{B:LM}{bad:Bool}{g:ae}(d:MI kind n h.next m k l B g)(f:SI h s0 kind bad G (R2 kind n B n) g):
  LL SS bN [1,1,1,1,1,0,1,0,0] (mC s0 n m 0) g (KK SS bN [1,1,1,1,1,0,1,0] [] (EE SS bN (stQ h s0 kind n G))):=by
 have v:SI h s0 kind bad G (bt (qt (bo kind)) (n-0) 0 B) g:=f.step λ_=>by
  unfold R2;rw[kg,sub_zero]
 refine CV s0 a n c m (I5 h s0 kind n G m k l) (stQ h s0 kind n G) (λL i=>?_) n (i:=0) ⟨by omega,rfl,B,bad,d,v⟩;intros;rename_i g t;obtain⟨P,O,B,bad,d,f⟩:=t;refine aa (λq=>?_) (λq=>?_)
 ·have b:i<n:=by have:=dT q;omega
  have j:=d.room 21;have p:=f.room 21;have F:=d.sq.val i i b b;refine⟨_,vL.ix ty b,_,_,_,j.ld b,_,qx _,_,p.s.l0,(Kl kind _).mono ?_⟩;rintro _ J ⟨rfl,H⟩;obtain rfl:Go.Ab.room g 21=J:=H.symm;rw[Ai w];refine⟨_,rfl,_,vL.ix ty b,_,_,_,j.ld b,_,VB.ix ty b,_,j.cell b b,(Ni p.wf p.s (adP w) F).mono ?_⟩;rintro _ M ⟨s,D,rfl,E,u,z,C,I⟩;have o:=j.kL u (λa e=>by omega);have r:=p.op (now':=bt (qt (bo kind)) (n-(i+1)) (i+1) (B.set i ((B.getD i []).set i D))) E u C I (λe=>by
   rw[gf _ b];unfold qt;rw[d.sq.Ox b b]
   simp_all[bo]) (λe=>by
   rw[gf _ b];unfold qt;rw[d.sq.Ox b b]
   simp_all[bo])
  refine⟨_,rfl,_,VB.ix ty b,_,o.st b b _,⟨j.ld b,mj _ _ _⟩,⟨o.ld b,mj _ _ _⟩,⟨j.ld b,mj _ _ _⟩,⟨j.cell b b,oE _⟩,?_⟩;have x:s0≠k i:=λe=>by have:=d.new.2 i b;omega
  rw[bg b (by omega)];exact cz (n-(i+1)) (by omega) ⟨by omega,rfl,_,s,o.put b b z,r.set A x (d.new.2 i b) (o.lt r.wf b) _⟩
 ·obtain rfl:i=n:=by grind
  refine⟨m,k,l,B,bad,rfl,d,f.s,f.ok,f.yes,λy=>?_⟩;rw[<-f.no y,kg]
theorem abQ(M:Wf h)(H:s0<h.next)(x:1<=kind/\kind<=3)(F:n<=1000)(a:Option Addr)(c:Nat){p:Nat}{kbs bcs:Nat->Nat}{B:LM}{bad:Bool}{g:ae}(f:MI kind n h.next p kbs bcs B g)(m:SI h s0 kind bad G (R2 kind n B 0) g):
  LL SS bN [1,1,1,1,0,1,0,0] (fF s0 n 0 p) g (KK SS bN [1,1,1,1,0,1,0] [] (EE SS bN (stQ h s0 kind n G))):=by
 refine CT s0 a n c (I2 h s0 kind n G) (stQ h s0 kind n G) (λz k p=>?_) n (k:=0) (kb:=p) ⟨by omega,rfl,kbs,bcs,B,bad,f,m⟩;intros;rename_i g J;obtain⟨f1,f2,kbs,bcs,B,bad,f,m⟩:=J;refine aa (λq=>?_) (λq=>?_)
 ·have d:k<n:=by have:=dT q;omega
  refine⟨_,qx _,_,m.s.l0,(ZJ m.wf x F).mono ?_⟩;rintro _ g1 ⟨D,s,w,rfl,Z,L,U,K⟩;have v:=f.ok L;have t:=m.ym L;have W:=f.sq.val k k d d;refine⟨_,_,_,rfl,_,vL.ix ty d,_,_,_,v.ld d,_,VB.ix ty d,_,v.cell d d,(Yh t.wf t.s W).mono ?_⟩;rintro _ g2 ⟨E,l,rfl,s2,Q,X,T,Y⟩;have hN:h.next<=g.next:=m.ok.nx;have zq:Sq kind n (List.replicate n (List.replicate n (bP kind))):=by
   have R:∀a,a<n->(List.replicate n (List.replicate n (bP kind))).getD a []=List.replicate n (bP kind):=λa o=>by
    rw[gD,List.getElem?_replicate,if_pos o];rfl
   refine⟨length_replicate,λa o=>by rw[R a o];exact length_replicate,λa b o S=>?_⟩;rw[R a o,gD,List.getElem?_replicate,if_pos S];exact yQ x
  have t1:Uw h s0 kind n g.next p D kbs bcs s w B _ g1:=⟨v,⟨Z,zq,U,K⟩,(f.m.lt m.wf).1,λa o=>f.lt m.wf o,hN⟩
  have V:=t1.op H Q;have O:=t.op (now':=R3 kind n B l k [] 0) s2 Q T Y (λe=>by
   rw[Qp f.sq.len d,f.sq.Ox d d];have e:(bo kind).star ((B.getD k []).getD k [])=none:=e;rw[e]) (λe=>by
   rw[Qp f.sq.len d,f.sq.Ox d d];have e:(bo kind).star ((B.getD k []).getD k [])=some l:=e;rw[e])
  refine⟨_,rfl,?_⟩;refine CU s0 a n c p D l (I2 h s0 kind n G) z k (I3 h s0 kind n g.next p D k l kbs bcs s w B G) (stQ h s0 kind n G) (λN i=>?_) n (i:=0) ⟨by omega,rfl,_,E,V,by rw[take_zero];exact O⟩;intros;rename_i g3 I;obtain⟨e1,e2,C,u,r,y⟩:=I;refine aa (λA=>?_) (λA=>?_)
  ·have P:i<n:=by have:=dT A;omega
   exact Yz M H x F d P X a c (I2 h s0 kind n G) z N e2 (stQ h s0 kind n G) n (j:=0) ⟨by omega,rfl,C,u,r,by
    rw[take_zero];exact y.step λ_=>ZW f.sq.len P⟩
  ·obtain rfl:i=n:=by have:=dF A;omega
   rw[bg d (by omega)];refine jV (i-(k+1)) (by omega) ⟨by omega,rfl,s,w,C,u,⟨r.c.m,r.c.sq,Nat.le_trans r.old.2.2 r.c.new.1,λa o=>Nat.le_trans r.old.2.2 (r.c.new.2 a o)⟩,y.step λ_=>?_⟩;rw[acZ,take_of_length_le (by rw[r.c.sq.len];exact Nat.le_refl _)]
 ·obtain rfl:k=n:=by have:=dF q;omega
  exact abP M H x F a c f m
theorem YE(o:Wf h)(F:1<=kind/\kind<=3)(A:n<=1000)(x:pM h s0 kind false){a:Option Addr}{c:Nat}{R:LM}(r:Ou 107 h (.slice a n c) R)(j:Sq kind n R):FW SS 124 [pA s0,.slice a n c] h (stQ h s0 kind n (mL (bo kind) R)):=by
 have K:s0<h.next:=o _ _ x;refine YD s0 a n c h _ ⟨_,qx _,_,x.l0,(ZJ o F A).mono ?_⟩;rintro _ W ⟨D,f,k,rfl,M,I,Q,u⟩;refine⟨_,_,_,rfl,?_⟩;have S:∀a,a<n->(List.replicate n (List.replicate n (bP kind))).getD a []=List.replicate n (bP kind):=λa d=>by
  rw[gD,List.getElem?_replicate,if_pos d];rfl
 refine CS s0 a n c D (λC i g=>i<=n/\C=n-i/\Ok h g/\∃B:LM,vL 107 g D f k B/\B.length=n/\(∀a,a<n->(B.getD a []).length=n)/\∀a,a<i->B.getD a []=R.getD a []) _ (λC i=>?_) n (i:=0) ⟨by omega,rfl,I,_,M,length_replicate,λa d=>by rw[S a d];exact length_replicate,λa d=>by omega⟩;intros;rename_i g z;obtain⟨X,U,l,B,m,w,s,H⟩:=z;refine aa (λq=>?_) (λq=>?_)
 ·have b:i<n:=by have:=dT q;omega
  have t:=m.room 9;obtain⟨p,V,N,T,J,P,E⟩:=(r.ok (l.room 9)).at_ ty (i:=i) (by rw[j.len];exact b);have G:=E.len;rw[gb,j.row i b]at G;subst G;have v:=t.ld ty (i:=i) (by omega);rw[s i b]at v;refine⟨_,vL.ix ty b,_,_,_,v,_,J,_,_,_,P,_,_,aaE ty (t.row i (by omega)) (s i b) (by omega) E,?_⟩;rw[bg b (by omega)];have y:f i<(Go.Ab.room g 9).next:=(t.lt (l.room 9).wf).2 i (by omega);refine cz (N-(i+1)) (by omega) ⟨by omega,rfl,(l.room 9).set _ (u i b) y o,B.set i (R.getD i []),t.afK (by omega) (by rw[j.row i b,s i b]),by rw[length_set];exact w,λa d=>?_,λa d=>?_⟩
  ·rw[fz (by omega)];split
   ·exact j.row i b
   ·exact s a d
  ·rw[fz (by omega)];split
   ·next e=>rw[e]
   ·exact H a (by omega)
 ·obtain rfl:i=n:=by have:=dF q;omega
  have e:B=R:=by
   refine ext_getElem (by rw[w,j.len]) λa L O=>?_;have:=H a (by omega);rw[gD,gD,gE L,gE O]at this;exact this
  subst e;exact abQ o K F A a c (kbs:=f) (bcs:=k) (B:=B) (bad:=false) ⟨m,j,Q,u⟩ ⟨x.ok l,l.okS,(λh=>by cases h),λ_=>(UL w).symm⟩
def acU(kind:Int):eB:= .cells [.int .i64 kind,.bool false] 136 0 true
theorem afe(kind:Int):bu SS.P 136 [(0,.int .i64 kind)]=some (.agg ⟨[.int .i64 kind,.bool false]⟩):=by kernel_rfl
theorem afg(kind:Int):fu SS.P 136 (.agg ⟨[.int .i64 kind,.bool false]⟩)=some (acU kind,np):=by kernel_rfl
def agS(h:ae)(kind:Int)(n:Nat)(G:Option LM):VH:=λv g=>Ok h g/\match G with
 |none=>v = .tuple ⟨[nA,.int .i64 2]⟩
 |some B=>∃(a:Option Addr)(c:Nat),v = .tuple ⟨[.slice a n c,.int .i64 0]⟩/\a≠none/\Ou 107 g (.slice a n c) B/\Sq kind n B
theorem Tl(w:Wf h)(A:1<=kind/\kind<=3)(F:n<=3000){a:Option Addr}{c:Nat}{R:LM}(r:Ou 107 h (.slice a n c) R)(f:Sq kind n R):FW SS 97 [.int .i64 kind,.slice a n c] h (agS h kind n (if 60<n then none else mL (bo kind) R)):=by
 have s:∀l∈R,l.length=R.length/\∀x∈l,aO kind x=true:=λl d=>by
  obtain⟨i,z,e⟩:=List.mem_iff_getElem.1 d;have m:i<n:=by rw[<-f.len];exact z
  have t:R.getD i []=l:=by rw[gD,gE z];exact e
  have v:=f.row i m;rw[t]at v;refine⟨by rw[v,f.len],λx H=>?_⟩;obtain⟨j,K,J⟩:=List.mem_iff_getElem.1 H;have:=f.val i j m (by omega);rw[t,gD,gE K]at this;rw[<-J];exact this
 refine Tk kind a n c h _ ((adL w A r (λl d=>(s l d).1) (λl d=>(s l d).2) F).mono ?_);rintro _ g ⟨rfl,b⟩;refine⟨_,rfl,aa (λe=>by cases e) (λ_=>aa (λq=>?_) (λq=>?_))⟩
 ·rw[if_pos (by have:=dT q;omega)];exact⟨b,rfl⟩
 have o:¬60<n:=by have:=dF q;omega
 rw[if_neg o];refine⟨_,afe kind,_,afg kind,?_⟩;have C:=(Ok.refl b.wf).push (acU kind);have L:pM (g.push (acU kind)) g.next kind false:=aN g _;refine(YE C.wf A (by omega) L (r.ok (b.trans C)) f).mono ?_;rintro _ G ⟨P,O,N,B,bad,rfl,p,y,I,M,u⟩;have D:Ok h G:=(I.ok (h0:=g) (Ok.push (Ok.refl b.wf) _) b.wf (λk e=>by rw[e];exact Nat.le_refl _)) |> b.trans
 refine⟨_,_,_,rfl,_,se _,_,y.l1,aa (λq=>?_) (λq=>?_)⟩
 ·rw[M q];exact⟨D,rfl⟩
 ·rw[u q];have E:=p.m.rdM n;rw[p.sq.len]at E;exact⟨D,_,_,rfl,by simp,E,p.sq⟩
end
end
noncomputable def ael:FD:=dq Tryz.f98 []
theorem ab5(m:Int)(p n o:Nat)(t:Int)(a b:LB)(h:ae)(Q:VH)(q:FW SS 65 [(.int .i64 m),(strOf a),(strOf b)] h λk l=>∃j:LB,∃i:Int,k=(.tuple ⟨[(strOf j),(.int .i64 i)]⟩)/\au (((i:Int) !=0)) (Q (.int .i64 i) l) (iP 107 (sA p n o) (.int .i64 t) λh=>lS l h λg=>FW SS 62 [(.int .i64 m),(strOf g),(strOf j)] l λe f=>∃d:LB,∃c:Int,e=(.tuple ⟨[(strOf d),(.int .i64 c)]⟩)/\au (((c:Int)==0)) (iP 107 (sA p n o) (.int .i64 t) λb=>xU (ah SS.P 9 (.pointer (some b)) (strOf d) f) f λ_ a=>Q (.int .i64 c) a) (Q (.int .i64 c) f))):FW SS 98 [(.int .i64 m),(sA p n o),(.int .i64 t),(strOf a),(strOf b)] h Q:=du ael Tryz.func98 (ai q)
noncomputable def rS:FD:=dq Tryz.f74 [([1,1,0,1,0,0],[1,3,4])]
abbrev rT(k a n:Nat)(i:Nat):LV:=[(pA k),(sA a n n),(iA i)]
theorem Uo(g:LV)(h:ae)(Q:VH)(i:xN (fu SS.P 29 (.agg ⟨g⟩)) h λ_ f=>fP 29 (pA (h.next)) 3 λe=>lL 27 f e λ_ d _=>xR (cF SS.P 107 (iA d) (iA d)) f λ_ a b c=>LL SS rS [1,1,0,1,0,0] [(pA (h.next)),(sA (f.next) a b),(.int .i64 0)] c (KK SS rS [1,1,0,1,0] [] (EE SS rS Q))):FW SS 74 [(.agg ⟨g⟩)] h Q:=du rS Tryz.func74 (ai i)
theorem BL(q:LV)(k m n:Nat)(l:Nat->Nat->ae->Prop)(Q:VH)(step:∀(j:Nat) (i:Nat) (p:Nat->Value) (h:ae),l j i h->au (decide (((i:Int):Int)<(n:Int))) (fP 29 (pA k) 0 λg=>lI h g λf=>FW SS 18 [(.int .i64 f)] h λd e=>yS d λc=>iP 107 (sA m n n) (iA i) λb=>xU (ah SS.P 9 (.pointer (some b)) (strOf c) e) e λ_ a=>aM (gp (rT k m n) l) j [(pA k),(sA m n n),(.int .i64 (wrap .i64 ((i:Int)+1)))] a) (Q (sA m n n) h))(j:Nat){i:Nat}{h:ae}(o:l j i h):LL SS rS [1,1,0,1,0,0] (rT k m n i) h (KK SS rS [1,1,0,1,0] [] (EE SS rS Q)):=
 dJ (rT k m n) l (λj i p h o=>ai (step j i p h o)) j o
noncomputable def Av:FD:=dq Tryz.f77 [([1,1,0,1,0,0],[0,1,2,8,9])]
abbrev vF(e:Int)(a:OA)(n c:Nat)(b:OA)(m d f:Nat)(i:Nat):LV:=[(.int .i64 e),(.slice a n c),(.slice b m d),(sA f n n),(iA i)]
theorem aca(i:Int)(a:OA)(n c:Nat)(b:OA)(m d:Nat)(h:ae)(Q:VH)(j:xR (cF SS.P 107 (iA n) (iA n)) h λ_ e f g=>LL SS Av [1,1,0,1,0,0] [(.int .i64 i),(.slice a n c),(.slice b m d),(sA (h.next) e f),(.int .i64 0)] g (KK SS Av [1,1,0,1,0] [] (EE SS Av Q))):FW SS 77 [(.int .i64 i),(.slice a n c),(.slice b m d)] h Q:=du Av Tryz.func77 (ai j)
theorem Eb(r:Int)(a:OA)(n c:Nat)(b:OA)(m d:Nat)(u:Nat)(t:Nat->Nat->ae->Prop)(Q:VH)(step:∀(s:Nat) (i:Nat) (w:Nat->Value) (h:ae),t s i h->au (decide (((i:Int):Int)<(n:Int))) (iP 107 (.slice a n c) (iA i) λq=>lS (room h 15) q λp=>iP 107 (.slice b m d) (iA i) λo=>lS (room h 15) o λl=>FW SS 62 [(.int .i64 r),(strOf p),(strOf l)] (room h 15) λj k=>∃h:LB,∃g:Int,j=(.tuple ⟨[(strOf h),(.int .i64 g)]⟩)/\au (((g:Int) !=0)) (Q (.tuple ⟨[nA,(.int .i64 g)]⟩) k) (iP 107 (sA u n n) (iA i) λf=>xU (ah SS.P 9 (.pointer (some f)) (strOf h) k) k λ_ e=>aM (gp (vF r a n c b m d u) t) s [(.int .i64 r),(.slice a n c),(.slice b m d),(sA u n n),(.int .i64 (wrap .i64 ((i:Int)+1)))] e)) (Q (.tuple ⟨[(sA u n n),(.int .i64 0)]⟩) h))(s:Nat){i:Nat}{h:ae}(v:t s i h):LL SS Av [1,1,0,1,0,0] (vF r a n c b m d u i) h (KK SS Av [1,1,0,1,0] [] (EE SS Av Q)):=
 dJ (vF r a n c b m d u) t (λs i w h v=>ai (step s i w h v)) s v
noncomputable def iy:FD:=dq Tryz.f76 [([1,1,0,1,0,0],[1,2,3,4,5,12,13]),([1,1,0,1,0,0,1,0,0,1,1,0,0],[1,2,3,4,5,12,13,14])]
abbrev jQ(a:OA)(n c:Nat)(d e:Int)(k b N:Nat)(q:Nat):LV:=[(.slice a n c),(.int .i64 d),(.int .i64 e),(.bool false),(pA k),(sA b N N),(iA q)]
abbrev jR(a:OA)(n c:Nat)(d e:Int)(k b N q:Nat)(j:Nat):LV:=[(.slice a n c),(.int .i64 d),(.int .i64 e),(.bool false),(pA k),(sA b N N),(iA q),(iA j)]
theorem Zl(k:LV)(a:OA)(n c:Nat)(l m:Int)(h:ae)(Q:VH)(o:xN (fu SS.P 29 (.agg ⟨k⟩)) h λ_ j=>lA 29 j (pA (h.next)) λi=>FW SS 74 [(.agg ⟨i⟩)] j λf g=>yL f λb d e=>LL SS iy [1,1,0,1,0,0] [(.slice a n c),(.int .i64 l),(.int .i64 m),(.bool false),(pA (h.next)),(.slice b d e),(.int .i64 0)] g (KK SS iy [1,1,0,1,0] [] (EE SS iy Q))):FW SS 76 [(.agg ⟨k⟩),(.slice a n c),(.int .i64 l),(.int .i64 m),(.bool false)] h Q:=du iy Tryz.func76 (ai o)
theorem C5(w:LV)(a:OA)(n c:Nat)(s t:Int)(k r N:Nat)(o:Nat->Nat->ae->Prop)(Q:VH)(step:∀(p:Nat) (q:Nat) (v:Nat->Value) (h:ae),o p q h->fP 29 (pA k) 3 λm=>lL 27 h m λ_ l _=>au (decide (((q:Int):Int)<(l:Int))) (iP 107 (.slice a n c) (iA q) λj=>lS (room h 8) j λi=>fP 29 (pA k) 0 λg=>lI (room h 8) g λf=>FW SS 18 [(.int .i64 f)] (room h 8) λd e=>yS d λb=>(aj SS.P 9 e (.pointer (some j))=some (strOf i)/\dV 4 (strOf i) (strOf i)=true)/\au ((i:LB)==b) (aM (gp (jQ a n c s t k r N) o) p [(.slice a n c),(.int .i64 s),(.int .i64 t),(.bool false),(pA k),(sA r N N),(.int .i64 (wrap .i64 ((q:Int)+1)))] e) (LL SS iy [1,1,0,1,0,0,1,0,0,1,1,0,0] (jR a n c s t k r N q 0) e (KK SS iy [1,0,0,1,1,0] [1,1,0,1,0,0] (RR iy [1,1,0,1,0,0] (gp (jQ a n c s t k r N) o) p (KK SS iy [1,1,0,1,0] [] (EE SS iy Q)))))) (Q (.tuple ⟨[(sA r N N),(.int .i64 0)]⟩) h))(p:Nat){q:Nat}{h:ae}(u:o p q h):LL SS iy [1,1,0,1,0,0] (jQ a n c s t k r N q) h (KK SS iy [1,1,0,1,0] [] (EE SS iy Q)):=
 dJ (jQ a n c s t k r N) o (λp q v h u=>ai (step p q v h u)) p u
theorem C6(mv:LV)(a:OA)(n c:Nat)(D E:Int)(k C N:Nat)(F:Nat->Nat->ae->Prop)(H q:Nat)(B:Nat->Nat->ae->Prop)(Q:VH)(step:∀(A:Nat) (j:Nat) (I:Nat->Value) (h:ae),B A j h->fP 29 (pA k) 3 λV=>lL 27 h V λb2 K R=>iP 27 (.slice b2 K R) (iA q) λY=>fP 73 (.pointer (some Y)) 1 λS=>lL 71 h S λ_ J _=>au (decide (((j:Int):Int)<(J:Int))) (fP 29 (pA k) 3 λL=>lL 27 h L λX P W=>iP 27 (.slice X P W) (iA q) λU=>fP 73 (.pointer (some U)) 1 λT=>lL 71 h T λO Z M=>iP 71 (.slice O Z M) (iA j) λz=>lA 70 h (.pointer (some z)) λy=>xN (av SS.P 70) h λ_ x=>xU (ah SS.P 70 (pA (h.next)) (.agg ⟨y⟩) x) x λ_ w=>fP 70 (pA (h.next)) 0 λv=>lI w v λu=>au (((u:Int) !=D)) (aM (gp (jR a n c D E k C N q) B) A [(.slice a n c),(.int .i64 D),(.int .i64 E),(.bool false),(pA k),(sA C N N),(iA q),(.int .i64 (wrap .i64 ((j:Int)+1)))] w) (fP 70 (pA (h.next)) 1 λt=>lI w t λs=>au (((s:Int) !=E)) (aM (gp (jR a n c D E k C N q) B) A [(.slice a n c),(.int .i64 D),(.int .i64 E),(.bool false),(pA k),(sA C N N),(iA q),(.int .i64 (wrap .i64 ((j:Int)+1)))] w) (fP 29 (pA k) 0 λr=>lI (room w 13) r λp=>fP 70 (pA (h.next)) 3 λo=>lI (room w 13) o λm=>iP 107 (.slice a n c) (iA q) λl=>lS (room w 13) l λi=>fP 70 (pA (h.next)) 2 λg=>lS (room w 13) g λf=>FW SS 98 [(.int .i64 p),(sA C N N),(.int .i64 m),(strOf i),(strOf f)] (room w 13) λd e=>yI .i64 d λb=>au (((b:Int) !=0)) (Q (.tuple ⟨[nA,(.int .i64 b)]⟩) e) (aM (gp (jR a n c D E k C N q) B) A [(.slice a n c),(.int .i64 D),(.int .i64 E),(.bool false),(pA k),(sA C N N),(iA q),(.int .i64 (wrap .i64 ((j:Int)+1)))] e)))) (aM (gp (jQ a n c D E k C N) F) H [(.slice a n c),(.int .i64 D),(.int .i64 E),(.bool false),(pA k),(sA C N N),(.int .i64 (wrap .i64 ((q:Int)+1)))] h))(A:Nat){j:Nat}{h:ae}(G:B A j h):LL SS iy [1,1,0,1,0,0,1,0,0,1,1,0,0] (jR a n c D E k C N q j) h (KK SS iy [1,0,0,1,1,0] [1,1,0,1,0,0] (RR iy [1,1,0,1,0,0] (gp (jQ a n c D E k C N) F) H (KK SS iy [1,1,0,1,0] [] (EE SS iy Q)))):=
 dJ (jR a n c D E k C N q) B (λA j I h G=>ai (step A j I h G)) A G
noncomputable def Zi:FD:=dq Tryz.f75 []
theorem Um(d:LV)(a:OA)(n c:Nat)(h:ae)(Q:VH)(e:xN (fu SS.P 29 (.agg ⟨d⟩)) h λ_ b=>Q (.tuple ⟨[(.slice a n c),(.int .i64 0)]⟩) b):FW SS 75 [(.agg ⟨d⟩),(.slice a n c),nA] h Q:=du Zi Tryz.func75 (ai e)
noncomputable def iw:FD:=dq Tryz.f75 [([1,1,1,0,1,0,0],[1,2,3,8,9]),([1,1,1,0,1,0,0,1,0,0,1,0,0],[1,2,3,8,9,10])]
abbrev mF(a:OA)(n c:Nat)(e:Addr)(m d k b:Nat)(q:Nat):LV:=[(.slice a n c),(.slice (some e) m d),(pA k),(sA b n n),(iA q)]
abbrev mG(a:OA)(n c:Nat)(e:Addr)(m d k b q:Nat)(p:Nat):LV:=[(.slice a n c),(.slice (some e) m d),(pA k),(sA b n n),(iA q),(iA p)]
theorem Zj(l:LV)(a:OA)(n c:Nat)(o:Addr)(m d:Nat)(h:ae)(Q:VH)(p:xN (fu SS.P 29 (.agg ⟨l⟩)) h λ_ k=>lA 29 k (pA (h.next)) λj=>FW SS 74 [(.agg ⟨j⟩)] k λg i=>yL g λb e f=>LL SS iw [1,1,1,0,1,0,0] [(.slice a n c),(.slice (some o) m d),(pA (h.next)),(.slice b e f),(.int .i64 0)] i (KK SS iw [1,1,1,0,1,0] [] (EE SS iw Q))):FW SS 75 [(.agg ⟨l⟩),(.slice a n c),(.slice (some o) m d)] h Q:=du iw Tryz.func75 (ai p)
theorem C3(l:LV)(a:OA)(n c:Nat)(g:Addr)(m d:Nat)(k f:Nat)(e:Nat->Nat->ae->Prop)(Q:VH)(step:∀(b:Nat) (q:Nat) (j:Nat->Value) (h:ae),e b q h->au (decide (((q:Int):Int)<(n:Int))) (LL SS iw [1,1,1,0,1,0,0,1,0,0,1,0,0] [(.slice a n c),(.slice (some g) m d),(pA k),(sA f n n),(iA q),(.int .i64 0)] h (KK SS iw [1,0,0,1,0] [1,1,1,0,1,0,0] (RR iw [1,1,1,0,1,0,0] (gp (mF a n c g m d k f) e) b (KK SS iw [1,1,1,0,1,0] [] (EE SS iw Q))))) (Q (.tuple ⟨[(sA f n n),(.int .i64 0)]⟩) h))(b:Nat){q:Nat}{h:ae}(i:e b q h):LL SS iw [1,1,1,0,1,0,0] (mF a n c g m d k f q) h (KK SS iw [1,1,1,0,1,0] [] (EE SS iw Q)):=
 dJ (mF a n c g m d k f) e (λb q j h i=>ai (step b q j h i)) b i
theorem C4(W:LV)(a:OA)(n c:Nat)(B:Addr)(m d:Nat)(k D:Nat)(K:Nat->Nat->ae->Prop)(N q:Nat)(C:Nat->Nat->ae->Prop)(Q:VH)(step:∀(A:Nat) (p:Nat) (O:Nat->Value) (h:ae),C A p h->au (decide (((p:Int):Int)<(n:Int))) (iP 107 (.slice a n c) (iA q) λM=>lS (room h 21) M λF=>fP 29 (pA k) 0 λU=>lI (room h 21) U λS=>FW SS 18 [(.int .i64 S)] (room h 21) λV E=>yS V λT=>au ((F:LB)==T) ((aj SS.P 9 E (.pointer (some M))=some (strOf F)/\dV 4 (strOf F) (strOf F)=true)/\aM (gp (mG a n c B m d k D q) C) A [(.slice a n c),(.slice (some B) m d),(pA k),(sA D n n),(iA q),(.int .i64 (wrap .i64 ((p:Int)+1)))] E) (iP 103 (.slice (some B) m d) (iA q) λP=>lL 107 E P λG I J=>iP 107 (.slice G I J) (iA p) λR=>lS E R λH=>fP 29 (pA k) 0 λz=>lI E z λy=>FW SS 18 [(.int .i64 y)] E λw x=>yS w λv=>(aj SS.P 9 E (.pointer (some M))=some (strOf F)/\dV 4 (strOf F) (strOf F)=true)/\(aj SS.P 107 x (.pointer (some P))=some (.slice G I J)/\dV 4 (.slice G I J) (.slice G I J)=true)/\(aj SS.P 9 x (.pointer (some R))=some (strOf H)/\dV 4 (strOf H) (strOf H)=true)/\au ((H:LB)==v) (aM (gp (mG a n c B m d k D q) C) A [(.slice a n c),(.slice (some B) m d),(pA k),(sA D n n),(iA q),(.int .i64 (wrap .i64 ((p:Int)+1)))] x) (fP 29 (pA k) 0 λu=>lI (room x 17) u λt=>iP 107 (.slice a n c) (iA q) λs=>lS (room x 17) s λr=>iP 103 (.slice (some B) m d) (iA q) λo=>lL 107 (room x 17) o λi j l=>iP 107 (.slice i j l) (iA p) λh=>lS (room x 17) h λg=>FW SS 98 [(.int .i64 t),(sA D n n),(iA p),(strOf r),(strOf g)] (room x 17) λe f=>yI .i64 e λb=>au (((b:Int) !=0)) (Q (.tuple ⟨[nA,(.int .i64 b)]⟩) f) (aM (gp (mG a n c B m d k D q) C) A [(.slice a n c),(.slice (some B) m d),(pA k),(sA D n n),(iA q),(.int .i64 (wrap .i64 ((p:Int)+1)))] f)))) (aM (gp (mF a n c B m d k D) K) N [(.slice a n c),(.slice (some B) m d),(pA k),(sA D n n),(.int .i64 (wrap .i64 ((q:Int)+1)))] h))(A:Nat){p:Nat}{h:ae}(L:C A p h):LL SS iw [1,1,1,0,1,0,0,1,0,0,1,0,0] (mG a n c B m d k D q p) h (KK SS iw [1,0,0,1,0] [1,1,1,0,1,0,0] (RR iw [1,1,1,0,1,0,0] (gp (mF a n c B m d k D) K) N (KK SS iw [1,1,1,0,1,0] [] (EE SS iw Q)))):=
 dJ (mG a n c B m d k D q) C (λA p O h L=>ai (step A p O h L)) A L
noncomputable def Au:FD:=dq Tryz.f78 [([1,1,0,1,0,0],[1,2,6,7])]
abbrev qG(a:OA)(n c k b:Nat)(q:Nat):LV:=[(.slice a n c),(pA k),(sA b 1 1),(iA q)]
theorem ab6(m:LV)(a:OA)(n c:Nat)(h:ae)(Q:VH)(o:xN (fu SS.P 29 (.agg ⟨m⟩)) h λ_ l=>fP 29 (pA (h.next)) 0 λk=>lI l k λj=>FW SS 18 [(.int .i64 j)] l λg i=>yS g λf=>xR (aJ SS.P 107 1 [(0,(strOf f))]) i λ_ b d e=>LL SS Au [1,1,0,1,0,0] [(.slice a n c),(pA (h.next)),(sA (i.next) b d),(.int .i64 0)] e (KK SS Au [1,1,0,1,0] [] (EE SS Au Q))):FW SS 78 [(.agg ⟨m⟩),(.slice a n c)] h Q:=du Au Tryz.func78 (ai o)
theorem D8(G:LV)(a:OA)(n c:Nat)(k C:Nat)(A:Nat->Nat->ae->Prop)(Q:VH)(step:∀(B:Nat) (q:Nat) (E:Nat->Value) (h:ae),A B q h->au (decide (((q:Int):Int)<(n:Int))) (fP 29 (pA k) 3 λF=>lL 27 h F λx y z=>iP 27 (.slice x y z) (iA q) λw=>fP 73 (.pointer (some w)) 0 λv=>lS h v λu=>au (!((u:LB)==[])) (fP 29 (pA k) 0 λt=>lI (room h 15) t λs=>iP 107 (.slice a n c) (iA q) λr=>lS (room h 15) r λp=>fP 29 (pA k) 3 λo=>lL 27 (room h 15) o λj l m=>iP 27 (.slice j l m) (iA q) λi=>fP 73 (.pointer (some i)) 0 λg=>lS (room h 15) g λf=>FW SS 98 [(.int .i64 s),(sA C 1 1),(.int .i64 0),(strOf p),(strOf f)] (room h 15) λd e=>yI .i64 d λb=>au (((b:Int) !=0)) (Q (.tuple ⟨[(strOf []),(.int .i64 b)]⟩) e) (aM (gp (qG a n c k C) A) B [(.slice a n c),(pA k),(sA C 1 1),(.int .i64 (wrap .i64 ((q:Int)+1)))] e)) (aM (gp (qG a n c k C) A) B [(.slice a n c),(pA k),(sA C 1 1),(.int .i64 (wrap .i64 ((q:Int)+1)))] h)) (iP 107 (sA C 1 1) (.int .i64 0) λb=>lS h b λa=>Q (.tuple ⟨[(strOf a),(.int .i64 0)]⟩) h))(B:Nat){q:Nat}{h:ae}(D:A B q h):LL SS Au [1,1,0,1,0,0] (qG a n c k C q) h (KK SS Au [1,1,0,1,0] [] (EE SS Au Q)):=
 dJ (qG a n c k C) A (λB q E h D=>ai (step B q E h D)) B D
noncomputable def lq:FD:=dq Tryz.f73 [([1,1,1,0,1,0,0],[1,2,6,7,8]),([1,1,1,0,1,0,0,1,0,0,1,1,0,0],[1,2,6,7,8,9])]
abbrev oF(k a N:Nat)(q:Nat)(an:Bool):LV:=[(.bool false),(pA k),(sA a N N),(.bool an),(iA q)]
abbrev lV(k a N q:Nat)(j:Nat)(an:Bool):LV:=[(.bool false),(pA k),(sA a N N),(.bool an),(iA q),(iA j)]
theorem ab8(g:LV)(h:ae)(Q:VH)(i:xN (fu SS.P 29 (.agg ⟨g⟩)) h λ_ f=>fP 29 (pA (h.next)) 3 λe=>lL 27 f e λ_ d _=>xR (cF SS.P 103 (iA d) (iA d)) f λ_ a b c=>LL SS lq [1,1,1,0,1,0,0] [(.bool false),(pA (h.next)),(sA (f.next) a b),(.bool false),(.int .i64 0)] c (KK SS lq [1,1,1,0,1,0] [] (EE SS lq Q))):FW SS 73 [(.agg ⟨g⟩),(.bool false)] h Q:=du lq Tryz.func73 (ai i)
theorem D9(t:LV)(k m N:Nat)(l:Nat->Nat->Bool->ae->Prop)(Q:VH)(step:∀(j:Nat) (q:Nat) (an:Bool) (s:Nat->Value) (h:ae),l j q an h->au (decide (((q:Int):Int)<(N:Int))) (lA 29 h (pA k) λi=>FW SS 74 [(.agg ⟨i⟩)] h λf g=>yL f λc d e=>iP 103 (sA m N N) (iA q) λb=>xU (ah SS.P 107 (.pointer (some b)) (.slice c d e) g) g λ_ a=>LL SS lq [1,1,1,0,1,0,0,1,0,0,1,1,0,0] (lV k m N q 0 an) a (KK SS lq [1,0,0,1,1,0] [1,1,1,0,1,0,0] (RR lq [1,1,1,0,1,0,0] (tE (oF k m N) l) j (KK SS lq [1,1,1,0,1,0] [] (EE SS lq Q))))) (au (!an) (Q (.tuple ⟨[nA,(.int .i64 0)]⟩) h) (au (decide (((N:Int):Int)>60)) (Q (.tuple ⟨[nA,(.int .i64 2)]⟩) h) (fP 29 (pA k) 0 λe=>lI h e λd=>FW SS 97 [(.int .i64 d),(sA m N N)] h λb c=>∃(o:OA) (n p:Nat),∃a:Int,b=(.tuple ⟨[(.slice o n p),(.int .i64 a)]⟩)/\Q (.tuple ⟨[(.slice o n p),(.int .i64 a)]⟩) c))))(j:Nat){q:Nat}{an:Bool}{h:ae}(r:l j q an h):LL SS lq [1,1,1,0,1,0,0] (oF k m N q an) h (KK SS lq [1,1,1,0,1,0] [] (EE SS lq Q)):=
 pU (oF k m N) l (λj q an s h r=>ai (step j q an s h r)) j r
theorem Ea(mv:LV)(k B N:Nat)(E:Nat->Nat->Bool->ae->Prop)(G q:Nat)(C:Nat->Nat->Bool->ae->Prop)(Q:VH)(step:∀(A:Nat) (j:Nat) (an:Bool) (H:Nat->Value) (h:ae),C A j an h->fP 29 (pA k) 3 λc5=>lL 27 h c5 λc2 c3 R=>iP 27 (.slice c2 c3 R) (iA q) λY=>fP 73 (.pointer (some Y)) 1 λc0=>lL 71 h c0 λ_ V _=>au (decide (((j:Int):Int)<(V:Int))) (fP 29 (pA k) 3 λS=>lL 27 h S λZ L b7=>iP 27 (.slice Z L b7) (iA q) λT=>fP 73 (.pointer (some T)) 1 λK=>lL 71 h K λU b1 b2=>iP 71 (.slice U b1 b2) (iA j) λJ=>lA 70 h (.pointer (some J)) λM=>xN (av SS.P 70) h λ_ I=>xU (ah SS.P 70 (pA (h.next)) (.agg ⟨M⟩) I) I λ_ D=>fP 70 (pA (h.next)) 0 λa5=>lI D a5 λX=>au (((X:Int) !=0)) (aM (tE (lV k B N q) C) A [(.bool false),(pA k),(sA B N N),(.bool an),(iA q),(.int .i64 (wrap .i64 ((j:Int)+1)))] D) (fP 70 (pA (h.next)) 1 λW=>lI D W λO=>au (((O:Int) !=0)) (aM (tE (lV k B N q) C) A [(.bool false),(pA k),(sA B N N),(.bool an),(iA q),(.int .i64 (wrap .i64 ((j:Int)+1)))] D) (fP 29 (pA k) 0 λa1=>lI (room D 18) a1 λP=>iP 103 (sA B N N) (iA q) λz=>lL 107 (room D 18) z λw x y=>fP 70 (pA (h.next)) 3 λv=>lI (room D 18) v λu=>iP 107 (.slice w x y) (.int .i64 u) λt=>lS (room D 18) t λs=>fP 70 (pA (h.next)) 2 λr=>lS (room D 18) r λp=>FW SS 62 [(.int .i64 P),(strOf s),(strOf p)] (room D 18) λn o=>∃m:LB,∃l:Int,n=(.tuple ⟨[(strOf m),(.int .i64 l)]⟩)/\au (((l:Int) !=0)) (Q (.tuple ⟨[nA,(.int .i64 l)]⟩) o) (iP 103 (sA B N N) (iA q) λi=>lL 107 (room o 9) i λe f g=>fP 70 (pA (h.next)) 3 λd=>lI (room o 9) d λc=>iP 107 (.slice e f g) (.int .i64 c) λb=>xU (ah SS.P 9 (.pointer (some b)) (strOf m) (room o 9)) (room o 9) λ_ a=>aM (tE (lV k B N q) C) A [(.bool false),(pA k),(sA B N N),(.bool true),(iA q),(.int .i64 (wrap .i64 ((j:Int)+1)))] a)))) (aM (tE (oF k B N) E) G [(.bool false),(pA k),(sA B N N),(.bool an),(.int .i64 (wrap .i64 ((q:Int)+1)))] h))(A:Nat){j:Nat}{an:Bool}{h:ae}(F:C A j an h):LL SS lq [1,1,1,0,1,0,0,1,0,0,1,1,0,0] (lV k B N q j an) h (KK SS lq [1,0,0,1,1,0] [1,1,1,0,1,0,0] (RR lq [1,1,1,0,1,0,0] (tE (oF k B N) E) G (KK SS lq [1,1,1,0,1,0] [] (EE SS lq Q)))):=
 pU (lV k B N q) C (λA j an H h F=>ai (step A j an H h F)) A F
section
theorem pv{kind:Int}{a:List UInt8}(h:bq kind a=true):aO kind a=true:=by
 unfold bq at h;rw[and_eq_true,and_eq_true]at h;obtain⟨⟨c,d⟩,b⟩:=h;unfold aO
 grind
structure Rm(M:bJ):Prop where
 kind:1<=M.kind/\M.kind<=3
 fin:∀s∈M.af,s.f≠[]->aO M.kind s.f=true
 arc:∀s∈M.af,∀a∈s.arcs,aO M.kind a.w=true/\0<=a.t/\a.t<M.af.length
 lead:aO M.kind M.lead=true
 start:0<=M.start/\M.start<M.af.length
 n:M.af.length<=3000
 m:∀s∈M.af,s.arcs.length<=30000
theorem I7{kind:Int}{N:Nat}:∀{l:List dW}{a:Int},0<=a->qq kind N a l=true->∀s∈l,s.arcs.length<=30000
 |s::r,a,c,h,x,b=>by
  unfold qq at h;rw[and_eq_true,and_eq_true,and_eq_true,decide_eq_true_eq]at h;rcases mem_cons.1 b with rfl|b
  ·omega
  ·exact I7 (by omega) h.2 x b
theorem CE{M:bJ}(h:db M=true):Rm M:=by
 unfold db at h;simp only[and_eq_true,decide_eq_true_eq]at h;obtain⟨⟨⟨⟨⟨⟨⟨e,f⟩,n⟩,j⟩,l⟩,k⟩,g⟩,d⟩:=h;have b:=CX d;refine⟨⟨e,f⟩,λs c m=>?_,λs c a i=>?_,pv g,⟨l,k⟩,j,I7 (by omega) d⟩
 ·have:=(b s c).1
  simp_all[pv]
 ·have:=(b s c).2 a i
  simp_all[pv,jf]
def FI(a:jj):kx (List UInt8):=⟨a.i,a.o,a.w,a.t.toNat⟩
def El(s:dW):K5 (List UInt8):=⟨if s.f=[]then none else some s.f,s.arcs.map FI⟩
def gm(M:bJ):ia (List UInt8):=⟨M.lead,M.start.toNat,M.af.map El⟩
theorem Wc{M:bJ}{q:Nat}{s:dW}(h:M.af[q]?=some s):(gm M).bT.getD q ew=El s:=by
 show(M.af.map El).getD q _=_
 grind
theorem acH{s:dW}{a:jj}(h:s.arcs[j]?=some a)(O:sK (List UInt8)):(El s).arcs.getD j (cG O)=FI a:=by
 show(s.arcs.map FI).getD j _=_
 grind
theorem FL(M:bJ):(gm M).bT.length=M.af.length:=lM _
theorem Wg(s:dW):(El s).arcs.length=s.arcs.length:=lM _
structure VV(kind:Int)(n:Nat)(l:List (List UInt8)):Prop where
 len:l.length=n
 val:∀i,i<n->aO kind (l.getD i [])=true
theorem VV.at_{kind:Int}{n:Nat}{l:List (List UInt8)}(v:VV kind n l){i:Nat}(a:i<n)(d:List UInt8):l.getD i d=l.getD i []:=Iq (by rw[v.len];omega) _ _
theorem VV.set{kind:Int}{n:Nat}{l:List (List UInt8)}(v:VV kind n l){t:Nat}{x:List UInt8}(c:aO kind x=true):VV kind n (l.set t x):=by
 refine⟨by rw[length_set];exact v.len,λi a=>?_⟩;by_cases b:t<l.length
 ·rw[fz b];split
  ·omega
  ·exact v.val i a
 ·rw[List.set_eq_of_length_le (by omega)];exact v.val i a
theorem VV.Rk{kind:Int}(b:1<=kind/\kind<=3)(n:Nat):VV kind n (bK (bo kind) n):=by
 refine⟨length_replicate,λi a=>?_⟩;show aO kind ((List.replicate n (bP kind)).getD i [])=true;rw[gD,List.getElem?_replicate,if_pos a];exact yQ b
section
variable {kind:Int} {kl n cl t:Nat} {l:List (List UInt8)} {a b:List UInt8} {g g' h:ae}
theorem Jz(c:VV kind n l)(i:aO kind a=true)(h:aO kind b=true)(g:t<n){l':List (List UInt8)}(e:iB (bo kind) l t a b=some l'):VV kind n l':=by
 unfold iB at e
 cases d:(bo kind).times a b with
 |none=>grind
 | some p=>
  rw[d]at e;dsimp only at e;have j:=CY i h d
  cases f:(bo kind).plus (l.getD t (bo kind).zero) p with
  |none=>grind
  |some s=>
   rw[f]at e;obtain rfl:=oI e;refine c.set (Bi (a:=l.getD t (bo kind).zero) (b:=p) ?_ j f);rw[c.at_ g];exact c.val t g
def agp(g:ae)(kl:Nat)(r:Option (List (List UInt8))):VH:=λv g'=>Cd (λk=>k=kl) g g'/\match r with
 |none=>v = .int .i64 2
 |some l'=>v = .int .i64 0/\VB g' kl l'
theorem KR(w:Wf g)(z:VB g kl l)(f:VV kind n l)(h:t<n)(q:aO kind a=true)(m:aO kind b=true):FW SS 98 [.int .i64 kind,sA kl n cl,iA t,strOf a,strOf b] g (agp g kl (iB (bo kind) l t a b)):=by
 refine ab5 kind kl n cl t a b g _ ((Gg q m w).mono ?_);rintro _ x ⟨rfl,c⟩;unfold iB;have y:(bo kind).times a b=cO kind a b:=rfl;rw[y]
 cases r:cO kind a b with
 |none=>exact⟨_,_,rfl,aa (λ_=>⟨c.okS,rfl⟩) (λe=>by cases e)⟩
 | some p=>
  have i:VB x kl l:=c.ext _ _ z;have A:=CY q m r;have u:=f.val t h;refine⟨_,_,rfl,aa (λe=>by cases e) (λ_=>⟨_,VB.ix ty h,_,i.ld ty (by rw[f.len];omega),(yu u A c.wf).mono ?_⟩)⟩;rintro _ o ⟨rfl,d⟩;have j:VB o kl l:=d.ext _ _ i;dsimp only;rw[f.at_ h (bo kind).zero];have v:(bo kind).plus (l.getD t []) p=fD kind (l.getD t []) p:=rfl;rw[v]
  cases B:fD kind (l.getD t []) p with
  |none=>exact⟨_,_,rfl,aa (λe=>by cases e) (λ_=>⟨(c.trans d).okS,rfl⟩)⟩
  |some s=>
   refine⟨_,_,rfl,aa (λ_=>⟨_,VB.ix ty h,_,j.st ty (by rw[f.len];omega) _,?_⟩) (λe=>by cases e)⟩;refine⟨(c.trans d).okS.trans (Cd.set (X:=λk=>k=kl) d.wf rfl (d.wf _ _ j) _),rfl,?_⟩;show(o.set kl _).get kl=_;rw[ae.ay,if_pos rfl]
noncomputable def ti9:TypeInfo:=(SS.P.info? 9).getD default
theorem aec:SS.P.info? 9=some ti9:=by rfl
theorem YV:ti9.size=1:=by rfl
theorem Ui:ti9.bytes=16:=by rfl
theorem agi:zeroOf SS.P 9=some (strOf []):=by rfl
theorem acL(n:Nat)(a:n<=100000):cF SS.P 107 (.int .i64 (n:Int)) (.int .i64 (n:Int))=some (.cells (fk (List.replicate n [])) 9 1 true,ph n n):=by
 unfold cF cn;dsimp only;rw[GB]
 try dsimp only
 change (match SS.P.info? 9,zeroOf SS.P 9 with
  |some i,some z=>(if z.cells.size=i.size/\0<i.size/\(0:Int)<=(n:Int)/\(n:Int)<=(n:Int)/\(n:Int)*i.bytes<=140737488355328/\(n:Int)<=1099511627776 then some (eB.cells (dD z.cells.toList (n:Int).toNat) 9 i.size true,λk=>Value.slice (some ⟨k,0,none⟩) (n:Int).toNat (n:Int).toNat)else none)
  |_,_=>none)=_
 rw[aec,agi];dsimp only;rw[YV,Ui,if_pos ⟨rfl,by omega,by omega,Int.le_refl _,by omega,by omega⟩];have e:((n:Int)).toNat=n:=by omega
 rw[e,show(strOf []).cells.toList=[strOf []]from rfl,pY];unfold fk;rw[List.map_replicate];rfl
end
structure WI(h:ae)(M:bJ)(x:Option Addr)(y z k kl:Nat)(l:List (List UInt8))(g:ae):Prop where
 box:g.get k=some (.cells (bM M x y z) 29 0 true)
 vb:VB g kl l
 ok:Ok h g
 nk:h.next<=k
 nl:h.next<=kl
 ne:k≠kl
section
variable {h g g':ae} {M:bJ} {x:Option Addr} {y z k kl:Nat} {l l':List (List UInt8)}
theorem WI.mb(i:WI h M x y z k kl l g)(r:dR h (.slice x y z) M.af):MB g k M x y z:=⟨i.box,r.ok i.ok⟩
theorem WI.step(i:WI h M x y z k kl l g)(w:Wf h)(o:Cd (λj=>j=kl) g g')(v:VB g' kl l'):WI h M x y z k kl l' g':=⟨o.ext _ _ i.ne i.box,v,o.ok i.ok w (λj e=>by rw[e];exact i.nl),i.nk,i.nl,i.ne⟩
theorem WI.ym(i:WI h M x y z k kl l g)(o:Ok g g'):WI h M x y z k kl l g':=⟨o.ext _ _ i.box,o.ext _ _ i.vb,i.ok.trans o,i.nk,i.nl,i.ne⟩
theorem WI.room(i:WI h M x y z k kl l g)(n:Nat):WI h M x y z k kl l (Go.Ab.room g n):=⟨i.box,i.vb,i.ok.room n,i.nk,i.nl,i.ne⟩
theorem WI.set(i:WI h M x y z k kl l g)(w:Wf h)(l':List (List UInt8)):WI h M x y z k kl l' ((eu.set kl (.cells (fk l') 9 1 true)).app g):=
 i.step w (Cd.set (X:=λj=>j=kl) i.ok.wf rfl (i.ok.wf _ _ i.vb) _) (by show(g.set kl _).get kl=_;rw[ae.ay,if_pos rfl])
theorem yN(w:Wf h)(n:Rm M)(r:dR h (.slice x y z) M.af):FW SS 74 [.agg ⟨bM M x y z⟩] h (λv g=>∃kl,v=sA kl M.af.length M.af.length/\VB g kl (bK (bo M.kind) M.af.length)/\h.next<=kl/\Ok h g):=by
 obtain⟨c,b⟩:=fv w r;obtain rfl:y=M.af.length:=c.len;have D:=n.n;refine Uo (bM M x M.af.length z) h _ ⟨_,iO M x _ z,_,dO _,_,_,_,c.l3,_,_,_,acL _ (by omega),?_⟩;generalize h.push (Bm M x M.af.length z)=f at*;have u:=aN f (.cells (fk (List.replicate M.af.length [])) 9 1 true);have k:=(Ok.refl b.wf).push (.cells (fk (List.replicate M.af.length [])) 9 1 true);have s:WI h M x M.af.length z h.next f.next (List.replicate M.af.length []) (f.push (.cells (fk (List.replicate M.af.length [])) 9 1 true)):=⟨k.ext _ _ c.box,u,b.trans k,Nat.le_refl _,b.nx,by have:=b.wf _ _ c.box;omega⟩
 refine BL (bM M x M.af.length z) h.next f.next M.af.length (λm i g=>i<=M.af.length/\m=M.af.length-i/\∃l,WI h M x M.af.length z h.next f.next l g/\l.length=M.af.length/\∀a,a<i->l.getD a []=bP M.kind) _ (λm i=>?_) M.af.length (i:=0) ⟨by omega,rfl,_,s,length_replicate,λa A=>by omega⟩;intros;rename_i g j;obtain⟨G,F,l,d,o,B⟩:=j;refine aa (λq=>?_) (λq=>?_)
 ·have p:i<M.af.length:=by have:=dT q;omega
  refine⟨_,dN _,_,(d.mb r).l0,(jM n.kind g).mono ?_⟩;rintro _ g' ⟨rfl,C⟩;obtain rfl:g=g':=C.symm;refine⟨_,rfl,_,VB.ix ty p,_,d.vb.st ty (by omega) _,?_⟩;rw[bg p (by omega)];refine cz (M.af.length-(i+1)) (by omega) ⟨by omega,rfl,l.set i (bP M.kind),d.set w _,by rw[length_set];exact o,λa A=>?_⟩
  grind[fz]
 ·obtain rfl:i=M.af.length:=by grind
  refine⟨_,rfl,?_,b.nx,d.ok⟩;have:l=bK (bo M.kind) M.af.length:=by
   refine ext_getElem (by rw[o];exact length_replicate.symm) λa t E=>?_;have:=B a (by omega);rw[gD,gE t]at this;have e:(bK (bo M.kind) M.af.length)[a]=bP M.kind:=List.getElem_replicate ..;rw[e];exact this
  rw[<-this];exact d.vb
end
def Zh(h:ae)(kind:Int)(n:Nat)(o:Option (List (List UInt8))):VH:=λv g=>Ok h g/\match o with
 |none=>v = .tuple ⟨[nA,.int .i64 2]⟩
 |some l=>∃(a:Option Addr)(c:Nat),v = .tuple ⟨[.slice a n c,.int .i64 0]⟩/\Rd g 9 (.slice a n c) (fk l)/\VV kind n l
section
variable {h:ae} {kind:Int} {a b:Option Addr} {n c d:Nat} {A B:List (List UInt8)}
theorem Ug{a:Type}{l:List a}{n:Nat}(b:l.length=n)(c:i<n)(x:a):(l.set i x).take (i+1)=l.take i++[x]:=by
 rw[lU (d:=x) (by grind),nz (Nat.le_refl _),fz (by omega),if_pos rfl]
theorem acb(w:Wf h)(S:n<=3000)(L:Rd h 9 (.slice a n c) (fk A))(o:VV kind n A)(K:Rd h 9 (.slice b n d) (fk B))(r:VV kind n B):FW SS 77 [.int .i64 kind,.slice a n c,.slice b n d] h (Zh h kind n (qe (bo kind) A B)):=by
 refine aca kind a n c b n d h _ ⟨_,_,_,acL n (by omega),?_⟩;have M:=aN h (.cells (fk (List.replicate n [])) 9 1 true);have H:=(Ok.refl w).push (.cells (fk (List.replicate n [])) 9 1 true);obtain⟨G,C⟩:∃G,G=qe (bo kind) A B:=⟨_,rfl⟩
 rw[<-C];refine Eb kind a n c b n d h.next (λy i g=>i<=n/\y=n-i/\Ok h g/\∃l,VB g h.next l/\l.length=n/\(∀j,j<i->aO kind (l.getD j [])=true)/\bt (AH (bo kind) A B) (n-i) i (l.take i)=G) _ (λy i=>?_) n (i:=0) ⟨by omega,rfl,H,_,M,length_replicate,λj Q=>by omega,by rw[take_zero,C];unfold qe;rw[o.len,sub_zero]⟩;intros;rename_i g x;obtain⟨W,U,F,l,E,u,I,k⟩:=x;refine aa (λq=>?_) (λq=>?_)
 ·have f:i<n:=by have:=dT q;omega
  have m:=F.room 15;obtain⟨V,J,P⟩:=Rd.cell ty (L.ok m) (j:=i) (by rw[o.len];omega);obtain⟨T,N,O⟩:=Rd.cell ty (K.ok m) (j:=i) (by rw[r.len];omega);refine⟨_,J,_,P,_,N,_,O,(yu (o.val i f) (r.val i f) m.wf).mono ?_⟩;rintro _ z ⟨rfl,D⟩;have p:=m.trans D;rw[gf _ f]at k;unfold AH at k;rw[o.at_ f (bo kind).zero,r.at_ f (bo kind).zero]at k;have R:(bo kind).plus (A.getD i []) (B.getD i [])=fD kind (A.getD i []) (B.getD i []):=rfl;rw[R]at k
  cases v:fD kind (A.getD i []) (B.getD i [])with
  |none=>
   rw[v]at k;exact⟨_,_,rfl,aa (λ_=>⟨p,by grind⟩) (λe=>by cases e)⟩
  | some s=>
   rw[v]at k;have t:VB z h.next l:=D.ext _ _ E;refine⟨_,_,rfl,aa (λe=>by cases e) (λ_=>⟨_,VB.ix ty f,_,t.st ty (by omega) _,?_⟩)⟩;rw[bg f (by omega)];refine cz (n-(i+1)) (by omega) ⟨by omega,rfl,p.set _ (Nat.le_refl _) (p.wf _ _ t) w,l.set i s,?_,by grind,λj Q=>?_,?_⟩
   ·show(z.set h.next _).get h.next=_;rw[ae.ay,if_pos rfl]
   ·rw[fz (by omega)];split
    ·exact Bi (o.val i f) (r.val i f) v
    grind
   ·rw[Ug u f];exact k
 ·obtain rfl:i=n:=by grind
  rw[kg,take_of_length_le (by omega)]at k;rw[<-k];have:=E.rd i;rw[u]at this;exact⟨F,_,_,rfl,this,⟨u,I⟩⟩
end
section
variable {h:ae} {M:bJ} {x a:Option Addr} {y z n c:Nat} {V:List (List UInt8)}
def stR(M:bJ)(V:List (List UInt8))(a b:Int)(q:Nat)(l:List (List UInt8)):Option (List (List UInt8)):=bt (td (bo M.kind) (gm M) V a b) (M.af.length-q) q l
theorem Qh(O:sK (List UInt8))(n:Nat):(bK O n).length=n:=length_replicate
theorem Zm(w:Wf h)(H:Rm M)(r:dR h (.slice x y z) M.af)(rv:Rd h 9 (.slice a M.af.length c) (fk V))(J:VV M.kind M.af.length V)(i k:Int):FW SS 76 [.agg ⟨bM M x y z⟩,.slice a M.af.length c,.int .i64 i,.int .i64 k,.bool false] h (Zh h M.kind M.af.length (mM (bo M.kind) (gm M) V i k)):=by
 obtain⟨p,D⟩:=fv w r;obtain rfl:y=M.af.length:=p.len;have hn:=H.n;refine Zl (bM M x M.af.length z) a _ c i k h _ ⟨_,iO M x _ z,_,p.all,(yN D.wf H p.row).mono ?_⟩;rintro _ g1 ⟨kl,rfl,x2,nl,o1⟩;refine⟨_,_,_,rfl,?_⟩;have x3:=D.wf _ _ p.box;have i1:WI h M x M.af.length z h.next kl (bK (bo M.kind) M.af.length) g1:=⟨o1.ext _ _ p.box,x2,D.trans o1,Nat.le_refl _,Nat.le_trans D.nx nl,by omega⟩
 obtain⟨G,hG⟩:∃G,G=mM (bo M.kind) (gm M) V i k:=⟨_,rfl⟩
 rw[<-hG];have x0:stR M V i k 0 (bK (bo M.kind) M.af.length)=G:=by rw[hG];unfold stR mM;rw[FL,sub_zero]
 refine C5 (bM M x M.af.length z) a M.af.length c i k h.next kl M.af.length (λT q g=>q<=M.af.length/\T=M.af.length-q/\∃l,WI h M x M.af.length z h.next kl l g/\VV M.kind M.af.length l/\stR M V i k q l=G) _ (λT q=>?_) M.af.length (q:=0) ⟨by omega,rfl,_,i1,VV.Rk H.kind _,x0⟩;intros;rename_i g x1;obtain⟨f1,f2,l,v,N,m⟩:=x1;have mb:=v.mb r;refine⟨_,dO _,_,_,_,mb.l3,aa (λq1=>?_) (λq1=>?_)⟩
 ·have A:q<M.af.length:=by have:=dT q1;omega
  obtain⟨s,U⟩:∃s,M.af[q]?=some s:=⟨_,gE A⟩
  have P:=List.mem_of_getElem? U;obtain⟨p1,e1,e2⟩:=Rd.cell ty (rv.ok (v.room 8).ok) (j:=q) (by rw[J.len];omega);refine⟨_,e1,_,e2,_,dN _,_,((v.room 8).mb r).l0,(jM H.kind _).mono ?_⟩;rintro _ g0 ⟨rfl,e0⟩;obtain rfl:Go.Ab.room g 8=g0:=e0.symm;unfold stR at m;rw[gf _ A]at m;unfold td at m;rw[J.at_ A (bo M.kind).zero,Wc U,Wg]at m;have ez:(bo M.kind).A4 (V.getD q [])=(V.getD q []==bP M.kind):=rfl;rw[ez]at m;refine⟨_,rfl,⟨e2,oE _⟩,aa (λq2=>?_) (λq2=>?_)⟩
  ·rw[if_pos q2]at m;rw[bg A (by omega)];exact cz (M.af.length-(q+1)) (by omega) ⟨by omega,rfl,l,v.room 8,N,m⟩
  ·rw[if_neg (by grind)]at m;refine C6 (bM M x M.af.length z) a M.af.length c i k h.next kl M.af.length _ T q (λQ j g=>j<=s.arcs.length/\Q=s.arcs.length-j/\∃l,WI h M x M.af.length z h.next kl l g/\VV M.kind M.af.length l/\(match bt (lH (bo M.kind) i k (V.getD q []) (El s).arcs) (s.arcs.length-j) j l with|none=>none|some l'=>stR M V i k (q+1) l')=G) _ (λQ j=>?_) s.arcs.length (j:=0) ⟨by omega,rfl,l,v.room 8,N,?_⟩
   ·intros;rename_i g2 W;obtain⟨d1,d2,I,F,t,d⟩:=W;have K:=F.mb r;obtain⟨b,o,xa,ya,za,u1,u2,u3,u4,ar⟩:=K.row.at_ U;have hm:=ar.len;subst hm;refine⟨_,dO _,_,_,_,K.l3,_,u1,_,mh _ _,_,_,_,u4,aa (λq3=>?_) (λq3=>?_)⟩
    ·have X:j<s.arcs.length:=by have:=dT q3;omega
     obtain⟨f,L⟩:∃f,s.arcs[j]?=some f:=⟨_,gE X⟩
     obtain⟨b2,o2,v1,v2,v3,v4,v5,v6⟩:=ar.at_ L;obtain⟨u,p1,p2,Y⟩:=MS F.ok.wf f;have E:=F.ym p2;have hw:=H.arc s P f (List.mem_of_getElem? L);rw[gf _ X]at d;unfold lH at d;rw[acH L]at d;rw[bg X (by have:=H.m s P;omega)];refine⟨_,dO _,_,_,_,K.l3,_,u1,_,mh _ _,_,_,_,u4,_,v1,_,v2,_,UU,u,p1,?_⟩;generalize u.app (g2.push Rl)=g3 at*;refine⟨_,Fw _ _,_,Y.l0,aa (λB=>?_) (λB=>⟨_,Fx _ _,_,Y.l1,aa (λC=>?_) (λC=>?_)⟩)⟩
     ·have B:f.i≠i:=by simpa using B
      rw[if_pos (.inl B)]at d;exact cz (s.arcs.length-(j+1)) (by omega) ⟨by omega,rfl,I,E,t,d⟩
     ·have C:f.o≠k:=by simpa using C
      rw[if_pos (.inr C)]at d;exact cz (s.arcs.length-(j+1)) (by omega) ⟨by omega,rfl,I,E,t,d⟩
     ·have B:f.i=i:=by simpa using B
      have C:f.o=k:=by simpa using C
      rw[if_neg (by rintro(h|h)<;>exact h (by first|exact B|exact C))]at d;have n:=E.room 13;obtain⟨p6,e6,e7⟩:=Rd.cell ty (rv.ok n.ok) (j:=q) (by rw[J.len];omega);have ht:f.t.toNat<M.af.length:=by omega
      have et:f.t=((f.t.toNat:Nat):Int):=by omega
      have R:=Y.ok ((Ok.refl E.ok.wf).room 13);have S:=R.l3;rw[et]at S;refine⟨_,dN _,_,(n.mb r).l0,_,uo _ _,_,S,_,e6,_,e7,_,Fy _ _,_,R.l2,(KR n.ok.wf n.vb t ht (J.val q A) hw.1).mono ?_⟩;rintro _ g5 ⟨o5,O⟩;have ea:iB (bo M.kind) I (FI f).t (V.getD q []) (FI f).w=iB (bo M.kind) I f.t.toNat (V.getD q []) f.w:=rfl;rw[ea]at d
      cases Z:iB (bo M.kind) I f.t.toNat (V.getD q []) f.w with
      |none=>
       rw[Z]at O d;subst O;exact⟨_,rfl,aa (λ_=>⟨o5.ok n.ok w (λj e=>by omega),by grind⟩) (λe=>by cases e)⟩
      |some l5=>
       rw[Z]at O d;obtain⟨rfl,v5⟩:=O;exact⟨_,rfl,aa (λe=>by cases e) (λ_=>cz (s.arcs.length-(j+1)) (by omega) ⟨by omega,rfl,l5,n.step w o5 v5,Jz t (J.val q A) hw.1 ht Z,d⟩)⟩
    ·obtain rfl:j=s.arcs.length:=by grind
     rw[kg]at d;rw[bg A (by omega)];exact cz (M.af.length-(q+1)) (by omega) ⟨by omega,rfl,I,F,t,d⟩
   ·rw[sub_zero];rw[<-m]
    cases bt (lH (bo M.kind) i k (V.getD q []) (El s).arcs) s.arcs.length 0 l<;>rfl
 ·obtain rfl:q=M.af.length:=by grind
  unfold stR at m;rw[kg]at m;rw[<-m];have:=v.vb.rd M.af.length;rw[N.len]at this;exact⟨v.ok,_,_,rfl,this,N⟩
end
end
section
section
variable {h:ae} {M:bJ} {x a:Option Addr} {y z n c:Nat} {V:List (List UInt8)}
theorem Un(w:Wf h)(r:dR h (.slice x y z) M.af)(e:Rd h 9 (.slice a n c) (fk V))(d:VV M.kind n V):FW SS 75 [.agg ⟨bM M x y z⟩,.slice a n c,nA] h (Zh h M.kind n (ic (bo M.kind) V none)):=by
 obtain⟨f,b⟩:=fv w r;exact Um (bM M x y z) a n c h _ ⟨_,iO M x y z,b,_,_,rfl,e.ok b,d⟩
def reR(M:bJ)(V:List (List UInt8))(B:LM)(q:Nat)(l:List (List UInt8)):Option (List (List UInt8)):=bt (λl q=>bt (gR (bo M.kind) V B q) V.length 0 l) (M.af.length-q) q l
theorem Zk(w:Wf h)(E:Rm M)(r:dR h (.slice x y z) M.af)(rv:Rd h 9 (.slice a M.af.length c) (fk V))(s:VV M.kind M.af.length V){F:Addr}{d:Nat}{B:LM}(rb:Ou 107 h (.slice (some F) M.af.length d) B)(v:Sq M.kind M.af.length B):
  FW SS 75 [.agg ⟨bM M x y z⟩,.slice a M.af.length c,.slice (some F) M.af.length d] h (Zh h M.kind M.af.length (ic (bo M.kind) V (some B))):=by
 obtain⟨n,u⟩:=fv w r;obtain rfl:y=M.af.length:=n.len;have hn:=E.n;refine Zj (bM M x M.af.length z) a _ c F _ d h _ ⟨_,iO M x _ z,_,n.all,(yN u.wf E n.row).mono ?_⟩;rintro _ g1 ⟨D,rfl,x0,nl,Y⟩;refine⟨_,_,_,rfl,?_⟩;have x7:=u.wf _ _ n.box;have i1:WI h M x M.af.length z h.next D (bK (bo M.kind) M.af.length) g1:=⟨Y.ext _ _ n.box,x0,u.trans Y,Nat.le_refl _,Nat.le_trans u.nx nl,by omega⟩
 obtain⟨G,hG⟩:∃G,G=ic (bo M.kind) V (some B):=⟨_,rfl⟩
 rw[<-hG];have W:reR M V B 0 (bK (bo M.kind) M.af.length)=G:=by rw[hG];unfold reR ic;rw[s.len,sub_zero]
 refine C3 (bM M x M.af.length z) a M.af.length c F M.af.length d h.next D (λN q g=>q<=M.af.length/\N=M.af.length-q/\∃l,WI h M x M.af.length z h.next D l g/\VV M.kind M.af.length l/\reR M V B q l=G) _ (λN q=>?_) M.af.length (q:=0) ⟨by omega,rfl,_,i1,VV.Rk E.kind _,W⟩;intros;rename_i g X;obtain⟨f1,f2,l,K,S,C⟩:=X;refine aa (λq1=>?_) (λq1=>?_)
 ·have m:q<M.af.length:=by have:=dT q1;omega
  unfold reR at C;rw[gf _ m]at C;refine C4 (bM M x M.af.length z) a M.af.length c F M.af.length d h.next D _ N q (λI p g=>p<=M.af.length/\I=M.af.length-p/\∃l,WI h M x M.af.length z h.next D l g/\VV M.kind M.af.length l/\(match bt (gR (bo M.kind) V B q) (M.af.length-p) p l with|none=>none|some l'=>reR M V B (q+1) l')=G) _ (λI p=>?_) M.af.length (p:=0) ⟨by omega,rfl,l,K,S,?_⟩
  ·intros;rename_i Z O;obtain⟨d1,d2,t,J,o,b⟩:=O;refine aa (λq2=>?_) (λq2=>?_)
   ·have A:p<M.af.length:=by have:=dT q2;omega
    have k:=J.room 21;obtain⟨p1,e1,Q⟩:=Rd.cell ty (rv.ok k.ok) (j:=q) (by rw[s.len];omega);rw[gf _ A]at b;have hc:gR (bo M.kind) V B q t p=if((V.getD q []==bP M.kind)||((B.getD q []).getD p []==bP M.kind))=true then some t else iB (bo M.kind) t p (V.getD q []) ((B.getD q []).getD p []):=by
     unfold gR;rw[s.at_ m (bo M.kind).zero,v.Ox m A];rfl
    rw[hc]at b;rw[bg A (by omega)];refine⟨_,e1,_,Q,_,dN _,_,(k.mb r).l0,(jM E.kind _).mono ?_⟩;rintro _ U ⟨rfl,R⟩;obtain rfl:Go.Ab.room Z 21=U:=R.symm;refine⟨_,rfl,aa (λL=>⟨⟨Q,oE _⟩,?_⟩) (λL=>?_)⟩
    ·rw[L,Bool.true_or,if_pos rfl]at b;exact cz (M.af.length-(p+1)) (by omega) ⟨by omega,rfl,t,k,o,b⟩
    ·obtain⟨pb,ab,nb,cb,b1,b2,b3⟩:=(rb.ok k.ok).at_ ty (i:=q) (by rw[v.len];omega);obtain⟨p2,b4,b5⟩:=Rd.cell ty b3 (j:=p) (by rw[v.row q m];omega);have hv:dV 4 (.slice ab nb cb) (.slice ab nb cb)=true:=by
      rcases b3 with⟨e,_⟩|⟨k',x3,x5,x4,x6,e,_⟩
      ·grind[dV]
      ·grind[dV]
     refine⟨_,b1,_,_,_,b2,_,b4,_,b5,_,dN _,_,(k.mb r).l0,(jM E.kind _).mono ?_⟩;rintro _ U ⟨rfl,R⟩;obtain rfl:Go.Ab.room Z 21=U:=R.symm;refine⟨_,rfl,⟨Q,oE _⟩,⟨b2,hv⟩,⟨b5,oE _⟩,aa (λP=>?_) (λP=>?_)⟩
     ·rw[P,Bool.or_true,if_pos rfl]at b;exact cz (M.af.length-(p+1)) (by omega) ⟨by omega,rfl,t,k,o,b⟩
     ·rw[L,P,Bool.or_false,if_neg (by simp)]at b;have f:=k.room 17;have x1:=s.val q m;have x2:=v.val q p m A;obtain⟨p6,e6,e7⟩:=Rd.cell ty (rv.ok f.ok) (j:=q) (by rw[s.len];omega);obtain⟨pc,ac,nc,cc,c1,c2,c3⟩:=(rb.ok f.ok).at_ ty (i:=q) (by rw[v.len];omega);obtain⟨p7,c4,c5⟩:=Rd.cell ty c3 (j:=p) (by rw[v.row q m];omega);refine⟨_,dN _,_,(f.mb r).l0,_,e6,_,e7,_,c1,_,_,_,c2,_,c4,_,c5,(KR f.ok.wf f.vb o A x1 x2).mono ?_⟩;rintro _ g5 ⟨o5,H⟩
      cases T:iB (bo M.kind) t p (V.getD q []) ((B.getD q []).getD p [])with
      |none=>
       rw[T]at H b;subst H;exact⟨_,rfl,aa (λ_=>⟨o5.ok f.ok w (λj e=>by omega),by grind⟩) (λe=>by cases e)⟩
      |some l5=>
       rw[T]at H b;obtain⟨rfl,v5⟩:=H;exact⟨_,rfl,aa (λe=>by cases e) (λ_=>cz (M.af.length-(p+1)) (by omega) ⟨by omega,rfl,l5,f.step w o5 v5,Jz o x1 x2 A T,b⟩)⟩
   ·obtain rfl:p=M.af.length:=by grind
    rw[kg]at b;rw[bg m (by omega)];exact cz (M.af.length-(q+1)) (by omega) ⟨by omega,rfl,t,J,o,b⟩
  ·rw[sub_zero];rw[<-C,s.len]
   cases bt (gR (bo M.kind) V B q) M.af.length 0 l with
   |none=>rfl
   |some l'=>dsimp only;unfold reR;rw[s.len]
 ·obtain rfl:q=M.af.length:=by grind
  unfold reR at C;rw[kg]at C;rw[<-C];have:=K.vb.rd M.af.length;rw[S.len]at this;exact⟨K.ok,_,_,rfl,this,S⟩
def fiR(M:bJ)(V:List (List UInt8))(q:Nat)(l:List (List UInt8)):Option (List UInt8):=match bt (lF (bo M.kind) (gm M) V) (M.af.length-q) q l with
 |none=>none
 |some l=>some (l.getD 0 (bo M.kind).zero)
theorem ab7(w:Wf h)(D:Rm M)(r:dR h (.slice x y z) M.af)(rv:Rd h 9 (.slice a M.af.length c) (fk V))(E:VV M.kind M.af.length V):FW SS 78 [.agg ⟨bM M x y z⟩,.slice a M.af.length c] h (oQ h (qW (bo M.kind) (gm M) V)):=by
 obtain⟨p,n⟩:=fv w r;obtain rfl:y=M.af.length:=p.len;have hn:=D.n;refine ab6 (bM M x M.af.length z) a _ c h _ ⟨_,iO M x _ z,_,dN _,_,p.l0,(jM D.kind _).mono ?_⟩;rintro _ m ⟨rfl,e0⟩;obtain rfl:h.push (Bm M x M.af.length z)=m:=e0.symm;refine⟨_,rfl,_,_,_,acx _,?_⟩;generalize h.push (Bm M x M.af.length z)=m at*;have k1:=aN m (.cells [strOf (bP M.kind)] 9 1 true);have N:=(Ok.refl n.wf).push (.cells [strOf (bP M.kind)] 9 1 true);have Z:WI h M x M.af.length z h.next m.next [bP M.kind] (m.push (.cells [strOf (bP M.kind)] 9 1 true)):=⟨N.ext _ _ p.box,k1,n.trans N,Nat.le_refl _,n.nx,by have:=n.wf _ _ p.box;omega⟩
 obtain⟨G,R⟩:∃G,G=qW (bo M.kind) (gm M) V:=⟨_,rfl⟩
 rw[<-R];have K:fiR M V 0 [bP M.kind]=G:=by
  rw[R];unfold fiR qW;rw[E.len,sub_zero];show(match bt (lF (bo M.kind) (gm M) V) M.af.length 0 [(bo M.kind).zero]with|none=>none|some l=>some (l.getD 0 (bo M.kind).zero))=_
  cases bt (lF (bo M.kind) (gm M) V) M.af.length 0 [(bo M.kind).zero]<;>rfl
 refine D8 (bM M x M.af.length z) a M.af.length c h.next m.next (λO q g=>q<=M.af.length/\O=M.af.length-q/\∃l,WI h M x M.af.length z h.next m.next l g/\VV M.kind 1 l/\fiR M V q l=G) _ (λO q=>?_) M.af.length (q:=0) ⟨by omega,rfl,_,Z,⟨rfl,λi hi=>(by rw[show i=0 by omega];exact yQ D.kind)⟩,K⟩;intros;rename_i g L;obtain⟨f1,f2,l,u,A,d⟩:=L;have T:=u.mb r;refine aa (λX=>?_) (λX=>?_)
 ·have v:q<M.af.length:=by have:=dT X;omega
  obtain⟨s,F⟩:∃s,M.af[q]?=some s:=⟨_,gE v⟩
  have P:=List.mem_of_getElem? F;obtain⟨b,o,xa,ya,za,u1,u2,u3,u4,ar⟩:=T.row.at_ F;unfold fiR at d;rw[gf _ v]at d;have hc:lF (bo M.kind) (gm M) V l q=match (El s).fin with|none=>some l|some f=>iB (bo M.kind) l 0 (V.getD q []) f:=by
   unfold lF;rw[Wc F,E.at_ v (bo M.kind).zero]
   cases (El s).fin<;>rfl
  rw[hc]at d;rw[bg v (by omega)];refine⟨_,dO _,_,_,_,T.l3,_,u1,_,qg _ _,_,u3,aa (λq2=>?_) (λq2=>?_)⟩
  ·have C:s.f≠[]:=cD (by grind);have I:(El s).fin=some s.f:=if_neg C;rw[I]at d;dsimp only at d;have k:=u.room 15;have B:=k.mb r;have Y:=E.val q v;have U:=D.fin s P C;obtain⟨p6,e6,e7⟩:=Rd.cell ty (rv.ok k.ok) (j:=q) (by rw[E.len];omega);obtain⟨b',o',x6,x7,x5,Q,x4,W,x3,x0⟩:=B.row.at_ F;refine⟨_,dN _,_,B.l0,_,e6,_,e7,_,dO _,_,_,_,B.l3,_,Q,_,qg _ _,_,W,(KR (t:=0) k.ok.wf k.vb A (by omega) Y U).mono ?_⟩;rintro _ g5 ⟨S,H⟩
   cases J:iB (bo M.kind) l 0 (V.getD q []) s.f with
   |none=>
    rw[J]at H d;subst H;exact⟨_,rfl,aa (λ_=>⟨by rw[<-d];rfl,S.ok k.ok w (λj e=>by rw[e];exact k.nl)⟩) (λe=>by cases e)⟩
   |some l5=>
    rw[J]at H d;obtain⟨rfl,v5⟩:=H;exact⟨_,rfl,aa (λe=>by cases e) (λ_=>cz (M.af.length-(q+1)) (by omega) ⟨by omega,rfl,l5,k.step w S v5,Jz A Y U (by omega) J,d⟩)⟩
  ·have C:s.f=[]:=dw (by grind);have I:(El s).fin=none:=if_pos C;rw[I]at d;exact cz (M.af.length-(q+1)) (by omega) ⟨by omega,rfl,l,u,A,d⟩
 ·obtain rfl:q=M.af.length:=by grind
  unfold fiR at d;rw[kg]at d;refine⟨_,VB.ix ty (j:=0) (by omega),_,u.vb.ld ty (j:=0) (by rw[A.len];omega),?_,u.ok⟩;rw[<-d];show _=Pd (some (l.getD 0 (bo M.kind).zero));rw[A.at_ (i:=0) (by omega) (bo M.kind).zero];rfl
end
end
section
theorem mf{g:ae}{k:Nat}{cs:List Value}{z:Nat}{a:Bool}(e:g.get k=some (.cells cs m z b))(f:g.get n=some (.cells d i j a))(h:m≠i):k≠n:=λc=>by grind
def Nu(a:jj):Bool:=decide (a.i=0)&&decide (a.o=0)
def T7(s:dW):Bool:=s.arcs.any Nu
theorem RF(M:bJ):qU (gm M)=M.af.any T7:=by
 unfold qU;show(M.af.map El).any _=_;rw[List.any_map];congr 1;funext s;show((s.arcs.map FI).any _)=_;rw[List.any_map];rfl
structure QI(h:ae)(M:bJ)(x:Option Addr)(z N k kr q:Nat)(cur:Value)(ks cs:Nat->Nat)(R:LM)(g:ae):Prop where
 box:g.get k=some (.cells (bM M x N z) 29 0 true)
 out:g.get kr=some (.cells (uO N q ks cs cur) 107 1 true)
 row:∀a,a<q->VB g (ks a) (R.getD a [])
 new:h.next<=k/\h.next<=kr/\∀a,a<q->h.next<=ks a
 inj:∀a b,a<q->b<q->ks a=ks b->a=b
 ok:Ok h g
 len:R.length=q
 sq:∀a,a<q->VV M.kind N (R.getD a [])
section
variable {h:ae} {M:bJ} {x:Option Addr} {z N k kr q kl:Nat} {cur:Value} {ks cs:Nat->Nat} {R:LM} {l:List (List UInt8)} {g g':ae}
theorem QI.mb(i:QI h M x z N k kr q cur ks cs R g)(r:dR h (.slice x N z) M.af):MB g k M x N z:=⟨i.box,r.ok i.ok⟩
theorem QI.ym(i:QI h M x z N k kr q cur ks cs R g)(o:Ok g g'):QI h M x z N k kr q cur ks cs R g':=⟨o.ext _ _ i.box,o.ext _ _ i.out,λa b=>o.ext _ _ (i.row a b),i.new,i.inj,i.ok.trans o,i.len,i.sq⟩
theorem QI.room(i:QI h M x z N k kr q cur ks cs R g)(n:Nat):QI h M x z N k kr q cur ks cs R (Go.Ab.room g n):=⟨i.box,i.out,i.row,i.new,i.inj,i.ok.room n,i.len,i.sq⟩
theorem QI.agJ(i:QI h M x z N k kr q cur ks cs R g)(w:Wf h)(y:Value)(f:ey y=true)(e:y.cells = #[y])(j:q<N):∃u:eu,ah SS.P 107 (.pointer (some ⟨kr,q,none⟩)) y g=some (undef,u)/\QI h M x z N k kr q y ks cs R (u.app g)/\∀b B,g.get b=some B->b≠kr->(u.app g).get b=some B:=by
 refine⟨_,ll pZ i.out (by grind[xj]) f e,?_,λb B l c=>by show(g.set kr _).get b=_;rw[ae.ay,if_neg c];omega⟩;rw[MN];refine⟨?_,by show(g.set kr _).get kr=_;rw[ae.ay,if_pos rfl],λa d=>?_,i.new,i.inj,i.ok.set _ i.new.2.1 (i.ok.wf _ _ i.out) w,i.len,i.sq⟩
 ·show(g.set kr _).get k=_;rw[ae.ay,if_neg (mf i.box i.out (by decide))];exact i.box
 ·have:=i.row a d;show(g.set kr _).get (ks a)=_;rw[ae.ay,if_neg (mf this i.out (by decide))];exact this
theorem QI.set(i:QI h M x z N k kr q cur ks cs R g)(w:Wf h)(c:VB g kl l)(e:h.next<=kl)(f:∀a,a<q->ks a≠kl)(b:List (List UInt8)):QI h M x z N k kr q cur ks cs R ((eu.set kl (.cells (fk b) 9 1 true)).app g)/\VB ((eu.set kl (.cells (fk b) 9 1 true)).app g) kl b:=by
 refine⟨⟨?_,?_,λa d=>?_,i.new,i.inj,i.ok.set _ e (i.ok.wf _ _ c) w,i.len,i.sq⟩,by show(g.set kl _).get kl=_;rw[ae.ay,if_pos rfl]⟩
 ·show(g.set kl _).get k=_;rw[ae.ay,if_neg (mf i.box c (by decide))];exact i.box
 ·show(g.set kl _).get kr=_;rw[ae.ay,if_neg (mf i.out c (by decide))];exact i.out
 ·have:=i.row a d;show(g.set kl _).get (ks a)=_;rw[ae.ay,if_neg (f a d)];exact this
theorem QI.next(i:QI h M x z N k kr q (vS kl N N) ks cs R g)(s:VB g kl l)(r:VV M.kind N l)(n:h.next<=kl)(o:∀a,a<q->ks a≠kl):QI h M x z N k kr (q+1) nA (λa=>if a=q then kl else ks a) (λa=>if a=q then N else cs a) (R++[l]) g:=by
 have e:∀a,a<q->(R++[l]).getD a []=R.getD a []:=λa f=>by
  rw[gD,List.getElem?_append_left (by rw[i.len];omega),<-gD]
 have p:(R++[l]).getD q []=l:=by
  rw[gD,List.getElem?_append_right (by rw[i.len];omega),i.len,Nat.sub_self];rfl
 refine⟨i.box,by rw[<-IA];exact i.out,λa f=>?_,⟨i.new.1,i.new.2.1,λa f=>?_⟩,λa b f m j=>?_,i.ok,by rw[List.length_append,i.len];rfl,λa f=>?_⟩
 ·by_cases c:a=q
  ·grind
  ·rw[if_neg c,e a (by omega)];exact i.row a (by omega)
 ·by_cases c:a=q
  ·grind
  ·rw[if_neg c];exact i.new.2.2 a (by omega)
 ·by_cases c:a=q<;>by_cases d:b=q
  ·omega
  ·grind
  ·grind
  ·rw[if_neg c,if_neg d]at j;exact i.inj a b (by omega) (by omega) j
 ·by_cases c:a=q
  ·grind
  ·rw[e a (by omega)];exact i.sq a (by omega)
theorem QI.mtx(i:QI h M x z N k kr N cur ks cs R g):vL 107 g kr ks cs R/\Sq M.kind N R:=by
 refine⟨⟨?_,λa c=>i.row a (by rw[<-i.len];omega),λa c=>?_,λa b c d=>i.inj a b (by rw[<-i.len];omega) (by rw[<-i.len];omega)⟩,i.len,λa c=>(i.sq a c).len,λa b c d=>(i.sq a c).val b d⟩
 ·rw[i.out,i.len];congr 2;unfold uO;refine List.map_congr_left λa c=>?_;have c:=List.mem_range.1 c;rw[if_pos c,(i.sq a c).len]
 ·exact mf (i.row a (by rw[<-i.len];omega)) i.out (by decide)
end
def ahj(h:ae)(M:bJ)(o:Option (Option LM)):VH:=λv g=>Ok h g/\match o with
 |none=>v = .tuple ⟨[nA,.int .i64 2]⟩
 |some none=>v = .tuple ⟨[nA,.int .i64 0]⟩
 |some (some B)=>∃(a:Addr)(d:Nat),v = .tuple ⟨[.slice (some a) M.af.length d,.int .i64 0]⟩/\Ou 107 g (.slice (some a) M.af.length d) B/\Sq M.kind M.af.length B
theorem ab9{h:ae}{M:bJ}{x:Option Addr}{z:Nat}(w:Wf h)(J:Rm M)(r:dR h (.slice x n z) M.af):FW SS 73 [.agg ⟨bM M x n z⟩,.bool false] h (ahj h M (eG (bo M.kind) (gm M))):=by
 obtain⟨U,O⟩:=fv w r;obtain rfl:n=M.af.length:=U.len;have hn:=J.n;obtain⟨N,hN⟩:∃N,N=M.af.length:=⟨_,rfl⟩
 refine ab8 (bM M x M.af.length z) h _ ⟨_,iO M x _ z,_,dO _,_,_,_,U.l3,_,_,_,WR _ (by omega),?_⟩;generalize h.push (Bm M x M.af.length z)=y at*;have k1:=aN y (.cells (List.replicate M.af.length nA) 107 1 true);have o1:=(Ok.refl O.wf).push (.cells (List.replicate M.af.length nA) 107 1 true);obtain⟨G,hG⟩:∃G,G=eG (bo M.kind) (gm M):=⟨_,rfl⟩
 obtain⟨K,z5⟩:∃K,K=bt (iK (bo M.kind) (gm M)) M.af.length 0 []:=⟨_,rfl⟩
 have z6:K=none->G=none:=λe=>by grind[FL,eG]
 have P:∀A,K=some A->G=if M.af.any T7=true then(if 60<M.af.length then none else match mL (bo M.kind) A with|none=>none|some B=>some (some B))else some none:=λA e=>by grind[FL,RF,eG]
 rw[<-hG];have i0:QI h M x z M.af.length h.next y.next 0 nA (λ_=>0) (λ_=>0) [] (y.push (.cells (List.replicate M.af.length nA) 107 1 true)):=by
  refine⟨o1.ext _ _ U.box,?_,λa p=>by omega,⟨Nat.le_refl _,O.nx,λa p=>by omega⟩,λa b p=>by omega,O.trans o1,rfl,λa p=>by omega⟩;rw[k1];congr 2;unfold uO;refine ext_getElem (by simp) λa h1 h2=>?_;simp
 refine D9 (bM M x M.af.length z) h.next y.next M.af.length (λmz q an g=>q<=M.af.length/\mz=M.af.length-q/\(an||(M.af.drop q).any T7)=M.af.any T7/\∃ks cs R,QI h M x z M.af.length h.next y.next q nA ks cs R g/\bt (iK (bo M.kind) (gm M)) (M.af.length-q) q R=K) _ (λmz q an=>?_) M.af.length (q:=0) (an:=false) ⟨by omega,rfl,by rfl,_,_,_,i0,by grind⟩;intros;rename_i g y7;obtain⟨f1,f2,p,ks,cs,R,i,W⟩:=y7;refine aa (λq1=>?_) (λq1=>?_)
 ·have t:q<M.af.length:=by have:=dT q1;omega
  obtain⟨s,Z⟩:∃s,M.af[q]?=some s:=⟨_,gE t⟩
  have x0:=List.mem_of_getElem? Z;rw[iS Z,List.any_cons]at p;rw[gf _ t]at W;have hc:iK (bo M.kind) (gm M) R q=match bt (fL (bo M.kind) (El s).arcs) s.arcs.length 0 (bK (bo M.kind) M.af.length)with|none=>none|some r=>some (R++[r]):=by
   unfold iK;rw[Wc Z,Wg,FL]
   cases bt (fL (bo M.kind) (El s).arcs) s.arcs.length 0 (bK (bo M.kind) M.af.length)<;>rfl
  rw[hc]at W;refine⟨_,(i.mb r).all,(yN i.ok.wf J (r.ok i.ok)).mono ?_⟩;rintro _ g1 ⟨kl,rfl,x2,nl,o2⟩;have x5:=i.ym o2;have x6:h.next<=kl:=Nat.le_trans i.ok.nx nl;have hk:∀a,a<q->ks a≠kl:=λa p=>by have:=i.ok.wf _ _ (i.row a p);omega
  obtain⟨u,st,z2,kp⟩:=x5.agJ w (vS kl M.af.length M.af.length) rfl rfl t;have z3:=kp _ _ x2 (λe=>mf x2 x5.out (by decide) e);refine⟨_,_,_,rfl,_,FP qp pZ t,u,st,?_⟩;generalize u.app g1=g2 at*;refine Ea (bM M x M.af.length z) h.next y.next M.af.length _ mz q (λx3 j an g=>j<=s.arcs.length/\x3=s.arcs.length-j/\(an||((s.arcs.drop j).any Nu||(M.af.drop (q+1)).any T7))=M.af.any T7/\∃l,QI h M x z M.af.length h.next y.next q (vS kl M.af.length M.af.length) ks cs R g/\VB g kl l/\VV M.kind M.af.length l/\(match bt (fL (bo M.kind) (El s).arcs) (s.arcs.length-j) j l with|none=>none|some r=>bt (iK (bo M.kind) (gm M)) (M.af.length-(q+1)) (q+1) (R++[r]))=K) _ (λx3 j an=>?_) s.arcs.length (j:=0) (an:=an) ⟨by omega,rfl,by rw[drop_zero];exact p,_,z2,z3,VV.Rk J.kind _,?_⟩
  ·intros;rename_i g3 y5;obtain⟨d1,d2,k,l,I,y2,m,f⟩:=y5;have V:=I.mb r;obtain⟨b,o,xa,ya,za,u1,u2,u3,u4,ar⟩:=V.row.at_ Z;have hm:=ar.len;subst hm;have z8:=J.m s x0;refine⟨_,dO _,_,_,_,V.l3,_,u1,_,mh _ _,_,_,_,u4,aa (λL=>?_) (λL=>?_)⟩
   ·have hj:j<s.arcs.length:=by have:=dT L;omega
    obtain⟨d,H⟩:∃d,s.arcs[j]?=some d:=⟨_,gE hj⟩
    obtain⟨b2,z9,v1,v2,v3,v4,v5,v6⟩:=ar.at_ H;obtain⟨uu,p1,p2,p3⟩:=MS I.ok.wf d;have E:=I.ym p2;have T:VB _ kl l:=p2.ext _ _ y2;have hw:=J.arc s x0 d (List.mem_of_getElem? H);rw[iS H,List.any_cons]at k;rw[gf _ hj]at f;have ht:d.t.toNat<M.af.length:=by omega
    have et:d.t=((d.t.toNat:Nat):Int):=by omega
    have z0:fL (bo M.kind) (El s).arcs l j=if d.i≠0\/d.o≠0 then some l else match fD M.kind (l.getD d.t.toNat []) d.w with|none=>none|some x=>some (l.set d.t.toNat x):=by
     unfold fL;rw[acH H];have e1:(FI d).t=d.t.toNat:=rfl;have e2:(FI d).i=d.i:=rfl;have e3:(FI d).o=d.o:=rfl;have e4:(FI d).w=d.w:=rfl;rw[e1,e2,e3,e4,m.at_ ht (bo M.kind).zero];have e5:(bo M.kind).plus (l.getD d.t.toNat []) d.w=fD M.kind (l.getD d.t.toNat []) d.w:=rfl;rw[e5]
     cases fD M.kind (l.getD d.t.toNat []) d.w<;>rfl
    rw[z0]at f;rw[bg hj (by omega)];refine⟨_,dO _,_,_,_,V.l3,_,u1,_,mh _ _,_,_,_,u4,_,v1,_,v2,_,UU,uu,p1,?_⟩;generalize uu.app (g3.push Rl)=g4 at*;refine⟨_,Fw _ _,_,p3.l0,aa (λC=>?_) (λC=>⟨_,Fx _ _,_,p3.l1,aa (λD=>?_) (λD=>?_)⟩)⟩
    ·have C:d.i≠0:=by simpa using C
     rw[if_pos (.inl C)]at f;have e:Nu d=false:=by unfold Nu;simp[C]
     rw[e,Bool.false_or]at k;exact jV (s.arcs.length-(j+1)) (by omega) ⟨by omega,rfl,k,l,E,T,m,f⟩
    ·have D:d.o≠0:=by simpa using D
     rw[if_pos (.inr D)]at f;have e:Nu d=false:=by unfold Nu;simp[D]
     rw[e,Bool.false_or]at k;exact jV (s.arcs.length-(j+1)) (by omega) ⟨by omega,rfl,k,l,E,T,m,f⟩
    ·have C:d.i=0:=by simpa using C
     have D:d.o=0:=by simpa using D
     rw[if_neg (by omega)]at f;have e:Nu d=true:=by unfold Nu;simp[C,D]
     rw[e]at k;simp only[Bool.true_or,Bool.or_true]at k;have F:=E.room 18;have x9:VB (Go.Ab.room g4 18) kl l:=T;have z4:aj SS.P 107 (Go.Ab.room g4 18) (.pointer (some ⟨y.next,q,none⟩))=some (vS kl M.af.length M.af.length):=by rw[dp GB Ly F.out (by grind[xj]),Gb t]
     have S:=p3.ok ((Ok.refl E.ok.wf).room 18);have y1:=S.l3;rw[et]at y1;have x1:=m.val _ ht;refine⟨_,dN _,_,(F.mb r).l0,_,FP qp pZ t,_,_,_,z4,_,uo _ _,_,y1,_,VB.ix ty ht,_,x9.ld ty (by rw[m.len];omega),_,Fy _ _,_,S.l2,(yu x1 hw.1 F.ok.wf).mono ?_⟩;rintro _ g6 ⟨rfl,Y⟩;have y0:=F.ym Y;have z1:VB g6 kl l:=Y.ext _ _ x9
     cases e6:fD M.kind (l.getD d.t.toNat []) d.w with
     |none=>
      rw[e6]at f;exact⟨_,_,rfl,aa (λ_=>⟨y0.ok,by grind⟩) (λe=>by cases e)⟩
     |some sv=>
      rw[e6]at f;have y3:=y0.room 9;have x8:VB (Go.Ab.room g6 9) kl l:=z1;have y6:aj SS.P 107 (Go.Ab.room g6 9) (.pointer (some ⟨y.next,q,none⟩))=some (vS kl M.af.length M.af.length):=by rw[dp GB Ly y3.out (by grind[xj]),Gb t]
      have y4:=(S.ok (Y.trans ((Ok.refl Y.wf).room 9))).l3;rw[et]at y4;obtain⟨y8,y9⟩:=y3.set w x8 x6 hk (l.set d.t.toNat sv);refine⟨_,_,rfl,aa (λe=>by cases e) (λ_=>⟨_,FP qp pZ t,_,_,_,y6,_,uo _ _,_,y4,_,VB.ix ty ht,_,x8.st ty (by rw[m.len];omega) _,?_⟩)⟩;exact jV (s.arcs.length-(j+1)) (by omega) ⟨by omega,rfl,by grind,_,y8,y9,m.set (Bi x1 hw.1 e6),f⟩
   ·obtain rfl:j=s.arcs.length:=by grind
    rw[kg]at f;rw[drop_eq_nil_of_le (Nat.le_refl _)]at k;rw[bg t (by omega)];exact jV (M.af.length-(q+1)) (by omega) ⟨by omega,rfl,by grind,_,_,_,I.next y2 m x6 hk,f⟩
  ·rw[sub_zero,<-W]
   cases bt (fL (bo M.kind) (El s).arcs) s.arcs.length 0 (bK (bo M.kind) M.af.length)<;>rfl
 ·obtain rfl:q=M.af.length:=by grind
  rw[kg]at W;have P:=P R W.symm;rw[drop_eq_nil_of_le (Nat.le_refl _),List.any_nil,Bool.or_false]at p;rw[P,<-p];refine aa (λQ=>?_) (λQ=>?_)
  ·rw[not_eq_true']at Q;rw[Q];exact⟨i.ok,rfl⟩
  ·rw[not_eq_false']at Q;rw[Q,if_pos rfl];refine aa (λL=>?_) (λL=>?_)
   ·rw[if_pos (by grind)];exact⟨i.ok,rfl⟩
   ·have x7:¬60<M.af.length:=by have:=dF L;omega
    rw[if_neg x7];obtain⟨mm,sq⟩:=i.mtx;have rm:=mm.rdM M.af.length;rw[sq.len]at rm;have x4:=Tl i.ok.wf J.kind (by omega) rm sq;rw[if_neg x7]at x4;refine⟨_,dN _,_,(i.mb r).l0,x4.mono ?_⟩;rintro v g2 ⟨o2,X⟩
    cases e:mL (bo M.kind) R with
    |none=>
     rw[e]at X;subst X;exact⟨_,_,_,_,rfl,i.ok.trans o2,rfl⟩
    |some B=>
     rw[e]at X;obtain⟨a,c,rfl,z7,rd,sB⟩:=X
     cases a with
     |none=>grind
     |some ps=>exact⟨_,_,_,_,rfl,i.ok.trans o2,ps,c,rfl,rd,sB⟩
end
noncomputable def Vj:FD:=dq Tryz.f42 []
theorem RO(g:Int)(h:ae)(Q:VH)(i:FW SS 70 [(.int .i64 g)] h λe f=>yS e λd=>xA (bu SS.P 29 [(0,(.int .i64 g)),(2,(strOf d))]) λc=>xA (bu SS.P 65 [(0,(.agg ⟨c⟩)),(1,(strOf d))]) λb=>xN (fu SS.P 65 (.agg ⟨b⟩)) f λ_ a=>Q (pA (f.next)) a):FW SS 42 [(.int .i64 g)] h Q:=du Vj Tryz.func42 (ai i)
noncomputable def Vk:FD:=dq Tryz.f43 []
theorem RQ(k:Nat)(f:LB)(h:ae)(Q:VH)(u:fP 65 (pA k) 0 λt=>fP 29 (.pointer (some t)) 3 λs=>lL 27 h s λp q r=>xA (bu SS.P 73 [(0,(strOf f))]) λo=>xR (aJ SS.P 27 1 [(0,(.agg ⟨o⟩))]) h λ_ l m n=>xE (bR SS.P 27 27 (.slice p q r) (sA (h.next) l m) n) n λg h i _ j=>fP 65 (pA k) 0 λf=>fP 29 (.pointer (some f)) 3 λe=>xU (ah SS.P 27 (.pointer (some e)) (.slice g h i) j) j λ_ d=>fP 65 (pA k) 0 λc=>fP 29 (.pointer (some c)) 3 λb=>lL 27 d b λ_ a _=>Q (.int .i64 (wrap .i64 ((a:Int)-1))) d):FW SS 43 [(pA k),(strOf f)] h Q:=du Vk Tryz.func43 (ai u)
noncomputable def adi:FD:=dq Tryz.f44 []
theorem aae(k:Nat)(s:Int)(C:LV)(h:ae)(Q:VH)(F:xN (fu SS.P 70 (.agg ⟨C⟩)) h λ_ B=>fP 65 (pA k) 2 λG=>lI B G λH=>fP 65 (pA k) 2 λE=>xU (ah SS.P 3 (.pointer (some E)) (.int .i64 (wrap .i64 (H+1))) B) B λ_ A=>fP 65 (pA k) 0 λD=>fP 29 (.pointer (some D)) 3 λz=>lL 27 (room A 21) z λw x y=>fP 65 (pA k) 0 λv=>fP 29 (.pointer (some v)) 3 λu=>lL 27 (room A 21) u λq r t=>iP 27 (.slice q r t) (.int .i64 s) λp=>fP 73 (.pointer (some p)) 1 λo=>lL 71 (room A 21) o λl m n=>lA 70 (room A 21) (pA (h.next)) λk=>zR (aJ SS.P 71 1 [(0,(.agg ⟨k⟩))]) λh i j=>xE (bR SS.P 71 71 (.slice l m n) (sA (A.next+16) i j) (cd (room A 21) A.next [(16,h)])) (cd (room A 21) A.next [(16,h)]) λd e f _ g=>iP 27 (.slice w x y) (.int .i64 s) λc=>fP 73 (.pointer (some c)) 1 λb=>xU (ah SS.P 71 (.pointer (some b)) (.slice d e f) g) g λ_ a=>(aj SS.P 27 g (.pointer (some z))=some (.slice w x y)/\dV 4 (.slice w x y) (.slice w x y)=true)/\Q (.tuple ⟨[]⟩) a):FW SS 44 [(pA k),(.int .i64 s),(.agg ⟨C⟩)] h Q:=du adi Tryz.func44 (ai F)
noncomputable def adk:FD:=dq Tryz.f58 []
theorem aan(k:Nat)(s:Int)(w:LB)(t:Int)(h:ae)(Q:VH)(d:xA (bu SS.P 70 [(2,(strOf w)),(3,(.int .i64 t))]) λc=>FW SS 44 [(pA k),(.int .i64 s),(.agg ⟨c⟩)] h λa b=>a=(.tuple ⟨[]⟩)/\Q (.tuple ⟨[]⟩) b):FW SS 58 [(pA k),(.int .i64 s),(strOf w),(.int .i64 t)] h Q:=du adk Tryz.func58 (ai d)
noncomputable def Vl:FD:=dq Tryz.f63 []
theorem RT(k:Nat)(a b:LB)(h:ae)(Q:VH)(l:fP 65 (pA k) 0 λj=>fP 29 (.pointer (some j)) 0 λi=>lI h i λg=>FW SS 86 [(.int .i64 g),(strOf a),(strOf b)] h λe f=>∃d:LB,∃c:Int,e=(.tuple ⟨[(strOf d),(.int .i64 c)]⟩)/\au (((c:Int) !=0)) (fP 65 (pA k) 3 λb=>xU (ah SS.P 30 (.pointer (some b)) (.int .i64 c) f) f λ_ a=>Q (strOf d) a) (Q (strOf d) f)):FW SS 63 [(pA k),(strOf a),(strOf b)] h Q:=du Vl Tryz.func63 (ai l)
noncomputable def aam:FD:=dq Tryz.f64 []
theorem Vg(k:Nat)(t:Int)(h:ae)(Q:VH)(c:xN (fu SS.P 62 (pA k)) h λ_ b=>xN (fu SS.P 3 (.int .i64 t)) b λ_ a=>Q (.func (.func 87) ⟨[]⟩ ⟨[(pA (h.next)),(pA (b.next))]⟩) a):FW SS 64 [(pA k),(.int .i64 t)] h Q:=du aam Tryz.func64 (ai c)
noncomputable def Vf:FD:=dq Tryz.f87 []
theorem RL(s:Int)(f:LB)(q r:Nat)(h:ae)(Q:VH)(t:xO (aj SS.P 62 h (pA q)) λp=>KY SS.P p h λn o=>fP 65 n 0 λm=>fP 29 (.pointer (some m)) 3 λl=>lL 27 o l λi j k=>iP 27 (.slice i j k) (.int .i64 s) λh=>fP 73 (.pointer (some h)) 0 λg=>xU (ah SS.P 9 (.pointer (some g)) (strOf []) o) o λ_ e=>xO (aj SS.P 62 e (pA q)) λd=>xI .i64 (aj SS.P 3 e (pA r)) λc=>FW SS 58 [(.pointer d),(.int .i64 s),(strOf f),(.int .i64 c)] e λa b=>a=(.tuple ⟨[]⟩)/\Q (.tuple ⟨[]⟩) b):FW SS 87 [(.int .i64 s),(strOf f),(pA q),(pA r)] h Q:=du Vf Tryz.func87 (ai t)
noncomputable def aah:FD:=dq Tryz.f60 []
theorem Va(s:Int)(f:LB)(h:ae)(Q:VH)(a:Q (.tuple ⟨[]⟩) h):FW SS 60 [(.int .i64 s),(strOf f)] h Q:=du aah Tryz.func60 (ai a)
noncomputable def aag:FD:=dq Tryz.f46 []
theorem U8(k:Nat)(h:ae)(Q:VH)(n:xN (av SS.P 29) h λ_ m=>fP 65 (pA k) 3 λl=>xI .i64 (aj SS.P 30 m (.pointer (some l))) λj=>au (((j:Int) !=0)) (xA (bu SS.P 29 []) λb=>xU (ah SS.P 29 (pA (h.next)) (.agg ⟨b⟩) m) m λ_ a=>eK SS [((pA (h.next)),some 29),((.int .i64 2),none)] a Q) (fP 65 (pA k) 0 λi=>fP 29 (.pointer (some i)) 3 λg=>lL 27 m g λ_ f _=>au (decide (((f:Int):Int)>3000)) (xA (bu SS.P 29 []) λb=>xU (ah SS.P 29 (pA (h.next)) (.agg ⟨b⟩) m) m λ_ a=>eK SS [((pA (h.next)),some 29),((.int .i64 2),none)] a Q) (fP 65 (pA k) 2 λe=>lI m e λd=>au (decide ((d:Int)>30000)) (xA (bu SS.P 29 []) λb=>xU (ah SS.P 29 (pA (h.next)) (.agg ⟨b⟩) m) m λ_ a=>eK SS [((pA (h.next)),some 29),((.int .i64 2),none)] a Q) (fP 65 (pA k) 0 λc=>lA 29 m (.pointer (some c)) λb=>xU (ah SS.P 29 (pA (h.next)) (.agg ⟨b⟩) m) m λ_ a=>eK SS [((pA (h.next)),some 29),((.int .i64 0),none)] a Q)))):FW SS 46 [(pA k)] h Q:=du aag Tryz.func46 (ai n)
noncomputable def adl:FD:=dq Tryz.f51 []
theorem aap(s:Int)(h:ae)(Q:VH)(a:au (decide ((s:Int)>=1)) (Q (.bool (decide ((s:Int)<=500))) h) (Q (.bool false) h)):FW SS 51 [(.int .i64 s)] h Q:=du adl Tryz.func51 (ai a)
noncomputable def ae7:FD:=dq Tryz.f45 []
theorem adj(d:OA)(c e:Nat)(i:Nat)(h:ae)(Q:VH)(f:au (decide (((i:Int):Int)<(c:Int))) (iP 22 (.slice d c e) (iA i) λb=>lI h b λa=>Q (.int .i64 a) h) (Q (.int .i64 0) h)):FW SS 45 [(.slice d c e),(iA i)] h Q:=du ae7 Tryz.func45 (ai f)
noncomputable def Vm:FD:=dq Tryz.f68 []
theorem RV(s:Int)(h:ae)(Q:VH)(d:FW SS 51 [(.int .i64 s)] h λb c=>yB b λa=>Q (.bool (!a)) c):FW SS 68 [(.int .i64 s)] h Q:=du Vm Tryz.func68 (ai d)
noncomputable def aaj:FD:=dq Tryz.f50 []
theorem Vd(s:Int)(h:ae)(Q:VH)(d:FW SS 51 [(.int .i64 s)] h λb c=>yB b λa=>Q (.bool (!a)) c):FW SS 50 [(.int .i64 s)] h Q:=du aaj Tryz.func50 (ai d)
noncomputable def uy:FD:=dq Tryz.f79 [([1,0,1,0,0],[0,1,7,8])]
abbrev pD(b:OA)(a c:Nat)(i:Nat):LV:=[(.slice b a c),(.func (.func 68) ⟨[]⟩ ⟨[]⟩),(iA a),(iA i)]
theorem Wk(a:OA)(c b:Nat)(h:ae)(Q:VH)(d:LL SS uy [1,0,1,0,0] (pD a c b 0) h (KK SS uy [1,0,1,0] [] (EE SS uy Q))):FW SS 79 [(.slice a c b),(.func (.func 68) ⟨[]⟩ ⟨[]⟩)] h Q:=du uy Tryz.func79 (ai d)
theorem Cy(k:OA)(g l:Nat)  (j:Nat->Nat->ae->Prop) (Q:VH) (step:∀(f:Nat)(i:Nat)(n:Nat->Value)(h:ae),j f i h->au (decide (((i:Int):Int)<(g:Int))) (iP 22 (.slice k g l) (iA i) λe=>lI h e λd=>FW SS 68 [(.int .i64 d)] h λb c=>yB b λa=>au a (Q (iA i) c) (aM (gp (pD k g l) j) f [(.slice k g l),(.func (.func 68) ⟨[]⟩ ⟨[]⟩),(iA g),(.int .i64 (wrap .i64 ((i:Int)+1)))] c)) (Q (.int .i64 (-1)) h)) (f:Nat) {i:Nat} {h:ae} (m:j f i h):LL SS uy [1,0,1,0,0] (pD k g l i) h (KK SS uy [1,0,1,0] [] (EE SS uy Q)):=
 dJ (pD k g l) j (λf i n h m=>ai (step f i n h m)) f m
noncomputable def VE:FD:=dq Tryz.f49 []
theorem Sb(d:OA)(f e:Nat)(h:ae)(Q:VH)(g:FW SS 79 [(.slice d f e),(.func (.func 68) ⟨[]⟩ ⟨[]⟩)] h λb c=>yI .i64 b λa=>Q (.bool (decide ((a:Int)>=0))) c):FW SS 49 [(.slice d f e),(.func (.func 68) ⟨[]⟩ ⟨[]⟩)] h Q:=du VE Tryz.func49 (ai g)
noncomputable def ux:FD:=dq Tryz.f79 [([1,0,1,0,0],[0,1,7,8])]
abbrev pC(b:OA)(a c:Nat)(i:Nat):LV:=[(.slice b a c),(.func (.func 50) ⟨[]⟩ ⟨[]⟩),(iA a),(iA i)]
theorem Wj(a:OA)(c b:Nat)(h:ae)(Q:VH)(d:LL SS ux [1,0,1,0,0] (pC a c b 0) h (KK SS ux [1,0,1,0] [] (EE SS ux Q))):FW SS 79 [(.slice a c b),(.func (.func 50) ⟨[]⟩ ⟨[]⟩)] h Q:=du ux Tryz.func79 (ai d)
theorem Cx(k:OA)(g l:Nat)  (j:Nat->Nat->ae->Prop) (Q:VH) (step:∀(f:Nat)(i:Nat)(n:Nat->Value)(h:ae),j f i h->au (decide (((i:Int):Int)<(g:Int))) (iP 22 (.slice k g l) (iA i) λe=>lI h e λd=>FW SS 50 [(.int .i64 d)] h λb c=>yB b λa=>au a (Q (iA i) c) (aM (gp (pC k g l) j) f [(.slice k g l),(.func (.func 50) ⟨[]⟩ ⟨[]⟩),(iA g),(.int .i64 (wrap .i64 ((i:Int)+1)))] c)) (Q (.int .i64 (-1)) h)) (f:Nat) {i:Nat} {h:ae} (m:j f i h):LL SS ux [1,0,1,0,0] (pC k g l i) h (KK SS ux [1,0,1,0] [] (EE SS ux Q)):=
 dJ (pC k g l) j (λf i n h m=>ai (step f i n h m)) f m
noncomputable def VD:FD:=dq Tryz.f49 []
theorem Sa(d:OA)(f e:Nat)(h:ae)(Q:VH)(g:FW SS 79 [(.slice d f e),(.func (.func 50) ⟨[]⟩ ⟨[]⟩)] h λb c=>yI .i64 b λa=>Q (.bool (decide ((a:Int)>=0))) c):FW SS 49 [(.slice d f e),(.func (.func 50) ⟨[]⟩ ⟨[]⟩)] h Q:=du VD Tryz.func49 (ai g)
noncomputable def Vn:FD:=dq Tryz.f40 []
theorem RY(e:OA)(d f:Nat)(h:ae)(Q:VH)(g:au (decide (((d:Int):Int)<=200)) (FW SS 49 [(.slice e d f),(.func (.func 68) ⟨[]⟩ ⟨[]⟩)] h λb c=>yB b λa=>Q (.bool (!a)) c) (Q (.bool false) h)):FW SS 40 [(.slice e d f)] h Q:=du Vn Tryz.func40 (ai g)
noncomputable def adm:FD:=dq Tryz.f57 []
theorem aaq(q p:LV)(h:ae)(Q:VH)(r:xN (fu SS.P 29 (.agg ⟨q⟩)) h λ_ o=>xN (fu SS.P 29 (.agg ⟨p⟩)) o λ_ n=>lA 29 n (pA (h.next)) λm=>FW SS 66 [(.agg ⟨m⟩)] n λk l=>yB k λj=>au (!j) (Q (.int .i64 1) l) (lA 29 l (pA (o.next)) λi=>FW SS 66 [(.agg ⟨i⟩)] l λf g=>yB f λe=>au (!e) (Q (.int .i64 1) g) (fP 29 (pA (h.next)) 0 λd=>lI g d λc=>fP 29 (pA (o.next)) 0 λb=>lI g b λa=>au (((c:Int) !=a)) (Q (.int .i64 6) g) (Q (.int .i64 0) g)))):FW SS 57 [(.agg ⟨q⟩),(.agg ⟨p⟩)] h Q:=du adm Tryz.func57 (ai r)
end Go.Proofs.YtaaichlgdgjgjaaGreatDoor
end
