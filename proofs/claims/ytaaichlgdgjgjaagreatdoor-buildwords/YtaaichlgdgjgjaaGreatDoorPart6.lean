/- Laws and walks that the proof leans on (part 6): V11; BA16; BA17; V12; BA18; V7 and others. No condition. -/
import Derived.Test.YtaaichlgdgjgjaaGreatDoorPart3
import Derived.Test.YtaaichlgdgjgjaaGreatDoorPart2
import Derived.Test.YtaaichlgdgjgjaaGreatDoorPart5
set_option linter.unusedVariables false
set_option linter.unusedSimpArgs false
set_option maxRecDepth 100000
open List (all_cons all_eq_true append_assoc drop_eq_nil_of_le drop_length drop_zero ext_getElem getElem?_map length_append length_cons length_drop length_replicate length_set length_take map_append map_set mem_map mem_singleton range_succ take_length take_of_length_le take_take)
open Nat (lt_succ_self)
open Option (map_eq_some_iff)
open Bool (and_eq_true not_eq_false' not_eq_true')
open Go.IntKind (wrap)
section
namespace Go.Proofs.YtaaichlgdgjgjaaGreatDoor
open Go Go.Ab Go.Num
noncomputable def RJ:FD:=cF Tryz.f42 []
theorem Od(g:Int)(h:ae)(Q:VH)(i:FW SS 70 [(.int .i64 g)] h λe f=>yS e λd=>xA (bg SS.P 29 [(0,(.int .i64 g)),(2,(strOf d))]) λc=>xA (bg SS.P 65 [(0,(.agg ⟨c⟩)),(1,(strOf d))]) λb=>xN (eV SS.P 65 (.agg ⟨b⟩)) f λ_ a=>Q (pA (f.next)) a):FW SS 42 [(.int .i64 g)] h Q:=cJ RJ Tryz.func42 (ai i)
noncomputable def RK:FD:=cF Tryz.f43 []
theorem Oe(k:Nat)(f:LB)(h:ae)(Q:VH)(u:fP 65 (pA k) 0 λt=>fP 29 (.pointer (some t)) 3 λs=>lL 27 h s λp q r=>xA (bg SS.P 73 [(0,(strOf f))]) λo=>xR (aF SS.P 27 1 [(0,(.agg ⟨o⟩))]) h λ_ l m n=>xE (bF SS.P 27 27 (.slice p q r) (sA (h.next) l m) n) n λg h i _ j=>fP 65 (pA k) 0 λf=>fP 29 (.pointer (some f)) 3 λe=>xU (ah SS.P 27 (.pointer (some e)) (.slice g h i) j) j λ_ d=>fP 65 (pA k) 0 λc=>fP 29 (.pointer (some c)) 3 λb=>lL 27 d b λ_ a _=>Q (.int .i64 (wrap .i64 ((a:Int)-1))) d):FW SS 43 [(pA k),(strOf f)] h Q:=cJ RK Tryz.func43 (ai u)
noncomputable def Zt:FD:=cF Tryz.f44 []
theorem VS(k:Nat)(s:Int)(C:LV)(h:ae)(Q:VH)(F:xN (eV SS.P 70 (.agg ⟨C⟩)) h λ_ B=>fP 65 (pA k) 2 λG=>lI B G λH=>fP 65 (pA k) 2 λE=>xU (ah SS.P 3 (.pointer (some E)) (.int .i64 (wrap .i64 (H+1))) B) B λ_ A=>fP 65 (pA k) 0 λD=>fP 29 (.pointer (some D)) 3 λz=>lL 27 (room A 21) z λw x y=>fP 65 (pA k) 0 λv=>fP 29 (.pointer (some v)) 3 λu=>lL 27 (room A 21) u λq r t=>iP 27 (.slice q r t) (.int .i64 s) λp=>fP 73 (.pointer (some p)) 1 λo=>lL 71 (room A 21) o λl m n=>lA 70 (room A 21) (pA (h.next)) λk=>zR (aF SS.P 71 1 [(0,(.agg ⟨k⟩))]) λh i j=>xE (bF SS.P 71 71 (.slice l m n) (sA (A.next+16) i j) (ca (room A 21) A.next [(16,h)])) (ca (room A 21) A.next [(16,h)]) λd e f _ g=>iP 27 (.slice w x y) (.int .i64 s) λc=>fP 73 (.pointer (some c)) 1 λb=>xU (ah SS.P 71 (.pointer (some b)) (.slice d e f) g) g λ_ a=>(aj SS.P 27 g (.pointer (some z))=some (.slice w x y)/\dA 4 (.slice w x y) (.slice w x y)=true)/\Q (.tuple ⟨[]⟩) a):FW SS 44 [(pA k),(.int .i64 s),(.agg ⟨C⟩)] h Q:=cJ Zt Tryz.func44 (ai F)
noncomputable def Zv:FD:=cF Tryz.f58 []
theorem V9(k:Nat)(s:Int)(w:LB)(t:Int)(h:ae)(Q:VH)(d:xA (bg SS.P 70 [(2,(strOf w)),(3,(.int .i64 t))]) λc=>FW SS 44 [(pA k),(.int .i64 s),(.agg ⟨c⟩)] h λa b=>a=(.tuple ⟨[]⟩)/\Q (.tuple ⟨[]⟩) b):FW SS 58 [(pA k),(.int .i64 s),(strOf w),(.int .i64 t)] h Q:=cJ Zv Tryz.func58 (ai d)
noncomputable def RL:FD:=cF Tryz.f63 []
theorem Og(k:Nat)(a b:LB)(h:ae)(Q:VH)(l:fP 65 (pA k) 0 λj=>fP 29 (.pointer (some j)) 0 λi=>lI h i λg=>FW SS 86 [(.int .i64 g),(strOf a),(strOf b)] h λe f=>∃d:LB,∃c:Int,e=(.tuple ⟨[(strOf d),(.int .i64 c)]⟩)/\au (((c:Int) !=0)) (fP 65 (pA k) 3 λb=>xU (ah SS.P 30 (.pointer (some b)) (.int .i64 c) f) f λ_ a=>Q (strOf d) a) (Q (strOf d) f)):FW SS 63 [(pA k),(strOf a),(strOf b)] h Q:=cJ RL Tryz.func63 (ai l)
noncomputable def V0:FD:=cF Tryz.f64 []
theorem RF(k:Nat)(t:Int)(h:ae)(Q:VH)(c:xN (eV SS.P 62 (pA k)) h λ_ b=>xN (eV SS.P 3 (.int .i64 t)) b λ_ a=>Q (.func (.func 87) ⟨[]⟩ ⟨[(pA (h.next)),(pA (b.next))]⟩) a):FW SS 64 [(pA k),(.int .i64 t)] h Q:=cJ V0 Tryz.func64 (ai c)
noncomputable def RE:FD:=cF Tryz.f87 []
theorem Oa(s:Int)(f:LB)(q r:Nat)(h:ae)(Q:VH)(t:xO (aj SS.P 62 h (pA q)) λp=>HJ SS.P p h λn o=>fP 65 n 0 λm=>fP 29 (.pointer (some m)) 3 λl=>lL 27 o l λi j k=>iP 27 (.slice i j k) (.int .i64 s) λh=>fP 73 (.pointer (some h)) 0 λg=>xU (ah SS.P 9 (.pointer (some g)) (strOf []) o) o λ_ e=>xO (aj SS.P 62 e (pA q)) λd=>xI .i64 (aj SS.P 3 e (pA r)) λc=>FW SS 58 [(.pointer d),(.int .i64 s),(strOf f),(.int .i64 c)] e λa b=>a=(.tuple ⟨[]⟩)/\Q (.tuple ⟨[]⟩) b):FW SS 87 [(.int .i64 s),(strOf f),(pA q),(pA r)] h Q:=cJ RE Tryz.func87 (ai t)
noncomputable def VW:FD:=cF Tryz.f60 []
theorem RA(s:Int)(f:LB)(h:ae)(Q:VH)(a:Q (.tuple ⟨[]⟩) h):FW SS 60 [(.int .i64 s),(strOf f)] h Q:=cJ VW Tryz.func60 (ai a)
noncomputable def VU:FD:=cF Tryz.f46 []
theorem Ry(k:Nat)(h:ae)(Q:VH)(n:xN (bq SS.P 29) h λ_ m=>fP 65 (pA k) 3 λl=>xI .i64 (aj SS.P 30 m (.pointer (some l))) λj=>au (((j:Int) !=0)) (xA (bg SS.P 29 []) λb=>xU (ah SS.P 29 (pA (h.next)) (.agg ⟨b⟩) m) m λ_ a=>dX SS [((pA (h.next)),some 29),((.int .i64 2),none)] a Q) (fP 65 (pA k) 0 λi=>fP 29 (.pointer (some i)) 3 λg=>lL 27 m g λ_ f _=>au (decide (((f:Int):Int)>3000)) (xA (bg SS.P 29 []) λb=>xU (ah SS.P 29 (pA (h.next)) (.agg ⟨b⟩) m) m λ_ a=>dX SS [((pA (h.next)),some 29),((.int .i64 2),none)] a Q) (fP 65 (pA k) 2 λe=>lI m e λd=>au (decide ((d:Int)>30000)) (xA (bg SS.P 29 []) λb=>xU (ah SS.P 29 (pA (h.next)) (.agg ⟨b⟩) m) m λ_ a=>dX SS [((pA (h.next)),some 29),((.int .i64 2),none)] a Q) (fP 65 (pA k) 0 λc=>lA 29 m (.pointer (some c)) λb=>xU (ah SS.P 29 (pA (h.next)) (.agg ⟨b⟩) m) m λ_ a=>dX SS [((pA (h.next)),some 29),((.int .i64 0),none)] a Q)))):FW SS 46 [(pA k)] h Q:=cJ VU Tryz.func46 (ai n)
noncomputable def Zw:FD:=cF Tryz.f51 []
theorem Wb(s:Int)(h:ae)(Q:VH)(a:au (decide ((s:Int)>=1)) (Q (.bool (decide ((s:Int)<=500))) h) (Q (.bool false) h)):FW SS 51 [(.int .i64 s)] h Q:=cJ Zw Tryz.func51 (ai a)
noncomputable def abm:FD:=cF Tryz.f45 []
theorem Zu(d:OA)(c e:Nat)(i:Nat)(h:ae)(Q:VH)(f:au (decide (((i:Int):Int)<(c:Int))) (iP 22 (.slice d c e) (iA i) λb=>lI h b λa=>Q (.int .i64 a) h) (Q (.int .i64 0) h)):FW SS 45 [(.slice d c e),(iA i)] h Q:=cJ abm Tryz.func45 (ai f)
noncomputable def RM:FD:=cF Tryz.f68 []
theorem Oj(s:Int)(h:ae)(Q:VH)(d:FW SS 51 [(.int .i64 s)] h λb c=>yB b λa=>Q (.bool (!a)) c):FW SS 68 [(.int .i64 s)] h Q:=cJ RM Tryz.func68 (ai d)
noncomputable def VX:FD:=cF Tryz.f50 []
theorem RC(s:Int)(h:ae)(Q:VH)(d:FW SS 51 [(.int .i64 s)] h λb c=>yB b λa=>Q (.bool (!a)) c):FW SS 50 [(.int .i64 s)] h Q:=cJ VX Tryz.func50 (ai d)
noncomputable def rJ:FD:=cF Tryz.f79 [([1,0,1,0,0],[0,1,7,8])]
abbrev mS(b:OA)(a c:Nat)(i:Nat):LV:=[(.slice b a c),(.func (.func 68) ⟨[]⟩ ⟨[]⟩),(iA a),(iA i)]
theorem SL(a:OA)(c b:Nat)(h:ae)(Q:VH)(d:LL SS rJ [1,0,1,0,0] (mS a c b 0) h (KK SS rJ [1,0,1,0] [] (EE SS rJ Q))):FW SS 79 [(.slice a c b),(.func (.func 68) ⟨[]⟩ ⟨[]⟩)] h Q:=cJ rJ Tryz.func79 (ai d)
theorem zl(k:OA)(g l:Nat)  (j:Nat->Nat->ae->Prop) (Q:VH) (step:∀(f:Nat)(i:Nat)(n:Nat->Value)(h:ae),j f i h->au (decide (((i:Int):Int)<(g:Int))) (iP 22 (.slice k g l) (iA i) λe=>lI h e λd=>FW SS 68 [(.int .i64 d)] h λb c=>yB b λa=>au a (Q (iA i) c) (aJ (fj (mS k g l) j) f [(.slice k g l),(.func (.func 68) ⟨[]⟩ ⟨[]⟩),(iA g),(.int .i64 (wrap .i64 ((i:Int)+1)))] c)) (Q (.int .i64 (-1)) h)) (f:Nat) {i:Nat} {h:ae} (m:j f i h):LL SS rJ [1,0,1,0,0] (mS k g l i) h (KK SS rJ [1,0,1,0] [] (EE SS rJ Q)):=
 db (mS k g l) j (λf i n h m=>ai (step f i n h m)) f m
noncomputable def Sb:FD:=cF Tryz.f49 []
theorem OC(d:OA)(f e:Nat)(h:ae)(Q:VH)(g:FW SS 79 [(.slice d f e),(.func (.func 68) ⟨[]⟩ ⟨[]⟩)] h λb c=>yI .i64 b λa=>Q (.bool (decide ((a:Int)>=0))) c):FW SS 49 [(.slice d f e),(.func (.func 68) ⟨[]⟩ ⟨[]⟩)] h Q:=cJ Sb Tryz.func49 (ai g)
noncomputable def rI:FD:=cF Tryz.f79 [([1,0,1,0,0],[0,1,7,8])]
abbrev mR(b:OA)(a c:Nat)(i:Nat):LV:=[(.slice b a c),(.func (.func 50) ⟨[]⟩ ⟨[]⟩),(iA a),(iA i)]
theorem SK(a:OA)(c b:Nat)(h:ae)(Q:VH)(d:LL SS rI [1,0,1,0,0] (mR a c b 0) h (KK SS rI [1,0,1,0] [] (EE SS rI Q))):FW SS 79 [(.slice a c b),(.func (.func 50) ⟨[]⟩ ⟨[]⟩)] h Q:=cJ rI Tryz.func79 (ai d)
theorem zk(k:OA)(g l:Nat)  (j:Nat->Nat->ae->Prop) (Q:VH) (step:∀(f:Nat)(i:Nat)(n:Nat->Value)(h:ae),j f i h->au (decide (((i:Int):Int)<(g:Int))) (iP 22 (.slice k g l) (iA i) λe=>lI h e λd=>FW SS 50 [(.int .i64 d)] h λb c=>yB b λa=>au a (Q (iA i) c) (aJ (fj (mR k g l) j) f [(.slice k g l),(.func (.func 50) ⟨[]⟩ ⟨[]⟩),(iA g),(.int .i64 (wrap .i64 ((i:Int)+1)))] c)) (Q (.int .i64 (-1)) h)) (f:Nat) {i:Nat} {h:ae} (m:j f i h):LL SS rI [1,0,1,0,0] (mR k g l i) h (KK SS rI [1,0,1,0] [] (EE SS rI Q)):=
 db (mR k g l) j (λf i n h m=>ai (step f i n h m)) f m
noncomputable def Sa:FD:=cF Tryz.f49 []
theorem OB(d:OA)(f e:Nat)(h:ae)(Q:VH)(g:FW SS 79 [(.slice d f e),(.func (.func 50) ⟨[]⟩ ⟨[]⟩)] h λb c=>yI .i64 b λa=>Q (.bool (decide ((a:Int)>=0))) c):FW SS 49 [(.slice d f e),(.func (.func 50) ⟨[]⟩ ⟨[]⟩)] h Q:=cJ Sa Tryz.func49 (ai g)
noncomputable def RN:FD:=cF Tryz.f40 []
theorem Om(e:OA)(d f:Nat)(h:ae)(Q:VH)(g:au (decide (((d:Int):Int)<=200)) (FW SS 49 [(.slice e d f),(.func (.func 68) ⟨[]⟩ ⟨[]⟩)] h λb c=>yB b λa=>Q (.bool (!a)) c) (Q (.bool false) h)):FW SS 40 [(.slice e d f)] h Q:=cJ RN Tryz.func40 (ai g)
noncomputable def Zx:FD:=cF Tryz.f57 []
theorem Wc(q p:LV)(h:ae)(Q:VH)(r:xN (eV SS.P 29 (.agg ⟨q⟩)) h λ_ o=>xN (eV SS.P 29 (.agg ⟨p⟩)) o λ_ n=>lA 29 n (pA (h.next)) λm=>FW SS 66 [(.agg ⟨m⟩)] n λk l=>yB k λj=>au (!j) (Q (.int .i64 1) l) (lA 29 l (pA (o.next)) λi=>FW SS 66 [(.agg ⟨i⟩)] l λf g=>yB f λe=>au (!e) (Q (.int .i64 1) g) (fP 29 (pA (h.next)) 0 λd=>lI g d λc=>fP 29 (pA (o.next)) 0 λb=>lI g b λa=>au (((c:Int) !=a)) (Q (.int .i64 6) g) (Q (.int .i64 0) g)))):FW SS 57 [(.agg ⟨q⟩),(.agg ⟨p⟩)] h Q:=cJ Zx Tryz.func57 (ai r)
variable{h:ae}{T:TypeId}{n:Nat}{v:Value}{L:List (List Value)}
section
theorem nQ{f:ae}(o:fb f h T n v L){k:Nat}(a:eU v=some k):∃cs,h.get k=some (.cells cs T n true):=by
 obtain⟨_,⟨b,_⟩|⟨d,g,cs,c,b,i,e,_⟩⟩:=o
 ·rw[b]at a;cases a
 ·rw[b]at a;obtain rfl:d=k:=oI a;exact⟨cs,e⟩
theorem jY.other{hb g:ae}{r:List (dW×Value)}(m:jY hb g v r){k:Nat}{cs:List Value}{e z:Nat}{w:Bool}(y:g.get k=some (.cells cs e z w))(t:¬(e=73/\z=2))(u:¬(e=70/\z=4))(B:dN):jY hb (g.set k B) v r:=by
 have d:∀{b a:Nat}{j:Value}{f:List (List Value)},fb hb g b a j f->¬(e=b/\z=a)->fb hb (g.set k B) b a j f:=λ{b a j f} o q=>o.kA λD E l n=>by
  rw[ae.aw,if_neg ?_]
  ·exact n
  ·intro c;obtain⟨C,h⟩:=nQ o l;rw[c,y]at h;injection h with h
   injection h with _ s x
   exact q ⟨s,x⟩
 exact⟨d m.row t,λi p A=>d (m.arcs i p A) u,m.ne,m.YK⟩
def Kp(g a:ae):Prop:=g.next<=a.next/\∀(j:Nat)(cs:List Value)(e z:Nat)(w:Bool),g.get j=some (.cells cs e z w)->¬(e=65/\z=0)->¬(e=73/\z=2)->¬(e=70/\z=4)->a.get j=some (.cells cs e z w)
theorem Kp.refl(g:ae):Kp g g:=⟨Nat.le_refl _,λ_ _ _ _ _ h _ _ _=>h⟩
theorem Kp.trans{g c d:ae}(a:Kp g c)(b:Kp c d):Kp g d:=⟨Nat.le_trans a.1 b.1,λj cs e z w h i k f=>b.2 j cs e z w (a.2 j cs e z w h i k f) i k f⟩
theorem LA{g a:ae}(o:Ok g a):Kp g a:=⟨o.nx,λj cs e z w h _ _ _=>o.ext _ _ h⟩
def MJ(kind start:Int)(lead:List UInt8)(a:Option Addr)(n c:Nat)(na:Nat):List Value:=[.int .i64 kind,.int .i64 start,strOf lead,.slice a n c,strOf (da kind),.int .i64 (na:Int),.int .i64 0]
structure BU(hb g:ae)(k:Nat)(kind start:Int)(lead:List UInt8)(bH:List dW)(na:Nat):Prop where
 ex:∃(a:Option Addr)(n c:Nat)(ps:List (dW×Value)),g.get k=some (.cells (MJ kind start lead a n c na) 65 0 true)/\ps.map (·.1)=bH/\jY hb g (.slice a n c) ps
 ok:Ok hb g
 nk:hb.next<=k
theorem XZ(k o n c:Nat):dA 4 (.slice (some ⟨k,o,none⟩) n c) (.slice (some ⟨k,o,none⟩) n c)=true:=by simp[dA]
theorem ka(k:Nat):aD SS.P 65 (pA k) 0=some (.pointer (some ⟨k,0,none⟩)):=by kernel_rfl
theorem zg(k:Nat):aD SS.P 65 (pA k) 1=some (.pointer (some ⟨k,4,none⟩)):=by kernel_rfl
theorem K9(k:Nat):aD SS.P 65 (pA k) 2=some (.pointer (some ⟨k,5,none⟩)):=by kernel_rfl
theorem ZM(k:Nat):aD SS.P 65 (pA k) 3=some (.pointer (some ⟨k,6,none⟩)):=by kernel_rfl
theorem acV(f:List UInt8):bg SS.P 73 [(0,strOf f)]=some (.agg ⟨[strOf f,nA]⟩):=by kernel_rfl
theorem adJ:aE SS.P 27=some 1:=by kernel_rfl
theorem zs3:aE SS.P 3=some 1:=by kernel_rfl
theorem fp(kind start:Int)(lead:List UInt8)(a:Option Addr)(n c na:Nat):(MJ kind start lead a n c na).length=7:=rfl
theorem zZ(n:Nat)(a:n<=1000000000):wrap .i64 (((n+1:Nat):Int)-1)=((n:Nat):Int):=by rw[aB (by omega) (by omega)];omega
section
variable {hb g:ae} {k:Nat} {kind start:Int} {lead:List UInt8} {bH:List dW} {na:Nat}
theorem BU.ui(b:BU hb g k kind start lead bH na)(o:Ok g h):BU hb h k kind start lead bH na:=by
 obtain⟨a,n,c,i,e,f,d⟩:=b.ex;exact⟨⟨a,n,c,i,o.ext _ _ e,f,d.ok o⟩,b.ok.trans o,b.nk⟩
theorem Of(w:Wf hb)(b:BU hb g k kind start lead bH na)(hl:bH.length<=100000)(f:List UInt8):FW SS 43 [pA k,strOf f] g (λv I=>v = .int .i64 (bH.length:Nat)/\BU hb I k kind start lead (bH++[⟨f,[]⟩]) na/\Kp g I):=by
 obtain⟨a,n,c,T,N,t,W⟩:=b.ex;have D:T.length=bH.length:=by rw[<-t,lM]
 have r:=(Ok.refl b.ok.wf).push (.cells [strOf f,.slice none 0 0] 73 2 true);have J:=b.ok.push (.cells [strOf f,.slice none 0 0] 73 2 true);have y:=r.ext _ _ N;have q:=W.ok r;obtain⟨m,d,o,u,R,s,x,B,X,Y⟩:=q.snoc w J (f:=f) (arcs:=[]) (fb.nil hb _ 70 4) (λk' e=>by cases e) (aI g _) (by omega);have M:eU (.slice a n c)≠some k:=λe=>by
  obtain⟨cs,h⟩:=nQ q.row e;rw[y]at h;injection h with h
  injection h with _ h
  exact absurd h (by decide)
 have p:=B _ _ y M;generalize L:u.app (g.push (.cells [strOf f,.slice none 0 0] 73 2 true))=F at*;have O:=s.other p (by omega) (by omega) (.cells (MJ kind start lead m d o na) 65 0 true);have C:(F.set k (.cells (MJ kind start lead m d o na) 65 0 true)).get k=some (.cells (MJ kind start lead m d o na) 65 0 true):=by rw[ae.aw,if_pos rfl]
 have K:d=bH.length+1:=by
  have:=s.st.len;rw[lM,length_append,D]at this;exact this
 have S:=jD adJ p (i:=3) (by simp[fp]) (v:= .slice m d o) (Df _ _ _) (by cases m<;>rfl);have V:=cq zC D5 C (i:=3) (by simp[fp]);refine Oe k f g _ ⟨_,ka k,_,dy k,a,n,c,cq zC D5 N (i:=3) (by simp[fp]),_,acV f,_,_,_,acP f none 0 0,m,d,o,u,R,?_⟩;rw[L];refine⟨_,ka k,_,dy k,_,S,_,ka k,_,dy k,m,d,o,V,?_,⟨⟨m,d,o,_,C,?_,O⟩,x.set _ b.nk (x.wf _ _ p) w,b.nk⟩,?_⟩
 ·rw[K,zZ _ (by omega)]
 ·rw[map_append,t];rfl
 ·refine⟨by show g.next<=F.next;have:g.next<=(g.push (.cells [strOf f,.slice none 0 0] 73 2 true)).next:=r.nx;omega,λj cs e z w' U P Q h3=>?_⟩;have A:=r.ext _ _ U;have l:=B _ _ A (λE=>by
   obtain⟨Z,h⟩:=nQ q.row E;rw[A]at h;injection h with h
   injection h with _ G H
   exact Q ⟨G,H⟩)
  show(F.set k _).get j=_;rw[ae.aw,if_neg (λE=>by
   rw[E,p]at l;injection l with l
   injection l with _ G H
   exact P ⟨G.symm,H.symm⟩)]
  exact l
theorem acY(q:iN):eV SS.P 70 (.agg ⟨gn q⟩)=some (.cells (gn q) 70 0 true,kZ):=by kernel_rfl
theorem Kn(n:Nat)(a:n<=1000000000):wrap .i64 ((n:Int)+1)=((n+1:Nat):Int):=by rw[aB (by omega) (by omega)];omega
theorem VT(w:Wf hb)(b:BU hb g k kind start lead bH na){s:Nat}{t:dW}(hs:bH[s]?=some t)(ha:t.arcs.length<=100000)(z6:na<=1000000)(q:iN):FW SS 44 [pA k,iA s,.agg ⟨gn q⟩] g (λv g'=>v = .tuple ⟨[]⟩/\BU hb g' k kind start lead (bH.set s ⟨t.f,t.arcs++[q]⟩) (na+1)/\Kp g g'):=by
 obtain⟨a,n,c,l,hk,T,om⟩:=b.ex;obtain⟨p,H,rfl⟩:∃p,l[s]?=some p/\p.1=t:=by
  rw[<-T,getElem?_map]at hs;exact map_eq_some_iff.1 hs
 have x3:0<(l.map AE).length:=by have:=(List.getElem?_eq_some_iff.1 H).1;rw[lM];omega
 obtain⟨f,d,cr,Y,z7⟩:=om.row.blk x3;injection Y with Y en ec
 subst Y en ec;have o1:=(Ok.refl b.ok.wf).push (.cells (gn q) 70 0 true);have P:=b.ok.push (.cells (gn q) 70 0 true);have m:=o1.ext _ _ hk;have y1:=om.ok o1;have x7:=aI g (.cells (gn q) 70 0 true);have z5:=b.ok.wf _ _ hk;generalize W:g.push (.cells (gn q) 70 0 true)=o at*;have y0:=cq Hz Gu m (i:=5) (by simp[fp]);have y5:=jD zs3 m (i:=5) (by simp[fp]) (v:= .int .i64 ((na+1:Nat):Int)) rfl rfl;have R:=y1.other m (by omega) (by omega) (.cells (MJ kind start lead (some ⟨f,d,none⟩) (l.map AE).length c (na+1)) 65 0 true);have u:=P.set (.cells (MJ kind start lead (some ⟨f,d,none⟩) (l.map AE).length c (na+1)) 65 0 true) b.nk (P.wf _ _ m) w;have O:(o.set k (.cells (MJ kind start lead (some ⟨f,d,none⟩) (l.map AE).length c (na+1)) 65 0 true)).get k=some (.cells (MJ kind start lead (some ⟨f,d,none⟩) (l.map AE).length c (na+1)) 65 0 true):=by rw[ae.aw,if_pos rfl]
 have z2:(o.set k (.cells (MJ kind start lead (some ⟨f,d,none⟩) (l.map AE).length c (na+1)) 65 0 true)).get g.next=some (.cells (gn q) 70 0 true):=by rw[ae.aw,if_neg (by omega)];exact x7
 refine VS k s (gn q) g _ ⟨_,acY q,?_⟩;rw[W];refine⟨_,K9 k,_,y0,_,K9 k,?_⟩;rw[Kn na (by omega)];refine⟨_,y5,?_⟩;have z8:(o.set k (.cells (MJ kind start lead (some ⟨f,d,none⟩) (l.map AE).length c (na+1)) 65 0 true)).next=o.next:=rfl;have z1:∀j cs e z L,g.get j=some (.cells cs e z L)->¬(e=65/\z=0)->(o.set k (.cells (MJ kind start lead (some ⟨f,d,none⟩) (l.map AE).length c (na+1)) 65 0 true)).get j=some (.cells cs e z L):=λj cs e z L I h1=>by
  have r:=o1.ext _ _ I;rw[ae.aw,if_neg (λA=>by
   rw[A,m]at r;injection r with r
   injection r with _ F J
   exact h1 ⟨F.symm,J.symm⟩)]
  exact r
 have z9:g.next<o.next:=by rw[<-W];exact lt_succ_self _
 generalize x6:o.set k (.cells (MJ kind start lead (some ⟨f,d,none⟩) (l.map AE).length c (na+1)) 65 0 true)=g2 at*;have e2:(dJ.set k (.cells ((MJ kind start lead (some ⟨f,d,none⟩) (l.map AE).length c na).set 5 (.int .i64 ((na+1:Nat):Int))) 65 0 true)).app o=g2:=x6;rw[e2];obtain⟨E,y6⟩:=XM u.wf (n:=21) (j:=16) (by omega) (Ok.refl (u.room 21).wf) (.cells (gn q) 70 4 true);have or:=(Ok.refl u.wf).room 21;have x5:=R.ok or;obtain⟨i1,i2,i3⟩:=x5.at_ H;obtain⟨Z,xn,xc,M⟩:∃(Z:Option Addr)(xn xc:Nat),p.2 = .slice Z xn xc:=by
  obtain⟨x1,x2,e⟩:=(om.arcs s p H).XO;exact⟨x1,_,x2,e⟩
 rw[M]at i2;have z0:=or.ext _ _ z2;have Q:=or.ext _ _ O;have x:=R.ok E;have V:=u.trans E;have y:=x.arcs s p H;rw[M]at y;obtain⟨b4,n4,c4,u4,y2,x9,y8,C,y9,z4⟩:=Rr w V y (q:=q) y6 ha;have K:=E.ext _ _ O;have X:eU (.slice Z xn xc)≠some k:=λe=>by
  obtain⟨D,h⟩:=nQ y e;rw[K]at h;injection h with h
  injection h with _ h
  exact absurd h (by decide)
 have N:=C _ _ K X;obtain⟨u5,x0,y4,y7,S,x8⟩:=x.adt w y8 H (λj B I U=>C _ _ I (by rw[M]at U;exact U)) x9 (λj e=>by rw[M];exact y9 j e) V.wf;have x4:f≠k:=λe=>by
  obtain⟨D,h⟩:=nQ x.row (k:=f) rfl;rw[e,K]at h;injection h with h
  injection h with _ h
  exact absurd h (by decide)
 have y3:aj SS.P 70 (Go.Ab.room g2 21) (pA g.next)=some (.agg ⟨gn q⟩):=by
  rw[pH aau Zg NF z0 (by simp[Im]),drop_zero,take_of_length_le (by simp[Im])]
 refine⟨_,ka k,_,dy k,_,_,_,cq zC D5 Q (i:=3) (by simp[fp]),_,ka k,_,dy k,_,_,_,cq zC D5 Q (i:=3) (by simp[fp]),_,i1,_,kd _ _,_,_,_,i2,_,y3,_,_,_,acQ q,b4,n4,c4,u4,y2,_,i1,_,kd _ _,u5,x0,⟨cq zC D5 N (i:=3) (by simp[fp]),XZ _ _ _ _⟩,rfl,⟨⟨_,_,_,_,S _ _ N x4,?_,y4⟩,y7,b.nk⟩,?_⟩
 ·rw[<-T,map_set]
 ·refine⟨by rw[x8];have:=E.nx;omega,λj cs e z L I h1 h2 h3=>?_⟩;have G:=E.ext _ _ (z1 _ _ _ _ _ I h1);have z3:=C _ _ G (λA=>by
   obtain⟨D,h⟩:=nQ y A;rw[G]at h;injection h with h
   injection h with _ F J
   exact h3 ⟨F,J⟩)
  refine S _ _ z3 (λA=>?_);obtain⟨D,h⟩:=nQ x.row (k:=f) rfl;rw[A,G]at h;injection h with h
  injection h with _ F J
  exact h2 ⟨F,J⟩
end
end
variable{A:Type}{i:Nat}{c:List Value}{d:List Value}
section
theorem Bn(l:List A)(a:A)(r:List A){n:Nat}(h:l.length=n):(l++a::r)[n]?=some a:=by
 subst h;rw[List.getElem?_append_right (Nat.le_refl _),Nat.sub_self];rfl
theorem uy(l:List A)(a b:A)(r:List A){n:Nat}(h:l.length=n):(l++a::r).set n b=l++b::r:=by
 subst h;rw[List.set_append_right _ _ (Nat.le_refl _),Nat.sub_self];rfl
theorem Dn{l:List A}{a:A}(h:l[i]?=some a):l=l.take i++a::l.drop (i+1)/\(l.take i).length=i:=by
 have b:=(List.getElem?_eq_some_iff.1 h).1;have e:l[i]=a:=by rw[gE b]at h;exact oI h
 refine⟨?_,by rw[length_take];omega⟩;rw[<-e,<-List.drop_eq_getElem_cons b,List.take_append_drop]
theorem dR(l r:List dW):dc (l++r)=dc l+dc r:=by unfold dc;rw[map_append,List.sum_append]
theorem Ka{l:List dW}{s:dW}(h:l[i]?=some s):s.arcs.length<=dc l:=by
 obtain⟨e,_⟩:=Dn h;rw[e,dR,dS];omega
theorem Dq{l:List dW}{s t:dW}(h:l[i]?=some s):dc (l.set i t)+s.arcs.length=dc l+t.arcs.length:=by
 obtain⟨e,a⟩:=Dn h
 conv=>rhs;rw[e]
 conv=>lhs;rw[e]
 rw[uy _ _ _ _ a,dR,dS,dR,dS];omega
abbrev BS(hb g:ae)(k:Nat)(kind start:Int)(lead:List UInt8)(bH:List dW):Prop:=BU hb g k kind start lead bH (dc bH)
section
variable {hb g:ae} {k:Nat} {kind start:Int} {lead:List UInt8} {bH:List dW}
theorem ic(w:Wf hb)(b:BS hb g k kind start lead bH)(d:bH.length<=100000)(f:List UInt8):FW SS 43 [pA k,strOf f] g (λv a=>v = .int .i64 (bH.length:Nat)/\BS hb a k kind start lead (bH++[⟨f,[]⟩])/\Kp g a):=by
 refine(Of w b d f).mono ?_;rintro v a ⟨e,h,c⟩;refine⟨e,?_,c⟩;unfold BS;rw[dR];exact h
theorem wK(w:Wf hb)(b:BS hb g k kind start lead bH){s:Nat}{t:dW}(c:bH[s]?=some t)(j:dc bH<=100000)(q:iN):FW SS 44 [pA k,iA s,.agg ⟨gn q⟩] g (λv a=>v = .tuple ⟨[]⟩/\BS hb a k kind start lead (bH.set s ⟨t.f,t.arcs++[q]⟩)/\Kp g a):=by
 have:=Ka c;refine(VT w b c (by omega) (by omega) q).mono ?_;rintro v a ⟨f,i,d⟩;refine⟨f,?_,d⟩;have e:=Dq c (t:=⟨t.f,t.arcs++[q]⟩);have l:(t.arcs++[q]).length=t.arcs.length+1:=by simp
 have h:dc (bH.set s ⟨t.f,t.arcs++[q]⟩)=dc bH+1:=by
  have:dc (bH.set s ⟨t.f,t.arcs++[q]⟩)+t.arcs.length=dc bH+(t.arcs++[q]).length:=e;omega
 unfold BS;rw[h];exact i
theorem acU(w:List UInt8)(t:Int):bg SS.P 70 [(2,strOf w),(3,.int .i64 t)]=some (.agg ⟨gn ⟨0,0,w,t⟩⟩):=by kernel_rfl
theorem Be(w:Wf hb)(b:BS hb g k kind start lead bH){s:Nat}{t:dW}(e:bH[s]?=some t)(d:dc bH<=100000)(x:List UInt8)(a:Int):FW SS 58 [pA k,iA s,strOf x,.int .i64 a] g (λv c=>v = .tuple ⟨[]⟩/\BS hb c k kind start lead (bH.set s ⟨t.f,t.arcs++[⟨0,0,x,a⟩]⟩)/\Kp g c):=by
 refine V9 k s x a g _ ⟨_,acU x a,(wK w b e d ⟨0,0,x,a⟩).mono ?_⟩;rintro _ c ⟨rfl,f⟩;exact⟨rfl,rfl,f⟩
theorem abv(kind:Int)(l:List UInt8):bg SS.P 29 [(0,.int .i64 kind),(2,strOf l)]=some (.agg ⟨[.int .i64 kind,.int .i64 0,strOf l,nA]⟩):=by kernel_rfl
theorem acT(kind:Int)(l a:List UInt8):bg SS.P 65 [(0,.agg ⟨[.int .i64 kind,.int .i64 0,strOf l,nA]⟩),(1,strOf a)]=some (.agg ⟨[.int .i64 kind,.int .i64 0,strOf l,nA,strOf a,.int .i64 0,.int .i64 0]⟩):=by kernel_rfl
theorem acX(kind:Int)(l a:List UInt8):eV SS.P 65 (.agg ⟨[.int .i64 kind,.int .i64 0,strOf l,nA,strOf a,.int .i64 0,.int .i64 0]⟩)=some (.cells [.int .i64 kind,.int .i64 0,strOf l,nA,strOf a,.int .i64 0,.int .i64 0] 65 0 true,kZ):=by kernel_rfl
theorem mh(kind:Int)(w:Wf g):FW SS 42 [.int .i64 kind] g (λv b=>∃k,v=pA k/\BS g b k kind 0 (da kind) []):=by
 refine Od kind g _ ((XH kind w).mono ?_);rintro _ d ⟨rfl,a⟩;have c:=a.push (.cells [.int .i64 kind,.int .i64 0,strOf (da kind),nA,strOf (da kind),.int .i64 0,.int .i64 0] 65 0 true);exact⟨_,rfl,_,abv _ _,_,acT _ _ _,_,acX _ _ _,_,rfl,⟨none,0,0,[],aI d _,rfl,jY.nil _ _⟩,c,a.nx⟩
theorem ES{a b c:List UInt8}(w:Wf hb)(o:nz hb)(d:BS hb g k kind start lead bH)(l:aM kind a=true)(f:aM kind b=true)(p:dg kind a b=some c):FW SS 63 [pA k,strOf a,strOf b] g (λv h=>v=strOf c/\Ok g h):=by
 obtain⟨q,n,cc,r,m,_⟩:=d.ex;refine Og k a b g _ ⟨_,ka k,_,dY k,_,cq Hz Gu m (i:=0) (by simp[fp]),(J0 l f p (o.ok d.ok) d.ok.wf).mono ?_⟩;rintro _ s ⟨rfl,j⟩;exact⟨_,_,rfl,aa (λe=>by cases e) (λ_=>⟨rfl,j⟩)⟩
theorem acW(k:Nat):eV SS.P 62 (pA k)=some (.cells [pA k] 62 0 true,kZ):=by kernel_rfl
theorem bx3(t:Int):eV SS.P 3 (.int .i64 t)=some (.cells [.int .i64 t] 3 0 true,kZ):=by kernel_rfl
noncomputable def ack:TypeDesc:=(SS.P.underlying 62).getD .bool
theorem acj:SS.P.underlying 62=some ack:=by kernel_rfl
theorem aaQ:Go.Ab.isAgg SS.P 62=false:=by kernel_rfl
def l7(k:Nat)(d:Option Int)(f:Nat)(e b:List Value)(g:ae):Prop:=e=[]/\match d with
 |none=>f=60/\b=[]
 |some t=>f=87/\∃a c,b=[pA a,pA c]/\g.get a=some (.cells [pA k] 62 0 true)/\g.get c=some (.cells [.int .i64 t] 3 0 true)
theorem l7.kp{k:Nat}{a:Option Int}{g b:ae}(l:l7 k a n c d g)(h:Kp g b):l7 k a n c d b:=by
 obtain⟨j,e⟩:=l;refine⟨j,?_⟩
 cases a with
 |none=>exact e
 |some t=>
  obtain⟨i,f,p,m,q,o⟩:=e;exact⟨i,f,p,m,h.2 _ _ _ _ _ q (by decide) (by decide) (by decide),h.2 _ _ _ _ _ o (by decide) (by decide) (by decide)⟩
theorem l7.blt{k:Nat}{a:Option Int}{g:ae}(l:l7 k a n c d g):Nat.blt n YB=true:=by
 obtain⟨_,b⟩:=l
 cases a with
 |none=>rw[b.1];decide +kernel
 |some t=>rw[b.1];decide +kernel
theorem Cd(w:Wf g)(t:Int):FW SS 64 [pA k,.int .i64 t] g (λv a=>∃c,v = .func (.func 87) ⟨[]⟩ ⟨c⟩/\l7 k (some t) 87 [] c a/\Ok g a):=by
 have b:=(Ok.refl w).push (.cells [pA k] 62 0 true);have d:=(Ok.refl b.wf).push (.cells [.int .i64 t] 3 0 true);exact RF k t g _ ⟨_,acW k,_,bx3 t,_,rfl,⟨rfl,rfl,_,_,rfl,d.ext _ _ (aI g _),aI _ _⟩,b.trans d⟩
def CI(a:Option Int)(t:dW):dW:=match a with
 |none=>t
 |some b=>⟨[],t.arcs++[⟨0,0,t.f,b⟩]⟩
theorem S2{y:Option Int}{P:List Value}(w:Wf hb)(b:BS hb g k kind start lead bH)(l:l7 k y n d P g){s:Nat}{t:dW}(m:bH[s]?=some t)(x3:dc bH<=100000):
  FW SS n (d++[iA s,strOf t.f]++P) g (λv x=>v = .tuple ⟨[]⟩/\BS hb x k kind start lead (bH.set s (CI y t))/\Kp g x):=by
 obtain⟨rfl,l⟩:=l
 cases y with
 | none=>
  obtain⟨rfl,rfl⟩:=l;refine RA s t.f g _ ⟨rfl,?_,Kp.refl g⟩;have e:bH.set s (CI none t)=bH:=by
   obtain⟨H,E⟩:=Dn m
   conv=>lhs;rw[H]
   rw[uy _ _ _ _ E];exact H.symm
  rw[e];exact b
 | some to=>
  obtain⟨rfl,W,k3,rfl,B,K⟩:=l;obtain⟨a,x7,c,R,C,q,o⟩:=b.ex;obtain⟨p,F,rfl⟩:∃p,R[s]?=some p/\p.1=t:=by
   rw[<-q,getElem?_map]at m;exact map_eq_some_iff.1 m
  have A:0<(R.map AE).length:=by have:=(List.getElem?_eq_some_iff.1 F).1;rw[lM];omega
  obtain⟨N,x4,cr,r,x5⟩:=o.row.blk A;injection r with r X Y
  subst r X Y;obtain⟨U,_,_⟩:=o.at_ F;obtain⟨u,st,J,Q,h,L⟩:=o.ab4 w b.ok F [];have f:∃cs,g.get N=some (.cells cs 73 2 true):=nQ o.row (k:=N) rfl;obtain⟨x6,f⟩:=f;have G:=h _ _ C (λe=>jZ f C (by decide) e);have E:=h _ _ B (λe=>jZ f B (by decide) e);have e3:=h _ _ K (λe=>jZ f K (by decide) e);have b2:BS hb (u.app g) k kind start lead (bH.set s ⟨[],p.1.arcs⟩):=by
   refine⟨⟨_,_,_,_,?_,by rw[map_set,q],J⟩,Q,b.nk⟩;have e:=Dq m (t:=⟨[],p.1.arcs⟩);have V:dc (bH.set s ⟨[],p.1.arcs⟩)=dc bH:=by
    have:dc (bH.set s ⟨[],p.1.arcs⟩)+p.1.arcs.length=dc bH+p.1.arcs.length:=e;omega
   rw[V];exact G
  have S:(bH.set s ⟨[],p.1.arcs⟩)[s]?=some (⟨[],p.1.arcs⟩:dW):=by
   have x0:=(List.getElem?_eq_some_iff.1 m).1;rw[List.getElem?_set_self (by omega)]
  have M:Kp g (u.app g):=⟨Nat.le_of_eq L.symm,λj cs e z w' T _ Z _=>h _ _ T (λc=>by
   rw[c,T]at f;injection f with f
   injection f with _ x1 x2
   exact Z ⟨x1,x2⟩)⟩
  have D:dc (bH.set s ⟨[],p.1.arcs⟩)<=100000:=by
   have:dc (bH.set s ⟨[],p.1.arcs⟩)+p.1.arcs.length=dc bH+p.1.arcs.length:=Dq m (t:=⟨[],p.1.arcs⟩);omega
  refine Oa s p.1.f W k3 g _ ⟨_,cq acj aaQ B (i:=0) (by simp),lq ⟨_,ka k,_,dy k,_,_,_,cq zC D5 C (i:=3) (by simp[fp]),_,U,_,oK _ _,u,st,_,cq acj aaQ E (i:=0) (by simp),_,cq Hz Gu e3 (i:=0) (by simp),(Be w b2 S D p.1.f to).mono ?_⟩⟩;rintro _ x ⟨rfl,I,O⟩;refine⟨rfl,rfl,?_,M.trans O⟩;rw[List.set_set]at I;exact I
end
end
noncomputable def ej:FD:=cF Tryz.f59 [([1,1,0,1,0,0],[0,2,4,7,21,22,23]),([1,1,1,0,1,0,0],[0,2,4,7,33,34,35]),([1,1,1,0,1,0,0,1,1,0,0,1,0,1,0,0],[0,2,4,7,10,11,33,34,35,41,42,43])]
abbrev qa(k g:Nat)(e f:LV)(d b:Nat)(a:OA)(n c:Nat)(i:Nat):LV:=[(pA k),(.func (.func g) ⟨e⟩ ⟨f⟩),(pA d),(iA b),(.slice a n c),(iA n),(iA i)]
abbrev gp(k g:Nat)(e f:LV)(d b:Nat)(a:OA)(n c:Nat)(i:Nat):LV:=[(pA k),(.func (.func g) ⟨e⟩ ⟨f⟩),(pA d),(iA b),(.slice a n c),(iA n),(iA i)]
abbrev qb(k g:Nat)(l m:LV)(f b:Nat)(a:OA)(n c i o:Nat)(e:OA)(d h:Nat)(j:Nat):LV:=[(pA k),(.func (.func g) ⟨l⟩ ⟨m⟩),(pA f),(iA b),(iA i),(pA o),(.slice a n c),(iA n),(iA i),(.slice e d h),(iA d),(iA j)]
theorem Rx(k:Nat)(l:LV)(g:Nat)(m n:LV)(h:ae)(Q:VH)(o:xN (eV SS.P 29 (.agg ⟨l⟩)) h λ_ j=>fP 65 (pA k) 0 λi=>fP 29 (.pointer (some i)) 3 λf=>lL 27 j f λ_ e _=>fP 29 (pA (h.next)) 3 λd=>lL 27 j d λa b c=>LL SS ej [1,1,0,1,0,0] [(pA k),(.func (.func g) ⟨m⟩ ⟨n⟩),(pA (h.next)),(iA e),(.slice a b c),(iA b),(.int .i64 0)] j (KK SS ej [1,1,0,1,0] [] (EE SS ej Q))):FW SS 59 [(pA k),(.agg ⟨l⟩),(.func (.func g) ⟨m⟩ ⟨n⟩)] h Q:=cJ ej Tryz.func59 (ai o)
theorem yP(k:Nat)(x:LV)(g:Nat)(t u:LV)(s p:Nat)(a:OA)(n c:Nat)(r:Nat->Nat->ae->Prop)(Q:VH)(step:∀(q:Nat) (i:Nat) (w:Nat->Value) (h:ae),r q i h->au (decide (((i:Int):Int)<(n:Int))) (iP 27 (.slice a n c) (iA i) λo=>lA 73 h (.pointer (some o)) λm=>xN (bq SS.P 73) h λ_ l=>xU (ah SS.P 73 (pA (h.next)) (.agg ⟨m⟩) l) l λ_ j=>fP 73 (pA (h.next)) 0 λf=>lS j f λe=>FW SS 43 [(pA k),(strOf e)] j λb d=>yI .i64 b λ_=>aJ (fj (qa k g t u s p a n c) r) q [(pA k),(.func (.func g) ⟨t⟩ ⟨u⟩),(pA s),(iA p),(.slice a n c),(iA n),(.int .i64 (wrap .i64 ((i:Int)+1)))] d) (fP 29 (pA s) 3 λd=>lL 27 h d λa b c=>LL SS ej [1,1,1,0,1,0,0] [(pA k),(.func (.func g) ⟨t⟩ ⟨u⟩),(pA s),(iA p),(.slice a b c),(iA b),(.int .i64 0)] h (KK SS ej [1,1,1,0,1,0] [] (EE SS ej Q))))(q:Nat){i:Nat}{h:ae}(v:r q i h):LL SS ej [1,1,0,1,0,0] (qa k g t u s p a n c i) h (KK SS ej [1,1,0,1,0] [] (EE SS ej Q)):=
 db (qa k g t u s p a n c) r (λq i w h v=>ai (step q i w h v)) q v
theorem yQ(k:Nat)(x:LV)(g:Nat)(t u:LV)(s r:Nat)(a:OA)(n c:Nat)(q:Nat->Nat->ae->Prop)(Q:VH)(step:∀(p:Nat) (i:Nat) (w:Nat->Value) (h:ae),q p i h->au (decide (((i:Int):Int)<(n:Int))) (iP 27 (.slice a n c) (iA i) λo=>lA 73 h (.pointer (some o)) λm=>xN (bq SS.P 73) h λ_ l=>xU (ah SS.P 73 (pA (h.next)) (.agg ⟨m⟩) l) l λ_ j=>fP 73 (pA (h.next)) 1 λf=>lL 71 j f λb d e=>LL SS ej [1,1,1,0,1,0,0,1,1,0,0,1,0,1,0,0] [(pA k),(.func (.func g) ⟨t⟩ ⟨u⟩),(pA s),(iA r),(iA i),(pA (h.next)),(.slice a n c),(iA n),(iA i),(.slice b d e),(iA d),(.int .i64 0)] j (KK SS ej [1,1,0,0,1,0,1,0] [1,1,1,0,1,0,0] (RR ej [1,1,1,0,1,0,0] (fj (gp k g t u s r a n c) q) p (KK SS ej [1,1,1,0,1,0] [] (EE SS ej Q))))) (fP 29 (pA s) 1 λb=>lI h b λa=>Q (.int .i64 (wrap .i64 ((r:Int)+a))) h))(p:Nat){i:Nat}{h:ae}(v:q p i h):LL SS ej [1,1,1,0,1,0,0] (gp k g t u s r a n c i) h (KK SS ej [1,1,1,0,1,0] [] (EE SS ej Q)):=
 db (gp k g t u s r a n c) q (λp i w h v=>ai (step p i w h v)) p v
theorem yR(k:Nat)(H:LV)(g:Nat)(v w:LV)(x t:Nat)(a:OA)(n c:Nat)(A:Nat->Nat->ae->Prop)(D i:Nat)(B:Nat)(C:OA)(z E:Nat)(y:Nat->Nat->ae->Prop)(Q:VH)(step:∀(u:Nat) (j:Nat) (G:Nat->Value) (h:ae),y u j h->au (decide (((j:Int):Int)<(z:Int))) (iP 71 (.slice C z E) (iA j) λs=>lA 70 h (.pointer (some s)) λr=>xN (bq SS.P 70) h λ_ q=>xU (ah SS.P 70 (pA (h.next)) (.agg ⟨r⟩) q) q λ_ p=>fP 70 (pA (h.next)) 3 λo=>lI p o λm=>fP 70 (pA (h.next)) 3 λl=>xU (ah SS.P 3 (.pointer (some l)) (.int .i64 (wrap .i64 (m+(t:Int)))) p) p λ_ f=>lA 70 f (pA (h.next)) λe=>FW SS 44 [(pA k),(.int .i64 (wrap .i64 ((t:Int)+(i:Int)))),(.agg ⟨e⟩)] f λb d=>b=(.tuple ⟨[]⟩)/\aJ (fj (qb k g v w x t a n c i B C z E) y) u [(pA k),(.func (.func g) ⟨v⟩ ⟨w⟩),(pA x),(iA t),(iA i),(pA B),(.slice a n c),(iA n),(iA i),(.slice C z E),(iA z),(.int .i64 (wrap .i64 ((j:Int)+1)))] d) (fP 73 (pA B) 0 λl=>lS h l λj=>au (!((j:LB)==[])) (fP 73 (pA B) 0 λf=>lS h f λe=>au (Nat.blt g YB) (FW SS g (v++[(.int .i64 (wrap .i64 ((t:Int)+(i:Int)))),(strOf e)]++w) h λb d=>b=(.tuple ⟨[]⟩)/\aJ (fj (gp k g v w x t a n c) A) D [(pA k),(.func (.func g) ⟨v⟩ ⟨w⟩),(pA x),(iA t),(.slice a n c),(iA n),(.int .i64 (wrap .i64 ((i:Int)+1)))] d) False) (aJ (fj (gp k g v w x t a n c) A) D [(pA k),(.func (.func g) ⟨v⟩ ⟨w⟩),(pA x),(iA t),(.slice a n c),(iA n),(.int .i64 (wrap .i64 ((i:Int)+1)))] h)))(u:Nat){j:Nat}{h:ae}(F:y u j h):LL SS ej [1,1,1,0,1,0,0,1,1,0,0,1,0,1,0,0] (qb k g v w x t a n c i B C z E j) h (KK SS ej [1,1,0,0,1,0,1,0] [1,1,1,0,1,0,0] (RR ej [1,1,1,0,1,0,0] (fj (gp k g v w x t a n c) A) D (KK SS ej [1,1,1,0,1,0] [] (EE SS ej Q)))):=
 db (qb k g v w x t a n c i B C z E) y (λu j G h F=>ai (step u j G h F)) u F
variable{B:Type}{M:bC}{m:Nat}
section
def bare(s:dW):dW:=⟨s.f,[]⟩
def Mj(a:Nat)(q:iN):iN:=⟨q.i,q.o,q.w,q.t+a⟩
def pv(a:Nat)(b:Option Int)(s:dW):dW:=if s.f=[]then⟨[],s.arcs.map (Mj a)⟩else CI b ⟨s.f,s.arcs.map (Mj a)⟩
theorem mO(a:Nat)(b:Option Int):∀l:List dW,dc (l.map (pv a b))<=dc l+l.length
 |[]=>Nat.le_refl _
 | s::l=>by
  have c:=mO a b l;rw[List.map_cons,dS,dS,length_cons];have:(pv a b s).arcs.length<=s.arcs.length+1:=by
   unfold pv CI;split
   ·simp
   ·cases b<;>simp
  omega
theorem Is:∀l:List dW,dc (l.map bare)=0
 |[]=>rfl
 |s::l=>by rw[List.map_cons,dS,Is l];rfl
theorem qo(f:A->B){l:List A}{i:Nat}{a:A}(h:l[i]?=some a):(l.take (i+1)).map f=(l.take i).map f++[f a]:=by
 have b:=(List.getElem?_eq_some_iff.1 h).1;rw[List.take_add_one,h,map_append];rfl
theorem Vp(h:n+i<=1000000000):wrap .i64 ((n:Int)+(i:Int))=((n+i:Nat):Int):=by rw[aB (by omega) (by omega)];omega
section
variable {hb g:ae} {k:Nat} {kind start:Int} {lead:List UInt8} {bH:List dW}
theorem qA{x:Option Addr}{z:Nat}{p:Option Int}(w:Wf hb)(b:BS hb g k kind start lead bH)(r:ei hb (.slice x n z) M.af)(l:l7 k p m c d g)(hl:bH.length+M.af.length<=100000)(z5:dc bH+dc M.af+M.af.length<=100000)(z7:0<=M.start/\M.start<M.af.length)(y4:∀s∈M.af,∀a∈s.arcs,0<=a.t/\a.t<M.af.length):
  FW SS 59 [pA k,.agg ⟨bT M x n z⟩,.func (.func m) ⟨c⟩ ⟨d⟩] g (λv o=>v = .int .i64 ((bH.length:Int)+M.start)/\BS hb o k kind start lead (bH++M.af.map (pv bH.length p))/\Kp g o):=by
 obtain⟨xa,xn,xc,ps,hk,z1,om⟩:=b.ex;obtain⟨R,Z⟩:=fQ b.ok.wf (r.ok b.ok);obtain rfl:n=M.af.length:=R.len;have b0:=b.ui Z;have l0:=l.kp (LA Z);have z0:xn=bH.length:=by have:=om.st.len;rw[this,z1]
 subst z0;refine Rx k (bT M x M.af.length z) m c d g _ ⟨_,jU M x _ z,_,ka k,_,dy k,_,_,_,cq zC D5 (Z.ext _ _ hk) (i:=3) (by simp[fp]),_,dy _,_,_,_,R.l3,?_⟩;have z4:=(LA Z)
 have x2:∀o,Kp (g.push (Bm M x M.af.length z)) o->Ok hb o->MB o g.next M x M.af.length z:=λo h ok=>⟨h.2 _ _ _ _ _ R.box (by decide) (by decide) (by decide),r.ok ok⟩
 generalize z9:g.push (Bm M x M.af.length z)=g0 at*;obtain⟨f,U⟩:∃f,f=bH.length:=⟨_,rfl⟩
 rw[<-U]at hl⊢;refine yP k (bT M x M.af.length z) m c d g.next f x M.af.length z (λy i o=>i<=M.af.length/\y=M.af.length-i/\BS hb o k kind start lead (bH++(M.af.take i).map bare)/\Kp g0 o) _ (λy i=>?_) M.af.length (i:=0) ⟨by omega,rfl,by simpa using b0,Kp.refl _⟩;intros;rename_i g1 y3;obtain⟨f1,f2,J,Q⟩:=y3;refine aa (λq1=>?_) (λq1=>?_)
 ·have H:i<M.af.length:=by have:=dT q1;omega
  obtain⟨s,A⟩:∃s,M.af[i]?=some s:=⟨_,gE H⟩
  obtain⟨bb,oo,u,V,t,u1,K,u3,u4,ar⟩:=(r.ok J.ok).at_ A;obtain⟨L,p1,N,p3⟩:=Nr J.ok.wf s.f u V t;have C:=J.ui N;refine⟨_,u1,_,K,_,VN,L,p1,_,oK _ _,_,p3.l0,(ic w C (by rw[length_append,lM,length_take];omega) s.f).mono ?_⟩;rintro _ F ⟨rfl,Y,S⟩;rw[aO H (by omega)];refine⟨_,rfl,bW (M.af.length-(i+1)) (by omega) ⟨by omega,rfl,?_,(Q.trans (LA N)).trans S⟩⟩;rw[qo bare A,<-append_assoc];exact Y
 obtain rfl:i=M.af.length:=by have:=dF q1;omega
 rw[take_length]at J;have y9:=x2 _ Q J.ok;refine⟨_,dy _,_,_,_,y9.l3,?_⟩;refine yQ k (bT M x M.af.length z) m c d g.next f x M.af.length z (λy i o=>i<=M.af.length/\y=M.af.length-i/\BS hb o k kind start lead (bH++(M.af.take i).map (pv f p)++(M.af.drop i).map bare)/\Kp g0 o) _ (λy i=>?_) M.af.length (i:=0) ⟨by omega,rfl,by simpa using J,Q⟩;intros;rename_i F x9;obtain⟨d1,d2,C,W⟩:=x9;have x1:∀i,i<=M.af.length->dc (bH++(M.af.take i).map (pv f p))+dc (M.af.drop i)<=99999+1:=λi H=>by
  have h1:=mO f p (M.af.take i);have h2:dc (M.af.take i)+dc (M.af.drop i)=dc M.af:=by rw[<-dR,List.take_append_drop]
  rw[length_take]at h1;rw[dR];omega
 refine aa (λq2=>?_) (λq2=>?_)
 ·have H:i<M.af.length:=by have:=dT q2;omega
  obtain⟨s,A⟩:∃s,M.af[i]?=some s:=⟨_,gE H⟩
  have y6:=List.mem_of_getElem? A;obtain⟨bb,oo,u,V,t,u1,K,u3,u4,ar⟩:=r.at_ A;have K:=Jc C.ok K;obtain⟨L,p1,N,p3⟩:=Nr C.ok.wf s.f u V t;have Y:=C.ui N;have hy:=ar.len;subst hy;refine⟨_,u1,_,K,_,VN,L,p1,_,kd _ _,_,_,_,p3.l1,?_⟩;have hd:(M.af.drop i).map bare=⟨s.f,(s.arcs.take 0).map (Mj f)⟩::(M.af.drop (i+1)).map bare:=by rw[iH A,List.map_cons];rfl
  rw[hd]at Y;have hL:(bH++(M.af.take i).map (pv f p)).length=f+i:=by rw[length_append,lM,length_take,<-U,Nat.min_eq_left (by omega)]
  have S:=W.trans (LA N);have x4:SB (L.app (F.push Q2)) F.next s.f u s.arcs.length t:=p3;generalize L.app (F.push Q2)=g3 at*;have x8:∀o,Kp g3 o->SB o F.next s.f u s.arcs.length t:=λo h=>h.2 _ _ _ _ _ x4 (by decide) (by decide) (by decide);obtain⟨ks,z2⟩:∃ks,ks=F.next:=⟨_,rfl⟩
  rw[<-z2]at x4 x8⊢;have u5:=x1 i (by omega);have u6:dc (M.af.drop i)=s.arcs.length+dc (M.af.drop (i+1)):=by rw[iH A,dS]
  have x0:f+i<=1000000000:=by omega
  refine yR k (bT M x M.af.length z) m c d g.next f x M.af.length z _ y i ks u s.arcs.length t (λx3 j o=>j<=s.arcs.length/\x3=s.arcs.length-j/\BS hb o k kind start lead (bH++(M.af.take i).map (pv f p)++⟨s.f,(s.arcs.take j).map (Mj f)⟩::(M.af.drop (i+1)).map bare)/\Kp g3 o) _ (λx3 j=>?_) s.arcs.length (j:=0) ⟨by omega,rfl,Y,Kp.refl _⟩;intros;rename_i G y0;obtain⟨e1,e2,B,P⟩:=y0;have E:=Bn (bH++(M.af.take i).map (pv f p)) (⟨s.f,(s.arcs.take j).map (Mj f)⟩:dW) ((M.af.drop (i+1)).map bare) hL;have O:dc (bH++(M.af.take i).map (pv f p)++⟨s.f,(s.arcs.take j).map (Mj f)⟩::(M.af.drop (i+1)).map bare)<=100000:=by
   rw[dR,dS,Is];show _+(((s.arcs.take j).map (Mj f)).length+0)<=_;rw[lM,length_take];omega
  rw[Vp x0];refine aa (λq3=>?_) (λq3=>?_)
  ·have hj:j<s.arcs.length:=by have:=dT q3;omega
   obtain⟨q,T⟩:∃q,s.arcs[j]?=some q:=⟨_,gE hj⟩
   have z8:=y4 s y6 q (List.mem_of_getElem? T);obtain⟨z6,u0,v1,v2,v3,v4,v5,v6⟩:=(ar.ok B.ok).at_ T;obtain⟨ua,r1,r2,r3⟩:=Jz B.ok.wf q;have b5:=B.ui r2;have x7:(ua.app (G.push NN)).get G.next=some (.cells (gn q) 70 0 true):=r3;have y2:=jD zs3 x7 (i:=3) (by simp[gn]) (v:= .int .i64 (q.t+(f:Int))) rfl rfl;have o6:=r2.set (.cells (gn (Mj f q)) 70 0 true) (Nat.le_refl _) (r2.wf _ _ x7) B.ok.wf;have b6:=B.ui o6;have y1:((ua.app (G.push NN)).set G.next (.cells (gn (Mj f q)) 70 0 true)).get G.next=some (.cells (gn (Mj f q)) 70 0 true):=by rw[ae.aw,if_pos rfl]
   have ld:=pH aau Zg NF y1 (i:=0) (by simp[gn]);rw[drop_zero,take_of_length_le (by simp[gn])]at ld;have z3:wrap .i64 (q.t+(f:Int))=q.t+(f:Int):=aB (by omega) (by omega);refine⟨_,v1,_,v2,_,Rm,ua,r1,_,rF _ _,_,r3.l3,_,rF _ _,?_⟩;rw[z3];refine⟨_,y2,_,ld,(wK w b6 E O (Mj f q)).mono ?_⟩;rintro _ g6 ⟨rfl,b7,y5⟩;rw[uy _ _ _ _ hL]at b7;rw[aO hj (by omega)];refine⟨rfl,bW (s.arcs.length-(j+1)) (by omega) ⟨by omega,rfl,?_,(P.trans (LA o6)).trans y5⟩⟩;rw[qo (Mj f) T];exact b7
  ·obtain rfl:j=s.arcs.length:=by have:=dF q3;omega
   rw[take_length]at B E O;have x5:=x8 _ P;have D:=S.trans P;have x6:∀I,BS hb I k kind start lead (bH++(M.af.take i).map (pv f p)++pv f p s::(M.af.drop (i+1)).map bare)->Kp g0 I->aJ (fj (gp k m c d g.next f x M.af.length z) (λy i o=>i<=M.af.length/\y=M.af.length-i/\BS hb o k kind start lead (bH++(M.af.take i).map (pv f p)++(M.af.drop i).map bare)/\Kp g0 o)) y [(pA k),(.func (.func m) ⟨c⟩ ⟨d⟩),(pA g.next),(iA f),(.slice x M.af.length z),(iA M.af.length),(.int .i64 (wrap .i64 ((i:Int)+1)))] I:=λI h1 h2=>by
    rw[aO H (by omega)];refine bW (M.af.length-(i+1)) (by omega) ⟨by omega,rfl,?_,h2⟩;rw[qo (pv f p) A];have:bH++((M.af.take i).map (pv f p)++[pv f p s])++(M.af.drop (i+1)).map bare=bH++(M.af.take i).map (pv f p)++pv f p s::(M.af.drop (i+1)).map bare:=by simp
    rw[this];exact h1
   refine⟨_,oK _ _,_,x5.l0,aa (λq4=>?_) (λq4=>?_)⟩
   ·have X:s.f≠[]:=bY (by simpa using q4);refine⟨_,oK _ _,_,x5.l0,aa (λ_=>(S2 w B (l0.kp D) E O).mono ?_) (λe=>by rw[l0.blt]at e;cases e)⟩;rintro _ I ⟨rfl,b5,y7⟩;rw[uy _ _ _ _ hL]at b5;refine⟨rfl,x6 I ?_ (D.trans y7)⟩;have:pv f p s=CI p ⟨s.f,s.arcs.map (Mj f)⟩:=if_neg X;rw[this];exact b5
   ·have X:s.f=[]:=ch (by simpa using q4);refine x6 G ?_ D;have:pv f p s=⟨s.f,s.arcs.map (Mj f)⟩:=by
     have:pv f p s=⟨[],s.arcs.map (Mj f)⟩:=if_pos X;rw[this,X]
    rw[this];exact B
 ·obtain rfl:i=M.af.length:=by have:=dF q2;omega
  have y8:=x2 _ W C.ok;have hw:wrap .i64 ((f:Int)+M.start)=(f:Int)+M.start:=aB (by omega) (by omega);refine⟨_,tc _,_,y8.l1,by rw[hw],?_,z4.trans W⟩;rw[take_length,drop_length]at C;simpa using C
end
end
noncomputable def cw:FD:=cF Tryz.f48 [([1,1,1,1,1,0,1,0,0],[1,2,3,8,10,11]),([1,1,1,1,1,0,1,0,0,1,0,0,1,1,0,0],[1,2,3,8,10,11,12]),([1,1,1,1,1,1,1,0,1,0,0],[1,2,3,8,10,13]),([1,1,1,1,1,1,1,0,1,0,0,1,0,0,1,0,0],[1,2,3,8,10,13,14]),([1,1,1,1,1,1,1,0,1,0,0,1,0,0,1,0,0,1,0,0,1,1,1,1,0,0],[1,2,3,8,10,13,14,15,17])]
abbrev lk(a:OA)(l f:Nat)(e:OA)(c h k g N:Nat)(b:OA)(j d:Nat)(i:Nat):LV:=[(.slice a l f),(.slice e c h),(pA k),(.slice b j d),(sA g N N),(iA i)]
abbrev pT(a:OA)(m f:Nat)(e:OA)(c h k g N:Nat)(b:OA)(l d i:Nat)(j:Nat):LV:=[(.slice a m f),(.slice e c h),(pA k),(.slice b l d),(sA g N N),(iA i),(iA j)]
abbrev gi(a:OA)(l f:Nat)(e:OA)(c h k g N:Nat)(b:OA)(j d:Nat)(i:Nat):LV:=[(.slice a l f),(.slice e c h),(pA k),(.slice b j d),(sA g N N),(iA i)]
abbrev ll(a:OA)(m f:Nat)(e:OA)(c h k g N:Nat)(b:OA)(l d i:Nat)(j:Nat):LV:=[(.slice a m f),(.slice e c h),(pA k),(.slice b l d),(sA g N N),(iA i),(iA j)]
abbrev fx(a:OA)(n g:Nat)(f:OA)(c l k h N:Nat)(b:OA)(m d i j:Nat)(v:OA)(e o:Nat)(q:Nat):LV:=[(.slice a n g),(.slice f c l),(pA k),(.slice b m d),(sA h N N),(iA i),(iA j),(.slice v e o),(iA q)]
theorem aaA(C:LV)(x:OA)(t A:Nat)(z:OA)(y B:Nat)(h:ae)(Q:VH)(D:xN (eV SS.P 29 (.agg ⟨C⟩)) h λ_ s=>lA 29 s (pA (h.next)) λr=>FW SS 26 [(.agg ⟨r⟩)] s λp q=>yB p λo=>au (!o) (Q (.tuple ⟨[(strOf []),(.int .i64 1)]⟩) q) (FW SS 15 [(.slice x t A)] q λm n=>yB m λl=>au (!l) (Q (.tuple ⟨[(strOf []),(.int .i64 1)]⟩) n) (FW SS 15 [(.slice z y B)] n λj k=>yB j λi=>au (!i) (Q (.tuple ⟨[(strOf []),(.int .i64 1)]⟩) k) (lA 29 k (pA (h.next)) λg=>FW SS 73 [(.agg ⟨g⟩),(.bool false)] k λe f=>∃(v:OA) (w u:Nat),∃d:Int,e=(.tuple ⟨[(.slice v w u),(.int .i64 d)]⟩)/\au (((d:Int) !=0)) (Q (.tuple ⟨[(strOf []),(.int .i64 d)]⟩) f) (xR (bZ SS.P 106 (.int .i64 (wrap .i64 ((t:Int)+1))) (.int .i64 (wrap .i64 ((t:Int)+1)))) f λ_ a b c=>LL SS cw [1,1,1,1,1,0,1,0,0] [(.slice x t A),(.slice z y B),(pA (h.next)),(.slice v w u),(sA (f.next) a b),(.int .i64 0)] c (KK SS cw [1,1,1,1,1,0,1,0] [] (EE SS cw Q))))))):FW SS 48 [(.agg ⟨C⟩),(.slice x t A),(.slice z y B)] h Q:=cJ cw Tryz.func48 (ai D)
theorem DB(E:LV)(w:OA)(v z:Nat)(y:OA)(s A:Nat)(k t N:Nat)(b:OA)(B x:Nat)(u:Nat->Nat->ae->Prop)(Q:VH)(step:∀(r:Nat) (i:Nat) (D:Nat->Value) (h:ae),u r i h->au (decide (((i:Int):Int)<=(v:Int))) (xR (bZ SS.P 103 (.int .i64 (wrap .i64 ((s:Int)+1))) (.int .i64 (wrap .i64 ((s:Int)+1)))) h λ_ d e f=>iP 106 (sA t N N) (iA i) λc=>xU (ah SS.P 103 (.pointer (some c)) (sA (h.next) d e) f) f λ_ a=>LL SS cw [1,1,1,1,1,0,1,0,0,1,0,0,1,1,0,0] (pT w v z y s A k t N b B x i 0) a (KK SS cw [1,0,0,1,1,0] [1,1,1,1,1,0,1,0,0] (RR cw [1,1,1,1,1,0,1,0,0] (fj (lk w v z y s A k t N b B x) u) r (KK SS cw [1,1,1,1,1,0,1,0] [] (EE SS cw Q))))) (iP 106 (sA t N N) (.int .i64 0) λq=>lL 103 (room h 11) q λn o p=>iP 103 (.slice n o p) (.int .i64 0) λm=>lL 107 (room h 11) m λi j l=>fP 29 (pA k) 1 λg=>lI (room h 11) g λf=>fP 29 (pA k) 2 λe=>lS (room h 11) e λd=>iP 107 (.slice i j l) (.int .i64 f) λc=>xU (ah SS.P 9 (.pointer (some c)) (strOf d) (room h 11)) (room h 11) λ_ a=>LL SS cw [1,1,1,1,1,1,1,0,1,0,0] (gi w v z y s A k t N b B x 0) a (KK SS cw [1,1,1,1,1,1,1,0,1,0] [] (EE SS cw Q))))(r:Nat){i:Nat}{h:ae}(C:u r i h):LL SS cw [1,1,1,1,1,0,1,0,0] (lk w v z y s A k t N b B x i) h (KK SS cw [1,1,1,1,1,0,1,0] [] (EE SS cw Q)):=
 db (lk w v z y s A k t N b B x) u (λr i D h C=>ai (step r i D h C)) r C
theorem DC(F:LV)(u:OA)(A x:Nat)(w:OA)(s y:Nat)(k t N:Nat)(b:OA)(z v:Nat)(B:Nat->Nat->ae->Prop)(D i:Nat)(r:Nat->Nat->ae->Prop)(Q:VH)(step:∀(q:Nat) (j:Nat) (E:Nat->Value) (h:ae),r q j h->au (decide (((j:Int):Int)<=(s:Int))) (iP 106 (sA t N N) (iA i) λp=>lL 103 (room h 9) p λm n o=>lA 29 (room h 9) (pA k) λl=>FW SS 74 [(.agg ⟨l⟩)] (room h 9) λg h=>yL g λd e f=>iP 103 (.slice m n o) (iA j) λc=>xU (ah SS.P 107 (.pointer (some c)) (.slice d e f) h) h λ_ a=>(aj SS.P 103 h (.pointer (some p))=some (.slice m n o)/\dA 4 (.slice m n o) (.slice m n o)=true)/\aJ (fj (pT u A x w s y k t N b z v i) r) q [(.slice u A x),(.slice w s y),(pA k),(.slice b z v),(sA t N N),(iA i),(.int .i64 (wrap .i64 ((j:Int)+1)))] a) (aJ (fj (lk u A x w s y k t N b z v) B) D [(.slice u A x),(.slice w s y),(pA k),(.slice b z v),(sA t N N),(.int .i64 (wrap .i64 ((i:Int)+1)))] h))(q:Nat){j:Nat}{h:ae}(C:r q j h):LL SS cw [1,1,1,1,1,0,1,0,0,1,0,0,1,1,0,0] (pT u A x w s y k t N b z v i j) h (KK SS cw [1,0,0,1,1,0] [1,1,1,1,1,0,1,0,0] (RR cw [1,1,1,1,1,0,1,0,0] (fj (lk u A x w s y k t N b z v) B) D (KK SS cw [1,1,1,1,1,0,1,0] [] (EE SS cw Q)))):=
 db (pT u A x w s y k t N b z v i) r (λq j E h C=>ai (step q j E h C)) q C
theorem DD(B:LV)(t:OA)(q w:Nat)(v:OA)(r x:Nat)(k s N:Nat)(b:OA)(y u:Nat)(p:Nat->Nat->ae->Prop)(Q:VH)(step:∀(o:Nat) (i:Nat) (A:Nat->Value) (h:ae),p o i h->au (decide (((i:Int):Int)<=(q:Int))) (LL SS cw [1,1,1,1,1,1,1,0,1,0,0,1,0,0,1,0,0] (ll t q w v r x k s N b y u i 0) h (KK SS cw [1,0,0,1,0] [1,1,1,1,1,1,1,0,1,0,0] (RR cw [1,1,1,1,1,1,1,0,1,0,0] (fj (gi t q w v r x k s N b y u) p) o (KK SS cw [1,1,1,1,1,1,1,0,1,0] [] (EE SS cw Q))))) (lA 29 (room h 15) (pA k) λn=>iP 106 (sA s N N) (iA q) λm=>lL 103 (room h 15) m λj k l=>iP 103 (.slice j k l) (iA r) λi=>lL 107 (room h 15) i λe f g=>FW SS 78 [(.agg ⟨n⟩),(.slice e f g)] (room h 15) λc d=>∃b:LB,∃a:Int,c=(.tuple ⟨[(strOf b),(.int .i64 a)]⟩)/\Q (.tuple ⟨[(strOf b),(.int .i64 a)]⟩) d))(o:Nat){i:Nat}{h:ae}(z:p o i h):LL SS cw [1,1,1,1,1,1,1,0,1,0,0] (gi t q w v r x k s N b y u i) h (KK SS cw [1,1,1,1,1,1,1,0,1,0] [] (EE SS cw Q)):=
 db (gi t q w v r x k s N b y u) p (λo i A h z=>ai (step o i A h z)) o z
theorem DE(P:LV)(C:OA)(G E:Nat)(D:OA)(y F:Nat)(k x N:Nat)(b:OA)(A z:Nat)(H:Nat->Nat->ae->Prop)(I i:Nat)(B:Nat->Nat->ae->Prop)(Q:VH)(step:∀(w:Nat) (j:Nat) (O:Nat->Value) (h:ae),B w j h->au (decide (((j:Int):Int)<=(y:Int))) (lA 29 (room h 15) (pA k) λv=>iP 106 (sA x N N) (iA i) λu=>lL 103 (room h 15) u λr s t=>iP 103 (.slice r s t) (iA j) λq=>lL 107 (room h 15) q λn o p=>FW SS 75 [(.agg ⟨v⟩),(.slice n o p),(.slice b A z)] (room h 15) λl m=>∃(L:OA) (K J:Nat),∃h:Int,l=(.tuple ⟨[(.slice L K J),(.int .i64 h)]⟩)/\au (((h:Int) !=0)) (Q (.tuple ⟨[(strOf []),(.int .i64 h)]⟩) m) (iP 106 (sA x N N) (iA i) λg=>lL 103 m g λd e f=>iP 103 (.slice d e f) (iA j) λc=>xU (ah SS.P 107 (.pointer (some c)) (.slice L K J) m) m λ_ a=>LL SS cw [1,1,1,1,1,1,1,0,1,0,0,1,0,0,1,0,0,1,0,0,1,1,1,1,0,0] (fx C G E D y F k x N b A z i j L K J 1) a (KK SS cw [1,0,0,1,1,1,1,0] [1,1,1,1,1,1,1,0,1,0,0,1,0,0,1,0,0] (RR cw [1,1,1,1,1,1,1,0,1,0,0,1,0,0,1,0,0] (fj (ll C G E D y F k x N b A z i) B) w (KK SS cw [1,0,0,1,0] [1,1,1,1,1,1,1,0,1,0,0] (RR cw [1,1,1,1,1,1,1,0,1,0,0] (fj (gi C G E D y F k x N b A z) H) I (KK SS cw [1,1,1,1,1,1,1,0,1,0] [] (EE SS cw Q)))))))) (aJ (fj (gi C G E D y F k x N b A z) H) I [(.slice C G E),(.slice D y F),(pA k),(.slice b A z),(sA x N N),(.int .i64 (wrap .i64 ((i:Int)+1)))] h))(w:Nat){j:Nat}{h:ae}(M:B w j h):LL SS cw [1,1,1,1,1,1,1,0,1,0,0,1,0,0,1,0,0] (ll C G E D y F k x N b A z i j) h (KK SS cw [1,0,0,1,0] [1,1,1,1,1,1,1,0,1,0,0] (RR cw [1,1,1,1,1,1,1,0,1,0,0] (fj (gi C G E D y F k x N b A z) H) I (KK SS cw [1,1,1,1,1,1,1,0,1,0] [] (EE SS cw Q)))):=
 db (ll C G E D y F k x N b A z i) B (λw j O h M=>ai (step w j O h M)) w M
theorem DF(mv:LV)(G:OA)(F I:Nat)(D:OA)(C E:Nat)(k B N:Nat)(b:OA)(M K:Nat)(y9:Nat->Nat->ae->Prop)(z0 i:Nat)(y1:Nat->Nat->ae->Prop)(y8 j:Nat)(v:OA)(L O:Nat)(H:Nat->Nat->ae->Prop)(Q:VH)(step:∀(J:Nat) (q:Nat) (zz:Nat->Value) (h:ae),H J q h->au (decide (((q:Int):Int)<=3)) (xI .i64 (ax SS.P .shr 3 (iA q) (.int .u64 1)) λP=>au (decide ((wrap .i64 ((i:Int)+wrap .i64 ((BitVec.ofInt (IntKind.bits .i64) (q:Int)&&&BitVec.ofInt (IntKind.bits .i64) 1).toNat:Int)):Int)>(F:Int))) (aJ (fj (fx G F I D C E k B N b M K i j v L O) H) J [(.slice G F I),(.slice D C E),(pA k),(.slice b M K),(sA B N N),(iA i),(iA j),(.slice v L O),(.int .i64 (wrap .i64 ((q:Int)+1)))] h) (au (decide ((wrap .i64 ((j:Int)+P):Int)>(C:Int))) (aJ (fj (fx G F I D C E k B N b M K i j v L O) H) J [(.slice G F I),(.slice D C E),(pA k),(.slice b M K),(sA B N N),(iA i),(iA j),(.slice v L O),(.int .i64 (wrap .i64 ((q:Int)+1)))] h) (au (((wrap .i64 ((BitVec.ofInt (IntKind.bits .i64) (q:Int)&&&BitVec.ofInt (IntKind.bits .i64) 1).toNat:Int):Int)==1)) (iP 22 (.slice G F I) (iA i) λa6=>lI h a6 λa5=>au (((P:Int)==1)) (iP 22 (.slice D C E) (iA j) λa4=>lI h a4 λa3=>lA 29 h (pA k) λR=>FW SS 76 [(.agg ⟨R⟩),(.slice v L O),(.int .i64 a5),(.int .i64 a3),(.bool false)] h λS A=>∃(x3:OA) (y4 Z:Nat),∃z:Int,S=(.tuple ⟨[(.slice x3 y4 Z),(.int .i64 z)]⟩)/\au (((z:Int) !=0)) (Q (.tuple ⟨[(strOf []),(.int .i64 z)]⟩) A) (xP (aA SS.P 106 (sA B N N) (.int .i64 (wrap .i64 ((i:Int)+wrap .i64 ((BitVec.ofInt (IntKind.bits .i64) (q:Int)&&&BitVec.ofInt (IntKind.bits .i64) 1).toNat:Int))))) λy=>lL 103 (room A 30) y λu w x=>fP 29 (pA k) 0 λt=>lI (room A 30) t λs=>xP (aA SS.P 106 (sA B N N) (.int .i64 (wrap .i64 ((i:Int)+wrap .i64 ((BitVec.ofInt (IntKind.bits .i64) (q:Int)&&&BitVec.ofInt (IntKind.bits .i64) 1).toNat:Int))))) λr=>lL 103 (room A 30) r λn o p=>iP 103 (.slice n o p) (.int .i64 (wrap .i64 ((j:Int)+P))) λm=>lL 107 (room A 30) m λg h l=>FW SS 77 [(.int .i64 s),(.slice g h l),(.slice x3 y4 Z)] (room A 30) λe f=>∃(W:OA) (X x5:Nat),∃d:Int,e=(.tuple ⟨[(.slice W X x5),(.int .i64 d)]⟩)/\iP 103 (.slice u w x) (.int .i64 (wrap .i64 ((j:Int)+P))) λc=>xU (ah SS.P 107 (.pointer (some c)) (.slice W X x5) f) f λ_ a=>(aj SS.P 103 f (.pointer (some y))=some (.slice u w x)/\dA 4 (.slice u w x) (.slice u w x)=true)/\au (((d:Int) !=0)) (Q (.tuple ⟨[(strOf []),(.int .i64 d)]⟩) a) (aJ (fj (fx G F I D C E k B N b M K i j v L O) H) J [(.slice G F I),(.slice D C E),(pA k),(.slice b M K),(sA B N N),(iA i),(iA j),(.slice v L O),(.int .i64 (wrap .i64 ((q:Int)+1)))] a))) (lA 29 h (pA k) λR=>FW SS 76 [(.agg ⟨R⟩),(.slice v L O),(.int .i64 a5),(.int .i64 0),(.bool false)] h λS A=>∃(x7:OA) (V y7:Nat),∃z:Int,S=(.tuple ⟨[(.slice x7 V y7),(.int .i64 z)]⟩)/\au (((z:Int) !=0)) (Q (.tuple ⟨[(strOf []),(.int .i64 z)]⟩) A) (xP (aA SS.P 106 (sA B N N) (.int .i64 (wrap .i64 ((i:Int)+wrap .i64 ((BitVec.ofInt (IntKind.bits .i64) (q:Int)&&&BitVec.ofInt (IntKind.bits .i64) 1).toNat:Int))))) λy=>lL 103 (room A 30) y λu w x=>fP 29 (pA k) 0 λt=>lI (room A 30) t λs=>xP (aA SS.P 106 (sA B N N) (.int .i64 (wrap .i64 ((i:Int)+wrap .i64 ((BitVec.ofInt (IntKind.bits .i64) (q:Int)&&&BitVec.ofInt (IntKind.bits .i64) 1).toNat:Int))))) λr=>lL 103 (room A 30) r λn o p=>iP 103 (.slice n o p) (.int .i64 (wrap .i64 ((j:Int)+P))) λm=>lL 107 (room A 30) m λg h l=>FW SS 77 [(.int .i64 s),(.slice g h l),(.slice x7 V y7)] (room A 30) λe f=>∃(y3:OA) (x2 y0:Nat),∃d:Int,e=(.tuple ⟨[(.slice y3 x2 y0),(.int .i64 d)]⟩)/\iP 103 (.slice u w x) (.int .i64 (wrap .i64 ((j:Int)+P))) λc=>xU (ah SS.P 107 (.pointer (some c)) (.slice y3 x2 y0) f) f λ_ a=>(aj SS.P 103 f (.pointer (some y))=some (.slice u w x)/\dA 4 (.slice u w x) (.slice u w x)=true)/\au (((d:Int) !=0)) (Q (.tuple ⟨[(strOf []),(.int .i64 d)]⟩) a) (aJ (fj (fx G F I D C E k B N b M K i j v L O) H) J [(.slice G F I),(.slice D C E),(pA k),(.slice b M K),(sA B N N),(iA i),(iA j),(.slice v L O),(.int .i64 (wrap .i64 ((q:Int)+1)))] a)))) (au (((P:Int)==1)) (iP 22 (.slice D C E) (iA j) λa4=>lI h a4 λa3=>lA 29 h (pA k) λR=>FW SS 76 [(.agg ⟨R⟩),(.slice v L O),(.int .i64 0),(.int .i64 a3),(.bool false)] h λS A=>∃(y6:OA) (y5 x0:Nat),∃z:Int,S=(.tuple ⟨[(.slice y6 y5 x0),(.int .i64 z)]⟩)/\au (((z:Int) !=0)) (Q (.tuple ⟨[(strOf []),(.int .i64 z)]⟩) A) (xP (aA SS.P 106 (sA B N N) (.int .i64 (wrap .i64 ((i:Int)+wrap .i64 ((BitVec.ofInt (IntKind.bits .i64) (q:Int)&&&BitVec.ofInt (IntKind.bits .i64) 1).toNat:Int))))) λy=>lL 103 (room A 30) y λu w x=>fP 29 (pA k) 0 λt=>lI (room A 30) t λs=>xP (aA SS.P 106 (sA B N N) (.int .i64 (wrap .i64 ((i:Int)+wrap .i64 ((BitVec.ofInt (IntKind.bits .i64) (q:Int)&&&BitVec.ofInt (IntKind.bits .i64) 1).toNat:Int))))) λr=>lL 103 (room A 30) r λn o p=>iP 103 (.slice n o p) (.int .i64 (wrap .i64 ((j:Int)+P))) λm=>lL 107 (room A 30) m λg h l=>FW SS 77 [(.int .i64 s),(.slice g h l),(.slice y6 y5 x0)] (room A 30) λe f=>∃(y2:OA) (x9 Y:Nat),∃d:Int,e=(.tuple ⟨[(.slice y2 x9 Y),(.int .i64 d)]⟩)/\iP 103 (.slice u w x) (.int .i64 (wrap .i64 ((j:Int)+P))) λc=>xU (ah SS.P 107 (.pointer (some c)) (.slice y2 x9 Y) f) f λ_ a=>(aj SS.P 103 f (.pointer (some y))=some (.slice u w x)/\dA 4 (.slice u w x) (.slice u w x)=true)/\au (((d:Int) !=0)) (Q (.tuple ⟨[(strOf []),(.int .i64 d)]⟩) a) (aJ (fj (fx G F I D C E k B N b M K i j v L O) H) J [(.slice G F I),(.slice D C E),(pA k),(.slice b M K),(sA B N N),(iA i),(iA j),(.slice v L O),(.int .i64 (wrap .i64 ((q:Int)+1)))] a))) (lA 29 h (pA k) λR=>FW SS 76 [(.agg ⟨R⟩),(.slice v L O),(.int .i64 0),(.int .i64 0),(.bool false)] h λS A=>∃(x1:OA) (T x8:Nat),∃z:Int,S=(.tuple ⟨[(.slice x1 T x8),(.int .i64 z)]⟩)/\au (((z:Int) !=0)) (Q (.tuple ⟨[(strOf []),(.int .i64 z)]⟩) A) (xP (aA SS.P 106 (sA B N N) (.int .i64 (wrap .i64 ((i:Int)+wrap .i64 ((BitVec.ofInt (IntKind.bits .i64) (q:Int)&&&BitVec.ofInt (IntKind.bits .i64) 1).toNat:Int))))) λy=>lL 103 (room A 30) y λu w x=>fP 29 (pA k) 0 λt=>lI (room A 30) t λs=>xP (aA SS.P 106 (sA B N N) (.int .i64 (wrap .i64 ((i:Int)+wrap .i64 ((BitVec.ofInt (IntKind.bits .i64) (q:Int)&&&BitVec.ofInt (IntKind.bits .i64) 1).toNat:Int))))) λr=>lL 103 (room A 30) r λn o p=>iP 103 (.slice n o p) (.int .i64 (wrap .i64 ((j:Int)+P))) λm=>lL 107 (room A 30) m λg h l=>FW SS 77 [(.int .i64 s),(.slice g h l),(.slice x1 T x8)] (room A 30) λe f=>∃(x4:OA) (U x6:Nat),∃d:Int,e=(.tuple ⟨[(.slice x4 U x6),(.int .i64 d)]⟩)/\iP 103 (.slice u w x) (.int .i64 (wrap .i64 ((j:Int)+P))) λc=>xU (ah SS.P 107 (.pointer (some c)) (.slice x4 U x6) f) f λ_ a=>(aj SS.P 103 f (.pointer (some y))=some (.slice u w x)/\dA 4 (.slice u w x) (.slice u w x)=true)/\au (((d:Int) !=0)) (Q (.tuple ⟨[(strOf []),(.int .i64 d)]⟩) a) (aJ (fj (fx G F I D C E k B N b M K i j v L O) H) J [(.slice G F I),(.slice D C E),(pA k),(.slice b M K),(sA B N N),(iA i),(iA j),(.slice v L O),(.int .i64 (wrap .i64 ((q:Int)+1)))] a))))))) (aJ (fj (ll G F I D C E k B N b M K i) y1) y8 [(.slice G F I),(.slice D C E),(pA k),(.slice b M K),(sA B N N),(iA i),(.int .i64 (wrap .i64 ((j:Int)+1)))] h))(J:Nat){q:Nat}{h:ae}(hi:H J q h):LL SS cw [1,1,1,1,1,1,1,0,1,0,0,1,0,0,1,0,0,1,0,0,1,1,1,1,0,0] (fx G F I D C E k B N b M K i j v L O q) h (KK SS cw [1,0,0,1,1,1,1,0] [1,1,1,1,1,1,1,0,1,0,0,1,0,0,1,0,0] (RR cw [1,1,1,1,1,1,1,0,1,0,0,1,0,0,1,0,0] (fj (ll G F I D C E k B N b M K i) y1) y8 (KK SS cw [1,0,0,1,0] [1,1,1,1,1,1,1,0,1,0,0] (RR cw [1,1,1,1,1,1,1,0,1,0,0] (fj (gi G F I D C E k B N b M K) y9) z0 (KK SS cw [1,1,1,1,1,1,1,0,1,0] [] (EE SS cw Q)))))):=
 db (fx G F I D C E k B N b M K i j v L O) H (λJ q zz h hi=>ai (step J q zz h hi)) J hi
noncomputable def sk:FD:=cF Tryz.f15 [([1,1,0,1,0,0],[0,3])]
abbrev mW(a:OA)(c b:Nat)(i:Nat):LV:=[(.slice a c b),(iA i)]
theorem Ve(b:OA)(a c:Nat)(h:ae)(Q:VH)(d:au (decide (((a:Int):Int)>200)) (Q (.bool false) h) (LL SS sk [1,1,0,1,0,0] (mW b a c 0) h (KK SS sk [1,1,0,1,0] [] (EE SS sk Q)))):FW SS 15 [(.slice b a c)] h Q:=cJ sk Tryz.func15 (ai d)
theorem zT(j:OA)(f k:Nat)  (g:Nat->Nat->ae->Prop) (Q:VH) (step:∀(e:Nat)(i:Nat)(m:Nat->Value)(h:ae),g e i h->au (decide (((i:Int):Int)<(f:Int))) (iP 22 (.slice j f k) (iA i) λd=>lI h d λc=>au (decide ((c:Int)<1)) (Q (.bool false) h) (iP 22 (.slice j f k) (iA i) λb=>lI h b λa=>au (decide ((a:Int)>500)) (Q (.bool false) h) (aJ (fj (mW j f k) g) e [(.slice j f k),(.int .i64 (wrap .i64 ((i:Int)+1)))] h))) (Q (.bool true) h)) (e:Nat) {i:Nat} {h:ae} (l:g e i h):LL SS sk [1,1,0,1,0,0] (mW j f k i) h (KK SS sk [1,1,0,1,0] [] (EE SS sk Q)):=
 db (mW j f k) g (λe i m h l=>ai (step e i m h l)) e l
noncomputable def rr:FD:=cF Tryz.f17 [([1,1,0,1,0,0],[0,1,5])]
abbrev mN(a:OA)(f d:Nat)(c:OA)(b e:Nat)(i:Nat):LV:=[(.slice a f d),(.slice c b e),(iA i)]
theorem R7(c:OA)(b e:Nat)(d:OA)(a f:Nat)(h:ae)(Q:VH)(g:au ((((b:Int):Int) !=(a:Int))) (au (decide (((b:Int):Int)<(a:Int))) (Q (.int .i64 (-1)) h) (Q (.int .i64 1) h)) (LL SS rr [1,1,0,1,0,0] (mN c b e d a f 0) h (KK SS rr [1,1,0,1,0] [] (EE SS rr Q)))):FW SS 17 [(.slice c b e),(.slice d a f)] h Q:=cJ rr Tryz.func17 (ai g)
theorem yY(n:OA)(l q:Nat)(p:OA)(o r:Nat)  (m:Nat->Nat->ae->Prop) (Q:VH) (step:∀(k:Nat)(i:Nat)(t:Nat->Value)(h:ae),m k i h->au (decide (((i:Int):Int)<(l:Int))) (iP 22 (.slice n l q) (iA i) λj=>lI (room h 9) j λg=>iP 22 (.slice p o r) (iA i) λf=>lI (room h 9) f λe=>au (decide ((g:Int)<e)) (Q (.int .i64 (-1)) (room h 9)) (iP 22 (.slice n l q) (iA i) λd=>lI (room (room h 9) 9) d λc=>iP 22 (.slice p o r) (iA i) λb=>lI (room (room h 9) 9) b λa=>au (decide ((c:Int)>a)) (Q (.int .i64 1) (room (room h 9) 9)) (aJ (fj (mN n l q p o r) m) k [(.slice n l q),(.slice p o r),(.int .i64 (wrap .i64 ((i:Int)+1)))] (room (room h 9) 9)))) (Q (.int .i64 0) h)) (k:Nat) {i:Nat} {h:ae} (s:m k i h):LL SS rr [1,1,0,1,0,0] (mN n l q p o r i) h (KK SS rr [1,1,0,1,0] [] (EE SS rr Q)):=
 db (mN n l q p o r) m (λk i t h s=>ai (step k i t h s)) k s
variable{p:List Int}{g:ae}{a:Option Addr}{k:Nat}
def wW(l:List Int):List Value:=l.map λz=> .int .i64 z
theorem jr(l:List Int):(wW l).length=l.length:=lM _
theorem SJ(h:i<p.length):(wW p).getD i undef = .int .i64 (p.getD i 0):=by
 unfold wW;rw[gD,getElem?_map,gD,gE h];rfl
def cM(h:ae)(v:Value)(l:List Int):Prop:=
 (v = .slice none 0 0/\l=[])\/ ∃k a cs c b e z,v = .slice (some ⟨k,a,none⟩) l.length c/\h.get k=some (.cells cs e z b)/\(e=3/\z=1\/z=0)/\(cs.drop a).take l.length=wW l
theorem cM.ok(r:cM h v p)(o:Ok h g):cM g v p:=by
 rcases r with r|⟨k,a,cs,c,f,e,z,d,i,b,j⟩
 ·exact .inl r
 ·exact .inr ⟨k,a,cs,c,f,e,z,d,o.ext _ _ i,b,j⟩
theorem cM.Nm(r:Rd h 3 v (wW p)):cM h v p:=by
 rcases r with⟨b,d⟩|⟨k,f,cs,c,g,b,d,e⟩
 ·left;refine⟨b,?_⟩
  cases p with
  |nil=>rfl
  |cons a p=>cases d
 ·rw[jr]at b e;exact .inr ⟨k,f,cs,c,g,3,1,b,d,.inl ⟨rfl,rfl⟩,e⟩
theorem cM.at_{l:List Int}(r:cM h v l){i:Nat}(d:i<l.length):∃p:Addr,aA SS.P 22 v (iA i)=some (.pointer (some p))/\aj SS.P 3 h (.pointer (some p))=some (.int .i64 (l.getD i 0)):=by
 rcases r with⟨_,rfl⟩|⟨k,a,cs,c,q,e,z,rfl,m,_,g⟩
 ·exact absurd d (by simp)
 have b:((cs.drop a).take l.length).length=l.length:=by rw[g,jr]
 rw[length_take,length_drop]at b;have f:=OQ (P:=SS.P) sc Vv (k:=k) (off:=a) (n:=l.length) (c:=c) (ik:= .i64) (i:=(i:Int)) (by omega) (by omega);have o:a+((i:Int)).toNat*1=a+i:=by omega
 rw[o]at f;refine⟨_,f,?_⟩;have j:cs.getD (a+i) undef = .int .i64 (l.getD i 0):=by
  rw[<-SJ d,<-g,gD,gD,List.getElem?_take,if_pos d,List.getElem?_drop]
 rw[cq Hz Gu m (by omega),j]
theorem cM.len{c:Nat}(r:cM h (.slice a n c) p):n=p.length:=by
 rcases r with⟨b,rfl⟩|⟨k,d,cs,f,g,e,z,b,_⟩
 ·injection b
 ·injection b
def qL(z:Int):Bool:=decide (1<=z)&&decide (z<=500)
def dn(l:List Int):Bool:=decide (l.length<=200)&&l.all qL
theorem Bi(h:i<p.length):p.drop i=p.getD i 0::p.drop (i+1):=by
 rw[List.drop_eq_getElem_cons h,gD,gE h];rfl
theorem qM{c:Nat}{l:List Int}(r:cM h (.slice a n c) l):FW SS 15 [.slice a n c] h (λv g=>v = .bool (dn l)/\g=h):=by
 obtain rfl:=cM.len r;refine Ve a _ c h _ (aa (λq=>⟨?_,rfl⟩) (λq=>?_))
 ·have:¬l.length<=200:=by have:=dT q;omega
  unfold dn;rw[decide_eq_false this];rfl
 ·have t:l.length<=200:=by have:=dF q;omega
  have u:dn l=l.all qL:=by unfold dn;rw[decide_eq_true t,Bool.true_and]
  rw[u];refine zT a _ c (λm i g=>i<=l.length/\m=l.length-i/\g=h/\(l.drop i).all qL=l.all qL) _ (λm i=>?_) l.length (i:=0) ⟨by omega,rfl,rfl,by rw[drop_zero]⟩;intros;rename_i g k;obtain⟨z,y,rfl,b⟩:=k;refine aa (λq=>?_) (λq=>?_)
  ·have j:i<l.length:=by have:=dT q;omega
   obtain⟨p,o,s⟩:=r.at_ j;rw[Bi j,all_cons]at b;refine⟨_,o,_,s,aa (λf=>⟨?_,rfl⟩) (λf=>⟨_,o,_,s,aa (λd=>⟨?_,rfl⟩) (λd=>?_)⟩)⟩
   ·have:¬1<=l.getD i 0:=by have:=dT f;omega
    rw[<-b];unfold qL;rw[decide_eq_false this];rfl
   ·have:¬l.getD i 0<=500:=by have:=dT d;omega
    rw[<-b];unfold qL;rw[decide_eq_false this,Bool.and_false];rfl
   ·have e:qL (l.getD i 0)=true:=by
     unfold qL;have w:=dF f;have x:=dF d;rw[decide_eq_true (show 1<=l.getD i 0 by omega),decide_eq_true (show l.getD i 0<=500 by omega)];rfl
    rw[e,Bool.true_and]at b;rw[aO j (by omega)];exact bW (l.length-(i+1)) (by omega) ⟨by omega,rfl,rfl,b⟩
  ·obtain rfl:i=l.length:=by have:=dF q;omega
   rw[drop_length]at b;exact⟨by rw[<-b];rfl,rfl⟩
theorem R8{b:Option Addr}{c:Nat}{l d:List Int}(w:Wf h)(N:l.length<=1000000)(r:cM h (.slice a n c) l)(y:cM h (.slice b m k) d):FW SS 17 [.slice a n c,.slice b m k] h (λv g=>(∃z:Int,v = .int .i64 z/\(z=0↔l=d))/\Ok h g):=by
 obtain rfl:=cM.len r;obtain rfl:=cM.len y;refine R7 a _ c b _ k h _ (aa (λq=>?_) (λq=>?_))
 ·have j:l≠d:=λe=>by rw[e]at q;simp at q
  refine aa (λ_=>⟨⟨_,rfl,?_⟩,Ok.refl w⟩) (λ_=>⟨⟨_,rfl,?_⟩,Ok.refl w⟩)<;>exact⟨λe=>(by cases e),λe=>absurd e j⟩
 ·have H:l.length=d.length:=by have:(l.length:Int)=d.length:=(by simpa using q);omega
  refine yY a _ c b _ k (λB i g=>i<=l.length/\B=l.length-i/\Ok h g/\l.take i=d.take i) _ (λB i=>?_) l.length (i:=0) ⟨by omega,rfl,Ok.refl w,rfl⟩;intros;rename_i g A;obtain⟨S,R,C,x⟩:=A;refine aa (λq=>?_) (λq=>?_)
  ·have s:i<l.length:=by have:=dT q;omega
   have f:=C.room 9;have o:=f.room 9;obtain⟨p,D,J⟩:=cM.at_ (cM.ok r f) s;obtain⟨O,F,G⟩:=cM.at_ (cM.ok y f) (i:=i) (by omega);obtain⟨P,K,I⟩:=cM.at_ (cM.ok r o) s;obtain⟨Q,M,L⟩:=cM.at_ (cM.ok y o) (i:=i) (by omega);have j:l.getD i 0≠d.getD i 0->l≠d:=λh e=>h (by rw[e]);refine⟨_,D,_,J,_,F,_,G,aa (λu=>⟨⟨_,rfl,⟨λe=>(by cases e),λe=>absurd e (j (by have:=dT u;omega))⟩⟩,f⟩) (λu=>⟨_,K,_,I,_,M,_,L,aa (λt=>⟨⟨_,rfl,⟨λe=>(by cases e),λe=>absurd e (j (by have:=dT t;omega))⟩⟩,o⟩) (λt=>?_)⟩)⟩;have E:l.getD i 0=d.getD i 0:=by have:=dF u;have:=dF t;omega
   rw[aO s (by omega)];refine bW (l.length-(i+1)) (by omega) ⟨by omega,rfl,o,?_⟩;rw[gT (d:=0) s,gT (d:=0) (by omega),x,E]
  ·obtain rfl:i=l.length:=by have:=dF q;omega
   rw[take_length,H,take_length]at x;exact⟨⟨_,rfl,⟨λ_=>x,λ_=>rfl⟩⟩,C⟩
noncomputable def rk:FD:=cF Tryz.f13 [([1,1,1,1,1,0,1,0,0],[1,2,8,10,11,42,43])]
abbrev qc(a:OA)(g e:Nat)(d:OA)(b f c k m:Nat)(s i:Nat):LV:=[(.slice a g e),(.slice d b f),(pA c),(pA k),(iA s),(iA m),(iA i)]
theorem RO(y:Int)(B:OA)(A D:Nat)(C:OA)(z E:Nat)(w:LB)(h:ae)(Q:VH)(F:xN (bq SS.P 29) h λ_ x=>FW SS 40 [(.slice B A D)] x λu v=>yB u λt=>au (!t) (xA (bg SS.P 29 []) λb=>xU (ah SS.P 29 (pA (h.next)) (.agg ⟨b⟩) v) v λ_ a=>dX SS [((pA (h.next)),some 29),((.int .i64 1),none)] a Q) (FW SS 40 [(.slice C z E)] v λr s=>yB r λq=>au (!q) (xA (bg SS.P 29 []) λb=>xU (ah SS.P 29 (pA (h.next)) (.agg ⟨b⟩) s) s λ_ a=>dX SS [((pA (h.next)),some 29),((.int .i64 1),none)] a Q) (FW SS 41 [(.int .i64 y),(strOf w)] s λo p=>yB o λn=>au (!n) (xA (bg SS.P 29 []) λb=>xU (ah SS.P 29 (pA (h.next)) (.agg ⟨b⟩) p) p λ_ a=>dX SS [((pA (h.next)),some 29),((.int .i64 1),none)] a Q) (FW SS 42 [(.int .i64 y)] p λl m=>yO l λk=>HJ SS.P k m λi j=>fP 65 i 0 λg=>fP 29 (.pointer (some g)) 2 λf=>xU (ah SS.P 9 (.pointer (some f)) (strOf w) j) j λ_ e=>FW SS 43 [(.pointer k),(strOf [])] e λc d=>yI .i64 c λb=>xI .i64 (oS true [(iA A),(iA z)]) λa=>LL SS rk [1,1,1,1,1,0,1,0,0] [(.slice B A D),(.slice C z E),(pA (h.next)),(.pointer k),(.int .i64 b),(.int .i64 a),(.int .i64 0)] d (KK SS rk [1,1,1,1,1,0,1,0] [] (EE SS rk Q)))))):FW SS 13 [(.int .i64 y),(.slice B A D),(.slice C z E),(strOf w)] h Q:=cJ rk Tryz.func13 (ai F)
theorem yU(E:Int)(v:OA)(B z:Nat)(y:OA)(x A:Nat)(w:LB)(u k m:Nat)(t:Nat->Nat->Nat->ae->Prop)(Q:VH)(step:∀(r:Nat) (s i:Nat) (D:Nat->Value) (h:ae),t r s i h->au (decide (((i:Int):Int)<(m:Int))) (FW SS 43 [(pA k),(strOf [])] h λp q=>yI .i64 p λo=>FW SS 45 [(.slice v B z),(iA i)] (room q 15) λl n=>yI .i64 l λj=>FW SS 45 [(.slice y x A),(iA i)] n λg h=>yI .i64 g λf=>fP 65 (pA k) 1 λe=>lS h e λd=>xA (bg SS.P 70 [(0,(.int .i64 j)),(1,(.int .i64 f)),(2,(strOf d)),(3,(.int .i64 o))]) λc=>FW SS 44 [(pA k),(iA s),(.agg ⟨c⟩)] h λa b=>a=(.tuple ⟨[]⟩)/\(aj SS.P 9 (room q 15) (.pointer (some e))=some (strOf d)/\dA 4 (strOf d) (strOf d)=true)/\(aj SS.P 9 n (.pointer (some e))=some (strOf d)/\dA 4 (strOf d) (strOf d)=true)/\aJ (qR (qc v B z y x A u k m) t) r [(.slice v B z),(.slice y x A),(pA u),(pA k),(.int .i64 o),(iA m),(.int .i64 (wrap .i64 ((i:Int)+1)))] b) (fP 65 (pA k) 0 λq=>fP 29 (.pointer (some q)) 3 λp=>lL 27 (room h 13) p λm n o=>fP 65 (pA k) 1 λl=>lS (room h 13) l λj=>iP 27 (.slice m n o) (iA s) λi=>fP 73 (.pointer (some i)) 0 λg=>xU (ah SS.P 9 (.pointer (some g)) (strOf j) (room h 13)) (room h 13) λ_ f=>FW SS 46 [(pA k)] f λd e=>∃c:LV,∃b:Int,d=(.tuple ⟨[(.agg ⟨c⟩),(.int .i64 b)]⟩)/\xU (ah SS.P 29 (pA u) (.agg ⟨c⟩) e) e λ_ a=>dX SS [((pA u),some 29),((.int .i64 b),none)] a Q))(r:Nat){s i:Nat}{h:ae}(C:t r s i h):LL SS rk [1,1,1,1,1,0,1,0,0] (qc v B z y x A u k m s i) h (KK SS rk [1,1,1,1,1,0,1,0] [] (EE SS rk Q)):=
 nB (qc v B z y x A u k m) t (λr s i D h C=>ai (step r s i D h C)) r C
noncomputable def oH:FD:=cF Tryz.f25 [([1,1,1,1,0,1,0,0],[4,7,8,25,26,27])]
abbrev lJ(b k s a n c:Nat)(i:Nat):LV:=[(pA b),(pA k),(iA s),(sA a n c),(iA n),(iA i)]
theorem Oh(x w:LV)(h:ae)(Q:VH)(y:xN (eV SS.P 29 (.agg ⟨x⟩)) h λ_ v=>xN (eV SS.P 29 (.agg ⟨w⟩)) v λ_ u=>xN (bq SS.P 29) u λ_ t=>lA 29 t (pA (h.next)) λs=>lA 29 t (pA (v.next)) λr=>FW SS 57 [(.agg ⟨s⟩),(.agg ⟨r⟩)] t λp q=>yI .i64 p λo=>au (((o:Int) !=0)) (xA (bg SS.P 29 []) λb=>xU (ah SS.P 29 (pA (u.next)) (.agg ⟨b⟩) q) q λ_ a=>dX SS [((pA (u.next)),some 29),((.int .i64 o),none)] a Q) (fP 29 (pA (h.next)) 0 λn=>lI q n λm=>FW SS 42 [(.int .i64 m)] q λk l=>yO k λj=>FW SS 43 [(.pointer j),(strOf [])] l λg i=>yI .i64 g λf=>lA 29 i (pA (h.next)) λe=>lA 29 i (pA (v.next)) λd=>xR (aF SS.P 86 2 [(0,(.agg ⟨e⟩)),(1,(.agg ⟨d⟩))]) i λ_ a b c=>LL SS oH [1,1,1,1,0,1,0,0] [(pA (u.next)),(.pointer j),(.int .i64 f),(sA (i.next) a b),(iA a),(.int .i64 0)] c (KK SS oH [1,1,1,1,0,1,0] [] (EE SS oH Q)))):FW SS 25 [(.agg ⟨x⟩),(.agg ⟨w⟩)] h Q:=cJ oH Tryz.func25 (ai y)
theorem wH(z y:LV)(u k s v n c:Nat)(t:Nat->Nat->ae->Prop)(Q:VH)(step:∀(r:Nat) (i:Nat) (x:Nat->Value) (h:ae),t r i h->au (decide (((i:Int):Int)<(n:Int))) (iP 86 (sA v n c) (iA i) λq=>lA 29 h (.pointer (some q)) λp=>xN (bq SS.P 29) h λ_ o=>xU (ah SS.P 29 (pA (h.next)) (.agg ⟨p⟩) o) o λ_ m=>fP 29 (pA (h.next)) 2 λl=>lS (room m 8) l λj=>lA 29 (room m 8) (pA (h.next)) λg=>FW SS 59 [(pA k),(.agg ⟨g⟩),(.func (.func 60) ⟨[]⟩ ⟨[]⟩)] (room m 8) λe f=>yI .i64 e λd=>FW SS 58 [(pA k),(iA s),(strOf j),(.int .i64 d)] f λa b=>a=(.tuple ⟨[]⟩)/\(aj SS.P 9 f (.pointer (some l))=some (strOf j)/\dA 4 (strOf j) (strOf j)=true)/\aJ (fj (lJ u k s v n c) t) r [(pA u),(pA k),(iA s),(sA v n c),(iA n),(.int .i64 (wrap .i64 ((i:Int)+1)))] b) (FW SS 46 [(pA k)] h λd e=>∃c:LV,∃b:Int,d=(.tuple ⟨[(.agg ⟨c⟩),(.int .i64 b)]⟩)/\xU (ah SS.P 29 (pA u) (.agg ⟨c⟩) e) e λ_ a=>dX SS [((pA u),some 29),((.int .i64 b),none)] a Q))(r:Nat){i:Nat}{h:ae}(w:t r i h):LL SS oH [1,1,1,1,0,1,0,0] (lJ u k s v n c i) h (KK SS oH [1,1,1,1,0,1,0] [] (EE SS oH Q)):=
 db (lJ u k s v n c) t (λr i x h w=>ai (step r i x h w)) r w
noncomputable def N9:FD:=cF Tryz.f31 []
theorem KW(H E:LV)(h:ae)(Q:VH)(R:xN (eV SS.P 29 (.agg ⟨H⟩)) h λ_ C=>xN (eV SS.P 29 (.agg ⟨E⟩)) C λ_ B=>xN (bq SS.P 29) B λ_ F=>lA 29 F (pA (h.next)) λL=>lA 29 F (pA (C.next)) λS=>FW SS 57 [(.agg ⟨L⟩),(.agg ⟨S⟩)] F λY D=>yI .i64 Y λI=>au (((I:Int) !=0)) (xA (bg SS.P 29 []) λb=>xU (ah SS.P 29 (pA (B.next)) (.agg ⟨b⟩) D) D λ_ a=>dX SS [((pA (B.next)),some 29),((.int .i64 I),none)] a Q) (fP 29 (pA (h.next)) 0 λK=>lI D K λZ=>FW SS 42 [(.int .i64 Z)] D λT G=>yO T λA=>fP 29 (pA (h.next)) 2 λM=>lS G M λW=>fP 29 (pA (C.next)) 2 λP=>lS G P λX=>FW SS 63 [(.pointer A),(strOf W),(strOf X)] G λU V=>yS U λN=>HJ SS.P A V λO J=>fP 65 O 0 λz=>fP 29 (.pointer (some z)) 2 λy=>xU (ah SS.P 9 (.pointer (some y)) (strOf N) J) J λ_ x=>lA 29 x (pA (C.next)) λw=>FW SS 59 [(.pointer A),(.agg ⟨w⟩),(.func (.func 60) ⟨[]⟩ ⟨[]⟩)] x λu v=>yI .i64 u λt=>lA 29 (room v 11) (pA (h.next)) λs=>FW SS 64 [(.pointer A),(.int .i64 t)] (room v 11) λq r=>yF q λn o p=>FW SS 59 [(.pointer A),(.agg ⟨s⟩),(.func (.func n) ⟨o⟩ ⟨p⟩)] r λl m=>yI .i64 l λk=>HJ SS.P A m λj _=>fP 65 j 0 λi=>fP 29 (.pointer (some i)) 1 λg=>xU (ah SS.P 3 (.pointer (some g)) (.int .i64 k) m) m λ_ f=>(aj SS.P 29 r (pA (h.next))=some (.agg ⟨s⟩)/\dA 4 (.agg ⟨s⟩) (.agg ⟨s⟩)=true)/\FW SS 46 [(.pointer A)] f λd e=>∃c:LV,∃b:Int,d=(.tuple ⟨[(.agg ⟨c⟩),(.int .i64 b)]⟩)/\xU (ah SS.P 29 (pA (B.next)) (.agg ⟨c⟩) e) e λ_ a=>dX SS [((pA (B.next)),some 29),((.int .i64 b),none)] a Q)):FW SS 31 [(.agg ⟨H⟩),(.agg ⟨E⟩)] h Q:=cJ N9 Tryz.func31 (ai R)
noncomputable def Wa:FD:=cF Tryz.f33 []
theorem RI(D:LV)(h:ae)(Q:VH)(I:xN (eV SS.P 29 (.agg ⟨D⟩)) h λ_ B=>xN (bq SS.P 29) B λ_ E=>lA 29 E (pA (h.next)) λM=>FW SS 66 [(.agg ⟨M⟩)] E λF C=>yB F λH=>au (!H) (xA (bg SS.P 29 []) λb=>xU (ah SS.P 29 (pA (B.next)) (.agg ⟨b⟩) C) C λ_ a=>dX SS [((pA (B.next)),some 29),((.int .i64 1),none)] a Q) (fP 29 (pA (h.next)) 0 λK=>lI C K λJ=>FW SS 42 [(.int .i64 J)] C λL G=>yO L λA=>HJ SS.P A G λy z=>fP 65 y 1 λx=>lS z x λw=>FW SS 43 [(.pointer A),(strOf w)] z λu v=>yI .i64 u λt=>fP 29 (pA (h.next)) 2 λs=>lS (room v 11) s λr=>lA 29 (room v 11) (pA (h.next)) λq=>FW SS 64 [(.pointer A),(.int .i64 t)] (room v 11) λo p=>yF o λl m n=>FW SS 59 [(.pointer A),(.agg ⟨q⟩),(.func (.func l) ⟨m⟩ ⟨n⟩)] p λj k=>yI .i64 j λi=>FW SS 58 [(.pointer A),(.int .i64 t),(strOf r),(.int .i64 i)] k λf g=>f=(.tuple ⟨[]⟩)/\(aj SS.P 9 p (.pointer (some s))=some (strOf r)/\dA 4 (strOf r) (strOf r)=true)/\(aj SS.P 9 k (.pointer (some s))=some (strOf r)/\dA 4 (strOf r) (strOf r)=true)/\(aj SS.P 29 p (pA (h.next))=some (.agg ⟨q⟩)/\dA 4 (.agg ⟨q⟩) (.agg ⟨q⟩)=true)/\FW SS 46 [(.pointer A)] g λd e=>∃c:LV,∃b:Int,d=(.tuple ⟨[(.agg ⟨c⟩),(.int .i64 b)]⟩)/\xU (ah SS.P 29 (pA (B.next)) (.agg ⟨c⟩) e) e λ_ a=>dX SS [((pA (B.next)),some 29),((.int .i64 b),none)] a Q)):FW SS 33 [(.agg ⟨D⟩)] h Q:=cJ Wa Tryz.func33 (ai I)
noncomputable def RH:FD:=cF Tryz.f37 []
theorem Ob(D:LV)(w:LB)(h:ae)(Q:VH)(L:xN (eV SS.P 29 (.agg ⟨D⟩)) h λ_ A=>xN (bq SS.P 29) A λ_ E=>lA 29 E (pA (h.next)) λR=>FW SS 66 [(.agg ⟨R⟩)] E λG C=>yB G λK=>au (!K) (xA (bg SS.P 29 []) λb=>xU (ah SS.P 29 (pA (A.next)) (.agg ⟨b⟩) C) C λ_ a=>dX SS [((pA (A.next)),some 29),((.int .i64 1),none)] a Q) (fP 29 (pA (h.next)) 0 λH=>lI C H λO=>FW SS 41 [(.int .i64 O),(strOf w)] C λP B=>yB P λN=>au (!N) (xA (bg SS.P 29 []) λb=>xU (ah SS.P 29 (pA (A.next)) (.agg ⟨b⟩) B) B λ_ a=>dX SS [((pA (A.next)),some 29),((.int .i64 1),none)] a Q) (fP 29 (pA (h.next)) 0 λM=>lI B M λI=>FW SS 42 [(.int .i64 I)] B λJ F=>yO J λz=>fP 29 (pA (h.next)) 2 λy=>lS F y λx=>FW SS 63 [(.pointer z),(strOf w),(strOf x)] F λu v=>yS u λt=>HJ SS.P z v λr s=>fP 65 r 0 λq=>fP 29 (.pointer (some q)) 2 λp=>xU (ah SS.P 9 (.pointer (some p)) (strOf t) s) s λ_ o=>lA 29 o (pA (h.next)) λn=>FW SS 59 [(.pointer z),(.agg ⟨n⟩),(.func (.func 60) ⟨[]⟩ ⟨[]⟩)] o λl m=>yI .i64 l λk=>HJ SS.P z m λi j=>fP 65 i 0 λh=>fP 29 (.pointer (some h)) 1 λg=>xU (ah SS.P 3 (.pointer (some g)) (.int .i64 k) j) j λ_ f=>FW SS 46 [(.pointer z)] f λd e=>∃c:LV,∃b:Int,d=(.tuple ⟨[(.agg ⟨c⟩),(.int .i64 b)]⟩)/\xU (ah SS.P 29 (pA (A.next)) (.agg ⟨c⟩) e) e λ_ a=>dX SS [((pA (A.next)),some 29),((.int .i64 b),none)] a Q))):FW SS 37 [(.agg ⟨D⟩),(strOf w)] h Q:=cJ RH Tryz.func37 (ai L)
noncomputable def fz:FD:=cF Tryz.f35 [([1,1,1,0,1,0,0],[1,2,3,6,8,33,34]),([1,1,1,1,0,1,0,0],[1,2,3,6,8,48,49])]
abbrev kM(n a:Int)(d c k:Nat)(b:Int)(i:Nat):LV:=[(.int .i64 n),(.int .i64 a),(pA d),(pA c),(pA k),(.int .i64 b),(iA i)]
abbrev kN(n a:Int)(c b k:Nat)(i:Nat):LV:=[(.int .i64 n),(.int .i64 a),(pA c),(pA b),(pA k),(.int .i64 a),(iA i)]
theorem KY(o:LV)(n m:Int)(h:ae)(Q:VH)(p:xN (eV SS.P 29 (.agg ⟨o⟩)) h λ_ l=>xN (bq SS.P 29) l λ_ k=>lA 29 k (pA (h.next)) λj=>FW SS 66 [(.agg ⟨j⟩)] k λg i=>yB g λf=>au (!f) (xA (bg SS.P 29 []) λb=>xU (ah SS.P 29 (pA (l.next)) (.agg ⟨b⟩) i) i λ_ a=>dX SS [((pA (l.next)),some 29),((.int .i64 1),none)] a Q) (au (decide ((n:Int)<0)) (xA (bg SS.P 29 []) λb=>xU (ah SS.P 29 (pA (l.next)) (.agg ⟨b⟩) i) i λ_ a=>dX SS [((pA (l.next)),some 29),((.int .i64 1),none)] a Q) (au (decide ((m:Int)<n)) (xA (bg SS.P 29 []) λb=>xU (ah SS.P 29 (pA (l.next)) (.agg ⟨b⟩) i) i λ_ a=>dX SS [((pA (l.next)),some 29),((.int .i64 1),none)] a Q) (au (decide ((m:Int)>30)) (xA (bg SS.P 29 []) λb=>xU (ah SS.P 29 (pA (l.next)) (.agg ⟨b⟩) i) i λ_ a=>dX SS [((pA (l.next)),some 29),((.int .i64 1),none)] a Q) (fP 29 (pA (h.next)) 0 λe=>lI i e λd=>FW SS 42 [(.int .i64 d)] i λb c=>yO b λa=>LL SS fz [1,1,1,0,1,0,0] [(.int .i64 n),(.int .i64 m),(pA (h.next)),(pA (l.next)),(.pointer a),(.int .i64 (wrap .i64 (m+1))),(.int .i64 0)] c (KK SS fz [1,1,1,0,1,0] [] (EE SS fz Q))))))):FW SS 35 [(.agg ⟨o⟩),(.int .i64 n),(.int .i64 m)] h Q:=cJ fz Tryz.func35 (ai p)
theorem vK(q:LV)(n e:Int)(m l k:Nat)(j:Int)(f:Nat->Nat->ae->Prop)(Q:VH)(step:∀(g:Nat) (i:Nat) (p:Nat->Value) (h:ae),f g i h->au (decide (((i:Int):Int)<j)) (au (decide (((i:Int):Int)>=n)) (fP 65 (pA k) 1 λd=>lS h d λc=>FW SS 43 [(pA k),(strOf c)] h λa b=>yI .i64 a λ_=>aJ (fj (kM n e m l k j) f) g [(.int .i64 n),(.int .i64 e),(pA m),(pA l),(pA k),(.int .i64 j),(.int .i64 (wrap .i64 ((i:Int)+1)))] b) (FW SS 43 [(pA k),(strOf [])] h λa b=>yI .i64 a λ_=>aJ (fj (kM n e m l k j) f) g [(.int .i64 n),(.int .i64 e),(pA m),(pA l),(pA k),(.int .i64 j),(.int .i64 (wrap .i64 ((i:Int)+1)))] b)) (LL SS fz [1,1,1,1,0,1,0,0] (kN n e m l k 0) h (KK SS fz [1,1,1,1,0,1,0] [] (EE SS fz Q))))(g:Nat){i:Nat}{h:ae}(o:f g i h):LL SS fz [1,1,1,0,1,0,0] (kM n e m l k j i) h (KK SS fz [1,1,1,0,1,0] [] (EE SS fz Q)):=
 db (kM n e m l k j) f (λg i p h o=>ai (step g i p h o)) g o
theorem vL(x:LV)(n q:Int)(t u k:Nat)(s:Nat->Nat->ae->Prop)(Q:VH)(step:∀(r:Nat) (i:Nat) (w:Nat->Value) (h:ae),s r i h->au (decide (((i:Int):Int)<q)) (fP 29 (pA t) 2 λp=>lS (room h 12) p λo=>lA 29 (room h 12) (pA t) λm=>FW SS 64 [(pA k),(.int .i64 (wrap .i64 ((i:Int)+1)))] (room h 12) λj l=>yF j λf g h=>FW SS 59 [(pA k),(.agg ⟨m⟩),(.func (.func f) ⟨g⟩ ⟨h⟩)] l λd e=>yI .i64 d λc=>FW SS 58 [(pA k),(iA i),(strOf o),(.int .i64 c)] e λa b=>a=(.tuple ⟨[]⟩)/\(aj SS.P 9 l (.pointer (some p))=some (strOf o)/\dA 4 (strOf o) (strOf o)=true)/\(aj SS.P 9 e (.pointer (some p))=some (strOf o)/\dA 4 (strOf o) (strOf o)=true)/\(aj SS.P 29 l (pA t)=some (.agg ⟨m⟩)/\dA 4 (.agg ⟨m⟩) (.agg ⟨m⟩)=true)/\aJ (fj (kN n q t u k) s) r [(.int .i64 n),(.int .i64 q),(pA t),(pA u),(pA k),(.int .i64 q),(.int .i64 (wrap .i64 ((i:Int)+1)))] b) (FW SS 46 [(pA k)] h λd e=>∃c:LV,∃b:Int,d=(.tuple ⟨[(.agg ⟨c⟩),(.int .i64 b)]⟩)/\xU (ah SS.P 29 (pA u) (.agg ⟨c⟩) e) e λ_ a=>dX SS [((pA u),some 29),((.int .i64 b),none)] a Q))(r:Nat){i:Nat}{h:ae}(v:s r i h):LL SS fz [1,1,1,1,0,1,0,0] (kN n q t u k i) h (KK SS fz [1,1,1,1,0,1,0] [] (EE SS fz Q)):=
 db (kN n q t u k) s (λr i w h v=>ai (step r i w h v)) r v
section
section
variable {hb g h:ae} {k:Nat} {kind start:Int} {lead:List UInt8} {bH:List dW}
theorem Rz(w:Wf hb)(b:BS hb g k kind start lead bH)(u:bH.length<=3000)(x:dc bH<=30000):FW SS 46 [pA k] g (A2 hb (⟨kind,start,lead,bH⟩,0)):=by
 obtain⟨a,n,c,r,q,f,p⟩:=b.ex;have s:n=bH.length:=by have:=p.st.len;rw[this,f]
 have h:=(Ok.refl b.ok.wf).push mG;have d:=h.ext _ _ q;have j:=aI g mG;have o:=pH QK N4 vt d (i:=0) (by simp[fp]);have m:=h.set (.cells (bT ⟨kind,start,lead,bH⟩ a n c) 29 0 true) (Nat.le_refl _) (h.wf _ _ j) b.ok.wf;have l:((g.push mG).set g.next (.cells (bT ⟨kind,start,lead,bH⟩ a n c) 29 0 true)).get g.next=some (.cells (bT ⟨kind,start,lead,bH⟩ a n c) 29 0 true):=by rw[ae.aw,if_pos rfl]
 refine Ry k g _ ⟨_,qy,_,ZM k,_,cq aci aaP d (i:=6) (by simp[fp]),aa (λe=>by cases e) (λ_=>⟨_,ka k,_,dy k,_,_,_,cq zC D5 d (i:=3) (by simp[fp]),aa (λe=>?_) (λ_=>⟨_,K9 k,_,cq Hz Gu d (i:=5) (by simp[fp]),aa (λe=>?_) (λ_=>⟨_,ka k,_,o,_,kQ (t:=29) vt (cs0:=[.int .i64 0,.int .i64 0,strOf [],.slice none 0 0]) rfl j (cs:=bT ⟨kind,start,lead,bH⟩ a n c) rfl (uh ..),?_⟩)⟩)⟩)⟩
 ·have:=dT e;omega
 ·have:=dT e;omega
 ·exact wR (v:= .agg ⟨bT ⟨kind,start,lead,bH⟩ a n c⟩) (pH QK N4 vt l (by simp[bT])) ⟨a,n,c,r,rfl,f,p.ok m,b.ok.trans m⟩
theorem Rw{c:Nat}{l:List Int}(r:cM h (.slice a n c) l)(i:Nat):FW SS 45 [.slice a n c,iA i] h (λv g=>v = .int .i64 (l.getD i 0)/\g=h):=by
 obtain rfl:=cM.len r;refine Zu a _ c i h _ (aa (λq=>?_) (λq=>⟨?_,rfl⟩))
 ·have d:i<l.length:=by have:=dT q;omega
  obtain⟨p,b,e⟩:=r.at_ d;exact⟨_,b,_,e,rfl,rfl⟩
 ·have:l.length<=i:=by have:=dF q;omega
  rw[gD,List.getElem?_eq_none this];rfl
theorem MT(s:Int):FW SS 51 [.int .i64 s] h (λv g=>v = .bool (qL s)/\g=h):=by
 unfold qL;refine Wb s h _ (aa (λq=>⟨?_,rfl⟩) (λq=>⟨?_,rfl⟩))
 ·have:=dT q;rw[decide_eq_true (show 1<=s by omega),Bool.true_and]
 ·have:=dF q;rw[decide_eq_false (show ¬1<=s by omega),Bool.false_and]
theorem Ol(s:Int):FW SS 68 [.int .i64 s] h (λv g=>v = .bool (!qL s)/\g=h):=by
 refine Oj s h _ ((MT s).mono ?_);rintro _ g ⟨rfl,rfl⟩;exact⟨_,rfl,rfl,rfl⟩
theorem RD(s:Int):FW SS 50 [.int .i64 s] h (λv g=>v = .bool (!qL s)/\g=h):=by
 refine RC s h _ ((MT s).mono ?_);rintro _ g ⟨rfl,rfl⟩;exact⟨_,rfl,rfl,rfl⟩
theorem Sd{c:Nat}{l:List Int}(r:cM h (.slice a n c) l)(t:l.length<=1000000):FW SS 49 [.slice a n c,.func (.func 68) ⟨[]⟩ ⟨[]⟩] h (λv g=>v = .bool (!l.all qL)/\g=h):=by
 obtain rfl:=cM.len r;refine OC a _ c h _ (SL a _ c h _ ?_);refine zl a _ c (λj i g=>i<=l.length/\j=l.length-i/\g=h/\(l.drop i).all qL=l.all qL) _ (λj i=>?_) l.length (i:=0) ⟨by omega,rfl,rfl,by rw[drop_zero]⟩;intros;rename_i g f;obtain⟨w,u,rfl,b⟩:=f;refine aa (λq=>?_) (λq=>?_)
 ·have e:i<l.length:=by have:=dT q;omega
  obtain⟨p,k,o⟩:=r.at_ e;rw[Bi e,all_cons]at b;refine⟨_,k,_,o,(Ol _).mono ?_⟩;rintro _ m ⟨rfl,s⟩;obtain rfl:g=m:=s.symm;refine⟨_,rfl,aa (λd=>⟨_,rfl,?_,rfl⟩) (λd=>?_)⟩
  ·rw[not_eq_true']at d;rw[<-b,d,Bool.false_and,decide_eq_true (show(i:Int)>=0 by omega)];rfl
  ·rw[not_eq_false']at d;rw[d,Bool.true_and]at b;rw[aO e (by omega)];exact bW (l.length-(i+1)) (by omega) ⟨by omega,rfl,rfl,b⟩
 ·obtain rfl:i=l.length:=by have:=dF q;omega
  rw[drop_length]at b;exact⟨_,rfl,by rw[<-b];rfl,rfl⟩
theorem Sc{c:Nat}{l:List Int}(r:cM h (.slice a n c) l)(t:l.length<=1000000):FW SS 49 [.slice a n c,.func (.func 50) ⟨[]⟩ ⟨[]⟩] h (λv g=>v = .bool (!l.all qL)/\g=h):=by
 obtain rfl:=cM.len r;refine OB a _ c h _ (SK a _ c h _ ?_);refine zk a _ c (λj i g=>i<=l.length/\j=l.length-i/\g=h/\(l.drop i).all qL=l.all qL) _ (λj i=>?_) l.length (i:=0) ⟨by omega,rfl,rfl,by rw[drop_zero]⟩;intros;rename_i g f;obtain⟨w,u,rfl,b⟩:=f;refine aa (λq=>?_) (λq=>?_)
 ·have e:i<l.length:=by have:=dT q;omega
  obtain⟨p,k,o⟩:=r.at_ e;rw[Bi e,all_cons]at b;refine⟨_,k,_,o,(RD _).mono ?_⟩;rintro _ m ⟨rfl,s⟩;obtain rfl:g=m:=s.symm;refine⟨_,rfl,aa (λd=>⟨_,rfl,?_,rfl⟩) (λd=>?_)⟩
  ·rw[not_eq_true']at d;rw[<-b,d,Bool.false_and,decide_eq_true (show(i:Int)>=0 by omega)];rfl
  ·rw[not_eq_false']at d;rw[d,Bool.true_and]at b;rw[aO e (by omega)];exact bW (l.length-(i+1)) (by omega) ⟨by omega,rfl,rfl,b⟩
 ·obtain rfl:i=l.length:=by have:=dF q;omega
  rw[drop_length]at b;exact⟨_,rfl,by rw[<-b];rfl,rfl⟩
theorem ET{c:Nat}(r:cM h (.slice a n c) p):FW SS 40 [.slice a n c] h (λv g=>v = .bool (dn p)/\g=h):=by
 obtain rfl:=cM.len r;unfold dn;refine Om a _ c h _ (aa (λq=>(Sd r (by have:=dT q;omega)).mono ?_) (λq=>⟨?_,rfl⟩))
 ·rintro _ g ⟨rfl,rfl⟩;refine⟨_,rfl,?_,rfl⟩;have:=dT q;rw[decide_eq_true (show p.length<=200 by omega),Bool.true_and,Bool.not_not]
 ·have:=dF q;rw[decide_eq_false (show ¬p.length<=200 by omega),Bool.false_and]
def zK(A B:bC):Int:=if(cI A&&cI B)=true then(if A.kind=B.kind then 0 else 6)else 1
theorem MU{B:bC}{x:Option Addr}{z:Nat}(w:Wf h)(r:nz h)(u:Small M)(D:Small B)(A:ei h (.slice x n z) M.af)(t:ei h (.slice a m i) B.af):FW SS 57 [.agg ⟨bT M x n z⟩,.agg ⟨bT B a m i⟩] h (λv g=>v = .int .i64 (zK M B)/\Ok h g):=by
 obtain⟨C,k⟩:=fQ w A;obtain⟨y,s⟩:=fQ k.wf (t.ok k);have p:=k.trans s;have j:=C.ok s;refine Wc _ _ h _ ⟨_,jU M x n z,_,jU B a m i,_,j.all,(qD (r.ok p) p.wf u j.row).mono ?_⟩;generalize (h.push (Bm M x n z)).push (Bm B a m i)=E at*;rintro _ G ⟨rfl,o⟩;have d:=p.trans o;have e:=y.ok o;unfold zK;refine⟨_,rfl,aa (λq=>⟨?_,d⟩) (λq=>⟨_,e.all,(qD (r.ok d) d.wf D e.row).mono ?_⟩)⟩
 ·rw[not_eq_true']at q;rw[q];rfl
 rw[not_eq_false']at q;rintro _ F ⟨rfl,l⟩;have f:=d.trans l;refine⟨_,rfl,aa (λc=>⟨?_,f⟩) (λc=>⟨_,dY _,_,((j.ok o).ok l).l0,_,dY _,_,(e.ok l).l0,aa (λb=>⟨?_,f⟩) (λb=>⟨?_,f⟩)⟩)⟩
 ·rw[not_eq_true']at c;rw[q,c];rfl
 ·rw[not_eq_false']at c;have b:M.kind≠B.kind:=by simpa using b
  rw[q,c,if_pos (show(true&&true)=true from rfl),if_neg b]
 ·rw[not_eq_false']at c;have b:M.kind=B.kind:=by simpa using b
  rw[q,c,if_pos (show(true&&true)=true from rfl),if_pos b]
end
end
variable{j:Nat}{l:Nat}{t:List UInt8}
section
section
variable {hb g h:ae} {k:Nat} {kind start:Int} {lead:List UInt8} {bH:List dW}
theorem BU.Ht(w:Wf hb)(b:BU hb g k kind start lead bH n)(l:List UInt8):∃u:dJ,ah SS.P 9 (.pointer (some ⟨k,2,none⟩)) (strOf l) g=some (undef,u)/\BU hb (u.app g) k kind start l bH n/\Kp g (u.app g):=by
 obtain⟨a,t,c,p,f,h,q⟩:=b.ex;refine⟨_,jD zs9 f (i:=2) (by simp[fp]) rfl rfl,⟨⟨a,t,c,p,?_,h,q.other f (by omega) (by omega) _⟩,b.ok.set _ b.nk (b.ok.wf _ _ f) w,b.nk⟩,Nat.le_refl _,λj cs e z s d m _ _=>?_⟩
 ·show(g.set k _).get k=_;rw[ae.aw,if_pos rfl];rfl
 ·show(g.set k _).get j=_;rw[ae.aw,if_neg (λc=>by
   rw[c,f]at d;injection d with d
   injection d with _ r o
   exact m ⟨r.symm,o.symm⟩)]
  exact d
theorem BU.J3(w:Wf hb)(b:BU hb g k kind start lead bH n)(z:Int):∃u:dJ,ah SS.P 3 (.pointer (some ⟨k,1,none⟩)) (.int .i64 z) g=some (undef,u)/\BU hb (u.app g) k kind z lead bH n/\Kp g (u.app g):=by
 obtain⟨a,s,c,o,f,h,p⟩:=b.ex;refine⟨_,jD zs3 f (i:=1) (by simp[fp]) rfl rfl,⟨⟨a,s,c,o,?_,h,p.other f (by omega) (by omega) _⟩,b.ok.set _ b.nk (b.ok.wf _ _ f) w,b.nk⟩,Nat.le_refl _,λj cs e z r d l _ _=>?_⟩
 ·show(g.set k _).get k=_;rw[ae.aw,if_pos rfl];rfl
 ·show(g.set k _).get j=_;rw[ae.aw,if_neg (λc=>by
   rw[c,f]at d;injection d with d
   injection d with _ q m
   exact l ⟨q.symm,m.symm⟩)]
  exact d
theorem BU.one(b:BU hb g k kind start lead bH n):aj SS.P 9 g (.pointer (some ⟨k,4,none⟩))=some (strOf (da kind)):=by
 obtain⟨a,j,c,f,d,e,h⟩:=b.ex;exact cq Kv QY d (i:=4) (by simp[fp])
theorem ib(w:Wf h)(o:Ok h g)(i:g.get m=some mG)(b:h.next<=m)(e:Int):
  xA (bg SS.P 29 []) λc=>xU (ah SS.P 29 (pA m) (.agg ⟨c⟩) g) g λu d=>dX SS [(pA m,some 29),(.int .i64 e,none)] d (A2 h (tP,e)):=by
 obtain⟨u,j,f⟩:=Nv w o i b (R:=(tP,e)) (a:=none) (n:=0) (c:=0) (ps:=[]) rfl (jY.nil g g) o (.inr ⟨rfl,rfl,rfl,rfl⟩);exact⟨_,Zz,u,j,f⟩
theorem oO(w:Wf h)(j:Wf hb)(b:BS hb g k kind start lead bH)(o:bH.length<=3000)(r:dc bH<=30000)(m:Ok h hb)(l:hb.get n=some mG)(t:h.next<=n):
  FW SS 46 [pA k] g λv d=>∃cs:LV,∃q:Int,v=(.tuple ⟨[(.agg ⟨cs⟩),(.int .i64 q)]⟩)/\xU (ah SS.P 29 (pA n) (.agg ⟨cs⟩) d) d λu f=>dX SS [(pA n,some 29),(.int .i64 q,none)] f (A2 h (⟨kind,start,lead,bH⟩,0)):=by
 refine(Rz j b o r).mono ?_;rintro _ f ⟨a,q,c,y,rfl,i,x,e⟩;obtain⟨u,s,p⟩:=Nv w (m.trans e) (e.ext _ _ l) t (R:=(⟨kind,start,lead,bH⟩,0)) i x m (.inl (j _ _ l));exact⟨_,_,rfl,u,s,p⟩
end
def mD(kind:Int)(a b:List Int)(m:Nat):List dW:=(List.range m).map λi=>⟨[],[⟨a.getD i 0,b.getD i 0,da kind,((i+1:Nat):Int)⟩]⟩
def jd(kind:Int)(a b:List Int)(c:List UInt8):bC:=⟨kind,0,c,mD kind a b (max a.length b.length)++[⟨da kind,[]⟩]⟩
def qN(kind:Int)(b c:List Int)(a:List UInt8):bC×Int:=if(dn b&&(dn c&&bj kind a))=true then(jd kind b c a,0)else(tP,1)
theorem kI(kind:Int)(a b:List Int)(m:Nat):(mD kind a b m).length=m:=by unfold mD;simp
theorem F2(kind:Int)(a b:List Int)(m:Nat):mD kind a b (m+1)=mD kind a b m++[⟨[],[⟨a.getD m 0,b.getD m 0,da kind,((m+1:Nat):Int)⟩]⟩]:=by
 unfold mD;rw[range_succ,map_append];rfl
theorem yj(kind:Int)(a b:List Int):∀m,dc (mD kind a b m)=m
 |0=>rfl
 |m+1=>by rw[F2,dR,yj kind a b m];rfl
theorem YF(i o:Int)(w:List UInt8)(t:Int):bg SS.P 70 [(0,.int .i64 i),(1,.int .i64 o),(2,strOf w),(3,.int .i64 t)]=some (.agg ⟨gn ⟨i,o,w,t⟩⟩):=by kernel_rfl
theorem kJ(h:dn p=true):p.length<=200:=by
 unfold dn at h;rw[and_eq_true]at h;exact dT h.1
theorem wI{h:ae}{kind:Int}{G I:Option Addr}{d f:List Int}(w:Wf h)(tb:nz h)(S:cM h (.slice G n m) d)(W:cM h (.slice I j l) f)(hl:t.length<=1000000000):
  FW SS 13 [.int .i64 kind,.slice G n m,.slice I j l,strOf t] h (A2 h (qN kind d f t)):=by
 obtain rfl:=cM.len S;obtain rfl:=cM.len W;have v:=(Ok.refl w).push mG;have V:=aI h mG;have nb:h.next<(h.push mG).next:=lt_succ_self _;refine RO kind G _ m I _ l t h _ ⟨_,qy,?_⟩;generalize h.push mG=g1 at*;refine(ET (cM.ok S v)).mono ?_;rintro _ z ⟨rfl,e2⟩;obtain rfl:g1=z:=e2.symm;unfold qN;refine⟨_,rfl,aa (λq=>?_) (λq=>(ET (cM.ok W v)).mono ?_)⟩
 ·rw[not_eq_true']at q;rw[q,if_neg (show ¬(false&&(dn f&&bj kind t))=true by simp)];exact ib w v V (Nat.le_refl _) 1
 rw[not_eq_false']at q;rintro _ z ⟨rfl,e2⟩;obtain rfl:g1=z:=e2.symm;refine⟨_,rfl,aa (λA=>?_) (λA=>(lX kind t hl (tb.ok v) v.wf).mono ?_)⟩
 ·rw[not_eq_true']at A;rw[A,if_neg (show ¬(dn d&&(false&&bj kind t))=true by simp)];exact ib w v V (Nat.le_refl _) 1
 rw[not_eq_false']at A;rintro _ z ⟨rfl,r⟩;have C:=v.trans r;have O:=r.ext _ _ V;refine⟨_,rfl,aa (λB=>?_) (λB=>(mh kind r.wf).mono ?_)⟩
 ·rw[not_eq_true']at B;rw[B,if_neg (show ¬(dn d&&(dn f&&false))=true by simp)];exact ib w C O (Nat.le_refl _) 1
 rw[not_eq_false']at B;rw[q,A,B,if_pos (show(true&&(true&&true))=true from rfl)];have lx:=kJ q;have ly:=kJ A;rintro _ g3 ⟨k,rfl,b3⟩;obtain⟨u,st,b4,_⟩:=b3.Ht r.wf t;refine⟨_,rfl,lq ⟨_,ka k,_,nr k,u,st,(ic r.wf b4 (by simp) []).mono ?_⟩⟩;rintro _ g5 ⟨rfl,b5,_⟩;have hm:(if(f.length:Int)>(d.length:Int)then(f.length:Int)else(d.length:Int))=((max d.length f.length:Nat):Int):=by
  split<;>omega
 refine⟨_,rfl,_,qE _ _ _,?_⟩;rw[hm];obtain⟨F,P⟩:∃F,F=max d.length f.length:=⟨_,rfl⟩
 have x7:F<=200:=by omega
 rw[<-P];refine yU kind G _ m I _ l t h.next k F (λmz s i g=>i<=F/\mz=F-i/\s=i/\BS z g k kind 0 t (mD kind d f i++[⟨[],[]⟩])) _ (λmz s i=>?_) F (s:=0) (i:=0) ⟨by omega,rfl,rfl,b5⟩;intros;rename_i g x3;obtain⟨f1,f2,rfl,b⟩:=x3;have D:=Bn (mD kind d f s) (⟨[],[]⟩:dW) [] (kI kind d f s);refine aa (λp=>?_) (λp=>?_)
 ·have hi:s<F:=by have:=dT p;omega
  refine(ic r.wf b (by rw[length_append,kI];simp;omega) []).mono ?_;rintro _ g6 ⟨rfl,b6,_⟩;have or:=(Ok.refl b6.ok.wf).room 15;have o:=b6.ui or;have M:=C.trans o.ok;refine⟨_,rfl,(Rw (cM.ok S M) s).mono ?_⟩;rintro _ T ⟨rfl,e7⟩;obtain rfl:Go.Ab.room g6 15=T:=e7.symm;refine⟨_,rfl,(Rw (cM.ok W M) s).mono ?_⟩;rintro _ T ⟨rfl,e7⟩;obtain rfl:Go.Ab.room g6 15=T:=e7.symm;have R:(mD kind d f s++[(⟨[],[]⟩:dW)]).length=s+1:=by rw[length_append,kI];rfl
  rw[R];have J:(mD kind d f s++[(⟨[],[]⟩:dW)]++[(⟨[],[]⟩:dW)])[s]?=some (⟨[],[]⟩:dW):=by
   rw[append_assoc];exact Bn (mD kind d f s) (⟨[],[]⟩:dW) [⟨[],[]⟩] (kI kind d f s)
  have y:(mD kind d f s++[(⟨[],[]⟩:dW)]++[(⟨[],[]⟩:dW)]).set s (⟨[],[]++[⟨d.getD s 0,f.getD s 0,da kind,((s+1:Nat):Int)⟩]⟩:dW)=mD kind d f (s+1)++[⟨[],[]⟩]:=by
   rw[append_assoc,F2,append_assoc];exact uy (mD kind d f s) (⟨[],[]⟩:dW) _ [⟨[],[]⟩] (kI kind d f s)
  have x0:dc (mD kind d f s++[(⟨[],[]⟩:dW)]++[(⟨[],[]⟩:dW)])<=100000:=by
   rw[dR,dR,yj];show s+0+0<=_;omega
  refine⟨_,rfl,_,zg k,_,o.one,_,YF _ _ _ _,(wK r.wf o J x0 _).mono ?_⟩;rintro _ g8 ⟨rfl,H,_⟩;rw[y]at H;rw[aO hi (by omega)];exact⟨rfl,⟨o.one,kF _⟩,⟨o.one,kF _⟩,iT (F-(s+1)) (by omega) ⟨by omega,rfl,rfl,H⟩⟩
 ·obtain rfl:s=F:=by have:=dF p;omega
  have o:=b.ui ((Ok.refl b.ok.wf).room 13);obtain⟨a,y2,c,Z,Y,N,K⟩:=o.ex;obtain⟨pp,hp,x5⟩:∃p,Z[s]?=some p/\p.1=⟨[],[]⟩:=by
   rw[<-N,getElem?_map]at D;exact map_eq_some_iff.1 D
  have X:0<(Z.map AE).length:=by have:=(List.getElem?_eq_some_iff.1 hp).1;rw[lM];omega
  obtain⟨kr,x9,cr,Q,y0⟩:=K.row.blk X;injection Q with Q en ec
  subst Q en ec;obtain⟨i1,_,_⟩:=K.at_ hp;obtain⟨uu,x2,x4,x1,x6,x8⟩:=K.ab4 r.wf o.ok hp (da kind);obtain⟨y1,U⟩:=nQ K.row (k:=kr) rfl;have L:=x6 _ _ Y (λe=>jZ U Y (by decide) e);have y:(Z.set s (⟨da kind,pp.1.arcs⟩,pp.2)).map (·.1)=mD kind d f s++[⟨da kind,[]⟩]:=by
   rw[map_set,N,x5];exact uy (mD kind d f s) (⟨[],[]⟩:dW) _ [] (kI kind d f s)
  have E:∀x:dW,x.arcs=[]->dc (mD kind d f s++[x])=s:=λx hx=>by
   rw[dR,yj,dS,hx];rfl
  have H:BS z (uu.app (Go.Ab.room g 13)) k kind 0 t (mD kind d f s++[⟨da kind,[]⟩]):=by
   refine⟨⟨_,_,_,_,?_,y,x4⟩,x1,o.nk⟩;rw[E _ rfl];rw[E _ rfl]at L;exact L
  refine⟨_,ka k,_,dy k,_,_,_,cq zC D5 Y (i:=3) (by simp[fp]),_,zg k,_,o.one,_,i1,_,oK _ _,uu,x2,?_⟩;have e:jd kind d f t=⟨kind,0,t,mD kind d f s++[⟨da kind,[]⟩]⟩:=by unfold jd;rw[<-P]
  rw[e];exact oO w r.wf H (by rw[length_append,kI];simp;omega) (by rw[E _ rfl];omega) C O (Nat.le_refl _)
end
section
structure aaH(M:bC):Prop where
 n:M.af.length<=300
 s:dc M.af<=2000
 start:0<=M.start/\M.start<M.af.length
 to:∀s∈M.af,∀a∈s.arcs,0<=a.t/\a.t<M.af.length
theorem rA(c:Small M)(h:cI M=true):aaH M:=by
 have b:=zp h;exact⟨c.bH,c.tot,b.start,λs d a e=>(b.arc s d a e).2⟩
theorem l7.kA(k:Nat)(g:ae):l7 k none 60 [] [] g:=⟨rfl,rfl,rfl⟩
theorem Dy{x:Option Addr}{y z:Nat}(r:ei g (.slice x y z) M.af):dA 4 (.agg ⟨bT M x y z⟩) (.agg ⟨bT M x y z⟩)=true:=by
 obtain⟨t,d,l,q,m⟩:=r;have:∀{e i:Nat}{j:List (List Value)},HL g e i (.slice x y z) j->dA 3 (.slice x y z) (.slice x y z)=true:=by
  intro e i j h;obtain⟨_,⟨d|d,_⟩|⟨k,o,cs,p,z',c,s,d,_⟩⟩:=h
  ·injection d with a b c;subst a b c;simp[dA]
  ·exact absurd d m
  ·injection d with a b c;subst a b c;simp[dA]
 have h:=this l;have e:dA 4 (.agg ⟨bT M x y z⟩) (.agg ⟨bT M x y z⟩)=(dA 3 (.int .i64 M.kind) (.int .i64 M.kind)&&(dA 3 (.int .i64 M.start) (.int .i64 M.start)&&(dA 3 (strOf M.lead) (strOf M.lead)&&(dA 3 (.slice x y z) (.slice x y z)&&true)))):=rfl;have f:∀a:Int,dA 3 (.int .i64 a) (.int .i64 a)=true:=λa=>by simp[dA]
 have n:dA 3 (strOf M.lead) (strOf M.lead)=true:=by simp[dA,strOf]
 rw[e,f,f,n,h];rfl
def qp(X:bC):List dW->List dW
 |[]=>[]
 |a::r=>⟨a.f,a.arcs++[⟨0,0,X.lead,((r.length+1:Nat):Int)+X.start⟩]⟩::(r++X.af.map (pv (r.length+1) none))
def U2(A B:bC):bC:=⟨A.kind,0,da A.kind,qp B (qp A [⟨[],[]⟩])⟩
def HA(A B:bC):bC×Int:=if zK A B=0 then(U2 A B,0)else(tP,zK A B)
theorem Kh(X:bC)(a:List dW)(h:a≠[]):(qp X a).length=a.length+X.af.length/\dc (qp X a)<=dc a+dc X.af+X.af.length+1/\qp X a≠[]:=by
 cases a with
 |nil=>exact absurd rfl h
 |cons b r=>
  have:=mO (r.length+1) none X.af;refine⟨by unfold qp;simp;omega,?_,by unfold qp;simp⟩;unfold qp;rw[dS,dR,dS];simp only[length_append,List.length_singleton];omega
theorem acR(A B:bC)(x x':Option Addr)(y z y' z':Nat):aF SS.P 86 2 [(0,.agg ⟨bT A x y z⟩),(1,.agg ⟨bT B x' y' z'⟩)]=some (.cells (bT A x y z++bT B x' y' z') 29 4 true,my 2 2):=by cases x<;>cases x'<;>kernel_rfl
theorem ZT(k:Nat):aA SS.P 86 (sA k 2 2) (iA 0)=some (.pointer (some ⟨k,0,none⟩)):=by kernel_rfl
theorem ZU(k:Nat):aA SS.P 86 (sA k 2 2) (iA 1)=some (.pointer (some ⟨k,4,none⟩)):=by kernel_rfl
theorem MW{A B:bC}(h:zK A B=0):cI A=true/\cI B=true/\A.kind=B.kind:=by
 unfold zK at h;split at h
 ·next c=>
  rw[and_eq_true]at c;split at h
  ·next e=>exact⟨c.1,c.2,e⟩
  ·cases h
 ·cases h
section
variable {h:ae} {A B:bC} {x x':Option Addr} {y z y' z':Nat}
theorem Oi(w:Wf h)(tb:nz h)(sa:Small A)(sb:Small B)(ra:ei h (.slice x y z) A.af)(rb:ei h (.slice x' y' z') B.af):FW SS 25 [.agg ⟨bT A x y z⟩,.agg ⟨bT B x' y' z'⟩] h (A2 h (HA A B)):=by
 obtain⟨ma,H⟩:=fQ w ra;obtain⟨mb,M⟩:=fQ H.wf (rb.ok H);have n3:h.next<=((h.push (Bm A x y z)).push (Bm B x' y' z')).next:=(H.trans M).nx;have o3:=(Ok.refl M.wf).push mG;have kb:=aI ((h.push (Bm A x y z)).push (Bm B x' y' z')) mG;have ok:=(H.trans M).trans o3;have G:=(ma.ok M).ok o3;have F:=mb.ok o3;refine Oh _ _ h _ ⟨_,jU A x y z,_,jU B x' y' z',_,qy,_,G.all,_,F.all,(MU ok.wf (tb.ok ok) sa sb G.row F.row).mono ?_⟩;generalize y9:(h.push (Bm A x y z)).next=k2 at*;generalize ((h.push (Bm A x y z)).push (Bm B x' y' z')).next=kr at*;generalize (((h.push (Bm A x y z)).push (Bm B x' y' z')).push mG)=g3 at*;rintro _ K ⟨rfl,c⟩;have S:=ok.trans c;have E:=G.ok c;have V:=F.ok c;have N:=c.ext _ _ kb;unfold HA;refine⟨_,rfl,aa (λq=>?_) (λq=>⟨_,dY _,_,E.l0,(mh A.kind c.wf).mono ?_⟩)⟩
 ·have q:zK A B≠0:=by simpa using q
  rw[if_neg q];exact ib w S N n3 _
 have q:zK A B=0:=by simpa using q
 rw[if_pos q];obtain⟨vA,vB,y8⟩:=MW q;have Z:=rA sa vA;have cB:=rA sb vB;rintro _ g5 ⟨k,rfl,b5⟩;refine⟨_,rfl,(ic c.wf b5 (by simp) []).mono ?_⟩;rintro _ g6 ⟨rfl,J,z3⟩;have x4:=E.ok J.ok;have y7:=V.ok J.ok;have o7:=(Ok.refl J.ok.wf).push (.cells (bT A x y z++bT B x' y' z') 29 4 true);have b7:=J.ui o7;have x5:=aI g6 (.cells (bT A x y z++bT B x' y' z') 29 4 true);refine⟨_,rfl,_,x4.all,_,y7.all,_,_,_,acR A B x x' y z y' z',?_⟩;generalize g6.push (.cells (bT A x y z++bT B x' y' z') 29 4 true)=g7 at*;generalize g6.next=W at*;have hU:∀i,∃U:List dW,(i=0->U=[⟨[],[]⟩])/\(i=1->U=qp A [⟨[],[]⟩])/\(i=2->U=qp B (qp A [⟨[],[]⟩])):=λi=>by
  by_cases h0:i=0
  ·exact⟨_,λ_=>rfl,λe=>by omega,λe=>by omega⟩
  by_cases h1:i=1
  ·exact⟨_,λe=>by omega,λ_=>rfl,λe=>by omega⟩
  ·exact⟨_,λe=>by omega,λe=>by omega,λ_=>rfl⟩
 obtain⟨O,z4,x6⟩:=Kh A [⟨[],[]⟩] (by simp);obtain⟨x7,z0,z5⟩:=Kh B _ x6;have y5:dc ([⟨[],[]⟩]:List dW)=0:=rfl;have:=Z.n;have:=cB.n;have:=Z.s;have:=cB.s;refine wH (bT A x y z) (bT B x' y' z') kr k 0 W 2 2 (λv i g=>i<=2/\v=2-i/\(∃a r,BS K g k A.kind 0 (da A.kind) (a::r)/\(i=0->a::r=[⟨[],[]⟩])/\(i=1->a::r=qp A [⟨[],[]⟩])/\(i=2->a::r=qp B (qp A [⟨[],[]⟩])))/\Kp g7 g) _ (λv i=>?_) 2 (i:=0) ⟨by omega,rfl,⟨⟨[],[]⟩,[],b7,λ_=>rfl,λe=>by omega,λe=>by omega⟩,Kp.refl _⟩;intros;rename_i g x3;obtain⟨f1,f2,⟨a,r,b,u0,u1,u2⟩,kp⟩:=x3;refine aa (λp=>?_) (λp=>?_)
 ·have hi:i=0\/i=1:=by have:=dT p;omega
  have kl:=kp.2 _ _ _ _ _ x5 (by decide) (by decide) (by decide);have step:∀(X:bC)(f:Option Addr)(l j:Nat),ei K (.slice f l j) X.af->aaH X->(a::r).length<=1000->dc (a::r)<=10000->(∀o u,o::u=qp X (a::r)->(i+1=0->o::u=[⟨[],[]⟩])/\(i+1=1->o::u=qp A [⟨[],[]⟩])/\(i+1=2->o::u=qp B (qp A [⟨[],[]⟩])))->
    xN (bq SS.P 29) g λz7 P=>xU (ah SS.P 29 (pA (g.next)) (.agg ⟨bT X f l j⟩) P) P λz2 D=>xP (aD SS.P 29 (pA (g.next)) 2) λR=>xS (aj SS.P 9 (room D 8) (.pointer (some R))) λm=>xA (aj SS.P 29 (room D 8) (pA (g.next))) λx8=>FW SS 59 [(pA k),(.agg ⟨x8⟩),(.func (.func 60) ⟨[]⟩ ⟨[]⟩)] (room D 8) λy3 T=>yI .i64 y3 λy0=>FW SS 58 [(pA k),(iA 0),(strOf m),(.int .i64 y0)] T λy1 y6=>y1=(.tuple ⟨[]⟩)/\(aj SS.P 9 T (.pointer (some R))=some (strOf m)/\dA 4 (strOf m) (strOf m)=true)/\aJ (fj (lJ kr k 0 W 2 2) (λv i g=>i<=2/\v=2-i/\(∃a r,BS K g k A.kind 0 (da A.kind) (a::r)/\(i=0->a::r=[⟨[],[]⟩])/\(i=1->a::r=qp A [⟨[],[]⟩])/\(i=2->a::r=qp B (qp A [⟨[],[]⟩])))/\Kp g7 g)) v [(pA kr),(pA k),(iA 0),(sA W 2 2),(iA 2),(.int .i64 (wrap .i64 ((i:Int)+1)))] y6:=by
   intro X f l j rX L hl hs I;obtain⟨o8,k8⟩:=oZ (t:=29) (cs:=bT X f l j) b.ok.wf ((Ok.refl b.ok.wf).push mG) (aI g mG) (Nat.le_refl _);have b8:=b.ui o8;have z1:=k8;refine⟨_,qy,_,kQ (t:=29) vt (cs0:=[.int .i64 0,.int .i64 0,strOf [],.slice none 0 0]) rfl (aI g mG) (cs:=bT X f l j) rfl (uh ..),?_⟩;generalize (dJ.set g.next (.cells (bT X f l j) 29 0 true)).app (g.push mG)=g8 at*;have or:=(Ok.refl b8.ok.wf).room 8;have b9:=b8.ui or;have Y:MB (Go.Ab.room g8 8) g.next X f l j:=⟨k8,rX.ok b9.ok⟩
   have:=L.n;have:=L.s;refine⟨_,nr _,_,Y.l2,_,Y.all,(qA c.wf b9 rX (l7.kA k _) (by omega) (by omega) L.start L.to).mono ?_⟩;rintro _ y2 ⟨rfl,Q,C⟩;have x1:MB y2 g.next X f l j:=⟨C.2 _ _ _ _ _ Y.box (by decide) (by decide) (by decide),rX.ok Q.ok⟩
   have z6:=mO (a::r).length none X.af;refine⟨_,rfl,(Be c.wf Q (s:=0) (t:=a) rfl (by rw[dR];omega) X.lead (((a::r).length:Int)+X.start)).mono ?_⟩;rintro _ x9 ⟨rfl,x2,x0⟩;rw[aO (i:=i) (n:=2) (by omega) (by omega)];have y4:BS K x9 k A.kind 0 (da A.kind) (⟨a.f,a.arcs++[⟨0,0,X.lead,((r.length+1:Nat):Int)+X.start⟩]⟩::(r++X.af.map (pv (r.length+1) none))):=x2;refine⟨rfl,⟨x1.l2,kF _⟩,bW (2-(i+1)) (by omega) ⟨by omega,rfl,⟨⟨a.f,a.arcs++[⟨0,0,X.lead,((r.length+1:Nat):Int)+X.start⟩]⟩,r++X.af.map (pv (r.length+1) none),y4,I _ _ rfl⟩,(((kp.trans (LA o8)).trans (LA or)).trans C).trans x0⟩⟩
  rcases hi with rfl|rfl
  ·have d:=u0 rfl;have ld:=pH QK N4 vt kl (i:=0) (by simp[bT]);refine⟨_,ZT _,_,ld,step A x y z E.row Z (by rw[d];simp) (by rw[d];simp[y5]) λo u e=>⟨λe=>by omega,λ_=>by rw[e,d],λe=>by omega⟩⟩
  ·have d:=u1 rfl;have ld:=pH QK N4 vt kl (i:=4) (by simp[bT]);refine⟨_,ZU _,_,ld,step B x' y' z' V.row cB (by rw[d,O];simp;omega) (by rw[d];omega) λo u e=>⟨λe=>by omega,λe=>by omega,λ_=>by rw[e,d]⟩⟩
 ·obtain rfl:i=2:=by have:=dF p;omega
  have d:=u2 rfl;rw[d]at b;exact oO w c.wf b (by rw[x7,O];simp;omega) (by omega) S N n3
end
end
variable{s:List UInt8}
section
def Bf(A B:bC)(c:List UInt8):bC:=⟨A.kind,(B.af.length:Int)+A.start,c,B.af.map (pv 0 none)++A.af.map (pv B.af.length (some (((0:Nat):Int)+B.start)))⟩
def Bg(A B:bC)(c:List UInt8):bC×Int:=if zK A B=0 then(Bf A B c,0)else(tP,zK A B)
def tI(A:bC):bC:=⟨A.kind,0,da A.kind,⟨da A.kind,[⟨0,0,A.lead,((1:Nat):Int)+A.start⟩]⟩::A.af.map (pv 1 (some ((0:Nat):Int)))⟩
def FP(A:bC):bC×Int:=if cI A=true then(tI A,0)else(tP,1)
def Md(A:bC)(c:List UInt8):bC:=⟨A.kind,((0:Nat):Int)+A.start,c,A.af.map (pv 0 none)⟩
def Hq(A:bC)(a c:List UInt8):bC×Int:=if(cI A&&bj A.kind a)=true then(Md A c,0)else(tP,1)
section
variable {h:ae} {A B:bC} {x x':Option Addr} {y z y' z':Nat} {c:List UInt8}
theorem KX(w:Wf h)(R:nz h)(N:Small A)(V:Small B)(ra:ei h (.slice x y z) A.af)(rb:ei h (.slice x' y' z') B.af)(F:zK A B=0->dg A.kind A.lead B.lead=some c):FW SS 31 [.agg ⟨bT A x y z⟩,.agg ⟨bT B x' y' z'⟩] h (A2 h (Bg A B c)):=by
 obtain⟨ma,l⟩:=fQ w ra;obtain⟨mb,r⟩:=fQ l.wf (rb.ok l);have J:h.next<=((h.push (Bm A x y z)).push (Bm B x' y' z')).next:=(l.trans r).nx;have D:=(Ok.refl r.wf).push mG;have kb:=aI ((h.push (Bm A x y z)).push (Bm B x' y' z')) mG;have E:=(l.trans r).trans D;have i:=(ma.ok r).ok D;have f:=mb.ok D;refine KW _ _ h _ ⟨_,jU A x y z,_,jU B x' y' z',_,qy,_,i.all,_,f.all,(MU E.wf (R.ok E) N V i.row f.row).mono ?_⟩;generalize x2:(h.push (Bm A x y z)).next=k2 at*;generalize ((h.push (Bm A x y z)).push (Bm B x' y' z')).next=kr at*;generalize (((h.push (Bm A x y z)).push (Bm B x' y' z')).push mG)=g3 at*;rintro _ g4 ⟨rfl,a⟩;have g:=E.trans a;have b:=i.ok a;have j:=f.ok a;have s:=a.ext _ _ kb;unfold Bg;refine⟨_,rfl,aa (λq=>?_) (λq=>⟨_,dY _,_,b.l0,(mh A.kind a.wf).mono ?_⟩)⟩
 ·have q:zK A B≠0:=by simpa using q
  rw[if_neg q];exact ib w g s J _
 have q:zK A B=0:=by simpa using q
 rw[if_pos q];have F:=F q;obtain⟨O,W,p⟩:=MW q;have m:=rA N O;have n:=rA V W;have Q:=zp O;have L:=zp W;have Z:aM A.kind B.lead=true:=by rw[p];exact L.lead
 rintro _ g5 ⟨k,rfl,o⟩;have T:=b.ok o.ok;have K:=j.ok o.ok;refine⟨_,rfl,_,nr _,_,T.l2,_,nr _,_,K.l2,(ES a.wf (R.ok g) o Q.lead Z F).mono ?_⟩;rintro _ g6 ⟨rfl,o6⟩;have b6:=o.ui o6;obtain⟨u7,P,S,x3⟩:=b6.Ht a.wf c;have X:=j.ok S.ok;have:=m.n;have:=n.n;have:=m.s;have:=n.s;refine⟨_,rfl,lq ⟨_,ka k,_,nr k,u7,P,_,X.all,(qA a.wf S j.row (l7.kA k _) (by simp;omega) (by simp[dc];unfold dc at*;omega) n.start n.to).mono ?_⟩⟩;rintro _ g8 ⟨rfl,M,x4⟩;have or:=(Ok.refl M.ok.wf).room 11;have C:=M.ui or;have H:=b.ok C.ok;have x5:=mO 0 none B.af;have d:(([]:List dW)++B.af.map (pv ([]:List dW).length none)).length=B.af.length:=by simp
 refine⟨_,rfl,_,H.all,(Cd (k:=k) C.ok.wf _).mono ?_⟩;rintro _ x7 ⟨fc,rfl,lv,G⟩;have t:=C.ui G;have v:=b.ok t.ok;refine⟨_,_,_,rfl,(qA a.wf t b.row lv (by rw[d];omega) (by show dc (B.af.map (pv 0 none))+_+_<=_;omega) m.start m.to).mono ?_⟩;rintro _ x6 ⟨rfl,I,x0⟩;have x8:=mO B.af.length (some (((0:Nat):Int)+B.start)) A.af;obtain⟨Y,u,U,x1⟩:=I.J3 a.wf ((([]++B.af.map (pv ([]:List dW).length none)).length:Int)+A.start);refine⟨_,rfl,lq ⟨_,ka k,_,tc k,Y,u,⟨v.all,Dy b.row⟩,?_⟩⟩;have e:Bf A B c=⟨A.kind,(([]++B.af.map (pv ([]:List dW).length none)).length:Int)+A.start,c,[]++B.af.map (pv ([]:List dW).length none)++A.af.map (pv ([]++B.af.map (pv ([]:List dW).length none)).length (some ((([]:List dW).length:Int)+B.start)))⟩:=by
  unfold Bf;rw[d];rfl
 rw[e];refine oO w a.wf U ?_ ?_ g s J
 ·rw[length_append,d,lM];omega
 ·rw[d,dR];show dc (B.af.map (pv 0 none))+dc (A.af.map (pv B.af.length (some (((0:Nat):Int)+B.start))))<=_;omega
theorem Ir(w:Wf h)(N:nz h)(C:Small A)(M:ei h (.slice x y z) A.af):FW SS 33 [.agg ⟨bT A x y z⟩] h (A2 h (FP A)):=by
 obtain⟨Q,j⟩:=fQ w M;have p:h.next<=(h.push (Bm A x y z)).next:=j.nx;have H:=(Ok.refl j.wf).push mG;have K:=aI (h.push (Bm A x y z)) mG;have m:=j.trans H;have c:=Q.ok H;refine RI _ h _ ⟨_,jU A x y z,_,qy,_,c.all,(qD (N.ok m) m.wf C c.row).mono ?_⟩;generalize (h.push (Bm A x y z)).next=W at*;generalize (h.push (Bm A x y z)).push mG=g3 at*;rintro _ u ⟨rfl,b⟩;have i:=m.trans b;have a:=c.ok b;have f:=b.ext _ _ K;unfold FP;refine⟨_,rfl,aa (λq=>?_) (λq=>⟨_,dY _,_,a.l0,(mh A.kind b.wf).mono ?_⟩)⟩
 ·rw[not_eq_true']at q;rw[q,if_neg (by simp)];exact ib w i f p _
 rw[not_eq_false']at q;rw[if_pos q];have d:=rA C q;have:=d.n;have:=d.s;rintro _ Z ⟨k,rfl,E⟩;refine⟨_,rfl,lq ⟨_,zg k,_,E.one,(ic b.wf E (by simp) _).mono ?_⟩⟩;rintro _ X ⟨rfl,r,S⟩;have R:=(Ok.refl r.ok.wf).room 11;have l:=r.ui R;have g:=a.ok l.ok;refine⟨_,rfl,_,nr _,_,g.l2,_,g.all,(Cd (k:=k) l.ok.wf _).mono ?_⟩;rintro _ V ⟨Y,rfl,L,J⟩;have B:=l.ui J;have e:=a.ok B.ok;have O:dc ([]++[(⟨da A.kind,[]⟩:dW)])=0:=rfl;refine⟨_,_,_,rfl,(qA b.wf B a.row L (by simp;omega) (by rw[O];omega) d.start d.to).mono ?_⟩;rintro _ P ⟨rfl,D,T⟩;have n:=a.ok D.ok;have U:=mO 1 (some ((0:Nat):Int)) A.af;have v:BS u P k A.kind 0 (da A.kind) (⟨da A.kind,[]⟩::A.af.map (pv 1 (some ((0:Nat):Int)))):=D;refine⟨_,rfl,(Be b.wf v (s:=0) (t:=⟨da A.kind,[]⟩) rfl (by rw[dS];show 0+_<=_;omega) A.lead (((1:Nat):Int)+A.start)).mono ?_⟩;rintro _ G ⟨rfl,F,I⟩;have o:BS u G k A.kind 0 (da A.kind) (⟨da A.kind,[⟨0,0,A.lead,((1:Nat):Int)+A.start⟩]⟩::A.af.map (pv 1 (some ((0:Nat):Int)))):=F;refine⟨rfl,⟨e.l2,kF _⟩,⟨n.l2,kF _⟩,⟨e.all,Dy a.row⟩,oO w b.wf o (by rw[length_cons,lM];omega) (by rw[dS];show 1+_<=_;omega) i f p⟩
theorem Oc(w:Wf h)(u:nz h)(G:Small A)(P:s.length<=1000000000)(Q:ei h (.slice x y z) A.af)(C:cI A=true->bj A.kind s=true->dg A.kind s A.lead=some c):FW SS 37 [.agg ⟨bT A x y z⟩,strOf s] h (A2 h (Hq A s c)):=by
 obtain⟨T,p⟩:=fQ w Q;have r:h.next<=(h.push (Bm A x y z)).next:=p.nx;have K:=(Ok.refl p.wf).push mG;have O:=aI (h.push (Bm A x y z)) mG;have B:=p.trans K;have i:=T.ok K;refine Ob _ s h _ ⟨_,jU A x y z,_,qy,_,i.all,(qD (u.ok B) B.wf G i.row).mono ?_⟩;generalize (h.push (Bm A x y z)).next=kr at*;generalize (h.push (Bm A x y z)).push mG=g3 at*;rintro _ Y ⟨rfl,l⟩;have g:=B.trans l;have n:=i.ok l;have o:=l.ext _ _ O;unfold Hq;refine⟨_,rfl,aa (λq=>?_) (λq=>⟨_,dY _,_,n.l0,(lX A.kind s P (u.ok g) l.wf).mono ?_⟩)⟩
 ·rw[not_eq_true']at q;rw[q,if_neg (by simp)];exact ib w g o r _
 rw[not_eq_false']at q;rintro _ g5 ⟨rfl,a⟩;have f:=g.trans a;have d:=n.ok a;have m:=a.ext _ _ o;refine⟨_,rfl,aa (λb=>?_) (λb=>⟨_,dY _,_,d.l0,(mh A.kind a.wf).mono ?_⟩)⟩
 ·rw[not_eq_true']at b;rw[b,if_neg (by simp)];exact ib w f m r _
 rw[not_eq_false']at b;rw[q,b,if_pos (show(true&&true)=true from rfl)];have C:=C q b;have j:=rA G q;have I:=zp q;have:=j.n;have:=j.s;rintro _ g6 ⟨k,rfl,t⟩;have E:=d.ok t.ok;refine⟨_,rfl,_,nr _,_,E.l2,(ES a.wf (u.ok f) t (mF b) I.lead C).mono ?_⟩;rintro _ Z ⟨rfl,U⟩;have S:=t.ui U;obtain⟨N,L,F,V⟩:=S.Ht a.wf c;have D:=d.ok F.ok;refine⟨_,rfl,lq ⟨_,ka k,_,nr k,N,L,_,D.all,(qA a.wf F d.row (l7.kA k _) (by simp;omega) (by simp[dc];unfold dc at*;omega) j.start j.to).mono ?_⟩⟩;rintro _ g9 ⟨rfl,R,W⟩;have X:=mO 0 none A.af;obtain⟨H,v,J,M⟩:=R.J3 a.wf ((([]:List dW).length:Int)+A.start);refine⟨_,rfl,lq ⟨_,ka k,_,tc k,H,v,?_⟩⟩;have e:Md A c=⟨A.kind,(([]:List dW).length:Int)+A.start,c,[]++A.af.map (pv ([]:List dW).length none)⟩:=rfl;rw[e];refine oO w a.wf J ?_ ?_ f m r
 ·rw[length_append,lM];simp;omega
 ·show dc (A.af.map (pv 0 none))<=_;omega
end
end
section
def lW(A:bC)(n:Int)(m i:Nat):List dW:=(List.range (m+1)).map λ(j:Nat)=>⟨if(j:Int)>=n then da A.kind else[],if j<i then[⟨0,0,A.lead,((m+1+j*A.af.length:Nat):Int)+A.start⟩]else[]⟩
def pe(A:bC)(m i:Nat):List dW:=(List.range i).flatMap λ(j:Nat)=>A.af.map (pv (m+1+j*A.af.length) (some ((j+1:Nat):Int)))
def abZ(A:bC)(n:Int)(m:Nat):bC:=⟨A.kind,0,da A.kind,lW A n m m++pe A m m⟩
def XB(A:bC)(n a:Int):bC×Int:=if cI A=true/\0<=n/\n<=a/\a<=30 then(abZ A n a.toNat,0)else(tP,1)
section
variable {A:bC} {n:Int} {m i:Nat}
theorem qH:(lW A n m i).length=m+1:=by unfold lW;simp
theorem wa:pe A m (i+1)=pe A m i++A.af.map (pv (m+1+i*A.af.length) (some ((i+1:Nat):Int))):=by
 unfold pe;rw[range_succ,List.flatMap_append];simp
theorem FA:∀i,(pe A m i).length=i*A.af.length
 |0=>by simp[pe]
 |i+1=>by rw[wa,length_append,FA i,lM,Nat.add_mul,Nat.one_mul]
theorem FC:∀i,dc (pe A m i)<=i*(dc A.af+A.af.length)
 |0=>by simp[pe,dc]
 |i+1=>by
  have:=mO (m+1+i*A.af.length) (some ((i+1:Nat):Int)) A.af;have a:=FC i;rw[wa,dR,Nat.add_mul,Nat.one_mul];omega
theorem Dt:∀{l:List dW},(∀s∈l,s.arcs.length<=1)->dc l<=l.length
 |[],_=>Nat.le_refl _
 |s::l,h=>by
  have b:=h s (List.mem_cons_self ..);have:=Dt (l:=l) λt a=>h t (List.mem_cons_of_mem _ a);rw[dS,length_cons];omega
theorem Qh:dc (lW A n m i)<=m+1:=by
 have:=Dt (l:=lW A n m i) λs a=>by
  unfold lW at a;obtain⟨j,_,rfl⟩:=mem_map.1 a;show(if j<i then _ else _:List iN).length<=1;split<;>simp
 rw[qH]at this;exact this
theorem Ua(a:i<m+1):(lW A n m i)[i]?=some ⟨if(i:Int)>=n then da A.kind else[],[]⟩:=by
 unfold lW;rw[getElem?_map,List.getElem?_range a,Option.map_some,if_neg (Nat.lt_irrefl i)]
theorem Qg(b:i<m+1):(lW A n m i).set i ⟨if(i:Int)>=n then da A.kind else[],[⟨0,0,A.lead,((m+1+i*A.af.length:Nat):Int)+A.start⟩]⟩=lW A n m (i+1):=by
 have a:∀i j,(lW A n m i)[j]?=if j<m+1 then some ⟨if(j:Int)>=n then da A.kind else[],if j<i then[⟨0,0,A.lead,((m+1+j*A.af.length:Nat):Int)+A.start⟩]else[]⟩else none:=λi j=>by
  unfold lW;rw[getElem?_map];split
  ·next h=>rw[List.getElem?_range h];rfl
  ·next h=>rw[List.getElem?_eq_none (by simp;omega)];rfl
 refine List.ext_getElem? λj=>?_;rw[List.getElem?_set,a,a,qH];by_cases e:i=j
 ·subst e;rw[if_pos rfl,if_pos b,if_pos b,if_pos (lt_succ_self i)]
 ·rw[if_neg e];by_cases q:j<i
  ·rw[if_pos q,if_pos (show j<i+1 by omega)]
  ·rw[if_neg q,if_neg (show ¬j<i+1 by omega)]
theorem KZ{x:Option Addr}{z:Nat}{d:Int}(w:Wf h)(tb:nz h)(W:Small A)(h8:A.af.length<=8)(x9:dc A.af<=40)(ra:ei h (.slice x l z) A.af):FW SS 35 [.agg ⟨bT A x l z⟩,.int .i64 n,.int .i64 d] h (A2 h (XB A n d)):=by
 obtain⟨ma,L⟩:=fQ w ra;have B:h.next<=(h.push (Bm A x l z)).next:=L.nx;have Y:=(Ok.refl L.wf).push mG;have kb:=aI (h.push (Bm A x l z)) mG;have P:=L.trans Y;have E:=ma.ok Y;refine KY _ n d h _ ⟨_,jU A x l z,_,qy,_,E.all,(qD (tb.ok P) P.wf W E.row).mono ?_⟩;generalize (h.push (Bm A x l z)).next=V at*;generalize (h.push (Bm A x l z)).push mG=g3 at*;rintro _ S ⟨rfl,r⟩;have t:=P.trans r;have a:=E.ok r;have s:=r.ext _ _ kb;unfold XB;refine⟨_,rfl,aa (λq=>?_) (λq=>aa (λG=>?_) (λG=>aa (λF=>?_) (λF=>aa (λH=>?_) (λH=>?_))))⟩
 ·rw[not_eq_true']at q;rw[if_neg (λc=>by rw[c.1]at q;cases q)];exact ib w t s B _
 ·rw[if_neg (λc=>by have:=dT G;omega)];exact ib w t s B _
 ·rw[if_neg (λc=>by have:=dT F;omega)];exact ib w t s B _
 ·rw[if_neg (λc=>by have:=dT H;omega)];exact ib w t s B _
 rw[not_eq_false']at q;have G:=dF G;have F:=dF F;have H:=dF H;rw[if_pos ⟨q,by omega,by omega,by omega⟩];have T:=rA W q;obtain⟨m,hm,x0⟩:∃m:Nat,d=m/\m<=30:=⟨d.toNat,by omega,by omega⟩
 subst hm;have em:((m:Int)).toNat=m:=by omega
 rw[em];refine⟨_,dY _,_,a.l0,(mh A.kind r.wf).mono ?_⟩;rintro _ g5 ⟨k,rfl,b5⟩;rw[Kn m (by omega)];refine⟨_,rfl,?_⟩;refine vK (bT A x l z) n m h.next V k ((m+1:Nat):Int) (λy i g=>i<=m+1/\y=m+1-i/\BS S g k A.kind 0 (da A.kind) ((List.range i).map λ(j:Nat)=>⟨if(j:Int)>=n then da A.kind else[],[]⟩)) _ (λy i=>?_) (m+1) (i:=0) ⟨by omega,rfl,b5⟩;intros;rename_i g v;obtain⟨f1,f2,b⟩:=v;refine aa (λp=>?_) (λp=>?_)
 ·have u:i<m+1:=by have:=dT p;omega
  have X:∀f:List UInt8,f=(if(i:Int)>=n then da A.kind else[])->((List.range i).map λ(j:Nat)=>(⟨if(j:Int)>=n then da A.kind else[],[]⟩:dW))++[⟨f,[]⟩]=(List.range (i+1)).map λ(j:Nat)=>(⟨if(j:Int)>=n then da A.kind else[],[]⟩:dW):=λf hf=>by
   rw[range_succ,map_append,hf];rfl
  have J:((List.range i).map λ(j:Nat)=>(⟨if(j:Int)>=n then da A.kind else[],[]⟩:dW)).length<=100000:=by simp;omega
  rw[aO u (by omega)];refine aa (λM=>⟨_,zg k,_,b.one,(ic r.wf b J _).mono ?_⟩) (λM=>(ic r.wf b J _).mono ?_)
  ·rintro _ g6 ⟨rfl,C,_⟩;rw[X _ (by rw[if_pos (dT M)])]at C;exact⟨_,rfl,bW (m+1-(i+1)) (by omega) ⟨by omega,rfl,C⟩⟩
  ·rintro _ g6 ⟨rfl,C,_⟩;rw[X _ (by rw[if_neg (dF M)])]at C;exact⟨_,rfl,bW (m+1-(i+1)) (by omega) ⟨by omega,rfl,C⟩⟩
 have u:i=m+1:=by have:=dF p;omega
 subst u;have e0:((List.range (m+1)).map λ(j:Nat)=>(⟨if(j:Int)>=n then da A.kind else[],[]⟩:dW))=lW A n m 0++pe A m 0:=by
  have:pe A m 0=[]:=rfl;rw[this,List.append_nil];unfold lW;refine List.map_congr_left λj _=>?_;rw[if_neg (Nat.not_lt_zero j)]
 rw[e0]at b;have x8:=a.ok b.ok;refine vL (bT A x l z) n m h.next V k (λy i g=>i<=m/\y=m-i/\BS S g k A.kind 0 (da A.kind) (lW A n m i++pe A m i)) _ (λy i=>?_) m (i:=0) ⟨by omega,rfl,b⟩;intros;rename_i g1 v;obtain⟨d1,d2,O⟩:=v;have o:(lW A n m i++pe A m i).length=m+1+i*A.af.length:=by rw[length_append,qH,FA]
 have x3:=FC (A:=A) (m:=m) i;have x2:=Qh (A:=A) (n:=n) (m:=m) (i:=i);have x4:i*A.af.length<=30*8:=Nat.mul_le_mul (by omega) h8;have x1:i*(dc A.af+A.af.length)<=30*48:=Nat.mul_le_mul (by omega) (by omega);refine aa (λp=>?_) (λp=>?_)
 ·have u:i<m:=by have:=dT p;omega
  have or:=(Ok.refl O.ok.wf).room 12;have Q:=O.ui or;have D:=a.ok Q.ok;rw[aO u (by omega)];refine⟨_,nr _,_,D.l2,_,D.all,(Cd (k:=k) Q.ok.wf _).mono ?_⟩;rintro _ g8 ⟨fc,rfl,lv,o8⟩;have U:=Q.ui o8;have I:=a.ok U.ok;refine⟨_,_,_,rfl,(qA r.wf U a.row lv (by rw[o];omega) (by rw[dR];omega) T.start T.to).mono ?_⟩;rintro _ g9 ⟨rfl,N,x5⟩;have R:=a.ok N.ok;rw[o]at N;have hs:(lW A n m i++pe A m i++A.af.map (pv (m+1+i*A.af.length) (some ((i+1:Nat):Int))))[i]?=some (⟨if(i:Int)>=n then da A.kind else[],[]⟩:dW):=by
   rw[append_assoc,List.getElem?_append_left (by rw[qH];omega)];exact Ua (by omega)
  have x6:=mO (m+1+i*A.af.length) (some ((i+1:Nat):Int)) A.af;rw[o];refine⟨_,rfl,(Be r.wf N hs (by rw[dR,dR];omega) A.lead _).mono ?_⟩;rintro _ x7 ⟨rfl,K,Z⟩;have e:(lW A n m i++pe A m i++A.af.map (pv (m+1+i*A.af.length) (some ((i+1:Nat):Int)))).set i (⟨if(i:Int)>=n then da A.kind else[],[]++[⟨0,0,A.lead,((m+1+i*A.af.length:Nat):Int)+A.start⟩]⟩:dW)=lW A n m (i+1)++pe A m (i+1):=by
   rw[append_assoc,List.set_append_left _ _ (by rw[qH];omega),wa,<-Qg (show i<m+1 by omega)];rfl
  rw[e]at K;exact⟨rfl,⟨I.l2,kF _⟩,⟨R.l2,kF _⟩,⟨I.all,Dy a.row⟩,bW (m-(i+1)) (by omega) ⟨by omega,rfl,K⟩⟩
 ·have u:i=m:=by have:=dF p;omega
  subst u;exact oO w r.wf O (by rw[o];omega) (by rw[dR];omega) t s B
end
end
variable{w:Value}{Q:VH}
noncomputable def aaw:FD:=cF Tryz.f54 []
theorem X8(a:OA)(n c:Nat)(h:ae)(Q:VH)(b:xN (eV SS.P 22 (.slice a n c)) h λ_ a=>Q (.func (.func 82) ⟨[]⟩ ⟨[(pA (h.next))]⟩) a):FW SS 54 [(.slice a n c)] h Q:=cJ aaw Tryz.func54 (ai b)
noncomputable def we:FD:=cF Tryz.f82 [([1,0,0],[0,5,6,7])]
abbrev si(b:Nat)(a:OA)(n c:Nat)(i:Nat):LV:=[(.func (.yield b) ⟨[]⟩ ⟨[]⟩),(.slice a n c),(iA n),(iA i)]
theorem X5(e d:Nat)(h:ae)(Q:VH)(f:xL (aj SS.P 22 h (pA d)) λa b c=>LL SS we [1,0,0] [(.func (.yield e) ⟨[]⟩ ⟨[]⟩),(.slice a b c),(iA b),(.int .i64 0)] h (KK SS we [1,0] [] (EE SS we Q))):FW SS 82 [(.func (.yield e) ⟨[]⟩ ⟨[]⟩),(pA d)] h Q:=cJ we Tryz.func82 (ai f)
theorem A5(l p:Nat)(a:OA)(n c:Nat)(k:Nat->Nat->ae->Prop)(Q:VH)(step:∀(j:Nat) (i:Nat) (o:Nat->Value) (h:ae),k j i h->au (decide (((i:Int):Int)<(n:Int))) (iP 22 (.slice a n c) (iA i) λg=>lI h g λf=>FW SS (YB+l) [(.int .i64 f)] h λd e=>yB d λb=>au (!b) (Q (.tuple ⟨[]⟩) e) (aJ (fj (si l a n c) k) j [(.func (.yield l) ⟨[]⟩ ⟨[]⟩),(.slice a n c),(iA n),(.int .i64 (wrap .i64 ((i:Int)+1)))] e)) (Q (.tuple ⟨[]⟩) h))(j:Nat){i:Nat}{h:ae}(m:k j i h):LL SS we [1,0,0] (si l a n c i) h (KK SS we [1,0] [] (EE SS we Q)):=
 db (si l a n c) k (λj i o h m=>ai (step j i o h m)) j m
noncomputable def fX:FD:=cF Tryz.f99 []
theorem N7(a:OA)(n c:Nat)(d:Nat)(h:ae)(Q:VH)(e:xN (eV SS.P 22 (.slice a n c)) h λ_ b=>RG SS fX [1,0,1,0] [(.slice a n c),(.func (.func 82) ⟨[]⟩ ⟨[(pA d)]⟩),(pA (h.next)),undef,nA,undef,(.func (.func 82) ⟨[]⟩ ⟨[(pA d)]⟩),undef,undef,undef,undef,undef,undef] b (KK SS fX [1,0,1,0] [] (EE SS fX Q))):FW SS 99 [(.slice a n c),(.func (.func 82) ⟨[]⟩ ⟨[(pA d)]⟩)] h Q:=cJ fX Tryz.func99 (ai e)
theorem D8{ks:Nat}{o m g i l j n e f d:Value}(k:xL (aj SS.P 22 h (pA ks)) λa b c=>Q (.slice a b c) h):(KK SS fX [1,0,1,0] [] (EE SS fX Q)) .normal [v,w,(pA ks),o,m,g,i,l,j,n,e,f,d] h:=ai k
theorem D6{ks:Nat}{q:Int}{i f j d e g b c a:Value}{Q:eL}(k:Q .normal [v,w,(pA ks),i,f,(.int .i64 q),d,(.int .i64 q),e,g,b,c,a] h):TT SS fX [1,0,1,0,0] [v,w,(pA ks),i,f,j,d,(.int .i64 q),e,g,b,c,a] h Q:=ai k
theorem D7{ks:Nat}{q:Int}{t p n o u y r s m:Value}{Q:eL}(x:xL (aj SS.P 22 h (pA ks)) λj k l=>xR (aF SS.P 22 1 [(0,(.int .i64 q))]) h λ_ f g i=>xE (bF SS.P 22 22 (.slice j k l) (sA (h.next) f g) i) i λb c d _ e=>xU (ah SS.P 22 (pA ks) (.slice b c d) e) e λ_ a=>Q .normal [v,w,(pA ks),t,p,(.int .i64 q),n,o,(.slice j k l),(.int .i64 q),(sA (h.next) f g),(.slice b c d),m] a):TT SS fX [1,0,1,0,1] [v,w,(pA ks),t,p,(.int .i64 q),n,o,u,y,r,s,m] h Q:=ai x
noncomputable def ZH:FD:=cF Tryz.f80 []
theorem Wp(f:Nat)(h:ae)(Q:VH)(g:FW SS 99 [nA,(.func (.func 82) ⟨[]⟩ ⟨[(pA f)]⟩)] h λd e=>yL d λa b c=>Q (.slice a b c) e):FW SS 80 [(.func (.func 82) ⟨[]⟩ ⟨[(pA f)]⟩)] h Q:=cJ ZH Tryz.func80 (ai g)
noncomputable def XR:FD:=cF Tryz.f53 []
theorem Uz(i:Nat)(h:ae)(Q:VH)(j:FW SS 80 [(.func (.func 82) ⟨[]⟩ ⟨[(pA i)]⟩)] h λf g=>yL f λc d e=>FW SS 81 [(.slice c d e)] g λa b=>a=(.tuple ⟨[]⟩)/\Q (.slice c d e) b):FW SS 53 [(.func (.func 82) ⟨[]⟩ ⟨[(pA i)]⟩)] h Q:=cJ XR Tryz.func53 (ai j)
noncomputable def fM:FD:=cF Tryz.f52 [([1,1,0,1,0,0],[0,3]),([1,1,0,1,0,0,1,0,0,1,0,1,0,1,0,0],[0,3,4,5])]
abbrev iG(a:OA)(n c:Nat)(k:Nat):LV:=[(.slice a n c),(iA k)]
abbrev kj(a:OA)(n c:Nat)(b:OA)(m d:Nat)(k j:Nat):LV:=[(.slice a n c),(iA k),(.slice b m d),(iA j)]
theorem IB(a:OA)(n c:Nat)(h:ae)(Q:VH)(b:au (decide (((n:Int):Int)<2)) (Q (.slice a n c) h) (LL SS fM [1,1,0,1,0,0] (iG a n c 1) h (KK SS fM [1,1,0,1,0] [] (EE SS fM Q)))):FW SS 52 [(.slice a n c)] h Q:=cJ fM Tryz.func52 (ai b)
theorem yZ(a:OA)(n c:Nat)  (l:Nat->Nat->ae->Prop) (Q:VH) (step:∀(m:Nat)(k:Nat)(p:Nat->Value)(h:ae),l m k h->au (decide (((k:Int):Int)<(n:Int))) (iP 22 (.slice a n c) (iA k) λj=>lI (room h 10) j λi=>iP 22 (.slice a n c) (.int .i64 (wrap .i64 ((k:Int)-1))) λg=>lI (room h 10) g λf=>au (((i:Int)==f)) (xL (bO SS.P 22 (.slice a n c) (some (iA k)) none none (room h 10)) λb d e=>LL SS fM [1,1,0,1,0,0,1,0,0,1,0,1,0,1,0,0] (kj a n c b d e k 1) (room h 10) (KK SS fM [1,0,0,1,0,1,0,1,0] [1,1,0,1,0,0] (RR fM [1,1,0,1,0,0] (fj (iG a n c) l) m (KK SS fM [1,1,0,1,0] [] (EE SS fM Q))))) (aJ (fj (iG a n c) l) m [(.slice a n c),(.int .i64 (wrap .i64 ((k:Int)+1)))] (room h 10))) (Q (.slice a n c) h)) (m:Nat) {k:Nat} {h:ae} (o:l m k h):LL SS fM [1,1,0,1,0,0] (iG a n c k) h (KK SS fM [1,1,0,1,0] [] (EE SS fM Q)):=
 db (iG a n c) l (λm k p h o=>ai (step m k p h o)) m o
theorem zb(a:OA)(n c:Nat)(t:OA)(m d:Nat)(v:Nat->Nat->ae->Prop)(w:Nat)(s:Nat->Nat->Nat->ae->Prop)(Q:VH)(step:∀(r:Nat) (k j:Nat) (q:Nat->Value) (h:ae),s r k j h->au (decide (((j:Int):Int)<(m:Int))) (iP 22 (.slice t m d) (iA j) λp=>lI (room h 10) p λo=>iP 22 (.slice t m d) (.int .i64 (wrap .i64 ((j:Int)-1))) λl=>lI (room h 10) l λi=>au (((o:Int) !=i)) (iP 22 (.slice t m d) (iA j) λg=>lI (room h 10) g λf=>iP 22 (.slice a n c) (iA k) λe=>xU (ah SS.P 3 (.pointer (some e)) (.int .i64 f) (room h 10)) (room h 10) λ_ b=>aJ (qR (kj a n c t m d) s) r [(.slice a n c),(.int .i64 (wrap .i64 ((k:Int)+1))),(.slice t m d),(.int .i64 (wrap .i64 ((j:Int)+1)))] b) (aJ (qR (kj a n c t m d) s) r [(.slice a n c),(iA k),(.slice t m d),(.int .i64 (wrap .i64 ((j:Int)+1)))] (room h 10))) (xL (bO SS.P 22 (.slice a n c) (some (iA k)) none none h) λe f g=>xG (dQ SS.P je (ev SS.gl [(.slice a n c),(q 1),(q 2),(iA k),(.slice t m d),(iA j),(q 6),(q 7),(q 8),(q 9),(q 10),(q 11),(q 12),(q 13),(q 14),(q 15),(q 16),(q 17),(q 18),(q 19),(q 20),(q 21),(q 22),(q 23),(q 24),(q 25),(q 26),(q 27),(q 28),(iA j),(.slice t m d),(iA m),(.bool (decide (((j:Int):Int)<(m:Int)))),(q 33),(q 34),(q 35),(q 36),(q 37),(q 38),(q 39),(q 40),(q 41),(q 42),(q 43),(q 44),(q 45),(q 46),(q 47),(q 48),(q 49),(q 50),(q 51),(q 52),(q 53),(.slice a n c),(iA k),(.slice e f g),(q 57),(q 58),(q 59),(q 60)]) (JM (fB [1,1,0,1,0,0,1,0,0,1,0,1,1,0] fM.body) 3) h) h λ_ _ d=>xL (bO SS.P 22 (.slice a n c) none (some (iA k)) none d) λa b c=>Q (.slice a b c) d))(r:Nat){k j:Nat}{h:ae}(u:s r k j h):LL SS fM [1,1,0,1,0,0,1,0,0,1,0,1,0,1,0,0] (kj a n c t m d k j) h (KK SS fM [1,0,0,1,0,1,0,1,0] [1,1,0,1,0,0] (RR fM [1,1,0,1,0,0] (fj (iG a n c) v) w (KK SS fM [1,1,0,1,0] [] (EE SS fM Q)))):=
 nB (kj a n c t m d) s (λr k j q h u=>ai (step r k j q h u)) r u
noncomputable def vJ:FD:=cF Tryz.f21 [([1,1,1,1,0,1,0,0],[4,6,7,8,35,36,37])]
abbrev rj(a k f t:Nat)(b:OA)(m d:Nat)(i:Nat):LV:=[(pA a),(pA k),(iA f),(iA t),(.slice b m d),(iA m),(iA i)]
theorem VY(A:Int)(a:OA)(n c:Nat)(h:ae)(Q:VH)(G:xN (bq SS.P 29) h λ_ B=>au (decide ((A:Int)<1)) (xA (bg SS.P 29 []) λb=>xU (ah SS.P 29 (pA (h.next)) (.agg ⟨b⟩) B) B λ_ a=>dX SS [((pA (h.next)),some 29),((.int .i64 1),none)] a Q) (au (decide ((A:Int)>3)) (xA (bg SS.P 29 []) λb=>xU (ah SS.P 29 (pA (h.next)) (.agg ⟨b⟩) B) B λ_ a=>dX SS [((pA (h.next)),some 29),((.int .i64 1),none)] a Q) (FW SS 49 [(.slice a n c),(.func (.func 50) ⟨[]⟩ ⟨[]⟩)] B λH C=>yB H λE=>au E (xA (bg SS.P 29 []) λb=>xU (ah SS.P 29 (pA (h.next)) (.agg ⟨b⟩) C) C λ_ a=>dX SS [((pA (h.next)),some 29),((.int .i64 1),none)] a Q) (FW SS 42 [(.int .i64 A)] C λF D=>yO F λz=>FW SS 43 [(.pointer z),(strOf [])] (room D 10) λx y=>yI .i64 x λw=>HJ SS.P z y λv _=>fP 65 v 1 λu=>lS y u λt=>FW SS 43 [(.pointer z),(strOf t)] y λr s=>yI .i64 r λq=>(aj SS.P 9 (room D 10) (.pointer (some u))=some (strOf t)/\dA 4 (strOf t) (strOf t)=true)/\FW SS 54 [(.slice a n c)] s λo p=>yF o λl m n=>FW SS 53 [(.func (.func l) ⟨m⟩ ⟨n⟩)] p λj k=>yL j λf g i=>FW SS 52 [(.slice f g i)] k λd e=>yL d λa b c=>LL SS vJ [1,1,1,1,0,1,0,0] [(pA (h.next)),(.pointer z),(.int .i64 w),(.int .i64 q),(.slice a b c),(iA b),(.int .i64 0)] e (KK SS vJ [1,1,1,1,0,1,0] [] (EE SS vJ Q)))))):FW SS 21 [(.int .i64 A),(.slice a n c)] h Q:=cJ vJ Tryz.func21 (ai G)
theorem AQ(u:Int)(a:OA)(n c:Nat)(q k f t:Nat)(b:OA)(m d:Nat)(p:Nat->Nat->ae->Prop)(Q:VH)(step:∀(o:Nat) (i:Nat) (s:Nat->Value) (h:ae),p o i h->au (decide (((i:Int):Int)<(m:Int))) (iP 22 (.slice b m d) (iA i) λn=>lI h n λl=>fP 65 (pA k) 1 λj=>lS h j λg=>xA (bg SS.P 70 [(0,(.int .i64 l)),(1,(.int .i64 l)),(2,(strOf g)),(3,(iA t))]) λe=>FW SS 44 [(pA k),(iA f),(.agg ⟨e⟩)] h λa c=>a=(.tuple ⟨[]⟩)/\aJ (fj (rj q k f t b m d) p) o [(pA q),(pA k),(iA f),(iA t),(.slice b m d),(iA m),(.int .i64 (wrap .i64 ((i:Int)+1)))] c) (FW SS 46 [(pA k)] h λd e=>∃c:LV,∃b:Int,d=(.tuple ⟨[(.agg ⟨c⟩),(.int .i64 b)]⟩)/\xU (ah SS.P 29 (pA q) (.agg ⟨c⟩) e) e λ_ a=>dX SS [((pA q),some 29),((.int .i64 b),none)] a Q))(o:Nat){i:Nat}{h:ae}(r:p o i h):LL SS vJ [1,1,1,1,0,1,0,0] (rj q k f t b m d i) h (KK SS vJ [1,1,1,1,0,1,0] [] (EE SS vJ Q)):=
 db (rj q k f t b m d) p (λo i s h r=>ai (step o i s h r)) o r
section
def qi(z:Int):List Value:=[zV z]
theorem qC:∀l:List Int,(l.map qi).flatten=l.map zV
 |[]=>rfl
 |z::l=>by rw[List.map_cons,List.flatten_cons,qC l];rfl
theorem SO{l:List Int}:∀r∈l.map qi,r.length=1:=λr a=>by
 obtain⟨z,_,rfl⟩:=mem_map.1 a;rfl
theorem Z6{g:ae}{l:List Int}(o:fb g h 3 1 v (l.map qi)):Rd h 3 v (wW l):=(by
 obtain⟨_,⟨a,d⟩|⟨k,b,cs,c,a,d,f,e,j,i⟩⟩:=o
 ·left;refine⟨a,?_⟩;have:l=[]:=by simpa using d
  rw[this];rfl
 ·rw[lM,Nat.mul_one,qC]at e;rw[lM]at a;exact .inr ⟨k,b,cs,c,true,by rw[jr];exact a,f,by rw[jr];exact e⟩)
theorem adB:dU SS.P 22=true:=by kernel_rfl
theorem Yz(a:Option Addr)(n c:Nat):eV SS.P 22 (.slice a n c)=some (.cells [.slice a n c] 22 0 true,kZ):=by cases a<;>kernel_rfl
theorem Rl:Go.Ab.isAgg SS.P 22=false:=by kernel_rfl
theorem abX:SS.pr 81=some De:=by kernel_rfl
theorem EY:∀l:List Int,K5 (l.map zV)=some l
 |[]=>rfl
 |z::l=>by
  show(K5 (l.map zV)).map (z::·)=_;rw[EY l];rfl
theorem Qz:l6 []=[]:=by unfold l6;simp
theorem SP{hb g:ae}(w:Wf hb)(m:Ok hb g){x:Value}{l:List Int}(i:fb hb g 3 1 x (l.map qi)){q:Int}{e:Nat}(d:g.get e=some (.cells [.int .i64 q] 3 1 true))(p:l.length<=100000):
  ∃(b:Option Addr)(n c:Nat)(u:dJ),bF SS.P 22 22 x (.slice (some ⟨e,0,none⟩) 1 1) g=some (.slice b n c,u)/\fb hb (u.app g) 3 1 (.slice b n c) ((l++[q]).map qi)/\Ok hb (u.app g)/\
   (∀j B,g.get j=some B->eU x≠some j->(u.app g).get j=some B)/\(∀j,eU (.slice b n c)=some j->g.next<=j\/eU x=some j)/\g.next<=(u.app g).next:=by
 have a:(l.map qi).length=l.length:=lM ..;obtain⟨b,n,c,u,h,s,f,k⟩:=fb.add sc T0 JH adB w m i (ns:=[qi q]) (BA (cs:=qi q) d rfl) (λr o=>by rw[mem_singleton.1 o];rfl) rfl (by rw[Fv,a,List.length_singleton];omega) (by rw[a,List.length_singleton];omega) (.inl (Nat.le_refl _));exact⟨b,n,c,u,h,by rw[map_append];exact f,k⟩
theorem Qy{g:ae}(u:Wf g)(n:Ok g h){v:Value}{l:List Int}(o:fb g h 3 1 v (l.map qi))(x:l.length<=100000):FW SS 81 [v] h (λr i=>r = .tuple ⟨[]⟩/\fb g i 3 1 v ((l6 l).map qi)/\Ok g i):=by
 have d:(l.map qi).length=l.length:=lM ..;have j:(l6 l).length=l.length:=List.length_mergeSort l;by_cases e:l.length=0
 ·obtain rfl:=List.eq_nil_of_length_eq_zero e;obtain⟨a,c,rfl⟩:=o.XO;refine Bk (h':=h) (v:= .tuple ⟨[]⟩) (by kernel_rfl) abX (λA=>?_) ⟨rfl,by rw[Qz];exact o,n⟩;rfl
 ·obtain⟨D,⟨_,z⟩|⟨k,b,cs,c,rfl,q,p,m,C,s⟩⟩:=o
  ·exact absurd (by rw[<-d,z];rfl) e
  rw[d]at m s;rw[Nat.mul_one,qC]at m;rw[Nat.mul_one]at C;have f:((l6 l).map qi).length=l.length:=by rw[lM,j]
  have B:((l6 l).map zV).length=l.length:=by rw[lM,j]
  refine Bk (h':=h.set k (.cells (cs.take b++(l6 l).map zV++cs.drop (b+l.length)) 3 1 true)) (v:= .tuple ⟨[]⟩) (by kernel_rfl) abX (λA=>?_) ⟨rfl,⟨SO,.inr ⟨k,b,_,c,by rw[d,f],q,by rw[ae.aw,if_pos rfl],?_,?_,by rw[f];exact s⟩⟩,n.set _ q (n.wf _ _ p) u⟩
  ·rw[d];show(if l.length=0 then some (Value.tuple ⟨[]⟩,h)else match h.get k with
    |some (.cells cs t w true)=>if l.length<4611686018427387904/\b+l.length<=cs.length then(K5 ((cs.drop b).take l.length)).map λy=>(Value.tuple ⟨[]⟩,h.set k (.cells (cs.take b++(l6 y).map zV++cs.drop (b+l.length)) t w true))else none
    |_=>none)=_
   rw[if_neg e,p];dsimp only;rw[if_pos (⟨Nat.lt_of_le_of_lt x (by decide),by omega⟩:l.length<4611686018427387904/\b+l.length<=cs.length),m,EY];rfl
  ·rw[f,Nat.mul_one,qC,append_assoc,List.drop_append,drop_eq_nil_of_le (by rw[length_take];omega),List.nil_append,show b-(cs.take b).length=0 by rw[length_take];omega,drop_zero,List.take_append_of_le_length (by omega),take_of_length_le (by omega)]
  ·rw[length_append,length_append,length_take,length_drop,B];omega
theorem Ok.del{b:ae}(a:Ok b h){k:Nat}(f:b.next<=k)(d:Wf b):Ok b (h.del k):=by
 refine⟨ae.HE a.wf k,λj B c=>?_,a.nx⟩;rw[ae.dM,if_neg (λe=>by have:=d _ _ c;omega)];exact a.ext _ _ c
abbrev Qr(kc:Nat):Value:= .func (.func 82) ⟨[]⟩ ⟨[pA kc]⟩
abbrev tmA(ks kc:Nat):List Value:=[nA,Qr kc,pA ks,undef,nA,undef,Qr kc,undef,undef,undef,undef,undef,undef]
theorem hcA:rO (fB [1,0,1,0,0] fX.body) (fB [1,0,1,0,1] fX.body)=true:=by kernel_rfl
noncomputable def MK(a:LSt)(ks kc:Nat):dN:= .loop a (tmA ks kc) [7] (fB [1,0,1,0,0] fX.body) (fB [1,0,1,0,1] fX.body) hcA
structure YI(hb g:ae)(ks ky kc:Nat)(l:List Int):Prop where
 ok:Ok hb g
 box:∃a n c,g.get ks=some (.cells [.slice a n c] 22 0 true)/\fb hb g 3 1 (.slice a n c) (l.map qi)/\∀j,eU (.slice a n c)=some j->j≠ks/\j≠ky
 lp:g.get ky=some (MK .ready ks kc)
 gs:hb.next<=ks
 gy:hb.next<=ky
 ne:ks≠ky
section
variable {hb g:ae} {ks ky kc:Nat} {l:List Int}
theorem Vs(w:Wf hb)(V:YI hb g ks ky kc l)(q:Int)(U:l.length<=100000):FW SS (YB+ky) [.int .i64 q] g (λv S=>v = .bool true/\YI hb S ks ky kc (l++[q])):=by
 obtain⟨K,⟨a,n,c,L,T,z⟩,J,M,G,x⟩:=V;refine Vr (X:=fX) (p:=[1,0,1,0]) (hc:=hcA) J rfl rfl (by kernel_rfl) (by kernel_rfl) ?_;have x2:=K.wf _ _ L;have x4:=K.wf _ _ J;refine D6 (ks:=ks) (q:=q) ?_;refine⟨rfl,J,?_⟩;have m:∀j B,j≠ky->g.get j=some B->(g.set ky (MK .busy ks kc)).get j=some B:=λj B b k=>by rw[ae.aw,if_neg b];exact k
 have D:Ok hb (g.set ky (MK .busy ks kc)):=K.set _ G (by omega) w;have E:=m ks _ x L;have P:(g.set ky (MK .busy ks kc)).get ky=some (MK .busy ks kc):=by rw[ae.aw,if_pos rfl]
 have Q:=T.kA (h':=g.set ky (MK .busy ks kc)) λj B b k=>m j B (z j b).2 k;have x1:(g.set ky (MK .busy ks kc)).next=g.next:=rfl;show TT SS fX [1,0,1,0,1] _ (g.set ky (MK .busy ks kc)) _;generalize g.set ky (MK .busy ks kc)=f at*;have y:=(Ok.refl D.wf).push (.cells [.int .i64 q] 3 1 true);have k3:=aI f (.cells [.int .i64 q] 3 1 true);obtain⟨d,u,s,O,W,N,o,C,R,x0⟩:=SP w (D.trans y) (Q.ok y) k3 U;have F:=C ks _ (y.ext _ _ E) (λe=>(z ks e).1 rfl);have A:=C ky _ (y.ext _ _ P) (λe=>(z ky e).2 rfl);have x3:(f.push (.cells [.int .i64 q] 3 1 true)).next=f.next+1:=rfl;have Y:=jD (t:=22) (i:=0) adz F (by simp) (v:= .slice d u s) (by cases d<;>rfl) (by cases d<;>rfl);have Z:aj SS.P 22 f (pA ks)=some (.slice a n c):=cq sc Rl E (by simp);refine D7 (ks:=ks) (q:=q) ⟨a,n,c,Z,_,_,_,Ow q,d,u,s,O,W,_,Y,?_⟩;generalize O.app (f.push (.cells [.int .i64 q] 3 1 true))=g4 at*;dsimp only[dJ.app];refine⟨?_,true,.ready,rfl,rfl,?_⟩
 ·rw[ae.aw,if_neg (Ne.symm x)];exact A
 have r:∀j,eU (.slice d u s)=some j->j≠ks/\j≠ky:=λj b=>by
  rcases R j b with h|h
  ·omega
  ·exact z j h
 have I:=o.wf _ _ F;have H:=o.wf _ _ A;refine⟨(o.set _ M I w).set _ G H w,⟨d,u,s,?_,N.kA λj B b k=>?_,r⟩,?_,M,G,x⟩
 ·rw[ae.aw,if_neg x,ae.aw,if_pos rfl];rfl
 ·rw[ae.aw,if_neg (r j b).2,ae.aw,if_neg (r j b).1];exact k
 ·show(ae.set _ ky (MK .ready ks kc)).get ky=_;rw[ae.aw,if_pos rfl]
theorem X6{c:Nat}{L:List Int}(w:Wf hb)(b:YI hb g ks ky kc [])(t:hb.get kc=some (.cells [.slice a n c] 22 0 true))(r:cM hb (.slice a n c) L)(u:L.length<=100000):FW SS 82 [.func (.yield ky) ⟨[]⟩ ⟨[]⟩,pA kc] g (λ_ l=>YI hb l ks ky kc L):=by
 obtain rfl:=cM.len r;have k:aj SS.P 22 g (pA kc)=some (.slice a L.length c):=cq sc Rl (b.ok.ext _ _ t) (by simp);refine X5 ky kc g _ ⟨a,L.length,c,k,?_⟩;refine A5 ky kc a L.length c (λh i g=>i<=L.length/\h=L.length-i/\YI hb g ks ky kc (L.take i)) _ (λh i=>?_) L.length (i:=0) ⟨Nat.zero_le _,rfl,by simpa using b⟩;clear k b;intros;rename_i v f;obtain⟨y,rfl,b⟩:=f;refine aa (λq=>?_) (λq=>?_)
 ·have j:i<L.length:=by have:=dT q;omega
  obtain⟨p,s,m⟩:=cM.at_ (cM.ok r b.ok) j;refine⟨_,s,_,m,(Vs w b _ (by rw[length_take];omega)).mono ?_⟩;rintro _ x ⟨rfl,o⟩;refine⟨_,rfl,aa (λe=>by cases e) (λ_=>?_)⟩;rw[aO (n:=L.length) (by omega) (by omega)];refine bW (L.length-(i+1)) (by omega) ⟨by omega,rfl,?_⟩;rw[gT (d:=0) j];exact o
 ·have q:=dF q;rw[take_of_length_le (by omega)]at b;exact b
theorem N8{c:Nat}(w:Wf h)(q:h.get kc=some (.cells [.slice a n c] 22 0 true))(r:cM h (.slice a n c) p)(y:p.length<=100000):FW SS 99 [nA,Qr kc] h (λv l=>fb h l 3 1 v (p.map qi)/\Ok h l):=by
 refine N7 none 0 0 kc h _ ⟨_,Yz none 0 0,?_⟩;have i:=(Ok.refl w).push (.cells [nA] 22 0 true);have C:=aI h (.cells [nA] 22 0 true);have J:(h.push (.cells [nA] 22 0 true)).next=h.next+1:=rfl;generalize h.push (.cells [nA] 22 0 true)=b at*;refine ab0 (f:= .tmp 6) (ps:= #[7]) (g:=82) (first:=[]) (cap:=[pA kc]) (hc:=hcA) (by kernel_rfl) rfl rfl ⟨by unfold YB;decide,by kernel_rfl⟩ ?_;show FW SS 82 [.func (.yield b.next) ⟨[]⟩ ⟨[]⟩,pA kc] (b.push (MK .ready h.next kc)) _;have o:=(Ok.refl i.wf).push (MK .ready h.next kc);have t:=aI b (MK .ready h.next kc);have A:YI h (b.push (MK .ready h.next kc)) h.next b.next kc []:=⟨i.trans o,⟨none,0,0,o.ext _ _ C,fb.nil _ _ _ _,λj e=>by cases e⟩,t,Nat.le_refl _,by omega,by omega⟩
 refine(X6 w A q r y).mono ?_;rintro v d ⟨I,⟨a,n,c,z,x,F⟩,D,K,s,E⟩;refine⟨.normal,by rw[D];rfl,?_⟩;have m:Ok h (d.del b.next):=Ok.del I s w;have k:(d.del b.next).get h.next=some (.cells [.slice a n c] 22 0 true):=by rw[ae.dM,if_neg E];exact z
 have H:aj SS.P 22 (d.del b.next) (pA h.next)=some (.slice a n c):=cq sc Rl k (by simp);exact D8 (ks:=h.next) ⟨a,n,c,H,x.kA λj B G u=>(by rw[ae.dM,if_neg (F j G).2];exact u),m⟩
theorem Wq{c:Nat}(w:Wf h)(f:h.get kc=some (.cells [.slice a n c] 22 0 true))(r:cM h (.slice a n c) p)(d:p.length<=100000):FW SS 80 [Qr kc] h (λv b=>fb h b 3 1 v (p.map qi)/\Ok h b):=by
 refine Wp kc h _ ((N8 w f r d).mono ?_);rintro v g ⟨o,e⟩;obtain⟨j,i,rfl⟩:=o.XO;exact⟨_,_,_,rfl,o,e⟩
theorem UA{c:Nat}(w:Wf h)(j:h.get kc=some (.cells [.slice a n c] 22 0 true))(r:cM h (.slice a n c) p)(b:p.length<=100000):FW SS 53 [Qr kc] h (λv d=>fb h d 3 1 v ((l6 p).map qi)/\Ok h d):=by
 refine Uz kc h _ ((Wq w j r b).mono ?_);rintro v g ⟨o,i⟩;obtain⟨m,l,rfl⟩:=o.XO;refine⟨_,_,_,rfl,(Qy w i o b).mono ?_⟩;rintro v k ⟨rfl,f,e⟩;exact⟨rfl,f,e⟩
theorem X9{c:Nat}(w:Wf h):FW SS 54 [.slice a n c] h (λv b=>v=Qr h.next/\b.get h.next=some (.cells [.slice a n c] 22 0 true)/\Ok h b):=
 X8 a n c h _ ⟨_,Yz a n c,rfl,aI h _,(Ok.refl w).push _⟩
end
end
section
def comp(l:List Int)(i:Nat):List Int:=(List.range i).flatMap λj=>if 1<=j/\l.getD j 0=l.getD (j-1) 0 then[]else[l.getD j 0]
theorem tY(l:List Int)(i:Nat):comp l (i+1)=comp l i++(if 1<=i/\l.getD i 0=l.getD (i-1) 0 then[]else[l.getD i 0]):=by
 unfold comp;rw[range_succ,List.flatMap_append];simp
section
variable {h0 g:ae} {kb off n c N:Nat} {l D:List Int}
structure sH(h0:ae)(kb off n N:Nat)(D:List Int)(g:ae):Prop where
 blk:∃cs,g.get kb=some (.cells cs 3 1 true)/\(cs.drop off).take n=D.map zV/\cs.length=N
 len:D.length=n
 ok:Ok h0 g
 fit:off+n<=N
 nb:h0.next<=kb
theorem sH.room(r:sH h0 kb off n N D g)(m:Nat):sH h0 kb off n N D (Go.Ab.room g m):=⟨r.blk,r.len,r.ok.room m,r.fit,r.nb⟩
theorem sH.rd0(r:sH h0 kb off n N D g)(c:Nat):Rd g 3 (.slice (some ⟨kb,off,none⟩) n c) (wW D):=by
 obtain⟨cs,a,b,d⟩:=r.blk;exact(.inr ⟨kb,off,cs,c,true,by rw[jr,r.len],a,by rw[jr,r.len];exact b⟩)
theorem sH.rd(r:sH h0 kb off n N D g)(c:Nat):cM g (.slice (some ⟨kb,off,none⟩) n c) D:=cM.Nm (r.rd0 c)
theorem sH.rdF(r:sH h0 kb off n N D g){k:Nat}(f:k<=n)(c:Nat):cM g (.slice (some ⟨kb,off+k*1,none⟩) (n-k) c) (D.drop k):=by
 obtain⟨cs,b,d,e⟩:=r.blk;have a:(D.drop k).length=n-k:=by rw[length_drop,r.len]
 refine cM.Nm (.inr ⟨kb,off+k*1,cs,c,true,by rw[jr,a],b,?_⟩);rw[jr,a,Nat.mul_one,<-List.drop_drop];have:((cs.drop off).drop k).take (n-k)=((cs.drop off).take n).drop k:=by rw[List.drop_take]
 rw[this,d];unfold wW;rw[List.map_drop];rfl
theorem sH.put(w:Wf h0)(r:sH h0 kb off n N D g){k:Nat}(e:k<n)(z:Int):∃u:dJ,ah SS.P 3 (.pointer (some ⟨kb,off+k,none⟩)) (.int .i64 z) g=some (undef,u)/\sH h0 kb off n N (D.set k z) (u.app g):=by
 obtain⟨cs,a,d,c⟩:=r.blk;have b:=r.fit;refine⟨_,jD zs3 a (i:=off+k) (by omega) (v:= .int .i64 z) rfl rfl,⟨_,by show(g.set kb _).get kb=_;rw[ae.aw,if_pos rfl],?_,by rw[length_set];exact c⟩,by rw[length_set];exact r.len,r.ok.set _ r.nb (r.ok.wf _ _ a) w,b,r.nb⟩;rw[List.drop_set,if_neg (by omega),List.take_set,d,show off+k-off=k by omega,map_set];rfl
theorem sH.clr(w:Wf h0)(r:sH h0 kb off n N D g){k:Nat}(o:k<n)(d:Nat):∃u:dJ,yX SS.P 22 (.slice (some ⟨kb,off+k*1,none⟩) (n-k) d) g=some (undef,u)/\∃a,sH h0 kb off n N a (u.app g)/\a.take k=D.take k:=by
 obtain⟨cs,b,f,m⟩:=r.blk;have c:=r.fit;have h:cX (iv 0).cells.toList (n-k)=List.replicate (n-k) (zV 0):=ni _ _;refine⟨.set kb (.cells (cs.take (off+k)++List.replicate (n-k) (zV 0)++cs.drop (off+k+(n-k))) 3 1 true),?_,D.take k++List.replicate (n-k) 0,⟨⟨_,by show(g.set kb _).get kb=_;rw[ae.aw,if_pos rfl],?_,?_⟩,?_,r.ok.set _ r.nb (r.ok.wf _ _ b) w,c,r.nb⟩,?_⟩
 ·unfold yX;rw[sc];dsimp only;rw[Y3];dsimp only;rw[if_neg (by omega),h,Nat.mul_one];unfold storeAt;rw[b];dsimp only;rw[if_pos ⟨by simp;omega,by simp[zV,dI]⟩,length_replicate];rfl
 ·have l:D.take k=D.take k:=rfl;rw[append_assoc,List.drop_append,length_take,Nat.min_eq_left (by omega),List.drop_append,length_replicate];have j:off-(off+k)=0:=by omega
  rw[j,drop_zero,show 0-(n-k)=0 by omega,drop_zero];have e:(cs.take (off+k)).drop off=(cs.drop off).take k:=by rw[List.drop_take,show off+k-off=k by omega]
  rw[e];have i:(cs.drop off).take k=(D.take k).map zV:=by
   have:(cs.drop off).take k=((cs.drop off).take n).take k:=by rw[take_take,Nat.min_eq_left (by omega)]
   rw[this,f,List.map_take]
  rw[i,<-append_assoc,List.take_append_of_le_length (by simp[r.len];omega),take_of_length_le (by simp[r.len];omega),map_append,List.map_replicate]
 ·rw[length_append,length_append,length_take,length_replicate,length_drop];omega
 ·rw[length_append,length_take,length_replicate,r.len];omega
 ·rw[List.take_append_of_le_length (by rw[length_take,r.len];omega),take_take,Nat.min_self]
end
theorem Uu{g:ae}{off n c z:Nat}{cs:List Value}(b:g.get k=some (.cells cs 3 1 true))(f:z<=n)(e:n<=bN c):bO SS.P 22 (.slice (some ⟨k,off,none⟩) n c) none (some (.int .i64 (z:Int))) none g=some (.slice (some ⟨k,off,none⟩) z c):=by
 unfold bO;dsimp only;rw[sc];dsimp only[fh];rw[Vv,b];dsimp only;rw[if_pos (.inl rfl),if_pos (by omega)];have a:(((0:Nat):Int)).toNat=0:=rfl;have d:((z:Int)-((0:Nat):Int)).toNat=z:=by omega
 rw[a,d,Nat.zero_mul,Nat.add_zero,Nat.sub_zero]
theorem R9{h0:ae}(w:Wf h0)(ok:Ok h0 h){v:Value}{l:List Int}(o:fb h0 h 3 1 v (l.map qi))(hl:l.length<=100000):FW SS 52 [v] h (λr h'=>∃a n c,r = .slice a n c/\Rd h' 3 (.slice a n c) (wW (comp l l.length))/\Ok h0 h'):=by
 have J:=Z6 o;by_cases K:l.length<2
 ·obtain⟨a,c,rfl⟩:=o.XO;rw[lM]at J⊢;refine IB a l.length c h _ (aa (λ_=>⟨a,l.length,c,rfl,?_,ok⟩) (λe=>by have:=dF e;omega));have:comp l l.length=l:=by
   match l,K with
   |[],_=>rfl
   |[x],_=>rfl
   |x::y::r,K=>simp at K;omega
  rw[this];exact J
 obtain⟨_,⟨_,he⟩|⟨kb,off,cs,c,rfl,nb,Q,M,Z,N⟩⟩:=o
 ·exfalso;have:l=[]:=by simpa using he
  rw[this]at K;simp at K
 rw[lM]at M N;rw[lM]at J⊢;rw[Nat.mul_one,qC]at M;rw[Nat.mul_one]at Z;generalize x8:l.length=n at*;have r0:sH h0 kb off n cs.length l h:=⟨⟨cs,Q,M,rfl⟩,x8,ok,by omega,nb⟩
 refine IB _ n c h _ (aa (λe=>by have:=dT e;omega) (λ_=>?_));refine yZ _ n c (λV k g=>1<=k/\k<=n/\V=n-k/\sH h0 kb off n cs.length l g/\comp l k=l.take k) _ (λV k=>?_) (n-1) (k:=1) ⟨by omega,by omega,rfl,r0,?_⟩
 rotate_left
 ·rw[gT (d:=0) (by omega)];have:comp l 1=[l.getD 0 0]:=by rw[tY,if_neg (by omega)];rfl
  rw[this];rfl
 intros;rename_i g x0;obtain⟨k1,k2,k3,rz,hc⟩:=x0;refine aa (λq=>?_) (λq=>?_)
 ·have Q:k<n:=by have:=dT q;omega
  obtain⟨s,rfl⟩:∃s,k=s+1:=⟨k-1,by omega⟩
  have B:=rz.room 10;obtain⟨p,e1,e2⟩:=cM.at_ (B.rd c) (i:=s+1) (by omega);obtain⟨p',e3,e4⟩:=cM.at_ (B.rd c) (i:=s) (by omega);rw[zZ s (by omega)];have z:=tY l (s+1);rw[show s+1-1=s by omega]at z;refine⟨_,e1,_,e2,_,e3,_,e4,aa (λC=>?_) (λC=>?_)⟩
  ·have C:l.getD (s+1) 0=l.getD s 0:=by simpa using C
   rw[if_pos ⟨by omega,C⟩,List.append_nil,hc]at z;obtain⟨y6,g1,g2,g3⟩:=B.blk;refine⟨_,_,_,Dk sc Vv g1 (by omega) N,?_⟩;clear e1 e2 e3 e4 C;generalize y5:s+1=f at*;refine zb _ n c _ (n-f) (c-f) _ V (λS k j g=>1<=j/\j<=n-f/\S=n-f-j/\∃D,sH h0 kb off n cs.length D g/\(comp l (f+j)).length=k/\D.take k=comp l (f+j)/\k+1<=f+j/\∀p,f+j<=p+1->p<n->D.getD p 0=l.getD p 0) _ (λS k j=>?_) (n-f-1) (k:=f) (j:=1) ⟨by omega,by omega,rfl,l,B,by rw[z,length_take];omega,by rw[z],by omega,λ_ _ _=>rfl⟩;intros;rename_i g4 W;obtain⟨j1,j2,j3,D,F,dl,Y,dk,R⟩:=W;have y0:=F.len;refine aa (λU=>?_) (λU=>?_)
   ·have hj:j<n-f:=by have:=dT U;omega
    obtain⟨m,rfl⟩:∃m,j=m+1:=⟨j-1,by omega⟩
    have A:=F.room 10;have y7:(D.drop f).length=n-f:=by rw[length_drop,y0]
    obtain⟨p1,x1,O⟩:=cM.at_ (A.rdF (by omega:f<=n) (c-f)) (i:=m+1) (by omega);obtain⟨p2,x3,X⟩:=cM.at_ (A.rdF (by omega:f<=n) (c-f)) (i:=m) (by omega);have gd:∀i,(D.drop f).getD i 0=D.getD (f+i) 0:=λi=>by rw[gD,List.getElem?_drop,<-gD]
    rw[gd]at O X;rw[R (f+(m+1)) (by omega) (by omega)]at O;rw[R (f+m) (by omega) (by omega)]at X;have t:=tY l (f+(m+1));rw[show f+(m+1)-1=f+m by omega]at t;have L:k<n:=by omega
    rw[zZ m (by omega),aO (i:=m+1) (n:=n) (by omega) (by omega)];refine⟨_,x1,_,O,_,x3,_,X,aa (λE=>?_) (λE=>?_)⟩
    ·have E:l.getD (f+(m+1)) 0≠l.getD (f+m) 0:=by simpa using E
     rw[if_neg (λe=>E e.2)]at t;obtain⟨u,st,x6⟩:=A.put w L (l.getD (f+(m+1)) 0);have x7:aA SS.P 22 (.slice (some ⟨kb,off,none⟩) n c) (iA k)=some (.pointer (some ⟨kb,off+k,none⟩)):=by
      have:=OQ (P:=SS.P) sc Vv (k:=kb) (off:=off) (n:=n) (c:=c) (ik:= .i64) (i:=(k:Int)) (by omega) (by omega);rw[this];have e:off+((k:Int)).toNat*1=off+k:=by omega
      rw[e]
     rw[aO (i:=k) (n:=n) (by omega) (by omega)];refine⟨_,x1,_,O,_,x7,u,st,iT (n-f-(m+1+1)) (by omega) ⟨by omega,by omega,rfl,_,x6,?_,?_,by omega,λp x9 I=>?_⟩⟩
     ·rw[show f+(m+1+1)=f+(m+1)+1 by omega,t,length_append,dl];rfl
     ·rw[show f+(m+1+1)=f+(m+1)+1 by omega,t,gT (d:=0) (by rw[length_set];omega),lj (Nat.le_refl _),Y,dq (by omega),if_pos rfl]
     ·rw[dq (by omega),if_neg (by omega)];exact R p (by omega) I
    ·have E:l.getD (f+(m+1)) 0=l.getD (f+m) 0:=by simpa using E
     rw[if_pos ⟨by omega,E⟩,List.append_nil]at t;refine iT (n-f-(m+1+1)) (by omega) ⟨by omega,by omega,rfl,D,A,?_,?_,by omega,λp x9 I=>R p (by omega) I⟩
     ·rw[show f+(m+1+1)=f+(m+1)+1 by omega,t];exact dl
     ·rw[show f+(m+1+1)=f+(m+1)+1 by omega,t];exact Y
   ·have hj:j=n-f:=by have:=dF U;omega
    have L:k<n:=by omega
    obtain⟨y4,y1,y2,y3⟩:=F.blk;obtain⟨u,cl,D',A,x5⟩:=F.clr w L (c-k);obtain⟨G,z1,z2,z3⟩:=A.blk;have T:comp l n=D.take k:=by rw[Y,hj,show f+(n-f)=n by omega]
    refine⟨_,_,_,Dk sc Vv y1 (by omega) N,undef,u,Eq.trans (b:=yX SS.P 22 (.slice (some ⟨kb,off+k*1,none⟩) (n-k) (c-k)) g4) (by kernel_rfl) cl,_,_,_,Uu z1 (by omega) N,_,_,_,rfl,?_,A.ok⟩;have H:(comp l n).length=k:=by rw[T,length_take];omega
    refine(.inr ⟨kb,off,G,c,true,by rw[jr,H],z1,?_⟩);rw[jr,H];have:(G.drop off).take k=((G.drop off).take n).take k:=by rw[take_take,Nat.min_eq_left (by omega)]
    rw[this,z2,<-List.map_take,x5,<-T];rfl
  ·have C:l.getD (s+1) 0≠l.getD s 0:=by simpa using C
   rw[if_neg (λe=>C e.2),hc]at z;rw[aO (i:=s+1) (n:=n) (by omega) (by omega)];refine bW (n-(s+1+1)) (by omega) ⟨by omega,by omega,rfl,B,?_⟩;rw[z];exact(gT (d:=0) (by omega)).symm
 ·have Q:k=n:=by have:=dF q;omega
  subst Q;refine⟨_,_,_,rfl,?_,rz.ok⟩;rw[hc,take_of_length_le (by omega)];exact rz.rd0 c
end
variable{z:Int}
theorem aac{d:ae}(r:Rd g 3 v (wW p))(h:Kp g d):Rd d 3 v (wW p):=by
 rcases r with⟨a,b⟩|⟨k,e,cs,c,i,a,b,f⟩
 ·exact .inl ⟨a,b⟩
 ·exact .inr ⟨k,e,cs,c,i,a,h.2 _ _ _ _ _ b (by decide) (by decide) (by decide),f⟩
def nO(l:List Int):List Int:=comp (l6 l) (l6 l).length
theorem IA(l:List Int):∀i,(comp l i).length<=i
 |0=>Nat.le_refl _
 |i+1=>by
  rw[tY,length_append];have:=IA l i;split
  ·simp;omega
  ·simp;omega
theorem FO(l:List Int):(l6 l).length=l.length:=List.length_mergeSort l
theorem S6(l:List Int):(nO l).length<=l.length:=by
 unfold nO;exact Nat.le_trans (IA _ _) (Nat.le_of_eq (FO l))
def GO(a:Int)(l:List Int):List iN:=l.map λs=>⟨s,s,da a,1⟩
def CK(a:Int)(l:List Int):bC:=⟨a,0,da a,[⟨[],GO a (nO l)⟩,⟨da a,[]⟩]⟩
def xb(a:Int)(l:List Int):bC×Int:=if(decide (1<=a/\a<=3)&&l.all qL)=true then(CK a l,0)else(tP,1)
theorem VZ{c:Nat}{l:List Int}(w:Wf h)(r:cM h (.slice a n c) l)(hl:l.length<=10000):FW SS 21 [.int .i64 z,.slice a n c] h (A2 h (xb z l)):=by
 obtain rfl:=cM.len r;have e:=(Ok.refl w).push mG;have o:=aI h mG;have nb:h.next<(h.push mG).next:=lt_succ_self _;refine VY z a _ c h _ ⟨_,qy,?_⟩;generalize h.push mG=K at*;unfold xb;refine aa (λq=>?_) (λq=>aa (λt=>?_) (λt=>?_))
 ·have:=dT q;rw[decide_eq_false (show ¬(1<=z/\z<=3) by omega),Bool.false_and,if_neg Bool.false_ne_true];exact ib w e o (Nat.le_refl _) 1
 ·have:=dT t;rw[decide_eq_false (show ¬(1<=z/\z<=3) by omega),Bool.false_and,if_neg Bool.false_ne_true];exact ib w e o (Nat.le_refl _) 1
 have q:=dF q;have t:=dF t;rw[decide_eq_true (show 1<=z/\z<=3 by omega),Bool.true_and];refine(Sc (cM.ok r e) (by omega)).mono ?_;rintro _ N ⟨rfl,A⟩;obtain rfl:K=N:=A.symm;refine⟨_,rfl,aa (λj=>?_) (λj=>?_)⟩
 ·rw[not_eq_true']at j;rw[j,if_neg Bool.false_ne_true];exact ib w e o (Nat.le_refl _) 1
 rw[not_eq_false']at j;rw[j,if_pos rfl];refine(mh z e.wf).mono ?_;rintro _ g3 ⟨k,rfl,D⟩;have u:=D.ui ((Ok.refl D.ok.wf).room 10);refine⟨_,rfl,(ic e.wf u (by simp) []).mono ?_⟩;rintro _ Y ⟨rfl,H,V⟩;refine⟨_,rfl,lq ⟨_,zg k,_,H.one,(ic e.wf H (by simp) _).mono ?_⟩⟩;rintro _ g5 ⟨rfl,x,U⟩;refine⟨_,rfl,⟨u.one,kF _⟩,(X9 x.ok.wf).mono ?_⟩;rintro _ g6 ⟨rfl,T,m⟩;have R:=cM.ok r ((e.trans x.ok).trans m);refine⟨_,_,_,rfl,(UA m.wf T R (by omega)).mono ?_⟩;rintro v g7 ⟨F,S⟩;obtain⟨a7,X,rfl⟩:=F.XO;refine⟨_,_,_,rfl,(R9 m.wf S F (by rw[FO];omega)).mono ?_⟩;rintro _ Z ⟨E,n8,G,rfl,J,O⟩;obtain rfl:=cM.len (cM.Nm J);have P:=x.ui (m.trans O);refine⟨_,_,_,rfl,?_⟩;have W:=S6 l;rw[<-nO]at*;refine AQ z a l.length c h.next k 0 1 E (nO l).length G (λC i g=>i<=(nO l).length/\C=(nO l).length-i/\Rd g 3 (.slice E (nO l).length G) (wW (nO l))/\BS K g k z 0 (da z) [⟨[],GO z ((nO l).take i)⟩,⟨da z,[]⟩]) _ (λC i=>?_) (nO l).length (i:=0) ⟨Nat.zero_le _,rfl,J,P⟩;intros;rename_i g B;obtain⟨f1,f2,L,b⟩:=B;have f:dc [(⟨[],GO z ((nO l).take i)⟩:dW),⟨da z,[]⟩]=i:=by
  rw[dS,dS];show(GO z ((nO l).take i)).length+(0+0)=i;unfold GO;rw[lM,length_take];omega
 refine aa (λp=>?_) (λp=>?_)
 ·have y:i<(nO l).length:=by have:=dT p;omega
  obtain⟨pp,M,A⟩:=cM.at_ (cM.Nm L) y;refine⟨_,M,_,A,_,zg k,_,b.one,_,YF _ _ _ _,(wK (s:=0) e.wf b rfl (by rw[f];omega) ⟨(nO l).getD i 0,(nO l).getD i 0,da z,1⟩).mono ?_⟩;rintro _ g9 ⟨rfl,Q,I⟩;rw[aO y (by omega)];refine⟨rfl,bW ((nO l).length-(i+1)) (by omega) ⟨by omega,rfl,aac L I,?_⟩⟩;have:GO z ((nO l).take (i+1))=GO z ((nO l).take i)++[⟨(nO l).getD i 0,(nO l).getD i 0,da z,1⟩]:=by
   rw[gT (d:=0) y];unfold GO;rw[map_append];rfl
  rw[this];exact Q
 ·obtain rfl:i=(nO l).length:=by have:=dF p;omega
  rw[take_of_length_le (Nat.le_refl _)]at b f;exact oO w e.wf b (by simp) (by rw[f];omega) e o (Nat.le_refl _)
variable{Z:List (List UInt8)}
section
theorem xX:SS.P.underlying 106=some (.slice 103):=by kernel_rfl
theorem yu:aE SS.P 103=some 1:=by kernel_rfl
theorem aaL:Go.Ab.isAgg SS.P 103=false:=by kernel_rfl
noncomputable def UO:TypeInfo:=(SS.P.info? 103).getD default
theorem UP:SS.P.info? 103=some UO:=by kernel_rfl
theorem Mr:UO.size=1:=by kernel_rfl
theorem Ke:UO.bytes=24:=by kernel_rfl
theorem Yo:zeroOf SS.P 103=some nA:=by kernel_rfl
theorem abP(n:Nat)(a:n<=100000):bZ SS.P 106 (.int .i64 (n:Int)) (.int .i64 (n:Int))=some (.cells (List.replicate n nA) 103 1 true,my n n):=by
 unfold bZ bU;dsimp only;rw[xX]
 try dsimp only
 change (match SS.P.info? 103,zeroOf SS.P 103 with
  |some i,some z=>(if z.cells.size=i.size/\0<i.size/\(0:Int)<=(n:Int)/\(n:Int)<=(n:Int)/\(n:Int)*i.bytes<=140737488355328/\(n:Int)<=1099511627776 then some (dN.cells (cX z.cells.toList (n:Int).toNat) 103 i.size true,λk=>Value.slice (some ⟨k,0,none⟩) (n:Int).toNat (n:Int).toNat)else none)
  |_,_=>none)=_
 rw[UP,Yo];dsimp only;rw[Mr,Ke,if_pos ⟨rfl,by omega,by omega,Int.le_refl _,by omega,by omega⟩];have e:((n:Int)).toNat=n:=by omega
 rw[e,show(nA).cells.toList=[nA]from rfl,ni];rfl
theorem Ze{g:ae}{z:Nat}{cs:List Value}{l:Bool}(r:Rd g n v d)(p:g.get k=some (.cells cs m z l))(o:n≠m)(B:dN):Rd (g.set k B) n v d:=by
 rcases r with r|⟨h,b,e,c,f,j,a,i⟩
 ·exact .inl r
 ·exact .inr ⟨h,b,e,c,f,j,by rw[ae.aw,if_neg (λx=>by rw[x,p]at a;injection a with a;injection a with _ a;exact o a.symm)];exact a,i⟩
structure TB(h:ae)(kt X Y p:Nat)(kr:Nat->Nat)(cv:Nat->Nat->Value)(g:ae):Prop where
 out:g.get kt=some (.cells ((List.range X).map λa=>if a<p then vS (kr a) Y Y else nA) 103 1 true)
 row:∀a,a<p->g.get (kr a)=some (.cells ((List.range Y).map (cv a)) 107 1 true)
 new:h.next<=kt/\∀a,a<p->h.next<=kr a
 inj:∀a b,a<p->b<p->kr a=kr b->a=b
 ok:Ok h g
def Y0(cv:Nat->Nat->Value)(i j:Nat)(y:Value):Nat->Nat->Value:=λa b=>if a=i/\b=j then y else cv a b
section
variable {h:ae} {kt X Y p i j:Nat} {kr:Nat->Nat} {cv:Nat->Nat->Value} {g g':ae}
theorem TB.ui(t:TB h kt X Y p kr cv g)(o:Ok g g'):TB h kt X Y p kr cv g':=⟨o.ext _ _ t.out,λa b=>o.ext _ _ (t.row a b),t.new,t.inj,t.ok.trans o⟩
theorem TB.room(t:TB h kt X Y p kr cv g)(n:Nat):TB h kt X Y p kr cv (Go.Ab.room g n):=⟨t.out,t.row,t.new,t.inj,t.ok.room n⟩
theorem TB.VA(t:TB h kt X Y p kr cv g)(a:i<p)(b:p<=X):aj SS.P 103 g (.pointer (some ⟨kt,i,none⟩))=some (vS (kr i) Y Y):=by
 rw[cq nD aaL t.out (by simp;omega),Bx (by omega),if_pos a]
theorem TB.ldV(t:TB h kt X Y p kr cv g)(a:i<p)(b:j<Y):aj SS.P 107 g (.pointer (some ⟨kr i,j,none⟩))=some (cv i j):=by
 rw[cq Dj Ik (t.row i a) (by simp;omega),Bx b]
theorem TB.Xn(t:TB h kt X Y p kr cv g)(w:Wf h)(d:i<p)(s:j<Y){y:Value}(n:dI y=true)(m:y.cells = #[y]):∃u:dJ,ah SS.P 107 (.pointer (some ⟨kr i,j,none⟩)) y g=some (undef,u)/\TB h kt X Y p kr (Y0 cv i j y) (u.app g)/\(∀v l,Rd g 9 v l->Rd (u.app g) 9 v l)/\(∀k l,VB g k l->VB (u.app g) k l)/\(u.app g).next=g.next:=by
 have c:=t.row i d;refine⟨_,jD nj c (by simp;omega) n m,⟨?_,λa f=>?_,t.new,t.inj,t.ok.set _ (t.new.2 i d) (t.ok.wf _ _ c) w⟩,λv l r=>Ze r c (by decide) _,λk l b=>?_,rfl⟩
 ·show(g.set (kr i) _).get kt=_;rw[ae.aw,if_neg (jZ t.out c (by decide))];exact t.out
 ·show(g.set (kr i) _).get (kr a)=_;rw[ae.aw];by_cases e:a=i
  ·subst e;rw[if_pos rfl];congr 2;refine ext_getElem (by simp) λb o q=>?_;rw[List.getElem_set];simp only[List.getElem_map,List.getElem_range];unfold Y0;by_cases e:j=b
   ·subst e;simp
   ·rw[if_neg e,if_neg (λx=>e x.2.symm)]
  ·rw[if_neg (λx=>e (t.inj a i f d x)),t.row a f];congr 2;refine List.map_congr_left λb _=>?_;unfold Y0;rw[if_neg (λx=>e x.1)]
 ·show(g.set (kr i) _).get k=_;rw[ae.aw,if_neg (λx=>by rw[x]at b;have b:g.get (kr i)=_:=b;rw[c]at b;injection b with b;injection b with _ b;exact absurd b (by decide))];exact b
theorem TB.acL(t:TB h kt X Y p kr cv g)(w:Wf h)(y:p<X){i:Nat}(m:g.get i=some (.cells (List.replicate Y nA) 107 1 true))(v:h.next<=i)(j:∀a,a<p->kr a≠i)(n:∀b,cv p b=nA):∃u:dJ,ah SS.P 103 (.pointer (some ⟨kt,p,none⟩)) (sA i Y Y) g=some (undef,u)/\TB h kt X Y (p+1) (λa=>if a=p then i else kr a) cv (u.app g)/\(∀k l,VB g k l->VB (u.app g) k l)/\(u.app g).next=g.next:=by
 refine⟨_,jD yu t.out (by simp;omega) rfl rfl,⟨?_,λa o=>?_,⟨t.new.1,λa o=>?_⟩,λa b o x f=>?_,t.ok.set _ t.new.1 (t.ok.wf _ _ t.out) w⟩,λk l b=>?_,rfl⟩
 ·show(g.set kt _).get kt=_;rw[ae.aw,if_pos rfl];congr 2;refine ext_getElem (by simp) λb r s=>?_;rw[List.getElem_set];simp only[List.getElem_map,List.getElem_range];by_cases e:p=b
  ·subst e;rw[if_pos rfl,if_pos (by omega),if_pos rfl];rfl
  ·rw[if_neg e];by_cases q:b<p
   ·rw[if_pos q,if_pos (by omega),if_neg (by omega)]
   ·rw[if_neg q,if_neg (by omega)]
 ·show(g.set kt _).get _=_;by_cases e:a=p
  ·subst e;rw[if_pos rfl,ae.aw,if_neg (jZ m t.out (by decide)),m];congr 2;refine ext_getElem (by simp) λb r s=>?_;simp only[List.getElem_map,List.getElem_range,List.getElem_replicate];exact(n b).symm
  ·have:=t.row a (by omega);rw[if_neg e,ae.aw,if_neg (jZ this t.out (by decide))];exact this
 ·split
  ·exact v
  ·exact t.new.2 a (by omega)
 ·by_cases c:a=p<;>by_cases d:b=p
  ·omega
  ·rw[if_pos c,if_neg d]at f;exact absurd f.symm (j b (by omega))
  ·rw[if_neg c,if_pos d]at f;exact absurd f (j a (by omega))
  ·rw[if_neg c,if_neg d]at f;exact t.inj a b (by omega) (by omega) f
 ·show(g.set kt _).get k=_;rw[ae.aw,if_neg (jZ b t.out (by decide))];exact b
end
structure TV(kind:Int)(N X Y:Nat)(cv:Nat->Nat->Value)(T:List LM)(g:ae):Prop where
 len:T.length=X
 row:∀a,a<X->(T.getD a []).length=Y
 at_:∀a b,a<X->b<Y->∃(ad:Option Addr)(c:Nat),cv a b = .slice ad N c/\Rd g 9 (.slice ad N c) (eD (dE T a b))/\VV kind N (dE T a b)
section
variable {kind:Int} {N X Y i j:Nat} {cv:Nat->Nat->Value} {T:List LM} {g g':ae}
theorem Io{T:List LM}{X Y i j a b:Nat}(g:T.length=X)(f:∀a,a<X->(T.getD a []).length=Y)(c:i<X)(d:j<Y)(v:List (List UInt8)):dE (fg T i j v) a b=if a=i/\b=j then v else dE T a b:=by
 unfold dE fg;rw[dq (by omega)];by_cases e:a=i
 ·subst e;rw[if_pos rfl,dq (by rw[f a c];exact d)];by_cases e:b=j
  ·rw[if_pos e,if_pos ⟨rfl,e⟩]
  ·rw[if_neg e,if_neg (λx=>e x.2)]
 ·rw[if_neg e,if_neg (λx=>e x.1)]
theorem J2{T:List LM}{X Y i j:Nat}(c:T.length=X)(b:∀a,a<X->(T.getD a []).length=Y)(e:i<X)(f:j<Y)(v:List (List UInt8)):(fg T i j v).length=X/\∀a,a<X->((fg T i j v).getD a []).length=Y:=by
 unfold fg;refine⟨by rw[length_set];exact c,λa d=>?_⟩;rw[dq (by omega)];split
 ·rw[length_set];exact b i e
 ·exact b a d
theorem TV.ok(t:TV kind N X Y cv T g)(o:Ok g g'):TV kind N X Y cv T g':=⟨t.len,t.row,λa b j d=>by obtain⟨h,c,f,i,e⟩:=t.at_ a b j d;exact⟨h,c,f,i.ok o,e⟩⟩
theorem TV.put(t:TV kind N X Y cv T g)(f:i<X)(k:j<Y)(h:∀v l,Rd g 9 v l->Rd g' 9 v l){d:Option Addr}{c:Nat}{l:List (List UInt8)}(r:Rd g 9 (.slice d N c) (eD l))(u:VV kind N l):TV kind N X Y (Y0 cv i j (.slice d N c)) (fg T i j l) g':=by
 obtain⟨s,w⟩:=J2 t.len t.row f k l;refine⟨s,w,λa b q m=>?_⟩;rw[Io t.len t.row f k];unfold Y0;by_cases e:a=i/\b=j
 ·rw[if_pos e,if_pos e];exact⟨d,c,rfl,h _ _ r,u⟩
 ·rw[if_neg e,if_neg e];obtain⟨d,c,o,p,n⟩:=t.at_ a b q m;exact⟨d,c,o,h _ _ p,n⟩
end
def ZF(h g:ae)(N:Nat)(d:List (List UInt8))(cv:Nat->Nat->Value)(c:Nat->Nat->Nat)(f:Nat->Nat->Prop):Prop:=∀a b,f a b->cv a b=vS (c a b) N N/\VB g (c a b) d/\h.next<=c a b/\((a=0/\b=0)\/c a b≠c 0 0)
theorem ZF.mono{h g g':ae}{N:Nat}{cv:Nat->Nat->Value}{d:Nat->Nat->Nat}{f e:Nat->Nat->Prop}(z:ZF h g N Z cv d f)(p:∀k l,VB g k l->VB g' k l)(i:∀a b,e a b->f a b):ZF h g' N Z cv d e:=λa b c=>by
 obtain⟨m,n,j,o⟩:=z a b (i a b c);exact⟨m,p _ _ n,j,o⟩
theorem ZF.add{h g g':ae}{N i j:Nat}{cv:Nat->Nat->Value}{p:Nat->Nat->Nat}{f q:Nat->Nat->Prop}(z:ZF h g N Z cv p f)(u:∀k l,VB g k l->k<n)(y:∀k l,VB g k l->VB g' k l)(B:VB g' n Z)(w:h.next<=n)(c:(i=0/\j=0)\/f 0 0)(r:∀a b,q a b->f a b\/(a=i/\b=j))(A:i=0/\j=0->∀a b,¬f a b):ZF h g' N Z (Y0 cv i j (vS n N N)) (λa b=>if a=i/\b=j then n else p a b) q:=λa b o=>by
 unfold Y0;dsimp only;by_cases e:a=i/\b=j
 ·rw[if_pos e,if_pos e];refine⟨rfl,B,w,?_⟩;by_cases d:i=0/\j=0
  ·left;omega
  ·right;rw[if_neg (by omega)];rcases c with c|c
   ·exact absurd c d
   ·have:=u _ _ (z 0 0 c).2.1;omega
 ·rw[if_neg e,if_neg e];have m:f a b:=(r a b o).resolve_right e;obtain⟨t,v,s,x⟩:=z a b m;refine⟨t,y _ _ v,s,x.imp id λC=>?_⟩;by_cases d:0=i/\0=j
  ·exact absurd m (A ⟨d.1.symm,d.2.symm⟩ a b)
  ·rw[if_neg d];exact C
def Zf(kind:Int)(N:Nat)(g:ae)(b:Option Addr)(bn bc:Nat):Option LM->Prop
 |none=>b=none/\bn=0/\bc=0
 |some B=>(∃a,b=some a)/\bn=N/\KS 107 g (.slice b bn bc) B/\Sq kind N B
theorem Zf.ok{kind:Int}{N:Nat}{g g':ae}{b:Option Addr}{bn bc:Nat}{o:Option LM}(s:Zf kind N g b bn bc o)(k:Ok g g'):Zf kind N g' b bn bc o:=by
 cases o with
 |none=>exact s
 |some B=>exact⟨s.1,s.2.1,s.2.2.1.ok k,s.2.2.2⟩
section
variable {h:ae} {M:bC} {x a b:Option Addr} {z c bn bc:Nat} {V:List (List UInt8)} {o:Option LM}
theorem XD(w:Wf h)(i:NO M)(r:ei h (.slice x M.af.length z) M.af)(e:Rd h 9 (.slice a M.af.length c) (eD V))(d:VV M.kind M.af.length V)(f:Zf M.kind M.af.length h b bn bc o):FW SS 75 [.agg ⟨bT M x M.af.length z⟩,.slice a M.af.length c,.slice b bn bc] h (U5 h M.kind M.af.length (fK (aX M.kind) V o)):=by
 cases o with
 |none=>
  obtain⟨rfl,rfl,rfl⟩:=f;exact QM w r e d
 |some B=>
  obtain⟨⟨k,rfl⟩,rfl,g,j⟩:=f;exact U9 w i r e d g j
end
end
section
def acv(k kt N:Nat)(F K:Int)(v:OA)(M vc:Nat)(I J:Int)(Q:VH)(G:ae->Prop)(h:ae):Prop:=xA (aj SS.P 29 h (pA k)) λH=>FW SS 76 [(.agg ⟨H⟩),(.slice v M vc),(.int .i64 I),(.int .i64 J),(.bool false)] h λE a=>∃(o:OA)(q m:Nat),∃f:Int,E=(.tuple ⟨[(.slice o q m),(.int .i64 f)]⟩)/\au (((f:Int) !=0)) (Q (.tuple ⟨[(strOf []),(.int .i64 f)]⟩) a) (xP (aA SS.P 106 (sA kt N N) (.int .i64 F)) λi=>xL (aj SS.P 103 (room a 30) (.pointer (some i))) λc d b=>xP (aD SS.P 29 (pA k) 0) λx=>xI .i64 (aj SS.P 3 (room a 30) (.pointer (some x))) λy=>xP (aA SS.P 106 (sA kt N N) (.int .i64 F)) λz=>xL (aj SS.P 103 (room a 30) (.pointer (some z))) λA w u=>xP (aA SS.P 103 (.slice A w u) (.int .i64 K)) λs=>xL (aj SS.P 107 (room a 30) (.pointer (some s))) λC D r=>FW SS 77 [(.int .i64 y),(.slice C D r),(.slice o q m)] (room a 30) λt g=>∃(j:OA)(l p:Nat),∃e:Int,t=(.tuple ⟨[(.slice j l p),(.int .i64 e)]⟩)/\xP (aA SS.P 103 (.slice c d b) (.int .i64 K)) λB=>xU (ah SS.P 107 (.pointer (some B)) (.slice j l p) g) g λL n=>(aj SS.P 103 g (.pointer (some i))=some (.slice c d b)/\dA 4 (.slice c d b) (.slice c d b)=true)/\au (((e:Int) !=0)) (Q (.tuple ⟨[(strOf []),(.int .i64 e)]⟩) n) (G n))
theorem Ny(a:Option Addr)(n c:Nat):dI (.slice a n c)=true:=by cases a<;>rfl
section
variable {h0 h:ae} {M:bC} {x v:Option Addr} {z k kt X Y i j vc:Nat} {kr:Nat->Nat} {cv:Nat->Nat->Value} {T:List LM} {V:List (List UInt8)}
def LH(M:bC)(V:List (List UInt8))(a b:Int)(T:List LM)(i j:Nat):Option (List LM):=match kL (aX M.kind) (gm M) V a b with
 |none=>none
 |some s=>match np (aX M.kind) (dE T i j) s with
  |none=>none
  |some r=>some (fg T i j r)
theorem Vc(w:Wf h0)(O:NO M)(U:MB h0 k M x M.af.length z)(A:TB h0 kt X Y X kr cv h)(tv:TV M.kind M.af.length X Y cv T h)(Z:Rd h 9 (.slice v M.af.length vc) (eD V))(vv:VV M.kind M.af.length V)(a:i<X)(f:j<Y)(q r:Int){Q:VH}{G:ae->Prop}
  (n:LH M V q r T i j=none->∀g,Ok h0 g->Q (two [] 2) g)
  (p:∀R,LH M V q r T i j=some R->∀D g,TB h0 kt X Y X kr D g->TV M.kind M.af.length X Y D R g->Rd g 9 (.slice v M.af.length vc) (eD V)->G g):
  acv k kt X (i:Int) (j:Int) v M.af.length vc q r Q G h:=by
 have hn:=O.n;unfold LH at n p;have B:=U.ok A.ok;refine⟨_,B.all,(Vb A.ok.wf O B.row Z vv q r).mono ?_⟩;rintro _ g1 ⟨m,d⟩
 cases L:kL (aX M.kind) (gm M) V q r with
 |none=>
  rw[L]at d n;subst d;exact⟨_,_,_,_,rfl,aa (λ_=>n rfl _ (A.ok.trans m)) (λe=>by cases e)⟩
 | some s=>
  rw[L]at d n p;obtain⟨H,K,rfl,rs,vs⟩:=d;dsimp only at n p;have b:=(A.ui m).room 30;have E:TV M.kind M.af.length X Y cv T (Go.Ab.room g1 30):=(tv.ok m).ok ((Ok.refl m.wf).room 30);have P:=U.ok b.ok;obtain⟨ad,c,ec,rc,J⟩:=E.at_ i j a f;have C:=b.ldV a f;rw[ec]at C;refine⟨_,_,_,_,rfl,aa (λe=>by cases e) (λ_=>⟨_,CD xX yu a,_,_,_,b.VA a (Nat.le_refl _),_,dY _,_,P.l0,_,CD xX yu a,_,_,_,b.VA a (Nat.le_refl _),_,CD nD nj f,_,_,_,C,(Yh b.ok.wf hn rc J (Rd.ok rs ((Ok.refl m.wf).room 30)) vs).mono ?_⟩)⟩;rintro _ g2 ⟨I,d⟩;have o:=b.ui I;have N:=E.ok I
  cases W:np (aX M.kind) (dE T i j) s with
  |none=>
   rw[W]at d n;subst d;obtain⟨u,F,t,_,_,_⟩:=o.Xn w a f (y:=nA) rfl rfl;exact⟨_,_,_,_,rfl,_,CD nD nj f,u,F,⟨o.VA a (Nat.le_refl _),kf _ _ _⟩,aa (λ_=>n rfl _ t.ok) (λe=>by cases e)⟩
  |some l=>
   rw[W]at d p;obtain⟨H,K,rfl,rl,vl⟩:=d;obtain⟨u,F,t,S,_,_⟩:=o.Xn w a f (y:= .slice H M.af.length K) (Ny _ _ _) (by cases H<;>rfl);exact⟨_,_,_,_,rfl,_,CD nD nj f,u,F,⟨o.VA a (Nat.le_refl _),kf _ _ _⟩,aa (λe=>by cases e) (λ_=>p _ rfl _ _ t (N.put a f S rl vl) (S _ _ ((Rd.ok (Rd.ok Z m) ((Ok.refl m.wf).room 30)).ok I)))⟩
end
end
section
def RW(M:bC)(B:Option LM)(xs ys:List Int)(i:Nat)(T:List LM):Option (List UInt8):=match bd (qV (aX M.kind) (gm M) B xs ys) (xs.length+1-i) i T with
 |none=>none
 |some T=>oz (aX M.kind) (gm M) (dE T xs.length ys.length)
def Rc(M:bC)(B:Option LM)(xs ys:List Int)(i j:Nat)(T:List LM):Option (List UInt8):=match bd (mL (aX M.kind) (gm M) B xs ys i) (ys.length+1-j) j T with
 |none=>none
 |some T=>RW M B xs ys (i+1) T
def QW(M:bC)(B:Option LM)(xs ys:List Int)(i j:Nat)(V:List (List UInt8))(q:Nat)(T:List LM):Option (List UInt8):=match bd (oB (aX M.kind) (gm M) xs ys V i j) (4-q) q T with
 |none=>none
 |some T=>Rc M B xs ys i (j+1) T
section
variable {M:bC} {B:Option LM} {xs ys:List Int} {i j q:Nat} {V:List (List UInt8)} {T:List LM}
theorem Zd(a:i<xs.length+1):RW M B xs ys i T=Rc M B xs ys i 0 T:=by
 unfold RW Rc;rw[eZ _ a];have e:qV (aX M.kind) (gm M) B xs ys T i=bd (mL (aX M.kind) (gm M) B xs ys i) (ys.length+1-0) 0 T:=rfl;rw[e]
 cases bd (mL (aX M.kind) (gm M) B xs ys i) (ys.length+1-0) 0 T<;>rfl
theorem VL:Rc M B xs ys i (ys.length+1) T=RW M B xs ys (i+1) T:=by unfold Rc;rw[iw]
theorem Re(b:j<ys.length+1):Rc M B xs ys i j T=match fK (aX M.kind) (dE T i j) B with|none=>none|some v=>QW M B xs ys i j v 1 (fg T i j v):=by
 unfold QW;have a:Rc M B xs ys i j T=match (match fK (aX M.kind) (dE T i j) B with|none=>none|some v=>bd (oB (aX M.kind) (gm M) xs ys v i j) 3 1 (fg T i j v))with|none=>none|some T=>Rc M B xs ys i (j+1) T:=by
  conv=>lhs;unfold Rc
  rw[eZ _ b];have e:mL (aX M.kind) (gm M) B xs ys i T j=(match fK (aX M.kind) (dE T i j) B with|none=>none|some v=>bd (oB (aX M.kind) (gm M) xs ys v i j) 3 1 (fg T i j v)):=by
   unfold mL
   cases fK (aX M.kind) (dE T i j) B<;>rfl
  rw[e];generalize (match fK (aX M.kind) (dE T i j) B with|none=>none|some v=>bd (oB (aX M.kind) (gm M) xs ys v i j) 3 1 (fg T i j v))=o
  cases o<;>rfl
 rw[a]
 cases fK (aX M.kind) (dE T i j) B<;>rfl
theorem VM:QW M B xs ys i j V 4 T=Rc M B xs ys i (j+1) T:=by unfold QW;rw[iw]
theorem Ii(a:q<4)(b:xs.length<i+q%2\/ys.length<j+q/2):QW M B xs ys i j V q T=QW M B xs ys i j V (q+1) T:=by
 unfold QW;rw[eZ _ a];unfold oB;rw[if_pos b]
theorem Rf(a:q<4)(b:¬(xs.length<i+q%2\/ys.length<j+q/2)):QW M B xs ys i j V q T=match LH M V (bK xs i (q%2)) (bK ys j (q/2)) T (i+q%2) (j+q/2)with|none=>none|some T=>QW M B xs ys i j V (q+1) T:=by
 unfold QW;rw[eZ _ a];have e:oB (aX M.kind) (gm M) xs ys V i j T q=LH M V (bK xs i (q%2)) (bK ys j (q/2)) T (i+q%2) (j+q/2):=by
  unfold oB LH;rw[if_neg b]
  cases kL (aX M.kind) (gm M) V (bK xs i (q%2)) (bK ys j (q/2))with
  |none=>rfl
  |some s=>dsimp only;cases np (aX M.kind) (dE T (i+q%2) (j+q/2)) s<;>rfl
 rw[e]
 cases LH M V (bK xs i (q%2)) (bK ys j (q/2)) T (i+q%2) (j+q/2)<;>rfl
end
theorem adH{q:Nat}(h:q=1\/q=2\/q=3):wrap .i64 ((BitVec.ofInt (IntKind.bits .i64) (q:Int)&&&BitVec.ofInt (IntKind.bits .i64) 1).toNat:Int)=((q%2:Nat):Int):=by
 rcases h with rfl|rfl|rfl<;>decide
theorem adI{q:Nat}(h:q=1\/q=2\/q=3):ax SS.P .shr 3 (iA q) (.int .u64 1)=some (.int .i64 ((q/2:Nat):Int)):=by
 rcases h with rfl|rfl|rfl<;>kernel_rfl
theorem Km{i j:Nat}(h:i+j<=1000000000):wrap .i64 ((i:Int)+((j:Nat):Int))=((i+j:Nat):Int):=by rw[aB (by omega) (by omega)];omega
section
variable {h0:ae} {M:bC} {x:Option Addr} {z k kt:Nat} {xa ya:Option Addr} {xc yc:Nat} {xs ys:List Int} {B:Option LM} {b:Option Addr} {bn bc:Nat}
theorem Yn(w:Wf h0)(mo:NO M)(mb:MB h0 k M x M.af.length z)(hx:xs.length<=200)(hy:ys.length<=200)(rx:cM h0 (.slice xa xs.length xc) xs)(ry:cM h0 (.slice ya ys.length yc) ys)(sb:Zf M.kind M.af.length h0 b bn bc B){Q:VH}{Z:Nat->Nat}{d:Nat->Nat->Value}{T:List LM}{g:ae}
  (S:TB h0 kt (xs.length+1) (ys.length+1) (xs.length+1) Z d g) (tv:TV M.kind M.af.length (xs.length+1) (ys.length+1) d T g) (hQ:∀v g,oQ h0 (RW M B xs ys 0 T) v g->Q v g):
  LL SS cw [1,1,1,1,1,1,1,0,1,0,0] (gi xa xs.length xc ya ys.length yc k kt (xs.length+1) b bn bc 0) g (KK SS cw [1,1,1,1,1,1,1,0,1,0] [] (EE SS cw Q)):=by
 obtain⟨G,hG⟩:∃G,G=RW M B xs ys 0 T:=⟨_,rfl⟩
 rw[<-hG]at hQ;obtain⟨X,hX⟩:∃X,X=xs.length+1:=⟨_,rfl⟩
 obtain⟨Y,hY⟩:∃Y,Y=ys.length+1:=⟨_,rfl⟩
 rw[<-hX,<-hY]at S tv;rw[<-hX];have hn:=mo.n;refine DD (bT M x M.af.length z) xa xs.length xc ya ys.length yc k kt X b bn bc (λmz i g=>i<=X/\mz=X-i/\∃d T,TB h0 kt X Y X Z d g/\TV M.kind M.af.length X Y d T g/\RW M B xs ys i T=G) _ (λmz i=>?_) X (i:=0) ⟨by omega,rfl,d,T,S,tv,hG.symm⟩;intros;rename_i g1 x5;obtain⟨f1,f2,d,T,S,tv,L⟩:=x5;refine aa (λq1=>?_) (λq1=>?_)
 ·have m:i<X:=by have:=dT q1;omega
  rw[Zd (by omega)]at L;refine DE (bT M x M.af.length z) xa xs.length xc ya ys.length yc k kt X b bn bc _ mz i (λW j g=>j<=Y/\W=Y-j/\∃d T,TB h0 kt X Y X Z d g/\TV M.kind M.af.length X Y d T g/\Rc M B xs ys i j T=G) _ (λW j=>?_) Y (j:=0) ⟨by omega,rfl,d,T,S,tv,L⟩;intros;rename_i g2 x3;obtain⟨d1,d2,y1,T2,x0,x2,r⟩:=x3;refine aa (λq2=>?_) (λq2=>?_)
  ·have A:j<Y:=by have:=dT q2;omega
   rw[Re (by omega)]at r;have a:=x0.room 15;have O:TV M.kind M.af.length X Y y1 T2 (Go.Ab.room g2 15):=x2.ok ((Ok.refl x0.ok.wf).room 15);have H:=mb.ok a.ok;obtain⟨ad,c,ec,rc,vc⟩:=O.at_ i j m A;have F:=a.ldV m A;rw[ec]at F;refine⟨_,H.all,_,CD xX yu m,_,_,_,a.VA m (Nat.le_refl _),_,CD nD nj A,_,_,_,F,(XD a.ok.wf mo H.row rc vc (sb.ok a.ok)).mono ?_⟩;rintro _ g3 ⟨o3,hv⟩;have x1:=a.ui o3;have x8:=O.ok o3
   cases C:fK (aX M.kind) (dE T2 i j) B with
   |none=>
    rw[C]at hv r;subst hv;exact⟨_,_,_,_,rfl,aa (λ_=>hQ _ _ ⟨by rw[<-r];rfl,x1.ok⟩) (λe=>by cases e)⟩
   | some V=>
    rw[C]at hv r;obtain⟨J,R,rfl,rl,vl⟩:=hv;dsimp only at r;obtain⟨u,st,x6,kp,_,_⟩:=x1.Xn w m A (y:= .slice J M.af.length R) (Ny _ _ _) (by cases J<;>rfl);have x7:=x8.put m A kp rl vl;have x9:=kp _ _ rl;refine⟨_,_,_,_,rfl,aa (λe=>by cases e) (λ_=>⟨_,CD xX yu m,_,_,_,x1.VA m (Nat.le_refl _),_,CD nD nj A,u,st,?_⟩)⟩;refine DF (bT M x M.af.length z) xa xs.length xc ya ys.length yc k kt X b bn bc _ mz i _ W j J M.af.length R (λE q g=>1<=q/\q<=4/\E=4-q/\∃d T,TB h0 kt X Y X Z d g/\TV M.kind M.af.length X Y d T g/\Rd g 9 (.slice J M.af.length R) (eD V)/\QW M B xs ys i j V q T=G) _ (λE q=>?_) 3 (q:=1) ⟨by omega,by omega,rfl,_,_,x6,x7,x9,r⟩;intros;rename_i g5 x4;obtain⟨b1,b2,b3,y3,T6,s,N,U,h⟩:=x4;refine aa (λq3=>?_) (λq3=>?_)
    ·have hq:q=1\/q=2\/q=3:=by have:=dT q3;omega
     have P:q<4:=by omega
     have y0:wrap .i64 ((q:Int)+1)=((q+1:Nat):Int):=aO P (by omega);refine⟨_,adI hq,?_⟩;dsimp only;rw[adH hq,Km (show i+q%2<=1000000000 by omega),Km (show j+q/2<=1000000000 by omega),y0];refine aa (λq4=>?_) (λq4=>aa (λq5=>?_) (λq5=>?_))
     ·have hc:xs.length<i+q%2\/ys.length<j+q/2:= .inl (by have:=dT q4;omega);exact bW (4-(q+1)) (by omega) ⟨by omega,by omega,rfl,_,_,s,N,U,by rw[<-Ii P hc];exact h⟩
     ·have hc:xs.length<i+q%2\/ys.length<j+q/2:= .inr (by have:=dT q5;omega);exact bW (4-(q+1)) (by omega) ⟨by omega,by omega,rfl,_,_,s,N,U,by rw[<-Ii P hc];exact h⟩
     ·have y2:¬xs.length<i+q%2:=by have:=dF q4;omega
      have y4:¬ys.length<j+q/2:=by have:=dF q5;omega
      rw[Rf P (by omega)]at h;have f:=Vc (i:=i+q%2) (j:=j+q/2) (Q:=Q) (G:=λg=>aJ (fj (fx xa xs.length xc ya ys.length yc k kt X b bn bc i j J M.af.length R) (λE q g=>1<=q/\q<=4/\E=4-q/\∃d T,TB h0 kt X Y X Z d g/\TV M.kind M.af.length X Y d T g/\Rd g 9 (.slice J M.af.length R) (eD V)/\QW M B xs ys i j V q T=G)) E [(.slice xa xs.length xc),(.slice ya ys.length yc),(pA k),(.slice b bn bc),(sA kt X X),(iA i),(iA j),(.slice J M.af.length R),(iA (q+1))] g) w mo mb s N U vl (by omega) (by omega) (bK xs i (q%2)) (bK ys j (q/2))
       (λe g ok=>hQ _ _ ⟨by rw[e]at h;rw[<-h];rfl,ok⟩)
       (λT' e y5 g t1 t2 t3=>bW (4-(q+1)) (by omega) ⟨by omega,by omega,rfl,_,_,t1,t2,t3,by rw[e]at h;exact h⟩)
      refine aa (λq6=>?_) (λq6=>?_)
      ·have h1:q%2=1:=by have:((q%2:Nat):Int)=1:=(by simpa using q6);omega
       obtain⟨p,C,K⟩:=cM.at_ (cM.ok rx s.ok) (i:=i) (by omega);have t:bK xs i (q%2)=xs.getD i 0:=if_pos h1;rw[t]at f;refine⟨_,C,_,K,aa (λD=>?_) (λD=>?_)⟩
       ·have I:q/2=1:=by have:((q/2:Nat):Int)=1:=(by simpa using D);omega
        obtain⟨p,C,K⟩:=cM.at_ (cM.ok ry s.ok) (i:=j) (by omega);have t:bK ys j (q/2)=ys.getD j 0:=if_pos I;rw[t]at f;exact⟨_,C,_,K,f⟩
       ·have I:¬q/2=1:=λe=>by rw[e]at D;exact absurd D (by decide)
        have t:bK ys j (q/2)=0:=if_neg I;rw[t]at f;exact f
      ·have h1:¬q%2=1:=λe=>by rw[e]at q6;exact absurd q6 (by decide)
       have t:bK xs i (q%2)=0:=if_neg h1;rw[t]at f;refine aa (λD=>?_) (λD=>?_)
       ·have I:q/2=1:=by have:((q/2:Nat):Int)=1:=(by simpa using D);omega
        obtain⟨p,C,K⟩:=cM.at_ (cM.ok ry s.ok) (i:=j) (by omega);have t:bK ys j (q/2)=ys.getD j 0:=if_pos I;rw[t]at f;exact⟨_,C,_,K,f⟩
       ·have I:¬q/2=1:=λe=>by rw[e]at D;exact absurd D (by decide)
        have t:bK ys j (q/2)=0:=if_neg I;rw[t]at f;exact f
    ·obtain rfl:q=4:=by have:=dF q3;omega
     rw[VM]at h;rw[aO A (by omega)];exact bW (Y-(j+1)) (by omega) ⟨by omega,rfl,_,_,s,N,h⟩
  ·obtain rfl:j=Y:=by have:=dF q2;omega
   rw[hY,VL]at r;rw[aO m (by omega)];exact bW (X-(i+1)) (by omega) ⟨by omega,rfl,_,_,x0,x2,r⟩
 ·obtain rfl:i=X:=by have:=dF q1;omega
  unfold RW at L;rw[hX,iw]at L;have L:oz (aX M.kind) (gm M) (dE T xs.length ys.length)=G:=L;have a:=S.room 15;have O:TV M.kind M.af.length i Y d T (Go.Ab.room g1 15):=tv.ok ((Ok.refl S.ok.wf).room 15);have H:=mb.ok a.ok;have m:xs.length<i:=by omega
  have A:ys.length<Y:=by omega
  obtain⟨ad,c,ec,rc,vc⟩:=O.at_ xs.length ys.length m A;have F:=a.ldV m A;rw[ec]at F;refine⟨_,H.all,_,CD xX yu m,_,_,_,a.VA m (Nat.le_refl _),_,CD nD nj A,_,_,_,F,(Yd a.ok.wf mo H.row rc vc).mono ?_⟩;rintro _ g3 ⟨rfl,o3⟩;rw[L];obtain⟨l,n,C,K⟩:=iY (o:=G) (a.ok.trans o3);exact⟨l,n,C,hQ _ _ K⟩
end
end
section
theorem VO{a b:Nat}(d:a<n)(c:b<m)(l:List (List UInt8)):dE (List.replicate n (List.replicate m l)) a b=l:=by
 unfold dE;rw[gD,gD,List.getElem?_replicate,if_pos d,Option.getD_some,List.getElem?_replicate,if_pos c];rfl
theorem XC{X Y:Nat}(l:List (List UInt8)):(List.replicate X (List.replicate Y l)).length=X/\∀a,a<X->((List.replicate X (List.replicate Y l)).getD a []).length=Y:=by
 refine⟨length_replicate,λa b=>?_⟩;rw[gD,List.getElem?_replicate,if_pos b];exact length_replicate
section
variable {h0:ae} {M:bC} {x:Option Addr} {z k kt:Nat} {xa ya:Option Addr} {xc yc:Nat} {xs ys:List Int} {B:Option LM} {b:Option Addr} {bn bc:Nat}
theorem Ym(w:Wf h0)(C:NO M)(mb:MB h0 k M x M.af.length z)(hx:xs.length<=200)(hy:ys.length<=200)(rx:cM h0 (.slice xa xs.length xc) xs)(ry:cM h0 (.slice ya ys.length yc) ys)(sb:Zf M.kind M.af.length h0 b bn bc B){Q:VH}{g:ae}
  (ok:Ok h0 g) (hk:g.get kt=some (.cells (List.replicate (xs.length+1) nA) 103 1 true)) (nk:h0.next<=kt) (hQ:∀v g,oQ h0 (RW M B xs ys 0 (jX (aX M.kind) (gm M) xs ys)) v g->Q v g):
  LL SS cw [1,1,1,1,1,0,1,0,0] (lk xa xs.length xc ya ys.length yc k kt (xs.length+1) b bn bc 0) g (KK SS cw [1,1,1,1,1,0,1,0] [] (EE SS cw Q)):=by
 obtain⟨X,hX⟩:∃X,X=xs.length+1:=⟨_,rfl⟩
 obtain⟨Y,hY⟩:∃Y,Y=ys.length+1:=⟨_,rfl⟩
 obtain⟨f,O⟩:∃f,f=bu (aX M.kind) M.af.length:=⟨_,rfl⟩
 rw[<-hX]at hk⊢;have hn:=C.n;have t0:TB h0 kt X Y 0 (λ_=>0) (λ_ _=>nA) g:=by
  refine⟨?_,λa o=>by omega,⟨nk,λa o=>by omega⟩,λa b o=>by omega,ok⟩;rw[hk];congr 2;refine ext_getElem (by simp) λa h1 h2=>?_;simp
 refine DB (bT M x M.af.length z) xa xs.length xc ya ys.length yc k kt X b bn bc (λmz i g=>i<=X/\mz=X-i/\∃I r c,TB h0 kt X Y i I r g/\(∀a b,i<=a->r a b=nA)/\ZF h0 g M.af.length f r c (λa b=>a<i/\b<Y)) _ (λmz i=>?_) X (i:=0) ⟨by omega,rfl,_,_,λ_ _=>0,t0,λ_ _ _=>rfl,λa b s=>by omega⟩;intros;rename_i p x3;obtain⟨f1,f2,I,r,c,D,H,zf⟩:=x3;rw[aO (i:=ys.length) (n:=Y) (by omega) (by omega),<-hY];refine aa (λq1=>?_) (λq1=>?_)
 ·have N:i<X:=by have:=dT q1;omega
  have d:=D.ui ((Ok.refl D.ok.wf).push (.cells (List.replicate Y nA) 107 1 true));obtain⟨u,st,t,kp,nx⟩:=d.acL w N (aI p _) D.ok.nx (λa o=>by have:=D.ok.wf _ _ (D.row a o);omega) (λb=>H i b (Nat.le_refl _));refine⟨_,_,_,Tf Y (by omega),_,CD xX yu N,u,st,?_⟩;have y3:∀q l,VB p q l->VB (p.push (.cells (List.replicate Y nA) 107 1 true)) q l:=λq l m=>((Ok.refl D.ok.wf).push (.cells (List.replicate Y nA) 107 1 true)).ext _ _ m;refine DC (bT M x M.af.length z) xa xs.length xc ya ys.length yc k kt X b bn bc _ mz i (λW j g=>j<=Y/\W=Y-j/\∃r c,TB h0 kt X Y (i+1) (λa=>if a=i then p.next else I a) r g/\(∀a b,i<a->r a b=nA)/\ZF h0 g M.af.length f r c (λa b=>b<Y/\(a<i\/(a=i/\b<j)))) _ (λW j=>?_) Y (j:=0) ⟨by omega,rfl,_,c,t,λa b o=>H a b (by omega),zf.mono (λq l m=>kp _ _ (y3 _ _ m)) (λa b s=>⟨by omega,s.1⟩)⟩;intros;rename_i L x2;obtain⟨d1,d2,y6,y4,K,E,V⟩:=x2;refine aa (λq2=>?_) (λq2=>?_)
  ·have hj:j<Y:=by have:=dT q2;omega
   have A:=K.room 9;have U:=mb.ok A.ok;have J:=A.VA (i:=i) (by omega) (by omega);refine⟨_,CD xX yu N,_,_,_,J,_,U.all,(uE A.ok.wf C U.row).mono ?_⟩;rintro _ g3 ⟨kl,rfl,x1,nl,o3⟩;rw[<-O]at x1;have Z:=A.ui o3;obtain⟨u,st,x7,_,P,_⟩:=Z.Xn w (i:=i) (j:=j) (by omega) hj (y:=sA kl M.af.length M.af.length) rfl rfl;have x9:∀q l,VB L q l->VB g3 q l:=λq l m=>o3.ext _ _ m;refine⟨_,_,_,rfl,_,CD nD nj hj,u,st,⟨Z.VA (by omega) (by omega),kf _ _ _⟩,?_⟩;rw[aO hj (by omega)];refine bW (Y-(j+1)) (by omega) ⟨by omega,rfl,_,_,x7,λa b o=>?_,V.add (λq l m=>?_) (λq l m=>P _ _ (x9 _ _ m)) (P _ _ x1) (Nat.le_trans A.ok.nx nl) ?_ (λa b s=>?_) (λe a b s=>by omega)⟩
   ·unfold Y0;rw[if_neg (by omega)];exact E a b o
   ·have:q<L.next:=K.ok.wf _ _ m;have:L.next<=(Go.Ab.room L 9).next:=Nat.le_add_right _ _;omega
   ·by_cases e:i=0/\j=0
    ·exact .inl e
    ·right;omega
   ·by_cases e:a=i/\b=j
    ·exact .inr e
    ·left;omega
  ·obtain rfl:j=Y:=by have:=dF q2;omega
   rw[aO N (by omega)];exact bW (X-(i+1)) (by omega) ⟨by omega,rfl,_,_,_,K,λa b o=>E a b (by omega),V.mono (λ_ _ m=>m) (λa b s=>⟨s.2,by omega⟩)⟩
 ·obtain rfl:i=X:=by have:=dF q1;omega
  have d:=D.room 11;have T:=mb.ok d.ok;have h:0<i/\0<Y:=by omega
  obtain⟨x5,y1,y0,_⟩:=zf 0 0 h;have J:=d.VA (i:=0) h.1 (Nat.le_refl _);have x0:=d.ldV (i:=0) (j:=0) h.1 h.2;rw[x5]at x0;have F:VB (Go.Ab.room p 11) (c 0 0) f:=y1;have l1:=T.l1;have x8:M.start.toNat<M.af.length:=by have:=C.start;omega
  have x4:M.start=((M.start.toNat:Nat):Int):=by have:=C.start;omega
  rw[x4]at l1;have S:f.length=M.af.length:=by rw[O];exact MH _ _
  refine⟨_,CD xX yu (i:=0) h.1,_,_,_,J,_,CD nD nj (i:=0) h.2,_,_,_,x0,_,tc _,_,l1,_,nr _,_,T.l2,_,VB.ix ty x8,_,F.st ty (by omega) _,?_⟩;have m:=d.ok.wf _ _ F;have t:TB h0 kt i Y i I r ((dJ.set (c 0 0) (.cells (eD (f.set M.start.toNat M.lead)) 9 1 true)).app (Go.Ab.room p 11)):=by
   refine⟨?_,λa o=>?_,d.new,d.inj,d.ok.set _ y0 m w⟩
   ·show((Go.Ab.room p 11).set (c 0 0) _).get kt=_;rw[ae.aw,if_neg (jZ d.out F (by decide))];exact d.out
   ·have:=d.row a o;show((Go.Ab.room p 11).set (c 0 0) _).get (I a)=_;rw[ae.aw,if_neg (jZ this F (by decide))];exact this
  have vz:VV M.kind M.af.length f:=by rw[O];exact VV.NM C.kind _
  have G:TV M.kind M.af.length i Y r (jX (aX M.kind) (gm M) xs ys) ((dJ.set (c 0 0) (.cells (eD (f.set M.start.toNat M.lead)) 9 1 true)).app (Go.Ab.room p 11)):=by
   have e0:jX (aX M.kind) (gm M) xs ys=fg (List.replicate i (List.replicate Y f)) 0 0 (f.set M.start.toNat M.lead):=by
    unfold jX;rw[Cz,<-O,<-hX,<-hY];rfl
   rw[e0];obtain⟨r1,r2⟩:=XC (X:=i) (Y:=Y) f;obtain⟨s1,s2⟩:=J2 r1 r2 h.1 h.2 (f.set M.start.toNat M.lead);refine⟨s1,s2,λa b o R=>?_⟩;rw[Io r1 r2 h.1 h.2,VO o R];obtain⟨ec,x6,y5,y2⟩:=zf a b ⟨o,R⟩;by_cases e:a=0/\b=0
   ·rw[if_pos e];obtain⟨rfl,rfl⟩:=e;refine⟨some ⟨c 0 0,0,none⟩,M.af.length,ec,?_,vz.set C.lead⟩;have v1:VB ((dJ.set (c 0 0) (.cells (eD (f.set M.start.toNat M.lead)) 9 1 true)).app (Go.Ab.room p 11)) (c 0 0) (f.set M.start.toNat M.lead):=by
     show((Go.Ab.room p 11).set (c 0 0) _).get (c 0 0)=_;rw[ae.aw,if_pos rfl]
    have:=v1.rd M.af.length;rw[length_set,S]at this;exact this
   ·rw[if_neg e];refine⟨some ⟨c a b,0,none⟩,M.af.length,ec,?_,vz⟩;have v1:VB ((dJ.set (c 0 0) (.cells (eD (f.set M.start.toNat M.lead)) 9 1 true)).app (Go.Ab.room p 11)) (c a b) f:=by
     show((Go.Ab.room p 11).set (c 0 0) _).get (c a b)=_;rw[ae.aw,if_neg (y2.resolve_left e)];exact x6
    have:=v1.rd M.af.length;rw[S]at this;exact this
  rw[hX]at t G⊢;rw[hY]at t G;exact Yn w C mb hx hy rx ry sb t G hQ
end
def wtQ(h:ae)(M:bC)(xs ys:List Int):VH:=λv g=>v=(if(cI M&&(dn xs&&dn ys))=true then LF (eA (aX M.kind) (gm M) xs ys)else two [] 1)/\Ok h g
theorem aaB(w:Wf h){M:bC}(U:Small M){x:Option Addr}{y z:Nat}(r:ei h (.slice x y z) M.af){xa ya:Option Addr}{S xc I yc:Nat}{xs ys:List Int}(C:cM h (.slice xa S xc) xs)(E:cM h (.slice ya I yc) ys):
  FW SS 48 [.agg ⟨bT M x y z⟩,.slice xa S xc,.slice ya I yc] h (wtQ h M xs ys):=by
 obtain⟨k,A⟩:=fQ w r;obtain rfl:y=M.af.length:=k.len;obtain rfl:=cM.len C;obtain rfl:=cM.len E;refine aaA (bT M x M.af.length z) xa xs.length xc ya ys.length yc h _ ⟨_,jU M x _ z,_,k.all,(zu A.wf U k.row).mono ?_⟩;rintro _ R ⟨rfl,H⟩;have c:=A.trans H;refine⟨_,rfl,aa (λq=>⟨?_,c⟩) (λq=>(qM (cM.ok C c)).mono ?_)⟩
 ·rw[not_eq_true']at q;rw[q];rfl
 rw[not_eq_false']at q;rintro _ D ⟨rfl,F⟩;obtain rfl:R=D:=F.symm;refine⟨_,rfl,aa (λj=>⟨?_,c⟩) (λj=>(qM (cM.ok E c)).mono ?_)⟩
 ·rw[not_eq_true']at j;rw[q,j];rfl
 rw[not_eq_false']at j;rintro _ D ⟨rfl,F⟩;obtain rfl:R=D:=F.symm;refine⟨_,rfl,aa (λm=>⟨?_,c⟩) (λm=>?_)⟩
 ·rw[not_eq_true']at m;rw[q,j,m];rfl
 rw[not_eq_false']at m;have P:∀g v,oQ h (eA (aX M.kind) (gm M) xs ys) v g->wtQ h M xs ys v g:=λg v a=>by
  refine⟨?_,a.2⟩;rw[q,j,m];exact a.1
 have J:=zp q;have u:=k.ok H;have p:∀l,dn l=true->l.length<=200:=λl p=>by
  unfold dn at p;rw[and_eq_true]at p;exact dT p.1
 have X:=p xs j;have hy:=p ys m;refine⟨_,u.all,(Yf c.wf J u.row).mono ?_⟩;rintro _ s ⟨L,a⟩;have f:=c.trans L;have N:=u.ok L;have t:∀(B:Option LM)(b:Option Addr)(bn bc:Nat),dP (aX M.kind) (gm M)=some B->Zf M.kind M.af.length s b bn bc B->au (((0:Int) !=0)) (wtQ h M xs ys (.tuple ⟨[(strOf []),(.int .i64 0)]⟩) s) (xR (bZ SS.P 106 (.int .i64 (wrap .i64 ((xs.length:Int)+1))) (.int .i64 (wrap .i64 ((xs.length:Int)+1)))) s λx0 O G K=>LL SS cw [1,1,1,1,1,0,1,0,0] [(.slice xa xs.length xc),(.slice ya ys.length yc),(pA (h.next)),(.slice b bn bc),(sA (s.next) O G),(.int .i64 0)] K (KK SS cw [1,1,1,1,1,0,1,0] [] (EE SS cw (wtQ h M xs ys)))):=by
  intro B b bn bc Y sb;refine aa (λe=>by cases e) (λ_=>?_);rw[aO (i:=xs.length) (n:=xs.length+1) (by omega) (by omega)];refine⟨_,_,_,abP (xs.length+1) (by omega),?_⟩;have V:=(Ok.refl f.wf).push (.cells (List.replicate (xs.length+1) nA) 103 1 true);have T:RW M B xs ys 0 (jX (aX M.kind) (gm M) xs ys)=eA (aX M.kind) (gm M) xs ys:=by
   unfold RW eA;rw[Y,Nat.sub_zero];dsimp only
   cases bd (qV (aX M.kind) (gm M) B xs ys) (xs.length+1) 0 (jX (aX M.kind) (gm M) xs ys)<;>rfl
  exact Ym (kt:=s.next) f.wf J N X hy (cM.ok C f) (cM.ok E f) sb V (aI s _) (Nat.le_refl _) (λv g a=>P g v ⟨by rw[<-T];exact a.1,f.trans a.2⟩)
 cases e:dP (aX M.kind) (gm M)with
 |none=>
  rw[e]at a;subst a;exact⟨_,_,_,_,rfl,aa (λ_=>P _ _ ⟨by unfold eA;rw[e];rfl,f⟩) (λe=>by cases e)⟩
 | some o=>
  cases o with
  |none=>
   rw[e]at a;subst a;exact⟨_,_,_,_,rfl,t none none 0 0 e ⟨rfl,rfl,rfl⟩⟩
  |some B=>
   rw[e]at a;obtain⟨Q,d,rfl,Z,W⟩:=a;exact⟨_,_,_,_,rfl,t (some B) (some Q) _ d e ⟨⟨Q,rfl⟩,rfl,Z,W⟩⟩
end
end Go.Proofs.YtaaichlgdgjgjaaGreatDoor
end
section
namespace Go.Proofs.YtaaichlgdgjgjaaGreatDoor
open Go Go.Ab Go.Num Go.Num.ba
variable{p:List Int}
section
section
variable {K:Type} {S:ba K} {dec:List UInt8->K} {kind:Int}
def vmM(S:ba K)(dec:List UInt8->K)(M:bC):dK K:=eG S (mapM dec (gm M))
def X7(S:ba K)(dec:List UInt8->K)(M:bC):acD K:=λx y=>S.mul (dec M.lead) (dK.val S (vmM S dec M) x y M.start.toNat)
theorem abH(m:1<=kind/\kind<=3)(f:wy S dec kind):F7 (aX kind) (aq S) (λa=>aM kind a=true) dec where
 zero:=⟨ss m,f.zero⟩
 one:=by
  refine⟨?_,f.one⟩;have:kind=1\/kind=2\/kind=3:=by omega
  show aM kind (qt kind)=true;rcases this with rfl|rfl|rfl
  ·exact mM.2 (.inr (.inr (by decide)))
  ·exact qv (.inl rfl)
  ·exact qv (.inr rfl)
 wY:=λ{a} h=>by
  have d:(aq S).wY (dec a)=true↔dec a=S.zero:=tR;have g:(aX kind).wY a=true↔a=bE kind:=by show(a==bE kind)=true↔_;simp
  have l:dec a=S.zero↔a=bE kind:=⟨λe=>f.inj h (ss m) (e.trans f.zero.symm),λe=>by rw[e];exact f.zero⟩
  cases j:(aq S).wY (dec a)<;>cases k:(aX kind).wY a
  ·rfl
  ·rw[d.2 (l.2 (g.1 k))]at j;cases j
  ·rw[g.2 (l.1 (d.1 j))]at k;cases k
  ·rfl
 plus:=λ{a b c} h i e=>by
  obtain⟨d,g⟩:=f.plus h i e;exact⟨d,by show some _=some _;rw[g]⟩
 times:=λ{a b c} h i e=>by
  obtain⟨d,g⟩:=f.times h i e;exact⟨d,by show some _=some _;rw[g]⟩
 star:=λ{a c} h e=>by
  obtain⟨d,g⟩:=f.star h e;exact⟨d,by show some _=some _;rw[g]⟩
variable {M:bC}
theorem aax(d:NO M):BI (λa=>aM M.kind a=true) (gm M):=by
 refine⟨d.lead,λs g f c=>?_,λs g a j=>?_⟩
 ·obtain⟨t,h,rfl⟩:=mem_map.1 g;by_cases e:t.f=[]
  ·have:(Bl t).fin=none:=if_pos e;rw[this]at c;cases c
  ·have:(Bl t).fin=some t.f:=if_neg e;rw[this]at c;obtain rfl:=oI c;exact d.fin t h e
 ·obtain⟨t,h,rfl⟩:=mem_map.1 g;obtain⟨b,i,rfl⟩:=mem_map.1 j;exact(d.arc t h b i).1
theorem WL(g:NO M):kK (mapM dec (gm M)):=λs h a i=>by
 obtain⟨t,k,rfl⟩:=mem_map.1 h;obtain⟨j,c,rfl⟩:=mem_map.1 k;obtain⟨b,f,rfl⟩:=mem_map.1 i;obtain⟨e,d,rfl⟩:=mem_map.1 f;have:=g.arc j c e d;show e.t.toNat<((M.af.map Bl).map (nn dec)).length;rw[lM,lM];omega
theorem Du(h:dn p=true):∀s∈p,s≠0:=λs a e=>by
 unfold dn at h;rw[and_eq_true,all_eq_true]at h;have:=h.2 s a;rw[e]at this;exact absurd this (by decide)
theorem Vd(f:wy S dec M.kind)(a:NO M){x y:List Int}(c:∀s∈x,s≠0)(h:∀s∈y,s≠0){w:List UInt8}(e:eA (aX M.kind) (gm M) x y=some w):aM M.kind w=true/\dec w=X7 S dec M x y:=by
 obtain⟨d,g⟩:=Gm (abH a.kind f) (aax a) e;refine⟨d,?_⟩;have b:(mapM dec (gm M)).start<(mapM dec (gm M)).bH.length:=by
  show M.start.toNat<((M.af.map Bl).map (nn dec)).length;rw[lM,lM];have:=a.start;omega
 exact KP (WL a) b c h g
def adF(dec:List UInt8->K)(a:iN):BH K:=⟨a.i,a.o,dec a.w,a.t.toNat⟩
theorem adG(M:bC):(vmM S dec M).n=M.af.length:=by
 show((M.af.map Bl).map (nn dec)).length=_;rw[lM,lM]
theorem Y1{q:Nat}{s:dW}(h:M.af[q]?=some s):(mapM dec (gm M)).bH.getD q dG=nn dec (Bl s):=by
 show((M.af.map Bl).map (nn dec)).getD q dG=_;rw[gD,getElem?_map,getElem?_map,h];rfl
theorem U6{q:Nat}{s:dW}(h:M.af[q]?=some s):(vmM S dec M).fin q=if s.f=[]then S.zero else dec s.f:=by
 show((mapM dec (gm M)).bH.getD q dG).fin.getD S.zero=_;rw[Y1 h];show((if s.f=[]then none else some s.f:Option (List UInt8)).map dec).getD S.zero=_;split<;>rfl
theorem BD{q:Nat}{s:dW}(h:M.af[q]?=some s):(vmM S dec M).arcs q=s.arcs.map (adF dec):=by
 show(bD (mapM dec (gm M)) q).map _=_;show(((mapM dec (gm M)).bH.getD q dG).arcs).map _=_;rw[Y1 h];show((s.arcs.map Cw).map (mapA dec)).map _=_;rw[List.map_map,List.map_map];rfl
variable {C X:bC} {L R:List dW} {low:Nat}
end
end
section
section
variable {K:Type} {S:ba K} {dec:List UInt8->K} {A B:bC}
theorem Sm(x y:List Int):emp S x y S.zero=S.zero:=by unfold emp;split<;>rfl
end
end
end Go.Proofs.YtaaichlgdgjgjaaGreatDoor
end
section
namespace Go.Proofs.YtaaichlgdgjgjaaGreatDoor
open Go Go.Ab Go.Num
variable{M:bC}{z:Int}{n:Nat}
structure StW(kind:Int)(N:Nat)(s:dW):Prop where
 f:s.f=[]\/bj kind s.f=true
 a:∀q∈s.arcs,iS kind N q=true
theorem J9{a:Int}{N:Nat}:∀{l:List dW}{b:Int},b+dc l<=30000->(∀s∈l,StW a N s)->nE a N b l=true
 |[],_,_,_=>rfl
 |s::l,b,h,c=>by
  rw[dS]at h;have d:=c s (List.mem_cons_self ..);unfold nE;rw[and_eq_true,and_eq_true,and_eq_true];refine⟨⟨⟨decide_eq_true (by omega),?_⟩,all_eq_true.2 d.a⟩,J9 (by omega) λt f=>c t (List.mem_cons_of_mem _ f)⟩;rcases d.f with e|e
  ·rw[e];rfl
  ·rw[e,Bool.or_true]
structure VOk(M:bC):Prop where
 kind:1<=M.kind/\M.kind<=3
 n:1<=M.af.length/\M.af.length<=3000
 start:0<=M.start/\M.start<M.af.length
 lead:bj M.kind M.lead=true
 sum:dc M.af<=30000
 st:∀s∈M.af,StW M.kind M.af.length s
theorem VOk.valid(v:VOk M):cI M=true:=by
 unfold cI;simp only[and_eq_true,decide_eq_true_eq];exact⟨⟨⟨⟨⟨⟨⟨v.kind.1,v.kind.2⟩,v.n.1⟩,v.n.2⟩,v.start.1⟩,v.start.2⟩,v.lead⟩,J9 (by have:=v.sum;omega) v.st⟩
theorem aay(h:cI M=true)(a:dc M.af<=30000):VOk M:=by
 unfold cI at h;simp only[and_eq_true,decide_eq_true_eq]at h;obtain⟨⟨⟨⟨⟨⟨⟨e,f⟩,c⟩,i⟩,l⟩,k⟩,g⟩,d⟩:=h;refine⟨⟨e,f⟩,⟨c,i⟩,⟨l,k⟩,g,a,λs a=>?_⟩;obtain⟨b,j⟩:=zI d s a;refine⟨?_,j⟩;rw[Bool.or_eq_true]at b;exact b.imp ch id
theorem C7{a:List UInt8}(h:ay a=true):a.length<=802:=by
 have r:=aY.1 h;obtain⟨b,c⟩:=Hd r;have d:=r.ln;have e:=r.ld;rw[r.txt,Ng,length_append,length_append,<-b];have:(if Num.val (ak a)=1 then[]else 47::ag (Num.val (ak a))).length<=401:=by
  split
  ·simp
  ·rw[length_cons,<-c];omega
 have:(if Num.isNeg a=true/\Num.val (Num.numOf a)≠0 then[45]else([]:List UInt8)).length<=1:=by split<;>simp
 omega
theorem wm{a:List UInt8}(h:bj z a=true):ay a=true:=by
 unfold bj at h;rw[and_eq_true,and_eq_true]at h;exact h.1.2
theorem VOk.small(v:VOk M)(b:M.af.length<=300)(d:dc M.af<=2000):Small M where
 lead:=by have:=C7 (wm v.lead);omega
 bH:=b
 fin:=λs a=>by
  rcases(v.st s a).f with e|e
  ·rw[e];simp
  ·have:=C7 (wm e);omega
 arcs:=λs a=>by
  obtain⟨i,f,e⟩:=List.mem_iff_getElem.1 a;have:=Ka (l:=M.af) (i:=i) (s:=s) (by rw[gE f,e]);omega
 w:=λs a q c=>by
  have h:=(v.st s a).a q c;unfold iS at h;rw[and_eq_true]at h;have:=C7 (wm h.2);omega
 tot:=d
theorem YV(a:1<=z/\z<=3):bj z (da z)=true:=by
 have:z=1\/z=2\/z=3:=by omega
 rcases this with rfl|rfl|rfl<;>decide
theorem Rq{q:iN}(b:pR q.i=true)(c:pR q.o=true)(a:0<=q.t/\q.t<n)(d:bj z q.w=true):iS z n q=true:=by
 unfold iS;rw[b,c,d,decide_eq_true a.1,decide_eq_true a.2];rfl
noncomputable def SY:FD:=cF Tryz.f11 []
theorem O0(j:OA)(i l:Nat)(k:OA)(g m:Nat)(h:ae)(Q:VH)(n:au (decide ((wrap .i64 ((i:Int)+(g:Int)):Int)<=6)) (FW SS 15 [(.slice j i l)] h λe f=>yB e λd=>au d (FW SS 15 [(.slice k g m)] f λb c=>yB b λa=>Q (.bool a) c) (Q (.bool false) f)) (Q (.bool false) h)):FW SS 11 [(.slice j i l),(.slice k g m)] h Q:=cJ SY Tryz.func11 (ai n)
noncomputable def SX:FD:=cF Tryz.f39 []
theorem OY(g:LV)(e:Int)(i:OA)(n l:Nat)(k:OA)(j m:Nat)(h:ae)(Q:VH)(o:xN (eV SS.P 29 (.agg ⟨g⟩)) h λ_ f=>au (((e:Int) !=0)) (Q (strOf []) f) (lA 29 f (pA (h.next)) λe=>FW SS 48 [(.agg ⟨e⟩),(.slice i n l),(.slice k j m)] f λc d=>∃b:LB,∃a:Int,c=(.tuple ⟨[(strOf b),(.int .i64 a)]⟩)/\Q (strOf b) d)):FW SS 39 [(.agg ⟨g⟩),(.int .i64 e),(.slice i n l),(.slice k j m)] h Q:=cJ SX Tryz.func39 (ai o)
noncomputable def SW:FD:=cF Tryz.f19 []
theorem OX(o:LV)(n:Int)(p:OA)(u s:Nat)(r:OA)(q t:Nat)(w:LB)(h:ae)(Q:VH)(v:xN (eV SS.P 29 (.agg ⟨o⟩)) h λ_ m=>lA 29 m (pA (h.next)) λl=>FW SS 26 [(.agg ⟨l⟩)] m λj k=>yB j λi=>au (!i) (Q (.bool false) k) (fP 29 (pA (h.next)) 0 λg=>lI k g λf=>au (((f:Int) !=n)) (Q (.bool false) k) (lA 29 k (pA (h.next)) λe=>FW SS 48 [(.agg ⟨e⟩),(.slice p u s),(.slice r q t)] k λc d=>∃b:LB,∃a:Int,c=(.tuple ⟨[(strOf b),(.int .i64 a)]⟩)/\au (((a:Int)==2)) (Q (.bool true) d) (au (((a:Int)==0)) (Q (.bool ((b:LB)==w)) d) (Q (.bool false) d))))):FW SS 19 [(.agg ⟨o⟩),(.int .i64 n),(.slice p u s),(.slice r q t),(strOf w)] h Q:=cJ SW Tryz.func19 (ai v)
section
def Mx(xs ys:List Int):Bool:=decide (xs.length+ys.length<=6)&&(dn xs&&dn ys)
section
variable {h:ae} {M:bC} {a:Option Addr} {n c:Nat} {xa ya:Option Addr} {xn xc yn yc:Nat} {xs ys:List Int}
theorem O1(b:cM h (.slice xa xn xc) xs)(c:cM h (.slice ya yn yc) ys)(f:xs.length<=281474976710656)(i:ys.length<=281474976710656):FW SS 11 [.slice xa xn xc,.slice ya yn yc] h (λv g=>v = .bool (Mx xs ys)/\g=h):=by
 obtain rfl:=cM.len b;obtain rfl:=cM.len c;refine O0 xa _ xc ya _ yc h _ ?_;have e:wrap .i64 ((xs.length:Int)+(ys.length:Int))=((xs.length+ys.length:Nat):Int):=by rw[aB (by omega) (by omega)];omega
 rw[e];unfold Mx;refine aa (λq=>(qM b).mono ?_) (λq=>?_)
 ·have q:=dT q;rw[decide_eq_true (show xs.length+ys.length<=6 by omega),Bool.true_and];rintro _ g ⟨rfl,d⟩;obtain rfl:h=g:=d.symm;refine⟨_,rfl,aa (λa=>(qM c).mono ?_) (λa=>?_)⟩
  ·rintro _ g ⟨rfl,rfl⟩;rw[a,Bool.true_and];exact⟨_,rfl,rfl,rfl⟩
  ·rw[a];exact⟨rfl,rfl⟩
 ·have q:=dF q;rw[decide_eq_false (show ¬xs.length+ys.length<=6 by omega)];exact⟨rfl,rfl⟩
def Aa(M:bC)(xs ys:List Int):List UInt8×Int:=if(cI M&&(dn xs&&dn ys))=true then(match eA (aX M.kind) (gm M) xs ys with|some w=>(w,0)|none=>([],2))else([],1)
theorem Yl(M:bC)(xs ys:List Int):(if(cI M&&(dn xs&&dn ys))=true then LF (eA (aX M.kind) (gm M) xs ys)else two [] 1)=two (Aa M xs ys).1 (Aa M xs ys).2:=by
 unfold Aa;split
 ·cases eA (aX M.kind) (gm M) xs ys<;>rfl
 ·rfl
theorem NK(w:Wf h)(d:Small M)(r:ei h (.slice a n c) M.af)(b:cM h (.slice xa xn xc) xs)(e:cM h (.slice ya yn yc) ys):
  FW SS 48 [.agg ⟨bT M a n c⟩,.slice xa xn xc,.slice ya yn yc] h (λv g=>v = .tuple ⟨[strOf (Aa M xs ys).1,.int .i64 (Aa M xs ys).2]⟩/\Ok h g):=by
 refine(aaB w d r b e).mono ?_;rintro _ g ⟨rfl,f⟩;exact⟨Yl M xs ys,f⟩
theorem OZ(w:Wf h)(f:Small M)(r:ei h (.slice a n c) M.af)(e:cM h (.slice xa xn xc) xs)(i:cM h (.slice ya yn yc) ys):
  FW SS 39 [.agg ⟨bT M a n c⟩,.int .i64 0,.slice xa xn xc,.slice ya yn yc] h (λv g=>v=strOf (Aa M xs ys).1/\Ok h g):=by
 obtain⟨d,b⟩:=fQ w r;refine OY (bT M a n c) 0 xa xn xc ya yn yc h _ ⟨_,jU M a n c,aa (λq=>by cases q) (λ_=>⟨_,d.all,(NK b.wf f d.row (cM.ok e b) (cM.ok i b)).mono ?_⟩)⟩;rintro _ g ⟨rfl,j⟩;exact⟨_,_,rfl,rfl,b.trans j⟩
def te(M:bC)(b:Int)(xs ys:List Int)(a:List UInt8):Bool:=cI M&&(M.kind==b&&((Aa M xs ys).2==2||((Aa M xs ys).2==0&&(Aa M xs ys).1==a)))
theorem Fc(w:Wf h)(p:Small M)(r:ei h (.slice a n c) M.af)(t:cM h (.slice xa xn xc) xs)(u:cM h (.slice ya yn yc) ys)(b:Int)(e:List UInt8):
  FW SS 19 [.agg ⟨bT M a n c⟩,.int .i64 b,.slice xa xn xc,.slice ya yn yc,strOf e] h (λv g=>v = .bool (te M b xs ys e)/\Ok h g):=by
 obtain⟨l,s⟩:=fQ w r;refine OX (bT M a n c) b xa xn xc ya yn yc e h _ ⟨_,jU M a n c,_,l.all,(zu s.wf p l.row).mono ?_⟩;generalize h.push (Bm M a n c)=g at*;unfold te;rintro _ y ⟨rfl,o⟩;have d:=s.trans o;have f:=l.ok o;refine⟨_,rfl,aa (λq=>⟨?_,d⟩) (λq=>?_)⟩
 ·rw[not_eq_true']at q;rw[q];rfl
 rw[not_eq_false']at q;rw[q,Bool.true_and];refine⟨_,dY _,_,f.l0,aa (λk=>⟨?_,d⟩) (λk=>?_)⟩
 ·have:(M.kind==b)=false:=by simpa using k
  rw[this];rfl
 have:(M.kind==b)=true:=by simpa using k
 rw[this,Bool.true_and];refine⟨_,f.all,(NK o.wf p f.row (cM.ok t d) (cM.ok u d)).mono ?_⟩;rintro _ z ⟨rfl,x⟩;have i:=d.trans x;refine⟨_,_,rfl,aa (λj=>⟨?_,i⟩) (λj=>aa (λm=>⟨?_,i⟩) (λm=>⟨?_,i⟩))⟩
 ·rw[j];rfl
 ·rw[j,m];rfl
 ·rw[j,m];rfl
end
end
end Go.Proofs.YtaaichlgdgjgjaaGreatDoor
end
section
namespace Go.Proofs.YtaaichlgdgjgjaaGreatDoor
open Go Go.Ab Go.Num Go.Num.ba
section
section
variable {K:Type} {S:ba K} {dec:List UInt8->K} {M:bC}
theorem aaD(h:wy S dec M.kind)(f:cI M=true){a b:List Int}(c:dn a=true)(d:dn b=true):(∃w,Aa M a b=(w,0)/\aM M.kind w=true/\dec w=X7 S dec M a b)\/Aa M a b=([],2):=by
 unfold Aa;rw[f,c,d,if_pos (show(true&&(true&&true))=true from rfl)]
 cases e:eA (aX M.kind) (gm M) a b with
 |none=>exact .inr rfl
 |some w=>
  obtain⟨g,i⟩:=Vd h (zp f) (Du c) (Du d) e;exact .inl ⟨w,rfl,g,i⟩
end
end
end Go.Proofs.YtaaichlgdgjgjaaGreatDoor
end
section
namespace Go.Proofs.YtaaichlgdgjgjaaGreatDoor
open Go Go.Ab Go.Num
variable{M:bC}
def Ww:Nat->Nat->List UInt8
 |0,_=>[]
 |f+1,n=>if n<10 then[eP n]else Ww f (n/10)++[eP (n%10)]
theorem M4:∀{f n:Nat},n<f->Ww f n=ag n
 |f+1,n,h=>by
  unfold Ww;by_cases c:n<10
  ·rw[if_pos c,dx c]
  ·rw[if_neg c,hP (by omega),M4 (by omega)]
def Dw(n:Nat):List UInt8:=Ww (n+1) n
theorem BC(n:Nat):ag n=Dw n:=(M4 (lt_succ_self n)).symm
def WU(s:Bool)(n d:Nat):List UInt8:=(if s=true/\n≠0 then[45]else[])++(Dw n++(if d=1 then[]else 47::Dw d))
theorem YZ(s:Bool)(n d:Nat):cz s n d=WU s n d:=by unfold cz WU;rw[BC,BC]
def SU(s:Bool)(n d:Nat):Option (List UInt8):=if 400<(Dw (n/Nat.gcd n d)).length\/400<(Dw (d/Nat.gcd n d)).length then none else some (WU s (n/Nat.gcd n d) (d/Nat.gcd n d))
theorem T4(s:Bool)(n d:Nat):lD s n d=SU s n d:=by unfold lD SU;rw[BC,BC,YZ]
def WT(a b:List UInt8):Option (List UInt8):=SU (dB (Num.isNeg a) (Num.val (Num.numOf a)*Num.val (ak b)) (Num.isNeg b) (Num.val (Num.numOf b)*Num.val (ak a))).1 (dB (Num.isNeg a) (Num.val (Num.numOf a)*Num.val (ak b)) (Num.isNeg b) (Num.val (Num.numOf b)*Num.val (ak a))).2 (Num.val (ak a)*Num.val (ak b))
def abL(a b:List UInt8):Option (List UInt8):=SU (Num.isNeg a !=Num.isNeg b) (Num.val (Num.numOf a)*Num.val (Num.numOf b)) (Num.val (ak a)*Num.val (ak b))
def abK(a b:List UInt8):Option (List UInt8):=SU (Num.isNeg a !=Num.isNeg b) (Num.val (Num.numOf a)*Num.val (ak b)) (Num.val (ak a)*Num.val (Num.numOf b))
def abM(a:List UInt8):List UInt8:=WU (!Num.isNeg a) (Num.val (Num.numOf a)) (Num.val (ak a))
theorem Rk:pY=WT:=by funext a b;exact T4 _ _ _
theorem abQ:BY=abL:=by funext a b;exact T4 _ _ _
theorem abA:Gd=abK:=by funext a b;exact T4 _ _ _
theorem abR:pZ=abM:=by funext a;exact YZ _ _ _
def SR(c:Int)(a b:List UInt8):Option (List UInt8):=if c≠2 then some (if Gb c b a<0 then b else a)else if a=de\/b=de then some de else WT a b
def Ll(c:Int)(a b:List UInt8):Option (List UInt8):=if a=bE c\/b=bE c then some (bE c)else if a=de\/b=de then some de else if a=hK\/b=hK then some hK else if c=1 then WT a b else abL a b
def SV(b:Int)(a:List UInt8):Option (List UInt8):=if b=1 then(if dp a [48]>=0 then some [48]else some hK)else if b=3 then(if dp a [49]<=0 then some [49]else some de)else if dp a [49]>=0 then some de else match WT [49] (abM a)with
 |some d=>abK [49] d
 |none=>none
theorem Z8:eM=SR:=by funext k a b;unfold eM SR;rw[Rk]
theorem Hw:dg=Ll:=by funext k a b;unfold dg Ll;rw[Rk,abQ]
theorem aam:lE=SV:=by funext k a;unfold lE SV;rw[Rk,abA,abR];rfl
def ZV(b:Int):pX (List UInt8):=⟨bE b,qt b,λa=>a==bE b,SR b,Ll b,SV b⟩
theorem abW(a:Int):aX a=ZV a:=by unfold aX ZV;rw[Z8,Hw,aam]
def acx(M:bC)(a b:List Int):List UInt8×Int:=if(cI M&&(dn a&&dn b))=true then(match eA (ZV M.kind) (gm M) a b with|some w=>(w,0)|none=>([],2))else([],1)
theorem Ba(M:bC)(a b:List Int):Aa M a b=acx M a b:=by unfold Aa acx;rw[abW]<;>rfl
def Ku:bC:=jd 1 [1] [2] [51]
def Zk:bC:=jd 1 [1] [2] [53]
def awU:bC:=U2 Ku Zk
def awC:bC:=Bf Ku Zk [56]
def awS:bC:=tI Ku
def awR:bC:=abZ Ku 2 3
def awT:bC:=Md Ku [55,47,50]
def awL:bC:=CK 1 [2,1,2]
def awH:bC:=jd 2 [] [] [49,47,50]
def awK:bC:=tI awH
theorem Zm:nO [2,1,2]=[1,2]:=by
 have:l6 [2,1,2]=[1,2,2]:=by simp[l6,List.mergeSort,List.MergeSort.Internal.splitInTwo]
 unfold nO;rw[this];decide
theorem Zl:awL=⟨1,0,da 1,[⟨[],GO 1 [1,2]⟩,⟨da 1,[]⟩]⟩:=by unfold awL CK;rw[Zm]
theorem aaZ:qN 1 [1] [2] [51]=(Ku,0):=by unfold qN;rw[if_pos (by decide +kernel)];rfl
theorem aa0:qN 1 [1] [2] [53]=(Zk,0):=by unfold qN;rw[if_pos (by decide +kernel)];rfl
theorem aa8:HA Ku Zk=(awU,0):=by unfold HA;rw[if_pos (by decide +kernel)];rfl
theorem Zn:dg Ku.kind Ku.lead Zk.lead=some [56]:=by rw[Hw];decide +kernel
theorem aa1:Bg Ku Zk [56]=(awC,0):=by unfold Bg;rw[if_pos (by decide +kernel)];rfl
theorem aa6:FP Ku=(awS,0):=by unfold FP;rw[if_pos (by decide +kernel)];rfl
theorem aa5:XB Ku 2 3=(awR,0):=by unfold XB;rw[if_pos (by decide +kernel)];rfl
theorem Zo:dg Ku.kind [49,47,50] Ku.lead=some [55,47,50]:=by rw[Hw];decide +kernel
theorem aa7:Hq Ku [49,47,50] [55,47,50]=(awT,0):=by unfold Hq;rw[if_pos (by decide +kernel)];rfl
theorem aa4:xb 1 [2,1,2]=(awL,0):=by unfold xb;rw[if_pos (by decide)];rfl
theorem aa2:qN 2 [] [] [49,47,50]=(awH,0):=by unfold qN;rw[if_pos (by decide +kernel)];rfl
theorem aa3:FP awH=(awK,0):=by unfold FP;rw[if_pos (by decide +kernel)];rfl
theorem abd:Aa awU [1] [2]=([51],0):=by rw[Ba];decide +kernel
theorem abe:Aa awU [1] [1]=([105,110,102],0):=by rw[Ba];decide +kernel
theorem abf:Aa awC [1,1] [2,2]=([56],0):=by rw[Ba];decide +kernel
theorem abg:Aa awS [] []=([48],0):=by rw[Ba];decide +kernel
theorem abh:Aa awS [1,1] [2,2]=([54],0):=by rw[Ba];decide +kernel
theorem abi:Aa awS [1] []=([105,110,102],0):=by rw[Ba];decide +kernel
theorem abj:Aa awR [1] [2]=([105,110,102],0):=by rw[Ba];decide +kernel
theorem abk:Aa awR [1,1] [2,2]=([54],0):=by rw[Ba];decide +kernel
theorem abl:Aa awT [1] [2]=([55,47,50],0):=by rw[Ba];decide +kernel
theorem Zp:Aa awL [2] [2]=([48],0):=by rw[Ba,Zl];decide +kernel
theorem Zr:Aa awL [1,2] [1,2]=([105,110,102],0):=by rw[Ba,Zl];decide +kernel
theorem Zs:Aa awK [] []=([50],0):=by rw[Ba];decide +kernel
theorem kC(a:cI M=true)(b:M.af.length<=300)(c:dc M.af<=2000):Small M:=(aay a (by omega)).small b c
theorem Iq:Small Ku:=kC (by decide +kernel) (by decide +kernel) (by decide +kernel)
theorem Yv:Small Zk:=kC (by decide +kernel) (by decide +kernel) (by decide +kernel)
theorem Yy:Small awU:=kC (by decide +kernel) (by decide +kernel) (by decide +kernel)
theorem aa9:Small awC:=kC (by decide +kernel) (by decide +kernel) (by decide +kernel)
theorem Rt:Small awS:=kC (by decide +kernel) (by decide +kernel) (by decide +kernel)
theorem Yx:Small awR:=kC (by decide +kernel) (by decide +kernel) (by decide +kernel)
theorem abc:Small awT:=kC (by decide +kernel) (by decide +kernel) (by decide +kernel)
theorem Yw:Small awL:=by rw[Zl];exact kC (by decide +kernel) (by decide +kernel) (by decide +kernel)
theorem aba:Small awH:=kC (by decide +kernel) (by decide +kernel) (by decide +kernel)
theorem abb:Small awK:=kC (by decide +kernel) (by decide +kernel) (by decide +kernel)
noncomputable def VR:FD:=cF Tryz.f12 []
theorem Ru  (h:ae) (Q:VH) (hx:xR (aF SS.P 22 1 [(0,(.int .i64 1))]) h λ_ A C B=>xR (aF SS.P 22 1 [(0,(.int .i64 2))]) B λ_ F D J=>xR (aF SS.P 22 2 [(0,(.int .i64 1)),(1,(.int .i64 1))]) J λ_ W k7 I=>xR (aF SS.P 22 2 [(0,(.int .i64 2)),(1,(.int .i64 2))]) I λ_ k3 Z k5=>FW SS 13 [(.int .i64 1),(sA (h.next) A C),(sA (B.next) F D),(strOf [51])] k5 λk1 E=>∃k0:LV,∃j9:Int,k1=(.tuple ⟨[(.agg ⟨k0⟩),(.int .i64 j9)]⟩)/\xN (bq SS.P 29) E λ_ j8=>xU (ah SS.P 29 (pA (E.next)) (.agg ⟨k0⟩) j8) j8 λ_ j7=>FW SS 13 [(.int .i64 1),(sA (h.next) A C),(sA (B.next) F D),(strOf [53])] j7 λj5 L=>∃j4:LV,∃j3:Int,j5=(.tuple ⟨[(.agg ⟨j4⟩),(.int .i64 j3)]⟩)/\xN (bq SS.P 29) L λ_ j2=>xU (ah SS.P 29 (pA (L.next)) (.agg ⟨j4⟩) j2) j2 λ_ H=>au (((j9:Int) !=0)) (Q (.bool false) H) (au (((j3:Int) !=0)) (Q (.bool false) H) (lA 29 H (pA (E.next)) λj0=>lA 29 H (pA (L.next)) λi9=>FW SS 25 [(.agg ⟨j0⟩),(.agg ⟨i9⟩)] H λi7 K=>∃i6:LV,∃i5:Int,i7=(.tuple ⟨[(.agg ⟨i6⟩),(.int .i64 i5)]⟩)/\xN (bq SS.P 29) K λ_ i4=>xU (ah SS.P 29 (pA (K.next)) (.agg ⟨i6⟩) i4) i4 λ_ i3=>lA 29 i3 (pA (E.next)) λi2=>lA 29 i3 (pA (L.next)) λi1=>FW SS 31 [(.agg ⟨i2⟩),(.agg ⟨i1⟩)] i3 λh9 P=>∃h8:LV,∃h7:Int,h9=(.tuple ⟨[(.agg ⟨h8⟩),(.int .i64 h7)]⟩)/\xN (bq SS.P 29) P λ_ h6=>xU (ah SS.P 29 (pA (P.next)) (.agg ⟨h8⟩) h6) h6 λ_ h5=>lA 29 h5 (pA (E.next)) λh4=>FW SS 33 [(.agg ⟨h4⟩)] h5 λh2 G=>∃h1:LV,∃M:Int,h2=(.tuple ⟨[(.agg ⟨h1⟩),(.int .i64 M)]⟩)/\xN (bq SS.P 29) G λ_ g9=>xU (ah SS.P 29 (pA (G.next)) (.agg ⟨h1⟩) g9) g9 λ_ g7=>lA 29 g7 (pA (E.next)) λg6=>FW SS 35 [(.agg ⟨g6⟩),(.int .i64 2),(.int .i64 3)] g7 λg3 N=>∃g2:LV,∃g1:Int,g3=(.tuple ⟨[(.agg ⟨g2⟩),(.int .i64 g1)]⟩)/\xN (bq SS.P 29) N λ_ g0=>xU (ah SS.P 29 (pA (N.next)) (.agg ⟨g2⟩) g0) g0 λ_ f9=>lA 29 f9 (pA (E.next)) λf8=>FW SS 37 [(.agg ⟨f8⟩),(strOf [49,47,50])] f9 λf6 V=>∃f5:LV,∃f4:Int,f6=(.tuple ⟨[(.agg ⟨f5⟩),(.int .i64 f4)]⟩)/\xN (bq SS.P 29) V λ_ f3=>xU (ah SS.P 29 (pA (V.next)) (.agg ⟨f5⟩) f3) f3 λ_ f2=>xR (aF SS.P 22 3 [(0,(.int .i64 2)),(1,(.int .i64 1)),(2,(.int .i64 2))]) f2 λ_ e9 f0 f1=>FW SS 21 [(.int .i64 1),(sA (f2.next) e9 f0)] f1 λe7 O=>∃e6:LV,∃e5:Int,e7=(.tuple ⟨[(.agg ⟨e6⟩),(.int .i64 e5)]⟩)/\xN (bq SS.P 29) O λ_ e4=>xU (ah SS.P 29 (pA (O.next)) (.agg ⟨e6⟩) e4) e4 λ_ e3=>FW SS 13 [(.int .i64 2),nA,nA,(strOf [49,47,50])] e3 λe1 e2=>∃e0:LV,∃d9:Int,e1=(.tuple ⟨[(.agg ⟨e0⟩),(.int .i64 d9)]⟩)/\xN (bq SS.P 29) e2 λ_ d8=>xU (ah SS.P 29 (pA (e2.next)) (.agg ⟨e0⟩) d8) d8 λ_ d7=>lA 29 d7 (pA (e2.next)) λd6=>FW SS 33 [(.agg ⟨d6⟩)] d7 λd4 d5=>∃d3:LV,∃d2:Int,d4=(.tuple ⟨[(.agg ⟨d3⟩),(.int .i64 d2)]⟩)/\xN (bq SS.P 29) d5 λ_ d1=>xU (ah SS.P 29 (pA (d5.next)) (.agg ⟨d3⟩) d1) d1 λ_ d0=>au (((d9:Int)==0)) (lA 29 d0 (pA (K.next)) λc9=>FW SS 39 [(.agg ⟨c9⟩),(.int .i64 i5),(sA (h.next) A C),(sA (B.next) F D)] d0 λc6 U=>yS c6 λc5=>au ((c5:LB)==[51]) (lA 29 U (pA (K.next)) λc4=>FW SS 39 [(.agg ⟨c4⟩),(.int .i64 i5),(sA (h.next) A C),(sA (h.next) A C)] U λc1 c2=>yS c1 λc0=>au ((c0:LB)==[105,110,102]) (lA 29 c2 (pA (P.next)) λb9=>FW SS 39 [(.agg ⟨b9⟩),(.int .i64 h7),(sA (J.next) W k7),(sA (I.next) k3 Z)] c2 λb7 T=>yS b7 λb6=>au ((b6:LB)==[56]) (lA 29 T (pA (G.next)) λb5=>FW SS 39 [(.agg ⟨b5⟩),(.int .i64 M),nA,nA] T λb3 X=>yS b3 λb2=>au ((b2:LB)==[48]) (lA 29 X (pA (G.next)) λb1=>FW SS 39 [(.agg ⟨b1⟩),(.int .i64 M),(sA (J.next) W k7),(sA (I.next) k3 Z)] X λa9 Y=>yS a9 λa8=>au ((a8:LB)==[54]) (lA 29 Y (pA (G.next)) λa7=>FW SS 39 [(.agg ⟨a7⟩),(.int .i64 M),(sA (h.next) A C),nA] Y λa5 S=>yS a5 λa4=>au ((a4:LB)==[105,110,102]) (lA 29 S (pA (N.next)) λa3=>FW SS 39 [(.agg ⟨a3⟩),(.int .i64 g1),(sA (h.next) A C),(sA (B.next) F D)] S λa1 R=>yS a1 λa0=>au ((a0:LB)==[105,110,102]) (lA 29 R (pA (N.next)) λz=>FW SS 39 [(.agg ⟨z⟩),(.int .i64 g1),(sA (J.next) W k7),(sA (I.next) k3 Z)] R λx y=>yS x λw=>au ((w:LB)==[54]) (lA 29 y (pA (V.next)) λv=>FW SS 39 [(.agg ⟨v⟩),(.int .i64 f4),(sA (h.next) A C),(sA (B.next) F D)] y λt u=>yS t λs=>au ((s:LB)==[55,47,50]) (lA 29 u (pA (O.next)) λr=>FW SS 39 [(.agg ⟨r⟩),(.int .i64 e5),(sA (B.next) F D),(sA (B.next) F D)] u λp q=>yS p λo=>au ((o:LB)==[48]) (lA 29 q (pA (O.next)) λn=>xR (aF SS.P 22 2 [(0,(.int .i64 1)),(1,(.int .i64 2))]) q λ_ k l m=>xR (aF SS.P 22 2 [(0,(.int .i64 1)),(1,(.int .i64 2))]) m λ_ h i j=>FW SS 39 [(.agg ⟨n⟩),(.int .i64 e5),(sA (q.next) k l),(sA (m.next) h i)] j λf g=>yS f λe=>au ((e:LB)==[105,110,102]) (lA 29 g (pA (d5.next)) λd=>FW SS 39 [(.agg ⟨d⟩),(.int .i64 d2),nA,nA] g λb c=>yS b λa=>Q (.bool ((a:LB)==[50])) c) (Q (.bool false) g)) (Q (.bool false) q)) (Q (.bool false) u)) (Q (.bool false) y)) (Q (.bool false) R)) (Q (.bool false) S)) (Q (.bool false) Y)) (Q (.bool false) X)) (Q (.bool false) T)) (Q (.bool false) c2)) (Q (.bool false) U)) (Q (.bool false) d0)))):FW SS 12 [] h Q:=cJ VR Tryz.func12 (ai hx)
variable{h:ae}{g:ae}{a:Option Addr}{n:Nat}{k:Nat}{d:List Value}{p:List Int}{t:List UInt8}
theorem Tw{c:Nat}{d:List (dW×Value)}(w:Wf g)(b:d.map (·.1)=M.af)(f:jY h g (.slice a n c) d):
  ∃u:dJ,ah SS.P 29 (.pointer (some ⟨g.next,0,none⟩)) (.agg ⟨bT M a n c⟩) (g.push mG)=some (undef,u)/\Ok g (u.app (g.push mG))/\MB (u.app (g.push mG)) g.next M a n c:=by
 obtain⟨o,e⟩:=oZ (cs:=bT M a n c) w ((Ok.refl w).push mG) (aI g mG) (Nat.le_refl _);refine⟨_,kQ (t:=29) vt (cs0:=[.int .i64 0,.int .i64 0,strOf [],.slice none 0 0]) rfl (aI g mG) (cs:=bT M a n c) rfl (uh ..),o,e,?_⟩;have:=f.st;rw[b]at this;exact ei.ok this o
theorem abq(z:Int):aF SS.P 22 1 [(0,.int .i64 z)]=some (.cells [.int .i64 z] 3 1 true,my 1 1):=by kernel_rfl
theorem Wi(z y:Int):aF SS.P 22 2 [(0,.int .i64 z),(1,.int .i64 y)]=some (.cells [.int .i64 z,.int .i64 y] 3 1 true,my 2 2):=by kernel_rfl
theorem acS(z y x:Int):aF SS.P 22 3 [(0,.int .i64 z),(1,.int .i64 y),(2,.int .i64 x)]=some (.cells [.int .i64 z,.int .i64 y,.int .i64 x] 3 1 true,my 3 3):=by kernel_rfl
theorem r8{cs:List Value}{l:List Int}(h:g.get k=some (.cells cs 3 1 true))(b:cs=wW l)(a:l.length=n):cM g (.slice (some ⟨k,0,none⟩) n n) l:=by
 subst a;subst b;exact .inr ⟨k,0,wW l,l.length,true,3,1,rfl,h,.inl ⟨rfl,rfl⟩,by rw[drop_zero,take_of_length_le (Nat.le_of_eq (jr l))]⟩
theorem vR(g:ae):cM g (.slice none 0 0) []:= .inl ⟨rfl,rfl⟩
theorem oP{R:bC}{e:Int}{r:bC×Int}(l:FW SS n d g (A2 g r))(m:r=(R,e)){Z:ae->List Value->Int->Prop}
  (p:∀(b:ae)(a:Option Addr)(i c:Nat)(u:dJ),Ok g b->ah SS.P 29 (.pointer (some ⟨b.next,0,none⟩)) (.agg ⟨bT R a i c⟩) (b.push mG)=some (undef,u)->Ok g (u.app (b.push mG))->MB (u.app (b.push mG)) b.next R a i c->Z b (bT R a i c) e):
  FW SS n d g λv h=>∃cs:LV,∃i:Int,v = .tuple ⟨[.agg ⟨cs⟩,.int .i64 i]⟩/\Z h cs i:=by
 refine l.mono ?_;rintro _ b ⟨a,i,c,t,rfl,f,s,j⟩;rw[m]at f⊢;obtain⟨u,o,q,k⟩:=Tw j.wf f s;exact⟨_,_,rfl,p b a i c u j o (j.trans q) k⟩
theorem ny{c:Nat}{j:List Int}(w:Wf g)(x:MB g k M a n c)(s:Small M){d f:Option Addr}{q i e m:Nat}(r:cM g (.slice d q i) p)(u:cM g (.slice f e m) j)(z:Aa M p j=(t,0))
  {Z:List UInt8->ae->Prop} (y:∀b,Ok g b->Z t b):
  FW SS 39 [.agg ⟨bT M a n c⟩,.int .i64 0,.slice d q i,.slice f e m] g λv h=>yS v λl=>Z l h:=by
 refine(OZ w s x.row r u).mono ?_;rintro _ b ⟨rfl,o⟩;rw[z];exact⟨_,rfl,y b o⟩
theorem Rv(w:Wf h)(r:nz h):FW SS 12 [] h (λv g=>v = .bool true/\Ok h g):=by
 have o1:=(Ok.refl w).push (.cells [.int .i64 1] 3 1 true);have e:=r8 (l:=[1]) (n:=1) (aI h (.cells [.int .i64 1] 3 1 true)) rfl rfl;refine Ru h _ ⟨_,_,_,abq 1,_,_,_,abq 2,_,_,_,Wi 1 1,_,_,_,Wi 2 2,?_⟩;generalize h.push (.cells [.int .i64 1] 3 1 true)=g1 at*;have o2:=(Ok.refl o1.wf).push (.cells [.int .i64 2] 3 1 true);have f:=r8 (l:=[2]) (n:=1) (aI g1 (.cells [.int .i64 2] 3 1 true)) rfl rfl;generalize g1.push (.cells [.int .i64 2] 3 1 true)=g2 at*;have X:=(Ok.refl o2.wf).push (.cells [.int .i64 1,.int .i64 1] 3 1 true);have t:=r8 (l:=[1,1]) (n:=2) (aI g2 (.cells [.int .i64 1,.int .i64 1] 3 1 true)) rfl rfl;generalize g2.push (.cells [.int .i64 1,.int .i64 1] 3 1 true)=g3 at*;have M:=(Ok.refl X.wf).push (.cells [.int .i64 2,.int .i64 2] 3 1 true);have Q:=r8 (l:=[2,2]) (n:=2) (aI g3 (.cells [.int .i64 2,.int .i64 2] 3 1 true)) rfl rfl;generalize g3.push (.cells [.int .i64 2,.int .i64 2] 3 1 true)=g4 at*;have q4:=((o1.trans o2).trans X).trans M;have e:=cM.ok e ((o2.trans X).trans M);have f:=cM.ok f (X.trans M);have t:=cM.ok t M;refine oP (wI M.wf (r.ok q4) e f (by decide)) aaZ λv5 a n c z8 ob st T b=>⟨_,qy,z8,st,?_⟩
 generalize z8.app (v5.push mG)=v8 at*;have y3:=q4.trans T;have e:=cM.ok e T;have f:=cM.ok f T;refine oP (wI T.wf (r.ok y3) e f (by decide)) aa0 λj0 a' n' c' y8 j6 w3 V x=>⟨_,qy,y8,w3,aa (λq=>by cases q) (λ_=>aa (λq=>by cases q) (λ_=>?_))⟩
 generalize y8.app (j0.push mG)=w5 at*;have z6:=y3.trans V;have b:=b.ok V;refine⟨_,b.all,_,x.all,oP (Oi V.wf (r.ok z6) Iq Yv b.row x.row) aa8 λu2 aU nU cU z4 q0 v3 L B=>⟨_,qy,z4,v3,?_⟩⟩;generalize z4.app (u2.push mG)=w8 at*;have y9:=z6.trans L;have b:=b.ok L;have x:=x.ok L;refine⟨_,b.all,_,x.all,oP (KX L.wf (r.ok y9) Iq Yv b.row x.row (λ_=>Zn)) aa1 λw2 aC nC cC y4 X1 v7 W Z=>⟨_,qy,y4,v7,?_⟩⟩;generalize y4.app (w2.push mG)=w7 at*;have x9:=y9.trans W;have b:=b.ok W;refine⟨_,b.all,oP (Ir W.wf (r.ok x9) Iq b.row) aa6 λu8 aS nS cS y7 j9 j3 K s=>⟨_,qy,y7,j3,?_⟩⟩;generalize y7.app (u8.push mG)=u5 at*;have z3:=x9.trans K;have b:=b.ok K;refine⟨_,b.all,oP (KZ K.wf (r.ok z3) Iq (by decide) (by decide) b.row) aa5 λu3 aR nR cR x5 X3 u7 o E=>⟨_,qy,x5,u7,?_⟩⟩;generalize x5.app (u3.push mG)=w1 at*;have z0:=z3.trans o;have b:=b.ok o;refine⟨_,b.all,oP (Oc o.wf (r.ok z0) Iq (by decide) b.row (λ_ _=>Zo)) aa7 λj5 aT nT cT z1 X2 w4 p Y=>⟨_,qy,z1,w4,?_⟩⟩;generalize z1.app (j5.push mG)=J at*;have v6:=z0.trans p;refine⟨_,_,_,acS 2 1 2,?_⟩;have m:=(Ok.refl p.wf).push (.cells [.int .i64 2,.int .i64 1,.int .i64 2] 3 1 true);have v9:=r8 (l:=[2,1,2]) (n:=3) (aI J (.cells [.int .i64 2,.int .i64 1,.int .i64 2] 3 1 true)) rfl rfl;generalize J.push (.cells [.int .i64 2,.int .i64 1,.int .i64 2] 3 1 true)=q3 at*;refine oP (VZ m.wf v9 (by decide)) aa4 λu6 aL nL cL x8 q1 j4 k G=>⟨_,qy,x8,j4,?_⟩
 generalize x8.app (u6.push mG)=R at*;have z2:=(v6.trans m).trans k;refine oP (wI k.wf (r.ok z2) (vR R) (vR R) (by decide)) aa2 λv0 aH nH cH x0 j7 j1 j mH=>⟨_,qy,x0,j1,?_⟩
 generalize x0.app (v0.push mG)=j8 at*;have x6:=z2.trans j;refine⟨_,mH.all,oP (Ir j.wf (r.ok x6) aba mH.row) aa3 λz9 aK nK cK I X0 w0 i mK=>⟨_,qy,I,w0,aa (λ_=>?_) (λq=>by cases q)⟩⟩;generalize I.app (z9.push mG)=d at*;have x7:Ok w8 d:=((((((W.trans K).trans o).trans p).trans m).trans k).trans j).trans i;have u4:Ok w7 d:=(((((K.trans o).trans p).trans m).trans k).trans j).trans i;have j2:Ok u5 d:=((((o.trans p).trans m).trans k).trans j).trans i;have v2:Ok w1 d:=(((p.trans m).trans k).trans j).trans i;have v1:Ok J d:=((m.trans k).trans j).trans i;have w9:Ok R d:=j.trans i;have u1:Ok w5 d:=L.trans x7;have P:Ok v8 d:=V.trans u1;have e4:Ok g4 d:=T.trans P;have u0:=x6.trans i;have B:=B.ok x7;have Z:=Z.ok u4;have s:=s.ok j2;have E:=E.ok v2;have Y:=Y.ok v1;have G:=G.ok w9;have e:=cM.ok e P;have f:=cM.ok f P;have t:=cM.ok t e4;have Q:=cM.ok Q e4;refine⟨_,B.all,ny i.wf B Yy e f abd λh1 p1=>aa (λ_=>?_) (λq=>by cases q)⟩;have y:=p1;refine⟨_,(B.ok y).all,ny y.wf (B.ok y) Yy (cM.ok e y) (cM.ok e y) abe λh2 p2=>aa (λ_=>?_) (λq=>by cases q)⟩;have A:=y.trans p2;refine⟨_,(Z.ok A).all,ny A.wf (Z.ok A) aa9 (cM.ok t A) (cM.ok Q A) abf λh3 p3=>aa (λ_=>?_) (λq=>by cases q)⟩;have U:=A.trans p3;refine⟨_,(s.ok U).all,ny U.wf (s.ok U) Rt (vR h3) (vR h3) abg λh4 p4=>aa (λ_=>?_) (λq=>by cases q)⟩;have H:=U.trans p4;refine⟨_,(s.ok H).all,ny H.wf (s.ok H) Rt (cM.ok t H) (cM.ok Q H) abh λh5 p5=>aa (λ_=>?_) (λq=>by cases q)⟩;have O:=H.trans p5;refine⟨_,(s.ok O).all,ny O.wf (s.ok O) Rt (cM.ok e O) (vR h5) abi λh6 p6=>aa (λ_=>?_) (λq=>by cases q)⟩;have C:=O.trans p6;refine⟨_,(E.ok C).all,ny C.wf (E.ok C) Yx (cM.ok e C) (cM.ok f C) abj λh7 p7=>aa (λ_=>?_) (λq=>by cases q)⟩;have F:=C.trans p7;refine⟨_,(E.ok F).all,ny F.wf (E.ok F) Yx (cM.ok t F) (cM.ok Q F) abk λh8 p8=>aa (λ_=>?_) (λq=>by cases q)⟩;have D:=F.trans p8;refine⟨_,(Y.ok D).all,ny D.wf (Y.ok D) abc (cM.ok e D) (cM.ok f D) abl λh9 p9=>aa (λ_=>?_) (λq=>by cases q)⟩;have z:=D.trans p9;refine⟨_,(G.ok z).all,ny z.wf (G.ok z) Yw (cM.ok f z) (cM.ok f z) Zp λz7 v4=>aa (λ_=>?_) (λq=>by cases q)⟩;have N:=z.trans v4;refine⟨_,(G.ok N).all,_,_,_,Wi 1 2,_,_,_,Wi 1 2,?_⟩;have y6:=(Ok.refl N.wf).push (.cells [.int .i64 1,.int .i64 2] 3 1 true);have y1:=r8 (l:=[1,2]) (n:=2) (aI z7 (.cells [.int .i64 1,.int .i64 2] 3 1 true)) rfl rfl;generalize z7.push (.cells [.int .i64 1,.int .i64 2] 3 1 true)=y0 at*;have y5:=(Ok.refl y6.wf).push (.cells [.int .i64 1,.int .i64 2] 3 1 true);have y2:=r8 (l:=[1,2]) (n:=2) (aI y0 (.cells [.int .i64 1,.int .i64 2] 3 1 true)) rfl rfl;generalize y0.push (.cells [.int .i64 1,.int .i64 2] 3 1 true)=q2 at*;have S:=(N.trans y6).trans y5;refine ny S.wf (G.ok S) Yw (cM.ok y1 y5) y2 Zr λz5 w6=>aa (λ_=>?_) (λq=>by cases q);have u:=S.trans w6;refine⟨_,(mK.ok u).all,ny u.wf (mK.ok u) abb (vR z5) (vR z5) Zs λX4 u9=>⟨rfl,u0.trans (u.trans u9)⟩⟩
end Go.Proofs.YtaaichlgdgjgjaaGreatDoor
end
section
namespace Go.Proofs.YtaaichlgdgjgjaaGreatDoor
open Go Go.Ab Go.Num Go.Num.ba
variable{p:List Int}{i:Nat}
section
section
variable {K:Type} {S:ba K} {dec:List UInt8->K}
theorem U3{C:dK K}{q:Nat}(d:∀a∈C.arcs q,¬(a.i=0/\a.o=0))(x y:List Int):dK.val S C x y q=S.add (emp S x y (C.fin q)) (gW S (dK.go S (dK.val S C) x y) (C.arcs q)):=by
 have b:dK.val S C x y q=Hv S (dK.Qt S C) C.n (dK.tail S C (dK.val S C) x y) q:=by rw[dK.Mv (S:=S) (M:=C) x y]
 rw[b,Dm];have e:∀p,dK.Qt S C q p=S.zero:=λp=>by
  unfold dK.Qt;rw[gx (g:=λ_=>S.zero) λa h=>?_,oj];exact if_neg λc=>d a h ⟨c.1,c.2.1⟩
 rw[aN (g:=λ_=>S.zero) λp _=>by rw[e p,S.zero_mul],gb,ba.add_zero];rfl
theorem M6{s:Int}(a:s≠0)(r u:List Int):gX s u=some r↔u=s::r:=by
 unfold gX;rw[if_neg a]
 cases u with
 |nil=>simp
 |cons c t=>
  dsimp only;by_cases e:c=s
  ·subst e;rw[if_pos rfl];simp
  ·rw[if_neg e];simp[e]
theorem Sk(f:∀s∈p,s≠0)(i:Nat)(u:List Int):(∀r,gX (p.getD i 0) u=some r->(u=p.drop i↔r=p.drop (i+1)))/\(gX (p.getD i 0) u=none->u≠p.drop i):=by
 by_cases a:i<p.length
 ·have d:p.getD i 0∈p:=by
   rw[gD,gE a];exact List.getElem_mem a
  have b:=f _ d;have c:=Bi a;constructor
  ·intro r h;have:=(M6 b r u).1 h;rw[this,c];simp
  ·intro h e;have:=(M6 b (p.drop (i+1)) u).2 (e.trans c);rw[this]at h;cases h
 ·have g:p.getD i 0=0:=by rw[gD,List.getElem?_eq_none (by omega)];rfl
  have e:gX (p.getD i 0) u=some u:=by rw[g];exact if_pos rfl
  rw[drop_eq_nil_of_le (by omega),drop_eq_nil_of_le (by omega)];constructor
  ·intro r h;rw[e]at h;injection h with h
   rw[h]
  ·intro h;rw[e]at h;cases h
variable {kind:Int} {xs ys:List Int} {wt:List UInt8}
theorem Vf(a:i<max xs.length ys.length):(jd kind xs ys wt).af[i]?=some ⟨[],[⟨xs.getD i 0,ys.getD i 0,da kind,((i+1:Nat):Int)⟩]⟩:=by
 show(mD kind xs ys (max xs.length ys.length)++[(⟨da kind,[]⟩:dW)])[i]?=_;rw[List.getElem?_append_left (by rw[kI];exact a)];unfold mD;rw[getElem?_map,List.getElem?_range a];rfl
theorem QP:(jd kind xs ys wt).af[max xs.length ys.length]?=some ⟨da kind,[]⟩:=Bn _ _ [] (kI ..)
theorem zU:(jd kind xs ys wt).af.length=max xs.length ys.length+1:=by
 show(mD kind xs ys (max xs.length ys.length)++[(⟨da kind,[]⟩:dW)]).length=_;rw[length_append,kI];rfl
theorem F3:dc (jd kind xs ys wt).af=max xs.length ys.length:=by
 show dc (mD kind xs ys (max xs.length ys.length)++[(⟨da kind,[]⟩:dW)])=_;rw[dR,yj];rfl
theorem NL(e:1<=kind/\kind<=3)(g:dn xs=true)(k:dn ys=true)(m:bj kind wt=true):VOk (jd kind xs ys wt):=by
 have p:=kJ g;have o:=kJ k;have b:=zU (kind:=kind) (xs:=xs) (ys:=ys) (wt:=wt);have n:=F3 (kind:=kind) (xs:=xs) (ys:=ys) (wt:=wt);refine⟨e,⟨by omega,by omega⟩,⟨Int.le_refl _,by rw[b];show(0:Int)<_;omega⟩,m,by omega,λs a=>?_⟩;rw[b];show StW kind _ s;rcases List.mem_append.1 a with a|a
 ·unfold mD at a;obtain⟨i,j,rfl⟩:=mem_map.1 a;have j:=List.mem_range.1 j;refine⟨.inl rfl,λq d=>?_⟩;have:=mem_singleton.1 d;subst this;have f:∀{l:List Int},dn l=true->pR (l.getD i 0)=true:=λ{l} h=>by
   unfold dn at h;rw[and_eq_true,all_eq_true]at h;by_cases c:i<l.length
   ·have:=h.2 (l.getD i 0) (by rw[gD,gE c];exact List.getElem_mem c);unfold qL at this;rw[and_eq_true,decide_eq_true_eq,decide_eq_true_eq]at this;unfold pR;rw[decide_eq_true (show 0<=l.getD i 0 by omega),decide_eq_true this.2];rfl
   ·rw[gD,List.getElem?_eq_none (by omega)];rfl
  exact Rq (f g) (f k) ⟨by show 0<=((i+1:Nat):Int);omega,by show((i+1:Nat):Int)<_;omega⟩ (YV e)
 ·have:=mem_singleton.1 a;subst this;exact⟨.inr (YV e),λq d=>by cases d⟩
theorem Jn(b:dn xs=true){i:Nat}(a:i<xs.length):xs.getD i 0≠0:=Du b _ (by rw[gD,gE a];exact List.getElem_mem a)
theorem U4(r:1<=kind/\kind<=3)(z:wy S dec kind)(n:dn xs=true)(w:dn ys=true)(u v:List Int):X7 S dec (jd kind xs ys wt) u v=if u=xs/\v=ys then dec wt else S.zero:=by
 have o:dec (da kind)=S.one:=by rw[G4 r];exact z.one
 have p:da kind≠[]:=by rw[G4 r];unfold qt;split<;>simp
 have g:=zU (kind:=kind) (xs:=xs) (ys:=ys) (wt:=wt);have m:∀d i,i+d=max xs.length ys.length->∀u v,dK.val S (vmM S dec (jd kind xs ys wt)) u v i=if u=xs.drop i/\v=ys.drop i then S.one else S.zero:=by
  intro d
  induction d with
  |zero=>
   intro i C u v;obtain rfl:i=max xs.length ys.length:=by omega
   have b:=QP (kind:=kind) (xs:=xs) (ys:=ys) (wt:=wt);rw[Gk (by rw[adG,g];omega) (λa f=>by rw[BD b]at f;cases f),BD b,U6 b];show S.add _ S.zero=_;rw[ba.add_zero,if_neg p,o,drop_eq_nil_of_le (by omega),drop_eq_nil_of_le (by omega)];rfl
  | succ d A=>
   intro i C u v;have y:i<max xs.length ys.length:=by omega
   have b:=Vf (kind:=kind) (wt:=wt) y;have s:¬(xs.getD i 0=0/\ys.getD i 0=0):=λc=>by
    by_cases e:i<xs.length
    ·exact Jn n e c.1
    ·exact Jn w (by omega) c.2
   rw[U3 (λa f=>by
    rw[BD b]at f;have:=mem_singleton.1 f;subst this;exact s),BD b,U6 b,if_pos rfl,Sm,S.zero_add]
   show S.add (dK.go S (dK.val S (vmM S dec (jd kind xs ys wt))) u v ⟨xs.getD i 0,ys.getD i 0,dec (da kind),((i+1:Nat):Int).toNat⟩) S.zero=_;rw[ba.add_zero];unfold dK.go;dsimp only;rw[if_neg s];obtain⟨t,B⟩:=Sk (Du n) i u;obtain⟨q,x⟩:=Sk (Du w) i v
   cases k:gX (xs.getD i 0) u with
   |none=>rw[if_neg (λc=>B k c.1)]
   | some j=>
    cases h:gX (ys.getD i 0) v with
    |none=>rw[if_neg (λc=>x h c.2)]
    |some l=>
     dsimp only;rw[show((i+1:Nat):Int).toNat=i+1 by omega,A (i+1) (by omega),o,S.one_mul];by_cases c:j=xs.drop (i+1)/\l=ys.drop (i+1)
     ·rw[if_pos c,if_pos ⟨(t j k).2 c.1,(q l h).2 c.2⟩]
     ·rw[if_neg c,if_neg (λe=>c ⟨(t j k).1 e.1,(q l h).1 e.2⟩)]
 show S.mul (dec wt) (dK.val S (vmM S dec (jd kind xs ys wt)) u v 0)=_;rw[m _ 0 (Nat.zero_add _),drop_zero,drop_zero];split
 ·exact ba.mul_one _
 ·exact ba.mul_zero _
theorem QO(d:1<=kind/\kind<=3)(b:dn xs=true)(c:bj kind wt=true):Gr (jd kind xs xs wt)=true:=by
 unfold Gr;rw[(NL d b b c).valid,Bool.true_and];unfold Rp;rw[all_eq_true];intro s a;rcases List.mem_append.1 a with a|a
 ·unfold mD at a;obtain⟨i,e,rfl⟩:=mem_map.1 a;show((xs.getD i 0==xs.getD i 0)&&true)=true;simp
 ·have:=mem_singleton.1 a;subst this;rfl
end
end
end Go.Proofs.YtaaichlgdgjgjaaGreatDoor
end
section
namespace Go.Proofs.YtaaichlgdgjgjaaGreatDoor
open Go Go.Ab Go.Num
noncomputable def RQ:FD:=cF Tryz.f3 []
theorem On(B:Int)(xa:OA)(xn xc:Nat)(ya:OA)(yn yc:Nat)(w:LB)(ua:OA)(un uc:Nat)(va:OA)(vn vc:Nat)(h:ae)(Q:VH)(hx:xN (eV SS.P 24 (.agg ⟨[(.slice xa xn xc),(.slice ya yn yc)]⟩)) h λ_ F=>xN (eV SS.P 24 (.agg ⟨[(.slice ua un uc),(.slice va vn vc)]⟩)) F λ_ I=>au (decide ((((w:LB).length:Int):Int)>40)) (FW SS 12 [] I λb c=>yB b λa=>Q (.bool a) c) (fP 24 (pA (F.next)) 0 λp8=>lL 22 I p8 λH j5 j6=>fP 24 (pA (F.next)) 1 λj4=>lL 22 I j4 λj1 j2 j3=>FW SS 11 [(.slice H j5 j6),(.slice j1 j2 j3)] I λi9 j0=>yB i9 λi8=>au (!i8) (FW SS 12 [] j0 λb c=>yB b λa=>Q (.bool a) c) (fP 24 (pA (h.next)) 0 λi7=>lL 22 j0 i7 λi4 i5 i6=>fP 24 (pA (h.next)) 1 λi3=>lL 22 j0 i3 λi0 i1 i2=>FW SS 13 [(.int .i64 B),(.slice i4 i5 i6),(.slice i0 i1 i2),(strOf w)] j0 λh8 D=>∃h7:LV,∃G:Int,h8=(.tuple ⟨[(.agg ⟨h7⟩),(.int .i64 G)]⟩)/\xN (bq SS.P 29) D λ_ h5=>xU (ah SS.P 29 (pA (D.next)) (.agg ⟨h7⟩) h5) h5 λ_ h4=>FW SS 14 [(.int .i64 B)] h4 λh2 h3=>yB h2 λh1=>au (!h1) (au (((G:Int)==1)) (FW SS 12 [] h3 λb c=>yB b λa=>Q (.bool a) c) (Q (.bool false) h3)) (fP 24 (pA (h.next)) 0 λh0=>lL 22 h3 h0 λg7 g8 g9=>FW SS 15 [(.slice g7 g8 g9)] h3 λg5 g6=>yB g5 λI=>au (!I) (au (((G:Int)==1)) (FW SS 12 [] g6 λb c=>yB b λa=>Q (.bool a) c) (Q (.bool false) g6)) (fP 24 (pA (h.next)) 1 λg3=>lL 22 g6 g3 λf9 g0 g1=>FW SS 15 [(.slice f9 g0 g1)] g6 λf7 f8=>yB f7 λf6=>au (!f6) (au (((G:Int)==1)) (FW SS 12 [] f8 λb c=>yB b λa=>Q (.bool a) c) (Q (.bool false) f8)) (FW SS 16 [(.int .i64 B),(strOf w)] f8 λf4 Y=>yB f4 λf3=>au (!f3) (au (((G:Int)==1)) (FW SS 12 [] Y λb c=>yB b λa=>Q (.bool a) c) (Q (.bool false) Y)) (fP 24 (pA (h.next)) 0 λf2=>lL 22 Y f2 λe9 f0 f1=>fP 24 (pA (h.next)) 1 λe8=>lL 22 Y e8 λe5 e6 e7=>FW SS 17 [(.slice e9 f0 f1),(.slice e5 e6 e7)] Y λe3 e4=>yI .i64 e3 λJ=>FW SS 18 [(.int .i64 B)] e4 λe0 e1=>yS e0 λd9=>fP 24 (pA (h.next)) 0 λd8=>lL 22 e1 d8 λd5 d6 d7=>fP 24 (pA (F.next)) 0 λd4=>lL 22 e1 d4 λd1 d2 d3=>FW SS 17 [(.slice d5 d6 d7),(.slice d1 d2 d3)] e1 λc9 E=>yI .i64 c9 λc8=>au (((c8:Int)==0)) (fP 24 (pA (h.next)) 1 λc7=>lL 22 E c7 λc4 c5 c6=>fP 24 (pA (F.next)) 1 λc3=>lL 22 E c3 λc0 c1 c2=>FW SS 17 [(.slice c4 c5 c6),(.slice c0 c1 c2)] E λb8 C=>yI .i64 b8 λb7=>au (((b7:Int)==0)) (au (((G:Int)==0)) (fP 29 (pA (D.next)) 3 λL=>lL 27 C L λ_ U _=>fP 24 (pA (h.next)) 0 λP=>lL 22 C P λ_ K _=>fP 24 (pA (h.next)) 1 λb2=>lL 22 C b2 λ_ X _=>xI .i64 (oS true [(iA K),(iA X)]) λR=>au (decide (((U:Int):Int)<=wrap .i64 (R+1))) (lA 29 C (pA (D.next)) λH=>fP 24 (pA (F.next)) 0 λM=>lL 22 C M λW O V=>fP 24 (pA (F.next)) 1 λT=>lL 22 C T λZ N S=>FW SS 19 [(.agg ⟨H⟩),(.int .i64 B),(.slice W O V),(.slice Z N S),(strOf w)] C λz A=>yB z λy=>au y (fP 24 (pA (h.next)) 0 λx=>lL 22 A x λ_ v _=>fP 24 (pA (h.next)) 1 λu=>lL 22 A u λ_ t _=>au (decide ((wrap .i64 ((v:Int)+(t:Int)):Int)>40)) (au (!(((J:Int)==0))) (FW SS 12 [] A λb c=>yB b λa=>Q (.bool a) c) (lA 29 A (pA (D.next)) λg=>FW SS 20 [(.agg ⟨g⟩)] A λe f=>yB e λd=>au d (FW SS 12 [] f λb c=>yB b λa=>Q (.bool a) c) (Q (.bool false) f))) (lA 29 A (pA (D.next)) λs=>fP 24 (pA (h.next)) 0 λr=>lL 22 A r λo p q=>fP 24 (pA (h.next)) 1 λn=>lL 22 A n λk l m=>FW SS 19 [(.agg ⟨s⟩),(.int .i64 B),(.slice o p q),(.slice k l m),(strOf w)] A λi j=>yB i λh=>au h (au (!(((J:Int)==0))) (FW SS 12 [] j λb c=>yB b λa=>Q (.bool a) c) (lA 29 j (pA (D.next)) λg=>FW SS 20 [(.agg ⟨g⟩)] j λe f=>yB e λd=>au d (FW SS 12 [] f λb c=>yB b λa=>Q (.bool a) c) (Q (.bool false) f))) (Q (.bool false) j))) (Q (.bool false) A)) (Q (.bool false) C)) (Q (.bool false) C)) (au (((G:Int)==0)) (fP 29 (pA (D.next)) 3 λL=>lL 27 C L λ_ U _=>fP 24 (pA (h.next)) 0 λP=>lL 22 C P λ_ K _=>fP 24 (pA (h.next)) 1 λb2=>lL 22 C b2 λ_ X _=>xI .i64 (oS true [(iA K),(iA X)]) λR=>au (decide (((U:Int):Int)<=wrap .i64 (R+1))) (lA 29 C (pA (D.next)) λH=>fP 24 (pA (F.next)) 0 λM=>lL 22 C M λW O V=>fP 24 (pA (F.next)) 1 λT=>lL 22 C T λZ N S=>FW SS 19 [(.agg ⟨H⟩),(.int .i64 B),(.slice W O V),(.slice Z N S),(strOf d9)] C λz A=>yB z λy=>au y (fP 24 (pA (h.next)) 0 λx=>lL 22 A x λ_ v _=>fP 24 (pA (h.next)) 1 λu=>lL 22 A u λ_ t _=>au (decide ((wrap .i64 ((v:Int)+(t:Int)):Int)>40)) (au (!(((J:Int)==0))) (FW SS 12 [] A λb c=>yB b λa=>Q (.bool a) c) (lA 29 A (pA (D.next)) λg=>FW SS 20 [(.agg ⟨g⟩)] A λe f=>yB e λd=>au d (FW SS 12 [] f λb c=>yB b λa=>Q (.bool a) c) (Q (.bool false) f))) (lA 29 A (pA (D.next)) λs=>fP 24 (pA (h.next)) 0 λr=>lL 22 A r λo p q=>fP 24 (pA (h.next)) 1 λn=>lL 22 A n λk l m=>FW SS 19 [(.agg ⟨s⟩),(.int .i64 B),(.slice o p q),(.slice k l m),(strOf w)] A λi j=>yB i λh=>au h (au (!(((J:Int)==0))) (FW SS 12 [] j λb c=>yB b λa=>Q (.bool a) c) (lA 29 j (pA (D.next)) λg=>FW SS 20 [(.agg ⟨g⟩)] j λe f=>yB e λd=>au d (FW SS 12 [] f λb c=>yB b λa=>Q (.bool a) c) (Q (.bool false) f))) (Q (.bool false) j))) (Q (.bool false) A)) (Q (.bool false) C)) (Q (.bool false) C))) (au (((G:Int)==0)) (fP 29 (pA (D.next)) 3 λL=>lL 27 E L λ_ U _=>fP 24 (pA (h.next)) 0 λP=>lL 22 E P λ_ K _=>fP 24 (pA (h.next)) 1 λb2=>lL 22 E b2 λ_ X _=>xI .i64 (oS true [(iA K),(iA X)]) λR=>au (decide (((U:Int):Int)<=wrap .i64 (R+1))) (lA 29 E (pA (D.next)) λH=>fP 24 (pA (F.next)) 0 λM=>lL 22 E M λW O V=>fP 24 (pA (F.next)) 1 λT=>lL 22 E T λZ N S=>FW SS 19 [(.agg ⟨H⟩),(.int .i64 B),(.slice W O V),(.slice Z N S),(strOf d9)] E λz A=>yB z λy=>au y (fP 24 (pA (h.next)) 0 λx=>lL 22 A x λ_ v _=>fP 24 (pA (h.next)) 1 λu=>lL 22 A u λ_ t _=>au (decide ((wrap .i64 ((v:Int)+(t:Int)):Int)>40)) (au (!(((J:Int)==0))) (FW SS 12 [] A λb c=>yB b λa=>Q (.bool a) c) (lA 29 A (pA (D.next)) λg=>FW SS 20 [(.agg ⟨g⟩)] A λe f=>yB e λd=>au d (FW SS 12 [] f λb c=>yB b λa=>Q (.bool a) c) (Q (.bool false) f))) (lA 29 A (pA (D.next)) λs=>fP 24 (pA (h.next)) 0 λr=>lL 22 A r λo p q=>fP 24 (pA (h.next)) 1 λn=>lL 22 A n λk l m=>FW SS 19 [(.agg ⟨s⟩),(.int .i64 B),(.slice o p q),(.slice k l m),(strOf w)] A λi j=>yB i λh=>au h (au (!(((J:Int)==0))) (FW SS 12 [] j λb c=>yB b λa=>Q (.bool a) c) (lA 29 j (pA (D.next)) λg=>FW SS 20 [(.agg ⟨g⟩)] j λe f=>yB e λd=>au d (FW SS 12 [] f λb c=>yB b λa=>Q (.bool a) c) (Q (.bool false) f))) (Q (.bool false) j))) (Q (.bool false) A)) (Q (.bool false) E)) (Q (.bool false) E))))))))):FW SS 3 [(.int .i64 B),(.agg ⟨[(.slice xa xn xc),(.slice ya yn yc)]⟩),(strOf w),(.agg ⟨[(.slice ua un uc),(.slice va vn vc)]⟩)] h Q:=cJ RQ Tryz.func3 (ai hx)
end Go.Proofs.YtaaichlgdgjgjaaGreatDoor
end
