/- Laws and walks that the proof leans on (part 6): V11; BA16; BA17; V12; BA18; V7 and others. No condition. -/
import Derived.Test.YtaaichlgdgjgjaaGreatDoorPart3
import Derived.Test.YtaaichlgdgjgjaaGreatDoorPart2
import Derived.Test.YtaaichlgdgjgjaaGreatDoorPart5
set_option linter.unusedVariables false
set_option linter.unusedSimpArgs false
set_option maxRecDepth 100000
open List (all_cons append_assoc append_nil drop_length drop_take drop_zero ext_getElem getElem?_map length_append length_cons length_drop length_replicate length_set length_take map_append map_map map_set map_take mem_cons mem_map mem_singleton range_succ take_of_length_le take_take)
open Nat (lt_succ_self min_eq_left)
open Option (map_eq_some_iff)
open Bool (and_eq_true not_eq_false' not_eq_true')
open Go.IntKind (wrap)
section
namespace Go.Proofs.YtaaichlgdgjgjaaGreatDoor
open Go Go.Ab Go.Num
noncomputable def SV:FD:=cI Tryz.f42 []
theorem Pd(g:Int)(h:ae)(Q:VH)(i:FW SS 70 [(.int .i64 g)] h λe f=>yS e λd=>xA (ba SS.P 29 [(0,(.int .i64 g)),(2,(strOf d))]) λc=>xA (ba SS.P 65 [(0,(.agg ⟨c⟩)),(1,(strOf d))]) λb=>xN (ew SS.P 65 (.agg ⟨b⟩)) f λ_ a=>Q (pA (f.next)) a):FW SS 42 [(.int .i64 g)] h Q:=cN SV Tryz.func42 (ai i)
noncomputable def SW:FD:=cI Tryz.f43 []
theorem Pe(k:Nat)(f:LB)(h:ae)(Q:VH)(u:fP 65 (pA k) 0 λt=>fP 29 (.pointer (some t)) 3 λs=>lL 27 h s λp q r=>xA (ba SS.P 73 [(0,(strOf f))]) λo=>xR (aG SS.P 27 1 [(0,(.agg ⟨o⟩))]) h λ_ l m n=>xE (bI SS.P 27 27 (.slice p q r) (sA (h.next) l m) n) n λg h i _ j=>fP 65 (pA k) 0 λf=>fP 29 (.pointer (some f)) 3 λe=>xU (ah SS.P 27 (.pointer (some e)) (.slice g h i) j) j λ_ d=>fP 65 (pA k) 0 λc=>fP 29 (.pointer (some c)) 3 λb=>lL 27 d b λ_ a _=>Q (.int .i64 (wrap .i64 ((a:Int)-1))) d):FW SS 43 [(pA k),(strOf f)] h Q:=cN SW Tryz.func43 (ai u)
noncomputable def aaH:FD:=cI Tryz.f44 []
theorem Xr(k:Nat)(s:Int)(C:LV)(h:ae)(Q:VH)(F:xN (ew SS.P 70 (.agg ⟨C⟩)) h λ_ B=>fP 65 (pA k) 2 λG=>lI B G λH=>fP 65 (pA k) 2 λE=>xU (ah SS.P 3 (.pointer (some E)) (.int .i64 (wrap .i64 (H+1))) B) B λ_ A=>fP 65 (pA k) 0 λD=>fP 29 (.pointer (some D)) 3 λz=>lL 27 (room A 21) z λw x y=>fP 65 (pA k) 0 λv=>fP 29 (.pointer (some v)) 3 λu=>lL 27 (room A 21) u λq r t=>iP 27 (.slice q r t) (.int .i64 s) λp=>fP 73 (.pointer (some p)) 1 λo=>lL 71 (room A 21) o λl m n=>lA 70 (room A 21) (pA (h.next)) λk=>zR (aG SS.P 71 1 [(0,(.agg ⟨k⟩))]) λh i j=>xE (bI SS.P 71 71 (.slice l m n) (sA (A.next+16) i j) (bZ (room A 21) A.next [(16,h)])) (bZ (room A 21) A.next [(16,h)]) λd e f _ g=>iP 27 (.slice w x y) (.int .i64 s) λc=>fP 73 (.pointer (some c)) 1 λb=>xU (ah SS.P 71 (.pointer (some b)) (.slice d e f) g) g λ_ a=>(aj SS.P 27 g (.pointer (some z))=some (.slice w x y)/\dI 4 (.slice w x y) (.slice w x y)=true)/\Q (.tuple ⟨[]⟩) a):FW SS 44 [(pA k),(.int .i64 s),(.agg ⟨C⟩)] h Q:=cN aaH Tryz.func44 (ai F)
noncomputable def aaJ:FD:=cI Tryz.f58 []
theorem Xz(k:Nat)(s:Int)(w:LB)(t:Int)(h:ae)(Q:VH)(d:xA (ba SS.P 70 [(2,(strOf w)),(3,(.int .i64 t))]) λc=>FW SS 44 [(pA k),(.int .i64 s),(.agg ⟨c⟩)] h λa b=>a=(.tuple ⟨[]⟩)/\Q (.tuple ⟨[]⟩) b):FW SS 58 [(pA k),(.int .i64 s),(strOf w),(.int .i64 t)] h Q:=cN aaJ Tryz.func58 (ai d)
noncomputable def SX:FD:=cI Tryz.f63 []
theorem Pg(k:Nat)(a b:LB)(h:ae)(Q:VH)(l:fP 65 (pA k) 0 λj=>fP 29 (.pointer (some j)) 0 λi=>lI h i λg=>FW SS 86 [(.int .i64 g),(strOf a),(strOf b)] h λe f=>∃d:LB,∃c:Int,e=(.tuple ⟨[(strOf d),(.int .i64 c)]⟩)/\au (((c:Int) !=0)) (fP 65 (pA k) 3 λb=>xU (ah SS.P 30 (.pointer (some b)) (.int .i64 c) f) f λ_ a=>Q (strOf d) a) (Q (strOf d) f)):FW SS 63 [(pA k),(strOf a),(strOf b)] h Q:=cN SX Tryz.func63 (ai l)
noncomputable def Xy:FD:=cI Tryz.f64 []
theorem SQ(k:Nat)(t:Int)(h:ae)(Q:VH)(c:xN (ew SS.P 62 (pA k)) h λ_ b=>xN (ew SS.P 3 (.int .i64 t)) b λ_ a=>Q (.func (.func 87) ⟨[]⟩ ⟨[(pA (h.next)),(pA (b.next))]⟩) a):FW SS 64 [(pA k),(.int .i64 t)] h Q:=cN Xy Tryz.func64 (ai c)
noncomputable def SP:FD:=cI Tryz.f87 []
theorem Pa(s:Int)(f:LB)(q r:Nat)(h:ae)(Q:VH)(t:xO (aj SS.P 62 h (pA q)) λp=>Ix SS.P p h λn o=>fP 65 n 0 λm=>fP 29 (.pointer (some m)) 3 λl=>lL 27 o l λi j k=>iP 27 (.slice i j k) (.int .i64 s) λh=>fP 73 (.pointer (some h)) 0 λg=>xU (ah SS.P 9 (.pointer (some g)) (strOf []) o) o λ_ e=>xO (aj SS.P 62 e (pA q)) λd=>xI .i64 (aj SS.P 3 e (pA r)) λc=>FW SS 58 [(.pointer d),(.int .i64 s),(strOf f),(.int .i64 c)] e λa b=>a=(.tuple ⟨[]⟩)/\Q (.tuple ⟨[]⟩) b):FW SS 87 [(.int .i64 s),(strOf f),(pA q),(pA r)] h Q:=cN SP Tryz.func87 (ai t)
noncomputable def Xu:FD:=cI Tryz.f60 []
theorem SL(s:Int)(f:LB)(h:ae)(Q:VH)(a:Q (.tuple ⟨[]⟩) h):FW SS 60 [(.int .i64 s),(strOf f)] h Q:=cN Xu Tryz.func60 (ai a)
noncomputable def Xt:FD:=cI Tryz.f46 []
theorem SJ(k:Nat)(h:ae)(Q:VH)(n:xN (br SS.P 29) h λ_ m=>fP 65 (pA k) 3 λl=>xI .i64 (aj SS.P 30 m (.pointer (some l))) λj=>au (((j:Int) !=0)) (xA (ba SS.P 29 []) λb=>xU (ah SS.P 29 (pA (h.next)) (.agg ⟨b⟩) m) m λ_ a=>eh SS [((pA (h.next)),some 29),((.int .i64 2),none)] a Q) (fP 65 (pA k) 0 λi=>fP 29 (.pointer (some i)) 3 λg=>lL 27 m g λ_ f _=>au (decide (((f:Int):Int)>3000)) (xA (ba SS.P 29 []) λb=>xU (ah SS.P 29 (pA (h.next)) (.agg ⟨b⟩) m) m λ_ a=>eh SS [((pA (h.next)),some 29),((.int .i64 2),none)] a Q) (fP 65 (pA k) 2 λe=>lI m e λd=>au (decide ((d:Int)>30000)) (xA (ba SS.P 29 []) λb=>xU (ah SS.P 29 (pA (h.next)) (.agg ⟨b⟩) m) m λ_ a=>eh SS [((pA (h.next)),some 29),((.int .i64 2),none)] a Q) (fP 65 (pA k) 0 λc=>lA 29 m (.pointer (some c)) λb=>xU (ah SS.P 29 (pA (h.next)) (.agg ⟨b⟩) m) m λ_ a=>eh SS [((pA (h.next)),some 29),((.int .i64 0),none)] a Q)))):FW SS 46 [(pA k)] h Q:=cN Xt Tryz.func46 (ai n)
noncomputable def aaK:FD:=cI Tryz.f51 []
theorem XB(s:Int)(h:ae)(Q:VH)(a:au (decide ((s:Int)>=1)) (Q (.bool (decide ((s:Int)<=500))) h) (Q (.bool false) h)):FW SS 51 [(.int .i64 s)] h Q:=cN aaK Tryz.func51 (ai a)
noncomputable def acB:FD:=cI Tryz.f45 []
theorem aaI(d:OA)(c e:Nat)(i:Nat)(h:ae)(Q:VH)(f:au (decide (((i:Int):Int)<(c:Int))) (iP 22 (.slice d c e) (iA i) λb=>lI h b λa=>Q (.int .i64 a) h) (Q (.int .i64 0) h)):FW SS 45 [(.slice d c e),(iA i)] h Q:=cN acB Tryz.func45 (ai f)
noncomputable def SY:FD:=cI Tryz.f68 []
theorem Pk(s:Int)(h:ae)(Q:VH)(d:FW SS 51 [(.int .i64 s)] h λb c=>yB b λa=>Q (.bool (!a)) c):FW SS 68 [(.int .i64 s)] h Q:=cN SY Tryz.func68 (ai d)
noncomputable def Xv:FD:=cI Tryz.f50 []
theorem SN(s:Int)(h:ae)(Q:VH)(d:FW SS 51 [(.int .i64 s)] h λb c=>yB b λa=>Q (.bool (!a)) c):FW SS 50 [(.int .i64 s)] h Q:=cN Xv Tryz.func50 (ai d)
noncomputable def rT:FD:=cI Tryz.f79 [([1,0,1,0,0],[0,1,7,8])]
abbrev m3(b:OA)(a c:Nat)(i:Nat):LV:=[(.slice b a c),(.func (.func 68) ⟨[]⟩ ⟨[]⟩),(iA a),(iA i)]
theorem TM(a:OA)(c b:Nat)(h:ae)(Q:VH)(d:LL SS rT [1,0,1,0,0] (m3 a c b 0) h (KK SS rT [1,0,1,0] [] (EE SS rT Q))):FW SS 79 [(.slice a c b),(.func (.func 68) ⟨[]⟩ ⟨[]⟩)] h Q:=cN rT Tryz.func79 (ai d)
theorem Aa(k:OA)(g l:Nat)  (j:Nat->Nat->ae->Prop) (Q:VH) (step:∀(f:Nat)(i:Nat)(n:Nat->Value)(h:ae),j f i h->au (decide (((i:Int):Int)<(g:Int))) (iP 22 (.slice k g l) (iA i) λe=>lI h e λd=>FW SS 68 [(.int .i64 d)] h λb c=>yB b λa=>au a (Q (iA i) c) (aJ (fm (m3 k g l) j) f [(.slice k g l),(.func (.func 68) ⟨[]⟩ ⟨[]⟩),(iA g),(.int .i64 (wrap .i64 ((i:Int)+1)))] c)) (Q (.int .i64 (-1)) h)) (f:Nat) {i:Nat} {h:ae} (m:j f i h):LL SS rT [1,0,1,0,0] (m3 k g l i) h (KK SS rT [1,0,1,0] [] (EE SS rT Q)):=
 dg (m3 k g l) j (λf i n h m=>ai (step f i n h m)) f m
noncomputable def Te:FD:=cI Tryz.f49 []
theorem Pw(d:OA)(f e:Nat)(h:ae)(Q:VH)(g:FW SS 79 [(.slice d f e),(.func (.func 68) ⟨[]⟩ ⟨[]⟩)] h λb c=>yI .i64 b λa=>Q (.bool (decide ((a:Int)>=0))) c):FW SS 49 [(.slice d f e),(.func (.func 68) ⟨[]⟩ ⟨[]⟩)] h Q:=cN Te Tryz.func49 (ai g)
noncomputable def rS:FD:=cI Tryz.f79 [([1,0,1,0,0],[0,1,7,8])]
abbrev mZ(b:OA)(a c:Nat)(i:Nat):LV:=[(.slice b a c),(.func (.func 50) ⟨[]⟩ ⟨[]⟩),(iA a),(iA i)]
theorem TL(a:OA)(c b:Nat)(h:ae)(Q:VH)(d:LL SS rS [1,0,1,0,0] (mZ a c b 0) h (KK SS rS [1,0,1,0] [] (EE SS rS Q))):FW SS 79 [(.slice a c b),(.func (.func 50) ⟨[]⟩ ⟨[]⟩)] h Q:=cN rS Tryz.func79 (ai d)
theorem zZ(k:OA)(g l:Nat)  (j:Nat->Nat->ae->Prop) (Q:VH) (step:∀(f:Nat)(i:Nat)(n:Nat->Value)(h:ae),j f i h->au (decide (((i:Int):Int)<(g:Int))) (iP 22 (.slice k g l) (iA i) λe=>lI h e λd=>FW SS 50 [(.int .i64 d)] h λb c=>yB b λa=>au a (Q (iA i) c) (aJ (fm (mZ k g l) j) f [(.slice k g l),(.func (.func 50) ⟨[]⟩ ⟨[]⟩),(iA g),(.int .i64 (wrap .i64 ((i:Int)+1)))] c)) (Q (.int .i64 (-1)) h)) (f:Nat) {i:Nat} {h:ae} (m:j f i h):LL SS rS [1,0,1,0,0] (mZ k g l i) h (KK SS rS [1,0,1,0] [] (EE SS rS Q)):=
 dg (mZ k g l) j (λf i n h m=>ai (step f i n h m)) f m
noncomputable def Td:FD:=cI Tryz.f49 []
theorem Pv(d:OA)(f e:Nat)(h:ae)(Q:VH)(g:FW SS 79 [(.slice d f e),(.func (.func 50) ⟨[]⟩ ⟨[]⟩)] h λb c=>yI .i64 b λa=>Q (.bool (decide ((a:Int)>=0))) c):FW SS 49 [(.slice d f e),(.func (.func 50) ⟨[]⟩ ⟨[]⟩)] h Q:=cN Td Tryz.func49 (ai g)
noncomputable def SZ:FD:=cI Tryz.f40 []
theorem Pm(e:OA)(d f:Nat)(h:ae)(Q:VH)(g:au (decide (((d:Int):Int)<=200)) (FW SS 49 [(.slice e d f),(.func (.func 68) ⟨[]⟩ ⟨[]⟩)] h λb c=>yB b λa=>Q (.bool (!a)) c) (Q (.bool false) h)):FW SS 40 [(.slice e d f)] h Q:=cN SZ Tryz.func40 (ai g)
noncomputable def aaL:FD:=cI Tryz.f57 []
theorem XC(q p:LV)(h:ae)(Q:VH)(r:xN (ew SS.P 29 (.agg ⟨q⟩)) h λ_ o=>xN (ew SS.P 29 (.agg ⟨p⟩)) o λ_ n=>lA 29 n (pA (h.next)) λm=>FW SS 66 [(.agg ⟨m⟩)] n λk l=>yB k λj=>au (!j) (Q (.int .i64 1) l) (lA 29 l (pA (o.next)) λi=>FW SS 66 [(.agg ⟨i⟩)] l λf g=>yB f λe=>au (!e) (Q (.int .i64 1) g) (fP 29 (pA (h.next)) 0 λd=>lI g d λc=>fP 29 (pA (o.next)) 0 λb=>lI g b λa=>au (((c:Int) !=a)) (Q (.int .i64 6) g) (Q (.int .i64 0) g)))):FW SS 57 [(.agg ⟨q⟩),(.agg ⟨p⟩)] h Q:=cN aaL Tryz.func57 (ai r)
variable{h:ae}{T:TypeId}{n:Nat}{v:Value}{L:List (List Value)}
section
theorem oj{f:ae}(o:fj f h T n v L){k:Nat}(a:fe v=some k):∃cs,h.get k=some (.cells cs T n true):=by
 obtain⟨_,⟨b,_⟩|⟨d,g,cs,c,b,i,e,_⟩⟩:=o
 ·rw[b]at a;cases a
 ·rw[b]at a;obtain rfl:d=k:=oI a;exact⟨cs,e⟩
theorem ki.other{hb g:ae}{r:List (dA×Value)}(m:ki hb g v r){k:Nat}{cs:List Value}{e z:Nat}{w:Bool}(y:g.get k=some (.cells cs e z w))(t:¬(e=73/\z=2))(u:¬(e=70/\z=4))(B:dN):ki hb (g.set k B) v r:=by
 have d:∀{b a:Nat}{j:Value}{f:List (List Value)},fj hb g b a j f->¬(e=b/\z=a)->fj hb (g.set k B) b a j f:=λ{b a j f} o q=>o.jA λD E l n=>by
  rw[ae.av,if_neg ?_]
  ·exact n
  ·intro c;obtain⟨C,h⟩:=oj o l;rw[c,y]at h;injection h with h
   injection h with _ s x
   exact q ⟨s,x⟩
 exact⟨d m.row t,λi p A=>d (m.arcs i p A) u,m.ne,m.Z6⟩
def Kp(g a:ae):Prop:=g.next<=a.next/\∀(j:Nat)(cs:List Value)(e z:Nat)(w:Bool),g.get j=some (.cells cs e z w)->¬(e=65/\z=0)->¬(e=73/\z=2)->¬(e=70/\z=4)->a.get j=some (.cells cs e z w)
theorem Kp.refl(g:ae):Kp g g:=⟨Nat.le_refl _,λ_ _ _ _ _ h _ _ _=>h⟩
theorem Kp.trans{g c d:ae}(a:Kp g c)(b:Kp c d):Kp g d:=⟨Nat.le_trans a.1 b.1,λj cs e z w h i k f=>b.2 j cs e z w (a.2 j cs e z w h i k f) i k f⟩
theorem Mw{g a:ae}(o:Ok g a):Kp g a:=⟨o.nx,λj cs e z w h _ _ _=>o.ext _ _ h⟩
def NH(kind start:Int)(lead:List UInt8)(a:Option Addr)(n c:Nat)(na:Nat):List Value:=[.int .i64 kind,.int .i64 start,strOf lead,.slice a n c,strOf (dz kind),.int .i64 (na:Int),.int .i64 0]
structure BU(hb g:ae)(k:Nat)(kind start:Int)(lead:List UInt8)(bK:List dA)(na:Nat):Prop where
 ex:∃(a:Option Addr)(n c:Nat)(ps:List (dA×Value)),g.get k=some (.cells (NH kind start lead a n c na) 65 0 true)/\ps.map (·.1)=bK/\ki hb g (.slice a n c) ps
 ok:Ok hb g
 nk:hb.next<=k
theorem Zn(k o n c:Nat):dI 4 (.slice (some ⟨k,o,none⟩) n c) (.slice (some ⟨k,o,none⟩) n c)=true:=by simp[dI]
theorem kn(k:Nat):aE SS.P 65 (pA k) 0=some (.pointer (some ⟨k,0,none⟩)):=by kernel_rfl
theorem zU(k:Nat):aE SS.P 65 (pA k) 1=some (.pointer (some ⟨k,4,none⟩)):=by kernel_rfl
theorem L6(k:Nat):aE SS.P 65 (pA k) 2=some (.pointer (some ⟨k,5,none⟩)):=by kernel_rfl
theorem aaY(k:Nat):aE SS.P 65 (pA k) 3=some (.pointer (some ⟨k,6,none⟩)):=by kernel_rfl
theorem aeb(f:List UInt8):ba SS.P 73 [(0,strOf f)]=some (.agg ⟨[strOf f,nA]⟩):=by kernel_rfl
theorem aeX:aF SS.P 27=some 1:=by kernel_rfl
theorem zs3:aF SS.P 3=some 1:=by kernel_rfl
theorem fx(kind start:Int)(lead:List UInt8)(a:Option Addr)(n c na:Nat):(NH kind start lead a n c na).length=7:=rfl
theorem AN(n:Nat)(a:n<=1000000000):wrap .i64 (((n+1:Nat):Int)-1)=((n:Nat):Int):=by rw[aB (by omega) (by omega)];omega
section
variable {hb g:ae} {k:Nat} {kind start:Int} {lead:List UInt8} {bK:List dA} {na:Nat}
theorem BU.qC(b:BU hb g k kind start lead bK na)(o:Ok g h):BU hb h k kind start lead bK na:=by
 obtain⟨a,n,c,i,e,f,d⟩:=b.ex;exact⟨⟨a,n,c,i,o.ext _ _ e,f,d.ok o⟩,b.ok.trans o,b.nk⟩
theorem Pf(w:Wf hb)(b:BU hb g k kind start lead bK na)(hl:bK.length<=100000)(f:List UInt8):FW SS 43 [pA k,strOf f] g (λv I=>v = .int .i64 (bK.length:Nat)/\BU hb I k kind start lead (bK++[⟨f,[]⟩]) na/\Kp g I):=by
 obtain⟨a,n,c,T,N,t,W⟩:=b.ex;have D:T.length=bK.length:=by rw[<-t,lM]
 have r:=(Ok.refl b.ok.wf).push (.cells [strOf f,.slice none 0 0] 73 2 true);have J:=b.ok.push (.cells [strOf f,.slice none 0 0] 73 2 true);have y:=r.ext _ _ N;have q:=W.ok r;obtain⟨m,d,o,u,R,s,x,B,X,Y⟩:=q.snoc w J (f:=f) (arcs:=[]) (fj.nil hb _ 70 4) (λk' e=>by cases e) (aN g _) (by omega);have M:fe (.slice a n c)≠some k:=λe=>by
  obtain⟨cs,h⟩:=oj q.row e;rw[y]at h;injection h with h
  injection h with _ h
  exact absurd h (by decide)
 have p:=B _ _ y M;generalize L:u.app (g.push (.cells [strOf f,.slice none 0 0] 73 2 true))=F at*;have O:=s.other p (by omega) (by omega) (.cells (NH kind start lead m d o na) 65 0 true);have C:(F.set k (.cells (NH kind start lead m d o na) 65 0 true)).get k=some (.cells (NH kind start lead m d o na) 65 0 true):=by rw[ae.av,if_pos rfl]
 have K:d=bK.length+1:=by
  have:=s.st.len;rw[lM,length_append,D]at this;exact this
 have S:=jb aeX p (i:=3) (by simp[fx]) (v:= .slice m d o) (DW _ _ _) (by cases m<;>rfl);have V:=ct As EO C (i:=3) (by simp[fx]);refine Pe k f g _ ⟨_,kn k,_,db k,a,n,c,ct As EO N (i:=3) (by simp[fx]),_,aeb f,_,_,_,ad5 f none 0 0,m,d,o,u,R,?_⟩;rw[L];refine⟨_,kn k,_,db k,_,S,_,kn k,_,db k,m,d,o,V,?_,⟨⟨m,d,o,_,C,?_,O⟩,x.set _ b.nk (x.wf _ _ p) w,b.nk⟩,?_⟩
 ·rw[K,AN _ (by omega)]
 ·rw[map_append,t];rfl
 ·refine⟨by show g.next<=F.next;have:g.next<=(g.push (.cells [strOf f,.slice none 0 0] 73 2 true)).next:=r.nx;omega,λj cs e z w' U P Q h3=>?_⟩;have A:=r.ext _ _ U;have l:=B _ _ A (λE=>by
   obtain⟨Z,h⟩:=oj q.row E;rw[A]at h;injection h with h
   injection h with _ G H
   exact Q ⟨G,H⟩)
  show(F.set k _).get j=_;rw[ae.av,if_neg (λE=>by
   rw[E,p]at l;injection l with l
   injection l with _ G H
   exact P ⟨G.symm,H.symm⟩)]
  exact l
theorem aee(q:gN):ew SS.P 70 (.agg ⟨fH q⟩)=some (.cells (fH q) 70 0 true,kI):=by kernel_rfl
theorem La(n:Nat)(a:n<=1000000000):wrap .i64 ((n:Int)+1)=((n+1:Nat):Int):=by rw[aB (by omega) (by omega)];omega
theorem Xs(w:Wf hb)(b:BU hb g k kind start lead bK na){s:Nat}{t:dA}(hs:bK[s]?=some t)(ha:t.arcs.length<=100000)(z6:na<=1000000)(q:gN):FW SS 44 [pA k,iA s,.agg ⟨fH q⟩] g (λv g'=>v = .tuple ⟨[]⟩/\BU hb g' k kind start lead (bK.set s ⟨t.f,t.arcs++[q]⟩) (na+1)/\Kp g g'):=by
 obtain⟨a,n,c,l,hk,T,om⟩:=b.ex;obtain⟨p,H,rfl⟩:∃p,l[s]?=some p/\p.1=t:=by
  rw[<-T,getElem?_map]at hs;exact map_eq_some_iff.1 hs
 have x3:0<(l.map uZ).length:=by have:=(List.getElem?_eq_some_iff.1 H).1;rw[lM];omega
 obtain⟨f,d,cr,Y,z7⟩:=om.row.blk x3;injection Y with Y en ec
 subst Y en ec;have o1:=(Ok.refl b.ok.wf).push (.cells (fH q) 70 0 true);have P:=b.ok.push (.cells (fH q) 70 0 true);have m:=o1.ext _ _ hk;have y1:=om.ok o1;have x7:=aN g (.cells (fH q) 70 0 true);have z5:=b.ok.wf _ _ hk;generalize W:g.push (.cells (fH q) 70 0 true)=o at*;have y0:=ct GO FE m (i:=5) (by simp[fx]);have y5:=jb zs3 m (i:=5) (by simp[fx]) (v:= .int .i64 ((na+1:Nat):Int)) rfl rfl;have R:=y1.other m (by omega) (by omega) (.cells (NH kind start lead (some ⟨f,d,none⟩) (l.map uZ).length c (na+1)) 65 0 true);have u:=P.set (.cells (NH kind start lead (some ⟨f,d,none⟩) (l.map uZ).length c (na+1)) 65 0 true) b.nk (P.wf _ _ m) w;have O:(o.set k (.cells (NH kind start lead (some ⟨f,d,none⟩) (l.map uZ).length c (na+1)) 65 0 true)).get k=some (.cells (NH kind start lead (some ⟨f,d,none⟩) (l.map uZ).length c (na+1)) 65 0 true):=by rw[ae.av,if_pos rfl]
 have z2:(o.set k (.cells (NH kind start lead (some ⟨f,d,none⟩) (l.map uZ).length c (na+1)) 65 0 true)).get g.next=some (.cells (fH q) 70 0 true):=by rw[ae.av,if_neg (by omega)];exact x7
 refine Xr k s (fH q) g _ ⟨_,aee q,?_⟩;rw[W];refine⟨_,L6 k,_,y0,_,L6 k,?_⟩;rw[La na (by omega)];refine⟨_,y5,?_⟩;have z8:(o.set k (.cells (NH kind start lead (some ⟨f,d,none⟩) (l.map uZ).length c (na+1)) 65 0 true)).next=o.next:=rfl;have z1:∀j cs e z L,g.get j=some (.cells cs e z L)->¬(e=65/\z=0)->(o.set k (.cells (NH kind start lead (some ⟨f,d,none⟩) (l.map uZ).length c (na+1)) 65 0 true)).get j=some (.cells cs e z L):=λj cs e z L I h1=>by
  have r:=o1.ext _ _ I;rw[ae.av,if_neg (λA=>by
   rw[A,m]at r;injection r with r
   injection r with _ F J
   exact h1 ⟨F.symm,J.symm⟩)]
  exact r
 have z9:g.next<o.next:=by rw[<-W];exact lt_succ_self _
 generalize x6:o.set k (.cells (NH kind start lead (some ⟨f,d,none⟩) (l.map uZ).length c (na+1)) 65 0 true)=g2 at*;have e2:(dS.set k (.cells ((NH kind start lead (some ⟨f,d,none⟩) (l.map uZ).length c na).set 5 (.int .i64 ((na+1:Nat):Int))) 65 0 true)).app o=g2:=x6;rw[e2];obtain⟨E,y6⟩:=Y5 u.wf (n:=21) (j:=16) (by omega) (Ok.refl (u.room 21).wf) (.cells (fH q) 70 4 true);have or:=(Ok.refl u.wf).room 21;have x5:=R.ok or;obtain⟨i1,i2,i3⟩:=x5.at_ H;obtain⟨Z,xn,xc,M⟩:∃(Z:Option Addr)(xn xc:Nat),p.2 = .slice Z xn xc:=by
  obtain⟨x1,x2,e⟩:=(om.arcs s p H).W0;exact⟨x1,_,x2,e⟩
 rw[M]at i2;have z0:=or.ext _ _ z2;have Q:=or.ext _ _ O;have x:=R.ok E;have V:=u.trans E;have y:=x.arcs s p H;rw[M]at y;obtain⟨b4,n4,c4,u4,y2,x9,y8,C,y9,z4⟩:=Sz w V y (q:=q) y6 ha;have K:=E.ext _ _ O;have X:fe (.slice Z xn xc)≠some k:=λe=>by
  obtain⟨D,h⟩:=oj y e;rw[K]at h;injection h with h
  injection h with _ h
  exact absurd h (by decide)
 have N:=C _ _ K X;obtain⟨u5,x0,y4,y7,S,x8⟩:=x.aeK w y8 H (λj B I U=>C _ _ I (by rw[M]at U;exact U)) x9 (λj e=>by rw[M];exact y9 j e) V.wf;have x4:f≠k:=λe=>by
  obtain⟨D,h⟩:=oj x.row (k:=f) rfl;rw[e,K]at h;injection h with h
  injection h with _ h
  exact absurd h (by decide)
 have y3:aj SS.P 70 (Go.Ab.room g2 21) (pA g.next)=some (.agg ⟨fH q⟩):=by
  rw[pe abI aaw OI z0 (by simp[Jc]),drop_zero,take_of_length_le (by simp[Jc])]
 refine⟨_,kn k,_,db k,_,_,_,ct As EO Q (i:=3) (by simp[fx]),_,kn k,_,db k,_,_,_,ct As EO Q (i:=3) (by simp[fx]),_,i1,_,iD _ _,_,_,_,i2,_,y3,_,_,_,ad6 q,b4,n4,c4,u4,y2,_,i1,_,iD _ _,u5,x0,⟨ct As EO N (i:=3) (by simp[fx]),Zn _ _ _ _⟩,rfl,⟨⟨_,_,_,_,S _ _ N x4,?_,y4⟩,y7,b.nk⟩,?_⟩
 ·rw[<-T,map_set]
 ·refine⟨by rw[x8];have:=E.nx;omega,λj cs e z L I h1 h2 h3=>?_⟩;have G:=E.ext _ _ (z1 _ _ _ _ _ I h1);have z3:=C _ _ G (λA=>by
   obtain⟨D,h⟩:=oj y A;rw[G]at h;injection h with h
   injection h with _ F J
   exact h3 ⟨F,J⟩)
  refine S _ _ z3 (λA=>?_);obtain⟨D,h⟩:=oj x.row (k:=f) rfl;rw[A,G]at h;injection h with h
  injection h with _ F J
  exact h2 ⟨F,J⟩
end
end
variable{A:Type}{i:Nat}{c:List Value}{d:List Value}
section
theorem Hr(l:List A)(a:A)(r:List A){n:Nat}(h:l.length=n):(l++a::r)[n]?=some a:=by
 subst h;rw[List.getElem?_append_right (Nat.le_refl _),Nat.sub_self];rfl
theorem uV(l:List A)(a b:A)(r:List A){n:Nat}(h:l.length=n):(l++a::r).set n b=l++b::r:=by
 subst h;rw[List.set_append_right _ _ (Nat.le_refl _),Nat.sub_self];rfl
theorem D3{l:List A}{a:A}(h:l[i]?=some a):l=l.take i++a::l.drop (i+1)/\(l.take i).length=i:=by
 have b:=(List.getElem?_eq_some_iff.1 h).1;have e:l[i]=a:=by rw[gE b]at h;exact oI h
 refine⟨?_,by rw[length_take];omega⟩;rw[<-e,<-List.drop_eq_getElem_cons b,List.take_append_drop]
theorem dZ(l r:List dA):cg (l++r)=cg l+cg r:=by unfold cg;rw[map_append,List.sum_append]
theorem KW{l:List dA}{s:dA}(h:l[i]?=some s):s.arcs.length<=cg l:=by
 obtain⟨e,_⟩:=D3 h;rw[e,dZ,df];omega
theorem D5{l:List dA}{s t:dA}(h:l[i]?=some s):cg (l.set i t)+s.arcs.length=cg l+t.arcs.length:=by
 obtain⟨e,a⟩:=D3 h
 conv=>rhs;rw[e]
 conv=>lhs;rw[e]
 rw[uV _ _ _ _ a,dZ,df,dZ,df];omega
abbrev BS(hb g:ae)(k:Nat)(kind start:Int)(lead:List UInt8)(bK:List dA):Prop:=BU hb g k kind start lead bK (cg bK)
section
variable {hb g:ae} {k:Nat} {kind start:Int} {lead:List UInt8} {bK:List dA}
theorem iy(w:Wf hb)(b:BS hb g k kind start lead bK)(d:bK.length<=100000)(f:List UInt8):FW SS 43 [pA k,strOf f] g (λv a=>v = .int .i64 (bK.length:Nat)/\BS hb a k kind start lead (bK++[⟨f,[]⟩])/\Kp g a):=by
 refine(Pf w b d f).mono ?_;rintro v a ⟨e,h,c⟩;refine⟨e,?_,c⟩;unfold BS;rw[dZ];exact h
theorem xy(w:Wf hb)(b:BS hb g k kind start lead bK){s:Nat}{t:dA}(c:bK[s]?=some t)(j:cg bK<=100000)(q:gN):FW SS 44 [pA k,iA s,.agg ⟨fH q⟩] g (λv a=>v = .tuple ⟨[]⟩/\BS hb a k kind start lead (bK.set s ⟨t.f,t.arcs++[q]⟩)/\Kp g a):=by
 have:=KW c;refine(Xs w b c (by omega) (by omega) q).mono ?_;rintro v a ⟨f,i,d⟩;refine⟨f,?_,d⟩;have e:=D5 c (t:=⟨t.f,t.arcs++[q]⟩);have l:(t.arcs++[q]).length=t.arcs.length+1:=by simp
 have h:cg (bK.set s ⟨t.f,t.arcs++[q]⟩)=cg bK+1:=by
  have:cg (bK.set s ⟨t.f,t.arcs++[q]⟩)+t.arcs.length=cg bK+(t.arcs++[q]).length:=e;omega
 unfold BS;rw[h];exact i
theorem aea(w:List UInt8)(t:Int):ba SS.P 70 [(2,strOf w),(3,.int .i64 t)]=some (.agg ⟨fH ⟨0,0,w,t⟩⟩):=by kernel_rfl
theorem BT(w:Wf hb)(b:BS hb g k kind start lead bK){s:Nat}{t:dA}(e:bK[s]?=some t)(d:cg bK<=100000)(x:List UInt8)(a:Int):FW SS 58 [pA k,iA s,strOf x,.int .i64 a] g (λv c=>v = .tuple ⟨[]⟩/\BS hb c k kind start lead (bK.set s ⟨t.f,t.arcs++[⟨0,0,x,a⟩]⟩)/\Kp g c):=by
 refine Xz k s x a g _ ⟨_,aea x a,(xy w b e d ⟨0,0,x,a⟩).mono ?_⟩;rintro _ c ⟨rfl,f⟩;exact⟨rfl,rfl,f⟩
theorem acJ(kind:Int)(l:List UInt8):ba SS.P 29 [(0,.int .i64 kind),(2,strOf l)]=some (.agg ⟨[.int .i64 kind,.int .i64 0,strOf l,nA]⟩):=by kernel_rfl
theorem ad9(kind:Int)(l a:List UInt8):ba SS.P 65 [(0,.agg ⟨[.int .i64 kind,.int .i64 0,strOf l,nA]⟩),(1,strOf a)]=some (.agg ⟨[.int .i64 kind,.int .i64 0,strOf l,nA,strOf a,.int .i64 0,.int .i64 0]⟩):=by kernel_rfl
theorem aed(kind:Int)(l a:List UInt8):ew SS.P 65 (.agg ⟨[.int .i64 kind,.int .i64 0,strOf l,nA,strOf a,.int .i64 0,.int .i64 0]⟩)=some (.cells [.int .i64 kind,.int .i64 0,strOf l,nA,strOf a,.int .i64 0,.int .i64 0] 65 0 true,kI):=by kernel_rfl
theorem mB(kind:Int)(w:Wf g):FW SS 42 [.int .i64 kind] g (λv b=>∃k,v=pA k/\BS g b k kind 0 (dz kind) []):=by
 refine Pd kind g _ ((Y1 kind w).mono ?_);rintro _ d ⟨rfl,a⟩;have c:=a.push (.cells [.int .i64 kind,.int .i64 0,strOf (dz kind),nA,strOf (dz kind),.int .i64 0,.int .i64 0] 65 0 true);exact⟨_,rfl,_,acJ _ _,_,ad9 _ _ _,_,aed _ _ _,_,rfl,⟨none,0,0,[],aN d _,rfl,ki.nil _ _⟩,c,a.nx⟩
theorem FI{a b c:List UInt8}(w:Wf hb)(o:nP hb)(d:BS hb g k kind start lead bK)(l:aM kind a=true)(f:aM kind b=true)(p:dq kind a b=some c):FW SS 63 [pA k,strOf a,strOf b] g (λv h=>v=strOf c/\Ok g h):=by
 obtain⟨q,n,cc,r,m,_⟩:=d.ex;refine Pg k a b g _ ⟨_,kn k,_,dt k,_,ct GO FE m (i:=0) (by simp[fx]),(KM l f p (o.ok d.ok) d.ok.wf).mono ?_⟩;rintro _ s ⟨rfl,j⟩;exact⟨_,_,rfl,aa (λe=>by cases e) (λ_=>⟨rfl,j⟩)⟩
theorem aec(k:Nat):ew SS.P 62 (pA k)=some (.cells [pA k] 62 0 true,kI):=by kernel_rfl
theorem bx3(t:Int):ew SS.P 3 (.int .i64 t)=some (.cells [.int .i64 t] 3 0 true,kI):=by kernel_rfl
noncomputable def adE:TypeDesc:=(SS.P.underlying 62).getD .bool
theorem adD:SS.P.underlying 62=some adE:=by kernel_rfl
theorem ab2:Go.Ab.isAgg SS.P 62=false:=by kernel_rfl
def mn(k:Nat)(d:Option Int)(f:Nat)(e b:List Value)(g:ae):Prop:=e=[]/\match d with
 |none=>f=60/\b=[]
 |some t=>f=87/\∃a c,b=[pA a,pA c]/\g.get a=some (.cells [pA k] 62 0 true)/\g.get c=some (.cells [.int .i64 t] 3 0 true)
theorem mn.kp{k:Nat}{a:Option Int}{g b:ae}(l:mn k a n c d g)(h:Kp g b):mn k a n c d b:=by
 obtain⟨j,e⟩:=l;refine⟨j,?_⟩
 cases a with
 |none=>exact e
 |some t=>
  obtain⟨i,f,p,m,q,o⟩:=e;exact⟨i,f,p,m,h.2 _ _ _ _ _ q (by decide) (by decide) (by decide),h.2 _ _ _ _ _ o (by decide) (by decide) (by decide)⟩
theorem mn.blt{k:Nat}{a:Option Int}{g:ae}(l:mn k a n c d g):Nat.blt n YB=true:=by
 obtain⟨_,b⟩:=l
 cases a with
 |none=>rw[b.1];decide +kernel
 |some t=>rw[b.1];decide +kernel
theorem CL(w:Wf g)(t:Int):FW SS 64 [pA k,.int .i64 t] g (λv a=>∃c,v = .func (.func 87) ⟨[]⟩ ⟨c⟩/\mn k (some t) 87 [] c a/\Ok g a):=by
 have b:=(Ok.refl w).push (.cells [pA k] 62 0 true);have d:=(Ok.refl b.wf).push (.cells [.int .i64 t] 3 0 true);exact SQ k t g _ ⟨_,aec k,_,bx3 t,_,rfl,⟨rfl,rfl,_,_,rfl,d.ext _ _ (aN g _),aN _ _⟩,b.trans d⟩
def wI(a:Option Int)(t:dA):dA:=match a with
 |none=>t
 |some b=>⟨[],t.arcs++[⟨0,0,t.f,b⟩]⟩
theorem T8{y:Option Int}{P:List Value}(w:Wf hb)(b:BS hb g k kind start lead bK)(l:mn k y n d P g){s:Nat}{t:dA}(m:bK[s]?=some t)(x3:cg bK<=100000):
  FW SS n (d++[iA s,strOf t.f]++P) g (λv x=>v = .tuple ⟨[]⟩/\BS hb x k kind start lead (bK.set s (wI y t))/\Kp g x):=by
 obtain⟨rfl,l⟩:=l
 cases y with
 | none=>
  obtain⟨rfl,rfl⟩:=l;refine SL s t.f g _ ⟨rfl,?_,Kp.refl g⟩;have e:bK.set s (wI none t)=bK:=by
   obtain⟨H,E⟩:=D3 m
   conv=>lhs;rw[H]
   rw[uV _ _ _ _ E];exact H.symm
  rw[e];exact b
 | some to=>
  obtain⟨rfl,W,k3,rfl,B,K⟩:=l;obtain⟨a,x7,c,R,C,q,o⟩:=b.ex;obtain⟨p,F,rfl⟩:∃p,R[s]?=some p/\p.1=t:=by
   rw[<-q,getElem?_map]at m;exact map_eq_some_iff.1 m
  have A:0<(R.map uZ).length:=by have:=(List.getElem?_eq_some_iff.1 F).1;rw[lM];omega
  obtain⟨N,x4,cr,r,x5⟩:=o.row.blk A;injection r with r X Y
  subst r X Y;obtain⟨U,_,_⟩:=o.at_ F;obtain⟨u,st,J,Q,h,L⟩:=o.adn w b.ok F [];have f:∃cs,g.get N=some (.cells cs 73 2 true):=oj o.row (k:=N) rfl;obtain⟨x6,f⟩:=f;have G:=h _ _ C (λe=>kj f C (by decide) e);have E:=h _ _ B (λe=>kj f B (by decide) e);have e3:=h _ _ K (λe=>kj f K (by decide) e);have b2:BS hb (u.app g) k kind start lead (bK.set s ⟨[],p.1.arcs⟩):=by
   refine⟨⟨_,_,_,_,?_,by rw[map_set,q],J⟩,Q,b.nk⟩;have e:=D5 m (t:=⟨[],p.1.arcs⟩);have V:cg (bK.set s ⟨[],p.1.arcs⟩)=cg bK:=by
    have:cg (bK.set s ⟨[],p.1.arcs⟩)+p.1.arcs.length=cg bK+p.1.arcs.length:=e;omega
   rw[V];exact G
  have S:(bK.set s ⟨[],p.1.arcs⟩)[s]?=some (⟨[],p.1.arcs⟩:dA):=by
   have x0:=(List.getElem?_eq_some_iff.1 m).1;rw[List.getElem?_set_self (by omega)]
  have M:Kp g (u.app g):=⟨Nat.le_of_eq L.symm,λj cs e z w' T _ Z _=>h _ _ T (λc=>by
   rw[c,T]at f;injection f with f
   injection f with _ x1 x2
   exact Z ⟨x1,x2⟩)⟩
  have D:cg (bK.set s ⟨[],p.1.arcs⟩)<=100000:=by
   have:cg (bK.set s ⟨[],p.1.arcs⟩)+p.1.arcs.length=cg bK+p.1.arcs.length:=D5 m (t:=⟨[],p.1.arcs⟩);omega
  refine Pa s p.1.f W k3 g _ ⟨_,ct adD ab2 B (i:=0) (by simp),lE ⟨_,kn k,_,db k,_,_,_,ct As EO C (i:=3) (by simp[fx]),_,U,_,nF _ _,u,st,_,ct adD ab2 E (i:=0) (by simp),_,ct GO FE e3 (i:=0) (by simp),(BT w b2 S D p.1.f to).mono ?_⟩⟩;rintro _ x ⟨rfl,I,O⟩;refine⟨rfl,rfl,?_,M.trans O⟩;rw[List.set_set]at I;exact I
end
end
noncomputable def eu:FD:=cI Tryz.f59 [([1,1,0,1,0,0],[0,2,4,7,21,22,23]),([1,1,1,0,1,0,0],[0,2,4,7,33,34,35]),([1,1,1,0,1,0,0,1,1,0,0,1,0,1,0,0],[0,2,4,7,10,11,33,34,35,41,42,43])]
abbrev qi(k g:Nat)(e f:LV)(d b:Nat)(a:OA)(n c:Nat)(i:Nat):LV:=[(pA k),(.func (.func g) ⟨e⟩ ⟨f⟩),(pA d),(iA b),(.slice a n c),(iA n),(iA i)]
abbrev gH(k g:Nat)(e f:LV)(d b:Nat)(a:OA)(n c:Nat)(i:Nat):LV:=[(pA k),(.func (.func g) ⟨e⟩ ⟨f⟩),(pA d),(iA b),(.slice a n c),(iA n),(iA i)]
abbrev qj(k g:Nat)(l m:LV)(f b:Nat)(a:OA)(n c i o:Nat)(e:OA)(d h:Nat)(j:Nat):LV:=[(pA k),(.func (.func g) ⟨l⟩ ⟨m⟩),(pA f),(iA b),(iA i),(pA o),(.slice a n c),(iA n),(iA i),(.slice e d h),(iA d),(iA j)]
theorem SH(k:Nat)(l:LV)(g:Nat)(m n:LV)(h:ae)(Q:VH)(o:xN (ew SS.P 29 (.agg ⟨l⟩)) h λ_ j=>fP 65 (pA k) 0 λi=>fP 29 (.pointer (some i)) 3 λf=>lL 27 j f λ_ e _=>fP 29 (pA (h.next)) 3 λd=>lL 27 j d λa b c=>LL SS eu [1,1,0,1,0,0] [(pA k),(.func (.func g) ⟨m⟩ ⟨n⟩),(pA (h.next)),(iA e),(.slice a b c),(iA b),(.int .i64 0)] j (KK SS eu [1,1,0,1,0] [] (EE SS eu Q))):FW SS 59 [(pA k),(.agg ⟨l⟩),(.func (.func g) ⟨m⟩ ⟨n⟩)] h Q:=cN eu Tryz.func59 (ai o)
theorem zG(k:Nat)(x:LV)(g:Nat)(t u:LV)(s p:Nat)(a:OA)(n c:Nat)(r:Nat->Nat->ae->Prop)(Q:VH)(step:∀(q:Nat) (i:Nat) (w:Nat->Value) (h:ae),r q i h->au (decide (((i:Int):Int)<(n:Int))) (iP 27 (.slice a n c) (iA i) λo=>lA 73 h (.pointer (some o)) λm=>xN (br SS.P 73) h λ_ l=>xU (ah SS.P 73 (pA (h.next)) (.agg ⟨m⟩) l) l λ_ j=>fP 73 (pA (h.next)) 0 λf=>lS j f λe=>FW SS 43 [(pA k),(strOf e)] j λb d=>yI .i64 b λ_=>aJ (fm (qi k g t u s p a n c) r) q [(pA k),(.func (.func g) ⟨t⟩ ⟨u⟩),(pA s),(iA p),(.slice a n c),(iA n),(.int .i64 (wrap .i64 ((i:Int)+1)))] d) (fP 29 (pA s) 3 λd=>lL 27 h d λa b c=>LL SS eu [1,1,1,0,1,0,0] [(pA k),(.func (.func g) ⟨t⟩ ⟨u⟩),(pA s),(iA p),(.slice a b c),(iA b),(.int .i64 0)] h (KK SS eu [1,1,1,0,1,0] [] (EE SS eu Q))))(q:Nat){i:Nat}{h:ae}(v:r q i h):LL SS eu [1,1,0,1,0,0] (qi k g t u s p a n c i) h (KK SS eu [1,1,0,1,0] [] (EE SS eu Q)):=
 dg (qi k g t u s p a n c) r (λq i w h v=>ai (step q i w h v)) q v
theorem zH(k:Nat)(x:LV)(g:Nat)(t u:LV)(s r:Nat)(a:OA)(n c:Nat)(q:Nat->Nat->ae->Prop)(Q:VH)(step:∀(p:Nat) (i:Nat) (w:Nat->Value) (h:ae),q p i h->au (decide (((i:Int):Int)<(n:Int))) (iP 27 (.slice a n c) (iA i) λo=>lA 73 h (.pointer (some o)) λm=>xN (br SS.P 73) h λ_ l=>xU (ah SS.P 73 (pA (h.next)) (.agg ⟨m⟩) l) l λ_ j=>fP 73 (pA (h.next)) 1 λf=>lL 71 j f λb d e=>LL SS eu [1,1,1,0,1,0,0,1,1,0,0,1,0,1,0,0] [(pA k),(.func (.func g) ⟨t⟩ ⟨u⟩),(pA s),(iA r),(iA i),(pA (h.next)),(.slice a n c),(iA n),(iA i),(.slice b d e),(iA d),(.int .i64 0)] j (KK SS eu [1,1,0,0,1,0,1,0] [1,1,1,0,1,0,0] (RR eu [1,1,1,0,1,0,0] (fm (gH k g t u s r a n c) q) p (KK SS eu [1,1,1,0,1,0] [] (EE SS eu Q))))) (fP 29 (pA s) 1 λb=>lI h b λa=>Q (.int .i64 (wrap .i64 ((r:Int)+a))) h))(p:Nat){i:Nat}{h:ae}(v:q p i h):LL SS eu [1,1,1,0,1,0,0] (gH k g t u s r a n c i) h (KK SS eu [1,1,1,0,1,0] [] (EE SS eu Q)):=
 dg (gH k g t u s r a n c) q (λp i w h v=>ai (step p i w h v)) p v
theorem zI(k:Nat)(H:LV)(g:Nat)(v w:LV)(x t:Nat)(a:OA)(n c:Nat)(A:Nat->Nat->ae->Prop)(D i:Nat)(B:Nat)(C:OA)(z E:Nat)(y:Nat->Nat->ae->Prop)(Q:VH)(step:∀(u:Nat) (j:Nat) (G:Nat->Value) (h:ae),y u j h->au (decide (((j:Int):Int)<(z:Int))) (iP 71 (.slice C z E) (iA j) λs=>lA 70 h (.pointer (some s)) λr=>xN (br SS.P 70) h λ_ q=>xU (ah SS.P 70 (pA (h.next)) (.agg ⟨r⟩) q) q λ_ p=>fP 70 (pA (h.next)) 3 λo=>lI p o λm=>fP 70 (pA (h.next)) 3 λl=>xU (ah SS.P 3 (.pointer (some l)) (.int .i64 (wrap .i64 (m+(t:Int)))) p) p λ_ f=>lA 70 f (pA (h.next)) λe=>FW SS 44 [(pA k),(.int .i64 (wrap .i64 ((t:Int)+(i:Int)))),(.agg ⟨e⟩)] f λb d=>b=(.tuple ⟨[]⟩)/\aJ (fm (qj k g v w x t a n c i B C z E) y) u [(pA k),(.func (.func g) ⟨v⟩ ⟨w⟩),(pA x),(iA t),(iA i),(pA B),(.slice a n c),(iA n),(iA i),(.slice C z E),(iA z),(.int .i64 (wrap .i64 ((j:Int)+1)))] d) (fP 73 (pA B) 0 λl=>lS h l λj=>au (!((j:LB)==[])) (fP 73 (pA B) 0 λf=>lS h f λe=>au (Nat.blt g YB) (FW SS g (v++[(.int .i64 (wrap .i64 ((t:Int)+(i:Int)))),(strOf e)]++w) h λb d=>b=(.tuple ⟨[]⟩)/\aJ (fm (gH k g v w x t a n c) A) D [(pA k),(.func (.func g) ⟨v⟩ ⟨w⟩),(pA x),(iA t),(.slice a n c),(iA n),(.int .i64 (wrap .i64 ((i:Int)+1)))] d) False) (aJ (fm (gH k g v w x t a n c) A) D [(pA k),(.func (.func g) ⟨v⟩ ⟨w⟩),(pA x),(iA t),(.slice a n c),(iA n),(.int .i64 (wrap .i64 ((i:Int)+1)))] h)))(u:Nat){j:Nat}{h:ae}(F:y u j h):LL SS eu [1,1,1,0,1,0,0,1,1,0,0,1,0,1,0,0] (qj k g v w x t a n c i B C z E j) h (KK SS eu [1,1,0,0,1,0,1,0] [1,1,1,0,1,0,0] (RR eu [1,1,1,0,1,0,0] (fm (gH k g v w x t a n c) A) D (KK SS eu [1,1,1,0,1,0] [] (EE SS eu Q)))):=
 dg (qj k g v w x t a n c i B C z E) y (λu j G h F=>ai (step u j G h F)) u F
variable{B:Type}{M:bp}{m:Nat}
section
def bare(s:dA):dA:=⟨s.f,[]⟩
def EC(a:Nat)(q:gN):gN:=⟨q.i,q.o,q.w,q.t+a⟩
def lT(a:Nat)(b:Option Int)(s:dA):dA:=if s.f=[]then⟨[],s.arcs.map (EC a)⟩else wI b ⟨s.f,s.arcs.map (EC a)⟩
theorem lU(a:Nat)(b:Option Int):∀l:List dA,cg (l.map (lT a b))<=cg l+l.length
 |[]=>Nat.le_refl _
 | s::l=>by
  have c:=lU a b l;rw[List.map_cons,df,df,length_cons];have:(lT a b s).arcs.length<=s.arcs.length+1:=by
   unfold lT wI;split
   ·simp
   ·cases b<;>simp
  omega
theorem Jg:∀l:List dA,cg (l.map bare)=0
 |[]=>rfl
 |s::l=>by rw[List.map_cons,df,Jg l];rfl
theorem qx(f:A->B){l:List A}{i:Nat}{a:A}(h:l[i]?=some a):(l.take (i+1)).map f=(l.take i).map f++[f a]:=by
 have b:=(List.getElem?_eq_some_iff.1 h).1;rw[List.take_add_one,h,map_append];rfl
theorem WQ(h:n+i<=1000000000):wrap .i64 ((n:Int)+(i:Int))=((n+i:Nat):Int):=by rw[aB (by omega) (by omega)];omega
section
variable {hb g:ae} {k:Nat} {kind start:Int} {lead:List UInt8} {bK:List dA}
theorem qK{x:Option Addr}{z:Nat}{p:Option Int}(w:Wf hb)(b:BS hb g k kind start lead bK)(r:dm hb (.slice x n z) M.af)(l:mn k p m c d g)(hl:bK.length+M.af.length<=100000)(z5:cg bK+cg M.af+M.af.length<=100000)(z7:0<=M.start/\M.start<M.af.length)(y4:∀s∈M.af,∀a∈s.arcs,0<=a.t/\a.t<M.af.length):
  FW SS 59 [pA k,.agg ⟨bE M x n z⟩,.func (.func m) ⟨c⟩ ⟨d⟩] g (λv o=>v = .int .i64 ((bK.length:Int)+M.start)/\BS hb o k kind start lead (bK++M.af.map (lT bK.length p))/\Kp g o):=by
 obtain⟨xa,xn,xc,ps,hk,z1,om⟩:=b.ex;obtain⟨R,Z⟩:=eJ b.ok.wf (r.ok b.ok);obtain rfl:n=M.af.length:=R.len;have b0:=b.qC Z;have l0:=l.kp (Mw Z);have z0:xn=bK.length:=by have:=om.st.len;rw[this,z1]
 subst z0;refine SH k (bE M x M.af.length z) m c d g _ ⟨_,gL M x _ z,_,kn k,_,db k,_,_,_,ct As EO (Z.ext _ _ hk) (i:=3) (by simp[fx]),_,db _,_,_,_,R.l3,?_⟩;have z4:=(Mw Z)
 have x2:∀o,Kp (g.push (Bm M x M.af.length z)) o->Ok hb o->MB o g.next M x M.af.length z:=λo h ok=>⟨h.2 _ _ _ _ _ R.box (by decide) (by decide) (by decide),r.ok ok⟩
 generalize z9:g.push (Bm M x M.af.length z)=g0 at*;obtain⟨f,U⟩:∃f,f=bK.length:=⟨_,rfl⟩
 rw[<-U]at hl⊢;refine zG k (bE M x M.af.length z) m c d g.next f x M.af.length z (λy i o=>i<=M.af.length/\y=M.af.length-i/\BS hb o k kind start lead (bK++(M.af.take i).map bare)/\Kp g0 o) _ (λy i=>?_) M.af.length (i:=0) ⟨by omega,rfl,by simpa using b0,Kp.refl _⟩;intros;rename_i g1 y3;obtain⟨f1,f2,J,Q⟩:=y3;refine aa (λq1=>?_) (λq1=>?_)
 ·have H:i<M.af.length:=by have:=dT q1;omega
  obtain⟨s,A⟩:∃s,M.af[i]?=some s:=⟨_,gE H⟩
  obtain⟨bb,oo,u,V,t,u1,K,u3,u4,ar⟩:=(r.ok J.ok).at_ A;obtain⟨L,p1,N,p3⟩:=Ot J.ok.wf s.f u V t;have C:=J.qC N;refine⟨_,u1,_,K,_,Xm,L,p1,_,nF _ _,_,p3.l0,(iy w C (by rw[length_append,lM,length_take];omega) s.f).mono ?_⟩;rintro _ F ⟨rfl,Y,S⟩;rw[aO H (by omega)];refine⟨_,rfl,cd (M.af.length-(i+1)) (by omega) ⟨by omega,rfl,?_,(Q.trans (Mw N)).trans S⟩⟩;rw[qx bare A,<-append_assoc];exact Y
 obtain rfl:i=M.af.length:=by have:=dF q1;omega
 rw[List.take_length]at J;have y9:=x2 _ Q J.ok;refine⟨_,db _,_,_,_,y9.l3,?_⟩;refine zH k (bE M x M.af.length z) m c d g.next f x M.af.length z (λy i o=>i<=M.af.length/\y=M.af.length-i/\BS hb o k kind start lead (bK++(M.af.take i).map (lT f p)++(M.af.drop i).map bare)/\Kp g0 o) _ (λy i=>?_) M.af.length (i:=0) ⟨by omega,rfl,by simpa using J,Q⟩;intros;rename_i F x9;obtain⟨d1,d2,C,W⟩:=x9;have x1:∀i,i<=M.af.length->cg (bK++(M.af.take i).map (lT f p))+cg (M.af.drop i)<=99999+1:=λi H=>by
  have h1:=lU f p (M.af.take i);have h2:cg (M.af.take i)+cg (M.af.drop i)=cg M.af:=by rw[<-dZ,List.take_append_drop]
  rw[length_take]at h1;rw[dZ];omega
 refine aa (λq2=>?_) (λq2=>?_)
 ·have H:i<M.af.length:=by have:=dT q2;omega
  obtain⟨s,A⟩:∃s,M.af[i]?=some s:=⟨_,gE H⟩
  have y6:=List.mem_of_getElem? A;obtain⟨bb,oo,u,V,t,u1,K,u3,u4,ar⟩:=r.at_ A;have K:=JV C.ok K;obtain⟨L,p1,N,p3⟩:=Ot C.ok.wf s.f u V t;have Y:=C.qC N;have hy:=ar.len;subst hy;refine⟨_,u1,_,K,_,Xm,L,p1,_,iD _ _,_,_,_,p3.l1,?_⟩;have hd:(M.af.drop i).map bare=⟨s.f,(s.arcs.take 0).map (EC f)⟩::(M.af.drop (i+1)).map bare:=by rw[fJ A,List.map_cons];rfl
  rw[hd]at Y;have hL:(bK++(M.af.take i).map (lT f p)).length=f+i:=by rw[length_append,lM,length_take,<-U,min_eq_left (by omega)]
  have S:=W.trans (Mw N);have x4:SB (L.app (F.push R7)) F.next s.f u s.arcs.length t:=p3;generalize L.app (F.push R7)=g3 at*;have x8:∀o,Kp g3 o->SB o F.next s.f u s.arcs.length t:=λo h=>h.2 _ _ _ _ _ x4 (by decide) (by decide) (by decide);obtain⟨ks,z2⟩:∃ks,ks=F.next:=⟨_,rfl⟩
  rw[<-z2]at x4 x8⊢;have u5:=x1 i (by omega);have u6:cg (M.af.drop i)=s.arcs.length+cg (M.af.drop (i+1)):=by rw[fJ A,df]
  have x0:f+i<=1000000000:=by omega
  refine zI k (bE M x M.af.length z) m c d g.next f x M.af.length z _ y i ks u s.arcs.length t (λx3 j o=>j<=s.arcs.length/\x3=s.arcs.length-j/\BS hb o k kind start lead (bK++(M.af.take i).map (lT f p)++⟨s.f,(s.arcs.take j).map (EC f)⟩::(M.af.drop (i+1)).map bare)/\Kp g3 o) _ (λx3 j=>?_) s.arcs.length (j:=0) ⟨by omega,rfl,Y,Kp.refl _⟩;intros;rename_i G y0;obtain⟨e1,e2,B,P⟩:=y0;have E:=Hr (bK++(M.af.take i).map (lT f p)) (⟨s.f,(s.arcs.take j).map (EC f)⟩:dA) ((M.af.drop (i+1)).map bare) hL;have O:cg (bK++(M.af.take i).map (lT f p)++⟨s.f,(s.arcs.take j).map (EC f)⟩::(M.af.drop (i+1)).map bare)<=100000:=by
   rw[dZ,df,Jg];show _+(((s.arcs.take j).map (EC f)).length+0)<=_;rw[lM,length_take];omega
  rw[WQ x0];refine aa (λq3=>?_) (λq3=>?_)
  ·have hj:j<s.arcs.length:=by have:=dT q3;omega
   obtain⟨q,T⟩:∃q,s.arcs[j]?=some q:=⟨_,gE hj⟩
   have z8:=y4 s y6 q (List.mem_of_getElem? T);obtain⟨z6,u0,v1,v2,v3,v4,v5,v6⟩:=(ar.ok B.ok).at_ T;obtain⟨ua,r1,r2,r3⟩:=Ki B.ok.wf q;have b5:=B.qC r2;have x7:(ua.app (G.push OO)).get G.next=some (.cells (fH q) 70 0 true):=r3;have y2:=jb zs3 x7 (i:=3) (by simp[fH]) (v:= .int .i64 (q.t+(f:Int))) rfl rfl;have o6:=r2.set (.cells (fH (EC f q)) 70 0 true) (Nat.le_refl _) (r2.wf _ _ x7) B.ok.wf;have b6:=B.qC o6;have y1:((ua.app (G.push OO)).set G.next (.cells (fH (EC f q)) 70 0 true)).get G.next=some (.cells (fH (EC f q)) 70 0 true):=by rw[ae.av,if_pos rfl]
   have ld:=pe abI aaw OI y1 (i:=0) (by simp[fH]);rw[drop_zero,take_of_length_le (by simp[fH])]at ld;have z3:wrap .i64 (q.t+(f:Int))=q.t+(f:Int):=aB (by omega) (by omega);refine⟨_,v1,_,v2,_,St,ua,r1,_,rP _ _,_,r3.l3,_,rP _ _,?_⟩;rw[z3];refine⟨_,y2,_,ld,(xy w b6 E O (EC f q)).mono ?_⟩;rintro _ g6 ⟨rfl,b7,y5⟩;rw[uV _ _ _ _ hL]at b7;rw[aO hj (by omega)];refine⟨rfl,cd (s.arcs.length-(j+1)) (by omega) ⟨by omega,rfl,?_,(P.trans (Mw o6)).trans y5⟩⟩;rw[qx (EC f) T];exact b7
  ·obtain rfl:j=s.arcs.length:=by have:=dF q3;omega
   rw[List.take_length]at B E O;have x5:=x8 _ P;have D:=S.trans P;have x6:∀I,BS hb I k kind start lead (bK++(M.af.take i).map (lT f p)++lT f p s::(M.af.drop (i+1)).map bare)->Kp g0 I->aJ (fm (gH k m c d g.next f x M.af.length z) (λy i o=>i<=M.af.length/\y=M.af.length-i/\BS hb o k kind start lead (bK++(M.af.take i).map (lT f p)++(M.af.drop i).map bare)/\Kp g0 o)) y [(pA k),(.func (.func m) ⟨c⟩ ⟨d⟩),(pA g.next),(iA f),(.slice x M.af.length z),(iA M.af.length),(.int .i64 (wrap .i64 ((i:Int)+1)))] I:=λI h1 h2=>by
    rw[aO H (by omega)];refine cd (M.af.length-(i+1)) (by omega) ⟨by omega,rfl,?_,h2⟩;rw[qx (lT f p) A];have:bK++((M.af.take i).map (lT f p)++[lT f p s])++(M.af.drop (i+1)).map bare=bK++(M.af.take i).map (lT f p)++lT f p s::(M.af.drop (i+1)).map bare:=by simp
    rw[this];exact h1
   refine⟨_,nF _ _,_,x5.l0,aa (λq4=>?_) (λq4=>?_)⟩
   ·have X:s.f≠[]:=ch (by simpa using q4);refine⟨_,nF _ _,_,x5.l0,aa (λ_=>(T8 w B (l0.kp D) E O).mono ?_) (λe=>by rw[l0.blt]at e;cases e)⟩;rintro _ I ⟨rfl,b5,y7⟩;rw[uV _ _ _ _ hL]at b5;refine⟨rfl,x6 I ?_ (D.trans y7)⟩;have:lT f p s=wI p ⟨s.f,s.arcs.map (EC f)⟩:=if_neg X;rw[this];exact b5
   ·have X:s.f=[]:=cp (by simpa using q4);refine x6 G ?_ D;have:lT f p s=⟨s.f,s.arcs.map (EC f)⟩:=by
     have:lT f p s=⟨[],s.arcs.map (EC f)⟩:=if_pos X;rw[this,X]
    rw[this];exact B
 ·obtain rfl:i=M.af.length:=by have:=dF q2;omega
  have y8:=x2 _ W C.ok;have hw:wrap .i64 ((f:Int)+M.start)=(f:Int)+M.start:=aB (by omega) (by omega);refine⟨_,tG _,_,y8.l1,by rw[hw],?_,z4.trans W⟩;rw[List.take_length,drop_length]at C;simpa using C
end
end
noncomputable def cJ:FD:=cI Tryz.f48 [([1,1,1,1,1,0,1,0,0],[1,2,3,8,10,11]),([1,1,1,1,1,0,1,0,0,1,0,0,1,1,0,0],[1,2,3,8,10,11,12]),([1,1,1,1,1,1,1,0,1,0,0],[1,2,3,8,10,13]),([1,1,1,1,1,1,1,0,1,0,0,1,0,0,1,0,0],[1,2,3,8,10,13,14]),([1,1,1,1,1,1,1,0,1,0,0,1,0,0,1,0,0,1,0,0,1,1,1,1,0,0],[1,2,3,8,10,13,14,15,17])]
abbrev lC(a:OA)(l f:Nat)(e:OA)(c h k g N:Nat)(b:OA)(j d:Nat)(i:Nat):LV:=[(.slice a l f),(.slice e c h),(pA k),(.slice b j d),(sA g N N),(iA i)]
abbrev qb(a:OA)(m f:Nat)(e:OA)(c h k g N:Nat)(b:OA)(l d i:Nat)(j:Nat):LV:=[(.slice a m f),(.slice e c h),(pA k),(.slice b l d),(sA g N N),(iA i),(iA j)]
abbrev gC(a:OA)(l f:Nat)(e:OA)(c h k g N:Nat)(b:OA)(j d:Nat)(i:Nat):LV:=[(.slice a l f),(.slice e c h),(pA k),(.slice b j d),(sA g N N),(iA i)]
abbrev lD(a:OA)(m f:Nat)(e:OA)(c h k g N:Nat)(b:OA)(l d i:Nat)(j:Nat):LV:=[(.slice a m f),(.slice e c h),(pA k),(.slice b l d),(sA g N N),(iA i),(iA j)]
abbrev fF(a:OA)(n g:Nat)(f:OA)(c l k h N:Nat)(b:OA)(m d i j:Nat)(v:OA)(e o:Nat)(q:Nat):LV:=[(.slice a n g),(.slice f c l),(pA k),(.slice b m d),(sA h N N),(iA i),(iA j),(.slice v e o),(iA q)]
theorem abN(C:LV)(x:OA)(t A:Nat)(z:OA)(y B:Nat)(h:ae)(Q:VH)(D:xN (ew SS.P 29 (.agg ⟨C⟩)) h λ_ s=>lA 29 s (pA (h.next)) λr=>FW SS 26 [(.agg ⟨r⟩)] s λp q=>yB p λo=>au (!o) (Q (.tuple ⟨[(strOf []),(.int .i64 1)]⟩) q) (FW SS 15 [(.slice x t A)] q λm n=>yB m λl=>au (!l) (Q (.tuple ⟨[(strOf []),(.int .i64 1)]⟩) n) (FW SS 15 [(.slice z y B)] n λj k=>yB j λi=>au (!i) (Q (.tuple ⟨[(strOf []),(.int .i64 1)]⟩) k) (lA 29 k (pA (h.next)) λg=>FW SS 73 [(.agg ⟨g⟩),(.bool false)] k λe f=>∃(v:OA) (w u:Nat),∃d:Int,e=(.tuple ⟨[(.slice v w u),(.int .i64 d)]⟩)/\au (((d:Int) !=0)) (Q (.tuple ⟨[(strOf []),(.int .i64 d)]⟩) f) (xR (cj SS.P 106 (.int .i64 (wrap .i64 ((t:Int)+1))) (.int .i64 (wrap .i64 ((t:Int)+1)))) f λ_ a b c=>LL SS cJ [1,1,1,1,1,0,1,0,0] [(.slice x t A),(.slice z y B),(pA (h.next)),(.slice v w u),(sA (f.next) a b),(.int .i64 0)] c (KK SS cJ [1,1,1,1,1,0,1,0] [] (EE SS cJ Q))))))):FW SS 48 [(.agg ⟨C⟩),(.slice x t A),(.slice z y B)] h Q:=cN cJ Tryz.func48 (ai D)
theorem Eg(E:LV)(w:OA)(v z:Nat)(y:OA)(s A:Nat)(k t N:Nat)(b:OA)(B x:Nat)(u:Nat->Nat->ae->Prop)(Q:VH)(step:∀(r:Nat) (i:Nat) (D:Nat->Value) (h:ae),u r i h->au (decide (((i:Int):Int)<=(v:Int))) (xR (cj SS.P 103 (.int .i64 (wrap .i64 ((s:Int)+1))) (.int .i64 (wrap .i64 ((s:Int)+1)))) h λ_ d e f=>iP 106 (sA t N N) (iA i) λc=>xU (ah SS.P 103 (.pointer (some c)) (sA (h.next) d e) f) f λ_ a=>LL SS cJ [1,1,1,1,1,0,1,0,0,1,0,0,1,1,0,0] (qb w v z y s A k t N b B x i 0) a (KK SS cJ [1,0,0,1,1,0] [1,1,1,1,1,0,1,0,0] (RR cJ [1,1,1,1,1,0,1,0,0] (fm (lC w v z y s A k t N b B x) u) r (KK SS cJ [1,1,1,1,1,0,1,0] [] (EE SS cJ Q))))) (iP 106 (sA t N N) (.int .i64 0) λq=>lL 103 (room h 11) q λn o p=>iP 103 (.slice n o p) (.int .i64 0) λm=>lL 107 (room h 11) m λi j l=>fP 29 (pA k) 1 λg=>lI (room h 11) g λf=>fP 29 (pA k) 2 λe=>lS (room h 11) e λd=>iP 107 (.slice i j l) (.int .i64 f) λc=>xU (ah SS.P 9 (.pointer (some c)) (strOf d) (room h 11)) (room h 11) λ_ a=>LL SS cJ [1,1,1,1,1,1,1,0,1,0,0] (gC w v z y s A k t N b B x 0) a (KK SS cJ [1,1,1,1,1,1,1,0,1,0] [] (EE SS cJ Q))))(r:Nat){i:Nat}{h:ae}(C:u r i h):LL SS cJ [1,1,1,1,1,0,1,0,0] (lC w v z y s A k t N b B x i) h (KK SS cJ [1,1,1,1,1,0,1,0] [] (EE SS cJ Q)):=
 dg (lC w v z y s A k t N b B x) u (λr i D h C=>ai (step r i D h C)) r C
theorem Eh(F:LV)(u:OA)(A x:Nat)(w:OA)(s y:Nat)(k t N:Nat)(b:OA)(z v:Nat)(B:Nat->Nat->ae->Prop)(D i:Nat)(r:Nat->Nat->ae->Prop)(Q:VH)(step:∀(q:Nat) (j:Nat) (E:Nat->Value) (h:ae),r q j h->au (decide (((j:Int):Int)<=(s:Int))) (iP 106 (sA t N N) (iA i) λp=>lL 103 (room h 9) p λm n o=>lA 29 (room h 9) (pA k) λl=>FW SS 74 [(.agg ⟨l⟩)] (room h 9) λg h=>yL g λd e f=>iP 103 (.slice m n o) (iA j) λc=>xU (ah SS.P 107 (.pointer (some c)) (.slice d e f) h) h λ_ a=>(aj SS.P 103 h (.pointer (some p))=some (.slice m n o)/\dI 4 (.slice m n o) (.slice m n o)=true)/\aJ (fm (qb u A x w s y k t N b z v i) r) q [(.slice u A x),(.slice w s y),(pA k),(.slice b z v),(sA t N N),(iA i),(.int .i64 (wrap .i64 ((j:Int)+1)))] a) (aJ (fm (lC u A x w s y k t N b z v) B) D [(.slice u A x),(.slice w s y),(pA k),(.slice b z v),(sA t N N),(.int .i64 (wrap .i64 ((i:Int)+1)))] h))(q:Nat){j:Nat}{h:ae}(C:r q j h):LL SS cJ [1,1,1,1,1,0,1,0,0,1,0,0,1,1,0,0] (qb u A x w s y k t N b z v i j) h (KK SS cJ [1,0,0,1,1,0] [1,1,1,1,1,0,1,0,0] (RR cJ [1,1,1,1,1,0,1,0,0] (fm (lC u A x w s y k t N b z v) B) D (KK SS cJ [1,1,1,1,1,0,1,0] [] (EE SS cJ Q)))):=
 dg (qb u A x w s y k t N b z v i) r (λq j E h C=>ai (step q j E h C)) q C
theorem Ei(B:LV)(t:OA)(q w:Nat)(v:OA)(r x:Nat)(k s N:Nat)(b:OA)(y u:Nat)(p:Nat->Nat->ae->Prop)(Q:VH)(step:∀(o:Nat) (i:Nat) (A:Nat->Value) (h:ae),p o i h->au (decide (((i:Int):Int)<=(q:Int))) (LL SS cJ [1,1,1,1,1,1,1,0,1,0,0,1,0,0,1,0,0] (lD t q w v r x k s N b y u i 0) h (KK SS cJ [1,0,0,1,0] [1,1,1,1,1,1,1,0,1,0,0] (RR cJ [1,1,1,1,1,1,1,0,1,0,0] (fm (gC t q w v r x k s N b y u) p) o (KK SS cJ [1,1,1,1,1,1,1,0,1,0] [] (EE SS cJ Q))))) (lA 29 (room h 15) (pA k) λn=>iP 106 (sA s N N) (iA q) λm=>lL 103 (room h 15) m λj k l=>iP 103 (.slice j k l) (iA r) λi=>lL 107 (room h 15) i λe f g=>FW SS 78 [(.agg ⟨n⟩),(.slice e f g)] (room h 15) λc d=>∃b:LB,∃a:Int,c=(.tuple ⟨[(strOf b),(.int .i64 a)]⟩)/\Q (.tuple ⟨[(strOf b),(.int .i64 a)]⟩) d))(o:Nat){i:Nat}{h:ae}(z:p o i h):LL SS cJ [1,1,1,1,1,1,1,0,1,0,0] (gC t q w v r x k s N b y u i) h (KK SS cJ [1,1,1,1,1,1,1,0,1,0] [] (EE SS cJ Q)):=
 dg (gC t q w v r x k s N b y u) p (λo i A h z=>ai (step o i A h z)) o z
theorem Ej(P:LV)(C:OA)(G E:Nat)(D:OA)(y F:Nat)(k x N:Nat)(b:OA)(A z:Nat)(H:Nat->Nat->ae->Prop)(I i:Nat)(B:Nat->Nat->ae->Prop)(Q:VH)(step:∀(w:Nat) (j:Nat) (O:Nat->Value) (h:ae),B w j h->au (decide (((j:Int):Int)<=(y:Int))) (lA 29 (room h 15) (pA k) λv=>iP 106 (sA x N N) (iA i) λu=>lL 103 (room h 15) u λr s t=>iP 103 (.slice r s t) (iA j) λq=>lL 107 (room h 15) q λn o p=>FW SS 75 [(.agg ⟨v⟩),(.slice n o p),(.slice b A z)] (room h 15) λl m=>∃(L:OA) (K J:Nat),∃h:Int,l=(.tuple ⟨[(.slice L K J),(.int .i64 h)]⟩)/\au (((h:Int) !=0)) (Q (.tuple ⟨[(strOf []),(.int .i64 h)]⟩) m) (iP 106 (sA x N N) (iA i) λg=>lL 103 m g λd e f=>iP 103 (.slice d e f) (iA j) λc=>xU (ah SS.P 107 (.pointer (some c)) (.slice L K J) m) m λ_ a=>LL SS cJ [1,1,1,1,1,1,1,0,1,0,0,1,0,0,1,0,0,1,0,0,1,1,1,1,0,0] (fF C G E D y F k x N b A z i j L K J 1) a (KK SS cJ [1,0,0,1,1,1,1,0] [1,1,1,1,1,1,1,0,1,0,0,1,0,0,1,0,0] (RR cJ [1,1,1,1,1,1,1,0,1,0,0,1,0,0,1,0,0] (fm (lD C G E D y F k x N b A z i) B) w (KK SS cJ [1,0,0,1,0] [1,1,1,1,1,1,1,0,1,0,0] (RR cJ [1,1,1,1,1,1,1,0,1,0,0] (fm (gC C G E D y F k x N b A z) H) I (KK SS cJ [1,1,1,1,1,1,1,0,1,0] [] (EE SS cJ Q)))))))) (aJ (fm (gC C G E D y F k x N b A z) H) I [(.slice C G E),(.slice D y F),(pA k),(.slice b A z),(sA x N N),(.int .i64 (wrap .i64 ((i:Int)+1)))] h))(w:Nat){j:Nat}{h:ae}(M:B w j h):LL SS cJ [1,1,1,1,1,1,1,0,1,0,0,1,0,0,1,0,0] (lD C G E D y F k x N b A z i j) h (KK SS cJ [1,0,0,1,0] [1,1,1,1,1,1,1,0,1,0,0] (RR cJ [1,1,1,1,1,1,1,0,1,0,0] (fm (gC C G E D y F k x N b A z) H) I (KK SS cJ [1,1,1,1,1,1,1,0,1,0] [] (EE SS cJ Q)))):=
 dg (lD C G E D y F k x N b A z i) B (λw j O h M=>ai (step w j O h M)) w M
theorem Ek(mv:LV)(G:OA)(F I:Nat)(D:OA)(C E:Nat)(k B N:Nat)(b:OA)(M K:Nat)(y9:Nat->Nat->ae->Prop)(z0 i:Nat)(y1:Nat->Nat->ae->Prop)(y8 j:Nat)(v:OA)(L O:Nat)(H:Nat->Nat->ae->Prop)(Q:VH)(step:∀(J:Nat) (q:Nat) (zz:Nat->Value) (h:ae),H J q h->au (decide (((q:Int):Int)<=3)) (xI .i64 (ax SS.P .shr 3 (iA q) (.int .u64 1)) λP=>au (decide ((wrap .i64 ((i:Int)+wrap .i64 ((BitVec.ofInt (IntKind.bits .i64) (q:Int)&&&BitVec.ofInt (IntKind.bits .i64) 1).toNat:Int)):Int)>(F:Int))) (aJ (fm (fF G F I D C E k B N b M K i j v L O) H) J [(.slice G F I),(.slice D C E),(pA k),(.slice b M K),(sA B N N),(iA i),(iA j),(.slice v L O),(.int .i64 (wrap .i64 ((q:Int)+1)))] h) (au (decide ((wrap .i64 ((j:Int)+P):Int)>(C:Int))) (aJ (fm (fF G F I D C E k B N b M K i j v L O) H) J [(.slice G F I),(.slice D C E),(pA k),(.slice b M K),(sA B N N),(iA i),(iA j),(.slice v L O),(.int .i64 (wrap .i64 ((q:Int)+1)))] h) (au (((wrap .i64 ((BitVec.ofInt (IntKind.bits .i64) (q:Int)&&&BitVec.ofInt (IntKind.bits .i64) 1).toNat:Int):Int)==1)) (iP 22 (.slice G F I) (iA i) λa6=>lI h a6 λa5=>au (((P:Int)==1)) (iP 22 (.slice D C E) (iA j) λa4=>lI h a4 λa3=>lA 29 h (pA k) λR=>FW SS 76 [(.agg ⟨R⟩),(.slice v L O),(.int .i64 a5),(.int .i64 a3),(.bool false)] h λS A=>∃(x3:OA) (y4 Z:Nat),∃z:Int,S=(.tuple ⟨[(.slice x3 y4 Z),(.int .i64 z)]⟩)/\au (((z:Int) !=0)) (Q (.tuple ⟨[(strOf []),(.int .i64 z)]⟩) A) (xP (aA SS.P 106 (sA B N N) (.int .i64 (wrap .i64 ((i:Int)+wrap .i64 ((BitVec.ofInt (IntKind.bits .i64) (q:Int)&&&BitVec.ofInt (IntKind.bits .i64) 1).toNat:Int))))) λy=>lL 103 (room A 30) y λu w x=>fP 29 (pA k) 0 λt=>lI (room A 30) t λs=>xP (aA SS.P 106 (sA B N N) (.int .i64 (wrap .i64 ((i:Int)+wrap .i64 ((BitVec.ofInt (IntKind.bits .i64) (q:Int)&&&BitVec.ofInt (IntKind.bits .i64) 1).toNat:Int))))) λr=>lL 103 (room A 30) r λn o p=>iP 103 (.slice n o p) (.int .i64 (wrap .i64 ((j:Int)+P))) λm=>lL 107 (room A 30) m λg h l=>FW SS 77 [(.int .i64 s),(.slice g h l),(.slice x3 y4 Z)] (room A 30) λe f=>∃(W:OA) (X x5:Nat),∃d:Int,e=(.tuple ⟨[(.slice W X x5),(.int .i64 d)]⟩)/\iP 103 (.slice u w x) (.int .i64 (wrap .i64 ((j:Int)+P))) λc=>xU (ah SS.P 107 (.pointer (some c)) (.slice W X x5) f) f λ_ a=>(aj SS.P 103 f (.pointer (some y))=some (.slice u w x)/\dI 4 (.slice u w x) (.slice u w x)=true)/\au (((d:Int) !=0)) (Q (.tuple ⟨[(strOf []),(.int .i64 d)]⟩) a) (aJ (fm (fF G F I D C E k B N b M K i j v L O) H) J [(.slice G F I),(.slice D C E),(pA k),(.slice b M K),(sA B N N),(iA i),(iA j),(.slice v L O),(.int .i64 (wrap .i64 ((q:Int)+1)))] a))) (lA 29 h (pA k) λR=>FW SS 76 [(.agg ⟨R⟩),(.slice v L O),(.int .i64 a5),(.int .i64 0),(.bool false)] h λS A=>∃(x7:OA) (V y7:Nat),∃z:Int,S=(.tuple ⟨[(.slice x7 V y7),(.int .i64 z)]⟩)/\au (((z:Int) !=0)) (Q (.tuple ⟨[(strOf []),(.int .i64 z)]⟩) A) (xP (aA SS.P 106 (sA B N N) (.int .i64 (wrap .i64 ((i:Int)+wrap .i64 ((BitVec.ofInt (IntKind.bits .i64) (q:Int)&&&BitVec.ofInt (IntKind.bits .i64) 1).toNat:Int))))) λy=>lL 103 (room A 30) y λu w x=>fP 29 (pA k) 0 λt=>lI (room A 30) t λs=>xP (aA SS.P 106 (sA B N N) (.int .i64 (wrap .i64 ((i:Int)+wrap .i64 ((BitVec.ofInt (IntKind.bits .i64) (q:Int)&&&BitVec.ofInt (IntKind.bits .i64) 1).toNat:Int))))) λr=>lL 103 (room A 30) r λn o p=>iP 103 (.slice n o p) (.int .i64 (wrap .i64 ((j:Int)+P))) λm=>lL 107 (room A 30) m λg h l=>FW SS 77 [(.int .i64 s),(.slice g h l),(.slice x7 V y7)] (room A 30) λe f=>∃(y3:OA) (x2 y0:Nat),∃d:Int,e=(.tuple ⟨[(.slice y3 x2 y0),(.int .i64 d)]⟩)/\iP 103 (.slice u w x) (.int .i64 (wrap .i64 ((j:Int)+P))) λc=>xU (ah SS.P 107 (.pointer (some c)) (.slice y3 x2 y0) f) f λ_ a=>(aj SS.P 103 f (.pointer (some y))=some (.slice u w x)/\dI 4 (.slice u w x) (.slice u w x)=true)/\au (((d:Int) !=0)) (Q (.tuple ⟨[(strOf []),(.int .i64 d)]⟩) a) (aJ (fm (fF G F I D C E k B N b M K i j v L O) H) J [(.slice G F I),(.slice D C E),(pA k),(.slice b M K),(sA B N N),(iA i),(iA j),(.slice v L O),(.int .i64 (wrap .i64 ((q:Int)+1)))] a)))) (au (((P:Int)==1)) (iP 22 (.slice D C E) (iA j) λa4=>lI h a4 λa3=>lA 29 h (pA k) λR=>FW SS 76 [(.agg ⟨R⟩),(.slice v L O),(.int .i64 0),(.int .i64 a3),(.bool false)] h λS A=>∃(y6:OA) (y5 x0:Nat),∃z:Int,S=(.tuple ⟨[(.slice y6 y5 x0),(.int .i64 z)]⟩)/\au (((z:Int) !=0)) (Q (.tuple ⟨[(strOf []),(.int .i64 z)]⟩) A) (xP (aA SS.P 106 (sA B N N) (.int .i64 (wrap .i64 ((i:Int)+wrap .i64 ((BitVec.ofInt (IntKind.bits .i64) (q:Int)&&&BitVec.ofInt (IntKind.bits .i64) 1).toNat:Int))))) λy=>lL 103 (room A 30) y λu w x=>fP 29 (pA k) 0 λt=>lI (room A 30) t λs=>xP (aA SS.P 106 (sA B N N) (.int .i64 (wrap .i64 ((i:Int)+wrap .i64 ((BitVec.ofInt (IntKind.bits .i64) (q:Int)&&&BitVec.ofInt (IntKind.bits .i64) 1).toNat:Int))))) λr=>lL 103 (room A 30) r λn o p=>iP 103 (.slice n o p) (.int .i64 (wrap .i64 ((j:Int)+P))) λm=>lL 107 (room A 30) m λg h l=>FW SS 77 [(.int .i64 s),(.slice g h l),(.slice y6 y5 x0)] (room A 30) λe f=>∃(y2:OA) (x9 Y:Nat),∃d:Int,e=(.tuple ⟨[(.slice y2 x9 Y),(.int .i64 d)]⟩)/\iP 103 (.slice u w x) (.int .i64 (wrap .i64 ((j:Int)+P))) λc=>xU (ah SS.P 107 (.pointer (some c)) (.slice y2 x9 Y) f) f λ_ a=>(aj SS.P 103 f (.pointer (some y))=some (.slice u w x)/\dI 4 (.slice u w x) (.slice u w x)=true)/\au (((d:Int) !=0)) (Q (.tuple ⟨[(strOf []),(.int .i64 d)]⟩) a) (aJ (fm (fF G F I D C E k B N b M K i j v L O) H) J [(.slice G F I),(.slice D C E),(pA k),(.slice b M K),(sA B N N),(iA i),(iA j),(.slice v L O),(.int .i64 (wrap .i64 ((q:Int)+1)))] a))) (lA 29 h (pA k) λR=>FW SS 76 [(.agg ⟨R⟩),(.slice v L O),(.int .i64 0),(.int .i64 0),(.bool false)] h λS A=>∃(x1:OA) (T x8:Nat),∃z:Int,S=(.tuple ⟨[(.slice x1 T x8),(.int .i64 z)]⟩)/\au (((z:Int) !=0)) (Q (.tuple ⟨[(strOf []),(.int .i64 z)]⟩) A) (xP (aA SS.P 106 (sA B N N) (.int .i64 (wrap .i64 ((i:Int)+wrap .i64 ((BitVec.ofInt (IntKind.bits .i64) (q:Int)&&&BitVec.ofInt (IntKind.bits .i64) 1).toNat:Int))))) λy=>lL 103 (room A 30) y λu w x=>fP 29 (pA k) 0 λt=>lI (room A 30) t λs=>xP (aA SS.P 106 (sA B N N) (.int .i64 (wrap .i64 ((i:Int)+wrap .i64 ((BitVec.ofInt (IntKind.bits .i64) (q:Int)&&&BitVec.ofInt (IntKind.bits .i64) 1).toNat:Int))))) λr=>lL 103 (room A 30) r λn o p=>iP 103 (.slice n o p) (.int .i64 (wrap .i64 ((j:Int)+P))) λm=>lL 107 (room A 30) m λg h l=>FW SS 77 [(.int .i64 s),(.slice g h l),(.slice x1 T x8)] (room A 30) λe f=>∃(x4:OA) (U x6:Nat),∃d:Int,e=(.tuple ⟨[(.slice x4 U x6),(.int .i64 d)]⟩)/\iP 103 (.slice u w x) (.int .i64 (wrap .i64 ((j:Int)+P))) λc=>xU (ah SS.P 107 (.pointer (some c)) (.slice x4 U x6) f) f λ_ a=>(aj SS.P 103 f (.pointer (some y))=some (.slice u w x)/\dI 4 (.slice u w x) (.slice u w x)=true)/\au (((d:Int) !=0)) (Q (.tuple ⟨[(strOf []),(.int .i64 d)]⟩) a) (aJ (fm (fF G F I D C E k B N b M K i j v L O) H) J [(.slice G F I),(.slice D C E),(pA k),(.slice b M K),(sA B N N),(iA i),(iA j),(.slice v L O),(.int .i64 (wrap .i64 ((q:Int)+1)))] a))))))) (aJ (fm (lD G F I D C E k B N b M K i) y1) y8 [(.slice G F I),(.slice D C E),(pA k),(.slice b M K),(sA B N N),(iA i),(.int .i64 (wrap .i64 ((j:Int)+1)))] h))(J:Nat){q:Nat}{h:ae}(hi:H J q h):LL SS cJ [1,1,1,1,1,1,1,0,1,0,0,1,0,0,1,0,0,1,0,0,1,1,1,1,0,0] (fF G F I D C E k B N b M K i j v L O q) h (KK SS cJ [1,0,0,1,1,1,1,0] [1,1,1,1,1,1,1,0,1,0,0,1,0,0,1,0,0] (RR cJ [1,1,1,1,1,1,1,0,1,0,0,1,0,0,1,0,0] (fm (lD G F I D C E k B N b M K i) y1) y8 (KK SS cJ [1,0,0,1,0] [1,1,1,1,1,1,1,0,1,0,0] (RR cJ [1,1,1,1,1,1,1,0,1,0,0] (fm (gC G F I D C E k B N b M K) y9) z0 (KK SS cJ [1,1,1,1,1,1,1,0,1,0] [] (EE SS cJ Q)))))):=
 dg (fF G F I D C E k B N b M K i j v L O) H (λJ q zz h hi=>ai (step J q zz h hi)) J hi
noncomputable def sI:FD:=cI Tryz.f15 [([1,1,0,1,0,0],[0,3])]
abbrev m8(a:OA)(c b:Nat)(i:Nat):LV:=[(.slice a c b),(iA i)]
theorem WD(b:OA)(a c:Nat)(h:ae)(Q:VH)(d:au (decide (((a:Int):Int)>200)) (Q (.bool false) h) (LL SS sI [1,1,0,1,0,0] (m8 b a c 0) h (KK SS sI [1,1,0,1,0] [] (EE SS sI Q)))):FW SS 15 [(.slice b a c)] h Q:=cN sI Tryz.func15 (ai d)
theorem AK(j:OA)(f k:Nat)  (g:Nat->Nat->ae->Prop) (Q:VH) (step:∀(e:Nat)(i:Nat)(m:Nat->Value)(h:ae),g e i h->au (decide (((i:Int):Int)<(f:Int))) (iP 22 (.slice j f k) (iA i) λd=>lI h d λc=>au (decide ((c:Int)<1)) (Q (.bool false) h) (iP 22 (.slice j f k) (iA i) λb=>lI h b λa=>au (decide ((a:Int)>500)) (Q (.bool false) h) (aJ (fm (m8 j f k) g) e [(.slice j f k),(.int .i64 (wrap .i64 ((i:Int)+1)))] h))) (Q (.bool true) h)) (e:Nat) {i:Nat} {h:ae} (l:g e i h):LL SS sI [1,1,0,1,0,0] (m8 j f k i) h (KK SS sI [1,1,0,1,0] [] (EE SS sI Q)):=
 dg (m8 j f k) g (λe i m h l=>ai (step e i m h l)) e l
variable{p:List Int}{g:ae}{a:Option Addr}
def wG(l:List Int):List Value:=l.map λz=> .int .i64 z
theorem jz(l:List Int):(wG l).length=l.length:=lM _
theorem TK(h:i<p.length):(wG p).getD i undef = .int .i64 (p.getD i 0):=by
 unfold wG;rw[gD,getElem?_map,gD,gE h];rfl
def dO(h:ae)(v:Value)(l:List Int):Prop:=
 (v = .slice none 0 0/\l=[])\/ ∃k a cs c b e z,v = .slice (some ⟨k,a,none⟩) l.length c/\h.get k=some (.cells cs e z b)/\(e=3/\z=1\/z=0)/\(cs.drop a).take l.length=wG l
theorem dO.ok(r:dO h v p)(o:Ok h g):dO g v p:=by
 rcases r with r|⟨k,a,cs,c,f,e,z,d,i,b,j⟩
 ·exact .inl r
 ·exact .inr ⟨k,a,cs,c,f,e,z,d,o.ext _ _ i,b,j⟩
theorem dO.Ol(r:Rd h 3 v (wG p)):dO h v p:=by
 rcases r with⟨b,d⟩|⟨k,f,cs,c,g,b,d,e⟩
 ·left;refine⟨b,?_⟩
  cases p with
  |nil=>rfl
  |cons a p=>cases d
 ·rw[jz]at b e;exact .inr ⟨k,f,cs,c,g,3,1,b,d,.inl ⟨rfl,rfl⟩,e⟩
theorem dO.at_{l:List Int}(r:dO h v l){i:Nat}(d:i<l.length):∃p:Addr,aA SS.P 22 v (iA i)=some (.pointer (some p))/\aj SS.P 3 h (.pointer (some p))=some (.int .i64 (l.getD i 0)):=by
 rcases r with⟨_,rfl⟩|⟨k,a,cs,c,q,e,z,rfl,m,_,g⟩
 ·exact absurd d (by simp)
 have b:((cs.drop a).take l.length).length=l.length:=by rw[g,jz]
 rw[length_take,length_drop]at b;have f:=PK (P:=SS.P) qv RX (k:=k) (off:=a) (n:=l.length) (c:=c) (ik:= .i64) (i:=(i:Int)) (by omega) (by omega);have o:a+((i:Int)).toNat*1=a+i:=by omega
 rw[o]at f;refine⟨_,f,?_⟩;have j:cs.getD (a+i) undef = .int .i64 (l.getD i 0):=by
  rw[<-TK d,<-g,gD,gD,List.getElem?_take,if_pos d,List.getElem?_drop]
 rw[ct GO FE m (by omega),j]
theorem dO.len{c:Nat}(r:dO h (.slice a n c) p):n=p.length:=by
 rcases r with⟨b,rfl⟩|⟨k,d,cs,f,g,e,z,b,_⟩
 ·injection b
 ·injection b
def sC(z:Int):Bool:=decide (1<=z)&&decide (z<=500)
def eL(l:List Int):Bool:=decide (l.length<=200)&&l.all sC
theorem Hj(h:i<p.length):p.drop i=p.getD i 0::p.drop (i+1):=by
 rw[List.drop_eq_getElem_cons h,gD,gE h];rfl
theorem zi{c:Nat}{l:List Int}(r:dO h (.slice a n c) l):FW SS 15 [.slice a n c] h (λv g=>v = .bool (eL l)/\g=h):=by
 obtain rfl:=dO.len r;refine WD a _ c h _ (aa (λq=>⟨?_,rfl⟩) (λq=>?_))
 ·have:¬l.length<=200:=by have:=dT q;omega
  unfold eL;rw[decide_eq_false this];rfl
 ·have t:l.length<=200:=by have:=dF q;omega
  have u:eL l=l.all sC:=by unfold eL;rw[decide_eq_true t,Bool.true_and]
  rw[u];refine AK a _ c (λm i g=>i<=l.length/\m=l.length-i/\g=h/\(l.drop i).all sC=l.all sC) _ (λm i=>?_) l.length (i:=0) ⟨by omega,rfl,rfl,by rw[drop_zero]⟩;intros;rename_i g k;obtain⟨z,y,rfl,b⟩:=k;refine aa (λq=>?_) (λq=>?_)
  ·have j:i<l.length:=by have:=dT q;omega
   obtain⟨p,o,s⟩:=r.at_ j;rw[Hj j,all_cons]at b;refine⟨_,o,_,s,aa (λf=>⟨?_,rfl⟩) (λf=>⟨_,o,_,s,aa (λd=>⟨?_,rfl⟩) (λd=>?_)⟩)⟩
   ·have:¬1<=l.getD i 0:=by have:=dT f;omega
    rw[<-b];unfold sC;rw[decide_eq_false this];rfl
   ·have:¬l.getD i 0<=500:=by have:=dT d;omega
    rw[<-b];unfold sC;rw[decide_eq_false this,Bool.and_false];rfl
   ·have e:sC (l.getD i 0)=true:=by
     unfold sC;have w:=dF f;have x:=dF d;rw[decide_eq_true (show 1<=l.getD i 0 by omega),decide_eq_true (show l.getD i 0<=500 by omega)];rfl
    rw[e,Bool.true_and]at b;rw[aO j (by omega)];exact cd (l.length-(i+1)) (by omega) ⟨by omega,rfl,rfl,b⟩
  ·obtain rfl:i=l.length:=by have:=dF q;omega
   rw[drop_length]at b;exact⟨by rw[<-b];rfl,rfl⟩
noncomputable def rI:FD:=cI Tryz.f13 [([1,1,1,1,1,0,1,0,0],[1,2,8,10,11,42,43])]
abbrev qk(a:OA)(g e:Nat)(d:OA)(b f c k m:Nat)(s i:Nat):LV:=[(.slice a g e),(.slice d b f),(pA c),(pA k),(iA s),(iA m),(iA i)]
theorem S0(y:Int)(B:OA)(A D:Nat)(C:OA)(z E:Nat)(w:LB)(h:ae)(Q:VH)(F:xN (br SS.P 29) h λ_ x=>FW SS 40 [(.slice B A D)] x λu v=>yB u λt=>au (!t) (xA (ba SS.P 29 []) λb=>xU (ah SS.P 29 (pA (h.next)) (.agg ⟨b⟩) v) v λ_ a=>eh SS [((pA (h.next)),some 29),((.int .i64 1),none)] a Q) (FW SS 40 [(.slice C z E)] v λr s=>yB r λq=>au (!q) (xA (ba SS.P 29 []) λb=>xU (ah SS.P 29 (pA (h.next)) (.agg ⟨b⟩) s) s λ_ a=>eh SS [((pA (h.next)),some 29),((.int .i64 1),none)] a Q) (FW SS 41 [(.int .i64 y),(strOf w)] s λo p=>yB o λn=>au (!n) (xA (ba SS.P 29 []) λb=>xU (ah SS.P 29 (pA (h.next)) (.agg ⟨b⟩) p) p λ_ a=>eh SS [((pA (h.next)),some 29),((.int .i64 1),none)] a Q) (FW SS 42 [(.int .i64 y)] p λl m=>yO l λk=>Ix SS.P k m λi j=>fP 65 i 0 λg=>fP 29 (.pointer (some g)) 2 λf=>xU (ah SS.P 9 (.pointer (some f)) (strOf w) j) j λ_ e=>FW SS 43 [(.pointer k),(strOf [])] e λc d=>yI .i64 c λb=>xI .i64 (r4 true [(iA A),(iA z)]) λa=>LL SS rI [1,1,1,1,1,0,1,0,0] [(.slice B A D),(.slice C z E),(pA (h.next)),(.pointer k),(.int .i64 b),(.int .i64 a),(.int .i64 0)] d (KK SS rI [1,1,1,1,1,0,1,0] [] (EE SS rI Q)))))):FW SS 13 [(.int .i64 y),(.slice B A D),(.slice C z E),(strOf w)] h Q:=cN rI Tryz.func13 (ai F)
theorem zK(E:Int)(v:OA)(B z:Nat)(y:OA)(x A:Nat)(w:LB)(u k m:Nat)(t:Nat->Nat->Nat->ae->Prop)(Q:VH)(step:∀(r:Nat) (s i:Nat) (D:Nat->Value) (h:ae),t r s i h->au (decide (((i:Int):Int)<(m:Int))) (FW SS 43 [(pA k),(strOf [])] h λp q=>yI .i64 p λo=>FW SS 45 [(.slice v B z),(iA i)] (room q 15) λl n=>yI .i64 l λj=>FW SS 45 [(.slice y x A),(iA i)] n λg h=>yI .i64 g λf=>fP 65 (pA k) 1 λe=>lS h e λd=>xA (ba SS.P 70 [(0,(.int .i64 j)),(1,(.int .i64 f)),(2,(strOf d)),(3,(.int .i64 o))]) λc=>FW SS 44 [(pA k),(iA s),(.agg ⟨c⟩)] h λa b=>a=(.tuple ⟨[]⟩)/\(aj SS.P 9 (room q 15) (.pointer (some e))=some (strOf d)/\dI 4 (strOf d) (strOf d)=true)/\(aj SS.P 9 n (.pointer (some e))=some (strOf d)/\dI 4 (strOf d) (strOf d)=true)/\aJ (qX (qk v B z y x A u k m) t) r [(.slice v B z),(.slice y x A),(pA u),(pA k),(.int .i64 o),(iA m),(.int .i64 (wrap .i64 ((i:Int)+1)))] b) (fP 65 (pA k) 0 λq=>fP 29 (.pointer (some q)) 3 λp=>lL 27 (room h 13) p λm n o=>fP 65 (pA k) 1 λl=>lS (room h 13) l λj=>iP 27 (.slice m n o) (iA s) λi=>fP 73 (.pointer (some i)) 0 λg=>xU (ah SS.P 9 (.pointer (some g)) (strOf j) (room h 13)) (room h 13) λ_ f=>FW SS 46 [(pA k)] f λd e=>∃c:LV,∃b:Int,d=(.tuple ⟨[(.agg ⟨c⟩),(.int .i64 b)]⟩)/\xU (ah SS.P 29 (pA u) (.agg ⟨c⟩) e) e λ_ a=>eh SS [((pA u),some 29),((.int .i64 b),none)] a Q))(r:Nat){s i:Nat}{h:ae}(C:t r s i h):LL SS rI [1,1,1,1,1,0,1,0,0] (qk v B z y x A u k m s i) h (KK SS rI [1,1,1,1,1,0,1,0] [] (EE SS rI Q)):=
 nt (qk v B z y x A u k m) t (λr s i D h C=>ai (step r s i D h C)) r C
noncomputable def oV:FD:=cI Tryz.f25 [([1,1,1,1,0,1,0,0],[4,7,8,25,26,27])]
abbrev lR(b k s a n c:Nat)(i:Nat):LV:=[(pA b),(pA k),(iA s),(sA a n c),(iA n),(iA i)]
theorem Ph(x w:LV)(h:ae)(Q:VH)(y:xN (ew SS.P 29 (.agg ⟨x⟩)) h λ_ v=>xN (ew SS.P 29 (.agg ⟨w⟩)) v λ_ u=>xN (br SS.P 29) u λ_ t=>lA 29 t (pA (h.next)) λs=>lA 29 t (pA (v.next)) λr=>FW SS 57 [(.agg ⟨s⟩),(.agg ⟨r⟩)] t λp q=>yI .i64 p λo=>au (((o:Int) !=0)) (xA (ba SS.P 29 []) λb=>xU (ah SS.P 29 (pA (u.next)) (.agg ⟨b⟩) q) q λ_ a=>eh SS [((pA (u.next)),some 29),((.int .i64 o),none)] a Q) (fP 29 (pA (h.next)) 0 λn=>lI q n λm=>FW SS 42 [(.int .i64 m)] q λk l=>yO k λj=>FW SS 43 [(.pointer j),(strOf [])] l λg i=>yI .i64 g λf=>lA 29 i (pA (h.next)) λe=>lA 29 i (pA (v.next)) λd=>xR (aG SS.P 86 2 [(0,(.agg ⟨e⟩)),(1,(.agg ⟨d⟩))]) i λ_ a b c=>LL SS oV [1,1,1,1,0,1,0,0] [(pA (u.next)),(.pointer j),(.int .i64 f),(sA (i.next) a b),(iA a),(.int .i64 0)] c (KK SS oV [1,1,1,1,0,1,0] [] (EE SS oV Q)))):FW SS 25 [(.agg ⟨x⟩),(.agg ⟨w⟩)] h Q:=cN oV Tryz.func25 (ai y)
theorem xw(z y:LV)(u k s v n c:Nat)(t:Nat->Nat->ae->Prop)(Q:VH)(step:∀(r:Nat) (i:Nat) (x:Nat->Value) (h:ae),t r i h->au (decide (((i:Int):Int)<(n:Int))) (iP 86 (sA v n c) (iA i) λq=>lA 29 h (.pointer (some q)) λp=>xN (br SS.P 29) h λ_ o=>xU (ah SS.P 29 (pA (h.next)) (.agg ⟨p⟩) o) o λ_ m=>fP 29 (pA (h.next)) 2 λl=>lS (room m 8) l λj=>lA 29 (room m 8) (pA (h.next)) λg=>FW SS 59 [(pA k),(.agg ⟨g⟩),(.func (.func 60) ⟨[]⟩ ⟨[]⟩)] (room m 8) λe f=>yI .i64 e λd=>FW SS 58 [(pA k),(iA s),(strOf j),(.int .i64 d)] f λa b=>a=(.tuple ⟨[]⟩)/\(aj SS.P 9 f (.pointer (some l))=some (strOf j)/\dI 4 (strOf j) (strOf j)=true)/\aJ (fm (lR u k s v n c) t) r [(pA u),(pA k),(iA s),(sA v n c),(iA n),(.int .i64 (wrap .i64 ((i:Int)+1)))] b) (FW SS 46 [(pA k)] h λd e=>∃c:LV,∃b:Int,d=(.tuple ⟨[(.agg ⟨c⟩),(.int .i64 b)]⟩)/\xU (ah SS.P 29 (pA u) (.agg ⟨c⟩) e) e λ_ a=>eh SS [((pA u),some 29),((.int .i64 b),none)] a Q))(r:Nat){i:Nat}{h:ae}(w:t r i h):LL SS oV [1,1,1,1,0,1,0,0] (lR u k s v n c i) h (KK SS oV [1,1,1,1,0,1,0] [] (EE SS oV Q)):=
 dg (lR u k s v n c) t (λr i x h w=>ai (step r i x h w)) r w
noncomputable def O9:FD:=cI Tryz.f31 []
theorem LK(H E:LV)(h:ae)(Q:VH)(R:xN (ew SS.P 29 (.agg ⟨H⟩)) h λ_ C=>xN (ew SS.P 29 (.agg ⟨E⟩)) C λ_ B=>xN (br SS.P 29) B λ_ F=>lA 29 F (pA (h.next)) λL=>lA 29 F (pA (C.next)) λS=>FW SS 57 [(.agg ⟨L⟩),(.agg ⟨S⟩)] F λY D=>yI .i64 Y λI=>au (((I:Int) !=0)) (xA (ba SS.P 29 []) λb=>xU (ah SS.P 29 (pA (B.next)) (.agg ⟨b⟩) D) D λ_ a=>eh SS [((pA (B.next)),some 29),((.int .i64 I),none)] a Q) (fP 29 (pA (h.next)) 0 λK=>lI D K λZ=>FW SS 42 [(.int .i64 Z)] D λT G=>yO T λA=>fP 29 (pA (h.next)) 2 λM=>lS G M λW=>fP 29 (pA (C.next)) 2 λP=>lS G P λX=>FW SS 63 [(.pointer A),(strOf W),(strOf X)] G λU V=>yS U λN=>Ix SS.P A V λO J=>fP 65 O 0 λz=>fP 29 (.pointer (some z)) 2 λy=>xU (ah SS.P 9 (.pointer (some y)) (strOf N) J) J λ_ x=>lA 29 x (pA (C.next)) λw=>FW SS 59 [(.pointer A),(.agg ⟨w⟩),(.func (.func 60) ⟨[]⟩ ⟨[]⟩)] x λu v=>yI .i64 u λt=>lA 29 (room v 11) (pA (h.next)) λs=>FW SS 64 [(.pointer A),(.int .i64 t)] (room v 11) λq r=>yF q λn o p=>FW SS 59 [(.pointer A),(.agg ⟨s⟩),(.func (.func n) ⟨o⟩ ⟨p⟩)] r λl m=>yI .i64 l λk=>Ix SS.P A m λj _=>fP 65 j 0 λi=>fP 29 (.pointer (some i)) 1 λg=>xU (ah SS.P 3 (.pointer (some g)) (.int .i64 k) m) m λ_ f=>(aj SS.P 29 r (pA (h.next))=some (.agg ⟨s⟩)/\dI 4 (.agg ⟨s⟩) (.agg ⟨s⟩)=true)/\FW SS 46 [(.pointer A)] f λd e=>∃c:LV,∃b:Int,d=(.tuple ⟨[(.agg ⟨c⟩),(.int .i64 b)]⟩)/\xU (ah SS.P 29 (pA (B.next)) (.agg ⟨c⟩) e) e λ_ a=>eh SS [((pA (B.next)),some 29),((.int .i64 b),none)] a Q)):FW SS 31 [(.agg ⟨H⟩),(.agg ⟨E⟩)] h Q:=cN O9 Tryz.func31 (ai R)
noncomputable def XA:FD:=cI Tryz.f33 []
theorem SU(D:LV)(h:ae)(Q:VH)(I:xN (ew SS.P 29 (.agg ⟨D⟩)) h λ_ B=>xN (br SS.P 29) B λ_ E=>lA 29 E (pA (h.next)) λM=>FW SS 66 [(.agg ⟨M⟩)] E λF C=>yB F λH=>au (!H) (xA (ba SS.P 29 []) λb=>xU (ah SS.P 29 (pA (B.next)) (.agg ⟨b⟩) C) C λ_ a=>eh SS [((pA (B.next)),some 29),((.int .i64 1),none)] a Q) (fP 29 (pA (h.next)) 0 λK=>lI C K λJ=>FW SS 42 [(.int .i64 J)] C λL G=>yO L λA=>Ix SS.P A G λy z=>fP 65 y 1 λx=>lS z x λw=>FW SS 43 [(.pointer A),(strOf w)] z λu v=>yI .i64 u λt=>fP 29 (pA (h.next)) 2 λs=>lS (room v 11) s λr=>lA 29 (room v 11) (pA (h.next)) λq=>FW SS 64 [(.pointer A),(.int .i64 t)] (room v 11) λo p=>yF o λl m n=>FW SS 59 [(.pointer A),(.agg ⟨q⟩),(.func (.func l) ⟨m⟩ ⟨n⟩)] p λj k=>yI .i64 j λi=>FW SS 58 [(.pointer A),(.int .i64 t),(strOf r),(.int .i64 i)] k λf g=>f=(.tuple ⟨[]⟩)/\(aj SS.P 9 p (.pointer (some s))=some (strOf r)/\dI 4 (strOf r) (strOf r)=true)/\(aj SS.P 9 k (.pointer (some s))=some (strOf r)/\dI 4 (strOf r) (strOf r)=true)/\(aj SS.P 29 p (pA (h.next))=some (.agg ⟨q⟩)/\dI 4 (.agg ⟨q⟩) (.agg ⟨q⟩)=true)/\FW SS 46 [(.pointer A)] g λd e=>∃c:LV,∃b:Int,d=(.tuple ⟨[(.agg ⟨c⟩),(.int .i64 b)]⟩)/\xU (ah SS.P 29 (pA (B.next)) (.agg ⟨c⟩) e) e λ_ a=>eh SS [((pA (B.next)),some 29),((.int .i64 b),none)] a Q)):FW SS 33 [(.agg ⟨D⟩)] h Q:=cN XA Tryz.func33 (ai I)
noncomputable def SR:FD:=cI Tryz.f37 []
theorem Pb(D:LV)(w:LB)(h:ae)(Q:VH)(L:xN (ew SS.P 29 (.agg ⟨D⟩)) h λ_ A=>xN (br SS.P 29) A λ_ E=>lA 29 E (pA (h.next)) λR=>FW SS 66 [(.agg ⟨R⟩)] E λG C=>yB G λK=>au (!K) (xA (ba SS.P 29 []) λb=>xU (ah SS.P 29 (pA (A.next)) (.agg ⟨b⟩) C) C λ_ a=>eh SS [((pA (A.next)),some 29),((.int .i64 1),none)] a Q) (fP 29 (pA (h.next)) 0 λH=>lI C H λO=>FW SS 41 [(.int .i64 O),(strOf w)] C λP B=>yB P λN=>au (!N) (xA (ba SS.P 29 []) λb=>xU (ah SS.P 29 (pA (A.next)) (.agg ⟨b⟩) B) B λ_ a=>eh SS [((pA (A.next)),some 29),((.int .i64 1),none)] a Q) (fP 29 (pA (h.next)) 0 λM=>lI B M λI=>FW SS 42 [(.int .i64 I)] B λJ F=>yO J λz=>fP 29 (pA (h.next)) 2 λy=>lS F y λx=>FW SS 63 [(.pointer z),(strOf w),(strOf x)] F λu v=>yS u λt=>Ix SS.P z v λr s=>fP 65 r 0 λq=>fP 29 (.pointer (some q)) 2 λp=>xU (ah SS.P 9 (.pointer (some p)) (strOf t) s) s λ_ o=>lA 29 o (pA (h.next)) λn=>FW SS 59 [(.pointer z),(.agg ⟨n⟩),(.func (.func 60) ⟨[]⟩ ⟨[]⟩)] o λl m=>yI .i64 l λk=>Ix SS.P z m λi j=>fP 65 i 0 λh=>fP 29 (.pointer (some h)) 1 λg=>xU (ah SS.P 3 (.pointer (some g)) (.int .i64 k) j) j λ_ f=>FW SS 46 [(.pointer z)] f λd e=>∃c:LV,∃b:Int,d=(.tuple ⟨[(.agg ⟨c⟩),(.int .i64 b)]⟩)/\xU (ah SS.P 29 (pA (A.next)) (.agg ⟨c⟩) e) e λ_ a=>eh SS [((pA (A.next)),some 29),((.int .i64 b),none)] a Q))):FW SS 37 [(.agg ⟨D⟩),(strOf w)] h Q:=cN SR Tryz.func37 (ai L)
noncomputable def fI:FD:=cI Tryz.f35 [([1,1,1,0,1,0,0],[1,2,3,6,8,33,34]),([1,1,1,1,0,1,0,0],[1,2,3,6,8,48,49])]
abbrev kR(n a:Int)(d c k:Nat)(b:Int)(i:Nat):LV:=[(.int .i64 n),(.int .i64 a),(pA d),(pA c),(pA k),(.int .i64 b),(iA i)]
abbrev kS(n a:Int)(c b k:Nat)(i:Nat):LV:=[(.int .i64 n),(.int .i64 a),(pA c),(pA b),(pA k),(.int .i64 a),(iA i)]
theorem LO(o:LV)(n m:Int)(h:ae)(Q:VH)(p:xN (ew SS.P 29 (.agg ⟨o⟩)) h λ_ l=>xN (br SS.P 29) l λ_ k=>lA 29 k (pA (h.next)) λj=>FW SS 66 [(.agg ⟨j⟩)] k λg i=>yB g λf=>au (!f) (xA (ba SS.P 29 []) λb=>xU (ah SS.P 29 (pA (l.next)) (.agg ⟨b⟩) i) i λ_ a=>eh SS [((pA (l.next)),some 29),((.int .i64 1),none)] a Q) (au (decide ((n:Int)<0)) (xA (ba SS.P 29 []) λb=>xU (ah SS.P 29 (pA (l.next)) (.agg ⟨b⟩) i) i λ_ a=>eh SS [((pA (l.next)),some 29),((.int .i64 1),none)] a Q) (au (decide ((m:Int)<n)) (xA (ba SS.P 29 []) λb=>xU (ah SS.P 29 (pA (l.next)) (.agg ⟨b⟩) i) i λ_ a=>eh SS [((pA (l.next)),some 29),((.int .i64 1),none)] a Q) (au (decide ((m:Int)>30)) (xA (ba SS.P 29 []) λb=>xU (ah SS.P 29 (pA (l.next)) (.agg ⟨b⟩) i) i λ_ a=>eh SS [((pA (l.next)),some 29),((.int .i64 1),none)] a Q) (fP 29 (pA (h.next)) 0 λe=>lI i e λd=>FW SS 42 [(.int .i64 d)] i λb c=>yO b λa=>LL SS fI [1,1,1,0,1,0,0] [(.int .i64 n),(.int .i64 m),(pA (h.next)),(pA (l.next)),(.pointer a),(.int .i64 (wrap .i64 (m+1))),(.int .i64 0)] c (KK SS fI [1,1,1,0,1,0] [] (EE SS fI Q))))))):FW SS 35 [(.agg ⟨o⟩),(.int .i64 n),(.int .i64 m)] h Q:=cN fI Tryz.func35 (ai p)
theorem wB(q:LV)(n e:Int)(m l k:Nat)(j:Int)(f:Nat->Nat->ae->Prop)(Q:VH)(step:∀(g:Nat) (i:Nat) (p:Nat->Value) (h:ae),f g i h->au (decide (((i:Int):Int)<j)) (au (decide (((i:Int):Int)>=n)) (fP 65 (pA k) 1 λd=>lS h d λc=>FW SS 43 [(pA k),(strOf c)] h λa b=>yI .i64 a λ_=>aJ (fm (kR n e m l k j) f) g [(.int .i64 n),(.int .i64 e),(pA m),(pA l),(pA k),(.int .i64 j),(.int .i64 (wrap .i64 ((i:Int)+1)))] b) (FW SS 43 [(pA k),(strOf [])] h λa b=>yI .i64 a λ_=>aJ (fm (kR n e m l k j) f) g [(.int .i64 n),(.int .i64 e),(pA m),(pA l),(pA k),(.int .i64 j),(.int .i64 (wrap .i64 ((i:Int)+1)))] b)) (LL SS fI [1,1,1,1,0,1,0,0] (kS n e m l k 0) h (KK SS fI [1,1,1,1,0,1,0] [] (EE SS fI Q))))(g:Nat){i:Nat}{h:ae}(o:f g i h):LL SS fI [1,1,1,0,1,0,0] (kR n e m l k j i) h (KK SS fI [1,1,1,0,1,0] [] (EE SS fI Q)):=
 dg (kR n e m l k j) f (λg i p h o=>ai (step g i p h o)) g o
theorem wC(x:LV)(n q:Int)(t u k:Nat)(s:Nat->Nat->ae->Prop)(Q:VH)(step:∀(r:Nat) (i:Nat) (w:Nat->Value) (h:ae),s r i h->au (decide (((i:Int):Int)<q)) (fP 29 (pA t) 2 λp=>lS (room h 12) p λo=>lA 29 (room h 12) (pA t) λm=>FW SS 64 [(pA k),(.int .i64 (wrap .i64 ((i:Int)+1)))] (room h 12) λj l=>yF j λf g h=>FW SS 59 [(pA k),(.agg ⟨m⟩),(.func (.func f) ⟨g⟩ ⟨h⟩)] l λd e=>yI .i64 d λc=>FW SS 58 [(pA k),(iA i),(strOf o),(.int .i64 c)] e λa b=>a=(.tuple ⟨[]⟩)/\(aj SS.P 9 l (.pointer (some p))=some (strOf o)/\dI 4 (strOf o) (strOf o)=true)/\(aj SS.P 9 e (.pointer (some p))=some (strOf o)/\dI 4 (strOf o) (strOf o)=true)/\(aj SS.P 29 l (pA t)=some (.agg ⟨m⟩)/\dI 4 (.agg ⟨m⟩) (.agg ⟨m⟩)=true)/\aJ (fm (kS n q t u k) s) r [(.int .i64 n),(.int .i64 q),(pA t),(pA u),(pA k),(.int .i64 q),(.int .i64 (wrap .i64 ((i:Int)+1)))] b) (FW SS 46 [(pA k)] h λd e=>∃c:LV,∃b:Int,d=(.tuple ⟨[(.agg ⟨c⟩),(.int .i64 b)]⟩)/\xU (ah SS.P 29 (pA u) (.agg ⟨c⟩) e) e λ_ a=>eh SS [((pA u),some 29),((.int .i64 b),none)] a Q))(r:Nat){i:Nat}{h:ae}(v:s r i h):LL SS fI [1,1,1,1,0,1,0,0] (kS n q t u k i) h (KK SS fI [1,1,1,1,0,1,0] [] (EE SS fI Q)):=
 dg (kS n q t u k) s (λr i w h v=>ai (step r i w h v)) r v
section
section
variable {hb g h:ae} {k:Nat} {kind start:Int} {lead:List UInt8} {bK:List dA}
theorem SK(w:Wf hb)(b:BS hb g k kind start lead bK)(u:bK.length<=3000)(x:cg bK<=30000):FW SS 46 [pA k] g (BH hb (⟨kind,start,lead,bK⟩,0)):=by
 obtain⟨a,n,c,r,q,f,p⟩:=b.ex;have s:n=bK.length:=by have:=p.st.len;rw[this,f]
 have h:=(Ok.refl b.ok.wf).push mS;have d:=h.ext _ _ q;have j:=aN g mS;have o:=pe Nr LG ur d (i:=0) (by simp[fx]);have m:=h.set (.cells (bE ⟨kind,start,lead,bK⟩ a n c) 29 0 true) (Nat.le_refl _) (h.wf _ _ j) b.ok.wf;have l:((g.push mS).set g.next (.cells (bE ⟨kind,start,lead,bK⟩ a n c) 29 0 true)).get g.next=some (.cells (bE ⟨kind,start,lead,bK⟩ a n c) 29 0 true):=by rw[ae.av,if_pos rfl]
 refine SJ k g _ ⟨_,qJ,_,aaY k,_,ct adC ab1 d (i:=6) (by simp[fx]),aa (λe=>by cases e) (λ_=>⟨_,kn k,_,db k,_,_,_,ct As EO d (i:=3) (by simp[fx]),aa (λe=>?_) (λ_=>⟨_,L6 k,_,ct GO FE d (i:=5) (by simp[fx]),aa (λe=>?_) (λ_=>⟨_,kn k,_,o,_,kV (t:=29) ur (cs0:=[.int .i64 0,.int .i64 0,strOf [],.slice none 0 0]) rfl j (cs:=bE ⟨kind,start,lead,bK⟩ a n c) rfl (uO ..),?_⟩)⟩)⟩)⟩
 ·have:=dT e;omega
 ·have:=dT e;omega
 ·exact xM (v:= .agg ⟨bE ⟨kind,start,lead,bK⟩ a n c⟩) (pe Nr LG ur l (by simp[bE])) ⟨a,n,c,r,rfl,f,p.ok m,b.ok.trans m⟩
theorem SG{c:Nat}{l:List Int}(r:dO h (.slice a n c) l)(i:Nat):FW SS 45 [.slice a n c,iA i] h (λv g=>v = .int .i64 (l.getD i 0)/\g=h):=by
 obtain rfl:=dO.len r;refine aaI a _ c i h _ (aa (λq=>?_) (λq=>⟨?_,rfl⟩))
 ·have d:i<l.length:=by have:=dT q;omega
  obtain⟨p,b,e⟩:=r.at_ d;exact⟨_,b,_,e,rfl,rfl⟩
 ·have:l.length<=i:=by have:=dF q;omega
  rw[gD,List.getElem?_eq_none this];rfl
theorem NQ(s:Int):FW SS 51 [.int .i64 s] h (λv g=>v = .bool (sC s)/\g=h):=by
 unfold sC;refine XB s h _ (aa (λq=>⟨?_,rfl⟩) (λq=>⟨?_,rfl⟩))
 ·have:=dT q;rw[decide_eq_true (show 1<=s by omega),Bool.true_and]
 ·have:=dF q;rw[decide_eq_false (show ¬1<=s by omega),Bool.false_and]
theorem Pl(s:Int):FW SS 68 [.int .i64 s] h (λv g=>v = .bool (!sC s)/\g=h):=by
 refine Pk s h _ ((NQ s).mono ?_);rintro _ g ⟨rfl,rfl⟩;exact⟨_,rfl,rfl,rfl⟩
theorem SO(s:Int):FW SS 50 [.int .i64 s] h (λv g=>v = .bool (!sC s)/\g=h):=by
 refine SN s h _ ((NQ s).mono ?_);rintro _ g ⟨rfl,rfl⟩;exact⟨_,rfl,rfl,rfl⟩
theorem Tg{c:Nat}{l:List Int}(r:dO h (.slice a n c) l)(t:l.length<=1000000):FW SS 49 [.slice a n c,.func (.func 68) ⟨[]⟩ ⟨[]⟩] h (λv g=>v = .bool (!l.all sC)/\g=h):=by
 obtain rfl:=dO.len r;refine Pw a _ c h _ (TM a _ c h _ ?_);refine Aa a _ c (λj i g=>i<=l.length/\j=l.length-i/\g=h/\(l.drop i).all sC=l.all sC) _ (λj i=>?_) l.length (i:=0) ⟨by omega,rfl,rfl,by rw[drop_zero]⟩;intros;rename_i g f;obtain⟨w,u,rfl,b⟩:=f;refine aa (λq=>?_) (λq=>?_)
 ·have e:i<l.length:=by have:=dT q;omega
  obtain⟨p,k,o⟩:=r.at_ e;rw[Hj e,all_cons]at b;refine⟨_,k,_,o,(Pl _).mono ?_⟩;rintro _ m ⟨rfl,s⟩;obtain rfl:g=m:=s.symm;refine⟨_,rfl,aa (λd=>⟨_,rfl,?_,rfl⟩) (λd=>?_)⟩
  ·rw[not_eq_true']at d;rw[<-b,d,Bool.false_and,decide_eq_true (show(i:Int)>=0 by omega)];rfl
  ·rw[not_eq_false']at d;rw[d,Bool.true_and]at b;rw[aO e (by omega)];exact cd (l.length-(i+1)) (by omega) ⟨by omega,rfl,rfl,b⟩
 ·obtain rfl:i=l.length:=by have:=dF q;omega
  rw[drop_length]at b;exact⟨_,rfl,by rw[<-b];rfl,rfl⟩
theorem Tf{c:Nat}{l:List Int}(r:dO h (.slice a n c) l)(t:l.length<=1000000):FW SS 49 [.slice a n c,.func (.func 50) ⟨[]⟩ ⟨[]⟩] h (λv g=>v = .bool (!l.all sC)/\g=h):=by
 obtain rfl:=dO.len r;refine Pv a _ c h _ (TL a _ c h _ ?_);refine zZ a _ c (λj i g=>i<=l.length/\j=l.length-i/\g=h/\(l.drop i).all sC=l.all sC) _ (λj i=>?_) l.length (i:=0) ⟨by omega,rfl,rfl,by rw[drop_zero]⟩;intros;rename_i g f;obtain⟨w,u,rfl,b⟩:=f;refine aa (λq=>?_) (λq=>?_)
 ·have e:i<l.length:=by have:=dT q;omega
  obtain⟨p,k,o⟩:=r.at_ e;rw[Hj e,all_cons]at b;refine⟨_,k,_,o,(SO _).mono ?_⟩;rintro _ m ⟨rfl,s⟩;obtain rfl:g=m:=s.symm;refine⟨_,rfl,aa (λd=>⟨_,rfl,?_,rfl⟩) (λd=>?_)⟩
  ·rw[not_eq_true']at d;rw[<-b,d,Bool.false_and,decide_eq_true (show(i:Int)>=0 by omega)];rfl
  ·rw[not_eq_false']at d;rw[d,Bool.true_and]at b;rw[aO e (by omega)];exact cd (l.length-(i+1)) (by omega) ⟨by omega,rfl,rfl,b⟩
 ·obtain rfl:i=l.length:=by have:=dF q;omega
  rw[drop_length]at b;exact⟨_,rfl,by rw[<-b];rfl,rfl⟩
theorem FK{c:Nat}(r:dO h (.slice a n c) p):FW SS 40 [.slice a n c] h (λv g=>v = .bool (eL p)/\g=h):=by
 obtain rfl:=dO.len r;unfold eL;refine Pm a _ c h _ (aa (λq=>(Tg r (by have:=dT q;omega)).mono ?_) (λq=>⟨?_,rfl⟩))
 ·rintro _ g ⟨rfl,rfl⟩;refine⟨_,rfl,?_,rfl⟩;have:=dT q;rw[decide_eq_true (show p.length<=200 by omega),Bool.true_and,Bool.not_not]
 ·have:=dF q;rw[decide_eq_false (show ¬p.length<=200 by omega),Bool.false_and]
def qy(A B:bp):Int:=if(bT A&&bT B)=true then(if A.kind=B.kind then 0 else 6)else 1
theorem NR{B:bp}{x:Option Addr}{z:Nat}(w:Wf h)(r:nP h)(u:Small M)(D:Small B)(A:dm h (.slice x n z) M.af)(t:dm h (.slice a m i) B.af):FW SS 57 [.agg ⟨bE M x n z⟩,.agg ⟨bE B a m i⟩] h (λv g=>v = .int .i64 (qy M B)/\Ok h g):=by
 obtain⟨C,k⟩:=eJ w A;obtain⟨y,s⟩:=eJ k.wf (t.ok k);have p:=k.trans s;have j:=C.ok s;refine XC _ _ h _ ⟨_,gL M x n z,_,gL B a m i,_,j.all,(qN (r.ok p) p.wf u j.row).mono ?_⟩;generalize (h.push (Bm M x n z)).push (Bm B a m i)=E at*;rintro _ G ⟨rfl,o⟩;have d:=p.trans o;have e:=y.ok o;unfold qy;refine⟨_,rfl,aa (λq=>⟨?_,d⟩) (λq=>⟨_,e.all,(qN (r.ok d) d.wf D e.row).mono ?_⟩)⟩
 ·rw[not_eq_true']at q;rw[q];rfl
 rw[not_eq_false']at q;rintro _ F ⟨rfl,l⟩;have f:=d.trans l;refine⟨_,rfl,aa (λc=>⟨?_,f⟩) (λc=>⟨_,dt _,_,((j.ok o).ok l).l0,_,dt _,_,(e.ok l).l0,aa (λb=>⟨?_,f⟩) (λb=>⟨?_,f⟩)⟩)⟩
 ·rw[not_eq_true']at c;rw[q,c];rfl
 ·rw[not_eq_false']at c;have b:M.kind≠B.kind:=by simpa using b
  rw[q,c,if_pos (show(true&&true)=true from rfl),if_neg b]
 ·rw[not_eq_false']at c;have b:M.kind=B.kind:=by simpa using b
  rw[q,c,if_pos (show(true&&true)=true from rfl),if_pos b]
end
end
variable{j:Nat}{l:Nat}{t:List UInt8}
section
section
variable {hb g h:ae} {k:Nat} {kind start:Int} {lead:List UInt8} {bK:List dA}
theorem BU.Ig(w:Wf hb)(b:BU hb g k kind start lead bK n)(l:List UInt8):∃u:dS,ah SS.P 9 (.pointer (some ⟨k,2,none⟩)) (strOf l) g=some (undef,u)/\BU hb (u.app g) k kind start l bK n/\Kp g (u.app g):=by
 obtain⟨a,t,c,p,f,h,q⟩:=b.ex;refine⟨_,jb zs9 f (i:=2) (by simp[fx]) rfl rfl,⟨⟨a,t,c,p,?_,h,q.other f (by omega) (by omega) _⟩,b.ok.set _ b.nk (b.ok.wf _ _ f) w,b.nk⟩,Nat.le_refl _,λj cs e z s d m _ _=>?_⟩
 ·show(g.set k _).get k=_;rw[ae.av,if_pos rfl];rfl
 ·show(g.set k _).get j=_;rw[ae.av,if_neg (λc=>by
   rw[c,f]at d;injection d with d
   injection d with _ r o
   exact m ⟨r.symm,o.symm⟩)]
  exact d
theorem BU.KP(w:Wf hb)(b:BU hb g k kind start lead bK n)(z:Int):∃u:dS,ah SS.P 3 (.pointer (some ⟨k,1,none⟩)) (.int .i64 z) g=some (undef,u)/\BU hb (u.app g) k kind z lead bK n/\Kp g (u.app g):=by
 obtain⟨a,s,c,o,f,h,p⟩:=b.ex;refine⟨_,jb zs3 f (i:=1) (by simp[fx]) rfl rfl,⟨⟨a,s,c,o,?_,h,p.other f (by omega) (by omega) _⟩,b.ok.set _ b.nk (b.ok.wf _ _ f) w,b.nk⟩,Nat.le_refl _,λj cs e z r d l _ _=>?_⟩
 ·show(g.set k _).get k=_;rw[ae.av,if_pos rfl];rfl
 ·show(g.set k _).get j=_;rw[ae.av,if_neg (λc=>by
   rw[c,f]at d;injection d with d
   injection d with _ q m
   exact l ⟨q.symm,m.symm⟩)]
  exact d
theorem BU.one(b:BU hb g k kind start lead bK n):aj SS.P 9 g (.pointer (some ⟨k,4,none⟩))=some (strOf (dz kind)):=by
 obtain⟨a,j,c,f,d,e,h⟩:=b.ex;exact ct Lh R0 d (i:=4) (by simp[fx])
theorem iw(w:Wf h)(o:Ok h g)(i:g.get m=some mS)(b:h.next<=m)(e:Int):
  xA (ba SS.P 29 []) λc=>xU (ah SS.P 29 (pA m) (.agg ⟨c⟩) g) g λu d=>eh SS [(pA m,some 29),(.int .i64 e,none)] d (BH h (wa,e)):=by
 obtain⟨u,j,f⟩:=Ox w o i b (R:=(wa,e)) (a:=none) (n:=0) (c:=0) (ps:=[]) rfl (ki.nil g g) o (.inr ⟨rfl,rfl,rfl,rfl⟩);exact⟨_,aaN,u,j,f⟩
theorem o0(w:Wf h)(j:Wf hb)(b:BS hb g k kind start lead bK)(o:bK.length<=3000)(r:cg bK<=30000)(m:Ok h hb)(l:hb.get n=some mS)(t:h.next<=n):
  FW SS 46 [pA k] g λv d=>∃cs:LV,∃q:Int,v=(.tuple ⟨[(.agg ⟨cs⟩),(.int .i64 q)]⟩)/\xU (ah SS.P 29 (pA n) (.agg ⟨cs⟩) d) d λu f=>eh SS [(pA n,some 29),(.int .i64 q,none)] f (BH h (⟨kind,start,lead,bK⟩,0)):=by
 refine(SK j b o r).mono ?_;rintro _ f ⟨a,q,c,y,rfl,i,x,e⟩;obtain⟨u,s,p⟩:=Ox w (m.trans e) (e.ext _ _ l) t (R:=(⟨kind,start,lead,bK⟩,0)) i x m (.inl (j _ _ l));exact⟨_,_,rfl,u,s,p⟩
end
def qB(kind:Int)(a b:List Int)(m:Nat):List dA:=(List.range m).map λi=>⟨[],[⟨a.getD i 0,b.getD i 0,dz kind,((i+1:Nat):Int)⟩]⟩
def GQ(kind:Int)(a b:List Int)(c:List UInt8):bp:=⟨kind,0,c,qB kind a b (max a.length b.length)++[⟨dz kind,[]⟩]⟩
def Bj(kind:Int)(b c:List Int)(a:List UInt8):bp×Int:=if(eL b&&(eL c&&bN kind a))=true then(GQ kind b c a,0)else(wa,1)
theorem pB(kind:Int)(a b:List Int)(m:Nat):(qB kind a b m).length=m:=by unfold qB;simp
theorem GP(kind:Int)(a b:List Int)(m:Nat):qB kind a b (m+1)=qB kind a b m++[⟨[],[⟨a.getD m 0,b.getD m 0,dz kind,((m+1:Nat):Int)⟩]⟩]:=by
 unfold qB;rw[range_succ,map_append];rfl
theorem Ef(kind:Int)(a b:List Int):∀m,cg (qB kind a b m)=m
 |0=>rfl
 |m+1=>by rw[GP,dZ,Ef kind a b m];rfl
theorem Z1(i o:Int)(w:List UInt8)(t:Int):ba SS.P 70 [(0,.int .i64 i),(1,.int .i64 o),(2,strOf w),(3,.int .i64 t)]=some (.agg ⟨fH ⟨i,o,w,t⟩⟩):=by kernel_rfl
theorem K5(h:eL p=true):p.length<=200:=by
 unfold eL at h;rw[and_eq_true]at h;exact dT h.1
theorem CM{h:ae}{kind:Int}{G I:Option Addr}{d f:List Int}(w:Wf h)(tb:nP h)(S:dO h (.slice G n m) d)(W:dO h (.slice I j l) f)(hl:t.length<=1000000000):
  FW SS 13 [.int .i64 kind,.slice G n m,.slice I j l,strOf t] h (BH h (Bj kind d f t)):=by
 obtain rfl:=dO.len S;obtain rfl:=dO.len W;have v:=(Ok.refl w).push mS;have V:=aN h mS;have nb:h.next<(h.push mS).next:=lt_succ_self _;refine S0 kind G _ m I _ l t h _ ⟨_,qJ,?_⟩;generalize h.push mS=g1 at*;refine(FK (dO.ok S v)).mono ?_;rintro _ z ⟨rfl,e2⟩;obtain rfl:g1=z:=e2.symm;unfold Bj;refine⟨_,rfl,aa (λq=>?_) (λq=>(FK (dO.ok W v)).mono ?_)⟩
 ·rw[not_eq_true']at q;rw[q,if_neg (show ¬(false&&(eL f&&bN kind t))=true by simp)];exact iw w v V (Nat.le_refl _) 1
 rw[not_eq_false']at q;rintro _ z ⟨rfl,e2⟩;obtain rfl:g1=z:=e2.symm;refine⟨_,rfl,aa (λA=>?_) (λA=>(mf kind t hl (tb.ok v) v.wf).mono ?_)⟩
 ·rw[not_eq_true']at A;rw[A,if_neg (show ¬(eL d&&(false&&bN kind t))=true by simp)];exact iw w v V (Nat.le_refl _) 1
 rw[not_eq_false']at A;rintro _ z ⟨rfl,r⟩;have C:=v.trans r;have O:=r.ext _ _ V;refine⟨_,rfl,aa (λB=>?_) (λB=>(mB kind r.wf).mono ?_)⟩
 ·rw[not_eq_true']at B;rw[B,if_neg (show ¬(eL d&&(eL f&&false))=true by simp)];exact iw w C O (Nat.le_refl _) 1
 rw[not_eq_false']at B;rw[q,A,B,if_pos (show(true&&(true&&true))=true from rfl)];have lx:=K5 q;have ly:=K5 A;rintro _ g3 ⟨k,rfl,b3⟩;obtain⟨u,st,b4,_⟩:=b3.Ig r.wf t;refine⟨_,rfl,lE ⟨_,kn k,_,mE k,u,st,(iy r.wf b4 (by simp) []).mono ?_⟩⟩;rintro _ g5 ⟨rfl,b5,_⟩;have hm:(if(f.length:Int)>(d.length:Int)then(f.length:Int)else(d.length:Int))=((max d.length f.length:Nat):Int):=by
  split<;>omega
 refine⟨_,rfl,_,tL _ _ _,?_⟩;rw[hm];obtain⟨F,P⟩:∃F,F=max d.length f.length:=⟨_,rfl⟩
 have x7:F<=200:=by omega
 rw[<-P];refine zK kind G _ m I _ l t h.next k F (λmz s i g=>i<=F/\mz=F-i/\s=i/\BS z g k kind 0 t (qB kind d f i++[⟨[],[]⟩])) _ (λmz s i=>?_) F (s:=0) (i:=0) ⟨by omega,rfl,rfl,b5⟩;intros;rename_i g x3;obtain⟨f1,f2,rfl,b⟩:=x3;have D:=Hr (qB kind d f s) (⟨[],[]⟩:dA) [] (pB kind d f s);refine aa (λp=>?_) (λp=>?_)
 ·have hi:s<F:=by have:=dT p;omega
  refine(iy r.wf b (by rw[length_append,pB];simp;omega) []).mono ?_;rintro _ g6 ⟨rfl,b6,_⟩;have or:=(Ok.refl b6.ok.wf).room 15;have o:=b6.qC or;have M:=C.trans o.ok;refine⟨_,rfl,(SG (dO.ok S M) s).mono ?_⟩;rintro _ T ⟨rfl,e7⟩;obtain rfl:Go.Ab.room g6 15=T:=e7.symm;refine⟨_,rfl,(SG (dO.ok W M) s).mono ?_⟩;rintro _ T ⟨rfl,e7⟩;obtain rfl:Go.Ab.room g6 15=T:=e7.symm;have R:(qB kind d f s++[(⟨[],[]⟩:dA)]).length=s+1:=by rw[length_append,pB];rfl
  rw[R];have J:(qB kind d f s++[(⟨[],[]⟩:dA)]++[(⟨[],[]⟩:dA)])[s]?=some (⟨[],[]⟩:dA):=by
   rw[append_assoc];exact Hr (qB kind d f s) (⟨[],[]⟩:dA) [⟨[],[]⟩] (pB kind d f s)
  have y:(qB kind d f s++[(⟨[],[]⟩:dA)]++[(⟨[],[]⟩:dA)]).set s (⟨[],[]++[⟨d.getD s 0,f.getD s 0,dz kind,((s+1:Nat):Int)⟩]⟩:dA)=qB kind d f (s+1)++[⟨[],[]⟩]:=by
   rw[append_assoc,GP,append_assoc];exact uV (qB kind d f s) (⟨[],[]⟩:dA) _ [⟨[],[]⟩] (pB kind d f s)
  have x0:cg (qB kind d f s++[(⟨[],[]⟩:dA)]++[(⟨[],[]⟩:dA)])<=100000:=by
   rw[dZ,dZ,Ef];show s+0+0<=_;omega
  refine⟨_,rfl,_,zU k,_,o.one,_,Z1 _ _ _ _,(xy r.wf o J x0 _).mono ?_⟩;rintro _ g8 ⟨rfl,H,_⟩;rw[y]at H;rw[aO hi (by omega)];exact⟨rfl,⟨o.one,kM _⟩,⟨o.one,kM _⟩,iO (F-(s+1)) (by omega) ⟨by omega,rfl,rfl,H⟩⟩
 ·obtain rfl:s=F:=by have:=dF p;omega
  have o:=b.qC ((Ok.refl b.ok.wf).room 13);obtain⟨a,y2,c,Z,Y,N,K⟩:=o.ex;obtain⟨pp,hp,x5⟩:∃p,Z[s]?=some p/\p.1=⟨[],[]⟩:=by
   rw[<-N,getElem?_map]at D;exact map_eq_some_iff.1 D
  have X:0<(Z.map uZ).length:=by have:=(List.getElem?_eq_some_iff.1 hp).1;rw[lM];omega
  obtain⟨kr,x9,cr,Q,y0⟩:=K.row.blk X;injection Q with Q en ec
  subst Q en ec;obtain⟨i1,_,_⟩:=K.at_ hp;obtain⟨uu,x2,x4,x1,x6,x8⟩:=K.adn r.wf o.ok hp (dz kind);obtain⟨y1,U⟩:=oj K.row (k:=kr) rfl;have L:=x6 _ _ Y (λe=>kj U Y (by decide) e);have y:(Z.set s (⟨dz kind,pp.1.arcs⟩,pp.2)).map (·.1)=qB kind d f s++[⟨dz kind,[]⟩]:=by
   rw[map_set,N,x5];exact uV (qB kind d f s) (⟨[],[]⟩:dA) _ [] (pB kind d f s)
  have E:∀x:dA,x.arcs=[]->cg (qB kind d f s++[x])=s:=λx hx=>by
   rw[dZ,Ef,df,hx];rfl
  have H:BS z (uu.app (Go.Ab.room g 13)) k kind 0 t (qB kind d f s++[⟨dz kind,[]⟩]):=by
   refine⟨⟨_,_,_,_,?_,y,x4⟩,x1,o.nk⟩;rw[E _ rfl];rw[E _ rfl]at L;exact L
  refine⟨_,kn k,_,db k,_,_,_,ct As EO Y (i:=3) (by simp[fx]),_,zU k,_,o.one,_,i1,_,nF _ _,uu,x2,?_⟩;have e:GQ kind d f t=⟨kind,0,t,qB kind d f s++[⟨dz kind,[]⟩]⟩:=by unfold GQ;rw[<-P]
  rw[e];exact o0 w r.wf H (by rw[length_append,pB];simp;omega) (by rw[E _ rfl];omega) C O (Nat.le_refl _)
end
section
structure R8(M:bp):Prop where
 n:M.af.length<=300
 s:cg M.af<=2000
 start:0<=M.start/\M.start<M.af.length
 to:∀s∈M.af,∀a∈s.arcs,0<=a.t/\a.t<M.af.length
theorem od(c:Small M)(h:bT M=true):R8 M:=by
 have b:=tN h;exact⟨c.bK,c.tot,b.start,λs d a e=>(b.arc s d a e).2⟩
theorem mn.jA(k:Nat)(g:ae):mn k none 60 [] [] g:=⟨rfl,rfl,rfl⟩
theorem Ec{x:Option Addr}{y z:Nat}(r:dm g (.slice x y z) M.af):dI 4 (.agg ⟨bE M x y z⟩) (.agg ⟨bE M x y z⟩)=true:=by
 obtain⟨t,d,l,q,m⟩:=r;have:∀{e i:Nat}{j:List (List Value)},EM g e i (.slice x y z) j->dI 3 (.slice x y z) (.slice x y z)=true:=by
  intro e i j h;obtain⟨_,⟨d|d,_⟩|⟨k,o,cs,p,z',c,s,d,_⟩⟩:=h
  ·injection d with a b c;subst a b c;simp[dI]
  ·exact absurd d m
  ·injection d with a b c;subst a b c;simp[dI]
 have h:=this l;have e:dI 4 (.agg ⟨bE M x y z⟩) (.agg ⟨bE M x y z⟩)=(dI 3 (.int .i64 M.kind) (.int .i64 M.kind)&&(dI 3 (.int .i64 M.start) (.int .i64 M.start)&&(dI 3 (strOf M.lead) (strOf M.lead)&&(dI 3 (.slice x y z) (.slice x y z)&&true)))):=rfl;have f:∀a:Int,dI 3 (.int .i64 a) (.int .i64 a)=true:=λa=>by simp[dI]
 have n:dI 3 (strOf M.lead) (strOf M.lead)=true:=by simp[dI,strOf]
 rw[e,f,f,n,h];rfl
def pG(X:bp):List dA->List dA
 |[]=>[]
 |a::r=>⟨a.f,a.arcs++[⟨0,0,X.lead,((r.length+1:Nat):Int)+X.start⟩]⟩::(r++X.af.map (lT (r.length+1) none))
def ft(A B:bp):bp:=⟨A.kind,0,dz A.kind,pG B (pG A [⟨[],[]⟩])⟩
def wX(A B:bp):bp×Int:=if qy A B=0 then(ft A B,0)else(wa,qy A B)
theorem K3(X:bp)(a:List dA)(h:a≠[]):(pG X a).length=a.length+X.af.length/\cg (pG X a)<=cg a+cg X.af+X.af.length+1/\pG X a≠[]:=by
 cases a with
 |nil=>exact absurd rfl h
 |cons b r=>
  have:=lU (r.length+1) none X.af;refine⟨by unfold pG;simp;omega,?_,by unfold pG;simp⟩;unfold pG;rw[df,dZ,df];simp only[length_append,List.length_singleton];omega
theorem ad7(A B:bp)(x x':Option Addr)(y z y' z':Nat):aG SS.P 86 2 [(0,.agg ⟨bE A x y z⟩),(1,.agg ⟨bE B x' y' z'⟩)]=some (.cells (bE A x y z++bE B x' y' z') 29 4 true,mN 2 2):=by cases x<;>cases x'<;>kernel_rfl
theorem aa4(k:Nat):aA SS.P 86 (sA k 2 2) (iA 0)=some (.pointer (some ⟨k,0,none⟩)):=by kernel_rfl
theorem aa5(k:Nat):aA SS.P 86 (sA k 2 2) (iA 1)=some (.pointer (some ⟨k,4,none⟩)):=by kernel_rfl
theorem NS{A B:bp}(h:qy A B=0):bT A=true/\bT B=true/\A.kind=B.kind:=by
 unfold qy at h;split at h
 ·next c=>
  rw[and_eq_true]at c;split at h
  ·next e=>exact⟨c.1,c.2,e⟩
  ·cases h
 ·cases h
section
variable {h:ae} {A B:bp} {x x':Option Addr} {y z y' z':Nat}
theorem FJ(w:Wf h)(tb:nP h)(sa:Small A)(sb:Small B)(ra:dm h (.slice x y z) A.af)(rb:dm h (.slice x' y' z') B.af):FW SS 25 [.agg ⟨bE A x y z⟩,.agg ⟨bE B x' y' z'⟩] h (BH h (wX A B)):=by
 obtain⟨ma,H⟩:=eJ w ra;obtain⟨mb,M⟩:=eJ H.wf (rb.ok H);have n3:h.next<=((h.push (Bm A x y z)).push (Bm B x' y' z')).next:=(H.trans M).nx;have o3:=(Ok.refl M.wf).push mS;have kb:=aN ((h.push (Bm A x y z)).push (Bm B x' y' z')) mS;have ok:=(H.trans M).trans o3;have G:=(ma.ok M).ok o3;have F:=mb.ok o3;refine Ph _ _ h _ ⟨_,gL A x y z,_,gL B x' y' z',_,qJ,_,G.all,_,F.all,(NR ok.wf (tb.ok ok) sa sb G.row F.row).mono ?_⟩;generalize y9:(h.push (Bm A x y z)).next=k2 at*;generalize ((h.push (Bm A x y z)).push (Bm B x' y' z')).next=kr at*;generalize (((h.push (Bm A x y z)).push (Bm B x' y' z')).push mS)=g3 at*;rintro _ K ⟨rfl,c⟩;have S:=ok.trans c;have E:=G.ok c;have V:=F.ok c;have N:=c.ext _ _ kb;unfold wX;refine⟨_,rfl,aa (λq=>?_) (λq=>⟨_,dt _,_,E.l0,(mB A.kind c.wf).mono ?_⟩)⟩
 ·have q:qy A B≠0:=by simpa using q
  rw[if_neg q];exact iw w S N n3 _
 have q:qy A B=0:=by simpa using q
 rw[if_pos q];obtain⟨vA,vB,y8⟩:=NS q;have Z:=od sa vA;have cB:=od sb vB;rintro _ g5 ⟨k,rfl,b5⟩;refine⟨_,rfl,(iy c.wf b5 (by simp) []).mono ?_⟩;rintro _ g6 ⟨rfl,J,z3⟩;have x4:=E.ok J.ok;have y7:=V.ok J.ok;have o7:=(Ok.refl J.ok.wf).push (.cells (bE A x y z++bE B x' y' z') 29 4 true);have b7:=J.qC o7;have x5:=aN g6 (.cells (bE A x y z++bE B x' y' z') 29 4 true);refine⟨_,rfl,_,x4.all,_,y7.all,_,_,_,ad7 A B x x' y z y' z',?_⟩;generalize g6.push (.cells (bE A x y z++bE B x' y' z') 29 4 true)=g7 at*;generalize g6.next=W at*;have hU:∀i,∃U:List dA,(i=0->U=[⟨[],[]⟩])/\(i=1->U=pG A [⟨[],[]⟩])/\(i=2->U=pG B (pG A [⟨[],[]⟩])):=λi=>by
  by_cases h0:i=0
  ·exact⟨_,λ_=>rfl,λe=>by omega,λe=>by omega⟩
  by_cases h1:i=1
  ·exact⟨_,λe=>by omega,λ_=>rfl,λe=>by omega⟩
  ·exact⟨_,λe=>by omega,λe=>by omega,λ_=>rfl⟩
 obtain⟨O,z4,x6⟩:=K3 A [⟨[],[]⟩] (by simp);obtain⟨x7,z0,z5⟩:=K3 B _ x6;have y5:cg ([⟨[],[]⟩]:List dA)=0:=rfl;have:=Z.n;have:=cB.n;have:=Z.s;have:=cB.s;refine xw (bE A x y z) (bE B x' y' z') kr k 0 W 2 2 (λv i g=>i<=2/\v=2-i/\(∃a r,BS K g k A.kind 0 (dz A.kind) (a::r)/\(i=0->a::r=[⟨[],[]⟩])/\(i=1->a::r=pG A [⟨[],[]⟩])/\(i=2->a::r=pG B (pG A [⟨[],[]⟩])))/\Kp g7 g) _ (λv i=>?_) 2 (i:=0) ⟨by omega,rfl,⟨⟨[],[]⟩,[],b7,λ_=>rfl,λe=>by omega,λe=>by omega⟩,Kp.refl _⟩;intros;rename_i g x3;obtain⟨f1,f2,⟨a,r,b,u0,u1,u2⟩,kp⟩:=x3;refine aa (λp=>?_) (λp=>?_)
 ·have hi:i=0\/i=1:=by have:=dT p;omega
  have kl:=kp.2 _ _ _ _ _ x5 (by decide) (by decide) (by decide);have step:∀(X:bp)(f:Option Addr)(l j:Nat),dm K (.slice f l j) X.af->R8 X->(a::r).length<=1000->cg (a::r)<=10000->(∀o u,o::u=pG X (a::r)->(i+1=0->o::u=[⟨[],[]⟩])/\(i+1=1->o::u=pG A [⟨[],[]⟩])/\(i+1=2->o::u=pG B (pG A [⟨[],[]⟩])))->
    xN (br SS.P 29) g λz7 P=>xU (ah SS.P 29 (pA (g.next)) (.agg ⟨bE X f l j⟩) P) P λz2 D=>xP (aE SS.P 29 (pA (g.next)) 2) λR=>xS (aj SS.P 9 (room D 8) (.pointer (some R))) λm=>xA (aj SS.P 29 (room D 8) (pA (g.next))) λx8=>FW SS 59 [(pA k),(.agg ⟨x8⟩),(.func (.func 60) ⟨[]⟩ ⟨[]⟩)] (room D 8) λy3 T=>yI .i64 y3 λy0=>FW SS 58 [(pA k),(iA 0),(strOf m),(.int .i64 y0)] T λy1 y6=>y1=(.tuple ⟨[]⟩)/\(aj SS.P 9 T (.pointer (some R))=some (strOf m)/\dI 4 (strOf m) (strOf m)=true)/\aJ (fm (lR kr k 0 W 2 2) (λv i g=>i<=2/\v=2-i/\(∃a r,BS K g k A.kind 0 (dz A.kind) (a::r)/\(i=0->a::r=[⟨[],[]⟩])/\(i=1->a::r=pG A [⟨[],[]⟩])/\(i=2->a::r=pG B (pG A [⟨[],[]⟩])))/\Kp g7 g)) v [(pA kr),(pA k),(iA 0),(sA W 2 2),(iA 2),(.int .i64 (wrap .i64 ((i:Int)+1)))] y6:=by
   intro X f l j rX L hl hs I;obtain⟨o8,k8⟩:=pn (t:=29) (cs:=bE X f l j) b.ok.wf ((Ok.refl b.ok.wf).push mS) (aN g mS) (Nat.le_refl _);have b8:=b.qC o8;have z1:=k8;refine⟨_,qJ,_,kV (t:=29) ur (cs0:=[.int .i64 0,.int .i64 0,strOf [],.slice none 0 0]) rfl (aN g mS) (cs:=bE X f l j) rfl (uO ..),?_⟩;generalize (dS.set g.next (.cells (bE X f l j) 29 0 true)).app (g.push mS)=g8 at*;have or:=(Ok.refl b8.ok.wf).room 8;have b9:=b8.qC or;have Y:MB (Go.Ab.room g8 8) g.next X f l j:=⟨k8,rX.ok b9.ok⟩
   have:=L.n;have:=L.s;refine⟨_,mE _,_,Y.l2,_,Y.all,(qK c.wf b9 rX (mn.jA k _) (by omega) (by omega) L.start L.to).mono ?_⟩;rintro _ y2 ⟨rfl,Q,C⟩;have x1:MB y2 g.next X f l j:=⟨C.2 _ _ _ _ _ Y.box (by decide) (by decide) (by decide),rX.ok Q.ok⟩
   have z6:=lU (a::r).length none X.af;refine⟨_,rfl,(BT c.wf Q (s:=0) (t:=a) rfl (by rw[dZ];omega) X.lead (((a::r).length:Int)+X.start)).mono ?_⟩;rintro _ x9 ⟨rfl,x2,x0⟩;rw[aO (i:=i) (n:=2) (by omega) (by omega)];have y4:BS K x9 k A.kind 0 (dz A.kind) (⟨a.f,a.arcs++[⟨0,0,X.lead,((r.length+1:Nat):Int)+X.start⟩]⟩::(r++X.af.map (lT (r.length+1) none))):=x2;refine⟨rfl,⟨x1.l2,kM _⟩,cd (2-(i+1)) (by omega) ⟨by omega,rfl,⟨⟨a.f,a.arcs++[⟨0,0,X.lead,((r.length+1:Nat):Int)+X.start⟩]⟩,r++X.af.map (lT (r.length+1) none),y4,I _ _ rfl⟩,(((kp.trans (Mw o8)).trans (Mw or)).trans C).trans x0⟩⟩
  rcases hi with rfl|rfl
  ·have d:=u0 rfl;have ld:=pe Nr LG ur kl (i:=0) (by simp[bE]);refine⟨_,aa4 _,_,ld,step A x y z E.row Z (by rw[d];simp) (by rw[d];simp[y5]) λo u e=>⟨λe=>by omega,λ_=>by rw[e,d],λe=>by omega⟩⟩
  ·have d:=u1 rfl;have ld:=pe Nr LG ur kl (i:=4) (by simp[bE]);refine⟨_,aa5 _,_,ld,step B x' y' z' V.row cB (by rw[d,O];simp;omega) (by rw[d];omega) λo u e=>⟨λe=>by omega,λe=>by omega,λ_=>by rw[e,d]⟩⟩
 ·obtain rfl:i=2:=by have:=dF p;omega
  have d:=u2 rfl;rw[d]at b;exact o0 w c.wf b (by rw[x7,O];simp;omega) (by omega) S N n3
end
end
variable{s:List UInt8}
section
def BV(A B:bp)(c:List UInt8):bp:=⟨A.kind,(B.af.length:Int)+A.start,c,B.af.map (lT 0 none)++A.af.map (lT B.af.length (some (((0:Nat):Int)+B.start)))⟩
def BW(A B:bp)(c:List UInt8):bp×Int:=if qy A B=0 then(BV A B c,0)else(wa,qy A B)
def um(A:bp):bp:=⟨A.kind,0,dz A.kind,⟨dz A.kind,[⟨0,0,A.lead,((1:Nat):Int)+A.start⟩]⟩::A.af.map (lT 1 (some ((0:Nat):Int)))⟩
def GD(A:bp):bp×Int:=if bT A=true then(um A,0)else(wa,1)
def M8(A:bp)(c:List UInt8):bp:=⟨A.kind,((0:Nat):Int)+A.start,c,A.af.map (lT 0 none)⟩
def Ib(A:bp)(a c:List UInt8):bp×Int:=if(bT A&&bN A.kind a)=true then(M8 A c,0)else(wa,1)
section
variable {h:ae} {A B:bp} {x x':Option Addr} {y z y' z':Nat} {c:List UInt8}
theorem LN(w:Wf h)(R:nP h)(N:Small A)(V:Small B)(ra:dm h (.slice x y z) A.af)(rb:dm h (.slice x' y' z') B.af)(F:qy A B=0->dq A.kind A.lead B.lead=some c):FW SS 31 [.agg ⟨bE A x y z⟩,.agg ⟨bE B x' y' z'⟩] h (BH h (BW A B c)):=by
 obtain⟨ma,l⟩:=eJ w ra;obtain⟨mb,r⟩:=eJ l.wf (rb.ok l);have J:h.next<=((h.push (Bm A x y z)).push (Bm B x' y' z')).next:=(l.trans r).nx;have D:=(Ok.refl r.wf).push mS;have kb:=aN ((h.push (Bm A x y z)).push (Bm B x' y' z')) mS;have E:=(l.trans r).trans D;have i:=(ma.ok r).ok D;have f:=mb.ok D;refine LK _ _ h _ ⟨_,gL A x y z,_,gL B x' y' z',_,qJ,_,i.all,_,f.all,(NR E.wf (R.ok E) N V i.row f.row).mono ?_⟩;generalize x2:(h.push (Bm A x y z)).next=k2 at*;generalize ((h.push (Bm A x y z)).push (Bm B x' y' z')).next=kr at*;generalize (((h.push (Bm A x y z)).push (Bm B x' y' z')).push mS)=g3 at*;rintro _ g4 ⟨rfl,a⟩;have g:=E.trans a;have b:=i.ok a;have j:=f.ok a;have s:=a.ext _ _ kb;unfold BW;refine⟨_,rfl,aa (λq=>?_) (λq=>⟨_,dt _,_,b.l0,(mB A.kind a.wf).mono ?_⟩)⟩
 ·have q:qy A B≠0:=by simpa using q
  rw[if_neg q];exact iw w g s J _
 have q:qy A B=0:=by simpa using q
 rw[if_pos q];have F:=F q;obtain⟨O,W,p⟩:=NS q;have m:=od N O;have n:=od V W;have Q:=tN O;have L:=tN W;have Z:aM A.kind B.lead=true:=by rw[p];exact L.lead
 rintro _ g5 ⟨k,rfl,o⟩;have T:=b.ok o.ok;have K:=j.ok o.ok;refine⟨_,rfl,_,mE _,_,T.l2,_,mE _,_,K.l2,(FI a.wf (R.ok g) o Q.lead Z F).mono ?_⟩;rintro _ g6 ⟨rfl,o6⟩;have b6:=o.qC o6;obtain⟨u7,P,S,x3⟩:=b6.Ig a.wf c;have X:=j.ok S.ok;have:=m.n;have:=n.n;have:=m.s;have:=n.s;refine⟨_,rfl,lE ⟨_,kn k,_,mE k,u7,P,_,X.all,(qK a.wf S j.row (mn.jA k _) (by simp;omega) (by simp[cg];unfold cg at*;omega) n.start n.to).mono ?_⟩⟩;rintro _ g8 ⟨rfl,M,x4⟩;have or:=(Ok.refl M.ok.wf).room 11;have C:=M.qC or;have H:=b.ok C.ok;have x5:=lU 0 none B.af;have d:(([]:List dA)++B.af.map (lT ([]:List dA).length none)).length=B.af.length:=by simp
 refine⟨_,rfl,_,H.all,(CL (k:=k) C.ok.wf _).mono ?_⟩;rintro _ x7 ⟨fc,rfl,lv,G⟩;have t:=C.qC G;have v:=b.ok t.ok;refine⟨_,_,_,rfl,(qK a.wf t b.row lv (by rw[d];omega) (by show cg (B.af.map (lT 0 none))+_+_<=_;omega) m.start m.to).mono ?_⟩;rintro _ x6 ⟨rfl,I,x0⟩;have x8:=lU B.af.length (some (((0:Nat):Int)+B.start)) A.af;obtain⟨Y,u,U,x1⟩:=I.KP a.wf ((([]++B.af.map (lT ([]:List dA).length none)).length:Int)+A.start);refine⟨_,rfl,lE ⟨_,kn k,_,tG k,Y,u,⟨v.all,Ec b.row⟩,?_⟩⟩;have e:BV A B c=⟨A.kind,(([]++B.af.map (lT ([]:List dA).length none)).length:Int)+A.start,c,[]++B.af.map (lT ([]:List dA).length none)++A.af.map (lT ([]++B.af.map (lT ([]:List dA).length none)).length (some ((([]:List dA).length:Int)+B.start)))⟩:=by
  unfold BV;rw[d];rfl
 rw[e];refine o0 w a.wf U ?_ ?_ g s J
 ·rw[length_append,d,lM];omega
 ·rw[d,dZ];show cg (B.af.map (lT 0 none))+cg (A.af.map (lT B.af.length (some (((0:Nat):Int)+B.start))))<=_;omega
theorem Jf(w:Wf h)(N:nP h)(C:Small A)(M:dm h (.slice x y z) A.af):FW SS 33 [.agg ⟨bE A x y z⟩] h (BH h (GD A)):=by
 obtain⟨Q,j⟩:=eJ w M;have p:h.next<=(h.push (Bm A x y z)).next:=j.nx;have H:=(Ok.refl j.wf).push mS;have K:=aN (h.push (Bm A x y z)) mS;have m:=j.trans H;have c:=Q.ok H;refine SU _ h _ ⟨_,gL A x y z,_,qJ,_,c.all,(qN (N.ok m) m.wf C c.row).mono ?_⟩;generalize (h.push (Bm A x y z)).next=W at*;generalize (h.push (Bm A x y z)).push mS=g3 at*;rintro _ u ⟨rfl,b⟩;have i:=m.trans b;have a:=c.ok b;have f:=b.ext _ _ K;unfold GD;refine⟨_,rfl,aa (λq=>?_) (λq=>⟨_,dt _,_,a.l0,(mB A.kind b.wf).mono ?_⟩)⟩
 ·rw[not_eq_true']at q;rw[q,if_neg (by simp)];exact iw w i f p _
 rw[not_eq_false']at q;rw[if_pos q];have d:=od C q;have:=d.n;have:=d.s;rintro _ Z ⟨k,rfl,E⟩;refine⟨_,rfl,lE ⟨_,zU k,_,E.one,(iy b.wf E (by simp) _).mono ?_⟩⟩;rintro _ X ⟨rfl,r,S⟩;have R:=(Ok.refl r.ok.wf).room 11;have l:=r.qC R;have g:=a.ok l.ok;refine⟨_,rfl,_,mE _,_,g.l2,_,g.all,(CL (k:=k) l.ok.wf _).mono ?_⟩;rintro _ V ⟨Y,rfl,L,J⟩;have B:=l.qC J;have e:=a.ok B.ok;have O:cg ([]++[(⟨dz A.kind,[]⟩:dA)])=0:=rfl;refine⟨_,_,_,rfl,(qK b.wf B a.row L (by simp;omega) (by rw[O];omega) d.start d.to).mono ?_⟩;rintro _ P ⟨rfl,D,T⟩;have n:=a.ok D.ok;have U:=lU 1 (some ((0:Nat):Int)) A.af;have v:BS u P k A.kind 0 (dz A.kind) (⟨dz A.kind,[]⟩::A.af.map (lT 1 (some ((0:Nat):Int)))):=D;refine⟨_,rfl,(BT b.wf v (s:=0) (t:=⟨dz A.kind,[]⟩) rfl (by rw[df];show 0+_<=_;omega) A.lead (((1:Nat):Int)+A.start)).mono ?_⟩;rintro _ G ⟨rfl,F,I⟩;have o:BS u G k A.kind 0 (dz A.kind) (⟨dz A.kind,[⟨0,0,A.lead,((1:Nat):Int)+A.start⟩]⟩::A.af.map (lT 1 (some ((0:Nat):Int)))):=F;refine⟨rfl,⟨e.l2,kM _⟩,⟨n.l2,kM _⟩,⟨e.all,Ec a.row⟩,o0 w b.wf o (by rw[length_cons,lM];omega) (by rw[df];show 1+_<=_;omega) i f p⟩
theorem Pc(w:Wf h)(u:nP h)(G:Small A)(P:s.length<=1000000000)(Q:dm h (.slice x y z) A.af)(C:bT A=true->bN A.kind s=true->dq A.kind s A.lead=some c):FW SS 37 [.agg ⟨bE A x y z⟩,strOf s] h (BH h (Ib A s c)):=by
 obtain⟨T,p⟩:=eJ w Q;have r:h.next<=(h.push (Bm A x y z)).next:=p.nx;have K:=(Ok.refl p.wf).push mS;have O:=aN (h.push (Bm A x y z)) mS;have B:=p.trans K;have i:=T.ok K;refine Pb _ s h _ ⟨_,gL A x y z,_,qJ,_,i.all,(qN (u.ok B) B.wf G i.row).mono ?_⟩;generalize (h.push (Bm A x y z)).next=kr at*;generalize (h.push (Bm A x y z)).push mS=g3 at*;rintro _ Y ⟨rfl,l⟩;have g:=B.trans l;have n:=i.ok l;have o:=l.ext _ _ O;unfold Ib;refine⟨_,rfl,aa (λq=>?_) (λq=>⟨_,dt _,_,n.l0,(mf A.kind s P (u.ok g) l.wf).mono ?_⟩)⟩
 ·rw[not_eq_true']at q;rw[q,if_neg (by simp)];exact iw w g o r _
 rw[not_eq_false']at q;rintro _ g5 ⟨rfl,a⟩;have f:=g.trans a;have d:=n.ok a;have m:=a.ext _ _ o;refine⟨_,rfl,aa (λb=>?_) (λb=>⟨_,dt _,_,d.l0,(mB A.kind a.wf).mono ?_⟩)⟩
 ·rw[not_eq_true']at b;rw[b,if_neg (by simp)];exact iw w f m r _
 rw[not_eq_false']at b;rw[q,b,if_pos (show(true&&true)=true from rfl)];have C:=C q b;have j:=od G q;have I:=tN q;have:=j.n;have:=j.s;rintro _ g6 ⟨k,rfl,t⟩;have E:=d.ok t.ok;refine⟨_,rfl,_,mE _,_,E.l2,(FI a.wf (u.ok f) t (sH b) I.lead C).mono ?_⟩;rintro _ Z ⟨rfl,U⟩;have S:=t.qC U;obtain⟨N,L,F,V⟩:=S.Ig a.wf c;have D:=d.ok F.ok;refine⟨_,rfl,lE ⟨_,kn k,_,mE k,N,L,_,D.all,(qK a.wf F d.row (mn.jA k _) (by simp;omega) (by simp[cg];unfold cg at*;omega) j.start j.to).mono ?_⟩⟩;rintro _ g9 ⟨rfl,R,W⟩;have X:=lU 0 none A.af;obtain⟨H,v,J,M⟩:=R.KP a.wf ((([]:List dA).length:Int)+A.start);refine⟨_,rfl,lE ⟨_,kn k,_,tG k,H,v,?_⟩⟩;have e:M8 A c=⟨A.kind,(([]:List dA).length:Int)+A.start,c,[]++A.af.map (lT ([]:List dA).length none)⟩:=rfl;rw[e];refine o0 w a.wf J ?_ ?_ f m r
 ·rw[length_append,lM];simp;omega
 ·show cg (A.af.map (lT 0 none))<=_;omega
end
end
section
def me(A:bp)(n:Int)(m i:Nat):List dA:=(List.range (m+1)).map λ(j:Nat)=>⟨if(j:Int)>=n then dz A.kind else[],if j<i then[⟨0,0,A.lead,((m+1+j*A.af.length:Nat):Int)+A.start⟩]else[]⟩
def pv(A:bp)(m i:Nat):List dA:=(List.range i).flatMap λ(j:Nat)=>A.af.map (lT (m+1+j*A.af.length) (some ((j+1:Nat):Int)))
def adi(A:bp)(n:Int)(m:Nat):bp:=⟨A.kind,0,dz A.kind,me A n m m++pv A m m⟩
def YV(A:bp)(n a:Int):bp×Int:=if bT A=true/\0<=n/\n<=a/\a<=30 then(adi A n a.toNat,0)else(wa,1)
section
variable {A:bp} {n:Int} {m i:Nat}
theorem qR:(me A n m i).length=m+1:=by unfold me;simp
theorem wT:pv A m (i+1)=pv A m i++A.af.map (lT (m+1+i*A.af.length) (some ((i+1:Nat):Int))):=by
 unfold pv;rw[range_succ,List.flatMap_append];simp
theorem Gp:∀i,(pv A m i).length=i*A.af.length
 |0=>by simp[pv]
 |i+1=>by rw[wT,length_append,Gp i,lM,Nat.add_mul,Nat.one_mul]
theorem Gq:∀i,cg (pv A m i)<=i*(cg A.af+A.af.length)
 |0=>by simp[pv,cg]
 |i+1=>by
  have:=lU (m+1+i*A.af.length) (some ((i+1:Nat):Int)) A.af;have a:=Gq i;rw[wT,dZ,Nat.add_mul,Nat.one_mul];omega
theorem D7:∀{l:List dA},(∀s∈l,s.arcs.length<=1)->cg l<=l.length
 |[],_=>Nat.le_refl _
 |s::l,h=>by
  have b:=h s (List.mem_cons_self ..);have:=D7 (l:=l) λt a=>h t (List.mem_cons_of_mem _ a);rw[df,length_cons];omega
theorem Ri:cg (me A n m i)<=m+1:=by
 have:=D7 (l:=me A n m i) λs a=>by
  unfold me at a;obtain⟨j,_,rfl⟩:=mem_map.1 a;show(if j<i then _ else _:List gN).length<=1;split<;>simp
 rw[qR]at this;exact this
theorem Vd(a:i<m+1):(me A n m i)[i]?=some ⟨if(i:Int)>=n then dz A.kind else[],[]⟩:=by
 unfold me;rw[getElem?_map,List.getElem?_range a,Option.map_some,if_neg (Nat.lt_irrefl i)]
theorem Rh(b:i<m+1):(me A n m i).set i ⟨if(i:Int)>=n then dz A.kind else[],[⟨0,0,A.lead,((m+1+i*A.af.length:Nat):Int)+A.start⟩]⟩=me A n m (i+1):=by
 have a:∀i j,(me A n m i)[j]?=if j<m+1 then some ⟨if(j:Int)>=n then dz A.kind else[],if j<i then[⟨0,0,A.lead,((m+1+j*A.af.length:Nat):Int)+A.start⟩]else[]⟩else none:=λi j=>by
  unfold me;rw[getElem?_map];split
  ·next h=>rw[List.getElem?_range h];rfl
  ·next h=>rw[List.getElem?_eq_none (by simp;omega)];rfl
 refine List.ext_getElem? λj=>?_;rw[List.getElem?_set,a,a,qR];by_cases e:i=j
 ·subst e;rw[if_pos rfl,if_pos b,if_pos b,if_pos (lt_succ_self i)]
 ·rw[if_neg e];by_cases q:j<i
  ·rw[if_pos q,if_pos (show j<i+1 by omega)]
  ·rw[if_neg q,if_neg (show ¬j<i+1 by omega)]
theorem LP{x:Option Addr}{z:Nat}{d:Int}(w:Wf h)(tb:nP h)(W:Small A)(h8:A.af.length<=8)(x9:cg A.af<=40)(ra:dm h (.slice x l z) A.af):FW SS 35 [.agg ⟨bE A x l z⟩,.int .i64 n,.int .i64 d] h (BH h (YV A n d)):=by
 obtain⟨ma,L⟩:=eJ w ra;have B:h.next<=(h.push (Bm A x l z)).next:=L.nx;have Y:=(Ok.refl L.wf).push mS;have kb:=aN (h.push (Bm A x l z)) mS;have P:=L.trans Y;have E:=ma.ok Y;refine LO _ n d h _ ⟨_,gL A x l z,_,qJ,_,E.all,(qN (tb.ok P) P.wf W E.row).mono ?_⟩;generalize (h.push (Bm A x l z)).next=V at*;generalize (h.push (Bm A x l z)).push mS=g3 at*;rintro _ S ⟨rfl,r⟩;have t:=P.trans r;have a:=E.ok r;have s:=r.ext _ _ kb;unfold YV;refine⟨_,rfl,aa (λq=>?_) (λq=>aa (λG=>?_) (λG=>aa (λF=>?_) (λF=>aa (λH=>?_) (λH=>?_))))⟩
 ·rw[not_eq_true']at q;rw[if_neg (λc=>by rw[c.1]at q;cases q)];exact iw w t s B _
 ·rw[if_neg (λc=>by have:=dT G;omega)];exact iw w t s B _
 ·rw[if_neg (λc=>by have:=dT F;omega)];exact iw w t s B _
 ·rw[if_neg (λc=>by have:=dT H;omega)];exact iw w t s B _
 rw[not_eq_false']at q;have G:=dF G;have F:=dF F;have H:=dF H;rw[if_pos ⟨q,by omega,by omega,by omega⟩];have T:=od W q;obtain⟨m,hm,x0⟩:∃m:Nat,d=m/\m<=30:=⟨d.toNat,by omega,by omega⟩
 subst hm;have em:((m:Int)).toNat=m:=by omega
 rw[em];refine⟨_,dt _,_,a.l0,(mB A.kind r.wf).mono ?_⟩;rintro _ g5 ⟨k,rfl,b5⟩;rw[La m (by omega)];refine⟨_,rfl,?_⟩;refine wB (bE A x l z) n m h.next V k ((m+1:Nat):Int) (λy i g=>i<=m+1/\y=m+1-i/\BS S g k A.kind 0 (dz A.kind) ((List.range i).map λ(j:Nat)=>⟨if(j:Int)>=n then dz A.kind else[],[]⟩)) _ (λy i=>?_) (m+1) (i:=0) ⟨by omega,rfl,b5⟩;intros;rename_i g v;obtain⟨f1,f2,b⟩:=v;refine aa (λp=>?_) (λp=>?_)
 ·have u:i<m+1:=by have:=dT p;omega
  have X:∀f:List UInt8,f=(if(i:Int)>=n then dz A.kind else[])->((List.range i).map λ(j:Nat)=>(⟨if(j:Int)>=n then dz A.kind else[],[]⟩:dA))++[⟨f,[]⟩]=(List.range (i+1)).map λ(j:Nat)=>(⟨if(j:Int)>=n then dz A.kind else[],[]⟩:dA):=λf hf=>by
   rw[range_succ,map_append,hf];rfl
  have J:((List.range i).map λ(j:Nat)=>(⟨if(j:Int)>=n then dz A.kind else[],[]⟩:dA)).length<=100000:=by simp;omega
  rw[aO u (by omega)];refine aa (λM=>⟨_,zU k,_,b.one,(iy r.wf b J _).mono ?_⟩) (λM=>(iy r.wf b J _).mono ?_)
  ·rintro _ g6 ⟨rfl,C,_⟩;rw[X _ (by rw[if_pos (dT M)])]at C;exact⟨_,rfl,cd (m+1-(i+1)) (by omega) ⟨by omega,rfl,C⟩⟩
  ·rintro _ g6 ⟨rfl,C,_⟩;rw[X _ (by rw[if_neg (dF M)])]at C;exact⟨_,rfl,cd (m+1-(i+1)) (by omega) ⟨by omega,rfl,C⟩⟩
 have u:i=m+1:=by have:=dF p;omega
 subst u;have e0:((List.range (m+1)).map λ(j:Nat)=>(⟨if(j:Int)>=n then dz A.kind else[],[]⟩:dA))=me A n m 0++pv A m 0:=by
  have:pv A m 0=[]:=rfl;rw[this,append_nil];unfold me;refine List.map_congr_left λj _=>?_;rw[if_neg (Nat.not_lt_zero j)]
 rw[e0]at b;have x8:=a.ok b.ok;refine wC (bE A x l z) n m h.next V k (λy i g=>i<=m/\y=m-i/\BS S g k A.kind 0 (dz A.kind) (me A n m i++pv A m i)) _ (λy i=>?_) m (i:=0) ⟨by omega,rfl,b⟩;intros;rename_i g1 v;obtain⟨d1,d2,O⟩:=v;have o:(me A n m i++pv A m i).length=m+1+i*A.af.length:=by rw[length_append,qR,Gp]
 have x3:=Gq (A:=A) (m:=m) i;have x2:=Ri (A:=A) (n:=n) (m:=m) (i:=i);have x4:i*A.af.length<=30*8:=Nat.mul_le_mul (by omega) h8;have x1:i*(cg A.af+A.af.length)<=30*48:=Nat.mul_le_mul (by omega) (by omega);refine aa (λp=>?_) (λp=>?_)
 ·have u:i<m:=by have:=dT p;omega
  have or:=(Ok.refl O.ok.wf).room 12;have Q:=O.qC or;have D:=a.ok Q.ok;rw[aO u (by omega)];refine⟨_,mE _,_,D.l2,_,D.all,(CL (k:=k) Q.ok.wf _).mono ?_⟩;rintro _ g8 ⟨fc,rfl,lv,o8⟩;have U:=Q.qC o8;have I:=a.ok U.ok;refine⟨_,_,_,rfl,(qK r.wf U a.row lv (by rw[o];omega) (by rw[dZ];omega) T.start T.to).mono ?_⟩;rintro _ g9 ⟨rfl,N,x5⟩;have R:=a.ok N.ok;rw[o]at N;have hs:(me A n m i++pv A m i++A.af.map (lT (m+1+i*A.af.length) (some ((i+1:Nat):Int))))[i]?=some (⟨if(i:Int)>=n then dz A.kind else[],[]⟩:dA):=by
   rw[append_assoc,List.getElem?_append_left (by rw[qR];omega)];exact Vd (by omega)
  have x6:=lU (m+1+i*A.af.length) (some ((i+1:Nat):Int)) A.af;rw[o];refine⟨_,rfl,(BT r.wf N hs (by rw[dZ,dZ];omega) A.lead _).mono ?_⟩;rintro _ x7 ⟨rfl,K,Z⟩;have e:(me A n m i++pv A m i++A.af.map (lT (m+1+i*A.af.length) (some ((i+1:Nat):Int)))).set i (⟨if(i:Int)>=n then dz A.kind else[],[]++[⟨0,0,A.lead,((m+1+i*A.af.length:Nat):Int)+A.start⟩]⟩:dA)=me A n m (i+1)++pv A m (i+1):=by
   rw[append_assoc,List.set_append_left _ _ (by rw[qR];omega),wT,<-Rh (show i<m+1 by omega)];rfl
  rw[e]at K;exact⟨rfl,⟨I.l2,kM _⟩,⟨R.l2,kM _⟩,⟨I.all,Ec a.row⟩,cd (m-(i+1)) (by omega) ⟨by omega,rfl,K⟩⟩
 ·have u:i=m:=by have:=dF p;omega
  subst u;exact o0 w r.wf O (by rw[o];omega) (by rw[dZ];omega) t s B
end
end
variable{w:Value}{Q:VH}
noncomputable def abK:FD:=cI Tryz.f54 []
theorem Zr(a:OA)(n c:Nat)(h:ae)(Q:VH)(b:xN (ew SS.P 22 (.slice a n c)) h λ_ a=>Q (.func (.func 82) ⟨[]⟩ ⟨[(pA (h.next))]⟩) a):FW SS 54 [(.slice a n c)] h Q:=cN abK Tryz.func54 (ai b)
noncomputable def wY:FD:=cI Tryz.f82 [([1,0,0],[0,5,6,7])]
abbrev sF(b:Nat)(a:OA)(n c:Nat)(i:Nat):LV:=[(.func (.yield b) ⟨[]⟩ ⟨[]⟩),(.slice a n c),(iA n),(iA i)]
theorem Zo(e d:Nat)(h:ae)(Q:VH)(f:xL (aj SS.P 22 h (pA d)) λa b c=>LL SS wY [1,0,0] [(.func (.yield e) ⟨[]⟩ ⟨[]⟩),(.slice a b c),(iA b),(.int .i64 0)] h (KK SS wY [1,0] [] (EE SS wY Q))):FW SS 82 [(.func (.yield e) ⟨[]⟩ ⟨[]⟩),(pA d)] h Q:=cN wY Tryz.func82 (ai f)
theorem BK(l p:Nat)(a:OA)(n c:Nat)(k:Nat->Nat->ae->Prop)(Q:VH)(step:∀(j:Nat) (i:Nat) (o:Nat->Value) (h:ae),k j i h->au (decide (((i:Int):Int)<(n:Int))) (iP 22 (.slice a n c) (iA i) λg=>lI h g λf=>FW SS (YB+l) [(.int .i64 f)] h λd e=>yB d λb=>au (!b) (Q (.tuple ⟨[]⟩) e) (aJ (fm (sF l a n c) k) j [(.func (.yield l) ⟨[]⟩ ⟨[]⟩),(.slice a n c),(iA n),(.int .i64 (wrap .i64 ((i:Int)+1)))] e)) (Q (.tuple ⟨[]⟩) h))(j:Nat){i:Nat}{h:ae}(m:k j i h):LL SS wY [1,0,0] (sF l a n c i) h (KK SS wY [1,0] [] (EE SS wY Q)):=
 dg (sF l a n c) k (λj i o h m=>ai (step j i o h m)) j m
noncomputable def gp:FD:=cI Tryz.f99 []
theorem O6(a:OA)(n c:Nat)(d:Nat)(h:ae)(Q:VH)(e:xN (ew SS.P 22 (.slice a n c)) h λ_ b=>RG SS gp [1,0,1,0] [(.slice a n c),(.func (.func 82) ⟨[]⟩ ⟨[(pA d)]⟩),(pA (h.next)),undef,nA,undef,(.func (.func 82) ⟨[]⟩ ⟨[(pA d)]⟩),undef,undef,undef,undef,undef,undef] b (KK SS gp [1,0,1,0] [] (EE SS gp Q))):FW SS 99 [(.slice a n c),(.func (.func 82) ⟨[]⟩ ⟨[(pA d)]⟩)] h Q:=cN gp Tryz.func99 (ai e)
theorem ET{ks:Nat}{o m g i l j n e f d:Value}(k:xL (aj SS.P 22 h (pA ks)) λa b c=>Q (.slice a b c) h):(KK SS gp [1,0,1,0] [] (EE SS gp Q)) .normal [v,w,(pA ks),o,m,g,i,l,j,n,e,f,d] h:=ai k
theorem EP{ks:Nat}{q:Int}{i f j d e g b c a:Value}{Q:eT}(k:Q .normal [v,w,(pA ks),i,f,(.int .i64 q),d,(.int .i64 q),e,g,b,c,a] h):TT SS gp [1,0,1,0,0] [v,w,(pA ks),i,f,j,d,(.int .i64 q),e,g,b,c,a] h Q:=ai k
theorem ES{ks:Nat}{q:Int}{t p n o u y r s m:Value}{Q:eT}(x:xL (aj SS.P 22 h (pA ks)) λj k l=>xR (aG SS.P 22 1 [(0,(.int .i64 q))]) h λ_ f g i=>xE (bI SS.P 22 22 (.slice j k l) (sA (h.next) f g) i) i λb c d _ e=>xU (ah SS.P 22 (pA ks) (.slice b c d) e) e λ_ a=>Q .normal [v,w,(pA ks),t,p,(.int .i64 q),n,o,(.slice j k l),(.int .i64 q),(sA (h.next) f g),(.slice b c d),m] a):TT SS gp [1,0,1,0,1] [v,w,(pA ks),t,p,(.int .i64 q),n,o,u,y,r,s,m] h Q:=ai x
noncomputable def aaU:FD:=cI Tryz.f80 []
theorem XO(f:Nat)(h:ae)(Q:VH)(g:FW SS 99 [nA,(.func (.func 82) ⟨[]⟩ ⟨[(pA f)]⟩)] h λd e=>yL d λa b c=>Q (.slice a b c) e):FW SS 80 [(.func (.func 82) ⟨[]⟩ ⟨[(pA f)]⟩)] h Q:=cN aaU Tryz.func80 (ai g)
noncomputable def Za:FD:=cI Tryz.f53 []
theorem VF(i:Nat)(h:ae)(Q:VH)(j:FW SS 80 [(.func (.func 82) ⟨[]⟩ ⟨[(pA i)]⟩)] h λf g=>yL f λc d e=>FW SS 81 [(.slice c d e)] g λa b=>a=(.tuple ⟨[]⟩)/\Q (.slice c d e) b):FW SS 53 [(.func (.func 82) ⟨[]⟩ ⟨[(pA i)]⟩)] h Q:=cN Za Tryz.func53 (ai j)
noncomputable def fZ:FD:=cI Tryz.f52 [([1,1,0,1,0,0],[0,3]),([1,1,0,1,0,0,1,0,0,1,0,1,0,1,0,0],[0,3,4,5])]
abbrev iU(a:OA)(n c:Nat)(k:Nat):LV:=[(.slice a n c),(iA k)]
abbrev kE(a:OA)(n c:Nat)(b:OA)(m d:Nat)(k j:Nat):LV:=[(.slice a n c),(iA k),(.slice b m d),(iA j)]
theorem Jp(a:OA)(n c:Nat)(h:ae)(Q:VH)(b:au (decide (((n:Int):Int)<2)) (Q (.slice a n c) h) (LL SS fZ [1,1,0,1,0,0] (iU a n c 1) h (KK SS fZ [1,1,0,1,0] [] (EE SS fZ Q)))):FW SS 52 [(.slice a n c)] h Q:=cN fZ Tryz.func52 (ai b)
theorem zP(a:OA)(n c:Nat)  (l:Nat->Nat->ae->Prop) (Q:VH) (step:∀(m:Nat)(k:Nat)(p:Nat->Value)(h:ae),l m k h->au (decide (((k:Int):Int)<(n:Int))) (iP 22 (.slice a n c) (iA k) λj=>lI (room h 10) j λi=>iP 22 (.slice a n c) (.int .i64 (wrap .i64 ((k:Int)-1))) λg=>lI (room h 10) g λf=>au (((i:Int)==f)) (xL (bG SS.P 22 (.slice a n c) (some (iA k)) none none (room h 10)) λb d e=>LL SS fZ [1,1,0,1,0,0,1,0,0,1,0,1,0,1,0,0] (kE a n c b d e k 1) (room h 10) (KK SS fZ [1,0,0,1,0,1,0,1,0] [1,1,0,1,0,0] (RR fZ [1,1,0,1,0,0] (fm (iU a n c) l) m (KK SS fZ [1,1,0,1,0] [] (EE SS fZ Q))))) (aJ (fm (iU a n c) l) m [(.slice a n c),(.int .i64 (wrap .i64 ((k:Int)+1)))] (room h 10))) (Q (.slice a n c) h)) (m:Nat) {k:Nat} {h:ae} (o:l m k h):LL SS fZ [1,1,0,1,0,0] (iU a n c k) h (KK SS fZ [1,1,0,1,0] [] (EE SS fZ Q)):=
 dg (iU a n c) l (λm k p h o=>ai (step m k p h o)) m o
theorem zQ(a:OA)(n c:Nat)(t:OA)(m d:Nat)(v:Nat->Nat->ae->Prop)(w:Nat)(s:Nat->Nat->Nat->ae->Prop)(Q:VH)(step:∀(r:Nat) (k j:Nat) (q:Nat->Value) (h:ae),s r k j h->au (decide (((j:Int):Int)<(m:Int))) (iP 22 (.slice t m d) (iA j) λp=>lI (room h 10) p λo=>iP 22 (.slice t m d) (.int .i64 (wrap .i64 ((j:Int)-1))) λl=>lI (room h 10) l λi=>au (((o:Int) !=i)) (iP 22 (.slice t m d) (iA j) λg=>lI (room h 10) g λf=>iP 22 (.slice a n c) (iA k) λe=>xU (ah SS.P 3 (.pointer (some e)) (.int .i64 f) (room h 10)) (room h 10) λ_ b=>aJ (qX (kE a n c t m d) s) r [(.slice a n c),(.int .i64 (wrap .i64 ((k:Int)+1))),(.slice t m d),(.int .i64 (wrap .i64 ((j:Int)+1)))] b) (aJ (qX (kE a n c t m d) s) r [(.slice a n c),(iA k),(.slice t m d),(.int .i64 (wrap .i64 ((j:Int)+1)))] (room h 10))) (xL (bG SS.P 22 (.slice a n c) (some (iA k)) none none h) λe f g=>xG (dY SS.P jm (ev SS.gl [(.slice a n c),(q 1),(q 2),(iA k),(.slice t m d),(iA j),(q 6),(q 7),(q 8),(q 9),(q 10),(q 11),(q 12),(q 13),(q 14),(q 15),(q 16),(q 17),(q 18),(q 19),(q 20),(q 21),(q 22),(q 23),(q 24),(q 25),(q 26),(q 27),(q 28),(iA j),(.slice t m d),(iA m),(.bool (decide (((j:Int):Int)<(m:Int)))),(q 33),(q 34),(q 35),(q 36),(q 37),(q 38),(q 39),(q 40),(q 41),(q 42),(q 43),(q 44),(q 45),(q 46),(q 47),(q 48),(q 49),(q 50),(q 51),(q 52),(q 53),(.slice a n c),(iA k),(.slice e f g),(q 57),(q 58),(q 59),(q 60)]) (Kx (fM [1,1,0,1,0,0,1,0,0,1,0,1,1,0] fZ.body) 3) h) h λ_ _ d=>xL (bG SS.P 22 (.slice a n c) none (some (iA k)) none d) λa b c=>Q (.slice a b c) d))(r:Nat){k j:Nat}{h:ae}(u:s r k j h):LL SS fZ [1,1,0,1,0,0,1,0,0,1,0,1,0,1,0,0] (kE a n c t m d k j) h (KK SS fZ [1,0,0,1,0,1,0,1,0] [1,1,0,1,0,0] (RR fZ [1,1,0,1,0,0] (fm (iU a n c) v) w (KK SS fZ [1,1,0,1,0] [] (EE SS fZ Q)))):=
 nt (kE a n c t m d) s (λr k j q h u=>ai (step r k j q h u)) r u
noncomputable def wA:FD:=cI Tryz.f21 [([1,1,1,1,0,1,0,0],[4,6,7,8,35,36,37])]
abbrev rH(a k f t:Nat)(b:OA)(m d:Nat)(i:Nat):LV:=[(pA a),(pA k),(iA f),(iA t),(.slice b m d),(iA m),(iA i)]
theorem Xw(A:Int)(a:OA)(n c:Nat)(h:ae)(Q:VH)(G:xN (br SS.P 29) h λ_ B=>au (decide ((A:Int)<1)) (xA (ba SS.P 29 []) λb=>xU (ah SS.P 29 (pA (h.next)) (.agg ⟨b⟩) B) B λ_ a=>eh SS [((pA (h.next)),some 29),((.int .i64 1),none)] a Q) (au (decide ((A:Int)>3)) (xA (ba SS.P 29 []) λb=>xU (ah SS.P 29 (pA (h.next)) (.agg ⟨b⟩) B) B λ_ a=>eh SS [((pA (h.next)),some 29),((.int .i64 1),none)] a Q) (FW SS 49 [(.slice a n c),(.func (.func 50) ⟨[]⟩ ⟨[]⟩)] B λH C=>yB H λE=>au E (xA (ba SS.P 29 []) λb=>xU (ah SS.P 29 (pA (h.next)) (.agg ⟨b⟩) C) C λ_ a=>eh SS [((pA (h.next)),some 29),((.int .i64 1),none)] a Q) (FW SS 42 [(.int .i64 A)] C λF D=>yO F λz=>FW SS 43 [(.pointer z),(strOf [])] (room D 10) λx y=>yI .i64 x λw=>Ix SS.P z y λv _=>fP 65 v 1 λu=>lS y u λt=>FW SS 43 [(.pointer z),(strOf t)] y λr s=>yI .i64 r λq=>(aj SS.P 9 (room D 10) (.pointer (some u))=some (strOf t)/\dI 4 (strOf t) (strOf t)=true)/\FW SS 54 [(.slice a n c)] s λo p=>yF o λl m n=>FW SS 53 [(.func (.func l) ⟨m⟩ ⟨n⟩)] p λj k=>yL j λf g i=>FW SS 52 [(.slice f g i)] k λd e=>yL d λa b c=>LL SS wA [1,1,1,1,0,1,0,0] [(pA (h.next)),(.pointer z),(.int .i64 w),(.int .i64 q),(.slice a b c),(iA b),(.int .i64 0)] e (KK SS wA [1,1,1,1,0,1,0] [] (EE SS wA Q)))))):FW SS 21 [(.int .i64 A),(.slice a n c)] h Q:=cN wA Tryz.func21 (ai G)
theorem Bv(u:Int)(a:OA)(n c:Nat)(q k f t:Nat)(b:OA)(m d:Nat)(p:Nat->Nat->ae->Prop)(Q:VH)(step:∀(o:Nat) (i:Nat) (s:Nat->Value) (h:ae),p o i h->au (decide (((i:Int):Int)<(m:Int))) (iP 22 (.slice b m d) (iA i) λn=>lI h n λl=>fP 65 (pA k) 1 λj=>lS h j λg=>xA (ba SS.P 70 [(0,(.int .i64 l)),(1,(.int .i64 l)),(2,(strOf g)),(3,(iA t))]) λe=>FW SS 44 [(pA k),(iA f),(.agg ⟨e⟩)] h λa c=>a=(.tuple ⟨[]⟩)/\aJ (fm (rH q k f t b m d) p) o [(pA q),(pA k),(iA f),(iA t),(.slice b m d),(iA m),(.int .i64 (wrap .i64 ((i:Int)+1)))] c) (FW SS 46 [(pA k)] h λd e=>∃c:LV,∃b:Int,d=(.tuple ⟨[(.agg ⟨c⟩),(.int .i64 b)]⟩)/\xU (ah SS.P 29 (pA q) (.agg ⟨c⟩) e) e λ_ a=>eh SS [((pA q),some 29),((.int .i64 b),none)] a Q))(o:Nat){i:Nat}{h:ae}(r:p o i h):LL SS wA [1,1,1,1,0,1,0,0] (rH q k f t b m d i) h (KK SS wA [1,1,1,1,0,1,0] [] (EE SS wA Q)):=
 dg (rH q k f t b m d) p (λo i s h r=>ai (step o i s h r)) o r
section
def qp(z:Int):List Value:=[zV z]
theorem qM:∀l:List Int,(l.map qp).flatten=l.map zV
 |[]=>rfl
 |z::l=>by rw[List.map_cons,List.flatten_cons,qM l];rfl
theorem TO{l:List Int}:∀r∈l.map qp,r.length=1:=λr a=>by
 obtain⟨z,_,rfl⟩:=mem_map.1 a;rfl
theorem abe{g:ae}{l:List Int}(o:fj g h 3 1 v (l.map qp)):Rd h 3 v (wG l):=(by
 obtain⟨_,⟨a,d⟩|⟨k,b,cs,c,a,d,f,e,j,i⟩⟩:=o
 ·left;refine⟨a,?_⟩;have:l=[]:=by simpa using d
  rw[this];rfl
 ·rw[lM,Nat.mul_one,qM]at e;rw[lM]at a;exact .inr ⟨k,b,cs,c,true,by rw[jz];exact a,f,by rw[jz];exact e⟩)
theorem aeR:ee SS.P 22=true:=by kernel_rfl
theorem ZW(a:Option Addr)(n c:Nat):ew SS.P 22 (.slice a n c)=some (.cells [.slice a n c] 22 0 true,kI):=by cases a<;>kernel_rfl
theorem Ss:Go.Ab.isAgg SS.P 22=false:=by kernel_rfl
theorem adg:SS.pr 81=some DV:=by kernel_rfl
theorem FP:∀l:List Int,LZ (l.map zV)=some l
 |[]=>rfl
 |z::l=>by
  show(LZ (l.map zV)).map (z::·)=_;rw[FP l];rfl
theorem Rx:mj []=[]:=by unfold mj;simp
theorem TP{hb g:ae}(w:Wf hb)(m:Ok hb g){x:Value}{l:List Int}(i:fj hb g 3 1 x (l.map qp)){q:Int}{e:Nat}(d:g.get e=some (.cells [.int .i64 q] 3 1 true))(p:l.length<=100000):
  ∃(b:Option Addr)(n c:Nat)(u:dS),bI SS.P 22 22 x (.slice (some ⟨e,0,none⟩) 1 1) g=some (.slice b n c,u)/\fj hb (u.app g) 3 1 (.slice b n c) ((l++[q]).map qp)/\Ok hb (u.app g)/\
   (∀j B,g.get j=some B->fe x≠some j->(u.app g).get j=some B)/\(∀j,fe (.slice b n c)=some j->g.next<=j\/fe x=some j)/\g.next<=(u.app g).next:=by
 have a:(l.map qp).length=l.length:=lM ..;obtain⟨b,n,c,u,h,s,f,k⟩:=fj.add qv U5 Kr aeR w m i (ns:=[qp q]) (Cd (cs:=qp q) d rfl) (λr o=>by rw[mem_singleton.1 o];rfl) rfl (by rw[Gi,a,List.length_singleton];omega) (by rw[a,List.length_singleton];omega) (.inl (Nat.le_refl _));exact⟨b,n,c,u,h,by rw[map_append];exact f,k⟩
theorem Rw{g:ae}(u:Wf g)(n:Ok g h){v:Value}{l:List Int}(o:fj g h 3 1 v (l.map qp))(x:l.length<=100000):FW SS 81 [v] h (λr i=>r = .tuple ⟨[]⟩/\fj g i 3 1 v ((mj l).map qp)/\Ok g i):=by
 have d:(l.map qp).length=l.length:=lM ..;have j:(mj l).length=l.length:=List.length_mergeSort l;by_cases e:l.length=0
 ·obtain rfl:=List.eq_nil_of_length_eq_zero e;obtain⟨a,c,rfl⟩:=o.W0;refine BZ (h':=h) (v:= .tuple ⟨[]⟩) (by kernel_rfl) adg (λA=>?_) ⟨rfl,by rw[Rx];exact o,n⟩;rfl
 ·obtain⟨D,⟨_,z⟩|⟨k,b,cs,c,rfl,q,p,m,C,s⟩⟩:=o
  ·exact absurd (by rw[<-d,z];rfl) e
  rw[d]at m s;rw[Nat.mul_one,qM]at m;rw[Nat.mul_one]at C;have f:((mj l).map qp).length=l.length:=by rw[lM,j]
  have B:((mj l).map zV).length=l.length:=by rw[lM,j]
  refine BZ (h':=h.set k (.cells (cs.take b++(mj l).map zV++cs.drop (b+l.length)) 3 1 true)) (v:= .tuple ⟨[]⟩) (by kernel_rfl) adg (λA=>?_) ⟨rfl,⟨TO,.inr ⟨k,b,_,c,by rw[d,f],q,by rw[ae.av,if_pos rfl],?_,?_,by rw[f];exact s⟩⟩,n.set _ q (n.wf _ _ p) u⟩
  ·rw[d];show(if l.length=0 then some (Value.tuple ⟨[]⟩,h)else match h.get k with
    |some (.cells cs t w true)=>if l.length<4611686018427387904/\b+l.length<=cs.length then(LZ ((cs.drop b).take l.length)).map λy=>(Value.tuple ⟨[]⟩,h.set k (.cells (cs.take b++(mj y).map zV++cs.drop (b+l.length)) t w true))else none
    |_=>none)=_
   rw[if_neg e,p];dsimp only;rw[if_pos (⟨Nat.lt_of_le_of_lt x (by decide),by omega⟩:l.length<4611686018427387904/\b+l.length<=cs.length),m,FP];rfl
  ·rw[f,Nat.mul_one,qM,append_assoc,List.drop_append,List.drop_eq_nil_of_le (by rw[length_take];omega),List.nil_append,show b-(cs.take b).length=0 by rw[length_take];omega,drop_zero,List.take_append_of_le_length (by omega),take_of_length_le (by omega)]
  ·rw[length_append,length_append,length_take,length_drop,B];omega
theorem Ok.del{b:ae}(a:Ok b h){k:Nat}(f:b.next<=k)(d:Wf b):Ok b (h.del k):=by
 refine⟨ae.Is a.wf k,λj B c=>?_,a.nx⟩;rw[ae.dW,if_neg (λe=>by have:=d _ _ c;omega)];exact a.ext _ _ c
abbrev Rr(kc:Nat):Value:= .func (.func 82) ⟨[]⟩ ⟨[pA kc]⟩
abbrev tmA(ks kc:Nat):List Value:=[nA,Rr kc,pA ks,undef,nA,undef,Rr kc,undef,undef,undef,undef,undef,undef]
theorem hcA:rZ (fM [1,0,1,0,0] gp.body) (fM [1,0,1,0,1] gp.body)=true:=by kernel_rfl
noncomputable def NI(a:LSt)(ks kc:Nat):dN:= .loop a (tmA ks kc) [7] (fM [1,0,1,0,0] gp.body) (fM [1,0,1,0,1] gp.body) hcA
structure YI(hb g:ae)(ks ky kc:Nat)(l:List Int):Prop where
 ok:Ok hb g
 box:∃a n c,g.get ks=some (.cells [.slice a n c] 22 0 true)/\fj hb g 3 1 (.slice a n c) (l.map qp)/\∀j,fe (.slice a n c)=some j->j≠ks/\j≠ky
 lp:g.get ky=some (NI .ready ks kc)
 gs:hb.next<=ks
 gy:hb.next<=ky
 ne:ks≠ky
section
variable {hb g:ae} {ks ky kc:Nat} {l:List Int}
theorem WU(w:Wf hb)(V:YI hb g ks ky kc l)(q:Int)(U:l.length<=100000):FW SS (YB+ky) [.int .i64 q] g (λv S=>v = .bool true/\YI hb S ks ky kc (l++[q])):=by
 obtain⟨K,⟨a,n,c,L,T,z⟩,J,M,G,x⟩:=V;refine WT (X:=gp) (p:=[1,0,1,0]) (hc:=hcA) J rfl rfl (by kernel_rfl) (by kernel_rfl) ?_;have x2:=K.wf _ _ L;have x4:=K.wf _ _ J;refine EP (ks:=ks) (q:=q) ?_;refine⟨rfl,J,?_⟩;have m:∀j B,j≠ky->g.get j=some B->(g.set ky (NI .busy ks kc)).get j=some B:=λj B b k=>by rw[ae.av,if_neg b];exact k
 have D:Ok hb (g.set ky (NI .busy ks kc)):=K.set _ G (by omega) w;have E:=m ks _ x L;have P:(g.set ky (NI .busy ks kc)).get ky=some (NI .busy ks kc):=by rw[ae.av,if_pos rfl]
 have Q:=T.jA (h':=g.set ky (NI .busy ks kc)) λj B b k=>m j B (z j b).2 k;have x1:(g.set ky (NI .busy ks kc)).next=g.next:=rfl;show TT SS gp [1,0,1,0,1] _ (g.set ky (NI .busy ks kc)) _;generalize g.set ky (NI .busy ks kc)=f at*;have y:=(Ok.refl D.wf).push (.cells [.int .i64 q] 3 1 true);have k3:=aN f (.cells [.int .i64 q] 3 1 true);obtain⟨d,u,s,O,W,N,o,C,R,x0⟩:=TP w (D.trans y) (Q.ok y) k3 U;have F:=C ks _ (y.ext _ _ E) (λe=>(z ks e).1 rfl);have A:=C ky _ (y.ext _ _ P) (λe=>(z ky e).2 rfl);have x3:(f.push (.cells [.int .i64 q] 3 1 true)).next=f.next+1:=rfl;have Y:=jb (t:=22) (i:=0) aeQ F (by simp) (v:= .slice d u s) (by cases d<;>rfl) (by cases d<;>rfl);have Z:aj SS.P 22 f (pA ks)=some (.slice a n c):=ct qv Ss E (by simp);refine ES (ks:=ks) (q:=q) ⟨a,n,c,Z,_,_,_,Pr q,d,u,s,O,W,_,Y,?_⟩;generalize O.app (f.push (.cells [.int .i64 q] 3 1 true))=g4 at*;dsimp only[dS.app];refine⟨?_,true,.ready,rfl,rfl,?_⟩
 ·rw[ae.av,if_neg (Ne.symm x)];exact A
 have r:∀j,fe (.slice d u s)=some j->j≠ks/\j≠ky:=λj b=>by
  rcases R j b with h|h
  ·omega
  ·exact z j h
 have I:=o.wf _ _ F;have H:=o.wf _ _ A;refine⟨(o.set _ M I w).set _ G H w,⟨d,u,s,?_,N.jA λj B b k=>?_,r⟩,?_,M,G,x⟩
 ·rw[ae.av,if_neg x,ae.av,if_pos rfl];rfl
 ·rw[ae.av,if_neg (r j b).2,ae.av,if_neg (r j b).1];exact k
 ·show(ae.set _ ky (NI .ready ks kc)).get ky=_;rw[ae.av,if_pos rfl]
theorem Zp{c:Nat}{L:List Int}(w:Wf hb)(b:YI hb g ks ky kc [])(t:hb.get kc=some (.cells [.slice a n c] 22 0 true))(r:dO hb (.slice a n c) L)(u:L.length<=100000):FW SS 82 [.func (.yield ky) ⟨[]⟩ ⟨[]⟩,pA kc] g (λ_ l=>YI hb l ks ky kc L):=by
 obtain rfl:=dO.len r;have k:aj SS.P 22 g (pA kc)=some (.slice a L.length c):=ct qv Ss (b.ok.ext _ _ t) (by simp);refine Zo ky kc g _ ⟨a,L.length,c,k,?_⟩;refine BK ky kc a L.length c (λh i g=>i<=L.length/\h=L.length-i/\YI hb g ks ky kc (L.take i)) _ (λh i=>?_) L.length (i:=0) ⟨Nat.zero_le _,rfl,by simpa using b⟩;clear k b;intros;rename_i v f;obtain⟨y,rfl,b⟩:=f;refine aa (λq=>?_) (λq=>?_)
 ·have j:i<L.length:=by have:=dT q;omega
  obtain⟨p,s,m⟩:=dO.at_ (dO.ok r b.ok) j;refine⟨_,s,_,m,(WU w b _ (by rw[length_take];omega)).mono ?_⟩;rintro _ x ⟨rfl,o⟩;refine⟨_,rfl,aa (λe=>by cases e) (λ_=>?_)⟩;rw[aO (n:=L.length) (by omega) (by omega)];refine cd (L.length-(i+1)) (by omega) ⟨by omega,rfl,?_⟩;rw[ka (d:=0) j];exact o
 ·have q:=dF q;rw[take_of_length_le (by omega)]at b;exact b
theorem O7{c:Nat}(w:Wf h)(q:h.get kc=some (.cells [.slice a n c] 22 0 true))(r:dO h (.slice a n c) p)(y:p.length<=100000):FW SS 99 [nA,Rr kc] h (λv l=>fj h l 3 1 v (p.map qp)/\Ok h l):=by
 refine O6 none 0 0 kc h _ ⟨_,ZW none 0 0,?_⟩;have i:=(Ok.refl w).push (.cells [nA] 22 0 true);have C:=aN h (.cells [nA] 22 0 true);have J:(h.push (.cells [nA] 22 0 true)).next=h.next+1:=rfl;generalize h.push (.cells [nA] 22 0 true)=b at*;refine adj (f:= .tmp 6) (ps:= #[7]) (g:=82) (first:=[]) (cap:=[pA kc]) (hc:=hcA) (by kernel_rfl) rfl rfl ⟨by unfold YB;decide,by kernel_rfl⟩ ?_;show FW SS 82 [.func (.yield b.next) ⟨[]⟩ ⟨[]⟩,pA kc] (b.push (NI .ready h.next kc)) _;have o:=(Ok.refl i.wf).push (NI .ready h.next kc);have t:=aN b (NI .ready h.next kc);have A:YI h (b.push (NI .ready h.next kc)) h.next b.next kc []:=⟨i.trans o,⟨none,0,0,o.ext _ _ C,fj.nil _ _ _ _,λj e=>by cases e⟩,t,Nat.le_refl _,by omega,by omega⟩
 refine(Zp w A q r y).mono ?_;rintro v d ⟨I,⟨a,n,c,z,x,F⟩,D,K,s,E⟩;refine⟨.normal,by rw[D];rfl,?_⟩;have m:Ok h (d.del b.next):=Ok.del I s w;have k:(d.del b.next).get h.next=some (.cells [.slice a n c] 22 0 true):=by rw[ae.dW,if_neg E];exact z
 have H:aj SS.P 22 (d.del b.next) (pA h.next)=some (.slice a n c):=ct qv Ss k (by simp);exact ET (ks:=h.next) ⟨a,n,c,H,x.jA λj B G u=>(by rw[ae.dW,if_neg (F j G).2];exact u),m⟩
theorem XP{c:Nat}(w:Wf h)(f:h.get kc=some (.cells [.slice a n c] 22 0 true))(r:dO h (.slice a n c) p)(d:p.length<=100000):FW SS 80 [Rr kc] h (λv b=>fj h b 3 1 v (p.map qp)/\Ok h b):=by
 refine XO kc h _ ((O7 w f r d).mono ?_);rintro v g ⟨o,e⟩;obtain⟨j,i,rfl⟩:=o.W0;exact⟨_,_,_,rfl,o,e⟩
theorem VG{c:Nat}(w:Wf h)(j:h.get kc=some (.cells [.slice a n c] 22 0 true))(r:dO h (.slice a n c) p)(b:p.length<=100000):FW SS 53 [Rr kc] h (λv d=>fj h d 3 1 v ((mj p).map qp)/\Ok h d):=by
 refine VF kc h _ ((XP w j r b).mono ?_);rintro v g ⟨o,i⟩;obtain⟨m,l,rfl⟩:=o.W0;refine⟨_,_,_,rfl,(Rw w i o b).mono ?_⟩;rintro v k ⟨rfl,f,e⟩;exact⟨rfl,f,e⟩
theorem Zs{c:Nat}(w:Wf h):FW SS 54 [.slice a n c] h (λv b=>v=Rr h.next/\b.get h.next=some (.cells [.slice a n c] 22 0 true)/\Ok h b):=
 Zr a n c h _ ⟨_,ZW a n c,rfl,aN h _,(Ok.refl w).push _⟩
end
end
variable{k:Nat}
section
def comp(l:List Int)(i:Nat):List Int:=(List.range i).flatMap λj=>if 1<=j/\l.getD j 0=l.getD (j-1) 0 then[]else[l.getD j 0]
theorem uH(l:List Int)(i:Nat):comp l (i+1)=comp l i++(if 1<=i/\l.getD i 0=l.getD (i-1) 0 then[]else[l.getD i 0]):=by
 unfold comp;rw[range_succ,List.flatMap_append];simp
section
variable {h0 g:ae} {kb off n c N:Nat} {l D:List Int}
structure s8(h0:ae)(kb off n N:Nat)(D:List Int)(g:ae):Prop where
 blk:∃cs,g.get kb=some (.cells cs 3 1 true)/\(cs.drop off).take n=D.map zV/\cs.length=N
 len:D.length=n
 ok:Ok h0 g
 fit:off+n<=N
 nb:h0.next<=kb
theorem s8.room(r:s8 h0 kb off n N D g)(m:Nat):s8 h0 kb off n N D (Go.Ab.room g m):=⟨r.blk,r.len,r.ok.room m,r.fit,r.nb⟩
theorem s8.rd0(r:s8 h0 kb off n N D g)(c:Nat):Rd g 3 (.slice (some ⟨kb,off,none⟩) n c) (wG D):=by
 obtain⟨cs,a,b,d⟩:=r.blk;exact(.inr ⟨kb,off,cs,c,true,by rw[jz,r.len],a,by rw[jz,r.len];exact b⟩)
theorem s8.rd(r:s8 h0 kb off n N D g)(c:Nat):dO g (.slice (some ⟨kb,off,none⟩) n c) D:=dO.Ol (r.rd0 c)
theorem s8.rdF(r:s8 h0 kb off n N D g){k:Nat}(f:k<=n)(c:Nat):dO g (.slice (some ⟨kb,off+k*1,none⟩) (n-k) c) (D.drop k):=by
 obtain⟨cs,b,d,e⟩:=r.blk;have a:(D.drop k).length=n-k:=by rw[length_drop,r.len]
 refine dO.Ol (.inr ⟨kb,off+k*1,cs,c,true,by rw[jz,a],b,?_⟩);rw[jz,a,Nat.mul_one,<-List.drop_drop];have:((cs.drop off).drop k).take (n-k)=((cs.drop off).take n).drop k:=by rw[drop_take]
 rw[this,d];unfold wG;rw[List.map_drop];rfl
theorem s8.put(w:Wf h0)(r:s8 h0 kb off n N D g){k:Nat}(e:k<n)(z:Int):∃u:dS,ah SS.P 3 (.pointer (some ⟨kb,off+k,none⟩)) (.int .i64 z) g=some (undef,u)/\s8 h0 kb off n N (D.set k z) (u.app g):=by
 obtain⟨cs,a,d,c⟩:=r.blk;have b:=r.fit;refine⟨_,jb zs3 a (i:=off+k) (by omega) (v:= .int .i64 z) rfl rfl,⟨_,by show(g.set kb _).get kb=_;rw[ae.av,if_pos rfl],?_,by rw[length_set];exact c⟩,by rw[length_set];exact r.len,r.ok.set _ r.nb (r.ok.wf _ _ a) w,b,r.nb⟩;rw[List.drop_set,if_neg (by omega),List.take_set,d,show off+k-off=k by omega,map_set];rfl
theorem s8.clr(w:Wf h0)(r:s8 h0 kb off n N D g){k:Nat}(o:k<n)(d:Nat):∃u:dS,zO SS.P 22 (.slice (some ⟨kb,off+k*1,none⟩) (n-k) d) g=some (undef,u)/\∃a,s8 h0 kb off n N a (u.app g)/\a.take k=D.take k:=by
 obtain⟨cs,b,f,m⟩:=r.blk;have c:=r.fit;have h:de (iv 0).cells.toList (n-k)=List.replicate (n-k) (zV 0):=nw _ _;refine⟨.set kb (.cells (cs.take (off+k)++List.replicate (n-k) (zV 0)++cs.drop (off+k+(n-k))) 3 1 true),?_,D.take k++List.replicate (n-k) 0,⟨⟨_,by show(g.set kb _).get kb=_;rw[ae.av,if_pos rfl],?_,?_⟩,?_,r.ok.set _ r.nb (r.ok.wf _ _ b) w,c,r.nb⟩,?_⟩
 ·unfold zO;rw[qv];dsimp only;rw[aam];dsimp only;rw[if_neg (by omega),h,Nat.mul_one];unfold storeAt;rw[b];dsimp only;rw[if_pos ⟨by simp;omega,by simp[zV,dU]⟩,length_replicate];rfl
 ·have l:D.take k=D.take k:=rfl;rw[append_assoc,List.drop_append,length_take,min_eq_left (by omega),List.drop_append,length_replicate];have j:off-(off+k)=0:=by omega
  rw[j,drop_zero,show 0-(n-k)=0 by omega,drop_zero];have e:(cs.take (off+k)).drop off=(cs.drop off).take k:=by rw[drop_take,show off+k-off=k by omega]
  rw[e];have i:(cs.drop off).take k=(D.take k).map zV:=by
   have:(cs.drop off).take k=((cs.drop off).take n).take k:=by rw[take_take,min_eq_left (by omega)]
   rw[this,f,map_take]
  rw[i,<-append_assoc,List.take_append_of_le_length (by simp[r.len];omega),take_of_length_le (by simp[r.len];omega),map_append,List.map_replicate]
 ·rw[length_append,length_append,length_take,length_replicate,length_drop];omega
 ·rw[length_append,length_take,length_replicate,r.len];omega
 ·rw[List.take_append_of_le_length (by rw[length_take,r.len];omega),take_take,Nat.min_self]
end
theorem Vz{g:ae}{off n c z:Nat}{cs:List Value}(b:g.get k=some (.cells cs 3 1 true))(f:z<=n)(e:n<=bH c):bG SS.P 22 (.slice (some ⟨k,off,none⟩) n c) none (some (.int .i64 (z:Int))) none g=some (.slice (some ⟨k,off,none⟩) z c):=by
 unfold bG;dsimp only;rw[qv];dsimp only[eS];rw[RX,b];dsimp only;rw[if_pos (.inl rfl),if_pos (by omega)];have a:(((0:Nat):Int)).toNat=0:=rfl;have d:((z:Int)-((0:Nat):Int)).toNat=z:=by omega
 rw[a,d,Nat.zero_mul,Nat.add_zero,Nat.sub_zero]
theorem Tc{h0:ae}(w:Wf h0)(ok:Ok h0 h){v:Value}{l:List Int}(o:fj h0 h 3 1 v (l.map qp))(hl:l.length<=100000):FW SS 52 [v] h (λr h'=>∃a n c,r = .slice a n c/\Rd h' 3 (.slice a n c) (wG (comp l l.length))/\Ok h0 h'):=by
 have J:=abe o;by_cases K:l.length<2
 ·obtain⟨a,c,rfl⟩:=o.W0;rw[lM]at J⊢;refine Jp a l.length c h _ (aa (λ_=>⟨a,l.length,c,rfl,?_,ok⟩) (λe=>by have:=dF e;omega));have:comp l l.length=l:=by
   match l,K with
   |[],_=>rfl
   |[x],_=>rfl
   |x::y::r,K=>simp at K;omega
  rw[this];exact J
 obtain⟨_,⟨_,he⟩|⟨kb,off,cs,c,rfl,nb,Q,M,Z,N⟩⟩:=o
 ·exfalso;have:l=[]:=by simpa using he
  rw[this]at K;simp at K
 rw[lM]at M N;rw[lM]at J⊢;rw[Nat.mul_one,qM]at M;rw[Nat.mul_one]at Z;generalize x8:l.length=n at*;have r0:s8 h0 kb off n cs.length l h:=⟨⟨cs,Q,M,rfl⟩,x8,ok,by omega,nb⟩
 refine Jp _ n c h _ (aa (λe=>by have:=dT e;omega) (λ_=>?_));refine zP _ n c (λV k g=>1<=k/\k<=n/\V=n-k/\s8 h0 kb off n cs.length l g/\comp l k=l.take k) _ (λV k=>?_) (n-1) (k:=1) ⟨by omega,by omega,rfl,r0,?_⟩
 rotate_left
 ·rw[ka (d:=0) (by omega)];have:comp l 1=[l.getD 0 0]:=by rw[uH,if_neg (by omega)];rfl
  rw[this];rfl
 intros;rename_i g x0;obtain⟨k1,k2,k3,rz,hc⟩:=x0;refine aa (λq=>?_) (λq=>?_)
 ·have Q:k<n:=by have:=dT q;omega
  obtain⟨s,rfl⟩:∃s,k=s+1:=⟨k-1,by omega⟩
  have B:=rz.room 10;obtain⟨p,e1,e2⟩:=dO.at_ (B.rd c) (i:=s+1) (by omega);obtain⟨p',e3,e4⟩:=dO.at_ (B.rd c) (i:=s) (by omega);rw[AN s (by omega)];have z:=uH l (s+1);rw[show s+1-1=s by omega]at z;refine⟨_,e1,_,e2,_,e3,_,e4,aa (λC=>?_) (λC=>?_)⟩
  ·have C:l.getD (s+1) 0=l.getD s 0:=by simpa using C
   rw[if_pos ⟨by omega,C⟩,append_nil,hc]at z;obtain⟨y6,g1,g2,g3⟩:=B.blk;refine⟨_,_,_,D1 qv RX g1 (by omega) N,?_⟩;clear e1 e2 e3 e4 C;generalize y5:s+1=f at*;refine zQ _ n c _ (n-f) (c-f) _ V (λS k j g=>1<=j/\j<=n-f/\S=n-f-j/\∃D,s8 h0 kb off n cs.length D g/\(comp l (f+j)).length=k/\D.take k=comp l (f+j)/\k+1<=f+j/\∀p,f+j<=p+1->p<n->D.getD p 0=l.getD p 0) _ (λS k j=>?_) (n-f-1) (k:=f) (j:=1) ⟨by omega,by omega,rfl,l,B,by rw[z,length_take];omega,by rw[z],by omega,λ_ _ _=>rfl⟩;intros;rename_i g4 W;obtain⟨j1,j2,j3,D,F,dl,Y,dk,R⟩:=W;have y0:=F.len;refine aa (λU=>?_) (λU=>?_)
   ·have hj:j<n-f:=by have:=dT U;omega
    obtain⟨m,rfl⟩:∃m,j=m+1:=⟨j-1,by omega⟩
    have A:=F.room 10;have y7:(D.drop f).length=n-f:=by rw[length_drop,y0]
    obtain⟨p1,x1,O⟩:=dO.at_ (A.rdF (by omega:f<=n) (c-f)) (i:=m+1) (by omega);obtain⟨p2,x3,X⟩:=dO.at_ (A.rdF (by omega:f<=n) (c-f)) (i:=m) (by omega);have gd:∀i,(D.drop f).getD i 0=D.getD (f+i) 0:=λi=>by rw[gD,List.getElem?_drop,<-gD]
    rw[gd]at O X;rw[R (f+(m+1)) (by omega) (by omega)]at O;rw[R (f+m) (by omega) (by omega)]at X;have t:=uH l (f+(m+1));rw[show f+(m+1)-1=f+m by omega]at t;have L:k<n:=by omega
    rw[AN m (by omega),aO (i:=m+1) (n:=n) (by omega) (by omega)];refine⟨_,x1,_,O,_,x3,_,X,aa (λE=>?_) (λE=>?_)⟩
    ·have E:l.getD (f+(m+1)) 0≠l.getD (f+m) 0:=by simpa using E
     rw[if_neg (λe=>E e.2)]at t;obtain⟨u,st,x6⟩:=A.put w L (l.getD (f+(m+1)) 0);have x7:aA SS.P 22 (.slice (some ⟨kb,off,none⟩) n c) (iA k)=some (.pointer (some ⟨kb,off+k,none⟩)):=by
      have:=PK (P:=SS.P) qv RX (k:=kb) (off:=off) (n:=n) (c:=c) (ik:= .i64) (i:=(k:Int)) (by omega) (by omega);rw[this];have e:off+((k:Int)).toNat*1=off+k:=by omega
      rw[e]
     rw[aO (i:=k) (n:=n) (by omega) (by omega)];refine⟨_,x1,_,O,_,x7,u,st,iO (n-f-(m+1+1)) (by omega) ⟨by omega,by omega,rfl,_,x6,?_,?_,by omega,λp x9 I=>?_⟩⟩
     ·rw[show f+(m+1+1)=f+(m+1)+1 by omega,t,length_append,dl];rfl
     ·rw[show f+(m+1+1)=f+(m+1)+1 by omega,t,ka (d:=0) (by rw[length_set];omega),lz (Nat.le_refl _),Y,dx (by omega),if_pos rfl]
     ·rw[dx (by omega),if_neg (by omega)];exact R p (by omega) I
    ·have E:l.getD (f+(m+1)) 0=l.getD (f+m) 0:=by simpa using E
     rw[if_pos ⟨by omega,E⟩,append_nil]at t;refine iO (n-f-(m+1+1)) (by omega) ⟨by omega,by omega,rfl,D,A,?_,?_,by omega,λp x9 I=>R p (by omega) I⟩
     ·rw[show f+(m+1+1)=f+(m+1)+1 by omega,t];exact dl
     ·rw[show f+(m+1+1)=f+(m+1)+1 by omega,t];exact Y
   ·have hj:j=n-f:=by have:=dF U;omega
    have L:k<n:=by omega
    obtain⟨y4,y1,y2,y3⟩:=F.blk;obtain⟨u,cl,D',A,x5⟩:=F.clr w L (c-k);obtain⟨G,z1,z2,z3⟩:=A.blk;have T:comp l n=D.take k:=by rw[Y,hj,show f+(n-f)=n by omega]
    refine⟨_,_,_,D1 qv RX y1 (by omega) N,undef,u,Eq.trans (b:=zO SS.P 22 (.slice (some ⟨kb,off+k*1,none⟩) (n-k) (c-k)) g4) (by kernel_rfl) cl,_,_,_,Vz z1 (by omega) N,_,_,_,rfl,?_,A.ok⟩;have H:(comp l n).length=k:=by rw[T,length_take];omega
    refine(.inr ⟨kb,off,G,c,true,by rw[jz,H],z1,?_⟩);rw[jz,H];have:(G.drop off).take k=((G.drop off).take n).take k:=by rw[take_take,min_eq_left (by omega)]
    rw[this,z2,<-map_take,x5,<-T];rfl
  ·have C:l.getD (s+1) 0≠l.getD s 0:=by simpa using C
   rw[if_neg (λe=>C e.2),hc]at z;rw[aO (i:=s+1) (n:=n) (by omega) (by omega)];refine cd (n-(s+1+1)) (by omega) ⟨by omega,by omega,rfl,B,?_⟩;rw[z];exact(ka (d:=0) (by omega)).symm
 ·have Q:k=n:=by have:=dF q;omega
  subst Q;refine⟨_,_,_,rfl,?_,rz.ok⟩;rw[hc,take_of_length_le (by omega)];exact rz.rd0 c
end
variable{z:Int}
theorem abk{d:ae}(r:Rd g 3 v (wG p))(h:Kp g d):Rd d 3 v (wG p):=by
 rcases r with⟨a,b⟩|⟨k,e,cs,c,i,a,b,f⟩
 ·exact .inl ⟨a,b⟩
 ·exact .inr ⟨k,e,cs,c,i,a,h.2 _ _ _ _ _ b (by decide) (by decide) (by decide),f⟩
def oh(l:List Int):List Int:=comp (mj l) (mj l).length
theorem Jo(l:List Int):∀i,(comp l i).length<=i
 |0=>Nat.le_refl _
 |i+1=>by
  rw[uH,length_append];have:=Jo l i;split
  ·simp;omega
  ·simp;omega
theorem GC(l:List Int):(mj l).length=l.length:=List.length_mergeSort l
theorem Uc(l:List Int):(oh l).length<=l.length:=by
 unfold oh;exact Nat.le_trans (Jo _ _) (Nat.le_of_eq (GC l))
def Hw(a:Int)(l:List Int):List gN:=l.map λs=>⟨s,s,dz a,1⟩
def Dn(a:Int)(l:List Int):bp:=⟨a,0,dz a,[⟨[],Hw a (oh l)⟩,⟨dz a,[]⟩]⟩
def xZ(a:Int)(l:List Int):bp×Int:=if(decide (1<=a/\a<=3)&&l.all sC)=true then(Dn a l,0)else(wa,1)
theorem Xx{c:Nat}{l:List Int}(w:Wf h)(r:dO h (.slice a n c) l)(hl:l.length<=10000):FW SS 21 [.int .i64 z,.slice a n c] h (BH h (xZ z l)):=by
 obtain rfl:=dO.len r;have e:=(Ok.refl w).push mS;have o:=aN h mS;have nb:h.next<(h.push mS).next:=lt_succ_self _;refine Xw z a _ c h _ ⟨_,qJ,?_⟩;generalize h.push mS=K at*;unfold xZ;refine aa (λq=>?_) (λq=>aa (λt=>?_) (λt=>?_))
 ·have:=dT q;rw[decide_eq_false (show ¬(1<=z/\z<=3) by omega),Bool.false_and,if_neg Bool.false_ne_true];exact iw w e o (Nat.le_refl _) 1
 ·have:=dT t;rw[decide_eq_false (show ¬(1<=z/\z<=3) by omega),Bool.false_and,if_neg Bool.false_ne_true];exact iw w e o (Nat.le_refl _) 1
 have q:=dF q;have t:=dF t;rw[decide_eq_true (show 1<=z/\z<=3 by omega),Bool.true_and];refine(Tf (dO.ok r e) (by omega)).mono ?_;rintro _ N ⟨rfl,A⟩;obtain rfl:K=N:=A.symm;refine⟨_,rfl,aa (λj=>?_) (λj=>?_)⟩
 ·rw[not_eq_true']at j;rw[j,if_neg Bool.false_ne_true];exact iw w e o (Nat.le_refl _) 1
 rw[not_eq_false']at j;rw[j,if_pos rfl];refine(mB z e.wf).mono ?_;rintro _ g3 ⟨k,rfl,D⟩;have u:=D.qC ((Ok.refl D.ok.wf).room 10);refine⟨_,rfl,(iy e.wf u (by simp) []).mono ?_⟩;rintro _ Y ⟨rfl,H,V⟩;refine⟨_,rfl,lE ⟨_,zU k,_,H.one,(iy e.wf H (by simp) _).mono ?_⟩⟩;rintro _ g5 ⟨rfl,x,U⟩;refine⟨_,rfl,⟨u.one,kM _⟩,(Zs x.ok.wf).mono ?_⟩;rintro _ g6 ⟨rfl,T,m⟩;have R:=dO.ok r ((e.trans x.ok).trans m);refine⟨_,_,_,rfl,(VG m.wf T R (by omega)).mono ?_⟩;rintro v g7 ⟨F,S⟩;obtain⟨a7,X,rfl⟩:=F.W0;refine⟨_,_,_,rfl,(Tc m.wf S F (by rw[GC];omega)).mono ?_⟩;rintro _ Z ⟨E,n8,G,rfl,J,O⟩;obtain rfl:=dO.len (dO.Ol J);have P:=x.qC (m.trans O);refine⟨_,_,_,rfl,?_⟩;have W:=Uc l;rw[<-oh]at*;refine Bv z a l.length c h.next k 0 1 E (oh l).length G (λC i g=>i<=(oh l).length/\C=(oh l).length-i/\Rd g 3 (.slice E (oh l).length G) (wG (oh l))/\BS K g k z 0 (dz z) [⟨[],Hw z ((oh l).take i)⟩,⟨dz z,[]⟩]) _ (λC i=>?_) (oh l).length (i:=0) ⟨Nat.zero_le _,rfl,J,P⟩;intros;rename_i g B;obtain⟨f1,f2,L,b⟩:=B;have f:cg [(⟨[],Hw z ((oh l).take i)⟩:dA),⟨dz z,[]⟩]=i:=by
  rw[df,df];show(Hw z ((oh l).take i)).length+(0+0)=i;unfold Hw;rw[lM,length_take];omega
 refine aa (λp=>?_) (λp=>?_)
 ·have y:i<(oh l).length:=by have:=dT p;omega
  obtain⟨pp,M,A⟩:=dO.at_ (dO.Ol L) y;refine⟨_,M,_,A,_,zU k,_,b.one,_,Z1 _ _ _ _,(xy (s:=0) e.wf b rfl (by rw[f];omega) ⟨(oh l).getD i 0,(oh l).getD i 0,dz z,1⟩).mono ?_⟩;rintro _ g9 ⟨rfl,Q,I⟩;rw[aO y (by omega)];refine⟨rfl,cd ((oh l).length-(i+1)) (by omega) ⟨by omega,rfl,abk L I,?_⟩⟩;have:Hw z ((oh l).take (i+1))=Hw z ((oh l).take i)++[⟨(oh l).getD i 0,(oh l).getD i 0,dz z,1⟩]:=by
   rw[ka (d:=0) y];unfold Hw;rw[map_append];rfl
  rw[this];exact Q
 ·obtain rfl:i=(oh l).length:=by have:=dF p;omega
  rw[take_of_length_le (Nat.le_refl _)]at b f;exact o0 w e.wf b (by simp) (by rw[f];omega) e o (Nat.le_refl _)
variable{Z:List (List UInt8)}
section
theorem yQ:SS.P.underlying 106=some (.slice 103):=by kernel_rfl
theorem zn:aF SS.P 103=some 1:=by kernel_rfl
theorem abX:Go.Ab.isAgg SS.P 103=false:=by kernel_rfl
noncomputable def V9:TypeInfo:=(SS.P.info? 103).getD default
theorem Wa:SS.P.info? 103=some V9:=by kernel_rfl
theorem Nn:V9.size=1:=by kernel_rfl
theorem K0:V9.bytes=24:=by kernel_rfl
theorem ZJ:zeroOf SS.P 103=some nA:=by kernel_rfl
theorem ac5(n:Nat)(a:n<=100000):cj SS.P 106 (.int .i64 (n:Int)) (.int .i64 (n:Int))=some (.cells (List.replicate n nA) 103 1 true,mN n n):=by
 unfold cj bY;dsimp only;rw[yQ]
 try dsimp only
 change (match SS.P.info? 103,zeroOf SS.P 103 with
  |some i,some z=>(if z.cells.size=i.size/\0<i.size/\(0:Int)<=(n:Int)/\(n:Int)<=(n:Int)/\(n:Int)*i.bytes<=140737488355328/\(n:Int)<=1099511627776 then some (dN.cells (de z.cells.toList (n:Int).toNat) 103 i.size true,λk=>Value.slice (some ⟨k,0,none⟩) (n:Int).toNat (n:Int).toNat)else none)
  |_,_=>none)=_
 rw[Wa,ZJ];dsimp only;rw[Nn,K0,if_pos ⟨rfl,by omega,by omega,Int.le_refl _,by omega,by omega⟩];have e:((n:Int)).toNat=n:=by omega
 rw[e,show(nA).cells.toList=[nA]from rfl,nw];rfl
theorem aav{g:ae}{z:Nat}{cs:List Value}{l:Bool}(r:Rd g n v d)(p:g.get k=some (.cells cs m z l))(o:n≠m)(B:dN):Rd (g.set k B) n v d:=by
 rcases r with r|⟨h,b,e,c,f,j,a,i⟩
 ·exact .inl r
 ·exact .inr ⟨h,b,e,c,f,j,by rw[ae.av,if_neg (λx=>by rw[x,p]at a;injection a with a;injection a with _ a;exact o a.symm)];exact a,i⟩
structure TB(h:ae)(kt X Y p:Nat)(kr:Nat->Nat)(cv:Nat->Nat->Value)(g:ae):Prop where
 out:g.get kt=some (.cells ((List.range X).map λa=>if a<p then vS (kr a) Y Y else nA) 103 1 true)
 row:∀a,a<p->g.get (kr a)=some (.cells ((List.range Y).map (cv a)) 107 1 true)
 new:h.next<=kt/\∀a,a<p->h.next<=kr a
 inj:∀a b,a<p->b<p->kr a=kr b->a=b
 ok:Ok h g
def up2(cv:Nat->Nat->Value)(i j:Nat)(y:Value):Nat->Nat->Value:=λa b=>if a=i/\b=j then y else cv a b
section
variable {h:ae} {kt X Y p i j:Nat} {kr:Nat->Nat} {cv:Nat->Nat->Value} {g g':ae}
theorem TB.qC(t:TB h kt X Y p kr cv g)(o:Ok g g'):TB h kt X Y p kr cv g':=⟨o.ext _ _ t.out,λa b=>o.ext _ _ (t.row a b),t.new,t.inj,t.ok.trans o⟩
theorem TB.room(t:TB h kt X Y p kr cv g)(n:Nat):TB h kt X Y p kr cv (Go.Ab.room g n):=⟨t.out,t.row,t.new,t.inj,t.ok.room n⟩
theorem TB.WZ(t:TB h kt X Y p kr cv g)(a:i<p)(b:p<=X):aj SS.P 103 g (.pointer (some ⟨kt,i,none⟩))=some (vS (kr i) Y Y):=by
 rw[ct nQ abX t.out (by simp;omega),Ca (by omega),if_pos a]
theorem TB.ldV(t:TB h kt X Y p kr cv g)(a:i<p)(b:j<Y):aj SS.P 107 g (.pointer (some ⟨kr i,j,none⟩))=some (cv i j):=by
 rw[ct D0 Ja (t.row i a) (by simp;omega),Ca b]
theorem TB.YH(t:TB h kt X Y p kr cv g)(w:Wf h)(d:i<p)(s:j<Y){y:Value}(n:dU y=true)(m:y.cells = #[y]):∃u:dS,ah SS.P 107 (.pointer (some ⟨kr i,j,none⟩)) y g=some (undef,u)/\TB h kt X Y p kr (up2 cv i j y) (u.app g)/\(∀v l,Rd g 9 v l->Rd (u.app g) 9 v l)/\(∀k l,VB g k l->VB (u.app g) k l)/\(u.app g).next=g.next:=by
 have c:=t.row i d;refine⟨_,jb ny c (by simp;omega) n m,⟨?_,λa f=>?_,t.new,t.inj,t.ok.set _ (t.new.2 i d) (t.ok.wf _ _ c) w⟩,λv l r=>aav r c (by decide) _,λk l b=>?_,rfl⟩
 ·show(g.set (kr i) _).get kt=_;rw[ae.av,if_neg (kj t.out c (by decide))];exact t.out
 ·show(g.set (kr i) _).get (kr a)=_;rw[ae.av];by_cases e:a=i
  ·subst e;rw[if_pos rfl];congr 2;refine ext_getElem (by simp) λb o q=>?_;rw[List.getElem_set];simp only[List.getElem_map,List.getElem_range];unfold up2;by_cases e:j=b
   ·subst e;simp
   ·rw[if_neg e,if_neg (λx=>e x.2.symm)]
  ·rw[if_neg (λx=>e (t.inj a i f d x)),t.row a f];congr 2;refine List.map_congr_left λb _=>?_;unfold up2;rw[if_neg (λx=>e x.1)]
 ·show(g.set (kr i) _).get k=_;rw[ae.av,if_neg (λx=>by rw[x]at b;have b:g.get (kr i)=_:=b;rw[c]at b;injection b with b;injection b with _ b;exact absurd b (by decide))];exact b
theorem TB.ad0(t:TB h kt X Y p kr cv g)(w:Wf h)(y:p<X){i:Nat}(m:g.get i=some (.cells (List.replicate Y nA) 107 1 true))(v:h.next<=i)(j:∀a,a<p->kr a≠i)(n:∀b,cv p b=nA):∃u:dS,ah SS.P 103 (.pointer (some ⟨kt,p,none⟩)) (sA i Y Y) g=some (undef,u)/\TB h kt X Y (p+1) (λa=>if a=p then i else kr a) cv (u.app g)/\(∀k l,VB g k l->VB (u.app g) k l)/\(u.app g).next=g.next:=by
 refine⟨_,jb zn t.out (by simp;omega) rfl rfl,⟨?_,λa o=>?_,⟨t.new.1,λa o=>?_⟩,λa b o x f=>?_,t.ok.set _ t.new.1 (t.ok.wf _ _ t.out) w⟩,λk l b=>?_,rfl⟩
 ·show(g.set kt _).get kt=_;rw[ae.av,if_pos rfl];congr 2;refine ext_getElem (by simp) λb r s=>?_;rw[List.getElem_set];simp only[List.getElem_map,List.getElem_range];by_cases e:p=b
  ·subst e;rw[if_pos rfl,if_pos (by omega),if_pos rfl];rfl
  ·rw[if_neg e];by_cases q:b<p
   ·rw[if_pos q,if_pos (by omega),if_neg (by omega)]
   ·rw[if_neg q,if_neg (by omega)]
 ·show(g.set kt _).get _=_;by_cases e:a=p
  ·subst e;rw[if_pos rfl,ae.av,if_neg (kj m t.out (by decide)),m];congr 2;refine ext_getElem (by simp) λb r s=>?_;simp only[List.getElem_map,List.getElem_range,List.getElem_replicate];exact(n b).symm
  ·have:=t.row a (by omega);rw[if_neg e,ae.av,if_neg (kj this t.out (by decide))];exact this
 ·split
  ·exact v
  ·exact t.new.2 a (by omega)
 ·by_cases c:a=p<;>by_cases d:b=p
  ·omega
  ·rw[if_pos c,if_neg d]at f;exact absurd f.symm (j b (by omega))
  ·rw[if_neg c,if_pos d]at f;exact absurd f (j a (by omega))
  ·rw[if_neg c,if_neg d]at f;exact t.inj a b (by omega) (by omega) f
 ·show(g.set kt _).get k=_;rw[ae.av,if_neg (kj b t.out (by decide))];exact b
end
structure TV(kind:Int)(N X Y:Nat)(cv:Nat->Nat->Value)(T:List LM)(g:ae):Prop where
 len:T.length=X
 row:∀a,a<X->(T.getD a []).length=Y
 at_:∀a b,a<X->b<Y->∃(ad:Option Addr)(c:Nat),cv a b = .slice ad N c/\Rd g 9 (.slice ad N c) (eH (dP T a b))/\VV kind N (dP T a b)
section
variable {kind:Int} {N X Y i j:Nat} {cv:Nat->Nat->Value} {T:List LM} {g g':ae}
theorem Jd{T:List LM}{X Y i j a b:Nat}(g:T.length=X)(f:∀a,a<X->(T.getD a []).length=Y)(c:i<X)(d:j<Y)(v:List (List UInt8)):dP (fp T i j v) a b=if a=i/\b=j then v else dP T a b:=by
 unfold dP fp;rw[dx (by omega)];by_cases e:a=i
 ·subst e;rw[if_pos rfl,dx (by rw[f a c];exact d)];by_cases e:b=j
  ·rw[if_pos e,if_pos ⟨rfl,e⟩]
  ·rw[if_neg e,if_neg (λx=>e x.2)]
 ·rw[if_neg e,if_neg (λx=>e x.1)]
theorem KO{T:List LM}{X Y i j:Nat}(c:T.length=X)(b:∀a,a<X->(T.getD a []).length=Y)(e:i<X)(f:j<Y)(v:List (List UInt8)):(fp T i j v).length=X/\∀a,a<X->((fp T i j v).getD a []).length=Y:=by
 unfold fp;refine⟨by rw[length_set];exact c,λa d=>?_⟩;rw[dx (by omega)];split
 ·rw[length_set];exact b i e
 ·exact b a d
theorem TV.ok(t:TV kind N X Y cv T g)(o:Ok g g'):TV kind N X Y cv T g':=⟨t.len,t.row,λa b j d=>by obtain⟨h,c,f,i,e⟩:=t.at_ a b j d;exact⟨h,c,f,i.ok o,e⟩⟩
theorem TV.put(t:TV kind N X Y cv T g)(f:i<X)(k:j<Y)(h:∀v l,Rd g 9 v l->Rd g' 9 v l){d:Option Addr}{c:Nat}{l:List (List UInt8)}(r:Rd g 9 (.slice d N c) (eH l))(u:VV kind N l):TV kind N X Y (up2 cv i j (.slice d N c)) (fp T i j l) g':=by
 obtain⟨s,w⟩:=KO t.len t.row f k l;refine⟨s,w,λa b q m=>?_⟩;rw[Jd t.len t.row f k];unfold up2;by_cases e:a=i/\b=j
 ·rw[if_pos e,if_pos e];exact⟨d,c,rfl,h _ _ r,u⟩
 ·rw[if_neg e,if_neg e];obtain⟨d,c,o,p,n⟩:=t.at_ a b q m;exact⟨d,c,o,h _ _ p,n⟩
end
def ZF(h g:ae)(N:Nat)(d:List (List UInt8))(cv:Nat->Nat->Value)(c:Nat->Nat->Nat)(f:Nat->Nat->Prop):Prop:=∀a b,f a b->cv a b=vS (c a b) N N/\VB g (c a b) d/\h.next<=c a b/\((a=0/\b=0)\/c a b≠c 0 0)
theorem ZF.mono{h g g':ae}{N:Nat}{cv:Nat->Nat->Value}{d:Nat->Nat->Nat}{f e:Nat->Nat->Prop}(z:ZF h g N Z cv d f)(p:∀k l,VB g k l->VB g' k l)(i:∀a b,e a b->f a b):ZF h g' N Z cv d e:=λa b c=>by
 obtain⟨m,n,j,o⟩:=z a b (i a b c);exact⟨m,p _ _ n,j,o⟩
theorem ZF.add{h g g':ae}{N i j:Nat}{cv:Nat->Nat->Value}{p:Nat->Nat->Nat}{f q:Nat->Nat->Prop}(z:ZF h g N Z cv p f)(u:∀k l,VB g k l->k<n)(y:∀k l,VB g k l->VB g' k l)(B:VB g' n Z)(w:h.next<=n)(c:(i=0/\j=0)\/f 0 0)(r:∀a b,q a b->f a b\/(a=i/\b=j))(A:i=0/\j=0->∀a b,¬f a b):ZF h g' N Z (up2 cv i j (vS n N N)) (λa b=>if a=i/\b=j then n else p a b) q:=λa b o=>by
 unfold up2;dsimp only;by_cases e:a=i/\b=j
 ·rw[if_pos e,if_pos e];refine⟨rfl,B,w,?_⟩;by_cases d:i=0/\j=0
  ·left;omega
  ·right;rw[if_neg (by omega)];rcases c with c|c
   ·exact absurd c d
   ·have:=u _ _ (z 0 0 c).2.1;omega
 ·rw[if_neg e,if_neg e];have m:f a b:=(r a b o).resolve_right e;obtain⟨t,v,s,x⟩:=z a b m;refine⟨t,y _ _ v,s,x.imp id λC=>?_⟩;by_cases d:0=i/\0=j
  ·exact absurd m (A ⟨d.1.symm,d.2.symm⟩ a b)
  ·rw[if_neg d];exact C
def StB(kind:Int)(N:Nat)(g:ae)(b:Option Addr)(bn bc:Nat):Option LM->Prop
 |none=>b=none/\bn=0/\bc=0
 |some B=>(∃a,b=some a)/\bn=N/\LF 107 g (.slice b bn bc) B/\Sq kind N B
theorem StB.ok{kind:Int}{N:Nat}{g g':ae}{b:Option Addr}{bn bc:Nat}{o:Option LM}(s:StB kind N g b bn bc o)(k:Ok g g'):StB kind N g' b bn bc o:=by
 cases o with
 |none=>exact s
 |some B=>exact⟨s.1,s.2.1,s.2.2.1.ok k,s.2.2.2⟩
section
variable {h:ae} {M:bp} {x a b:Option Addr} {z c bn bc:Nat} {V:List (List UInt8)} {o:Option LM}
theorem YX(w:Wf h)(i:OP M)(r:dm h (.slice x M.af.length z) M.af)(e:Rd h 9 (.slice a M.af.length c) (eH V))(d:VV M.kind M.af.length V)(f:StB M.kind M.af.length h b bn bc o):FW SS 75 [.agg ⟨bE M x M.af.length z⟩,.slice a M.af.length c,.slice b bn bc] h (Wu h M.kind M.af.length (fX (aX M.kind) V o)):=by
 cases o with
 |none=>
  obtain⟨rfl,rfl,rfl⟩:=f;exact RM w r e d
 |some B=>
  obtain⟨⟨k,rfl⟩,rfl,g,j⟩:=f;exact Wy w i r e d g j
end
end
section
def adN(k kt N:Nat)(F K:Int)(v:OA)(M vc:Nat)(I J:Int)(Q:VH)(G:ae->Prop)(h:ae):Prop:=xA (aj SS.P 29 h (pA k)) λH=>FW SS 76 [(.agg ⟨H⟩),(.slice v M vc),(.int .i64 I),(.int .i64 J),(.bool false)] h λE a=>∃(o:OA)(q m:Nat),∃f:Int,E=(.tuple ⟨[(.slice o q m),(.int .i64 f)]⟩)/\au (((f:Int) !=0)) (Q (.tuple ⟨[(strOf []),(.int .i64 f)]⟩) a) (xP (aA SS.P 106 (sA kt N N) (.int .i64 F)) λi=>xL (aj SS.P 103 (room a 30) (.pointer (some i))) λc d b=>xP (aE SS.P 29 (pA k) 0) λx=>xI .i64 (aj SS.P 3 (room a 30) (.pointer (some x))) λy=>xP (aA SS.P 106 (sA kt N N) (.int .i64 F)) λz=>xL (aj SS.P 103 (room a 30) (.pointer (some z))) λA w u=>xP (aA SS.P 103 (.slice A w u) (.int .i64 K)) λs=>xL (aj SS.P 107 (room a 30) (.pointer (some s))) λC D r=>FW SS 77 [(.int .i64 y),(.slice C D r),(.slice o q m)] (room a 30) λt g=>∃(j:OA)(l p:Nat),∃e:Int,t=(.tuple ⟨[(.slice j l p),(.int .i64 e)]⟩)/\xP (aA SS.P 103 (.slice c d b) (.int .i64 K)) λB=>xU (ah SS.P 107 (.pointer (some B)) (.slice j l p) g) g λL n=>(aj SS.P 103 g (.pointer (some i))=some (.slice c d b)/\dI 4 (.slice c d b) (.slice c d b)=true)/\au (((e:Int) !=0)) (Q (.tuple ⟨[(strOf []),(.int .i64 e)]⟩) n) (G n))
theorem OB(a:Option Addr)(n c:Nat):dU (.slice a n c)=true:=by cases a<;>rfl
section
variable {h0 h:ae} {M:bp} {x v:Option Addr} {z k kt X Y i j vc:Nat} {kr:Nat->Nat} {cv:Nat->Nat->Value} {T:List LM} {V:List (List UInt8)}
def MD(M:bp)(V:List (List UInt8))(a b:Int)(T:List LM)(i j:Nat):Option (List LM):=match kQ (aX M.kind) (gm M) V a b with
 |none=>none
 |some s=>match nD (aX M.kind) (dP T i j) s with
  |none=>none
  |some r=>some (fp T i j r)
theorem WB(w:Wf h0)(O:OP M)(U:MB h0 k M x M.af.length z)(A:TB h0 kt X Y X kr cv h)(tv:TV M.kind M.af.length X Y cv T h)(Z:Rd h 9 (.slice v M.af.length vc) (eH V))(vv:VV M.kind M.af.length V)(a:i<X)(f:j<Y)(q r:Int){Q:VH}{G:ae->Prop}
  (n:MD M V q r T i j=none->∀g,Ok h0 g->Q (two [] 2) g)
  (p:∀R,MD M V q r T i j=some R->∀D g,TB h0 kt X Y X kr D g->TV M.kind M.af.length X Y D R g->Rd g 9 (.slice v M.af.length vc) (eH V)->G g):
  adN k kt X (i:Int) (j:Int) v M.af.length vc q r Q G h:=by
 have hn:=O.n;unfold MD at n p;have B:=U.ok A.ok;refine⟨_,B.all,(WA A.ok.wf O B.row Z vv q r).mono ?_⟩;rintro _ g1 ⟨m,d⟩
 cases L:kQ (aX M.kind) (gm M) V q r with
 |none=>
  rw[L]at d n;subst d;exact⟨_,_,_,_,rfl,aa (λ_=>n rfl _ (A.ok.trans m)) (λe=>by cases e)⟩
 | some s=>
  rw[L]at d n p;obtain⟨H,K,rfl,rs,vs⟩:=d;dsimp only at n p;have b:=(A.qC m).room 30;have E:TV M.kind M.af.length X Y cv T (Go.Ab.room g1 30):=(tv.ok m).ok ((Ok.refl m.wf).room 30);have P:=U.ok b.ok;obtain⟨ad,c,ec,rc,J⟩:=E.at_ i j a f;have C:=b.ldV a f;rw[ec]at C;refine⟨_,_,_,_,rfl,aa (λe=>by cases e) (λ_=>⟨_,Dh yQ zn a,_,_,_,b.WZ a (Nat.le_refl _),_,dt _,_,P.l0,_,Dh yQ zn a,_,_,_,b.WZ a (Nat.le_refl _),_,Dh nQ ny f,_,_,_,C,(ZA b.ok.wf hn rc J (Rd.ok rs ((Ok.refl m.wf).room 30)) vs).mono ?_⟩)⟩;rintro _ g2 ⟨I,d⟩;have o:=b.qC I;have N:=E.ok I
  cases W:nD (aX M.kind) (dP T i j) s with
  |none=>
   rw[W]at d n;subst d;obtain⟨u,F,t,_,_,_⟩:=o.YH w a f (y:=nA) rfl rfl;exact⟨_,_,_,_,rfl,_,Dh nQ ny f,u,F,⟨o.WZ a (Nat.le_refl _),kx _ _ _⟩,aa (λ_=>n rfl _ t.ok) (λe=>by cases e)⟩
  |some l=>
   rw[W]at d p;obtain⟨H,K,rfl,rl,vl⟩:=d;obtain⟨u,F,t,S,_,_⟩:=o.YH w a f (y:= .slice H M.af.length K) (OB _ _ _) (by cases H<;>rfl);exact⟨_,_,_,_,rfl,_,Dh nQ ny f,u,F,⟨o.WZ a (Nat.le_refl _),kx _ _ _⟩,aa (λe=>by cases e) (λ_=>p _ rfl _ _ t (N.put a f S rl vl) (S _ _ ((Rd.ok (Rd.ok Z m) ((Ok.refl m.wf).room 30)).ok I)))⟩
end
end
section
def RW(M:bp)(B:Option LM)(xs ys:List Int)(i:Nat)(T:List LM):Option (List UInt8):=match bd (rh (aX M.kind) (gm M) B xs ys) (xs.length+1-i) i T with
 |none=>none
 |some T=>oM (aX M.kind) (gm M) (dP T xs.length ys.length)
def Sj(M:bp)(B:Option LM)(xs ys:List Int)(i j:Nat)(T:List LM):Option (List UInt8):=match bd (mV (aX M.kind) (gm M) B xs ys i) (ys.length+1-j) j T with
 |none=>none
 |some T=>RW M B xs ys (i+1) T
def RY(M:bp)(B:Option LM)(xs ys:List Int)(i j:Nat)(V:List (List UInt8))(q:Nat)(T:List LM):Option (List UInt8):=match bd (oO (aX M.kind) (gm M) xs ys V i j) (4-q) q T with
 |none=>none
 |some T=>Sj M B xs ys i (j+1) T
section
variable {M:bp} {B:Option LM} {xs ys:List Int} {i j q:Nat} {V:List (List UInt8)} {T:List LM}
theorem aau(a:i<xs.length+1):RW M B xs ys i T=Sj M B xs ys i 0 T:=by
 unfold RW Sj;rw[fi _ a];have e:rh (aX M.kind) (gm M) B xs ys T i=bd (mV (aX M.kind) (gm M) B xs ys i) (ys.length+1-0) 0 T:=rfl;rw[e]
 cases bd (mV (aX M.kind) (gm M) B xs ys i) (ys.length+1-0) 0 T<;>rfl
theorem Xi:Sj M B xs ys i (ys.length+1) T=RW M B xs ys (i+1) T:=by unfold Sj;rw[iK]
theorem Sk(b:j<ys.length+1):Sj M B xs ys i j T=match fX (aX M.kind) (dP T i j) B with|none=>none|some v=>RY M B xs ys i j v 1 (fp T i j v):=by
 unfold RY;have a:Sj M B xs ys i j T=match (match fX (aX M.kind) (dP T i j) B with|none=>none|some v=>bd (oO (aX M.kind) (gm M) xs ys v i j) 3 1 (fp T i j v))with|none=>none|some T=>Sj M B xs ys i (j+1) T:=by
  conv=>lhs;unfold Sj
  rw[fi _ b];have e:mV (aX M.kind) (gm M) B xs ys i T j=(match fX (aX M.kind) (dP T i j) B with|none=>none|some v=>bd (oO (aX M.kind) (gm M) xs ys v i j) 3 1 (fp T i j v)):=by
   unfold mV
   cases fX (aX M.kind) (dP T i j) B<;>rfl
  rw[e];generalize (match fX (aX M.kind) (dP T i j) B with|none=>none|some v=>bd (oO (aX M.kind) (gm M) xs ys v i j) 3 1 (fp T i j v))=o
  cases o<;>rfl
 rw[a]
 cases fX (aX M.kind) (dP T i j) B<;>rfl
theorem Xj:RY M B xs ys i j V 4 T=Sj M B xs ys i (j+1) T:=by unfold RY;rw[iK]
theorem I8(a:q<4)(b:xs.length<i+q%2\/ys.length<j+q/2):RY M B xs ys i j V q T=RY M B xs ys i j V (q+1) T:=by
 unfold RY;rw[fi _ a];unfold oO;rw[if_pos b]
theorem Sl(a:q<4)(b:¬(xs.length<i+q%2\/ys.length<j+q/2)):RY M B xs ys i j V q T=match MD M V (bP xs i (q%2)) (bP ys j (q/2)) T (i+q%2) (j+q/2)with|none=>none|some T=>RY M B xs ys i j V (q+1) T:=by
 unfold RY;rw[fi _ a];have e:oO (aX M.kind) (gm M) xs ys V i j T q=MD M V (bP xs i (q%2)) (bP ys j (q/2)) T (i+q%2) (j+q/2):=by
  unfold oO MD;rw[if_neg b]
  cases kQ (aX M.kind) (gm M) V (bP xs i (q%2)) (bP ys j (q/2))with
  |none=>rfl
  |some s=>dsimp only;cases nD (aX M.kind) (dP T (i+q%2) (j+q/2)) s<;>rfl
 rw[e]
 cases MD M V (bP xs i (q%2)) (bP ys j (q/2)) T (i+q%2) (j+q/2)<;>rfl
end
theorem aeV{q:Nat}(h:q=1\/q=2\/q=3):wrap .i64 ((BitVec.ofInt (IntKind.bits .i64) (q:Int)&&&BitVec.ofInt (IntKind.bits .i64) 1).toNat:Int)=((q%2:Nat):Int):=by
 rcases h with rfl|rfl|rfl<;>decide
theorem aeW{q:Nat}(h:q=1\/q=2\/q=3):ax SS.P .shr 3 (iA q) (.int .u64 1)=some (.int .i64 ((q/2:Nat):Int)):=by
 rcases h with rfl|rfl|rfl<;>kernel_rfl
theorem K9{i j:Nat}(h:i+j<=1000000000):wrap .i64 ((i:Int)+((j:Nat):Int))=((i+j:Nat):Int):=by rw[aB (by omega) (by omega)];omega
section
variable {h0:ae} {M:bp} {x:Option Addr} {z k kt:Nat} {xa ya:Option Addr} {xc yc:Nat} {xs ys:List Int} {B:Option LM} {b:Option Addr} {bn bc:Nat}
theorem ZH(w:Wf h0)(mo:OP M)(mb:MB h0 k M x M.af.length z)(hx:xs.length<=200)(hy:ys.length<=200)(rx:dO h0 (.slice xa xs.length xc) xs)(ry:dO h0 (.slice ya ys.length yc) ys)(sb:StB M.kind M.af.length h0 b bn bc B){Q:VH}{Z:Nat->Nat}{d:Nat->Nat->Value}{T:List LM}{g:ae}
  (S:TB h0 kt (xs.length+1) (ys.length+1) (xs.length+1) Z d g) (tv:TV M.kind M.af.length (xs.length+1) (ys.length+1) d T g) (hQ:∀v g,oQ h0 (RW M B xs ys 0 T) v g->Q v g):
  LL SS cJ [1,1,1,1,1,1,1,0,1,0,0] (gC xa xs.length xc ya ys.length yc k kt (xs.length+1) b bn bc 0) g (KK SS cJ [1,1,1,1,1,1,1,0,1,0] [] (EE SS cJ Q)):=by
 obtain⟨G,hG⟩:∃G,G=RW M B xs ys 0 T:=⟨_,rfl⟩
 rw[<-hG]at hQ;obtain⟨X,hX⟩:∃X,X=xs.length+1:=⟨_,rfl⟩
 obtain⟨Y,hY⟩:∃Y,Y=ys.length+1:=⟨_,rfl⟩
 rw[<-hX,<-hY]at S tv;rw[<-hX];have hn:=mo.n;refine Ei (bE M x M.af.length z) xa xs.length xc ya ys.length yc k kt X b bn bc (λmz i g=>i<=X/\mz=X-i/\∃d T,TB h0 kt X Y X Z d g/\TV M.kind M.af.length X Y d T g/\RW M B xs ys i T=G) _ (λmz i=>?_) X (i:=0) ⟨by omega,rfl,d,T,S,tv,hG.symm⟩;intros;rename_i g1 x5;obtain⟨f1,f2,d,T,S,tv,L⟩:=x5;refine aa (λq1=>?_) (λq1=>?_)
 ·have m:i<X:=by have:=dT q1;omega
  rw[aau (by omega)]at L;refine Ej (bE M x M.af.length z) xa xs.length xc ya ys.length yc k kt X b bn bc _ mz i (λW j g=>j<=Y/\W=Y-j/\∃d T,TB h0 kt X Y X Z d g/\TV M.kind M.af.length X Y d T g/\Sj M B xs ys i j T=G) _ (λW j=>?_) Y (j:=0) ⟨by omega,rfl,d,T,S,tv,L⟩;intros;rename_i g2 x3;obtain⟨d1,d2,y1,T2,x0,x2,r⟩:=x3;refine aa (λq2=>?_) (λq2=>?_)
  ·have A:j<Y:=by have:=dT q2;omega
   rw[Sk (by omega)]at r;have a:=x0.room 15;have O:TV M.kind M.af.length X Y y1 T2 (Go.Ab.room g2 15):=x2.ok ((Ok.refl x0.ok.wf).room 15);have H:=mb.ok a.ok;obtain⟨ad,c,ec,rc,vc⟩:=O.at_ i j m A;have F:=a.ldV m A;rw[ec]at F;refine⟨_,H.all,_,Dh yQ zn m,_,_,_,a.WZ m (Nat.le_refl _),_,Dh nQ ny A,_,_,_,F,(YX a.ok.wf mo H.row rc vc (sb.ok a.ok)).mono ?_⟩;rintro _ g3 ⟨o3,hv⟩;have x1:=a.qC o3;have x8:=O.ok o3
   cases C:fX (aX M.kind) (dP T2 i j) B with
   |none=>
    rw[C]at hv r;subst hv;exact⟨_,_,_,_,rfl,aa (λ_=>hQ _ _ ⟨by rw[<-r];rfl,x1.ok⟩) (λe=>by cases e)⟩
   | some V=>
    rw[C]at hv r;obtain⟨J,R,rfl,rl,vl⟩:=hv;dsimp only at r;obtain⟨u,st,x6,kp,_,_⟩:=x1.YH w m A (y:= .slice J M.af.length R) (OB _ _ _) (by cases J<;>rfl);have x7:=x8.put m A kp rl vl;have x9:=kp _ _ rl;refine⟨_,_,_,_,rfl,aa (λe=>by cases e) (λ_=>⟨_,Dh yQ zn m,_,_,_,x1.WZ m (Nat.le_refl _),_,Dh nQ ny A,u,st,?_⟩)⟩;refine Ek (bE M x M.af.length z) xa xs.length xc ya ys.length yc k kt X b bn bc _ mz i _ W j J M.af.length R (λE q g=>1<=q/\q<=4/\E=4-q/\∃d T,TB h0 kt X Y X Z d g/\TV M.kind M.af.length X Y d T g/\Rd g 9 (.slice J M.af.length R) (eH V)/\RY M B xs ys i j V q T=G) _ (λE q=>?_) 3 (q:=1) ⟨by omega,by omega,rfl,_,_,x6,x7,x9,r⟩;intros;rename_i g5 x4;obtain⟨b1,b2,b3,y3,T6,s,N,U,h⟩:=x4;refine aa (λq3=>?_) (λq3=>?_)
    ·have hq:q=1\/q=2\/q=3:=by have:=dT q3;omega
     have P:q<4:=by omega
     have y0:wrap .i64 ((q:Int)+1)=((q+1:Nat):Int):=aO P (by omega);refine⟨_,aeW hq,?_⟩;dsimp only;rw[aeV hq,K9 (show i+q%2<=1000000000 by omega),K9 (show j+q/2<=1000000000 by omega),y0];refine aa (λq4=>?_) (λq4=>aa (λq5=>?_) (λq5=>?_))
     ·have hc:xs.length<i+q%2\/ys.length<j+q/2:= .inl (by have:=dT q4;omega);exact cd (4-(q+1)) (by omega) ⟨by omega,by omega,rfl,_,_,s,N,U,by rw[<-I8 P hc];exact h⟩
     ·have hc:xs.length<i+q%2\/ys.length<j+q/2:= .inr (by have:=dT q5;omega);exact cd (4-(q+1)) (by omega) ⟨by omega,by omega,rfl,_,_,s,N,U,by rw[<-I8 P hc];exact h⟩
     ·have y2:¬xs.length<i+q%2:=by have:=dF q4;omega
      have y4:¬ys.length<j+q/2:=by have:=dF q5;omega
      rw[Sl P (by omega)]at h;have f:=WB (i:=i+q%2) (j:=j+q/2) (Q:=Q) (G:=λg=>aJ (fm (fF xa xs.length xc ya ys.length yc k kt X b bn bc i j J M.af.length R) (λE q g=>1<=q/\q<=4/\E=4-q/\∃d T,TB h0 kt X Y X Z d g/\TV M.kind M.af.length X Y d T g/\Rd g 9 (.slice J M.af.length R) (eH V)/\RY M B xs ys i j V q T=G)) E [(.slice xa xs.length xc),(.slice ya ys.length yc),(pA k),(.slice b bn bc),(sA kt X X),(iA i),(iA j),(.slice J M.af.length R),(iA (q+1))] g) w mo mb s N U vl (by omega) (by omega) (bP xs i (q%2)) (bP ys j (q/2))
       (λe g ok=>hQ _ _ ⟨by rw[e]at h;rw[<-h];rfl,ok⟩)
       (λT' e y5 g t1 t2 t3=>cd (4-(q+1)) (by omega) ⟨by omega,by omega,rfl,_,_,t1,t2,t3,by rw[e]at h;exact h⟩)
      refine aa (λq6=>?_) (λq6=>?_)
      ·have h1:q%2=1:=by have:((q%2:Nat):Int)=1:=(by simpa using q6);omega
       obtain⟨p,C,K⟩:=dO.at_ (dO.ok rx s.ok) (i:=i) (by omega);have t:bP xs i (q%2)=xs.getD i 0:=if_pos h1;rw[t]at f;refine⟨_,C,_,K,aa (λD=>?_) (λD=>?_)⟩
       ·have I:q/2=1:=by have:((q/2:Nat):Int)=1:=(by simpa using D);omega
        obtain⟨p,C,K⟩:=dO.at_ (dO.ok ry s.ok) (i:=j) (by omega);have t:bP ys j (q/2)=ys.getD j 0:=if_pos I;rw[t]at f;exact⟨_,C,_,K,f⟩
       ·have I:¬q/2=1:=λe=>by rw[e]at D;exact absurd D (by decide)
        have t:bP ys j (q/2)=0:=if_neg I;rw[t]at f;exact f
      ·have h1:¬q%2=1:=λe=>by rw[e]at q6;exact absurd q6 (by decide)
       have t:bP xs i (q%2)=0:=if_neg h1;rw[t]at f;refine aa (λD=>?_) (λD=>?_)
       ·have I:q/2=1:=by have:((q/2:Nat):Int)=1:=(by simpa using D);omega
        obtain⟨p,C,K⟩:=dO.at_ (dO.ok ry s.ok) (i:=j) (by omega);have t:bP ys j (q/2)=ys.getD j 0:=if_pos I;rw[t]at f;exact⟨_,C,_,K,f⟩
       ·have I:¬q/2=1:=λe=>by rw[e]at D;exact absurd D (by decide)
        have t:bP ys j (q/2)=0:=if_neg I;rw[t]at f;exact f
    ·obtain rfl:q=4:=by have:=dF q3;omega
     rw[Xj]at h;rw[aO A (by omega)];exact cd (Y-(j+1)) (by omega) ⟨by omega,rfl,_,_,s,N,h⟩
  ·obtain rfl:j=Y:=by have:=dF q2;omega
   rw[hY,Xi]at r;rw[aO m (by omega)];exact cd (X-(i+1)) (by omega) ⟨by omega,rfl,_,_,x0,x2,r⟩
 ·obtain rfl:i=X:=by have:=dF q1;omega
  unfold RW at L;rw[hX,iK]at L;have L:oM (aX M.kind) (gm M) (dP T xs.length ys.length)=G:=L;have a:=S.room 15;have O:TV M.kind M.af.length i Y d T (Go.Ab.room g1 15):=tv.ok ((Ok.refl S.ok.wf).room 15);have H:=mb.ok a.ok;have m:xs.length<i:=by omega
  have A:ys.length<Y:=by omega
  obtain⟨ad,c,ec,rc,vc⟩:=O.at_ xs.length ys.length m A;have F:=a.ldV m A;rw[ec]at F;refine⟨_,H.all,_,Dh yQ zn m,_,_,_,a.WZ m (Nat.le_refl _),_,Dh nQ ny A,_,_,_,F,(Zw a.ok.wf mo H.row rc vc).mono ?_⟩;rintro _ g3 ⟨rfl,o3⟩;rw[L];obtain⟨l,n,C,K⟩:=ji (o:=G) (a.ok.trans o3);exact⟨l,n,C,hQ _ _ K⟩
end
end
section
theorem Xn{a b:Nat}(d:a<n)(c:b<m)(l:List (List UInt8)):dP (List.replicate n (List.replicate m l)) a b=l:=by
 unfold dP;rw[gD,gD,List.getElem?_replicate,if_pos d,Option.getD_some,List.getElem?_replicate,if_pos c];rfl
theorem YW{X Y:Nat}(l:List (List UInt8)):(List.replicate X (List.replicate Y l)).length=X/\∀a,a<X->((List.replicate X (List.replicate Y l)).getD a []).length=Y:=by
 refine⟨length_replicate,λa b=>?_⟩;rw[gD,List.getElem?_replicate,if_pos b];exact length_replicate
section
variable {h0:ae} {M:bp} {x:Option Addr} {z k kt:Nat} {xa ya:Option Addr} {xc yc:Nat} {xs ys:List Int} {B:Option LM} {b:Option Addr} {bn bc:Nat}
theorem ZG(w:Wf h0)(C:OP M)(mb:MB h0 k M x M.af.length z)(hx:xs.length<=200)(hy:ys.length<=200)(rx:dO h0 (.slice xa xs.length xc) xs)(ry:dO h0 (.slice ya ys.length yc) ys)(sb:StB M.kind M.af.length h0 b bn bc B){Q:VH}{g:ae}
  (ok:Ok h0 g) (hk:g.get kt=some (.cells (List.replicate (xs.length+1) nA) 103 1 true)) (nk:h0.next<=kt) (hQ:∀v g,oQ h0 (RW M B xs ys 0 (kh (aX M.kind) (gm M) xs ys)) v g->Q v g):
  LL SS cJ [1,1,1,1,1,0,1,0,0] (lC xa xs.length xc ya ys.length yc k kt (xs.length+1) b bn bc 0) g (KK SS cJ [1,1,1,1,1,0,1,0] [] (EE SS cJ Q)):=by
 obtain⟨X,hX⟩:∃X,X=xs.length+1:=⟨_,rfl⟩
 obtain⟨Y,hY⟩:∃Y,Y=ys.length+1:=⟨_,rfl⟩
 obtain⟨f,O⟩:∃f,f=bw (aX M.kind) M.af.length:=⟨_,rfl⟩
 rw[<-hX]at hk⊢;have hn:=C.n;have t0:TB h0 kt X Y 0 (λ_=>0) (λ_ _=>nA) g:=by
  refine⟨?_,λa o=>by omega,⟨nk,λa o=>by omega⟩,λa b o=>by omega,ok⟩;rw[hk];congr 2;refine ext_getElem (by simp) λa h1 h2=>?_;simp
 refine Eg (bE M x M.af.length z) xa xs.length xc ya ys.length yc k kt X b bn bc (λmz i g=>i<=X/\mz=X-i/\∃I r c,TB h0 kt X Y i I r g/\(∀a b,i<=a->r a b=nA)/\ZF h0 g M.af.length f r c (λa b=>a<i/\b<Y)) _ (λmz i=>?_) X (i:=0) ⟨by omega,rfl,_,_,λ_ _=>0,t0,λ_ _ _=>rfl,λa b s=>by omega⟩;intros;rename_i p x3;obtain⟨f1,f2,I,r,c,D,H,zf⟩:=x3;rw[aO (i:=ys.length) (n:=Y) (by omega) (by omega),<-hY];refine aa (λq1=>?_) (λq1=>?_)
 ·have N:i<X:=by have:=dT q1;omega
  have d:=D.qC ((Ok.refl D.ok.wf).push (.cells (List.replicate Y nA) 107 1 true));obtain⟨u,st,t,kp,nx⟩:=d.ad0 w N (aN p _) D.ok.nx (λa o=>by have:=D.ok.wf _ _ (D.row a o);omega) (λb=>H i b (Nat.le_refl _));refine⟨_,_,_,Uk Y (by omega),_,Dh yQ zn N,u,st,?_⟩;have y3:∀q l,VB p q l->VB (p.push (.cells (List.replicate Y nA) 107 1 true)) q l:=λq l m=>((Ok.refl D.ok.wf).push (.cells (List.replicate Y nA) 107 1 true)).ext _ _ m;refine Eh (bE M x M.af.length z) xa xs.length xc ya ys.length yc k kt X b bn bc _ mz i (λW j g=>j<=Y/\W=Y-j/\∃r c,TB h0 kt X Y (i+1) (λa=>if a=i then p.next else I a) r g/\(∀a b,i<a->r a b=nA)/\ZF h0 g M.af.length f r c (λa b=>b<Y/\(a<i\/(a=i/\b<j)))) _ (λW j=>?_) Y (j:=0) ⟨by omega,rfl,_,c,t,λa b o=>H a b (by omega),zf.mono (λq l m=>kp _ _ (y3 _ _ m)) (λa b s=>⟨by omega,s.1⟩)⟩;intros;rename_i L x2;obtain⟨d1,d2,y6,y4,K,E,V⟩:=x2;refine aa (λq2=>?_) (λq2=>?_)
  ·have hj:j<Y:=by have:=dT q2;omega
   have A:=K.room 9;have U:=mb.ok A.ok;have J:=A.WZ (i:=i) (by omega) (by omega);refine⟨_,Dh yQ zn N,_,_,_,J,_,U.all,(vh A.ok.wf C U.row).mono ?_⟩;rintro _ g3 ⟨kl,rfl,x1,nl,o3⟩;rw[<-O]at x1;have Z:=A.qC o3;obtain⟨u,st,x7,_,P,_⟩:=Z.YH w (i:=i) (j:=j) (by omega) hj (y:=sA kl M.af.length M.af.length) rfl rfl;have x9:∀q l,VB L q l->VB g3 q l:=λq l m=>o3.ext _ _ m;refine⟨_,_,_,rfl,_,Dh nQ ny hj,u,st,⟨Z.WZ (by omega) (by omega),kx _ _ _⟩,?_⟩;rw[aO hj (by omega)];refine cd (Y-(j+1)) (by omega) ⟨by omega,rfl,_,_,x7,λa b o=>?_,V.add (λq l m=>?_) (λq l m=>P _ _ (x9 _ _ m)) (P _ _ x1) (Nat.le_trans A.ok.nx nl) ?_ (λa b s=>?_) (λe a b s=>by omega)⟩
   ·unfold up2;rw[if_neg (by omega)];exact E a b o
   ·have:q<L.next:=K.ok.wf _ _ m;have:L.next<=(Go.Ab.room L 9).next:=Nat.le_add_right _ _;omega
   ·by_cases e:i=0/\j=0
    ·exact .inl e
    ·right;omega
   ·by_cases e:a=i/\b=j
    ·exact .inr e
    ·left;omega
  ·obtain rfl:j=Y:=by have:=dF q2;omega
   rw[aO N (by omega)];exact cd (X-(i+1)) (by omega) ⟨by omega,rfl,_,_,_,K,λa b o=>E a b (by omega),V.mono (λ_ _ m=>m) (λa b s=>⟨s.2,by omega⟩)⟩
 ·obtain rfl:i=X:=by have:=dF q1;omega
  have d:=D.room 11;have T:=mb.ok d.ok;have h:0<i/\0<Y:=by omega
  obtain⟨x5,y1,y0,_⟩:=zf 0 0 h;have J:=d.WZ (i:=0) h.1 (Nat.le_refl _);have x0:=d.ldV (i:=0) (j:=0) h.1 h.2;rw[x5]at x0;have F:VB (Go.Ab.room p 11) (c 0 0) f:=y1;have l1:=T.l1;have x8:M.start.toNat<M.af.length:=by have:=C.start;omega
  have x4:M.start=((M.start.toNat:Nat):Int):=by have:=C.start;omega
  rw[x4]at l1;have S:f.length=M.af.length:=by rw[O];exact NG _ _
  refine⟨_,Dh yQ zn (i:=0) h.1,_,_,_,J,_,Dh nQ ny (i:=0) h.2,_,_,_,x0,_,tG _,_,l1,_,mE _,_,T.l2,_,VB.ix ty x8,_,F.st ty (by omega) _,?_⟩;have m:=d.ok.wf _ _ F;have t:TB h0 kt i Y i I r ((dS.set (c 0 0) (.cells (eH (f.set M.start.toNat M.lead)) 9 1 true)).app (Go.Ab.room p 11)):=by
   refine⟨?_,λa o=>?_,d.new,d.inj,d.ok.set _ y0 m w⟩
   ·show((Go.Ab.room p 11).set (c 0 0) _).get kt=_;rw[ae.av,if_neg (kj d.out F (by decide))];exact d.out
   ·have:=d.row a o;show((Go.Ab.room p 11).set (c 0 0) _).get (I a)=_;rw[ae.av,if_neg (kj this F (by decide))];exact this
  have vz:VV M.kind M.af.length f:=by rw[O];exact VV.ON C.kind _
  have G:TV M.kind M.af.length i Y r (kh (aX M.kind) (gm M) xs ys) ((dS.set (c 0 0) (.cells (eH (f.set M.start.toNat M.lead)) 9 1 true)).app (Go.Ab.room p 11)):=by
   have e0:kh (aX M.kind) (gm M) xs ys=fp (List.replicate i (List.replicate Y f)) 0 0 (f.set M.start.toNat M.lead):=by
    unfold kh;rw[Dc,<-O,<-hX,<-hY];rfl
   rw[e0];obtain⟨r1,r2⟩:=YW (X:=i) (Y:=Y) f;obtain⟨s1,s2⟩:=KO r1 r2 h.1 h.2 (f.set M.start.toNat M.lead);refine⟨s1,s2,λa b o R=>?_⟩;rw[Jd r1 r2 h.1 h.2,Xn o R];obtain⟨ec,x6,y5,y2⟩:=zf a b ⟨o,R⟩;by_cases e:a=0/\b=0
   ·rw[if_pos e];obtain⟨rfl,rfl⟩:=e;refine⟨some ⟨c 0 0,0,none⟩,M.af.length,ec,?_,vz.set C.lead⟩;have v1:VB ((dS.set (c 0 0) (.cells (eH (f.set M.start.toNat M.lead)) 9 1 true)).app (Go.Ab.room p 11)) (c 0 0) (f.set M.start.toNat M.lead):=by
     show((Go.Ab.room p 11).set (c 0 0) _).get (c 0 0)=_;rw[ae.av,if_pos rfl]
    have:=v1.rd M.af.length;rw[length_set,S]at this;exact this
   ·rw[if_neg e];refine⟨some ⟨c a b,0,none⟩,M.af.length,ec,?_,vz⟩;have v1:VB ((dS.set (c 0 0) (.cells (eH (f.set M.start.toNat M.lead)) 9 1 true)).app (Go.Ab.room p 11)) (c a b) f:=by
     show((Go.Ab.room p 11).set (c 0 0) _).get (c a b)=_;rw[ae.av,if_neg (y2.resolve_left e)];exact x6
    have:=v1.rd M.af.length;rw[S]at this;exact this
  rw[hX]at t G⊢;rw[hY]at t G;exact ZH w C mb hx hy rx ry sb t G hQ
end
def wtQ(h:ae)(M:bp)(xs ys:List Int):VH:=λv g=>v=(if(bT M&&(eL xs&&eL ys))=true then MA (eE (aX M.kind) (gm M) xs ys)else two [] 1)/\Ok h g
theorem abO(w:Wf h){M:bp}(U:Small M){x:Option Addr}{y z:Nat}(r:dm h (.slice x y z) M.af){xa ya:Option Addr}{S xc I yc:Nat}{xs ys:List Int}(C:dO h (.slice xa S xc) xs)(E:dO h (.slice ya I yc) ys):
  FW SS 48 [.agg ⟨bE M x y z⟩,.slice xa S xc,.slice ya I yc] h (wtQ h M xs ys):=by
 obtain⟨k,A⟩:=eJ w r;obtain rfl:y=M.af.length:=k.len;obtain rfl:=dO.len C;obtain rfl:=dO.len E;refine abN (bE M x M.af.length z) xa xs.length xc ya ys.length yc h _ ⟨_,gL M x _ z,_,k.all,(lr A.wf U k.row).mono ?_⟩;rintro _ R ⟨rfl,H⟩;have c:=A.trans H;refine⟨_,rfl,aa (λq=>⟨?_,c⟩) (λq=>(zi (dO.ok C c)).mono ?_)⟩
 ·rw[not_eq_true']at q;rw[q];rfl
 rw[not_eq_false']at q;rintro _ D ⟨rfl,F⟩;obtain rfl:R=D:=F.symm;refine⟨_,rfl,aa (λj=>⟨?_,c⟩) (λj=>(zi (dO.ok E c)).mono ?_)⟩
 ·rw[not_eq_true']at j;rw[q,j];rfl
 rw[not_eq_false']at j;rintro _ D ⟨rfl,F⟩;obtain rfl:R=D:=F.symm;refine⟨_,rfl,aa (λm=>⟨?_,c⟩) (λm=>?_)⟩
 ·rw[not_eq_true']at m;rw[q,j,m];rfl
 rw[not_eq_false']at m;have P:∀g v,oQ h (eE (aX M.kind) (gm M) xs ys) v g->wtQ h M xs ys v g:=λg v a=>by
  refine⟨?_,a.2⟩;rw[q,j,m];exact a.1
 have J:=tN q;have u:=k.ok H;have p:∀l,eL l=true->l.length<=200:=λl p=>by
  unfold eL at p;rw[and_eq_true]at p;exact dT p.1
 have X:=p xs j;have hy:=p ys m;refine⟨_,u.all,(Zy c.wf J u.row).mono ?_⟩;rintro _ s ⟨L,a⟩;have f:=c.trans L;have N:=u.ok L;have t:∀(B:Option LM)(b:Option Addr)(bn bc:Nat),dX (aX M.kind) (gm M)=some B->StB M.kind M.af.length s b bn bc B->au (((0:Int) !=0)) (wtQ h M xs ys (.tuple ⟨[(strOf []),(.int .i64 0)]⟩) s) (xR (cj SS.P 106 (.int .i64 (wrap .i64 ((xs.length:Int)+1))) (.int .i64 (wrap .i64 ((xs.length:Int)+1)))) s λx0 O G K=>LL SS cJ [1,1,1,1,1,0,1,0,0] [(.slice xa xs.length xc),(.slice ya ys.length yc),(pA (h.next)),(.slice b bn bc),(sA (s.next) O G),(.int .i64 0)] K (KK SS cJ [1,1,1,1,1,0,1,0] [] (EE SS cJ (wtQ h M xs ys)))):=by
  intro B b bn bc Y sb;refine aa (λe=>by cases e) (λ_=>?_);rw[aO (i:=xs.length) (n:=xs.length+1) (by omega) (by omega)];refine⟨_,_,_,ac5 (xs.length+1) (by omega),?_⟩;have V:=(Ok.refl f.wf).push (.cells (List.replicate (xs.length+1) nA) 103 1 true);have T:RW M B xs ys 0 (kh (aX M.kind) (gm M) xs ys)=eE (aX M.kind) (gm M) xs ys:=by
   unfold RW eE;rw[Y,Nat.sub_zero];dsimp only
   cases bd (rh (aX M.kind) (gm M) B xs ys) (xs.length+1) 0 (kh (aX M.kind) (gm M) xs ys)<;>rfl
  exact ZG (kt:=s.next) f.wf J N X hy (dO.ok C f) (dO.ok E f) sb V (aN s _) (Nat.le_refl _) (λv g a=>P g v ⟨by rw[<-T];exact a.1,f.trans a.2⟩)
 cases e:dX (aX M.kind) (gm M)with
 |none=>
  rw[e]at a;subst a;exact⟨_,_,_,_,rfl,aa (λ_=>P _ _ ⟨by unfold eE;rw[e];rfl,f⟩) (λe=>by cases e)⟩
 | some o=>
  cases o with
  |none=>
   rw[e]at a;subst a;exact⟨_,_,_,_,rfl,t none none 0 0 e ⟨rfl,rfl,rfl⟩⟩
  |some B=>
   rw[e]at a;obtain⟨Q,d,rfl,Z,W⟩:=a;exact⟨_,_,_,_,rfl,t (some B) (some Q) _ d e ⟨⟨Q,rfl⟩,rfl,Z,W⟩⟩
end
end Go.Proofs.YtaaichlgdgjgjaaGreatDoor
end
section
namespace Go.Proofs.YtaaichlgdgjgjaaGreatDoor
open Go Go.Ab Go.Num Go.Num.bh
variable{p:List Int}
section
section
variable {K:Type} {S:bh K} {dec:List UInt8->K} {kind:Int}
def Iz(S:bh K)(dec:List UInt8->K)(M:bp):ck K:=eN S (mapM dec (gm M))
def Ns(S:bh K)(dec:List UInt8->K)(M:bp):adV K:=λx y=>S.mul (dec M.lead) (ck.val S (Iz S dec M) x y M.start.toNat)
theorem acX(m:1<=kind/\kind<=3)(f:sP S dec kind):GU (aX kind) (aq S) (λa=>aM kind a=true) dec where
 zero:=⟨sM m,f.zero⟩
 one:=by
  refine⟨?_,f.one⟩;have:kind=1\/kind=2\/kind=3:=by omega
  show aM kind (sS kind)=true;rcases this with rfl|rfl|rfl
  ·exact mW.2 (.inr (.inr (by decide)))
  ·exact qG (.inl rfl)
  ·exact qG (.inr rfl)
 xX:=λ{a} h=>by
  have d:(aq S).xX (dec a)=true↔dec a=S.zero:=uB;have g:(aX kind).xX a=true↔a=bL kind:=by show(a==bL kind)=true↔_;simp
  have l:dec a=S.zero↔a=bL kind:=⟨λe=>f.inj h (sM m) (e.trans f.zero.symm),λe=>by rw[e];exact f.zero⟩
  cases j:(aq S).xX (dec a)<;>cases k:(aX kind).xX a
  ·rfl
  ·rw[d.2 (l.2 (g.1 k))]at j;cases j
  ·rw[g.2 (l.1 (d.1 j))]at k;cases k
  ·rfl
 plus:=λ{a b c} h i e=>by
  obtain⟨d,g⟩:=f.plus h i e;exact⟨d,by show some _=some _;rw[g]⟩
 times:=λ{a b c} h i e=>by
  obtain⟨d,g⟩:=f.times h i e;exact⟨d,by show some _=some _;rw[g]⟩
 star:=λ{a c} h e=>by
  obtain⟨d,g⟩:=f.star h e;exact⟨d,by show some _=some _;rw[g]⟩
variable {M:bp}
theorem abL(d:OP M):Ci (λa=>aM M.kind a=true) (gm M):=by
 refine⟨d.lead,λs g f c=>?_,λs g a j=>?_⟩
 ·obtain⟨t,h,rfl⟩:=mem_map.1 g;by_cases e:t.f=[]
  ·have:(B0 t).fin=none:=if_pos e;rw[this]at c;cases c
  ·have:(B0 t).fin=some t.f:=if_neg e;rw[this]at c;obtain rfl:=oI c;exact d.fin t h e
 ·obtain⟨t,h,rfl⟩:=mem_map.1 g;obtain⟨b,i,rfl⟩:=mem_map.1 j;exact(d.arc t h b i).1
theorem Yd(g:OP M):kP (mapM dec (gm M)):=λs h a i=>by
 obtain⟨t,k,rfl⟩:=mem_map.1 h;obtain⟨j,c,rfl⟩:=mem_map.1 k;obtain⟨b,f,rfl⟩:=mem_map.1 i;obtain⟨e,d,rfl⟩:=mem_map.1 f;have:=g.arc j c e d;show e.t.toNat<((M.af.map B0).map (nz dec)).length;rw[lM,lM];omega
theorem VQ(h:eL p=true):∀s∈p,s≠0:=λs a e=>by
 unfold eL at h;rw[and_eq_true,List.all_eq_true]at h;have:=h.2 s a;rw[e]at this;exact absurd this (by decide)
theorem WC(f:sP S dec M.kind)(a:OP M){x y:List Int}(c:∀s∈x,s≠0)(h:∀s∈y,s≠0){w:List UInt8}(e:eE (aX M.kind) (gm M) x y=some w):aM M.kind w=true/\dec w=Ns S dec M x y:=by
 obtain⟨d,g⟩:=G8 (acX a.kind f) (abL a) e;refine⟨d,?_⟩;have b:(mapM dec (gm M)).start<(mapM dec (gm M)).bK.length:=by
  show M.start.toNat<((M.af.map B0).map (nz dec)).length;rw[lM,lM];have:=a.start;omega
 exact LA (Yd a) b c h g
def RJ(dec:List UInt8->K)(a:gN):q7 K:=⟨a.i,a.o,dec a.w,a.t.toNat⟩
theorem Wv(M:bp):(Iz S dec M).n=M.af.length:=by
 show((M.af.map B0).map (nz dec)).length=_;rw[lM,lM]
theorem aal{q:Nat}{s:dA}(h:M.af[q]?=some s):(mapM dec (gm M)).bK.getD q dQ=nz dec (B0 s):=by
 show((M.af.map B0).map (nz dec)).getD q dQ=_;rw[gD,getElem?_map,getElem?_map,h];rfl
theorem Nt{q:Nat}{s:dA}(h:M.af[q]?=some s):(Iz S dec M).fin q=if s.f=[]then S.zero else dec s.f:=by
 show((mapM dec (gm M)).bK.getD q dQ).fin.getD S.zero=_;rw[aal h];show((if s.f=[]then none else some s.f:Option (List UInt8)).map dec).getD S.zero=_;split<;>rfl
theorem ze{q:Nat}{s:dA}(h:M.af[q]?=some s):(Iz S dec M).arcs q=s.arcs.map (RJ dec):=by
 show(bF (mapM dec (gm M)) q).map _=_;show(((mapM dec (gm M)).bK.getD q dQ).arcs).map _=_;rw[aal h];show((s.arcs.map C9).map (mapA dec)).map _=_;rw[map_map,map_map];rfl
theorem Wt(low:Nat){a:gN}(h:0<=a.t):RJ dec (EC low a)=AV low (RJ dec a):=by
 unfold RJ EC AV;have:(a.t+(low:Int)).toNat=low+a.t.toNat:=by omega
 rw[this]
theorem SA(low:Nat){s:dA}(h:∀a∈s.arcs,0<=a.t):(s.arcs.map (EC low)).map (RJ dec)=(s.arcs.map (RJ dec)).map (AV low):=by
 rw[map_map,map_map];exact List.map_congr_left λa b=>Wt low (h a b)
variable {C X:bp} {L R:List dA} {low:Nat}
theorem NZ{f:dA->dA}(a:C.af=L++X.af.map f++R)(b:L.length=low){q:Nat}{s:dA}(h:X.af[q]?=some s):C.af[low+q]?=some (f s):=by
 have c:=(List.getElem?_eq_some_iff.1 h).1;rw[a,append_assoc,List.getElem?_append_right (by omega),List.getElem?_append_left (by rw[lM];omega),show low+q-L.length=q by omega,getElem?_map,h];rfl
theorem CN(j:C.af=L++X.af.map (lT low none)++R)(l:L.length=low)(k:R8 X){t:Nat}(o:t<C.af.length/\(t<low\/low+X.af.length<=t)):∀x y,∀q,q<X.af.length->ck.val S (Iz S dec C) x y (low+q)=ck.val S (Iz S dec X) x y q:=by
 have i:(Iz S dec X).n=X.af.length:=Wv X;have f:∀q,q<(Iz S dec X).n->∃s,X.af[q]?=some s:=λq d=>⟨_,gE (by omega)⟩
 have b:nW (Iz S dec C) (Iz S dec X) low (λ_=>none) t:=by
  refine⟨?_,?_,λq d a g=>?_,λq d=>?_⟩
  ·rw[i,Wv,j];simp;omega
  ·rw[i,Wv];exact o
  ·obtain⟨s,c⟩:=f q d;rw[ze c]at g;obtain⟨m,n,rfl⟩:=mem_map.1 g;have:=k.to s (List.mem_of_getElem? c) m n;rw[i];show m.t.toNat<_;omega
  ·obtain⟨s,c⟩:=f q d;rw[ze c,ze (NZ j l c)];have e:(lT low none s).arcs=s.arcs.map (EC low):=by unfold lT wI;split<;>rfl
   rw[e,SA low λa g=>(k.to s (List.mem_of_getElem? c) a g).1];exact(append_nil _).symm
 intro x y q d;refine b.jA (λ_ _=>rfl) (λq d=>?_) (x.length+y.length) x y (Nat.le_refl _) q (by omega);obtain⟨s,c⟩:=f q d;rw[Nt c,Nt (NZ j l c)];have e:(lT low none s).f=s.f:=by
  unfold lT wI;split
  ·next h=>exact h.symm
  ·rfl
 rw[e]
end
end
variable{n:Nat}{z:Int}
section
section
variable {K:Type} {S:bh K} {dec:List UInt8->K} {A B:bp}
theorem XV(b:1<=A.kind/\A.kind<=3)(a:sP S dec A.kind):dec (dz A.kind)=S.one:=by rw[Mx b];exact a.one
theorem To(x y:List Int):emp S x y S.zero=S.zero:=by unfold emp;split<;>rfl
theorem tn(h:0<=z):((n:Int)+z).toNat=n+z.toNat:=by omega
theorem qA:(ft A B).af=⟨[],[⟨0,0,A.lead,((1:Nat):Int)+A.start⟩,⟨0,0,B.lead,((A.af.length+1:Nat):Int)+B.start⟩]⟩::(A.af.map (lT 1 none)++B.af.map (lT (A.af.length+1) none)):=by
 unfold ft pG;simp
theorem RK(i:R8 A)(j:R8 B)(n:dec (dz A.kind)=S.one)(x y:List Int):Ns S dec (ft A B) x y=S.add (Ns S dec A x y) (Ns S dec B x y):=by
 have c:=qA (A:=A) (B:=B);have g:(ft A B).af[0]?=some ⟨[],[⟨0,0,A.lead,((1:Nat):Int)+A.start⟩,⟨0,0,B.lead,((A.af.length+1:Nat):Int)+B.start⟩]⟩:=by rw[c];rfl
 have d:(ft A B).af.length=1+A.af.length+B.af.length:=by rw[c];simp;omega
 have o:=i.start;have l:=j.start;have h:((((1:Nat):Int)+A.start)).toNat=1+A.start.toNat:=tn o.1;have k:((((A.af.length+1:Nat):Int)+B.start)).toNat=(A.af.length+1)+B.start.toNat:=tn l.1;have m:ck.val S (Iz S dec (ft A B)) x y 0=S.add (S.mul (dec A.lead) (ck.val S (Iz S dec A) x y A.start.toNat)) (S.mul (dec B.lead) (ck.val S (Iz S dec B) x y B.start.toNat)):=by
  have e:∀a∈(Iz S dec (ft A B)).arcs 0,a.i=0/\a.o=0/\a.t<(Iz S dec (ft A B)).n:=λa e=>by
   rw[ze g]at e;rw[Wv,d];obtain⟨b,f,rfl⟩:=mem_map.1 e;rcases mem_cons.1 f with rfl|f
   ·exact⟨rfl,rfl,by show(((1:Nat):Int)+A.start).toNat<_;rw[h];omega⟩
   ·have:=mem_singleton.1 f;subst this;exact⟨rfl,rfl,by show(((A.af.length+1:Nat):Int)+B.start).toNat<_;rw[k];omega⟩
  rw[G7 (by rw[Wv,d];omega) e,ze g,Nt g,if_pos rfl,To,S.zero_add];show S.add (S.mul (dec A.lead) (ck.val S (Iz S dec (ft A B)) x y (((1:Nat):Int)+A.start).toNat)) (S.add (S.mul (dec B.lead) (ck.val S (Iz S dec (ft A B)) x y (((A.af.length+1:Nat):Int)+B.start).toNat)) S.zero)=_;rw[add_zero,h,k];rw[CN (S:=S) (dec:=dec) (C:=ft A B) (X:=A) (L:=[⟨[],[⟨0,0,A.lead,((1:Nat):Int)+A.start⟩,⟨0,0,B.lead,((A.af.length+1:Nat):Int)+B.start⟩]⟩]) (R:=B.af.map (lT (A.af.length+1) none)) (low:=1) (by rw[c];simp) rfl i (t:=0) ⟨by omega,by omega⟩ x y _ (by omega)];rw[CN (S:=S) (dec:=dec) (C:=ft A B) (X:=B) (L:=⟨[],[⟨0,0,A.lead,((1:Nat):Int)+A.start⟩,⟨0,0,B.lead,((A.af.length+1:Nat):Int)+B.start⟩]⟩::A.af.map (lT 1 none)) (R:=[]) (low:=A.af.length+1) (by rw[c];simp) (by simp) j (t:=0) ⟨by omega,by omega⟩ x y _ (by omega)]
 show S.mul (dec (dz A.kind)) (ck.val S (Iz S dec (ft A B)) x y 0)=_;rw[n,S.one_mul,m];rfl
end
end
end Go.Proofs.YtaaichlgdgjgjaaGreatDoor
end
section
namespace Go.Proofs.YtaaichlgdgjgjaaGreatDoor
open Go Go.Ab Go.Num
variable{M:bp}{z:Int}{n:Nat}{m:Nat}{k:Nat}
section
structure StW(kind:Int)(N:Nat)(s:dA):Prop where
 f:s.f=[]\/bN kind s.f=true
 a:∀q∈s.arcs,hZ kind N q=true
theorem KV{a:Int}{N:Nat}:∀{l:List dA}{b:Int},b+cg l<=30000->(∀s∈l,StW a N s)->nV a N b l=true
 |[],_,_,_=>rfl
 |s::l,b,h,c=>by
  rw[df]at h;have d:=c s (List.mem_cons_self ..);unfold nV;rw[and_eq_true,and_eq_true,and_eq_true];refine⟨⟨⟨decide_eq_true (by omega),?_⟩,List.all_eq_true.2 d.a⟩,KV (by omega) λt f=>c t (List.mem_cons_of_mem _ f)⟩;rcases d.f with e|e
  ·rw[e];rfl
  ·rw[e,Bool.or_true]
structure ZQ(M:bp):Prop where
 kind:1<=M.kind/\M.kind<=3
 n:1<=M.af.length/\M.af.length<=3000
 start:0<=M.start/\M.start<M.af.length
 lead:bN M.kind M.lead=true
 sum:cg M.af<=30000
 st:∀s∈M.af,StW M.kind M.af.length s
theorem ZQ.valid(v:ZQ M):bT M=true:=by
 unfold bT;simp only[and_eq_true,decide_eq_true_eq];exact⟨⟨⟨⟨⟨⟨⟨v.kind.1,v.kind.2⟩,v.n.1⟩,v.n.2⟩,v.start.1⟩,v.start.2⟩,v.lead⟩,KV (by have:=v.sum;omega) v.st⟩
theorem Nu(h:bT M=true)(a:cg M.af<=30000):ZQ M:=by
 unfold bT at h;simp only[and_eq_true,decide_eq_true_eq]at h;obtain⟨⟨⟨⟨⟨⟨⟨e,f⟩,c⟩,i⟩,l⟩,k⟩,g⟩,d⟩:=h;refine⟨⟨e,f⟩,⟨c,i⟩,⟨l,k⟩,g,a,λs a=>?_⟩;obtain⟨b,j⟩:=Az d s a;refine⟨?_,j⟩;rw[Bool.or_eq_true]at b;exact b.imp cp id
theorem DO{a:List UInt8}(h:ay a=true):a.length<=802:=by
 have r:=aY.1 h;obtain⟨b,c⟩:=HY r;have d:=r.ln;have e:=r.ld;rw[r.txt,Oe,length_append,length_append,<-b];have:(if Num.val (ak a)=1 then[]else 47::ag (Num.val (ak a))).length<=401:=by
  split
  ·simp
  ·rw[length_cons,<-c];omega
 have:(if Num.isNeg a=true/\Num.val (Num.numOf a)≠0 then[45]else([]:List UInt8)).length<=1:=by split<;>simp
 omega
theorem xd{a:List UInt8}(h:bN z a=true):ay a=true:=by
 unfold bN at h;rw[and_eq_true,and_eq_true]at h;exact h.1.2
theorem ZQ.small(v:ZQ M)(b:M.af.length<=300)(d:cg M.af<=2000):Small M where
 lead:=by have:=DO (xd v.lead);omega
 bK:=b
 fin:=λs a=>by
  rcases(v.st s a).f with e|e
  ·rw[e];simp
  ·have:=DO (xd e);omega
 arcs:=λs a=>by
  obtain⟨i,f,e⟩:=List.mem_iff_getElem.1 a;have:=KW (l:=M.af) (i:=i) (s:=s) (by rw[gE f,e]);omega
 w:=λs a q c=>by
  have h:=(v.st s a).a q c;unfold hZ at h;rw[and_eq_true]at h;have:=DO (xd h.2);omega
 tot:=d
theorem ada(a:1<=z/\z<=3):bN z (dz z)=true:=by
 have:z=1\/z=2\/z=3:=by omega
 rcases this with rfl|rfl|rfl<;>decide
theorem xv{q:gN}(b:sZ q.i=true)(c:sZ q.o=true)(a:0<=q.t/\q.t<n)(d:bN z q.w=true):hZ z n q=true:=by
 unfold hZ;rw[b,c,d,decide_eq_true a.1,decide_eq_true a.2];rfl
theorem Z5{b:Option Int}{s:dA}(h:StW z n s)(l:k+n<=m)(e:∀t,b=some t->0<=t/\t<m):StW z m (lT k b s):=by
 have c:∀q∈s.arcs.map (EC k),hZ z m q=true:=λq a=>by
  obtain⟨p,i,rfl⟩:=mem_map.1 a;have:=h.a p i;unfold hZ at this;simp only[and_eq_true,decide_eq_true_eq]at this;obtain⟨⟨⟨⟨f,g⟩,o⟩,r⟩,j⟩:=this;exact xv f g ⟨by show 0<=p.t+(k:Int);omega,by show p.t+(k:Int)<m;omega⟩ j
 unfold lT;split
 ·exact⟨.inl rfl,c⟩
 ·next d=>
  cases b with
  |none=>exact⟨h.f,c⟩
  |some t=>
   refine⟨.inl rfl,λq a=>?_⟩;rcases List.mem_append.1 a with a|a
   ·exact c q a
   ·have:=mem_singleton.1 a;subst this;exact xv rfl rfl (e t rfl) (h.f.resolve_left d)
section
variable {A B:bp}
theorem FO(a:Nat)(b:Option Int):cg (M.af.map (lT a b))<=cg M.af+M.af.length:=lU a b M.af
theorem Zm(d:ZQ A)(i:ZQ B)(j:A.kind=B.kind)(n:A.af.length<=100)(o:B.af.length<=100)(m:cg A.af<=500)(p:cg B.af<=500):ZQ (ft A B)/\(ft A B).af.length=1+A.af.length+B.af.length/\cg (ft A B).af<=2+(cg A.af+A.af.length)+(cg B.af+B.af.length):=by
 have c:=qA (A:=A) (B:=B);have b:(ft A B).af.length=1+A.af.length+B.af.length:=by rw[c];simp;omega
 have g:cg (ft A B).af<=2+(cg A.af+A.af.length)+(cg B.af+B.af.length):=by
  have l:=FO (M:=A) 1 none;have u:=FO (M:=B) (A.af.length+1) none;rw[c,df,dZ];show 2+_<=_;omega
 have r:=d.start;have k:=i.start;refine⟨⟨d.kind,⟨by omega,by omega⟩,⟨Int.le_refl _,by rw[b];show(0:Int)<_;omega⟩,ada d.kind,by omega,λs a=>?_⟩,b,g⟩;rw[b];show StW A.kind _ s;rw[c]at a;rcases mem_cons.1 a with rfl|a
 ·refine⟨.inl rfl,λq f=>?_⟩;rcases mem_cons.1 f with rfl|f
  ·exact xv rfl rfl ⟨by show 0<=((1:Nat):Int)+A.start;omega,by show((1:Nat):Int)+A.start<_;omega⟩ d.lead
  ·have:=mem_singleton.1 f;subst this;exact xv rfl rfl ⟨by show 0<=((A.af.length+1:Nat):Int)+B.start;omega,by show((A.af.length+1:Nat):Int)+B.start<_;omega⟩ (by rw[j];exact i.lead)
 ·rcases List.mem_append.1 a with a|a
  ·obtain⟨t,h,rfl⟩:=mem_map.1 a;exact Z5 (d.st t h) (by omega) (λt e=>by cases e)
  ·obtain⟨t,h,rfl⟩:=mem_map.1 a;have:=i.st t h;rw[<-j]at this;exact Z5 this (by omega) (λt e=>by cases e)
end
theorem N2{b:Option Int}{s:dA}(h:s.arcs.all zC=true):(lT n b s).arcs.all zC=true:=by
 have a:(s.arcs.map (EC n)).all zC=true:=by
  rw[List.all_map];exact h
 unfold lT;split
 ·exact a
 ·cases b with
  |none=>exact a
  |some t=>
   show(s.arcs.map (EC n)++[(⟨0,0,s.f,t⟩:gN)]).all zC=true;rw[List.all_append,a];rfl
end
noncomputable def T3:FD:=cI Tryz.f11 []
theorem PZ(j:OA)(i l:Nat)(k:OA)(g m:Nat)(h:ae)(Q:VH)(n:au (decide ((wrap .i64 ((i:Int)+(g:Int)):Int)<=6)) (FW SS 15 [(.slice j i l)] h λe f=>yB e λd=>au d (FW SS 15 [(.slice k g m)] f λb c=>yB b λa=>Q (.bool a) c) (Q (.bool false) f)) (Q (.bool false) h)):FW SS 11 [(.slice j i l),(.slice k g m)] h Q:=cN T3 Tryz.func11 (ai n)
noncomputable def gw:FD:=cI Tryz.f24 [([1,1,0,1,0,0],[1,3]),([1,1,0,1,0,0,1,0,0,1,1,0,0],[1,3,4])]
abbrev iV(k:Nat)(i:Nat):LV:=[(pA k),(iA i)]
abbrev m4(k i:Nat)(j:Nat):LV:=[(pA k),(iA i),(iA j)]
theorem TZ(k:LV)(h:ae)(Q:VH)(l:xN (ew SS.P 29 (.agg ⟨k⟩)) h λ_ j=>fP 29 (pA (h.next)) 3 λi=>lL 27 j i λ_ g _=>au (decide (((g:Int):Int)>8)) (Q (.bool true) j) (lA 29 j (pA (h.next)) λf=>FW SS 56 [(.agg ⟨f⟩)] j λd e=>yI .i64 d λc=>au (decide ((c:Int)>40)) (Q (.bool true) e) (fP 29 (pA (h.next)) 2 λb=>lS e b λa=>au (decide ((((a:LB).length:Int):Int)>40)) (Q (.bool true) e) (LL SS gw [1,1,0,1,0,0] (iV (h.next) 0) e (KK SS gw [1,1,0,1,0] [] (EE SS gw Q)))))):FW SS 24 [(.agg ⟨k⟩)] h Q:=cN gw Tryz.func24 (ai l)
theorem Ae(q:LV)(k:Nat)(n:Nat->Nat->ae->Prop)(Q:VH)(step:∀(m:Nat) (i:Nat) (p:Nat->Value) (h:ae),n m i h->fP 29 (pA k) 3 λl=>lL 27 h l λ_ j _=>au (decide (((i:Int):Int)<(j:Int))) (fP 29 (pA k) 3 λg=>lL 27 h g λd e f=>iP 27 (.slice d e f) (iA i) λc=>fP 73 (.pointer (some c)) 0 λb=>lS h b λa=>au (decide ((((a:LB).length:Int):Int)>40)) (Q (.bool true) h) (LL SS gw [1,1,0,1,0,0,1,0,0,1,1,0,0] (m4 k i 0) h (KK SS gw [1,0,0,1,1,0] [1,1,0,1,0,0] (RR gw [1,1,0,1,0,0] (fm (iV k) n) m (KK SS gw [1,1,0,1,0] [] (EE SS gw Q)))))) (Q (.bool false) h))(m:Nat){i:Nat}{h:ae}(o:n m i h):LL SS gw [1,1,0,1,0,0] (iV k i) h (KK SS gw [1,1,0,1,0] [] (EE SS gw Q)):=
 dg (iV k) n (λm i p h o=>ai (step m i p h o)) m o
theorem Af(D:LV)(k:Nat)(z:Nat->Nat->ae->Prop)(B i:Nat)(y:Nat->Nat->ae->Prop)(Q:VH)(step:∀(x:Nat) (j:Nat) (C:Nat->Value) (h:ae),y x j h->fP 29 (pA k) 3 λw=>lL 27 h w λt u v=>iP 27 (.slice t u v) (iA i) λs=>fP 73 (.pointer (some s)) 1 λr=>lL 71 h r λ_ q _=>au (decide (((j:Int):Int)<(q:Int))) (fP 29 (pA k) 3 λp=>lL 27 h p λm n o=>iP 27 (.slice m n o) (iA i) λl=>fP 73 (.pointer (some l)) 1 λg=>lL 71 h g λd e f=>iP 71 (.slice d e f) (iA j) λc=>fP 70 (.pointer (some c)) 2 λb=>lS h b λa=>au (decide ((((a:LB).length:Int):Int)>40)) (Q (.bool true) h) (aJ (fm (m4 k i) y) x [(pA k),(iA i),(.int .i64 (wrap .i64 ((j:Int)+1)))] h)) (aJ (fm (iV k) z) B [(pA k),(.int .i64 (wrap .i64 ((i:Int)+1)))] h))(x:Nat){j:Nat}{h:ae}(A:y x j h):LL SS gw [1,1,0,1,0,0,1,0,0,1,1,0,0] (m4 k i j) h (KK SS gw [1,0,0,1,1,0] [1,1,0,1,0,0] (RR gw [1,1,0,1,0,0] (fm (iV k) z) B (KK SS gw [1,1,0,1,0] [] (EE SS gw Q)))):=
 dg (m4 k i) y (λx j C h A=>ai (step x j C h A)) x A
noncomputable def T1:FD:=cI Tryz.f39 []
theorem PX(g:LV)(e:Int)(i:OA)(n l:Nat)(k:OA)(j m:Nat)(h:ae)(Q:VH)(o:xN (ew SS.P 29 (.agg ⟨g⟩)) h λ_ f=>au (((e:Int) !=0)) (Q (strOf []) f) (lA 29 f (pA (h.next)) λe=>FW SS 48 [(.agg ⟨e⟩),(.slice i n l),(.slice k j m)] f λc d=>∃b:LB,∃a:Int,c=(.tuple ⟨[(strOf b),(.int .i64 a)]⟩)/\Q (strOf b) d)):FW SS 39 [(.agg ⟨g⟩),(.int .i64 e),(.slice i n l),(.slice k j m)] h Q:=cN T1 Tryz.func39 (ai o)
noncomputable def TY:FD:=cI Tryz.f19 []
theorem PT(o:LV)(n:Int)(p:OA)(u s:Nat)(r:OA)(q t:Nat)(w:LB)(h:ae)(Q:VH)(v:xN (ew SS.P 29 (.agg ⟨o⟩)) h λ_ m=>lA 29 m (pA (h.next)) λl=>FW SS 26 [(.agg ⟨l⟩)] m λj k=>yB j λi=>au (!i) (Q (.bool false) k) (fP 29 (pA (h.next)) 0 λg=>lI k g λf=>au (((f:Int) !=n)) (Q (.bool false) k) (lA 29 k (pA (h.next)) λe=>FW SS 48 [(.agg ⟨e⟩),(.slice p u s),(.slice r q t)] k λc d=>∃b:LB,∃a:Int,c=(.tuple ⟨[(strOf b),(.int .i64 a)]⟩)/\au (((a:Int)==2)) (Q (.bool true) d) (au (((a:Int)==0)) (Q (.bool ((b:LB)==w)) d) (Q (.bool false) d))))):FW SS 19 [(.agg ⟨o⟩),(.int .i64 n),(.slice p u s),(.slice r q t),(strOf w)] h Q:=cN TY Tryz.func19 (ai v)
noncomputable def T0:FD:=cI Tryz.f27 []
theorem PV(m l:LV)(e:Int)(h:ae)(Q:VH)(n:xN (ew SS.P 29 (.agg ⟨m⟩)) h λ_ k=>xN (ew SS.P 29 (.agg ⟨l⟩)) k λ_ j=>lA 29 j (pA (h.next)) λi=>FW SS 26 [(.agg ⟨i⟩)] j λg h=>yB g λf=>au (!f) (Q (.bool (((e:Int)==1))) h) (lA 29 h (pA (k.next)) λd=>FW SS 26 [(.agg ⟨d⟩)] h λb c=>yB b λa=>au (!a) (Q (.bool (((e:Int)==1))) c) (Q (.bool (((e:Int)==6))) c))):FW SS 27 [(.agg ⟨m⟩),(.agg ⟨l⟩),(.int .i64 e)] h Q:=cN T0 Tryz.func27 (ai n)
noncomputable def adv:FD:=cI Tryz.f30 []
theorem abx(k:Nat)(i j p q:Nat)(h:ae)(Q:VH)(A:fP 48 (pA k) 3 λD=>lA 29 (room h 24) (.pointer (some D)) λB=>fP 48 (pA k) 1 λE=>lL 22 (room h 24) E λy z C=>xL (bG SS.P 22 (.slice y z C) (some (iA i)) (some (iA j)) none (room h 24)) λv w x=>fP 48 (pA k) 2 λu=>lL 22 (room h 24) u λr s t=>xL (bG SS.P 22 (.slice r s t) (some (iA p)) (some (iA q)) none (room h 24)) λo p q=>FW SS 48 [(.agg ⟨B⟩),(.slice v w x),(.slice o p q)] (room h 24) λm n=>∃l:LB,∃j:Int,m=(.tuple ⟨[(strOf l),(.int .i64 j)]⟩)/\fP 48 (pA k) 4 λi=>lB n i λh=>au h (fP 48 (pA k) 4 λg=>xU (ah SS.P 4 (.pointer (some g)) (.bool (((j:Int)==0))) n) n λ_ f=>au (((j:Int) !=0)) (fP 48 (pA k) 0 λe=>lI f e λd=>FW SS 18 [(.int .i64 d)] f λb c=>yS b λa=>Q (strOf a) c) (Q (strOf l) f)) (fP 48 (pA k) 4 λg=>xU (ah SS.P 4 (.pointer (some g)) (.bool false) n) n λ_ f=>au (((j:Int) !=0)) (fP 48 (pA k) 0 λe=>lI f e λd=>FW SS 18 [(.int .i64 d)] f λb c=>yS b λa=>Q (strOf a) c) (Q (strOf l) f))):FW SS 30 [(pA k),(iA i),(iA j),(iA p),(iA q)] h Q:=cN adv Tryz.func30 (ai A)
noncomputable def Zi:FD:=cI Tryz.f29 []
theorem VX(k:Nat)(a b:LB)(h:ae)(Q:VH)(m:fP 48 (pA k) 0 λl=>lI h l λj=>FW SS 62 [(.int .i64 j),(strOf a),(strOf b)] h λh i=>∃g:LB,∃f:Int,h=(.tuple ⟨[(strOf g),(.int .i64 f)]⟩)/\fP 48 (pA k) 4 λe=>lB i e λd=>au d (fP 48 (pA k) 4 λc=>xU (ah SS.P 4 (.pointer (some c)) (.bool (((f:Int)==0))) i) i λ_ b=>au (((f:Int) !=0)) (Q (strOf a) b) (Q (strOf g) b)) (fP 48 (pA k) 4 λc=>xU (ah SS.P 4 (.pointer (some c)) (.bool false) i) i λ_ b=>au (((f:Int) !=0)) (Q (strOf a) b) (Q (strOf g) b))):FW SS 29 [(pA k),(strOf a),(strOf b)] h Q:=cN Zi Tryz.func29 (ai m)
variable{i:Nat}
section
def Kb(s:dA):Bool:=decide (s.f.length<=40)&&s.arcs.all λq=>decide (q.w.length<=40)
def Ih(M:bp):Bool:=decide (M.af.length<=8)&&(decide (cg M.af<=40)&&(decide (M.lead.length<=40)&&M.af.all Kb))
def Nw(xs ys:List Int):Bool:=decide (xs.length+ys.length<=6)&&(eL xs&&eL ys)
section
variable {h:ae} {M:bp} {a:Option Addr} {n c:Nat} {xa ya:Option Addr} {xn xc yn yc:Nat} {xs ys:List Int}
theorem P0(b:dO h (.slice xa xn xc) xs)(c:dO h (.slice ya yn yc) ys)(f:xs.length<=281474976710656)(i:ys.length<=281474976710656):FW SS 11 [.slice xa xn xc,.slice ya yn yc] h (λv g=>v = .bool (Nw xs ys)/\g=h):=by
 obtain rfl:=dO.len b;obtain rfl:=dO.len c;refine PZ xa _ xc ya _ yc h _ ?_;have e:wrap .i64 ((xs.length:Int)+(ys.length:Int))=((xs.length+ys.length:Nat):Int):=by rw[aB (by omega) (by omega)];omega
 rw[e];unfold Nw;refine aa (λq=>(zi b).mono ?_) (λq=>?_)
 ·have q:=dT q;rw[decide_eq_true (show xs.length+ys.length<=6 by omega),Bool.true_and];rintro _ g ⟨rfl,d⟩;obtain rfl:h=g:=d.symm;refine⟨_,rfl,aa (λa=>(zi c).mono ?_) (λa=>?_)⟩
  ·rintro _ g ⟨rfl,rfl⟩;rw[a,Bool.true_and];exact⟨_,rfl,rfl,rfl⟩
  ·rw[a];exact⟨rfl,rfl⟩
 ·have q:=dF q;rw[decide_eq_false (show ¬xs.length+ys.length<=6 by omega)];exact⟨rfl,rfl⟩
theorem JR(w:Wf h)(S:Bnd M)(r:dm h (.slice a n c) M.af):FW SS 24 [.agg ⟨bE M a n c⟩] h (λv g=>v = .bool (!Ih M)/\Ok h g):=by
 obtain⟨l,H⟩:=eJ w r;refine TZ (bE M a n c) h _ ⟨_,gL M a n c,?_⟩;generalize h.push (Bm M a n c)=g at*;have hl:=l.len;unfold Ih;refine⟨_,db _,_,_,_,l.l3,aa (λq=>⟨?_,H⟩) (λq=>?_)⟩
 ·have:=dT q;rw[decide_eq_false (show ¬M.af.length<=8 by omega)];rfl
 have q:=dF q;have Q:M.af.length<=8:=by omega
 rw[decide_eq_true Q,Bool.true_and];refine⟨_,l.all,(UW H.wf S (by omega) l.row).mono ?_⟩;rintro _ R ⟨rfl,O⟩;have k:=H.trans O;have e:=l.ok O;refine⟨_,rfl,aa (λt=>⟨?_,k⟩) (λt=>?_)⟩
 ·have:=dT t;rw[decide_eq_false (show ¬cg M.af<=40 by omega)];rfl
 have t:=dF t;rw[decide_eq_true (show cg M.af<=40 by omega),Bool.true_and];refine⟨_,mE _,_,e.l2,aa (λm=>⟨?_,k⟩) (λm=>?_)⟩
 ·have:=dT m;rw[decide_eq_false (show ¬M.lead.length<=40 by omega)];rfl
 have m:=dF m;rw[decide_eq_true (show M.lead.length<=40 by omega),Bool.true_and];generalize P:M.af.all Kb=V;refine Ae (bE M a n c) h.next (λC i A=>i<=n/\C=n-i/\A=R/\(M.af.drop i).all Kb=V) _ (λC i=>?_) n (i:=0) ⟨by omega,rfl,rfl,P⟩;intros;rename_i W I;obtain⟨f1,f2,rfl,f⟩:=I;refine⟨_,db _,_,_,_,e.l3,aa (λG=>?_) (λG=>?_)⟩
 ·have X:i<n:=by have:=dT G;omega
  obtain⟨s,E⟩:∃s,M.af[i]?=some s:=⟨_,gE (by omega)⟩
  obtain⟨b,o,x',y,z,D,e2,T,N,J⟩:=e.row.at_ E;have hy:=J.len;have hm:s.arcs.length<=40:=by
   have:=Ds (List.mem_of_getElem? E);omega
  rw[fJ E,all_cons]at f;refine⟨_,db _,_,_,_,e.l3,_,D,_,nF _ _,_,T,aa (λu=>⟨?_,k⟩) (λu=>?_)⟩
  ·have:=dT u;unfold Kb at f;rw[decide_eq_false (show ¬s.f.length<=40 by omega),Bool.false_and,Bool.false_and]at f;rw[<-f];rfl
  have u:=dF u;have L:Kb s=s.arcs.all λq=>decide (q.w.length<=40):=by
   unfold Kb;rw[decide_eq_true (show s.f.length<=40 by omega),Bool.true_and]
  rw[L]at f;refine Af (bE M a n c) h.next _ C i (λx j A=>j<=y/\x=y-j/\A=W/\((s.arcs.drop j).all (λq=>decide (q.w.length<=40))&&(M.af.drop (i+1)).all Kb)=V) _ (λx j=>?_) y (j:=0) ⟨by omega,rfl,rfl,f⟩;intros;rename_i g6 F;obtain⟨j1,j2,rfl,d⟩:=F;refine⟨_,db _,_,_,_,e.l3,_,D,_,iD _ _,_,_,_,N,aa (λB=>?_) (λB=>?_)⟩
  ·have Z:j<y:=by have:=dT B;omega
   obtain⟨q,K⟩:∃q,s.arcs[j]?=some q:=⟨_,gE (by omega)⟩
   obtain⟨bb,oo,Y,d2,d3,d4,U,d6⟩:=J.at_ K;rw[fJ K,all_cons]at d;refine⟨_,db _,_,_,_,e.l3,_,D,_,iD _ _,_,_,_,N,_,Y,_,C1 _ _,_,U,aa (λp=>⟨?_,k⟩) (λp=>?_)⟩
   ·have:=dT p;rw[decide_eq_false (show ¬q.w.length<=40 by omega),Bool.false_and,Bool.false_and]at d;rw[<-d];rfl
   ·have p:=dF p;rw[decide_eq_true (show q.w.length<=40 by omega),Bool.true_and]at d;rw[aO Z (by omega)];exact cd (y-(j+1)) (by omega) ⟨by omega,rfl,rfl,d⟩
  ·have:=dF B;rw[List.drop_eq_nil_of_le (by omega)]at d;rw[aO X (by omega)];exact cd (n-(i+1)) (by omega) ⟨by omega,rfl,rfl,d⟩
 ·have:=dF G;rw[List.drop_eq_nil_of_le (by omega)]at f;rw[<-f];exact⟨rfl,k⟩
def AO(M:bp)(xs ys:List Int):List UInt8×Int:=if(bT M&&(eL xs&&eL ys))=true then(match eE (aX M.kind) (gm M) xs ys with|some w=>(w,0)|none=>([],2))else([],1)
theorem ZE(M:bp)(xs ys:List Int):(if(bT M&&(eL xs&&eL ys))=true then MA (eE (aX M.kind) (gm M) xs ys)else two [] 1)=two (AO M xs ys).1 (AO M xs ys).2:=by
 unfold AO;split
 ·cases eE (aX M.kind) (gm M) xs ys<;>rfl
 ·rfl
theorem Ir(w:Wf h)(d:Small M)(r:dm h (.slice a n c) M.af)(b:dO h (.slice xa xn xc) xs)(e:dO h (.slice ya yn yc) ys):
  FW SS 48 [.agg ⟨bE M a n c⟩,.slice xa xn xc,.slice ya yn yc] h (λv g=>v = .tuple ⟨[strOf (AO M xs ys).1,.int .i64 (AO M xs ys).2]⟩/\Ok h g):=by
 refine(abO w d r b e).mono ?_;rintro _ g ⟨rfl,f⟩;exact⟨ZE M xs ys,f⟩
theorem PY(w:Wf h)(f:Small M)(r:dm h (.slice a n c) M.af)(e:dO h (.slice xa xn xc) xs)(i:dO h (.slice ya yn yc) ys):
  FW SS 39 [.agg ⟨bE M a n c⟩,.int .i64 0,.slice xa xn xc,.slice ya yn yc] h (λv g=>v=strOf (AO M xs ys).1/\Ok h g):=by
 obtain⟨d,b⟩:=eJ w r;refine PX (bE M a n c) 0 xa xn xc ya yn yc h _ ⟨_,gL M a n c,aa (λq=>by cases q) (λ_=>⟨_,d.all,(Ir b.wf f d.row (dO.ok e b) (dO.ok i b)).mono ?_⟩)⟩;rintro _ g ⟨rfl,j⟩;exact⟨_,_,rfl,rfl,b.trans j⟩
def Dd(M:bp)(b:Int)(xs ys:List Int)(a:List UInt8):Bool:=bT M&&(M.kind==b&&((AO M xs ys).2==2||((AO M xs ys).2==0&&(AO M xs ys).1==a)))
theorem PU(w:Wf h)(p:Small M)(r:dm h (.slice a n c) M.af)(t:dO h (.slice xa xn xc) xs)(u:dO h (.slice ya yn yc) ys)(b:Int)(e:List UInt8):
  FW SS 19 [.agg ⟨bE M a n c⟩,.int .i64 b,.slice xa xn xc,.slice ya yn yc,strOf e] h (λv g=>v = .bool (Dd M b xs ys e)/\Ok h g):=by
 obtain⟨l,s⟩:=eJ w r;refine PT (bE M a n c) b xa xn xc ya yn yc e h _ ⟨_,gL M a n c,_,l.all,(lr s.wf p l.row).mono ?_⟩;generalize h.push (Bm M a n c)=g at*;unfold Dd;rintro _ y ⟨rfl,o⟩;have d:=s.trans o;have f:=l.ok o;refine⟨_,rfl,aa (λq=>⟨?_,d⟩) (λq=>?_)⟩
 ·rw[not_eq_true']at q;rw[q];rfl
 rw[not_eq_false']at q;rw[q,Bool.true_and];refine⟨_,dt _,_,f.l0,aa (λk=>⟨?_,d⟩) (λk=>?_)⟩
 ·have:(M.kind==b)=false:=by simpa using k
  rw[this];rfl
 have:(M.kind==b)=true:=by simpa using k
 rw[this,Bool.true_and];refine⟨_,f.all,(Ir o.wf p f.row (dO.ok t d) (dO.ok u d)).mono ?_⟩;rintro _ z ⟨rfl,x⟩;have i:=d.trans x;refine⟨_,_,rfl,aa (λj=>⟨?_,i⟩) (λj=>aa (λm=>⟨?_,i⟩) (λm=>⟨?_,i⟩))⟩
 ·rw[j];rfl
 ·rw[j,m];rfl
 ·rw[j,m];rfl
def Dt(A B:bp)(e:Int):Bool:=if(bT A&&bT B)=true then e==6 else e==1
theorem PW{A B:bp}{x a:Option Addr}{z:Nat}(w:Wf h)(s:Small A)(C:Small B)(u:dm h (.slice x m z) A.af)(r:dm h (.slice a k i) B.af)(e:Int):FW SS 27 [.agg ⟨bE A x m z⟩,.agg ⟨bE B a k i⟩,.int .i64 e] h (λv g=>v = .bool (Dt A B e)/\Ok h g):=by
 obtain⟨t,o⟩:=eJ w u;obtain⟨p,f⟩:=eJ o.wf (r.ok o);have d:=t.ok f;have b:=o.trans f;refine PV (bE A x m z) (bE B a k i) e h _ ⟨_,gL A x m z,_,gL B a k i,_,d.all,(lr b.wf s d.row).mono ?_⟩;generalize (h.push (Bm A x m z)).push (Bm B a k i)=g at*;unfold Dt;rintro _ D ⟨rfl,n⟩;have c:=p.ok n;have l:=b.trans n;refine⟨_,rfl,aa (λq=>⟨?_,l⟩) (λq=>⟨_,c.all,(lr n.wf C c.row).mono ?_⟩)⟩
 ·rw[not_eq_true']at q;rw[q,if_neg (show ¬(false&&bT B)=true by simp)]
 rw[not_eq_false']at q;rw[q,Bool.true_and];rintro _ E ⟨rfl,y⟩;have j:=l.trans y;refine⟨_,rfl,aa (λq=>⟨?_,j⟩) (λq=>⟨?_,j⟩)⟩
 ·rw[not_eq_true']at q;rw[q,if_neg Bool.false_ne_true]
 ·rw[not_eq_false']at q;rw[q,if_pos rfl]
end
end
end Go.Proofs.YtaaichlgdgjgjaaGreatDoor
end
section
namespace Go.Proofs.YtaaichlgdgjgjaaGreatDoor
open Go Go.Ab Go.Num Go.Num.bh
variable{p:List Int}{a:Option Addr}{n:Nat}
section
structure TD where
 M:bp
 s:Option Addr
 sc:Nat
 xa:Option Addr
 xc:Nat
 xs:List Int
 ya:Option Addr
 yc:Nat
 ys:List Int
def TD.cs(D:TD)(ok:Bool):List Value:=[.int .i64 D.M.kind,.slice D.xa D.xs.length D.xc,.slice D.ya D.ys.length D.yc,.int .i64 D.M.kind,.int .i64 D.M.start,strOf D.M.lead,.slice D.s D.M.af.length D.sc,.bool ok]
structure TGd(D:TD)(h0:ae):Prop where
 wf:Wf h0
 st:dm h0 (.slice D.s D.M.af.length D.sc) D.M.af
 rx:dO h0 (.slice D.xa D.xs.length D.xc) D.xs
 hx:D.xs.length<=bH D.xc
 ry:dO h0 (.slice D.ya D.ys.length D.yc) D.ys
 hy:D.ys.length<=bH D.yc
 sm:Small D.M
 vm:bT D.M=true
 wx:eL D.xs=true
 wy:eL D.ys=true
structure xu(D:TD)(h0 g:ae)(k:Nat)(ok:Bool):Prop where
 box:g.get k=some (.cells (D.cs ok) 48 0 true)
 ok:Ok h0 g
 nk:h0.next<=k
def Kt(k:Nat)(g g':ae):Prop:=g.next<=g'.next/\∀(j:Nat)(B:dN),j≠k->g.get j=some B->g'.get j=some B
theorem Kt.trans{k:Nat}{g d c:ae}(a:Kt k g d)(b:Kt k d c):Kt k g c:=⟨Nat.le_trans a.1 b.1,λj B e h=>b.2 j B e (a.2 j B e h)⟩
theorem Kt.ofO{g g':ae}(o:Ok g g')(k:Nat):Kt k g g':=⟨o.nx,λj B _ h=>o.ext j B h⟩
theorem Em(h:eL p=true)(i j:Nat):eL ((p.take j).drop i)=true:=by
 unfold eL at*;rw[and_eq_true,List.all_eq_true]at*;refine⟨?_,λx a=>h.2 x (List.mem_of_mem_take (List.mem_of_mem_drop a))⟩;have:=dT h.1;refine decide_eq_true ?_;rw[length_drop,length_take];omega
theorem abF(k:Nat):aE SS.P 48 (pA k) 1=some (.pointer (some ⟨k,1,none⟩)):=by kernel_rfl
theorem Wq(k:Nat):aE SS.P 48 (pA k) 0=some (.pointer (some ⟨k,0,none⟩)):=by kernel_rfl
theorem abG(k:Nat):aE SS.P 48 (pA k) 2=some (.pointer (some ⟨k,2,none⟩)):=by kernel_rfl
theorem abH(k:Nat):aE SS.P 48 (pA k) 3=some (.pointer (some ⟨k,3,none⟩)):=by kernel_rfl
theorem Eb(k:Nat):aE SS.P 48 (pA k) 4=some (.pointer (some ⟨k,7,none⟩)):=by kernel_rfl
theorem GA{g:ae}{c:Nat}(r:dO g (.slice a n c) p)(C:n<=bH c){i j:Nat}(y:i<=j)(B:j<=n):
  ∃(o:Option Addr)(m:Nat),bG SS.P 22 (.slice a n c) (some (iA i)) (some (iA j)) none g=some (.slice o (j-i) m)/\dO g (.slice o (j-i) m) ((p.take j).drop i):=by
 have t:=dO.len r;rcases r with⟨f,l⟩|⟨k,b,cs,A,w,e,z,f,l,q,u⟩
 ·injection f with d s h
  subst d;subst h;subst s;have v:p=[]:=List.eq_nil_of_length_eq_zero t.symm;obtain rfl:j=0:=by omega
  obtain rfl:i=0:=by omega
  refine⟨none,0,?_,.inl ⟨rfl,by rw[v];rfl⟩⟩;unfold bG;dsimp only;rw[qv];dsimp only[eS];rw[RX];rfl
 ·injection f with d s h
  subst d;subst h;refine⟨some ⟨k,b+i,none⟩,c-i,?_,.inr ⟨k,b+i,cs,c-i,w,e,z,?_,l,q,?_⟩⟩
  ·unfold bG;dsimp only;rw[qv];dsimp only[eS];rw[RX,l];dsimp only;have d:((j:Int)-(i:Int)).toNat=j-i:=by omega
   have x:((i:Nat):Int).toNat=i:=by omega
   rw[if_pos (q.elim (λa=> .inl a.2) .inr),if_pos (by omega),d,x,Nat.mul_one]
  ·rw[length_drop,length_take];congr 1;omega
  ·rw[length_drop,length_take,min_eq_left (by omega),<-List.drop_drop];have:((cs.drop b).drop i).take (j-i)=(((cs.drop b).take p.length).take j).drop i:=by
    rw[take_take,min_eq_left (by omega),drop_take]
   rw[this,u];unfold wG;rw[<-map_take,<-List.map_drop]
section
variable {K:Type} {S:bh K} {dec:List UInt8->K} {M:bp}
theorem WS(h:sP S dec M.kind)(f:bT M=true){a b:List Int}(c:eL a=true)(d:eL b=true):(∃w,AO M a b=(w,0)/\aM M.kind w=true/\dec w=Ns S dec M a b)\/AO M a b=([],2):=by
 unfold AO;rw[f,c,d,if_pos (show(true&&(true&&true))=true from rfl)]
 cases e:eE (aX M.kind) (gm M) a b with
 |none=>exact .inr rfl
 |some w=>
  obtain⟨g,i⟩:=WC h (tN f) (VQ c) (VQ d) e;exact .inl ⟨w,rfl,g,i⟩
end
section
variable {D:TD} {h0 g g':ae} {k:Nat} {ok:Bool}
theorem xu.qC(t:xu D h0 g k ok)(o:Ok g g'):xu D h0 g' k ok:=⟨o.ext _ _ t.box,t.ok.trans o,t.nk⟩
theorem xu.l0(t:xu D h0 g k ok):aj SS.P 3 g (.pointer (some ⟨k,0,none⟩))=some (.int .i64 D.M.kind):=ct GO FE t.box (by simp[TD.cs])
theorem xu.l1(t:xu D h0 g k ok):aj SS.P 22 g (.pointer (some ⟨k,1,none⟩))=some (.slice D.xa D.xs.length D.xc):=ct qv Ss t.box (by simp[TD.cs])
theorem xu.l2(t:xu D h0 g k ok):aj SS.P 22 g (.pointer (some ⟨k,2,none⟩))=some (.slice D.ya D.ys.length D.yc):=ct qv Ss t.box (by simp[TD.cs])
theorem xu.l3(t:xu D h0 g k ok):aj SS.P 29 g (.pointer (some ⟨k,3,none⟩))=some (.agg ⟨bE D.M D.s D.M.af.length D.sc⟩):=pe Nr LG ur t.box (by simp[TD.cs])
theorem xu.l4(t:xu D h0 g k ok):aj SS.P 4 g (.pointer (some ⟨k,7,none⟩))=some (.bool ok):=ct un4 ag4 t.box (by simp[TD.cs])
theorem xu.put(w:Wf h0)(t:xu D h0 g k ok)(b:Bool):∃u:dS,ah SS.P 4 (.pointer (some ⟨k,7,none⟩)) (.bool b) g=some (undef,u)/\xu D h0 (u.app g) k b/\Kt k g (u.app g):=by
 refine⟨_,jb adt t.box (i:=7) (by simp[TD.cs]) rfl rfl,⟨?_,t.ok.set _ t.nk (t.ok.wf _ _ t.box) w,t.nk⟩,Nat.le_refl _,λj B a h=>?_⟩
 ·show(g.set k _).get k=_;rw[ae.av,if_pos rfl];rfl
 ·show(g.set k _).get j=_;rw[ae.av,if_neg a];exact h
theorem xu.kt(t:xu D h0 g k ok)(h:Kt n g g')(a:k≠n)(o:Ok h0 g'):xu D h0 g' k ok:=⟨h.2 _ _ a t.box,o,t.nk⟩
theorem C4(w:Wf h0)(t:xu D h0 g k ok){n:Int}{A B:ae->Prop}(l:n≠0->∀g',xu D h0 g' k false->Kt k g g'->A g')(j:n=0->∀g',xu D h0 g' k ok->Kt k g g'->B g'):
  xP (aE SS.P 48 (pA k) 4) λp=>xB (aj SS.P 4 g (.pointer (some p))) λb=>au b (xP (aE SS.P 48 (pA k) 4) λh=>xU (ah SS.P 4 (.pointer (some h)) (.bool ((n:Int)==0)) g) g λu d=>au ((n:Int) !=0) (A d) (B d))
   (xP (aE SS.P 48 (pA k) 4) λh=>xU (ah SS.P 4 (.pointer (some h)) (.bool false) g) g λu d=>au ((n:Int) !=0) (A d) (B d)):=by
 refine⟨_,Eb k,_,t.l4,aa (λq=>?_) (λq=>?_)⟩
 ·obtain⟨u,i,c,f⟩:=t.put w (n==0);refine⟨_,Eb k,u,i,aa (λa=>?_) (λa=>?_)⟩
  ·have a:n≠0:=by simpa using a
   have e:(n==0)=false:=by simpa using a
   rw[e]at c;exact l a _ c f
  ·have a:n=0:=by simpa using a
   have e:(n==0)=true:=by simpa using a
   rw[e]at c;exact j a _ (by rw[q];exact c) f
 ·obtain⟨u,i,c,f⟩:=t.put w false;refine⟨_,Eb k,u,i,aa (λa=>?_) (λa=>?_)⟩
  ·exact l (by simpa using a) _ c f
  ·exact j (by simpa using a) _ (by rw[q];exact c) f
end
section
variable {K:Type} {S:bh K} {dec:List UInt8->K} {D:TD} {h0 g:ae} {k:Nat} {ok:Bool}
def TQ(S:bh K)(dec:List UInt8->K)(D:TD)(h0 g:ae)(k:Nat)(ok:Bool)(a:K):VH:=λv g'=>∃(w:List UInt8)(b:Bool),v=strOf w/\xu D h0 g' k b/\Kt k g g'/\aM D.M.kind w=true/\(b=true->ok=true/\dec w=a)
theorem VY(o:sP S dec D.M.kind)(w:Wf h0)(t:xu D h0 g k ok){a b:List UInt8}(i:aM D.M.kind a=true)(j:aM D.M.kind b=true):FW SS 29 [pA k,strOf a,strOf b] g (TQ S dec D h0 g k ok (S.add (dec a) (dec b))):=by
 refine VX k a b g _ ⟨_,Wq k,_,t.l0,(qP i j t.ok.wf).mono ?_⟩;rintro _ q ⟨rfl,d⟩;have l:=t.qC d
 cases e:eK D.M.kind a b with
 |none=>
  refine⟨[],2,rfl,C4 w l (λ_ m f h=>⟨a,false,rfl,f,(Kt.ofO d k).trans h,i,λc=>by cases c⟩) (λc=>by cases c)⟩
 |some c=>
  obtain⟨n,p⟩:=o.plus i j e;exact⟨c,0,rfl,C4 w l (λc=>absurd rfl c) (λ_ m f h=>⟨c,ok,rfl,f,(Kt.ofO d k).trans h,n,λe=>⟨e,p⟩⟩)⟩
theorem VW(B:sP S dec D.M.kind)(a:TGd D h0)(t:xu D h0 g k ok){i j p q:Nat}(u:i<=j)(H:j<=D.xs.length)(r:p<=q)(C:q<=D.ys.length):
  FW SS 30 [pA k,iA i,iA j,iA p,iA q] g (TQ S dec D h0 g k ok (Ns S dec D.M ((D.xs.take j).drop i) ((D.ys.take q).drop p))):=by
 have s:=tN a.vm;have v:=(Ok.refl t.ok.wf).room 24;have b:=t.qC v;obtain⟨O,M,x,z⟩:=GA (dO.ok a.rx b.ok) a.hx u H;obtain⟨L,N,F,A⟩:=GA (dO.ok a.ry b.ok) a.hy r C;refine abx k i j p q g _ ⟨_,abH k,_,b.l3,_,abF k,_,_,_,b.l1,_,_,_,x,_,abG k,_,_,_,b.l2,_,_,_,F,(Ir b.ok.wf a.sm (a.st.ok b.ok) z A).mono ?_⟩;rintro _ E ⟨rfl,o⟩;have J:=b.qC o;have f:Kt k g E:=Kt.ofO (v.trans o) k;refine⟨_,_,rfl,C4 a.wf J (λh l d m=>?_) (λh l d m=>?_)⟩
 ·refine⟨_,Wq k,_,d.l0,(gZ s.kind l).mono ?_⟩;rintro _ K ⟨rfl,G⟩;obtain rfl:l=K:=G.symm;exact⟨_,rfl,_,false,rfl,d,f.trans m,sM s.kind,λc=>by cases c⟩
 ·rcases WS B a.vm (Em a.wx i j) (Em a.wy p q)with⟨w,n,I,y⟩|n
  ·rw[n];exact⟨w,ok,rfl,d,f.trans m,I,λe=>⟨e,y⟩⟩
  ·rw[n]at h;cases h
end
end
end Go.Proofs.YtaaichlgdgjgjaaGreatDoor
end
section
namespace Go.Proofs.YtaaichlgdgjgjaaGreatDoor
open Go Go.Ab Go.Num
variable{M:bp}
def XU:Nat->Nat->List UInt8
 |0,_=>[]
 |f+1,n=>if n<10 then[eW n]else XU f (n/10)++[eW (n%10)]
theorem N3:∀{f n:Nat},n<f->XU f n=ag n
 |f+1,n,h=>by
  unfold XU;by_cases c:n<10
  ·rw[if_pos c,dG c]
  ·rw[if_neg c,im (by omega),N3 (by omega)]
def D9(n:Nat):List UInt8:=XU (n+1) n
theorem Ce(n:Nat):ag n=D9 n:=(N3 (lt_succ_self n)).symm
def Yl(s:Bool)(n d:Nat):List UInt8:=(if s=true/\n≠0 then[45]else[])++(D9 n++(if d=1 then[]else 47::D9 d))
theorem aak(s:Bool)(n d:Nat):cP s n d=Yl s n d:=by unfold cP Yl;rw[Ce,Ce]
def TW(s:Bool)(n d:Nat):Option (List UInt8):=if 400<(D9 (n/Nat.gcd n d)).length\/400<(D9 (d/Nat.gcd n d)).length then none else some (Yl s (n/Nat.gcd n d) (d/Nat.gcd n d))
theorem U8(s:Bool)(n d:Nat):lK s n d=TW s n d:=by unfold lK TW;rw[Ce,Ce,aak]
def Yk(a b:List UInt8):Option (List UInt8):=TW (dK (Num.isNeg a) (Num.val (Num.numOf a)*Num.val (ak b)) (Num.isNeg b) (Num.val (Num.numOf b)*Num.val (ak a))).1 (dK (Num.isNeg a) (Num.val (Num.numOf a)*Num.val (ak b)) (Num.isNeg b) (Num.val (Num.numOf b)*Num.val (ak a))).2 (Num.val (ak a)*Num.val (ak b))
def ac1(a b:List UInt8):Option (List UInt8):=TW (Num.isNeg a !=Num.isNeg b) (Num.val (Num.numOf a)*Num.val (Num.numOf b)) (Num.val (ak a)*Num.val (ak b))
def ac0(a b:List UInt8):Option (List UInt8):=TW (Num.isNeg a !=Num.isNeg b) (Num.val (Num.numOf a)*Num.val (ak b)) (Num.val (ak a)*Num.val (Num.numOf b))
def ac2(a:List UInt8):List UInt8:=Yl (!Num.isNeg a) (Num.val (Num.numOf a)) (Num.val (ak a))
theorem Sr:qf=Yk:=by funext a b;exact U8 _ _ _
theorem ac6:Cv=ac1:=by funext a b;exact U8 _ _ _
theorem acQ:G0=ac0:=by funext a b;exact U8 _ _ _
theorem ac7:qg=ac2:=by funext a;exact aak _ _ _
def TU(c:Int)(a b:List UInt8):Option (List UInt8):=if c≠2 then some (if GY c b a<0 then b else a)else if a=dj\/b=dj then some dj else Yk a b
def Mi(c:Int)(a b:List UInt8):Option (List UInt8):=if a=bL c\/b=bL c then some (bL c)else if a=dj\/b=dj then some dj else if a=ij\/b=ij then some ij else if c=1 then Yk a b else ac1 a b
def TX(b:Int)(a:List UInt8):Option (List UInt8):=if b=1 then(if dw a [48]>=0 then some [48]else some ij)else if b=3 then(if dw a [49]<=0 then some [49]else some dj)else if dw a [49]>=0 then some dj else match Yk [49] (ac2 a)with
 |some d=>ac0 [49] d
 |none=>none
theorem abg:eK=TU:=by funext k a b;unfold eK TU;rw[Sr]
theorem Ij:dq=Mi:=by funext k a b;unfold dq Mi;rw[Sr,ac6]
theorem abw:lN=TX:=by funext k a;unfold lN TX;rw[Sr,acQ,ac7];rfl
def aa6(b:Int):qe (List UInt8):=⟨bL b,sS b,λa=>a==bL b,TU b,Mi b,TX b⟩
theorem adf(a:Int):aX a=aa6 a:=by unfold aX aa6;rw[abg,Ij,abw]
def adP(M:bp)(a b:List Int):List UInt8×Int:=if(bT M&&(eL a&&eL b))=true then(match eE (aa6 M.kind) (gm M) a b with|some w=>(w,0)|none=>([],2))else([],1)
theorem BP(M:bp)(a b:List Int):AO M a b=adP M a b:=by unfold AO adP;rw[adf]<;>rfl
def Lg:bp:=GQ 1 [1] [2] [51]
def awB:bp:=GQ 1 [1] [2] [53]
def awU:bp:=ft Lg awB
def awC:bp:=BV Lg awB [56]
def awS:bp:=um Lg
def awR:bp:=adi Lg 2 3
def awT:bp:=M8 Lg [55,47,50]
def awL:bp:=Dn 1 [2,1,2]
def awH:bp:=GQ 2 [] [] [49,47,50]
def awK:bp:=um awH
theorem aaB:oh [2,1,2]=[1,2]:=by
 have:mj [2,1,2]=[1,2,2]:=by simp[mj,List.mergeSort,List.MergeSort.Internal.splitInTwo]
 unfold oh;rw[this];decide
theorem aaA:awL=⟨1,0,dz 1,[⟨[],Hw 1 [1,2]⟩,⟨dz 1,[]⟩]⟩:=by unfold awL Dn;rw[aaB]
theorem acb:Bj 1 [1] [2] [51]=(Lg,0):=by unfold Bj;rw[if_pos (by decide +kernel)];rfl
theorem acd:Bj 1 [1] [2] [53]=(awB,0):=by unfold Bj;rw[if_pos (by decide +kernel)];rfl
theorem acm:wX Lg awB=(awU,0):=by unfold wX;rw[if_pos (by decide +kernel)];rfl
theorem aaC:dq Lg.kind Lg.lead awB.lead=some [56]:=by rw[Ij];decide +kernel
theorem ace:BW Lg awB [56]=(awC,0):=by unfold BW;rw[if_pos (by decide +kernel)];rfl
theorem acj:GD Lg=(awS,0):=by unfold GD;rw[if_pos (by decide +kernel)];rfl
theorem aci:YV Lg 2 3=(awR,0):=by unfold YV;rw[if_pos (by decide +kernel)];rfl
theorem aaD:dq Lg.kind [49,47,50] Lg.lead=some [55,47,50]:=by rw[Ij];decide +kernel
theorem ack:Ib Lg [49,47,50] [55,47,50]=(awT,0):=by unfold Ib;rw[if_pos (by decide +kernel)];rfl
theorem ach:xZ 1 [2,1,2]=(awL,0):=by unfold xZ;rw[if_pos (by decide)];rfl
theorem acf:Bj 2 [] [] [49,47,50]=(awH,0):=by unfold Bj;rw[if_pos (by decide +kernel)];rfl
theorem acg:GD awH=(awK,0):=by unfold GD;rw[if_pos (by decide +kernel)];rfl
theorem acr:AO awU [1] [2]=([51],0):=by rw[BP];decide +kernel
theorem acs:AO awU [1] [1]=([105,110,102],0):=by rw[BP];decide +kernel
theorem acu:AO awC [1,1] [2,2]=([56],0):=by rw[BP];decide +kernel
theorem acv:AO awS [] []=([48],0):=by rw[BP];decide +kernel
theorem acw:AO awS [1,1] [2,2]=([54],0):=by rw[BP];decide +kernel
theorem acx:AO awS [1] []=([105,110,102],0):=by rw[BP];decide +kernel
theorem acy:AO awR [1] [2]=([105,110,102],0):=by rw[BP];decide +kernel
theorem acz:AO awR [1,1] [2,2]=([54],0):=by rw[BP];decide +kernel
theorem acA:AO awT [1] [2]=([55,47,50],0):=by rw[BP];decide +kernel
theorem aaE:AO awL [2] [2]=([48],0):=by rw[BP,aaA];decide +kernel
theorem aaF:AO awL [1,2] [1,2]=([105,110,102],0):=by rw[BP,aaA];decide +kernel
theorem aaG:AO awK [] []=([50],0):=by rw[BP];decide +kernel
theorem kJ(a:bT M=true)(b:M.af.length<=300)(c:cg M.af<=2000):Small M:=(Nu a (by omega)).small b c
theorem Je:Small Lg:=kJ (by decide +kernel) (by decide +kernel) (by decide +kernel)
theorem ZR:Small awB:=kJ (by decide +kernel) (by decide +kernel) (by decide +kernel)
theorem ZU:Small awU:=kJ (by decide +kernel) (by decide +kernel) (by decide +kernel)
theorem acn:Small awC:=kJ (by decide +kernel) (by decide +kernel) (by decide +kernel)
theorem SD:Small awS:=kJ (by decide +kernel) (by decide +kernel) (by decide +kernel)
theorem ZT:Small awR:=kJ (by decide +kernel) (by decide +kernel) (by decide +kernel)
theorem acq:Small awT:=kJ (by decide +kernel) (by decide +kernel) (by decide +kernel)
theorem ZS:Small awL:=by rw[aaA];exact kJ (by decide +kernel) (by decide +kernel) (by decide +kernel)
theorem aco:Small awH:=kJ (by decide +kernel) (by decide +kernel) (by decide +kernel)
theorem acp:Small awK:=kJ (by decide +kernel) (by decide +kernel) (by decide +kernel)
noncomputable def Xq:FD:=cI Tryz.f12 []
theorem SE  (h:ae) (Q:VH) (hx:xR (aG SS.P 22 1 [(0,(.int .i64 1))]) h λ_ A C B=>xR (aG SS.P 22 1 [(0,(.int .i64 2))]) B λ_ F D J=>xR (aG SS.P 22 2 [(0,(.int .i64 1)),(1,(.int .i64 1))]) J λ_ W k7 I=>xR (aG SS.P 22 2 [(0,(.int .i64 2)),(1,(.int .i64 2))]) I λ_ k3 Z k5=>FW SS 13 [(.int .i64 1),(sA (h.next) A C),(sA (B.next) F D),(strOf [51])] k5 λk1 E=>∃k0:LV,∃j9:Int,k1=(.tuple ⟨[(.agg ⟨k0⟩),(.int .i64 j9)]⟩)/\xN (br SS.P 29) E λ_ j8=>xU (ah SS.P 29 (pA (E.next)) (.agg ⟨k0⟩) j8) j8 λ_ j7=>FW SS 13 [(.int .i64 1),(sA (h.next) A C),(sA (B.next) F D),(strOf [53])] j7 λj5 L=>∃j4:LV,∃j3:Int,j5=(.tuple ⟨[(.agg ⟨j4⟩),(.int .i64 j3)]⟩)/\xN (br SS.P 29) L λ_ j2=>xU (ah SS.P 29 (pA (L.next)) (.agg ⟨j4⟩) j2) j2 λ_ H=>au (((j9:Int) !=0)) (Q (.bool false) H) (au (((j3:Int) !=0)) (Q (.bool false) H) (lA 29 H (pA (E.next)) λj0=>lA 29 H (pA (L.next)) λi9=>FW SS 25 [(.agg ⟨j0⟩),(.agg ⟨i9⟩)] H λi7 K=>∃i6:LV,∃i5:Int,i7=(.tuple ⟨[(.agg ⟨i6⟩),(.int .i64 i5)]⟩)/\xN (br SS.P 29) K λ_ i4=>xU (ah SS.P 29 (pA (K.next)) (.agg ⟨i6⟩) i4) i4 λ_ i3=>lA 29 i3 (pA (E.next)) λi2=>lA 29 i3 (pA (L.next)) λi1=>FW SS 31 [(.agg ⟨i2⟩),(.agg ⟨i1⟩)] i3 λh9 P=>∃h8:LV,∃h7:Int,h9=(.tuple ⟨[(.agg ⟨h8⟩),(.int .i64 h7)]⟩)/\xN (br SS.P 29) P λ_ h6=>xU (ah SS.P 29 (pA (P.next)) (.agg ⟨h8⟩) h6) h6 λ_ h5=>lA 29 h5 (pA (E.next)) λh4=>FW SS 33 [(.agg ⟨h4⟩)] h5 λh2 G=>∃h1:LV,∃M:Int,h2=(.tuple ⟨[(.agg ⟨h1⟩),(.int .i64 M)]⟩)/\xN (br SS.P 29) G λ_ g9=>xU (ah SS.P 29 (pA (G.next)) (.agg ⟨h1⟩) g9) g9 λ_ g7=>lA 29 g7 (pA (E.next)) λg6=>FW SS 35 [(.agg ⟨g6⟩),(.int .i64 2),(.int .i64 3)] g7 λg3 N=>∃g2:LV,∃g1:Int,g3=(.tuple ⟨[(.agg ⟨g2⟩),(.int .i64 g1)]⟩)/\xN (br SS.P 29) N λ_ g0=>xU (ah SS.P 29 (pA (N.next)) (.agg ⟨g2⟩) g0) g0 λ_ f9=>lA 29 f9 (pA (E.next)) λf8=>FW SS 37 [(.agg ⟨f8⟩),(strOf [49,47,50])] f9 λf6 V=>∃f5:LV,∃f4:Int,f6=(.tuple ⟨[(.agg ⟨f5⟩),(.int .i64 f4)]⟩)/\xN (br SS.P 29) V λ_ f3=>xU (ah SS.P 29 (pA (V.next)) (.agg ⟨f5⟩) f3) f3 λ_ f2=>xR (aG SS.P 22 3 [(0,(.int .i64 2)),(1,(.int .i64 1)),(2,(.int .i64 2))]) f2 λ_ e9 f0 f1=>FW SS 21 [(.int .i64 1),(sA (f2.next) e9 f0)] f1 λe7 O=>∃e6:LV,∃e5:Int,e7=(.tuple ⟨[(.agg ⟨e6⟩),(.int .i64 e5)]⟩)/\xN (br SS.P 29) O λ_ e4=>xU (ah SS.P 29 (pA (O.next)) (.agg ⟨e6⟩) e4) e4 λ_ e3=>FW SS 13 [(.int .i64 2),nA,nA,(strOf [49,47,50])] e3 λe1 e2=>∃e0:LV,∃d9:Int,e1=(.tuple ⟨[(.agg ⟨e0⟩),(.int .i64 d9)]⟩)/\xN (br SS.P 29) e2 λ_ d8=>xU (ah SS.P 29 (pA (e2.next)) (.agg ⟨e0⟩) d8) d8 λ_ d7=>lA 29 d7 (pA (e2.next)) λd6=>FW SS 33 [(.agg ⟨d6⟩)] d7 λd4 d5=>∃d3:LV,∃d2:Int,d4=(.tuple ⟨[(.agg ⟨d3⟩),(.int .i64 d2)]⟩)/\xN (br SS.P 29) d5 λ_ d1=>xU (ah SS.P 29 (pA (d5.next)) (.agg ⟨d3⟩) d1) d1 λ_ d0=>au (((d9:Int)==0)) (lA 29 d0 (pA (K.next)) λc9=>FW SS 39 [(.agg ⟨c9⟩),(.int .i64 i5),(sA (h.next) A C),(sA (B.next) F D)] d0 λc6 U=>yS c6 λc5=>au ((c5:LB)==[51]) (lA 29 U (pA (K.next)) λc4=>FW SS 39 [(.agg ⟨c4⟩),(.int .i64 i5),(sA (h.next) A C),(sA (h.next) A C)] U λc1 c2=>yS c1 λc0=>au ((c0:LB)==[105,110,102]) (lA 29 c2 (pA (P.next)) λb9=>FW SS 39 [(.agg ⟨b9⟩),(.int .i64 h7),(sA (J.next) W k7),(sA (I.next) k3 Z)] c2 λb7 T=>yS b7 λb6=>au ((b6:LB)==[56]) (lA 29 T (pA (G.next)) λb5=>FW SS 39 [(.agg ⟨b5⟩),(.int .i64 M),nA,nA] T λb3 X=>yS b3 λb2=>au ((b2:LB)==[48]) (lA 29 X (pA (G.next)) λb1=>FW SS 39 [(.agg ⟨b1⟩),(.int .i64 M),(sA (J.next) W k7),(sA (I.next) k3 Z)] X λa9 Y=>yS a9 λa8=>au ((a8:LB)==[54]) (lA 29 Y (pA (G.next)) λa7=>FW SS 39 [(.agg ⟨a7⟩),(.int .i64 M),(sA (h.next) A C),nA] Y λa5 S=>yS a5 λa4=>au ((a4:LB)==[105,110,102]) (lA 29 S (pA (N.next)) λa3=>FW SS 39 [(.agg ⟨a3⟩),(.int .i64 g1),(sA (h.next) A C),(sA (B.next) F D)] S λa1 R=>yS a1 λa0=>au ((a0:LB)==[105,110,102]) (lA 29 R (pA (N.next)) λz=>FW SS 39 [(.agg ⟨z⟩),(.int .i64 g1),(sA (J.next) W k7),(sA (I.next) k3 Z)] R λx y=>yS x λw=>au ((w:LB)==[54]) (lA 29 y (pA (V.next)) λv=>FW SS 39 [(.agg ⟨v⟩),(.int .i64 f4),(sA (h.next) A C),(sA (B.next) F D)] y λt u=>yS t λs=>au ((s:LB)==[55,47,50]) (lA 29 u (pA (O.next)) λr=>FW SS 39 [(.agg ⟨r⟩),(.int .i64 e5),(sA (B.next) F D),(sA (B.next) F D)] u λp q=>yS p λo=>au ((o:LB)==[48]) (lA 29 q (pA (O.next)) λn=>xR (aG SS.P 22 2 [(0,(.int .i64 1)),(1,(.int .i64 2))]) q λ_ k l m=>xR (aG SS.P 22 2 [(0,(.int .i64 1)),(1,(.int .i64 2))]) m λ_ h i j=>FW SS 39 [(.agg ⟨n⟩),(.int .i64 e5),(sA (q.next) k l),(sA (m.next) h i)] j λf g=>yS f λe=>au ((e:LB)==[105,110,102]) (lA 29 g (pA (d5.next)) λd=>FW SS 39 [(.agg ⟨d⟩),(.int .i64 d2),nA,nA] g λb c=>yS b λa=>Q (.bool ((a:LB)==[50])) c) (Q (.bool false) g)) (Q (.bool false) q)) (Q (.bool false) u)) (Q (.bool false) y)) (Q (.bool false) R)) (Q (.bool false) S)) (Q (.bool false) Y)) (Q (.bool false) X)) (Q (.bool false) T)) (Q (.bool false) c2)) (Q (.bool false) U)) (Q (.bool false) d0)))):FW SS 12 [] h Q:=cN Xq Tryz.func12 (ai hx)
variable{h:ae}{g:ae}{a:Option Addr}{n:Nat}{k:Nat}{d:List Value}{p:List Int}{t:List UInt8}
theorem UD{c:Nat}{d:List (dA×Value)}(w:Wf g)(b:d.map (·.1)=M.af)(f:ki h g (.slice a n c) d):
  ∃u:dS,ah SS.P 29 (.pointer (some ⟨g.next,0,none⟩)) (.agg ⟨bE M a n c⟩) (g.push mS)=some (undef,u)/\Ok g (u.app (g.push mS))/\MB (u.app (g.push mS)) g.next M a n c:=by
 obtain⟨o,e⟩:=pn (cs:=bE M a n c) w ((Ok.refl w).push mS) (aN g mS) (Nat.le_refl _);refine⟨_,kV (t:=29) ur (cs0:=[.int .i64 0,.int .i64 0,strOf [],.slice none 0 0]) rfl (aN g mS) (cs:=bE M a n c) rfl (uO ..),o,e,?_⟩;have:=f.st;rw[b]at this;exact dm.ok this o
theorem acF(z:Int):aG SS.P 22 1 [(0,.int .i64 z)]=some (.cells [.int .i64 z] 3 1 true,mN 1 1):=by kernel_rfl
theorem XH(z y:Int):aG SS.P 22 2 [(0,.int .i64 z),(1,.int .i64 y)]=some (.cells [.int .i64 z,.int .i64 y] 3 1 true,mN 2 2):=by kernel_rfl
theorem ad8(z y x:Int):aG SS.P 22 3 [(0,.int .i64 z),(1,.int .i64 y),(2,.int .i64 x)]=some (.cells [.int .i64 z,.int .i64 y,.int .i64 x] 3 1 true,mN 3 3):=by kernel_rfl
theorem sr{cs:List Value}{l:List Int}(h:g.get k=some (.cells cs 3 1 true))(b:cs=wG l)(a:l.length=n):dO g (.slice (some ⟨k,0,none⟩) n n) l:=by
 subst a;subst b;exact .inr ⟨k,0,wG l,l.length,true,3,1,rfl,h,.inl ⟨rfl,rfl⟩,by rw[drop_zero,take_of_length_le (Nat.le_of_eq (jz l))]⟩
theorem wL(g:ae):dO g (.slice none 0 0) []:= .inl ⟨rfl,rfl⟩
theorem o9{R:bp}{e:Int}{r:bp×Int}(l:FW SS n d g (BH g r))(m:r=(R,e)){Z:ae->List Value->Int->Prop}
  (p:∀(b:ae)(a:Option Addr)(i c:Nat)(u:dS),Ok g b->ah SS.P 29 (.pointer (some ⟨b.next,0,none⟩)) (.agg ⟨bE R a i c⟩) (b.push mS)=some (undef,u)->Ok g (u.app (b.push mS))->MB (u.app (b.push mS)) b.next R a i c->Z b (bE R a i c) e):
  FW SS n d g λv h=>∃cs:LV,∃i:Int,v = .tuple ⟨[.agg ⟨cs⟩,.int .i64 i]⟩/\Z h cs i:=by
 refine l.mono ?_;rintro _ b ⟨a,i,c,t,rfl,f,s,j⟩;rw[m]at f⊢;obtain⟨u,o,q,k⟩:=UD j.wf f s;exact⟨_,_,rfl,p b a i c u j o (j.trans q) k⟩
theorem nO{c:Nat}{j:List Int}(w:Wf g)(x:MB g k M a n c)(s:Small M){d f:Option Addr}{q i e m:Nat}(r:dO g (.slice d q i) p)(u:dO g (.slice f e m) j)(z:AO M p j=(t,0))
  {Z:List UInt8->ae->Prop} (y:∀b,Ok g b->Z t b):
  FW SS 39 [.agg ⟨bE M a n c⟩,.int .i64 0,.slice d q i,.slice f e m] g λv h=>yS v λl=>Z l h:=by
 refine(PY w s x.row r u).mono ?_;rintro _ b ⟨rfl,o⟩;rw[z];exact⟨_,rfl,y b o⟩
theorem SF(w:Wf h)(r:nP h):FW SS 12 [] h (λv g=>v = .bool true/\Ok h g):=by
 have o1:=(Ok.refl w).push (.cells [.int .i64 1] 3 1 true);have e:=sr (l:=[1]) (n:=1) (aN h (.cells [.int .i64 1] 3 1 true)) rfl rfl;refine SE h _ ⟨_,_,_,acF 1,_,_,_,acF 2,_,_,_,XH 1 1,_,_,_,XH 2 2,?_⟩;generalize h.push (.cells [.int .i64 1] 3 1 true)=g1 at*;have o2:=(Ok.refl o1.wf).push (.cells [.int .i64 2] 3 1 true);have f:=sr (l:=[2]) (n:=1) (aN g1 (.cells [.int .i64 2] 3 1 true)) rfl rfl;generalize g1.push (.cells [.int .i64 2] 3 1 true)=g2 at*;have X:=(Ok.refl o2.wf).push (.cells [.int .i64 1,.int .i64 1] 3 1 true);have t:=sr (l:=[1,1]) (n:=2) (aN g2 (.cells [.int .i64 1,.int .i64 1] 3 1 true)) rfl rfl;generalize g2.push (.cells [.int .i64 1,.int .i64 1] 3 1 true)=g3 at*;have M:=(Ok.refl X.wf).push (.cells [.int .i64 2,.int .i64 2] 3 1 true);have Q:=sr (l:=[2,2]) (n:=2) (aN g3 (.cells [.int .i64 2,.int .i64 2] 3 1 true)) rfl rfl;generalize g3.push (.cells [.int .i64 2,.int .i64 2] 3 1 true)=g4 at*;have q4:=((o1.trans o2).trans X).trans M;have e:=dO.ok e ((o2.trans X).trans M);have f:=dO.ok f (X.trans M);have t:=dO.ok t M;refine o9 (CM M.wf (r.ok q4) e f (by decide)) acb λv5 a n c z8 ob st T b=>⟨_,qJ,z8,st,?_⟩
 generalize z8.app (v5.push mS)=v8 at*;have y3:=q4.trans T;have e:=dO.ok e T;have f:=dO.ok f T;refine o9 (CM T.wf (r.ok y3) e f (by decide)) acd λj0 a' n' c' y8 j6 w3 V x=>⟨_,qJ,y8,w3,aa (λq=>by cases q) (λ_=>aa (λq=>by cases q) (λ_=>?_))⟩
 generalize y8.app (j0.push mS)=w5 at*;have z6:=y3.trans V;have b:=b.ok V;refine⟨_,b.all,_,x.all,o9 (FJ V.wf (r.ok z6) Je ZR b.row x.row) acm λu2 aU nU cU z4 q0 v3 L B=>⟨_,qJ,z4,v3,?_⟩⟩;generalize z4.app (u2.push mS)=w8 at*;have y9:=z6.trans L;have b:=b.ok L;have x:=x.ok L;refine⟨_,b.all,_,x.all,o9 (LN L.wf (r.ok y9) Je ZR b.row x.row (λ_=>aaC)) ace λw2 aC nC cC y4 X1 v7 W Z=>⟨_,qJ,y4,v7,?_⟩⟩;generalize y4.app (w2.push mS)=w7 at*;have x9:=y9.trans W;have b:=b.ok W;refine⟨_,b.all,o9 (Jf W.wf (r.ok x9) Je b.row) acj λu8 aS nS cS y7 j9 j3 K s=>⟨_,qJ,y7,j3,?_⟩⟩;generalize y7.app (u8.push mS)=u5 at*;have z3:=x9.trans K;have b:=b.ok K;refine⟨_,b.all,o9 (LP K.wf (r.ok z3) Je (by decide) (by decide) b.row) aci λu3 aR nR cR x5 X3 u7 o E=>⟨_,qJ,x5,u7,?_⟩⟩;generalize x5.app (u3.push mS)=w1 at*;have z0:=z3.trans o;have b:=b.ok o;refine⟨_,b.all,o9 (Pc o.wf (r.ok z0) Je (by decide) b.row (λ_ _=>aaD)) ack λj5 aT nT cT z1 X2 w4 p Y=>⟨_,qJ,z1,w4,?_⟩⟩;generalize z1.app (j5.push mS)=J at*;have v6:=z0.trans p;refine⟨_,_,_,ad8 2 1 2,?_⟩;have m:=(Ok.refl p.wf).push (.cells [.int .i64 2,.int .i64 1,.int .i64 2] 3 1 true);have v9:=sr (l:=[2,1,2]) (n:=3) (aN J (.cells [.int .i64 2,.int .i64 1,.int .i64 2] 3 1 true)) rfl rfl;generalize J.push (.cells [.int .i64 2,.int .i64 1,.int .i64 2] 3 1 true)=q3 at*;refine o9 (Xx m.wf v9 (by decide)) ach λu6 aL nL cL x8 q1 j4 k G=>⟨_,qJ,x8,j4,?_⟩
 generalize x8.app (u6.push mS)=R at*;have z2:=(v6.trans m).trans k;refine o9 (CM k.wf (r.ok z2) (wL R) (wL R) (by decide)) acf λv0 aH nH cH x0 j7 j1 j mH=>⟨_,qJ,x0,j1,?_⟩
 generalize x0.app (v0.push mS)=j8 at*;have x6:=z2.trans j;refine⟨_,mH.all,o9 (Jf j.wf (r.ok x6) aco mH.row) acg λz9 aK nK cK I X0 w0 i mK=>⟨_,qJ,I,w0,aa (λ_=>?_) (λq=>by cases q)⟩⟩;generalize I.app (z9.push mS)=d at*;have x7:Ok w8 d:=((((((W.trans K).trans o).trans p).trans m).trans k).trans j).trans i;have u4:Ok w7 d:=(((((K.trans o).trans p).trans m).trans k).trans j).trans i;have j2:Ok u5 d:=((((o.trans p).trans m).trans k).trans j).trans i;have v2:Ok w1 d:=(((p.trans m).trans k).trans j).trans i;have v1:Ok J d:=((m.trans k).trans j).trans i;have w9:Ok R d:=j.trans i;have u1:Ok w5 d:=L.trans x7;have P:Ok v8 d:=V.trans u1;have e4:Ok g4 d:=T.trans P;have u0:=x6.trans i;have B:=B.ok x7;have Z:=Z.ok u4;have s:=s.ok j2;have E:=E.ok v2;have Y:=Y.ok v1;have G:=G.ok w9;have e:=dO.ok e P;have f:=dO.ok f P;have t:=dO.ok t e4;have Q:=dO.ok Q e4;refine⟨_,B.all,nO i.wf B ZU e f acr λh1 p1=>aa (λ_=>?_) (λq=>by cases q)⟩;have y:=p1;refine⟨_,(B.ok y).all,nO y.wf (B.ok y) ZU (dO.ok e y) (dO.ok e y) acs λh2 p2=>aa (λ_=>?_) (λq=>by cases q)⟩;have A:=y.trans p2;refine⟨_,(Z.ok A).all,nO A.wf (Z.ok A) acn (dO.ok t A) (dO.ok Q A) acu λh3 p3=>aa (λ_=>?_) (λq=>by cases q)⟩;have U:=A.trans p3;refine⟨_,(s.ok U).all,nO U.wf (s.ok U) SD (wL h3) (wL h3) acv λh4 p4=>aa (λ_=>?_) (λq=>by cases q)⟩;have H:=U.trans p4;refine⟨_,(s.ok H).all,nO H.wf (s.ok H) SD (dO.ok t H) (dO.ok Q H) acw λh5 p5=>aa (λ_=>?_) (λq=>by cases q)⟩;have O:=H.trans p5;refine⟨_,(s.ok O).all,nO O.wf (s.ok O) SD (dO.ok e O) (wL h5) acx λh6 p6=>aa (λ_=>?_) (λq=>by cases q)⟩;have C:=O.trans p6;refine⟨_,(E.ok C).all,nO C.wf (E.ok C) ZT (dO.ok e C) (dO.ok f C) acy λh7 p7=>aa (λ_=>?_) (λq=>by cases q)⟩;have F:=C.trans p7;refine⟨_,(E.ok F).all,nO F.wf (E.ok F) ZT (dO.ok t F) (dO.ok Q F) acz λh8 p8=>aa (λ_=>?_) (λq=>by cases q)⟩;have D:=F.trans p8;refine⟨_,(Y.ok D).all,nO D.wf (Y.ok D) acq (dO.ok e D) (dO.ok f D) acA λh9 p9=>aa (λ_=>?_) (λq=>by cases q)⟩;have z:=D.trans p9;refine⟨_,(G.ok z).all,nO z.wf (G.ok z) ZS (dO.ok f z) (dO.ok f z) aaE λz7 v4=>aa (λ_=>?_) (λq=>by cases q)⟩;have N:=z.trans v4;refine⟨_,(G.ok N).all,_,_,_,XH 1 2,_,_,_,XH 1 2,?_⟩;have y6:=(Ok.refl N.wf).push (.cells [.int .i64 1,.int .i64 2] 3 1 true);have y1:=sr (l:=[1,2]) (n:=2) (aN z7 (.cells [.int .i64 1,.int .i64 2] 3 1 true)) rfl rfl;generalize z7.push (.cells [.int .i64 1,.int .i64 2] 3 1 true)=y0 at*;have y5:=(Ok.refl y6.wf).push (.cells [.int .i64 1,.int .i64 2] 3 1 true);have y2:=sr (l:=[1,2]) (n:=2) (aN y0 (.cells [.int .i64 1,.int .i64 2] 3 1 true)) rfl rfl;generalize y0.push (.cells [.int .i64 1,.int .i64 2] 3 1 true)=q2 at*;have S:=(N.trans y6).trans y5;refine nO S.wf (G.ok S) ZS (dO.ok y1 y5) y2 aaF λz5 w6=>aa (λ_=>?_) (λq=>by cases q);have u:=S.trans w6;refine⟨_,(mK.ok u).all,nO u.wf (mK.ok u) acp (wL z5) (wL z5) aaG λX4 u9=>⟨rfl,u0.trans (u.trans u9)⟩⟩
section
def EQ(h:ae):VH:=λv g=>v = .bool true/\Ok h g
section
variable {h g:ae}
theorem CK(d:nP h)(a:Ok h g):FW SS 12 [] g λv c=>yB v λb=>EQ h (.bool b) c:=by
 refine(SF a.wf (d.ok a)).mono ?_;rintro _ e ⟨rfl,o⟩;exact⟨_,rfl,rfl,a.trans o⟩
theorem TJ{K:Type}{S:bh K}{b:List UInt8->K}(d:sP S b M.kind)(c:bT M=true){xs ys:List Int}(g:eL xs=true)(i:eL ys=true){a:List UInt8}(f:aM M.kind a=true)(k:Ns S b M xs ys=b a):Dd M M.kind xs ys a=true:=by
 unfold Dd;rw[c];rcases WS d c g i with⟨w,e,h,j⟩|e
 ·rw[e];have:=d.inj h f (j.trans k);subst this;simp
 ·rw[e];simp
variable {kind:Int} {xa ya ua va:Option Addr} {xc yc uc vc:Nat} {xs ys us vs:List Int} {wt:List UInt8}
end
end
end Go.Proofs.YtaaichlgdgjgjaaGreatDoor
end
