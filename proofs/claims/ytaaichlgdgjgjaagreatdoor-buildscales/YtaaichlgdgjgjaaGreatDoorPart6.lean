/- Laws and walks that the proof leans on (part 6): V11; BA16; BA17; V12; BA18; V7 and others. No condition. -/
import Derived.Test.YtaaichlgdgjgjaaGreatDoorPart3
import Derived.Test.YtaaichlgdgjgjaaGreatDoorPart2
import Derived.Test.YtaaichlgdgjgjaaGreatDoorPart5
set_option linter.unusedVariables false
set_option linter.unusedSimpArgs false
set_option maxRecDepth 100000
open List (all_cons all_eq_true append_assoc drop_length drop_take drop_zero ext_getElem getElem?_map length_append length_cons length_drop length_replicate length_set length_take map_append map_congr_left map_set map_take mem_map range_succ take_of_length_le take_take)
open Nat (lt_succ_self min_eq_left)
open Option (map_eq_some_iff)
open Bool (and_eq_true not_eq_false' not_eq_true')
open Go.IntKind (wrap)
section
namespace Go.Proofs.YtaaichlgdgjgjaaGreatDoor
open Go Go.Ab Go.Num
noncomputable def Sm:FD:=cG Tryz.f42 []
theorem OP(g:Int)(h:ae)(Q:VH)(i:FW SS 70 [(.int .i64 g)] h λe f=>yS e λd=>xA (bh SS.P 29 [(0,(.int .i64 g)),(2,(strOf d))]) λc=>xA (bh SS.P 65 [(0,(.agg ⟨c⟩)),(1,(strOf d))]) λb=>xN (eK SS.P 65 (.agg ⟨b⟩)) f λ_ a=>Q (pA (f.next)) a):FW SS 42 [(.int .i64 g)] h Q:=cQ Sm Tryz.func42 (ai i)
noncomputable def Sn:FD:=cG Tryz.f43 []
theorem OQ(k:Nat)(f:LB)(h:ae)(Q:VH)(u:fP 65 (pA k) 0 λt=>fP 29 (.pointer (some t)) 3 λs=>lL 27 h s λp q r=>xA (bh SS.P 73 [(0,(strOf f))]) λo=>xR (aF SS.P 27 1 [(0,(.agg ⟨o⟩))]) h λ_ l m n=>xE (bI SS.P 27 27 (.slice p q r) (sA (h.next) l m) n) n λg h i _ j=>fP 65 (pA k) 0 λf=>fP 29 (.pointer (some f)) 3 λe=>xU (ah SS.P 27 (.pointer (some e)) (.slice g h i) j) j λ_ d=>fP 65 (pA k) 0 λc=>fP 29 (.pointer (some c)) 3 λb=>lL 27 d b λ_ a _=>Q (.int .i64 (wrap .i64 ((a:Int)-1))) d):FW SS 43 [(pA k),(strOf f)] h Q:=cQ Sn Tryz.func43 (ai u)
noncomputable def aaf:FD:=cG Tryz.f44 []
theorem WR(k:Nat)(s:Int)(C:LV)(h:ae)(Q:VH)(F:xN (eK SS.P 70 (.agg ⟨C⟩)) h λ_ B=>fP 65 (pA k) 2 λG=>lI B G λH=>fP 65 (pA k) 2 λE=>xU (ah SS.P 3 (.pointer (some E)) (.int .i64 (wrap .i64 (H+1))) B) B λ_ A=>fP 65 (pA k) 0 λD=>fP 29 (.pointer (some D)) 3 λz=>lL 27 (room A 21) z λw x y=>fP 65 (pA k) 0 λv=>fP 29 (.pointer (some v)) 3 λu=>lL 27 (room A 21) u λq r t=>iP 27 (.slice q r t) (.int .i64 s) λp=>fP 73 (.pointer (some p)) 1 λo=>lL 71 (room A 21) o λl m n=>lA 70 (room A 21) (pA (h.next)) λk=>zR (aF SS.P 71 1 [(0,(.agg ⟨k⟩))]) λh i j=>xE (bI SS.P 71 71 (.slice l m n) (sA (A.next+16) i j) (cj (room A 21) A.next [(16,h)])) (cj (room A 21) A.next [(16,h)]) λd e f _ g=>iP 27 (.slice w x y) (.int .i64 s) λc=>fP 73 (.pointer (some c)) 1 λb=>xU (ah SS.P 71 (.pointer (some b)) (.slice d e f) g) g λ_ a=>(aj SS.P 27 g (.pointer (some z))=some (.slice w x y)/\dG 4 (.slice w x y) (.slice w x y)=true)/\Q (.tuple ⟨[]⟩) a):FW SS 44 [(pA k),(.int .i64 s),(.agg ⟨C⟩)] h Q:=cQ aaf Tryz.func44 (ai F)
noncomputable def aah:FD:=cG Tryz.f58 []
theorem WZ(k:Nat)(s:Int)(w:LB)(t:Int)(h:ae)(Q:VH)(d:xA (bh SS.P 70 [(2,(strOf w)),(3,(.int .i64 t))]) λc=>FW SS 44 [(pA k),(.int .i64 s),(.agg ⟨c⟩)] h λa b=>a=(.tuple ⟨[]⟩)/\Q (.tuple ⟨[]⟩) b):FW SS 58 [(pA k),(.int .i64 s),(strOf w),(.int .i64 t)] h Q:=cQ aah Tryz.func58 (ai d)
noncomputable def Sp:FD:=cG Tryz.f63 []
theorem OS(k:Nat)(a b:LB)(h:ae)(Q:VH)(l:fP 65 (pA k) 0 λj=>fP 29 (.pointer (some j)) 0 λi=>lI h i λg=>FW SS 86 [(.int .i64 g),(strOf a),(strOf b)] h λe f=>∃d:LB,∃c:Int,e=(.tuple ⟨[(strOf d),(.int .i64 c)]⟩)/\au (((c:Int) !=0)) (fP 65 (pA k) 3 λb=>xU (ah SS.P 30 (.pointer (some b)) (.int .i64 c) f) f λ_ a=>Q (strOf d) a) (Q (strOf d) f)):FW SS 63 [(pA k),(strOf a),(strOf b)] h Q:=cQ Sp Tryz.func63 (ai l)
noncomputable def WY:FD:=cG Tryz.f64 []
theorem Sj(k:Nat)(t:Int)(h:ae)(Q:VH)(c:xN (eK SS.P 62 (pA k)) h λ_ b=>xN (eK SS.P 3 (.int .i64 t)) b λ_ a=>Q (.func (.func 87) ⟨[]⟩ ⟨[(pA (h.next)),(pA (b.next))]⟩) a):FW SS 64 [(pA k),(.int .i64 t)] h Q:=cQ WY Tryz.func64 (ai c)
noncomputable def Si:FD:=cG Tryz.f87 []
theorem OM(s:Int)(f:LB)(q r:Nat)(h:ae)(Q:VH)(t:xO (aj SS.P 62 h (pA q)) λp=>H6 SS.P p h λn o=>fP 65 n 0 λm=>fP 29 (.pointer (some m)) 3 λl=>lL 27 o l λi j k=>iP 27 (.slice i j k) (.int .i64 s) λh=>fP 73 (.pointer (some h)) 0 λg=>xU (ah SS.P 9 (.pointer (some g)) (strOf []) o) o λ_ e=>xO (aj SS.P 62 e (pA q)) λd=>xI .i64 (aj SS.P 3 e (pA r)) λc=>FW SS 58 [(.pointer d),(.int .i64 s),(strOf f),(.int .i64 c)] e λa b=>a=(.tuple ⟨[]⟩)/\Q (.tuple ⟨[]⟩) b):FW SS 87 [(.int .i64 s),(strOf f),(pA q),(pA r)] h Q:=cQ Si Tryz.func87 (ai t)
noncomputable def WU:FD:=cG Tryz.f60 []
theorem Sf(s:Int)(f:LB)(h:ae)(Q:VH)(a:Q (.tuple ⟨[]⟩) h):FW SS 60 [(.int .i64 s),(strOf f)] h Q:=cQ WU Tryz.func60 (ai a)
noncomputable def WT:FD:=cG Tryz.f46 []
theorem Sd(k:Nat)(h:ae)(Q:VH)(n:xN (br SS.P 29) h λ_ m=>fP 65 (pA k) 3 λl=>xI .i64 (aj SS.P 30 m (.pointer (some l))) λj=>au (((j:Int) !=0)) (xA (bh SS.P 29 []) λb=>xU (ah SS.P 29 (pA (h.next)) (.agg ⟨b⟩) m) m λ_ a=>dY SS [((pA (h.next)),some 29),((.int .i64 2),none)] a Q) (fP 65 (pA k) 0 λi=>fP 29 (.pointer (some i)) 3 λg=>lL 27 m g λ_ f _=>au (decide (((f:Int):Int)>3000)) (xA (bh SS.P 29 []) λb=>xU (ah SS.P 29 (pA (h.next)) (.agg ⟨b⟩) m) m λ_ a=>dY SS [((pA (h.next)),some 29),((.int .i64 2),none)] a Q) (fP 65 (pA k) 2 λe=>lI m e λd=>au (decide ((d:Int)>30000)) (xA (bh SS.P 29 []) λb=>xU (ah SS.P 29 (pA (h.next)) (.agg ⟨b⟩) m) m λ_ a=>dY SS [((pA (h.next)),some 29),((.int .i64 2),none)] a Q) (fP 65 (pA k) 0 λc=>lA 29 m (.pointer (some c)) λb=>xU (ah SS.P 29 (pA (h.next)) (.agg ⟨b⟩) m) m λ_ a=>dY SS [((pA (h.next)),some 29),((.int .i64 0),none)] a Q)))):FW SS 46 [(pA k)] h Q:=cQ WT Tryz.func46 (ai n)
noncomputable def aai:FD:=cG Tryz.f51 []
theorem Xa(s:Int)(h:ae)(Q:VH)(a:au (decide ((s:Int)>=1)) (Q (.bool (decide ((s:Int)<=500))) h) (Q (.bool false) h)):FW SS 51 [(.int .i64 s)] h Q:=cQ aai Tryz.func51 (ai a)
noncomputable def ab9:FD:=cG Tryz.f45 []
theorem aag(d:OA)(c e:Nat)(i:Nat)(h:ae)(Q:VH)(f:au (decide (((i:Int):Int)<(c:Int))) (iP 22 (.slice d c e) (iA i) λb=>lI h b λa=>Q (.int .i64 a) h) (Q (.int .i64 0) h)):FW SS 45 [(.slice d c e),(iA i)] h Q:=cQ ab9 Tryz.func45 (ai f)
noncomputable def Sr:FD:=cG Tryz.f68 []
theorem OV(s:Int)(h:ae)(Q:VH)(d:FW SS 51 [(.int .i64 s)] h λb c=>yB b λa=>Q (.bool (!a)) c):FW SS 68 [(.int .i64 s)] h Q:=cQ Sr Tryz.func68 (ai d)
noncomputable def WV:FD:=cG Tryz.f50 []
theorem Sg(s:Int)(h:ae)(Q:VH)(d:FW SS 51 [(.int .i64 s)] h λb c=>yB b λa=>Q (.bool (!a)) c):FW SS 50 [(.int .i64 s)] h Q:=cQ WV Tryz.func50 (ai d)
noncomputable def rK:FD:=cG Tryz.f79 [([1,0,1,0,0],[0,1,7,8])]
abbrev mY(b:OA)(a c:Nat)(i:Nat):LV:=[(.slice b a c),(.func (.func 68) ⟨[]⟩ ⟨[]⟩),(iA a),(iA i)]
theorem Tj(a:OA)(c b:Nat)(h:ae)(Q:VH)(d:LL SS rK [1,0,1,0,0] (mY a c b 0) h (KK SS rK [1,0,1,0] [] (EE SS rK Q))):FW SS 79 [(.slice a c b),(.func (.func 68) ⟨[]⟩ ⟨[]⟩)] h Q:=cQ rK Tryz.func79 (ai d)
theorem zE(k:OA)(g l:Nat)  (j:Nat->Nat->ae->Prop) (Q:VH) (step:∀(f:Nat)(i:Nat)(n:Nat->Value)(h:ae),j f i h->au (decide (((i:Int):Int)<(g:Int))) (iP 22 (.slice k g l) (iA i) λe=>lI h e λd=>FW SS 68 [(.int .i64 d)] h λb c=>yB b λa=>au a (Q (iA i) c) (aI (fj (mY k g l) j) f [(.slice k g l),(.func (.func 68) ⟨[]⟩ ⟨[]⟩),(iA g),(.int .i64 (wrap .i64 ((i:Int)+1)))] c)) (Q (.int .i64 (-1)) h)) (f:Nat) {i:Nat} {h:ae} (m:j f i h):LL SS rK [1,0,1,0,0] (mY k g l i) h (KK SS rK [1,0,1,0] [] (EE SS rK Q)):=
 dg (mY k g l) j (λf i n h m=>ai (step f i n h m)) f m
noncomputable def SK:FD:=cG Tryz.f49 []
theorem O7(d:OA)(f e:Nat)(h:ae)(Q:VH)(g:FW SS 79 [(.slice d f e),(.func (.func 68) ⟨[]⟩ ⟨[]⟩)] h λb c=>yI .i64 b λa=>Q (.bool (decide ((a:Int)>=0))) c):FW SS 49 [(.slice d f e),(.func (.func 68) ⟨[]⟩ ⟨[]⟩)] h Q:=cQ SK Tryz.func49 (ai g)
noncomputable def rJ:FD:=cG Tryz.f79 [([1,0,1,0,0],[0,1,7,8])]
abbrev mX(b:OA)(a c:Nat)(i:Nat):LV:=[(.slice b a c),(.func (.func 50) ⟨[]⟩ ⟨[]⟩),(iA a),(iA i)]
theorem Ti(a:OA)(c b:Nat)(h:ae)(Q:VH)(d:LL SS rJ [1,0,1,0,0] (mX a c b 0) h (KK SS rJ [1,0,1,0] [] (EE SS rJ Q))):FW SS 79 [(.slice a c b),(.func (.func 50) ⟨[]⟩ ⟨[]⟩)] h Q:=cQ rJ Tryz.func79 (ai d)
theorem zD(k:OA)(g l:Nat)  (j:Nat->Nat->ae->Prop) (Q:VH) (step:∀(f:Nat)(i:Nat)(n:Nat->Value)(h:ae),j f i h->au (decide (((i:Int):Int)<(g:Int))) (iP 22 (.slice k g l) (iA i) λe=>lI h e λd=>FW SS 50 [(.int .i64 d)] h λb c=>yB b λa=>au a (Q (iA i) c) (aI (fj (mX k g l) j) f [(.slice k g l),(.func (.func 50) ⟨[]⟩ ⟨[]⟩),(iA g),(.int .i64 (wrap .i64 ((i:Int)+1)))] c)) (Q (.int .i64 (-1)) h)) (f:Nat) {i:Nat} {h:ae} (m:j f i h):LL SS rJ [1,0,1,0,0] (mX k g l i) h (KK SS rJ [1,0,1,0] [] (EE SS rJ Q)):=
 dg (mX k g l) j (λf i n h m=>ai (step f i n h m)) f m
noncomputable def SJ:FD:=cG Tryz.f49 []
theorem O6(d:OA)(f e:Nat)(h:ae)(Q:VH)(g:FW SS 79 [(.slice d f e),(.func (.func 50) ⟨[]⟩ ⟨[]⟩)] h λb c=>yI .i64 b λa=>Q (.bool (decide ((a:Int)>=0))) c):FW SS 49 [(.slice d f e),(.func (.func 50) ⟨[]⟩ ⟨[]⟩)] h Q:=cQ SJ Tryz.func49 (ai g)
noncomputable def Ss:FD:=cG Tryz.f40 []
theorem OX(e:OA)(d f:Nat)(h:ae)(Q:VH)(g:au (decide (((d:Int):Int)<=200)) (FW SS 49 [(.slice e d f),(.func (.func 68) ⟨[]⟩ ⟨[]⟩)] h λb c=>yB b λa=>Q (.bool (!a)) c) (Q (.bool false) h)):FW SS 40 [(.slice e d f)] h Q:=cQ Ss Tryz.func40 (ai g)
noncomputable def aaj:FD:=cG Tryz.f57 []
theorem Xb(q p:LV)(h:ae)(Q:VH)(r:xN (eK SS.P 29 (.agg ⟨q⟩)) h λ_ o=>xN (eK SS.P 29 (.agg ⟨p⟩)) o λ_ n=>lA 29 n (pA (h.next)) λm=>FW SS 66 [(.agg ⟨m⟩)] n λk l=>yB k λj=>au (!j) (Q (.int .i64 1) l) (lA 29 l (pA (o.next)) λi=>FW SS 66 [(.agg ⟨i⟩)] l λf g=>yB f λe=>au (!e) (Q (.int .i64 1) g) (fP 29 (pA (h.next)) 0 λd=>lI g d λc=>fP 29 (pA (o.next)) 0 λb=>lI g b λa=>au (((c:Int) !=a)) (Q (.int .i64 6) g) (Q (.int .i64 0) g)))):FW SS 57 [(.agg ⟨q⟩),(.agg ⟨p⟩)] h Q:=cQ aaj Tryz.func57 (ai r)
variable{h:ae}{T:TypeId}{n:Nat}{v:Value}{L:List (List Value)}
section
theorem oe{f:ae}(o:fh f h T n v L){k:Nat}(a:eZ v=some k):∃cs,h.get k=some (.cells cs T n true):=by
 obtain⟨_,⟨b,_⟩|⟨d,g,cs,c,b,i,e,_⟩⟩:=o
 ·rw[b]at a;cases a
 ·rw[b]at a;obtain rfl:d=k:=oI a;exact⟨cs,e⟩
theorem ke.other{hb g:ae}{r:List (dP×Value)}(m:ke hb g v r){k:Nat}{cs:List Value}{e z:Nat}{w:Bool}(y:g.get k=some (.cells cs e z w))(t:¬(e=73/\z=2))(u:¬(e=70/\z=4))(B:dS):ke hb (g.set k B) v r:=by
 have d:∀{b a:Nat}{j:Value}{f:List (List Value)},fh hb g b a j f->¬(e=b/\z=a)->fh hb (g.set k B) b a j f:=λ{b a j f} o q=>o.kF λD E l n=>by
  rw[ae.aw,if_neg ?_]
  ·exact n
  ·intro c;obtain⟨C,h⟩:=oe o l;rw[c,y]at h;injection h with h
   injection h with _ s x
   exact q ⟨s,x⟩
 exact⟨d m.row t,λi p A=>d (m.arcs i p A) u,m.ne,m.Zw⟩
def Kp(g a:ae):Prop:=g.next<=a.next/\∀(j:Nat)(cs:List Value)(e z:Nat)(w:Bool),g.get j=some (.cells cs e z w)->¬(e=65/\z=0)->¬(e=73/\z=2)->¬(e=70/\z=4)->a.get j=some (.cells cs e z w)
theorem Kp.refl(g:ae):Kp g g:=⟨Nat.le_refl _,λ_ _ _ _ _ h _ _ _=>h⟩
theorem Kp.trans{g c d:ae}(a:Kp g c)(b:Kp c d):Kp g d:=⟨Nat.le_trans a.1 b.1,λj cs e z w h i k f=>b.2 j cs e z w (a.2 j cs e z w h i k f) i k f⟩
theorem Mc{g a:ae}(o:Ok g a):Kp g a:=⟨o.nx,λj cs e z w h _ _ _=>o.ext _ _ h⟩
def Ni(kind start:Int)(lead:List UInt8)(a:Option Addr)(n c:Nat)(na:Nat):List Value:=[.int .i64 kind,.int .i64 start,strOf lead,.slice a n c,strOf (dN kind),.int .i64 (na:Int),.int .i64 0]
structure BU(hb g:ae)(k:Nat)(kind start:Int)(lead:List UInt8)(bL:List dP)(na:Nat):Prop where
 ex:∃(a:Option Addr)(n c:Nat)(ps:List (dP×Value)),g.get k=some (.cells (Ni kind start lead a n c na) 65 0 true)/\ps.map (·.1)=bL/\ke hb g (.slice a n c) ps
 ok:Ok hb g
 nk:hb.next<=k
theorem YT(k o n c:Nat):dG 4 (.slice (some ⟨k,o,none⟩) n c) (.slice (some ⟨k,o,none⟩) n c)=true:=by simp[dG]
theorem kg(k:Nat):aG SS.P 65 (pA k) 0=some (.pointer (some ⟨k,0,none⟩)):=by kernel_rfl
theorem zy(k:Nat):aG SS.P 65 (pA k) 1=some (.pointer (some ⟨k,4,none⟩)):=by kernel_rfl
theorem LD(k:Nat):aG SS.P 65 (pA k) 2=some (.pointer (some ⟨k,5,none⟩)):=by kernel_rfl
theorem aax(k:Nat):aG SS.P 65 (pA k) 3=some (.pointer (some ⟨k,6,none⟩)):=by kernel_rfl
theorem adP(f:List UInt8):bh SS.P 73 [(0,strOf f)]=some (.agg ⟨[strOf f,nA]⟩):=by kernel_rfl
theorem aeA:aE SS.P 27=some 1:=by kernel_rfl
theorem zs3:aE SS.P 3=some 1:=by kernel_rfl
theorem ft(kind start:Int)(lead:List UInt8)(a:Option Addr)(n c na:Nat):(Ni kind start lead a n c na).length=7:=rfl
theorem Au(n:Nat)(a:n<=1000000000):wrap .i64 (((n+1:Nat):Int)-1)=((n:Nat):Int):=by rw[aB (by omega) (by omega)];omega
section
variable {hb g:ae} {k:Nat} {kind start:Int} {lead:List UInt8} {bL:List dP} {na:Nat}
theorem BU.qQ(b:BU hb g k kind start lead bL na)(o:Ok g h):BU hb h k kind start lead bL na:=by
 obtain⟨a,n,c,i,e,f,d⟩:=b.ex;exact⟨⟨a,n,c,i,o.ext _ _ e,f,d.ok o⟩,b.ok.trans o,b.nk⟩
theorem OR(w:Wf hb)(b:BU hb g k kind start lead bL na)(hl:bL.length<=100000)(f:List UInt8):FW SS 43 [pA k,strOf f] g (λv I=>v = .int .i64 (bL.length:Nat)/\BU hb I k kind start lead (bL++[⟨f,[]⟩]) na/\Kp g I):=by
 obtain⟨a,n,c,T,N,t,W⟩:=b.ex;have D:T.length=bL.length:=by rw[<-t,lM]
 have r:=(Ok.refl b.ok.wf).push (.cells [strOf f,.slice none 0 0] 73 2 true);have J:=b.ok.push (.cells [strOf f,.slice none 0 0] 73 2 true);have y:=r.ext _ _ N;have q:=W.ok r;obtain⟨m,d,o,u,R,s,x,B,X,Y⟩:=q.snoc w J (f:=f) (arcs:=[]) (fh.nil hb _ 70 4) (λk' e=>by cases e) (aJ g _) (by omega);have M:eZ (.slice a n c)≠some k:=λe=>by
  obtain⟨cs,h⟩:=oe q.row e;rw[y]at h;injection h with h
  injection h with _ h
  exact absurd h (by decide)
 have p:=B _ _ y M;generalize L:u.app (g.push (.cells [strOf f,.slice none 0 0] 73 2 true))=F at*;have O:=s.other p (by omega) (by omega) (.cells (Ni kind start lead m d o na) 65 0 true);have C:(F.set k (.cells (Ni kind start lead m d o na) 65 0 true)).get k=some (.cells (Ni kind start lead m d o na) 65 0 true):=by rw[ae.aw,if_pos rfl]
 have K:d=bL.length+1:=by
  have:=s.st.len;rw[lM,length_append,D]at this;exact this
 have S:=iX aeA p (i:=3) (by simp[ft]) (v:= .slice m d o) (Du _ _ _) (by cases m<;>rfl);have V:=cq zY Em C (i:=3) (by simp[ft]);refine OQ k f g _ ⟨_,kg k,_,da k,a,n,c,cq zY Em N (i:=3) (by simp[ft]),_,adP f,_,_,_,adJ f none 0 0,m,d,o,u,R,?_⟩;rw[L];refine⟨_,kg k,_,da k,_,S,_,kg k,_,da k,m,d,o,V,?_,⟨⟨m,d,o,_,C,?_,O⟩,x.set _ b.nk (x.wf _ _ p) w,b.nk⟩,?_⟩
 ·rw[K,Au _ (by omega)]
 ·rw[map_append,t];rfl
 ·refine⟨by show g.next<=F.next;have:g.next<=(g.push (.cells [strOf f,.slice none 0 0] 73 2 true)).next:=r.nx;omega,λj cs e z w' U P Q h3=>?_⟩;have A:=r.ext _ _ U;have l:=B _ _ A (λE=>by
   obtain⟨Z,h⟩:=oe q.row E;rw[A]at h;injection h with h
   injection h with _ G H
   exact Q ⟨G,H⟩)
  show(F.set k _).get j=_;rw[ae.aw,if_neg (λE=>by
   rw[E,p]at l;injection l with l
   injection l with _ G H
   exact P ⟨G.symm,H.symm⟩)]
  exact l
theorem adS(q:gZ):eK SS.P 70 (.agg ⟨fE q⟩)=some (.cells (fE q) 70 0 true,k6):=by kernel_rfl
theorem KN(n:Nat)(a:n<=1000000000):wrap .i64 ((n:Int)+1)=((n+1:Nat):Int):=by rw[aB (by omega) (by omega)];omega
theorem WS(w:Wf hb)(b:BU hb g k kind start lead bL na){s:Nat}{t:dP}(hs:bL[s]?=some t)(ha:t.arcs.length<=100000)(z6:na<=1000000)(q:gZ):FW SS 44 [pA k,iA s,.agg ⟨fE q⟩] g (λv g'=>v = .tuple ⟨[]⟩/\BU hb g' k kind start lead (bL.set s ⟨t.f,t.arcs++[q]⟩) (na+1)/\Kp g g'):=by
 obtain⟨a,n,c,l,hk,T,om⟩:=b.ex;obtain⟨p,H,rfl⟩:∃p,l[s]?=some p/\p.1=t:=by
  rw[<-T,getElem?_map]at hs;exact map_eq_some_iff.1 hs
 have x3:0<(l.map uL).length:=by have:=(List.getElem?_eq_some_iff.1 H).1;rw[lM];omega
 obtain⟨f,d,cr,Y,z7⟩:=om.row.blk x3;injection Y with Y en ec
 subst Y en ec;have o1:=(Ok.refl b.ok.wf).push (.cells (fE q) 70 0 true);have P:=b.ok.push (.cells (fE q) 70 0 true);have m:=o1.ext _ _ hk;have y1:=om.ok o1;have x7:=aJ g (.cells (fE q) 70 0 true);have z5:=b.ok.wf _ _ hk;generalize W:g.push (.cells (fE q) 70 0 true)=o at*;have y0:=cq Gm Fa m (i:=5) (by simp[ft]);have y5:=iX zs3 m (i:=5) (by simp[ft]) (v:= .int .i64 ((na+1:Nat):Int)) rfl rfl;have R:=y1.other m (by omega) (by omega) (.cells (Ni kind start lead (some ⟨f,d,none⟩) (l.map uL).length c (na+1)) 65 0 true);have u:=P.set (.cells (Ni kind start lead (some ⟨f,d,none⟩) (l.map uL).length c (na+1)) 65 0 true) b.nk (P.wf _ _ m) w;have O:(o.set k (.cells (Ni kind start lead (some ⟨f,d,none⟩) (l.map uL).length c (na+1)) 65 0 true)).get k=some (.cells (Ni kind start lead (some ⟨f,d,none⟩) (l.map uL).length c (na+1)) 65 0 true):=by rw[ae.aw,if_pos rfl]
 have z2:(o.set k (.cells (Ni kind start lead (some ⟨f,d,none⟩) (l.map uL).length c (na+1)) 65 0 true)).get g.next=some (.cells (fE q) 70 0 true):=by rw[ae.aw,if_neg (by omega)];exact x7
 refine WR k s (fE q) g _ ⟨_,adS q,?_⟩;rw[W];refine⟨_,LD k,_,y0,_,LD k,?_⟩;rw[KN na (by omega)];refine⟨_,y5,?_⟩;have z8:(o.set k (.cells (Ni kind start lead (some ⟨f,d,none⟩) (l.map uL).length c (na+1)) 65 0 true)).next=o.next:=rfl;have z1:∀j cs e z L,g.get j=some (.cells cs e z L)->¬(e=65/\z=0)->(o.set k (.cells (Ni kind start lead (some ⟨f,d,none⟩) (l.map uL).length c (na+1)) 65 0 true)).get j=some (.cells cs e z L):=λj cs e z L I h1=>by
  have r:=o1.ext _ _ I;rw[ae.aw,if_neg (λA=>by
   rw[A,m]at r;injection r with r
   injection r with _ F J
   exact h1 ⟨F.symm,J.symm⟩)]
  exact r
 have z9:g.next<o.next:=by rw[<-W];exact lt_succ_self _
 generalize x6:o.set k (.cells (Ni kind start lead (some ⟨f,d,none⟩) (l.map uL).length c (na+1)) 65 0 true)=g2 at*;have e2:(dM.set k (.cells ((Ni kind start lead (some ⟨f,d,none⟩) (l.map uL).length c na).set 5 (.int .i64 ((na+1:Nat):Int))) 65 0 true)).app o=g2:=x6;rw[e2];obtain⟨E,y6⟩:=YF u.wf (n:=21) (j:=16) (by omega) (Ok.refl (u.room 21).wf) (.cells (fE q) 70 4 true);have or:=(Ok.refl u.wf).room 21;have x5:=R.ok or;obtain⟨i1,i2,i3⟩:=x5.at_ H;obtain⟨Z,xn,xc,M⟩:∃(Z:Option Addr)(xn xc:Nat),p.2 = .slice Z xn xc:=by
  obtain⟨x1,x2,e⟩:=(om.arcs s p H).Wv;exact⟨x1,_,x2,e⟩
 rw[M]at i2;have z0:=or.ext _ _ z2;have Q:=or.ext _ _ O;have x:=R.ok E;have V:=u.trans E;have y:=x.arcs s p H;rw[M]at y;obtain⟨b4,n4,c4,u4,y2,x9,y8,C,y9,z4⟩:=R6 w V y (q:=q) y6 ha;have K:=E.ext _ _ O;have X:eZ (.slice Z xn xc)≠some k:=λe=>by
  obtain⟨D,h⟩:=oe y e;rw[K]at h;injection h with h
  injection h with _ h
  exact absurd h (by decide)
 have N:=C _ _ K X;obtain⟨u5,x0,y4,y7,S,x8⟩:=x.aen w y8 H (λj B I U=>C _ _ I (by rw[M]at U;exact U)) x9 (λj e=>by rw[M];exact y9 j e) V.wf;have x4:f≠k:=λe=>by
  obtain⟨D,h⟩:=oe x.row (k:=f) rfl;rw[e,K]at h;injection h with h
  injection h with _ h
  exact absurd h (by decide)
 have y3:aj SS.P 70 (Go.Ab.room g2 21) (pA g.next)=some (.agg ⟨fE q⟩):=by
  rw[o0 abh Z3 Of z0 (by simp[IH]),drop_zero,take_of_length_le (by simp[IH])]
 refine⟨_,kg k,_,da k,_,_,_,cq zY Em Q (i:=3) (by simp[ft]),_,kg k,_,da k,_,_,_,cq zY Em Q (i:=3) (by simp[ft]),_,i1,_,iu _ _,_,_,_,i2,_,y3,_,_,_,adK q,b4,n4,c4,u4,y2,_,i1,_,iu _ _,u5,x0,⟨cq zY Em N (i:=3) (by simp[ft]),YT _ _ _ _⟩,rfl,⟨⟨_,_,_,_,S _ _ N x4,?_,y4⟩,y7,b.nk⟩,?_⟩
 ·rw[<-T,map_set]
 ·refine⟨by rw[x8];have:=E.nx;omega,λj cs e z L I h1 h2 h3=>?_⟩;have G:=E.ext _ _ (z1 _ _ _ _ _ I h1);have z3:=C _ _ G (λA=>by
   obtain⟨D,h⟩:=oe y A;rw[G]at h;injection h with h
   injection h with _ F J
   exact h3 ⟨F,J⟩)
  refine S _ _ z3 (λA=>?_);obtain⟨D,h⟩:=oe x.row (k:=f) rfl;rw[A,G]at h;injection h with h
  injection h with _ F J
  exact h2 ⟨F,J⟩
end
end
variable{A:Type}{i:Nat}{c:List Value}{d:List Value}
section
theorem G3(l:List A)(a:A)(r:List A){n:Nat}(h:l.length=n):(l++a::r)[n]?=some a:=by
 subst h;rw[List.getElem?_append_right (Nat.le_refl _),Nat.sub_self];rfl
theorem uI(l:List A)(a b:A)(r:List A){n:Nat}(h:l.length=n):(l++a::r).set n b=l++b::r:=by
 subst h;rw[List.set_append_right _ _ (Nat.le_refl _),Nat.sub_self];rfl
theorem DB{l:List A}{a:A}(h:l[i]?=some a):l=l.take i++a::l.drop (i+1)/\(l.take i).length=i:=by
 have b:=(List.getElem?_eq_some_iff.1 h).1;have e:l[i]=a:=by rw[gE b]at h;exact oI h
 refine⟨?_,by rw[length_take];omega⟩;rw[<-e,<-List.drop_eq_getElem_cons b,List.take_append_drop]
theorem eA(l r:List dP):cg (l++r)=cg l+cg r:=by unfold cg;rw[map_append,List.sum_append]
theorem Kx{l:List dP}{s:dP}(h:l[i]?=some s):s.arcs.length<=cg l:=by
 obtain⟨e,_⟩:=DB h;rw[e,eA,dm];omega
theorem DD{l:List dP}{s t:dP}(h:l[i]?=some s):cg (l.set i t)+s.arcs.length=cg l+t.arcs.length:=by
 obtain⟨e,a⟩:=DB h
 conv=>rhs;rw[e]
 conv=>lhs;rw[e]
 rw[uI _ _ _ _ a,eA,dm,eA,dm];omega
abbrev BS(hb g:ae)(k:Nat)(kind start:Int)(lead:List UInt8)(bL:List dP):Prop:=BU hb g k kind start lead bL (cg bL)
section
variable {hb g:ae} {k:Nat} {kind start:Int} {lead:List UInt8} {bL:List dP}
theorem il(w:Wf hb)(b:BS hb g k kind start lead bL)(d:bL.length<=100000)(f:List UInt8):FW SS 43 [pA k,strOf f] g (λv a=>v = .int .i64 (bL.length:Nat)/\BS hb a k kind start lead (bL++[⟨f,[]⟩])/\Kp g a):=by
 refine(OR w b d f).mono ?_;rintro v a ⟨e,h,c⟩;refine⟨e,?_,c⟩;unfold BS;rw[eA];exact h
theorem xb(w:Wf hb)(b:BS hb g k kind start lead bL){s:Nat}{t:dP}(c:bL[s]?=some t)(j:cg bL<=100000)(q:gZ):FW SS 44 [pA k,iA s,.agg ⟨fE q⟩] g (λv a=>v = .tuple ⟨[]⟩/\BS hb a k kind start lead (bL.set s ⟨t.f,t.arcs++[q]⟩)/\Kp g a):=by
 have:=Kx c;refine(WS w b c (by omega) (by omega) q).mono ?_;rintro v a ⟨f,i,d⟩;refine⟨f,?_,d⟩;have e:=DD c (t:=⟨t.f,t.arcs++[q]⟩);have l:(t.arcs++[q]).length=t.arcs.length+1:=by simp
 have h:cg (bL.set s ⟨t.f,t.arcs++[q]⟩)=cg bL+1:=by
  have:cg (bL.set s ⟨t.f,t.arcs++[q]⟩)+t.arcs.length=cg bL+(t.arcs++[q]).length:=e;omega
 unfold BS;rw[h];exact i
theorem adO(w:List UInt8)(t:Int):bh SS.P 70 [(2,strOf w),(3,.int .i64 t)]=some (.agg ⟨fE ⟨0,0,w,t⟩⟩):=by kernel_rfl
theorem Bz(w:Wf hb)(b:BS hb g k kind start lead bL){s:Nat}{t:dP}(e:bL[s]?=some t)(d:cg bL<=100000)(x:List UInt8)(a:Int):FW SS 58 [pA k,iA s,strOf x,.int .i64 a] g (λv c=>v = .tuple ⟨[]⟩/\BS hb c k kind start lead (bL.set s ⟨t.f,t.arcs++[⟨0,0,x,a⟩]⟩)/\Kp g c):=by
 refine WZ k s x a g _ ⟨_,adO x a,(xb w b e d ⟨0,0,x,a⟩).mono ?_⟩;rintro _ c ⟨rfl,f⟩;exact⟨rfl,rfl,f⟩
theorem ack(kind:Int)(l:List UInt8):bh SS.P 29 [(0,.int .i64 kind),(2,strOf l)]=some (.agg ⟨[.int .i64 kind,.int .i64 0,strOf l,nA]⟩):=by kernel_rfl
theorem adN(kind:Int)(l a:List UInt8):bh SS.P 65 [(0,.agg ⟨[.int .i64 kind,.int .i64 0,strOf l,nA]⟩),(1,strOf a)]=some (.agg ⟨[.int .i64 kind,.int .i64 0,strOf l,nA,strOf a,.int .i64 0,.int .i64 0]⟩):=by kernel_rfl
theorem adR(kind:Int)(l a:List UInt8):eK SS.P 65 (.agg ⟨[.int .i64 kind,.int .i64 0,strOf l,nA,strOf a,.int .i64 0,.int .i64 0]⟩)=some (.cells [.int .i64 kind,.int .i64 0,strOf l,nA,strOf a,.int .i64 0,.int .i64 0] 65 0 true,k6):=by kernel_rfl
theorem mw(kind:Int)(w:Wf g):FW SS 42 [.int .i64 kind] g (λv b=>∃k,v=pA k/\BS g b k kind 0 (dN kind) []):=by
 refine OP kind g _ ((Yz kind w).mono ?_);rintro _ d ⟨rfl,a⟩;have c:=a.push (.cells [.int .i64 kind,.int .i64 0,strOf (dN kind),nA,strOf (dN kind),.int .i64 0,.int .i64 0] 65 0 true);exact⟨_,rfl,_,ack _ _,_,adN _ _ _,_,adR _ _ _,_,rfl,⟨none,0,0,[],aJ d _,rfl,ke.nil _ _⟩,c,a.nx⟩
theorem Fg{a b c:List UInt8}(w:Wf hb)(o:nO hb)(d:BS hb g k kind start lead bL)(l:aM kind a=true)(f:aM kind b=true)(p:cD kind a b=some c):FW SS 63 [pA k,strOf a,strOf b] g (λv h=>v=strOf c/\Ok g h):=by
 obtain⟨q,n,cc,r,m,_⟩:=d.ex;refine OS k a b g _ ⟨_,kg k,_,dD k,_,cq Gm Fa m (i:=0) (by simp[ft]),(Kk l f p (o.ok d.ok) d.ok.wf).mono ?_⟩;rintro _ s ⟨rfl,j⟩;exact⟨_,_,rfl,aa (λe=>by cases e) (λ_=>⟨rfl,j⟩)⟩
theorem adQ(k:Nat):eK SS.P 62 (pA k)=some (.cells [pA k] 62 0 true,k6):=by kernel_rfl
theorem bx3(t:Int):eK SS.P 3 (.int .i64 t)=some (.cells [.int .i64 t] 3 0 true,k6):=by kernel_rfl
noncomputable def adh:TypeDesc:=(SS.P.underlying 62).getD .bool
theorem adg:SS.P.underlying 62=some adh:=by kernel_rfl
theorem abD:Go.Ab.isAgg SS.P 62=false:=by kernel_rfl
def mi(k:Nat)(d:Option Int)(f:Nat)(e b:List Value)(g:ae):Prop:=e=[]/\match d with
 |none=>f=60/\b=[]
 |some t=>f=87/\∃a c,b=[pA a,pA c]/\g.get a=some (.cells [pA k] 62 0 true)/\g.get c=some (.cells [.int .i64 t] 3 0 true)
theorem mi.kp{k:Nat}{a:Option Int}{g b:ae}(l:mi k a n c d g)(h:Kp g b):mi k a n c d b:=by
 obtain⟨j,e⟩:=l;refine⟨j,?_⟩
 cases a with
 |none=>exact e
 |some t=>
  obtain⟨i,f,p,m,q,o⟩:=e;exact⟨i,f,p,m,h.2 _ _ _ _ _ q (by decide) (by decide) (by decide),h.2 _ _ _ _ _ o (by decide) (by decide) (by decide)⟩
theorem mi.blt{k:Nat}{a:Option Int}{g:ae}(l:mi k a n c d g):Nat.blt n YB=true:=by
 obtain⟨_,b⟩:=l
 cases a with
 |none=>rw[b.1];decide +kernel
 |some t=>rw[b.1];decide +kernel
theorem Co(w:Wf g)(t:Int):FW SS 64 [pA k,.int .i64 t] g (λv a=>∃c,v = .func (.func 87) ⟨[]⟩ ⟨c⟩/\mi k (some t) 87 [] c a/\Ok g a):=by
 have b:=(Ok.refl w).push (.cells [pA k] 62 0 true);have d:=(Ok.refl b.wf).push (.cells [.int .i64 t] 3 0 true);exact Sj k t g _ ⟨_,adQ k,_,bx3 t,_,rfl,⟨rfl,rfl,_,_,rfl,d.ext _ _ (aJ g _),aJ _ _⟩,b.trans d⟩
def zJ(a:Option Int)(t:dP):dP:=match a with
 |none=>t
 |some b=>⟨[],t.arcs++[⟨0,0,t.f,b⟩]⟩
theorem Tz{y:Option Int}{P:List Value}(w:Wf hb)(b:BS hb g k kind start lead bL)(l:mi k y n d P g){s:Nat}{t:dP}(m:bL[s]?=some t)(x3:cg bL<=100000):
  FW SS n (d++[iA s,strOf t.f]++P) g (λv x=>v = .tuple ⟨[]⟩/\BS hb x k kind start lead (bL.set s (zJ y t))/\Kp g x):=by
 obtain⟨rfl,l⟩:=l
 cases y with
 | none=>
  obtain⟨rfl,rfl⟩:=l;refine Sf s t.f g _ ⟨rfl,?_,Kp.refl g⟩;have e:bL.set s (zJ none t)=bL:=by
   obtain⟨H,E⟩:=DB m
   conv=>lhs;rw[H]
   rw[uI _ _ _ _ E];exact H.symm
  rw[e];exact b
 | some to=>
  obtain⟨rfl,W,k3,rfl,B,K⟩:=l;obtain⟨a,x7,c,R,C,q,o⟩:=b.ex;obtain⟨p,F,rfl⟩:∃p,R[s]?=some p/\p.1=t:=by
   rw[<-q,getElem?_map]at m;exact map_eq_some_iff.1 m
  have A:0<(R.map uL).length:=by have:=(List.getElem?_eq_some_iff.1 F).1;rw[lM];omega
  obtain⟨N,x4,cr,r,x5⟩:=o.row.blk A;injection r with r X Y
  subst r X Y;obtain⟨U,_,_⟩:=o.at_ F;obtain⟨u,st,J,Q,h,L⟩:=o.acY w b.ok F [];have f:∃cs,g.get N=some (.cells cs 73 2 true):=oe o.row (k:=N) rfl;obtain⟨x6,f⟩:=f;have G:=h _ _ C (λe=>kf f C (by decide) e);have E:=h _ _ B (λe=>kf f B (by decide) e);have e3:=h _ _ K (λe=>kf f K (by decide) e);have b2:BS hb (u.app g) k kind start lead (bL.set s ⟨[],p.1.arcs⟩):=by
   refine⟨⟨_,_,_,_,?_,by rw[map_set,q],J⟩,Q,b.nk⟩;have e:=DD m (t:=⟨[],p.1.arcs⟩);have V:cg (bL.set s ⟨[],p.1.arcs⟩)=cg bL:=by
    have:cg (bL.set s ⟨[],p.1.arcs⟩)+p.1.arcs.length=cg bL+p.1.arcs.length:=e;omega
   rw[V];exact G
  have S:(bL.set s ⟨[],p.1.arcs⟩)[s]?=some (⟨[],p.1.arcs⟩:dP):=by
   have x0:=(List.getElem?_eq_some_iff.1 m).1;rw[List.getElem?_set_self (by omega)]
  have M:Kp g (u.app g):=⟨Nat.le_of_eq L.symm,λj cs e z w' T _ Z _=>h _ _ T (λc=>by
   rw[c,T]at f;injection f with f
   injection f with _ x1 x2
   exact Z ⟨x1,x2⟩)⟩
  have D:cg (bL.set s ⟨[],p.1.arcs⟩)<=100000:=by
   have:cg (bL.set s ⟨[],p.1.arcs⟩)+p.1.arcs.length=cg bL+p.1.arcs.length:=DD m (t:=⟨[],p.1.arcs⟩);omega
  refine OM s p.1.f W k3 g _ ⟨_,cq adg abD B (i:=0) (by simp),lD ⟨_,kg k,_,da k,_,_,_,cq zY Em C (i:=3) (by simp[ft]),_,U,_,nE _ _,u,st,_,cq adg abD E (i:=0) (by simp),_,cq Gm Fa e3 (i:=0) (by simp),(Bz w b2 S D p.1.f to).mono ?_⟩⟩;rintro _ x ⟨rfl,I,O⟩;refine⟨rfl,rfl,?_,M.trans O⟩;rw[List.set_set]at I;exact I
end
end
noncomputable def eo:FD:=cG Tryz.f59 [([1,1,0,1,0,0],[0,2,4,7,21,22,23]),([1,1,1,0,1,0,0],[0,2,4,7,33,34,35]),([1,1,1,0,1,0,0,1,1,0,0,1,0,1,0,0],[0,2,4,7,10,11,33,34,35,41,42,43])]
abbrev qe(k g:Nat)(e f:LV)(d b:Nat)(a:OA)(n c:Nat)(i:Nat):LV:=[(pA k),(.func (.func g) ⟨e⟩ ⟨f⟩),(pA d),(iA b),(.slice a n c),(iA n),(iA i)]
abbrev gB(k g:Nat)(e f:LV)(d b:Nat)(a:OA)(n c:Nat)(i:Nat):LV:=[(pA k),(.func (.func g) ⟨e⟩ ⟨f⟩),(pA d),(iA b),(.slice a n c),(iA n),(iA i)]
abbrev qf(k g:Nat)(l m:LV)(f b:Nat)(a:OA)(n c i o:Nat)(e:OA)(d h:Nat)(j:Nat):LV:=[(pA k),(.func (.func g) ⟨l⟩ ⟨m⟩),(pA f),(iA b),(iA i),(pA o),(.slice a n c),(iA n),(iA i),(.slice e d h),(iA d),(iA j)]
theorem Sc(k:Nat)(l:LV)(g:Nat)(m n:LV)(h:ae)(Q:VH)(o:xN (eK SS.P 29 (.agg ⟨l⟩)) h λ_ j=>fP 65 (pA k) 0 λi=>fP 29 (.pointer (some i)) 3 λf=>lL 27 j f λ_ e _=>fP 29 (pA (h.next)) 3 λd=>lL 27 j d λa b c=>LL SS eo [1,1,0,1,0,0] [(pA k),(.func (.func g) ⟨m⟩ ⟨n⟩),(pA (h.next)),(iA e),(.slice a b c),(iA b),(.int .i64 0)] j (KK SS eo [1,1,0,1,0] [] (EE SS eo Q))):FW SS 59 [(pA k),(.agg ⟨l⟩),(.func (.func g) ⟨m⟩ ⟨n⟩)] h Q:=cQ eo Tryz.func59 (ai o)
theorem zk(k:Nat)(x:LV)(g:Nat)(t u:LV)(s p:Nat)(a:OA)(n c:Nat)(r:Nat->Nat->ae->Prop)(Q:VH)(step:∀(q:Nat) (i:Nat) (w:Nat->Value) (h:ae),r q i h->au (decide (((i:Int):Int)<(n:Int))) (iP 27 (.slice a n c) (iA i) λo=>lA 73 h (.pointer (some o)) λm=>xN (br SS.P 73) h λ_ l=>xU (ah SS.P 73 (pA (h.next)) (.agg ⟨m⟩) l) l λ_ j=>fP 73 (pA (h.next)) 0 λf=>lS j f λe=>FW SS 43 [(pA k),(strOf e)] j λb d=>yI .i64 b λ_=>aI (fj (qe k g t u s p a n c) r) q [(pA k),(.func (.func g) ⟨t⟩ ⟨u⟩),(pA s),(iA p),(.slice a n c),(iA n),(.int .i64 (wrap .i64 ((i:Int)+1)))] d) (fP 29 (pA s) 3 λd=>lL 27 h d λa b c=>LL SS eo [1,1,1,0,1,0,0] [(pA k),(.func (.func g) ⟨t⟩ ⟨u⟩),(pA s),(iA p),(.slice a b c),(iA b),(.int .i64 0)] h (KK SS eo [1,1,1,0,1,0] [] (EE SS eo Q))))(q:Nat){i:Nat}{h:ae}(v:r q i h):LL SS eo [1,1,0,1,0,0] (qe k g t u s p a n c i) h (KK SS eo [1,1,0,1,0] [] (EE SS eo Q)):=
 dg (qe k g t u s p a n c) r (λq i w h v=>ai (step q i w h v)) q v
theorem zl(k:Nat)(x:LV)(g:Nat)(t u:LV)(s r:Nat)(a:OA)(n c:Nat)(q:Nat->Nat->ae->Prop)(Q:VH)(step:∀(p:Nat) (i:Nat) (w:Nat->Value) (h:ae),q p i h->au (decide (((i:Int):Int)<(n:Int))) (iP 27 (.slice a n c) (iA i) λo=>lA 73 h (.pointer (some o)) λm=>xN (br SS.P 73) h λ_ l=>xU (ah SS.P 73 (pA (h.next)) (.agg ⟨m⟩) l) l λ_ j=>fP 73 (pA (h.next)) 1 λf=>lL 71 j f λb d e=>LL SS eo [1,1,1,0,1,0,0,1,1,0,0,1,0,1,0,0] [(pA k),(.func (.func g) ⟨t⟩ ⟨u⟩),(pA s),(iA r),(iA i),(pA (h.next)),(.slice a n c),(iA n),(iA i),(.slice b d e),(iA d),(.int .i64 0)] j (KK SS eo [1,1,0,0,1,0,1,0] [1,1,1,0,1,0,0] (RR eo [1,1,1,0,1,0,0] (fj (gB k g t u s r a n c) q) p (KK SS eo [1,1,1,0,1,0] [] (EE SS eo Q))))) (fP 29 (pA s) 1 λb=>lI h b λa=>Q (.int .i64 (wrap .i64 ((r:Int)+a))) h))(p:Nat){i:Nat}{h:ae}(v:q p i h):LL SS eo [1,1,1,0,1,0,0] (gB k g t u s r a n c i) h (KK SS eo [1,1,1,0,1,0] [] (EE SS eo Q)):=
 dg (gB k g t u s r a n c) q (λp i w h v=>ai (step p i w h v)) p v
theorem zm(k:Nat)(H:LV)(g:Nat)(v w:LV)(x t:Nat)(a:OA)(n c:Nat)(A:Nat->Nat->ae->Prop)(D i:Nat)(B:Nat)(C:OA)(z E:Nat)(y:Nat->Nat->ae->Prop)(Q:VH)(step:∀(u:Nat) (j:Nat) (G:Nat->Value) (h:ae),y u j h->au (decide (((j:Int):Int)<(z:Int))) (iP 71 (.slice C z E) (iA j) λs=>lA 70 h (.pointer (some s)) λr=>xN (br SS.P 70) h λ_ q=>xU (ah SS.P 70 (pA (h.next)) (.agg ⟨r⟩) q) q λ_ p=>fP 70 (pA (h.next)) 3 λo=>lI p o λm=>fP 70 (pA (h.next)) 3 λl=>xU (ah SS.P 3 (.pointer (some l)) (.int .i64 (wrap .i64 (m+(t:Int)))) p) p λ_ f=>lA 70 f (pA (h.next)) λe=>FW SS 44 [(pA k),(.int .i64 (wrap .i64 ((t:Int)+(i:Int)))),(.agg ⟨e⟩)] f λb d=>b=(.tuple ⟨[]⟩)/\aI (fj (qf k g v w x t a n c i B C z E) y) u [(pA k),(.func (.func g) ⟨v⟩ ⟨w⟩),(pA x),(iA t),(iA i),(pA B),(.slice a n c),(iA n),(iA i),(.slice C z E),(iA z),(.int .i64 (wrap .i64 ((j:Int)+1)))] d) (fP 73 (pA B) 0 λl=>lS h l λj=>au (!((j:LB)==[])) (fP 73 (pA B) 0 λf=>lS h f λe=>au (Nat.blt g YB) (FW SS g (v++[(.int .i64 (wrap .i64 ((t:Int)+(i:Int)))),(strOf e)]++w) h λb d=>b=(.tuple ⟨[]⟩)/\aI (fj (gB k g v w x t a n c) A) D [(pA k),(.func (.func g) ⟨v⟩ ⟨w⟩),(pA x),(iA t),(.slice a n c),(iA n),(.int .i64 (wrap .i64 ((i:Int)+1)))] d) False) (aI (fj (gB k g v w x t a n c) A) D [(pA k),(.func (.func g) ⟨v⟩ ⟨w⟩),(pA x),(iA t),(.slice a n c),(iA n),(.int .i64 (wrap .i64 ((i:Int)+1)))] h)))(u:Nat){j:Nat}{h:ae}(F:y u j h):LL SS eo [1,1,1,0,1,0,0,1,1,0,0,1,0,1,0,0] (qf k g v w x t a n c i B C z E j) h (KK SS eo [1,1,0,0,1,0,1,0] [1,1,1,0,1,0,0] (RR eo [1,1,1,0,1,0,0] (fj (gB k g v w x t a n c) A) D (KK SS eo [1,1,1,0,1,0] [] (EE SS eo Q)))):=
 dg (qf k g v w x t a n c i B C z E) y (λu j G h F=>ai (step u j G h F)) u F
variable{B:Type}{M:bw}{m:Nat}
section
def bare(s:dP):dP:=⟨s.f,[]⟩
def Eb(a:Nat)(q:gZ):gZ:=⟨q.i,q.o,q.w,q.t+a⟩
def my(a:Nat)(b:Option Int)(s:dP):dP:=if s.f=[]then⟨[],s.arcs.map (Eb a)⟩else zJ b ⟨s.f,s.arcs.map (Eb a)⟩
theorem lQ(a:Nat)(b:Option Int):∀l:List dP,cg (l.map (my a b))<=cg l+l.length
 |[]=>Nat.le_refl _
 | s::l=>by
  have c:=lQ a b l;rw[List.map_cons,dm,dm,length_cons];have:(my a b s).arcs.length<=s.arcs.length+1:=by
   unfold my zJ;split
   ·simp
   ·cases b<;>simp
  omega
theorem IM:∀l:List dP,cg (l.map bare)=0
 |[]=>rfl
 |s::l=>by rw[List.map_cons,dm,IM l];rfl
theorem qs(f:A->B){l:List A}{i:Nat}{a:A}(h:l[i]?=some a):(l.take (i+1)).map f=(l.take i).map f++[f a]:=by
 have b:=(List.getElem?_eq_some_iff.1 h).1;rw[List.take_add_one,h,map_append];rfl
theorem Wj(h:n+i<=1000000000):wrap .i64 ((n:Int)+(i:Int))=((n+i:Nat):Int):=by rw[aB (by omega) (by omega)];omega
section
variable {hb g:ae} {k:Nat} {kind start:Int} {lead:List UInt8} {bL:List dP}
theorem qD{x:Option Addr}{z:Nat}{p:Option Int}(w:Wf hb)(b:BS hb g k kind start lead bL)(r:dx hb (.slice x n z) M.af)(l:mi k p m c d g)(hl:bL.length+M.af.length<=100000)(z5:cg bL+cg M.af+M.af.length<=100000)(z7:0<=M.start/\M.start<M.af.length)(y4:∀s∈M.af,∀a∈s.arcs,0<=a.t/\a.t<M.af.length):
  FW SS 59 [pA k,.agg ⟨bK M x n z⟩,.func (.func m) ⟨c⟩ ⟨d⟩] g (λv o=>v = .int .i64 ((bL.length:Int)+M.start)/\BS hb o k kind start lead (bL++M.af.map (my bL.length p))/\Kp g o):=by
 obtain⟨xa,xn,xc,ps,hk,z1,om⟩:=b.ex;obtain⟨R,Z⟩:=fo b.ok.wf (r.ok b.ok);obtain rfl:n=M.af.length:=R.len;have b0:=b.qQ Z;have l0:=l.kp (Mc Z);have z0:xn=bL.length:=by have:=om.st.len;rw[this,z1]
 subst z0;refine Sc k (bK M x M.af.length z) m c d g _ ⟨_,iH M x _ z,_,kg k,_,da k,_,_,_,cq zY Em (Z.ext _ _ hk) (i:=3) (by simp[ft]),_,da _,_,_,_,R.l3,?_⟩;have z4:=(Mc Z)
 have x2:∀o,Kp (g.push (Bm M x M.af.length z)) o->Ok hb o->MB o g.next M x M.af.length z:=λo h ok=>⟨h.2 _ _ _ _ _ R.box (by decide) (by decide) (by decide),r.ok ok⟩
 generalize z9:g.push (Bm M x M.af.length z)=g0 at*;obtain⟨f,U⟩:∃f,f=bL.length:=⟨_,rfl⟩
 rw[<-U]at hl⊢;refine zk k (bK M x M.af.length z) m c d g.next f x M.af.length z (λy i o=>i<=M.af.length/\y=M.af.length-i/\BS hb o k kind start lead (bL++(M.af.take i).map bare)/\Kp g0 o) _ (λy i=>?_) M.af.length (i:=0) ⟨by omega,rfl,by simpa using b0,Kp.refl _⟩;intros;rename_i g1 y3;obtain⟨f1,f2,J,Q⟩:=y3;refine aa (λq1=>?_) (λq1=>?_)
 ·have H:i<M.af.length:=by have:=dT q1;omega
  obtain⟨s,A⟩:∃s,M.af[i]?=some s:=⟨_,gE H⟩
  obtain⟨bb,oo,u,V,t,u1,K,u3,u4,ar⟩:=(r.ok J.ok).at_ A;obtain⟨L,p1,N,p3⟩:=NX J.ok.wf s.f u V t;have C:=J.qQ N;refine⟨_,u1,_,K,_,WL,L,p1,_,nE _ _,_,p3.l0,(il w C (by rw[length_append,lM,length_take];omega) s.f).mono ?_⟩;rintro _ F ⟨rfl,Y,S⟩;rw[aN H (by omega)];refine⟨_,rfl,bZ (M.af.length-(i+1)) (by omega) ⟨by omega,rfl,?_,(Q.trans (Mc N)).trans S⟩⟩;rw[qs bare A,<-append_assoc];exact Y
 obtain rfl:i=M.af.length:=by have:=dF q1;omega
 rw[List.take_length]at J;have y9:=x2 _ Q J.ok;refine⟨_,da _,_,_,_,y9.l3,?_⟩;refine zl k (bK M x M.af.length z) m c d g.next f x M.af.length z (λy i o=>i<=M.af.length/\y=M.af.length-i/\BS hb o k kind start lead (bL++(M.af.take i).map (my f p)++(M.af.drop i).map bare)/\Kp g0 o) _ (λy i=>?_) M.af.length (i:=0) ⟨by omega,rfl,by simpa using J,Q⟩;intros;rename_i F x9;obtain⟨d1,d2,C,W⟩:=x9;have x1:∀i,i<=M.af.length->cg (bL++(M.af.take i).map (my f p))+cg (M.af.drop i)<=99999+1:=λi H=>by
  have h1:=lQ f p (M.af.take i);have h2:cg (M.af.take i)+cg (M.af.drop i)=cg M.af:=by rw[<-eA,List.take_append_drop]
  rw[length_take]at h1;rw[eA];omega
 refine aa (λq2=>?_) (λq2=>?_)
 ·have H:i<M.af.length:=by have:=dT q2;omega
  obtain⟨s,A⟩:∃s,M.af[i]?=some s:=⟨_,gE H⟩
  have y6:=List.mem_of_getElem? A;obtain⟨bb,oo,u,V,t,u1,K,u3,u4,ar⟩:=r.at_ A;have K:=Jw C.ok K;obtain⟨L,p1,N,p3⟩:=NX C.ok.wf s.f u V t;have Y:=C.qQ N;have hy:=ar.len;subst hy;refine⟨_,u1,_,K,_,WL,L,p1,_,iu _ _,_,_,_,p3.l1,?_⟩;have hd:(M.af.drop i).map bare=⟨s.f,(s.arcs.take 0).map (Eb f)⟩::(M.af.drop (i+1)).map bare:=by rw[fG A,List.map_cons];rfl
  rw[hd]at Y;have hL:(bL++(M.af.take i).map (my f p)).length=f+i:=by rw[length_append,lM,length_take,<-U,min_eq_left (by omega)]
  have S:=W.trans (Mc N);have x4:SB (L.app (F.push RC)) F.next s.f u s.arcs.length t:=p3;generalize L.app (F.push RC)=g3 at*;have x8:∀o,Kp g3 o->SB o F.next s.f u s.arcs.length t:=λo h=>h.2 _ _ _ _ _ x4 (by decide) (by decide) (by decide);obtain⟨ks,z2⟩:∃ks,ks=F.next:=⟨_,rfl⟩
  rw[<-z2]at x4 x8⊢;have u5:=x1 i (by omega);have u6:cg (M.af.drop i)=s.arcs.length+cg (M.af.drop (i+1)):=by rw[fG A,dm]
  have x0:f+i<=1000000000:=by omega
  refine zm k (bK M x M.af.length z) m c d g.next f x M.af.length z _ y i ks u s.arcs.length t (λx3 j o=>j<=s.arcs.length/\x3=s.arcs.length-j/\BS hb o k kind start lead (bL++(M.af.take i).map (my f p)++⟨s.f,(s.arcs.take j).map (Eb f)⟩::(M.af.drop (i+1)).map bare)/\Kp g3 o) _ (λx3 j=>?_) s.arcs.length (j:=0) ⟨by omega,rfl,Y,Kp.refl _⟩;intros;rename_i G y0;obtain⟨e1,e2,B,P⟩:=y0;have E:=G3 (bL++(M.af.take i).map (my f p)) (⟨s.f,(s.arcs.take j).map (Eb f)⟩:dP) ((M.af.drop (i+1)).map bare) hL;have O:cg (bL++(M.af.take i).map (my f p)++⟨s.f,(s.arcs.take j).map (Eb f)⟩::(M.af.drop (i+1)).map bare)<=100000:=by
   rw[eA,dm,IM];show _+(((s.arcs.take j).map (Eb f)).length+0)<=_;rw[lM,length_take];omega
  rw[Wj x0];refine aa (λq3=>?_) (λq3=>?_)
  ·have hj:j<s.arcs.length:=by have:=dT q3;omega
   obtain⟨q,T⟩:∃q,s.arcs[j]?=some q:=⟨_,gE hj⟩
   have z8:=y4 s y6 q (List.mem_of_getElem? T);obtain⟨z6,u0,v1,v2,v3,v4,v5,v6⟩:=(ar.ok B.ok).at_ T;obtain⟨ua,r1,r2,r3⟩:=JT B.ok.wf q;have b5:=B.qQ r2;have x7:(ua.app (G.push Om)).get G.next=some (.cells (fE q) 70 0 true):=r3;have y2:=iX zs3 x7 (i:=3) (by simp[fE]) (v:= .int .i64 (q.t+(f:Int))) rfl rfl;have o6:=r2.set (.cells (fE (Eb f q)) 70 0 true) (Nat.le_refl _) (r2.wf _ _ x7) B.ok.wf;have b6:=B.qQ o6;have y1:((ua.app (G.push Om)).set G.next (.cells (fE (Eb f q)) 70 0 true)).get G.next=some (.cells (fE (Eb f q)) 70 0 true):=by rw[ae.aw,if_pos rfl]
   have ld:=o0 abh Z3 Of y1 (i:=0) (by simp[fE]);rw[drop_zero,take_of_length_le (by simp[fE])]at ld;have z3:wrap .i64 (q.t+(f:Int))=q.t+(f:Int):=aB (by omega) (by omega);refine⟨_,v1,_,v2,_,RY,ua,r1,_,rG _ _,_,r3.l3,_,rG _ _,?_⟩;rw[z3];refine⟨_,y2,_,ld,(xb w b6 E O (Eb f q)).mono ?_⟩;rintro _ g6 ⟨rfl,b7,y5⟩;rw[uI _ _ _ _ hL]at b7;rw[aN hj (by omega)];refine⟨rfl,bZ (s.arcs.length-(j+1)) (by omega) ⟨by omega,rfl,?_,(P.trans (Mc o6)).trans y5⟩⟩;rw[qs (Eb f) T];exact b7
  ·obtain rfl:j=s.arcs.length:=by have:=dF q3;omega
   rw[List.take_length]at B E O;have x5:=x8 _ P;have D:=S.trans P;have x6:∀I,BS hb I k kind start lead (bL++(M.af.take i).map (my f p)++my f p s::(M.af.drop (i+1)).map bare)->Kp g0 I->aI (fj (gB k m c d g.next f x M.af.length z) (λy i o=>i<=M.af.length/\y=M.af.length-i/\BS hb o k kind start lead (bL++(M.af.take i).map (my f p)++(M.af.drop i).map bare)/\Kp g0 o)) y [(pA k),(.func (.func m) ⟨c⟩ ⟨d⟩),(pA g.next),(iA f),(.slice x M.af.length z),(iA M.af.length),(.int .i64 (wrap .i64 ((i:Int)+1)))] I:=λI h1 h2=>by
    rw[aN H (by omega)];refine bZ (M.af.length-(i+1)) (by omega) ⟨by omega,rfl,?_,h2⟩;rw[qs (my f p) A];have:bL++((M.af.take i).map (my f p)++[my f p s])++(M.af.drop (i+1)).map bare=bL++(M.af.take i).map (my f p)++my f p s::(M.af.drop (i+1)).map bare:=by simp
    rw[this];exact h1
   refine⟨_,nE _ _,_,x5.l0,aa (λq4=>?_) (λq4=>?_)⟩
   ·have X:s.f≠[]:=cd (by simpa using q4);refine⟨_,nE _ _,_,x5.l0,aa (λ_=>(Tz w B (l0.kp D) E O).mono ?_) (λe=>by rw[l0.blt]at e;cases e)⟩;rintro _ I ⟨rfl,b5,y7⟩;rw[uI _ _ _ _ hL]at b5;refine⟨rfl,x6 I ?_ (D.trans y7)⟩;have:my f p s=zJ p ⟨s.f,s.arcs.map (Eb f)⟩:=if_neg X;rw[this];exact b5
   ·have X:s.f=[]:=cn (by simpa using q4);refine x6 G ?_ D;have:my f p s=⟨s.f,s.arcs.map (Eb f)⟩:=by
     have:my f p s=⟨[],s.arcs.map (Eb f)⟩:=if_pos X;rw[this,X]
    rw[this];exact B
 ·obtain rfl:i=M.af.length:=by have:=dF q2;omega
  have y8:=x2 _ W C.ok;have hw:wrap .i64 ((f:Int)+M.start)=(f:Int)+M.start:=aB (by omega) (by omega);refine⟨_,tn _,_,y8.l1,by rw[hw],?_,z4.trans W⟩;rw[List.take_length,drop_length]at C;simpa using C
end
end
noncomputable def cI:FD:=cG Tryz.f48 [([1,1,1,1,1,0,1,0,0],[1,2,3,8,10,11]),([1,1,1,1,1,0,1,0,0,1,0,0,1,1,0,0],[1,2,3,8,10,11,12]),([1,1,1,1,1,1,1,0,1,0,0],[1,2,3,8,10,13]),([1,1,1,1,1,1,1,0,1,0,0,1,0,0,1,0,0],[1,2,3,8,10,13,14]),([1,1,1,1,1,1,1,0,1,0,0,1,0,0,1,0,0,1,0,0,1,1,1,1,0,0],[1,2,3,8,10,13,14,15,17])]
abbrev lz(a:OA)(l f:Nat)(e:OA)(c h k g N:Nat)(b:OA)(j d:Nat)(i:Nat):LV:=[(.slice a l f),(.slice e c h),(pA k),(.slice b j d),(sA g N N),(iA i)]
abbrev pZ(a:OA)(m f:Nat)(e:OA)(c h k g N:Nat)(b:OA)(l d i:Nat)(j:Nat):LV:=[(.slice a m f),(.slice e c h),(pA k),(.slice b l d),(sA g N N),(iA i),(iA j)]
abbrev gx(a:OA)(l f:Nat)(e:OA)(c h k g N:Nat)(b:OA)(j d:Nat)(i:Nat):LV:=[(.slice a l f),(.slice e c h),(pA k),(.slice b j d),(sA g N N),(iA i)]
abbrev lC(a:OA)(m f:Nat)(e:OA)(c h k g N:Nat)(b:OA)(l d i:Nat)(j:Nat):LV:=[(.slice a m f),(.slice e c h),(pA k),(.slice b l d),(sA g N N),(iA i),(iA j)]
abbrev fC(a:OA)(n g:Nat)(f:OA)(c l k h N:Nat)(b:OA)(m d i j:Nat)(v:OA)(e o:Nat)(q:Nat):LV:=[(.slice a n g),(.slice f c l),(pA k),(.slice b m d),(sA h N N),(iA i),(iA j),(.slice v e o),(iA q)]
theorem abn(C:LV)(x:OA)(t A:Nat)(z:OA)(y B:Nat)(h:ae)(Q:VH)(D:xN (eK SS.P 29 (.agg ⟨C⟩)) h λ_ s=>lA 29 s (pA (h.next)) λr=>FW SS 26 [(.agg ⟨r⟩)] s λp q=>yB p λo=>au (!o) (Q (.tuple ⟨[(strOf []),(.int .i64 1)]⟩) q) (FW SS 15 [(.slice x t A)] q λm n=>yB m λl=>au (!l) (Q (.tuple ⟨[(strOf []),(.int .i64 1)]⟩) n) (FW SS 15 [(.slice z y B)] n λj k=>yB j λi=>au (!i) (Q (.tuple ⟨[(strOf []),(.int .i64 1)]⟩) k) (lA 29 k (pA (h.next)) λg=>FW SS 73 [(.agg ⟨g⟩),(.bool false)] k λe f=>∃(v:OA) (w u:Nat),∃d:Int,e=(.tuple ⟨[(.slice v w u),(.int .i64 d)]⟩)/\au (((d:Int) !=0)) (Q (.tuple ⟨[(strOf []),(.int .i64 d)]⟩) f) (xR (ch SS.P 106 (.int .i64 (wrap .i64 ((t:Int)+1))) (.int .i64 (wrap .i64 ((t:Int)+1)))) f λ_ a b c=>LL SS cI [1,1,1,1,1,0,1,0,0] [(.slice x t A),(.slice z y B),(pA (h.next)),(.slice v w u),(sA (f.next) a b),(.int .i64 0)] c (KK SS cI [1,1,1,1,1,0,1,0] [] (EE SS cI Q))))))):FW SS 48 [(.agg ⟨C⟩),(.slice x t A),(.slice z y B)] h Q:=cQ cI Tryz.func48 (ai D)
theorem DQ(E:LV)(w:OA)(v z:Nat)(y:OA)(s A:Nat)(k t N:Nat)(b:OA)(B x:Nat)(u:Nat->Nat->ae->Prop)(Q:VH)(step:∀(r:Nat) (i:Nat) (D:Nat->Value) (h:ae),u r i h->au (decide (((i:Int):Int)<=(v:Int))) (xR (ch SS.P 103 (.int .i64 (wrap .i64 ((s:Int)+1))) (.int .i64 (wrap .i64 ((s:Int)+1)))) h λ_ d e f=>iP 106 (sA t N N) (iA i) λc=>xU (ah SS.P 103 (.pointer (some c)) (sA (h.next) d e) f) f λ_ a=>LL SS cI [1,1,1,1,1,0,1,0,0,1,0,0,1,1,0,0] (pZ w v z y s A k t N b B x i 0) a (KK SS cI [1,0,0,1,1,0] [1,1,1,1,1,0,1,0,0] (RR cI [1,1,1,1,1,0,1,0,0] (fj (lz w v z y s A k t N b B x) u) r (KK SS cI [1,1,1,1,1,0,1,0] [] (EE SS cI Q))))) (iP 106 (sA t N N) (.int .i64 0) λq=>lL 103 (room h 11) q λn o p=>iP 103 (.slice n o p) (.int .i64 0) λm=>lL 107 (room h 11) m λi j l=>fP 29 (pA k) 1 λg=>lI (room h 11) g λf=>fP 29 (pA k) 2 λe=>lS (room h 11) e λd=>iP 107 (.slice i j l) (.int .i64 f) λc=>xU (ah SS.P 9 (.pointer (some c)) (strOf d) (room h 11)) (room h 11) λ_ a=>LL SS cI [1,1,1,1,1,1,1,0,1,0,0] (gx w v z y s A k t N b B x 0) a (KK SS cI [1,1,1,1,1,1,1,0,1,0] [] (EE SS cI Q))))(r:Nat){i:Nat}{h:ae}(C:u r i h):LL SS cI [1,1,1,1,1,0,1,0,0] (lz w v z y s A k t N b B x i) h (KK SS cI [1,1,1,1,1,0,1,0] [] (EE SS cI Q)):=
 dg (lz w v z y s A k t N b B x) u (λr i D h C=>ai (step r i D h C)) r C
theorem DR(F:LV)(u:OA)(A x:Nat)(w:OA)(s y:Nat)(k t N:Nat)(b:OA)(z v:Nat)(B:Nat->Nat->ae->Prop)(D i:Nat)(r:Nat->Nat->ae->Prop)(Q:VH)(step:∀(q:Nat) (j:Nat) (E:Nat->Value) (h:ae),r q j h->au (decide (((j:Int):Int)<=(s:Int))) (iP 106 (sA t N N) (iA i) λp=>lL 103 (room h 9) p λm n o=>lA 29 (room h 9) (pA k) λl=>FW SS 74 [(.agg ⟨l⟩)] (room h 9) λg h=>yL g λd e f=>iP 103 (.slice m n o) (iA j) λc=>xU (ah SS.P 107 (.pointer (some c)) (.slice d e f) h) h λ_ a=>(aj SS.P 103 h (.pointer (some p))=some (.slice m n o)/\dG 4 (.slice m n o) (.slice m n o)=true)/\aI (fj (pZ u A x w s y k t N b z v i) r) q [(.slice u A x),(.slice w s y),(pA k),(.slice b z v),(sA t N N),(iA i),(.int .i64 (wrap .i64 ((j:Int)+1)))] a) (aI (fj (lz u A x w s y k t N b z v) B) D [(.slice u A x),(.slice w s y),(pA k),(.slice b z v),(sA t N N),(.int .i64 (wrap .i64 ((i:Int)+1)))] h))(q:Nat){j:Nat}{h:ae}(C:r q j h):LL SS cI [1,1,1,1,1,0,1,0,0,1,0,0,1,1,0,0] (pZ u A x w s y k t N b z v i j) h (KK SS cI [1,0,0,1,1,0] [1,1,1,1,1,0,1,0,0] (RR cI [1,1,1,1,1,0,1,0,0] (fj (lz u A x w s y k t N b z v) B) D (KK SS cI [1,1,1,1,1,0,1,0] [] (EE SS cI Q)))):=
 dg (pZ u A x w s y k t N b z v i) r (λq j E h C=>ai (step q j E h C)) q C
theorem DS(B:LV)(t:OA)(q w:Nat)(v:OA)(r x:Nat)(k s N:Nat)(b:OA)(y u:Nat)(p:Nat->Nat->ae->Prop)(Q:VH)(step:∀(o:Nat) (i:Nat) (A:Nat->Value) (h:ae),p o i h->au (decide (((i:Int):Int)<=(q:Int))) (LL SS cI [1,1,1,1,1,1,1,0,1,0,0,1,0,0,1,0,0] (lC t q w v r x k s N b y u i 0) h (KK SS cI [1,0,0,1,0] [1,1,1,1,1,1,1,0,1,0,0] (RR cI [1,1,1,1,1,1,1,0,1,0,0] (fj (gx t q w v r x k s N b y u) p) o (KK SS cI [1,1,1,1,1,1,1,0,1,0] [] (EE SS cI Q))))) (lA 29 (room h 15) (pA k) λn=>iP 106 (sA s N N) (iA q) λm=>lL 103 (room h 15) m λj k l=>iP 103 (.slice j k l) (iA r) λi=>lL 107 (room h 15) i λe f g=>FW SS 78 [(.agg ⟨n⟩),(.slice e f g)] (room h 15) λc d=>∃b:LB,∃a:Int,c=(.tuple ⟨[(strOf b),(.int .i64 a)]⟩)/\Q (.tuple ⟨[(strOf b),(.int .i64 a)]⟩) d))(o:Nat){i:Nat}{h:ae}(z:p o i h):LL SS cI [1,1,1,1,1,1,1,0,1,0,0] (gx t q w v r x k s N b y u i) h (KK SS cI [1,1,1,1,1,1,1,0,1,0] [] (EE SS cI Q)):=
 dg (gx t q w v r x k s N b y u) p (λo i A h z=>ai (step o i A h z)) o z
theorem DT(P:LV)(C:OA)(G E:Nat)(D:OA)(y F:Nat)(k x N:Nat)(b:OA)(A z:Nat)(H:Nat->Nat->ae->Prop)(I i:Nat)(B:Nat->Nat->ae->Prop)(Q:VH)(step:∀(w:Nat) (j:Nat) (O:Nat->Value) (h:ae),B w j h->au (decide (((j:Int):Int)<=(y:Int))) (lA 29 (room h 15) (pA k) λv=>iP 106 (sA x N N) (iA i) λu=>lL 103 (room h 15) u λr s t=>iP 103 (.slice r s t) (iA j) λq=>lL 107 (room h 15) q λn o p=>FW SS 75 [(.agg ⟨v⟩),(.slice n o p),(.slice b A z)] (room h 15) λl m=>∃(L:OA) (K J:Nat),∃h:Int,l=(.tuple ⟨[(.slice L K J),(.int .i64 h)]⟩)/\au (((h:Int) !=0)) (Q (.tuple ⟨[(strOf []),(.int .i64 h)]⟩) m) (iP 106 (sA x N N) (iA i) λg=>lL 103 m g λd e f=>iP 103 (.slice d e f) (iA j) λc=>xU (ah SS.P 107 (.pointer (some c)) (.slice L K J) m) m λ_ a=>LL SS cI [1,1,1,1,1,1,1,0,1,0,0,1,0,0,1,0,0,1,0,0,1,1,1,1,0,0] (fC C G E D y F k x N b A z i j L K J 1) a (KK SS cI [1,0,0,1,1,1,1,0] [1,1,1,1,1,1,1,0,1,0,0,1,0,0,1,0,0] (RR cI [1,1,1,1,1,1,1,0,1,0,0,1,0,0,1,0,0] (fj (lC C G E D y F k x N b A z i) B) w (KK SS cI [1,0,0,1,0] [1,1,1,1,1,1,1,0,1,0,0] (RR cI [1,1,1,1,1,1,1,0,1,0,0] (fj (gx C G E D y F k x N b A z) H) I (KK SS cI [1,1,1,1,1,1,1,0,1,0] [] (EE SS cI Q)))))))) (aI (fj (gx C G E D y F k x N b A z) H) I [(.slice C G E),(.slice D y F),(pA k),(.slice b A z),(sA x N N),(.int .i64 (wrap .i64 ((i:Int)+1)))] h))(w:Nat){j:Nat}{h:ae}(M:B w j h):LL SS cI [1,1,1,1,1,1,1,0,1,0,0,1,0,0,1,0,0] (lC C G E D y F k x N b A z i j) h (KK SS cI [1,0,0,1,0] [1,1,1,1,1,1,1,0,1,0,0] (RR cI [1,1,1,1,1,1,1,0,1,0,0] (fj (gx C G E D y F k x N b A z) H) I (KK SS cI [1,1,1,1,1,1,1,0,1,0] [] (EE SS cI Q)))):=
 dg (lC C G E D y F k x N b A z i) B (λw j O h M=>ai (step w j O h M)) w M
theorem DU(mv:LV)(G:OA)(F I:Nat)(D:OA)(C E:Nat)(k B N:Nat)(b:OA)(M K:Nat)(y9:Nat->Nat->ae->Prop)(z0 i:Nat)(y1:Nat->Nat->ae->Prop)(y8 j:Nat)(v:OA)(L O:Nat)(H:Nat->Nat->ae->Prop)(Q:VH)(step:∀(J:Nat) (q:Nat) (zz:Nat->Value) (h:ae),H J q h->au (decide (((q:Int):Int)<=3)) (xI .i64 (ay SS.P .shr 3 (iA q) (.int .u64 1)) λP=>au (decide ((wrap .i64 ((i:Int)+wrap .i64 ((BitVec.ofInt (IntKind.bits .i64) (q:Int)&&&BitVec.ofInt (IntKind.bits .i64) 1).toNat:Int)):Int)>(F:Int))) (aI (fj (fC G F I D C E k B N b M K i j v L O) H) J [(.slice G F I),(.slice D C E),(pA k),(.slice b M K),(sA B N N),(iA i),(iA j),(.slice v L O),(.int .i64 (wrap .i64 ((q:Int)+1)))] h) (au (decide ((wrap .i64 ((j:Int)+P):Int)>(C:Int))) (aI (fj (fC G F I D C E k B N b M K i j v L O) H) J [(.slice G F I),(.slice D C E),(pA k),(.slice b M K),(sA B N N),(iA i),(iA j),(.slice v L O),(.int .i64 (wrap .i64 ((q:Int)+1)))] h) (au (((wrap .i64 ((BitVec.ofInt (IntKind.bits .i64) (q:Int)&&&BitVec.ofInt (IntKind.bits .i64) 1).toNat:Int):Int)==1)) (iP 22 (.slice G F I) (iA i) λa6=>lI h a6 λa5=>au (((P:Int)==1)) (iP 22 (.slice D C E) (iA j) λa4=>lI h a4 λa3=>lA 29 h (pA k) λR=>FW SS 76 [(.agg ⟨R⟩),(.slice v L O),(.int .i64 a5),(.int .i64 a3),(.bool false)] h λS A=>∃(x3:OA) (y4 Z:Nat),∃z:Int,S=(.tuple ⟨[(.slice x3 y4 Z),(.int .i64 z)]⟩)/\au (((z:Int) !=0)) (Q (.tuple ⟨[(strOf []),(.int .i64 z)]⟩) A) (xP (aA SS.P 106 (sA B N N) (.int .i64 (wrap .i64 ((i:Int)+wrap .i64 ((BitVec.ofInt (IntKind.bits .i64) (q:Int)&&&BitVec.ofInt (IntKind.bits .i64) 1).toNat:Int))))) λy=>lL 103 (room A 30) y λu w x=>fP 29 (pA k) 0 λt=>lI (room A 30) t λs=>xP (aA SS.P 106 (sA B N N) (.int .i64 (wrap .i64 ((i:Int)+wrap .i64 ((BitVec.ofInt (IntKind.bits .i64) (q:Int)&&&BitVec.ofInt (IntKind.bits .i64) 1).toNat:Int))))) λr=>lL 103 (room A 30) r λn o p=>iP 103 (.slice n o p) (.int .i64 (wrap .i64 ((j:Int)+P))) λm=>lL 107 (room A 30) m λg h l=>FW SS 77 [(.int .i64 s),(.slice g h l),(.slice x3 y4 Z)] (room A 30) λe f=>∃(W:OA) (X x5:Nat),∃d:Int,e=(.tuple ⟨[(.slice W X x5),(.int .i64 d)]⟩)/\iP 103 (.slice u w x) (.int .i64 (wrap .i64 ((j:Int)+P))) λc=>xU (ah SS.P 107 (.pointer (some c)) (.slice W X x5) f) f λ_ a=>(aj SS.P 103 f (.pointer (some y))=some (.slice u w x)/\dG 4 (.slice u w x) (.slice u w x)=true)/\au (((d:Int) !=0)) (Q (.tuple ⟨[(strOf []),(.int .i64 d)]⟩) a) (aI (fj (fC G F I D C E k B N b M K i j v L O) H) J [(.slice G F I),(.slice D C E),(pA k),(.slice b M K),(sA B N N),(iA i),(iA j),(.slice v L O),(.int .i64 (wrap .i64 ((q:Int)+1)))] a))) (lA 29 h (pA k) λR=>FW SS 76 [(.agg ⟨R⟩),(.slice v L O),(.int .i64 a5),(.int .i64 0),(.bool false)] h λS A=>∃(x7:OA) (V y7:Nat),∃z:Int,S=(.tuple ⟨[(.slice x7 V y7),(.int .i64 z)]⟩)/\au (((z:Int) !=0)) (Q (.tuple ⟨[(strOf []),(.int .i64 z)]⟩) A) (xP (aA SS.P 106 (sA B N N) (.int .i64 (wrap .i64 ((i:Int)+wrap .i64 ((BitVec.ofInt (IntKind.bits .i64) (q:Int)&&&BitVec.ofInt (IntKind.bits .i64) 1).toNat:Int))))) λy=>lL 103 (room A 30) y λu w x=>fP 29 (pA k) 0 λt=>lI (room A 30) t λs=>xP (aA SS.P 106 (sA B N N) (.int .i64 (wrap .i64 ((i:Int)+wrap .i64 ((BitVec.ofInt (IntKind.bits .i64) (q:Int)&&&BitVec.ofInt (IntKind.bits .i64) 1).toNat:Int))))) λr=>lL 103 (room A 30) r λn o p=>iP 103 (.slice n o p) (.int .i64 (wrap .i64 ((j:Int)+P))) λm=>lL 107 (room A 30) m λg h l=>FW SS 77 [(.int .i64 s),(.slice g h l),(.slice x7 V y7)] (room A 30) λe f=>∃(y3:OA) (x2 y0:Nat),∃d:Int,e=(.tuple ⟨[(.slice y3 x2 y0),(.int .i64 d)]⟩)/\iP 103 (.slice u w x) (.int .i64 (wrap .i64 ((j:Int)+P))) λc=>xU (ah SS.P 107 (.pointer (some c)) (.slice y3 x2 y0) f) f λ_ a=>(aj SS.P 103 f (.pointer (some y))=some (.slice u w x)/\dG 4 (.slice u w x) (.slice u w x)=true)/\au (((d:Int) !=0)) (Q (.tuple ⟨[(strOf []),(.int .i64 d)]⟩) a) (aI (fj (fC G F I D C E k B N b M K i j v L O) H) J [(.slice G F I),(.slice D C E),(pA k),(.slice b M K),(sA B N N),(iA i),(iA j),(.slice v L O),(.int .i64 (wrap .i64 ((q:Int)+1)))] a)))) (au (((P:Int)==1)) (iP 22 (.slice D C E) (iA j) λa4=>lI h a4 λa3=>lA 29 h (pA k) λR=>FW SS 76 [(.agg ⟨R⟩),(.slice v L O),(.int .i64 0),(.int .i64 a3),(.bool false)] h λS A=>∃(y6:OA) (y5 x0:Nat),∃z:Int,S=(.tuple ⟨[(.slice y6 y5 x0),(.int .i64 z)]⟩)/\au (((z:Int) !=0)) (Q (.tuple ⟨[(strOf []),(.int .i64 z)]⟩) A) (xP (aA SS.P 106 (sA B N N) (.int .i64 (wrap .i64 ((i:Int)+wrap .i64 ((BitVec.ofInt (IntKind.bits .i64) (q:Int)&&&BitVec.ofInt (IntKind.bits .i64) 1).toNat:Int))))) λy=>lL 103 (room A 30) y λu w x=>fP 29 (pA k) 0 λt=>lI (room A 30) t λs=>xP (aA SS.P 106 (sA B N N) (.int .i64 (wrap .i64 ((i:Int)+wrap .i64 ((BitVec.ofInt (IntKind.bits .i64) (q:Int)&&&BitVec.ofInt (IntKind.bits .i64) 1).toNat:Int))))) λr=>lL 103 (room A 30) r λn o p=>iP 103 (.slice n o p) (.int .i64 (wrap .i64 ((j:Int)+P))) λm=>lL 107 (room A 30) m λg h l=>FW SS 77 [(.int .i64 s),(.slice g h l),(.slice y6 y5 x0)] (room A 30) λe f=>∃(y2:OA) (x9 Y:Nat),∃d:Int,e=(.tuple ⟨[(.slice y2 x9 Y),(.int .i64 d)]⟩)/\iP 103 (.slice u w x) (.int .i64 (wrap .i64 ((j:Int)+P))) λc=>xU (ah SS.P 107 (.pointer (some c)) (.slice y2 x9 Y) f) f λ_ a=>(aj SS.P 103 f (.pointer (some y))=some (.slice u w x)/\dG 4 (.slice u w x) (.slice u w x)=true)/\au (((d:Int) !=0)) (Q (.tuple ⟨[(strOf []),(.int .i64 d)]⟩) a) (aI (fj (fC G F I D C E k B N b M K i j v L O) H) J [(.slice G F I),(.slice D C E),(pA k),(.slice b M K),(sA B N N),(iA i),(iA j),(.slice v L O),(.int .i64 (wrap .i64 ((q:Int)+1)))] a))) (lA 29 h (pA k) λR=>FW SS 76 [(.agg ⟨R⟩),(.slice v L O),(.int .i64 0),(.int .i64 0),(.bool false)] h λS A=>∃(x1:OA) (T x8:Nat),∃z:Int,S=(.tuple ⟨[(.slice x1 T x8),(.int .i64 z)]⟩)/\au (((z:Int) !=0)) (Q (.tuple ⟨[(strOf []),(.int .i64 z)]⟩) A) (xP (aA SS.P 106 (sA B N N) (.int .i64 (wrap .i64 ((i:Int)+wrap .i64 ((BitVec.ofInt (IntKind.bits .i64) (q:Int)&&&BitVec.ofInt (IntKind.bits .i64) 1).toNat:Int))))) λy=>lL 103 (room A 30) y λu w x=>fP 29 (pA k) 0 λt=>lI (room A 30) t λs=>xP (aA SS.P 106 (sA B N N) (.int .i64 (wrap .i64 ((i:Int)+wrap .i64 ((BitVec.ofInt (IntKind.bits .i64) (q:Int)&&&BitVec.ofInt (IntKind.bits .i64) 1).toNat:Int))))) λr=>lL 103 (room A 30) r λn o p=>iP 103 (.slice n o p) (.int .i64 (wrap .i64 ((j:Int)+P))) λm=>lL 107 (room A 30) m λg h l=>FW SS 77 [(.int .i64 s),(.slice g h l),(.slice x1 T x8)] (room A 30) λe f=>∃(x4:OA) (U x6:Nat),∃d:Int,e=(.tuple ⟨[(.slice x4 U x6),(.int .i64 d)]⟩)/\iP 103 (.slice u w x) (.int .i64 (wrap .i64 ((j:Int)+P))) λc=>xU (ah SS.P 107 (.pointer (some c)) (.slice x4 U x6) f) f λ_ a=>(aj SS.P 103 f (.pointer (some y))=some (.slice u w x)/\dG 4 (.slice u w x) (.slice u w x)=true)/\au (((d:Int) !=0)) (Q (.tuple ⟨[(strOf []),(.int .i64 d)]⟩) a) (aI (fj (fC G F I D C E k B N b M K i j v L O) H) J [(.slice G F I),(.slice D C E),(pA k),(.slice b M K),(sA B N N),(iA i),(iA j),(.slice v L O),(.int .i64 (wrap .i64 ((q:Int)+1)))] a))))))) (aI (fj (lC G F I D C E k B N b M K i) y1) y8 [(.slice G F I),(.slice D C E),(pA k),(.slice b M K),(sA B N N),(iA i),(.int .i64 (wrap .i64 ((j:Int)+1)))] h))(J:Nat){q:Nat}{h:ae}(hi:H J q h):LL SS cI [1,1,1,1,1,1,1,0,1,0,0,1,0,0,1,0,0,1,0,0,1,1,1,1,0,0] (fC G F I D C E k B N b M K i j v L O q) h (KK SS cI [1,0,0,1,1,1,1,0] [1,1,1,1,1,1,1,0,1,0,0,1,0,0,1,0,0] (RR cI [1,1,1,1,1,1,1,0,1,0,0,1,0,0,1,0,0] (fj (lC G F I D C E k B N b M K i) y1) y8 (KK SS cI [1,0,0,1,0] [1,1,1,1,1,1,1,0,1,0,0] (RR cI [1,1,1,1,1,1,1,0,1,0,0] (fj (gx G F I D C E k B N b M K) y9) z0 (KK SS cI [1,1,1,1,1,1,1,0,1,0] [] (EE SS cI Q)))))):=
 dg (fC G F I D C E k B N b M K i j v L O) H (λJ q zz h hi=>ai (step J q zz h hi)) J hi
noncomputable def su:FD:=cG Tryz.f15 [([1,1,0,1,0,0],[0,3])]
abbrev m7(a:OA)(c b:Nat)(i:Nat):LV:=[(.slice a c b),(iA i)]
theorem V0(b:OA)(a c:Nat)(h:ae)(Q:VH)(d:au (decide (((a:Int):Int)>200)) (Q (.bool false) h) (LL SS su [1,1,0,1,0,0] (m7 b a c 0) h (KK SS su [1,1,0,1,0] [] (EE SS su Q)))):FW SS 15 [(.slice b a c)] h Q:=cQ su Tryz.func15 (ai d)
theorem Aq(j:OA)(f k:Nat)  (g:Nat->Nat->ae->Prop) (Q:VH) (step:∀(e:Nat)(i:Nat)(m:Nat->Value)(h:ae),g e i h->au (decide (((i:Int):Int)<(f:Int))) (iP 22 (.slice j f k) (iA i) λd=>lI h d λc=>au (decide ((c:Int)<1)) (Q (.bool false) h) (iP 22 (.slice j f k) (iA i) λb=>lI h b λa=>au (decide ((a:Int)>500)) (Q (.bool false) h) (aI (fj (m7 j f k) g) e [(.slice j f k),(.int .i64 (wrap .i64 ((i:Int)+1)))] h))) (Q (.bool true) h)) (e:Nat) {i:Nat} {h:ae} (l:g e i h):LL SS su [1,1,0,1,0,0] (m7 j f k i) h (KK SS su [1,1,0,1,0] [] (EE SS su Q)):=
 dg (m7 j f k) g (λe i m h l=>ai (step e i m h l)) e l
variable{p:List Int}{g:ae}{a:Option Addr}
def wj(l:List Int):List Value:=l.map λz=> .int .i64 z
theorem ju(l:List Int):(wj l).length=l.length:=lM _
theorem Th(h:i<p.length):(wj p).getD i undef = .int .i64 (p.getD i 0):=by
 unfold wj;rw[gD,getElem?_map,gD,gE h];rfl
def dK(h:ae)(v:Value)(l:List Int):Prop:=
 (v = .slice none 0 0/\l=[])\/ ∃k a cs c b e z,v = .slice (some ⟨k,a,none⟩) l.length c/\h.get k=some (.cells cs e z b)/\(e=3/\z=1\/z=0)/\(cs.drop a).take l.length=wj l
theorem dK.ok(r:dK h v p)(o:Ok h g):dK g v p:=by
 rcases r with r|⟨k,a,cs,c,f,e,z,d,i,b,j⟩
 ·exact .inl r
 ·exact .inr ⟨k,a,cs,c,f,e,z,d,o.ext _ _ i,b,j⟩
theorem dK.NS(r:Rd h 3 v (wj p)):dK h v p:=by
 rcases r with⟨b,d⟩|⟨k,f,cs,c,g,b,d,e⟩
 ·left;refine⟨b,?_⟩
  cases p with
  |nil=>rfl
  |cons a p=>cases d
 ·rw[ju]at b e;exact .inr ⟨k,f,cs,c,g,3,1,b,d,.inl ⟨rfl,rfl⟩,e⟩
theorem dK.at_{l:List Int}(r:dK h v l){i:Nat}(d:i<l.length):∃p:Addr,aA SS.P 22 v (iA i)=some (.pointer (some p))/\aj SS.P 3 h (.pointer (some p))=some (.int .i64 (l.getD i 0)):=by
 rcases r with⟨_,rfl⟩|⟨k,a,cs,c,q,e,z,rfl,m,_,g⟩
 ·exact absurd d (by simp)
 have b:((cs.drop a).take l.length).length=l.length:=by rw[g,ju]
 rw[length_take,length_drop]at b;have f:=Pn (P:=SS.P) qp Ru (k:=k) (off:=a) (n:=l.length) (c:=c) (ik:= .i64) (i:=(i:Int)) (by omega) (by omega);have o:a+((i:Int)).toNat*1=a+i:=by omega
 rw[o]at f;refine⟨_,f,?_⟩;have j:cs.getD (a+i) undef = .int .i64 (l.getD i 0):=by
  rw[<-Th d,<-g,gD,gD,List.getElem?_take,if_pos d,List.getElem?_drop]
 rw[cq Gm Fa m (by omega),j]
theorem dK.len{c:Nat}(r:dK h (.slice a n c) p):n=p.length:=by
 rcases r with⟨b,rfl⟩|⟨k,d,cs,f,g,e,z,b,_⟩
 ·injection b
 ·injection b
def sk(z:Int):Bool:=decide (1<=z)&&decide (z<=500)
def eI(l:List Int):Bool:=decide (l.length<=200)&&l.all sk
theorem GV(h:i<p.length):p.drop i=p.getD i 0::p.drop (i+1):=by
 rw[List.drop_eq_getElem_cons h,gD,gE h];rfl
theorem yG{c:Nat}{l:List Int}(r:dK h (.slice a n c) l):FW SS 15 [.slice a n c] h (λv g=>v = .bool (eI l)/\g=h):=by
 obtain rfl:=dK.len r;refine V0 a _ c h _ (aa (λq=>⟨?_,rfl⟩) (λq=>?_))
 ·have:¬l.length<=200:=by have:=dT q;omega
  unfold eI;rw[decide_eq_false this];rfl
 ·have t:l.length<=200:=by have:=dF q;omega
  have u:eI l=l.all sk:=by unfold eI;rw[decide_eq_true t,Bool.true_and]
  rw[u];refine Aq a _ c (λm i g=>i<=l.length/\m=l.length-i/\g=h/\(l.drop i).all sk=l.all sk) _ (λm i=>?_) l.length (i:=0) ⟨by omega,rfl,rfl,by rw[drop_zero]⟩;intros;rename_i g k;obtain⟨z,y,rfl,b⟩:=k;refine aa (λq=>?_) (λq=>?_)
  ·have j:i<l.length:=by have:=dT q;omega
   obtain⟨p,o,s⟩:=r.at_ j;rw[GV j,all_cons]at b;refine⟨_,o,_,s,aa (λf=>⟨?_,rfl⟩) (λf=>⟨_,o,_,s,aa (λd=>⟨?_,rfl⟩) (λd=>?_)⟩)⟩
   ·have:¬1<=l.getD i 0:=by have:=dT f;omega
    rw[<-b];unfold sk;rw[decide_eq_false this];rfl
   ·have:¬l.getD i 0<=500:=by have:=dT d;omega
    rw[<-b];unfold sk;rw[decide_eq_false this,Bool.and_false];rfl
   ·have e:sk (l.getD i 0)=true:=by
     unfold sk;have w:=dF f;have x:=dF d;rw[decide_eq_true (show 1<=l.getD i 0 by omega),decide_eq_true (show l.getD i 0<=500 by omega)];rfl
    rw[e,Bool.true_and]at b;rw[aN j (by omega)];exact bZ (l.length-(i+1)) (by omega) ⟨by omega,rfl,rfl,b⟩
  ·obtain rfl:i=l.length:=by have:=dF q;omega
   rw[drop_length]at b;exact⟨by rw[<-b];rfl,rfl⟩
noncomputable def rq:FD:=cG Tryz.f13 [([1,1,1,1,1,0,1,0,0],[1,2,8,10,11,42,43])]
abbrev qg(a:OA)(g e:Nat)(d:OA)(b f c k m:Nat)(s i:Nat):LV:=[(.slice a g e),(.slice d b f),(pA c),(pA k),(iA s),(iA m),(iA i)]
theorem St(y:Int)(B:OA)(A D:Nat)(C:OA)(z E:Nat)(w:LB)(h:ae)(Q:VH)(F:xN (br SS.P 29) h λ_ x=>FW SS 40 [(.slice B A D)] x λu v=>yB u λt=>au (!t) (xA (bh SS.P 29 []) λb=>xU (ah SS.P 29 (pA (h.next)) (.agg ⟨b⟩) v) v λ_ a=>dY SS [((pA (h.next)),some 29),((.int .i64 1),none)] a Q) (FW SS 40 [(.slice C z E)] v λr s=>yB r λq=>au (!q) (xA (bh SS.P 29 []) λb=>xU (ah SS.P 29 (pA (h.next)) (.agg ⟨b⟩) s) s λ_ a=>dY SS [((pA (h.next)),some 29),((.int .i64 1),none)] a Q) (FW SS 41 [(.int .i64 y),(strOf w)] s λo p=>yB o λn=>au (!n) (xA (bh SS.P 29 []) λb=>xU (ah SS.P 29 (pA (h.next)) (.agg ⟨b⟩) p) p λ_ a=>dY SS [((pA (h.next)),some 29),((.int .i64 1),none)] a Q) (FW SS 42 [(.int .i64 y)] p λl m=>yO l λk=>H6 SS.P k m λi j=>fP 65 i 0 λg=>fP 29 (.pointer (some g)) 2 λf=>xU (ah SS.P 9 (.pointer (some f)) (strOf w) j) j λ_ e=>FW SS 43 [(.pointer k),(strOf [])] e λc d=>yI .i64 c λb=>xI .i64 (rQ true [(iA A),(iA z)]) λa=>LL SS rq [1,1,1,1,1,0,1,0,0] [(.slice B A D),(.slice C z E),(pA (h.next)),(.pointer k),(.int .i64 b),(.int .i64 a),(.int .i64 0)] d (KK SS rq [1,1,1,1,1,0,1,0] [] (EE SS rq Q)))))):FW SS 13 [(.int .i64 y),(.slice B A D),(.slice C z E),(strOf w)] h Q:=cQ rq Tryz.func13 (ai F)
theorem zo(E:Int)(v:OA)(B z:Nat)(y:OA)(x A:Nat)(w:LB)(u k m:Nat)(t:Nat->Nat->Nat->ae->Prop)(Q:VH)(step:∀(r:Nat) (s i:Nat) (D:Nat->Value) (h:ae),t r s i h->au (decide (((i:Int):Int)<(m:Int))) (FW SS 43 [(pA k),(strOf [])] h λp q=>yI .i64 p λo=>FW SS 45 [(.slice v B z),(iA i)] (room q 15) λl n=>yI .i64 l λj=>FW SS 45 [(.slice y x A),(iA i)] n λg h=>yI .i64 g λf=>fP 65 (pA k) 1 λe=>lS h e λd=>xA (bh SS.P 70 [(0,(.int .i64 j)),(1,(.int .i64 f)),(2,(strOf d)),(3,(.int .i64 o))]) λc=>FW SS 44 [(pA k),(iA s),(.agg ⟨c⟩)] h λa b=>a=(.tuple ⟨[]⟩)/\(aj SS.P 9 (room q 15) (.pointer (some e))=some (strOf d)/\dG 4 (strOf d) (strOf d)=true)/\(aj SS.P 9 n (.pointer (some e))=some (strOf d)/\dG 4 (strOf d) (strOf d)=true)/\aI (qP (qg v B z y x A u k m) t) r [(.slice v B z),(.slice y x A),(pA u),(pA k),(.int .i64 o),(iA m),(.int .i64 (wrap .i64 ((i:Int)+1)))] b) (fP 65 (pA k) 0 λq=>fP 29 (.pointer (some q)) 3 λp=>lL 27 (room h 13) p λm n o=>fP 65 (pA k) 1 λl=>lS (room h 13) l λj=>iP 27 (.slice m n o) (iA s) λi=>fP 73 (.pointer (some i)) 0 λg=>xU (ah SS.P 9 (.pointer (some g)) (strOf j) (room h 13)) (room h 13) λ_ f=>FW SS 46 [(pA k)] f λd e=>∃c:LV,∃b:Int,d=(.tuple ⟨[(.agg ⟨c⟩),(.int .i64 b)]⟩)/\xU (ah SS.P 29 (pA u) (.agg ⟨c⟩) e) e λ_ a=>dY SS [((pA u),some 29),((.int .i64 b),none)] a Q))(r:Nat){s i:Nat}{h:ae}(C:t r s i h):LL SS rq [1,1,1,1,1,0,1,0,0] (qg v B z y x A u k m s i) h (KK SS rq [1,1,1,1,1,0,1,0] [] (EE SS rq Q)):=
 nu (qg v B z y x A u k m) t (λr s i D h C=>ai (step r s i D h C)) r C
noncomputable def oS:FD:=cG Tryz.f25 [([1,1,1,1,0,1,0,0],[4,7,8,25,26,27])]
abbrev lP(b k s a n c:Nat)(i:Nat):LV:=[(pA b),(pA k),(iA s),(sA a n c),(iA n),(iA i)]
theorem OT(x w:LV)(h:ae)(Q:VH)(y:xN (eK SS.P 29 (.agg ⟨x⟩)) h λ_ v=>xN (eK SS.P 29 (.agg ⟨w⟩)) v λ_ u=>xN (br SS.P 29) u λ_ t=>lA 29 t (pA (h.next)) λs=>lA 29 t (pA (v.next)) λr=>FW SS 57 [(.agg ⟨s⟩),(.agg ⟨r⟩)] t λp q=>yI .i64 p λo=>au (((o:Int) !=0)) (xA (bh SS.P 29 []) λb=>xU (ah SS.P 29 (pA (u.next)) (.agg ⟨b⟩) q) q λ_ a=>dY SS [((pA (u.next)),some 29),((.int .i64 o),none)] a Q) (fP 29 (pA (h.next)) 0 λn=>lI q n λm=>FW SS 42 [(.int .i64 m)] q λk l=>yO k λj=>FW SS 43 [(.pointer j),(strOf [])] l λg i=>yI .i64 g λf=>lA 29 i (pA (h.next)) λe=>lA 29 i (pA (v.next)) λd=>xR (aF SS.P 86 2 [(0,(.agg ⟨e⟩)),(1,(.agg ⟨d⟩))]) i λ_ a b c=>LL SS oS [1,1,1,1,0,1,0,0] [(pA (u.next)),(.pointer j),(.int .i64 f),(sA (i.next) a b),(iA a),(.int .i64 0)] c (KK SS oS [1,1,1,1,0,1,0] [] (EE SS oS Q)))):FW SS 25 [(.agg ⟨x⟩),(.agg ⟨w⟩)] h Q:=cQ oS Tryz.func25 (ai y)
theorem wY(z y:LV)(u k s v n c:Nat)(t:Nat->Nat->ae->Prop)(Q:VH)(step:∀(r:Nat) (i:Nat) (x:Nat->Value) (h:ae),t r i h->au (decide (((i:Int):Int)<(n:Int))) (iP 86 (sA v n c) (iA i) λq=>lA 29 h (.pointer (some q)) λp=>xN (br SS.P 29) h λ_ o=>xU (ah SS.P 29 (pA (h.next)) (.agg ⟨p⟩) o) o λ_ m=>fP 29 (pA (h.next)) 2 λl=>lS (room m 8) l λj=>lA 29 (room m 8) (pA (h.next)) λg=>FW SS 59 [(pA k),(.agg ⟨g⟩),(.func (.func 60) ⟨[]⟩ ⟨[]⟩)] (room m 8) λe f=>yI .i64 e λd=>FW SS 58 [(pA k),(iA s),(strOf j),(.int .i64 d)] f λa b=>a=(.tuple ⟨[]⟩)/\(aj SS.P 9 f (.pointer (some l))=some (strOf j)/\dG 4 (strOf j) (strOf j)=true)/\aI (fj (lP u k s v n c) t) r [(pA u),(pA k),(iA s),(sA v n c),(iA n),(.int .i64 (wrap .i64 ((i:Int)+1)))] b) (FW SS 46 [(pA k)] h λd e=>∃c:LV,∃b:Int,d=(.tuple ⟨[(.agg ⟨c⟩),(.int .i64 b)]⟩)/\xU (ah SS.P 29 (pA u) (.agg ⟨c⟩) e) e λ_ a=>dY SS [((pA u),some 29),((.int .i64 b),none)] a Q))(r:Nat){i:Nat}{h:ae}(w:t r i h):LL SS oS [1,1,1,1,0,1,0,0] (lP u k s v n c i) h (KK SS oS [1,1,1,1,0,1,0] [] (EE SS oS Q)):=
 dg (lP u k s v n c) t (λr i x h w=>ai (step r i x h w)) r w
noncomputable def OL:FD:=cG Tryz.f31 []
theorem Ln(H E:LV)(h:ae)(Q:VH)(R:xN (eK SS.P 29 (.agg ⟨H⟩)) h λ_ C=>xN (eK SS.P 29 (.agg ⟨E⟩)) C λ_ B=>xN (br SS.P 29) B λ_ F=>lA 29 F (pA (h.next)) λL=>lA 29 F (pA (C.next)) λS=>FW SS 57 [(.agg ⟨L⟩),(.agg ⟨S⟩)] F λY D=>yI .i64 Y λI=>au (((I:Int) !=0)) (xA (bh SS.P 29 []) λb=>xU (ah SS.P 29 (pA (B.next)) (.agg ⟨b⟩) D) D λ_ a=>dY SS [((pA (B.next)),some 29),((.int .i64 I),none)] a Q) (fP 29 (pA (h.next)) 0 λK=>lI D K λZ=>FW SS 42 [(.int .i64 Z)] D λT G=>yO T λA=>fP 29 (pA (h.next)) 2 λM=>lS G M λW=>fP 29 (pA (C.next)) 2 λP=>lS G P λX=>FW SS 63 [(.pointer A),(strOf W),(strOf X)] G λU V=>yS U λN=>H6 SS.P A V λO J=>fP 65 O 0 λz=>fP 29 (.pointer (some z)) 2 λy=>xU (ah SS.P 9 (.pointer (some y)) (strOf N) J) J λ_ x=>lA 29 x (pA (C.next)) λw=>FW SS 59 [(.pointer A),(.agg ⟨w⟩),(.func (.func 60) ⟨[]⟩ ⟨[]⟩)] x λu v=>yI .i64 u λt=>lA 29 (room v 11) (pA (h.next)) λs=>FW SS 64 [(.pointer A),(.int .i64 t)] (room v 11) λq r=>yF q λn o p=>FW SS 59 [(.pointer A),(.agg ⟨s⟩),(.func (.func n) ⟨o⟩ ⟨p⟩)] r λl m=>yI .i64 l λk=>H6 SS.P A m λj _=>fP 65 j 0 λi=>fP 29 (.pointer (some i)) 1 λg=>xU (ah SS.P 3 (.pointer (some g)) (.int .i64 k) m) m λ_ f=>(aj SS.P 29 r (pA (h.next))=some (.agg ⟨s⟩)/\dG 4 (.agg ⟨s⟩) (.agg ⟨s⟩)=true)/\FW SS 46 [(.pointer A)] f λd e=>∃c:LV,∃b:Int,d=(.tuple ⟨[(.agg ⟨c⟩),(.int .i64 b)]⟩)/\xU (ah SS.P 29 (pA (B.next)) (.agg ⟨c⟩) e) e λ_ a=>dY SS [((pA (B.next)),some 29),((.int .i64 b),none)] a Q)):FW SS 31 [(.agg ⟨H⟩),(.agg ⟨E⟩)] h Q:=cQ OL Tryz.func31 (ai R)
noncomputable def W0:FD:=cG Tryz.f33 []
theorem Sl(D:LV)(h:ae)(Q:VH)(I:xN (eK SS.P 29 (.agg ⟨D⟩)) h λ_ B=>xN (br SS.P 29) B λ_ E=>lA 29 E (pA (h.next)) λM=>FW SS 66 [(.agg ⟨M⟩)] E λF C=>yB F λH=>au (!H) (xA (bh SS.P 29 []) λb=>xU (ah SS.P 29 (pA (B.next)) (.agg ⟨b⟩) C) C λ_ a=>dY SS [((pA (B.next)),some 29),((.int .i64 1),none)] a Q) (fP 29 (pA (h.next)) 0 λK=>lI C K λJ=>FW SS 42 [(.int .i64 J)] C λL G=>yO L λA=>H6 SS.P A G λy z=>fP 65 y 1 λx=>lS z x λw=>FW SS 43 [(.pointer A),(strOf w)] z λu v=>yI .i64 u λt=>fP 29 (pA (h.next)) 2 λs=>lS (room v 11) s λr=>lA 29 (room v 11) (pA (h.next)) λq=>FW SS 64 [(.pointer A),(.int .i64 t)] (room v 11) λo p=>yF o λl m n=>FW SS 59 [(.pointer A),(.agg ⟨q⟩),(.func (.func l) ⟨m⟩ ⟨n⟩)] p λj k=>yI .i64 j λi=>FW SS 58 [(.pointer A),(.int .i64 t),(strOf r),(.int .i64 i)] k λf g=>f=(.tuple ⟨[]⟩)/\(aj SS.P 9 p (.pointer (some s))=some (strOf r)/\dG 4 (strOf r) (strOf r)=true)/\(aj SS.P 9 k (.pointer (some s))=some (strOf r)/\dG 4 (strOf r) (strOf r)=true)/\(aj SS.P 29 p (pA (h.next))=some (.agg ⟨q⟩)/\dG 4 (.agg ⟨q⟩) (.agg ⟨q⟩)=true)/\FW SS 46 [(.pointer A)] g λd e=>∃c:LV,∃b:Int,d=(.tuple ⟨[(.agg ⟨c⟩),(.int .i64 b)]⟩)/\xU (ah SS.P 29 (pA (B.next)) (.agg ⟨c⟩) e) e λ_ a=>dY SS [((pA (B.next)),some 29),((.int .i64 b),none)] a Q)):FW SS 33 [(.agg ⟨D⟩)] h Q:=cQ W0 Tryz.func33 (ai I)
noncomputable def Sk:FD:=cG Tryz.f37 []
theorem ON(D:LV)(w:LB)(h:ae)(Q:VH)(L:xN (eK SS.P 29 (.agg ⟨D⟩)) h λ_ A=>xN (br SS.P 29) A λ_ E=>lA 29 E (pA (h.next)) λR=>FW SS 66 [(.agg ⟨R⟩)] E λG C=>yB G λK=>au (!K) (xA (bh SS.P 29 []) λb=>xU (ah SS.P 29 (pA (A.next)) (.agg ⟨b⟩) C) C λ_ a=>dY SS [((pA (A.next)),some 29),((.int .i64 1),none)] a Q) (fP 29 (pA (h.next)) 0 λH=>lI C H λO=>FW SS 41 [(.int .i64 O),(strOf w)] C λP B=>yB P λN=>au (!N) (xA (bh SS.P 29 []) λb=>xU (ah SS.P 29 (pA (A.next)) (.agg ⟨b⟩) B) B λ_ a=>dY SS [((pA (A.next)),some 29),((.int .i64 1),none)] a Q) (fP 29 (pA (h.next)) 0 λM=>lI B M λI=>FW SS 42 [(.int .i64 I)] B λJ F=>yO J λz=>fP 29 (pA (h.next)) 2 λy=>lS F y λx=>FW SS 63 [(.pointer z),(strOf w),(strOf x)] F λu v=>yS u λt=>H6 SS.P z v λr s=>fP 65 r 0 λq=>fP 29 (.pointer (some q)) 2 λp=>xU (ah SS.P 9 (.pointer (some p)) (strOf t) s) s λ_ o=>lA 29 o (pA (h.next)) λn=>FW SS 59 [(.pointer z),(.agg ⟨n⟩),(.func (.func 60) ⟨[]⟩ ⟨[]⟩)] o λl m=>yI .i64 l λk=>H6 SS.P z m λi j=>fP 65 i 0 λh=>fP 29 (.pointer (some h)) 1 λg=>xU (ah SS.P 3 (.pointer (some g)) (.int .i64 k) j) j λ_ f=>FW SS 46 [(.pointer z)] f λd e=>∃c:LV,∃b:Int,d=(.tuple ⟨[(.agg ⟨c⟩),(.int .i64 b)]⟩)/\xU (ah SS.P 29 (pA (A.next)) (.agg ⟨c⟩) e) e λ_ a=>dY SS [((pA (A.next)),some 29),((.int .i64 b),none)] a Q))):FW SS 37 [(.agg ⟨D⟩),(strOf w)] h Q:=cQ Sk Tryz.func37 (ai L)
noncomputable def fF:FD:=cG Tryz.f35 [([1,1,1,0,1,0,0],[1,2,3,6,8,33,34]),([1,1,1,1,0,1,0,0],[1,2,3,6,8,48,49])]
abbrev kO(n a:Int)(d c k:Nat)(b:Int)(i:Nat):LV:=[(.int .i64 n),(.int .i64 a),(pA d),(pA c),(pA k),(.int .i64 b),(iA i)]
abbrev kP(n a:Int)(c b k:Nat)(i:Nat):LV:=[(.int .i64 n),(.int .i64 a),(pA c),(pA b),(pA k),(.int .i64 a),(iA i)]
theorem Lp(o:LV)(n m:Int)(h:ae)(Q:VH)(p:xN (eK SS.P 29 (.agg ⟨o⟩)) h λ_ l=>xN (br SS.P 29) l λ_ k=>lA 29 k (pA (h.next)) λj=>FW SS 66 [(.agg ⟨j⟩)] k λg i=>yB g λf=>au (!f) (xA (bh SS.P 29 []) λb=>xU (ah SS.P 29 (pA (l.next)) (.agg ⟨b⟩) i) i λ_ a=>dY SS [((pA (l.next)),some 29),((.int .i64 1),none)] a Q) (au (decide ((n:Int)<0)) (xA (bh SS.P 29 []) λb=>xU (ah SS.P 29 (pA (l.next)) (.agg ⟨b⟩) i) i λ_ a=>dY SS [((pA (l.next)),some 29),((.int .i64 1),none)] a Q) (au (decide ((m:Int)<n)) (xA (bh SS.P 29 []) λb=>xU (ah SS.P 29 (pA (l.next)) (.agg ⟨b⟩) i) i λ_ a=>dY SS [((pA (l.next)),some 29),((.int .i64 1),none)] a Q) (au (decide ((m:Int)>30)) (xA (bh SS.P 29 []) λb=>xU (ah SS.P 29 (pA (l.next)) (.agg ⟨b⟩) i) i λ_ a=>dY SS [((pA (l.next)),some 29),((.int .i64 1),none)] a Q) (fP 29 (pA (h.next)) 0 λe=>lI i e λd=>FW SS 42 [(.int .i64 d)] i λb c=>yO b λa=>LL SS fF [1,1,1,0,1,0,0] [(.int .i64 n),(.int .i64 m),(pA (h.next)),(pA (l.next)),(.pointer a),(.int .i64 (wrap .i64 (m+1))),(.int .i64 0)] c (KK SS fF [1,1,1,0,1,0] [] (EE SS fF Q))))))):FW SS 35 [(.agg ⟨o⟩),(.int .i64 n),(.int .i64 m)] h Q:=cQ fF Tryz.func35 (ai p)
theorem vZ(q:LV)(n e:Int)(m l k:Nat)(j:Int)(f:Nat->Nat->ae->Prop)(Q:VH)(step:∀(g:Nat) (i:Nat) (p:Nat->Value) (h:ae),f g i h->au (decide (((i:Int):Int)<j)) (au (decide (((i:Int):Int)>=n)) (fP 65 (pA k) 1 λd=>lS h d λc=>FW SS 43 [(pA k),(strOf c)] h λa b=>yI .i64 a λ_=>aI (fj (kO n e m l k j) f) g [(.int .i64 n),(.int .i64 e),(pA m),(pA l),(pA k),(.int .i64 j),(.int .i64 (wrap .i64 ((i:Int)+1)))] b) (FW SS 43 [(pA k),(strOf [])] h λa b=>yI .i64 a λ_=>aI (fj (kO n e m l k j) f) g [(.int .i64 n),(.int .i64 e),(pA m),(pA l),(pA k),(.int .i64 j),(.int .i64 (wrap .i64 ((i:Int)+1)))] b)) (LL SS fF [1,1,1,1,0,1,0,0] (kP n e m l k 0) h (KK SS fF [1,1,1,1,0,1,0] [] (EE SS fF Q))))(g:Nat){i:Nat}{h:ae}(o:f g i h):LL SS fF [1,1,1,0,1,0,0] (kO n e m l k j i) h (KK SS fF [1,1,1,0,1,0] [] (EE SS fF Q)):=
 dg (kO n e m l k j) f (λg i p h o=>ai (step g i p h o)) g o
theorem wa(x:LV)(n q:Int)(t u k:Nat)(s:Nat->Nat->ae->Prop)(Q:VH)(step:∀(r:Nat) (i:Nat) (w:Nat->Value) (h:ae),s r i h->au (decide (((i:Int):Int)<q)) (fP 29 (pA t) 2 λp=>lS (room h 12) p λo=>lA 29 (room h 12) (pA t) λm=>FW SS 64 [(pA k),(.int .i64 (wrap .i64 ((i:Int)+1)))] (room h 12) λj l=>yF j λf g h=>FW SS 59 [(pA k),(.agg ⟨m⟩),(.func (.func f) ⟨g⟩ ⟨h⟩)] l λd e=>yI .i64 d λc=>FW SS 58 [(pA k),(iA i),(strOf o),(.int .i64 c)] e λa b=>a=(.tuple ⟨[]⟩)/\(aj SS.P 9 l (.pointer (some p))=some (strOf o)/\dG 4 (strOf o) (strOf o)=true)/\(aj SS.P 9 e (.pointer (some p))=some (strOf o)/\dG 4 (strOf o) (strOf o)=true)/\(aj SS.P 29 l (pA t)=some (.agg ⟨m⟩)/\dG 4 (.agg ⟨m⟩) (.agg ⟨m⟩)=true)/\aI (fj (kP n q t u k) s) r [(.int .i64 n),(.int .i64 q),(pA t),(pA u),(pA k),(.int .i64 q),(.int .i64 (wrap .i64 ((i:Int)+1)))] b) (FW SS 46 [(pA k)] h λd e=>∃c:LV,∃b:Int,d=(.tuple ⟨[(.agg ⟨c⟩),(.int .i64 b)]⟩)/\xU (ah SS.P 29 (pA u) (.agg ⟨c⟩) e) e λ_ a=>dY SS [((pA u),some 29),((.int .i64 b),none)] a Q))(r:Nat){i:Nat}{h:ae}(v:s r i h):LL SS fF [1,1,1,1,0,1,0,0] (kP n q t u k i) h (KK SS fF [1,1,1,1,0,1,0] [] (EE SS fF Q)):=
 dg (kP n q t u k) s (λr i w h v=>ai (step r i w h v)) r v
section
section
variable {hb g h:ae} {k:Nat} {kind start:Int} {lead:List UInt8} {bL:List dP}
theorem Se(w:Wf hb)(b:BS hb g k kind start lead bL)(u:bL.length<=3000)(x:cg bL<=30000):FW SS 46 [pA k] g (Bn hb (⟨kind,start,lead,bL⟩,0)):=by
 obtain⟨a,n,c,r,q,f,p⟩:=b.ex;have s:n=bL.length:=by have:=p.st.len;rw[this,f]
 have h:=(Ok.refl b.ok.wf).push mQ;have d:=h.ext _ _ q;have j:=aJ g mQ;have o:=o0 M4 Lj tX d (i:=0) (by simp[ft]);have m:=h.set (.cells (bK ⟨kind,start,lead,bL⟩ a n c) 29 0 true) (Nat.le_refl _) (h.wf _ _ j) b.ok.wf;have l:((g.push mQ).set g.next (.cells (bK ⟨kind,start,lead,bL⟩ a n c) 29 0 true)).get g.next=some (.cells (bK ⟨kind,start,lead,bL⟩ a n c) 29 0 true):=by rw[ae.aw,if_pos rfl]
 refine Sd k g _ ⟨_,qC,_,aax k,_,cq adf abC d (i:=6) (by simp[ft]),aa (λe=>by cases e) (λ_=>⟨_,kg k,_,da k,_,_,_,cq zY Em d (i:=3) (by simp[ft]),aa (λe=>?_) (λ_=>⟨_,LD k,_,cq Gm Fa d (i:=5) (by simp[ft]),aa (λe=>?_) (λ_=>⟨_,kg k,_,o,_,kS (t:=29) tX (cs0:=[.int .i64 0,.int .i64 0,strOf [],.slice none 0 0]) rfl j (cs:=bK ⟨kind,start,lead,bL⟩ a n c) rfl (uA ..),?_⟩)⟩)⟩)⟩
 ·have:=dT e;omega
 ·have:=dT e;omega
 ·exact xj (v:= .agg ⟨bK ⟨kind,start,lead,bL⟩ a n c⟩) (o0 M4 Lj tX l (by simp[bK])) ⟨a,n,c,r,rfl,f,p.ok m,b.ok.trans m⟩
theorem Sb{c:Nat}{l:List Int}(r:dK h (.slice a n c) l)(i:Nat):FW SS 45 [.slice a n c,iA i] h (λv g=>v = .int .i64 (l.getD i 0)/\g=h):=by
 obtain rfl:=dK.len r;refine aag a _ c i h _ (aa (λq=>?_) (λq=>⟨?_,rfl⟩))
 ·have d:i<l.length:=by have:=dT q;omega
  obtain⟨p,b,e⟩:=r.at_ d;exact⟨_,b,_,e,rfl,rfl⟩
 ·have:l.length<=i:=by have:=dF q;omega
  rw[gD,List.getElem?_eq_none this];rfl
theorem Ns(s:Int):FW SS 51 [.int .i64 s] h (λv g=>v = .bool (sk s)/\g=h):=by
 unfold sk;refine Xa s h _ (aa (λq=>⟨?_,rfl⟩) (λq=>⟨?_,rfl⟩))
 ·have:=dT q;rw[decide_eq_true (show 1<=s by omega),Bool.true_and]
 ·have:=dF q;rw[decide_eq_false (show ¬1<=s by omega),Bool.false_and]
theorem OW(s:Int):FW SS 68 [.int .i64 s] h (λv g=>v = .bool (!sk s)/\g=h):=by
 refine OV s h _ ((Ns s).mono ?_);rintro _ g ⟨rfl,rfl⟩;exact⟨_,rfl,rfl,rfl⟩
theorem Sh(s:Int):FW SS 50 [.int .i64 s] h (λv g=>v = .bool (!sk s)/\g=h):=by
 refine Sg s h _ ((Ns s).mono ?_);rintro _ g ⟨rfl,rfl⟩;exact⟨_,rfl,rfl,rfl⟩
theorem SN{c:Nat}{l:List Int}(r:dK h (.slice a n c) l)(t:l.length<=1000000):FW SS 49 [.slice a n c,.func (.func 68) ⟨[]⟩ ⟨[]⟩] h (λv g=>v = .bool (!l.all sk)/\g=h):=by
 obtain rfl:=dK.len r;refine O7 a _ c h _ (Tj a _ c h _ ?_);refine zE a _ c (λj i g=>i<=l.length/\j=l.length-i/\g=h/\(l.drop i).all sk=l.all sk) _ (λj i=>?_) l.length (i:=0) ⟨by omega,rfl,rfl,by rw[drop_zero]⟩;intros;rename_i g f;obtain⟨w,u,rfl,b⟩:=f;refine aa (λq=>?_) (λq=>?_)
 ·have e:i<l.length:=by have:=dT q;omega
  obtain⟨p,k,o⟩:=r.at_ e;rw[GV e,all_cons]at b;refine⟨_,k,_,o,(OW _).mono ?_⟩;rintro _ m ⟨rfl,s⟩;obtain rfl:g=m:=s.symm;refine⟨_,rfl,aa (λd=>⟨_,rfl,?_,rfl⟩) (λd=>?_)⟩
  ·rw[not_eq_true']at d;rw[<-b,d,Bool.false_and,decide_eq_true (show(i:Int)>=0 by omega)];rfl
  ·rw[not_eq_false']at d;rw[d,Bool.true_and]at b;rw[aN e (by omega)];exact bZ (l.length-(i+1)) (by omega) ⟨by omega,rfl,rfl,b⟩
 ·obtain rfl:i=l.length:=by have:=dF q;omega
  rw[drop_length]at b;exact⟨_,rfl,by rw[<-b];rfl,rfl⟩
theorem SL{c:Nat}{l:List Int}(r:dK h (.slice a n c) l)(t:l.length<=1000000):FW SS 49 [.slice a n c,.func (.func 50) ⟨[]⟩ ⟨[]⟩] h (λv g=>v = .bool (!l.all sk)/\g=h):=by
 obtain rfl:=dK.len r;refine O6 a _ c h _ (Ti a _ c h _ ?_);refine zD a _ c (λj i g=>i<=l.length/\j=l.length-i/\g=h/\(l.drop i).all sk=l.all sk) _ (λj i=>?_) l.length (i:=0) ⟨by omega,rfl,rfl,by rw[drop_zero]⟩;intros;rename_i g f;obtain⟨w,u,rfl,b⟩:=f;refine aa (λq=>?_) (λq=>?_)
 ·have e:i<l.length:=by have:=dT q;omega
  obtain⟨p,k,o⟩:=r.at_ e;rw[GV e,all_cons]at b;refine⟨_,k,_,o,(Sh _).mono ?_⟩;rintro _ m ⟨rfl,s⟩;obtain rfl:g=m:=s.symm;refine⟨_,rfl,aa (λd=>⟨_,rfl,?_,rfl⟩) (λd=>?_)⟩
  ·rw[not_eq_true']at d;rw[<-b,d,Bool.false_and,decide_eq_true (show(i:Int)>=0 by omega)];rfl
  ·rw[not_eq_false']at d;rw[d,Bool.true_and]at b;rw[aN e (by omega)];exact bZ (l.length-(i+1)) (by omega) ⟨by omega,rfl,rfl,b⟩
 ·obtain rfl:i=l.length:=by have:=dF q;omega
  rw[drop_length]at b;exact⟨_,rfl,by rw[<-b];rfl,rfl⟩
theorem Fh{c:Nat}(r:dK h (.slice a n c) p):FW SS 40 [.slice a n c] h (λv g=>v = .bool (eI p)/\g=h):=by
 obtain rfl:=dK.len r;unfold eI;refine OX a _ c h _ (aa (λq=>(SN r (by have:=dT q;omega)).mono ?_) (λq=>⟨?_,rfl⟩))
 ·rintro _ g ⟨rfl,rfl⟩;refine⟨_,rfl,?_,rfl⟩;have:=dT q;rw[decide_eq_true (show p.length<=200 by omega),Bool.true_and,Bool.not_not]
 ·have:=dF q;rw[decide_eq_false (show ¬p.length<=200 by omega),Bool.false_and]
def Ai(A B:bw):Int:=if(ca A&&ca B)=true then(if A.kind=B.kind then 0 else 6)else 1
theorem Nt{B:bw}{x:Option Addr}{z:Nat}(w:Wf h)(r:nO h)(u:Small M)(D:Small B)(A:dx h (.slice x n z) M.af)(t:dx h (.slice a m i) B.af):FW SS 57 [.agg ⟨bK M x n z⟩,.agg ⟨bK B a m i⟩] h (λv g=>v = .int .i64 (Ai M B)/\Ok h g):=by
 obtain⟨C,k⟩:=fo w A;obtain⟨y,s⟩:=fo k.wf (t.ok k);have p:=k.trans s;have j:=C.ok s;refine Xb _ _ h _ ⟨_,iH M x n z,_,iH B a m i,_,j.all,(qG (r.ok p) p.wf u j.row).mono ?_⟩;generalize (h.push (Bm M x n z)).push (Bm B a m i)=E at*;rintro _ G ⟨rfl,o⟩;have d:=p.trans o;have e:=y.ok o;unfold Ai;refine⟨_,rfl,aa (λq=>⟨?_,d⟩) (λq=>⟨_,e.all,(qG (r.ok d) d.wf D e.row).mono ?_⟩)⟩
 ·rw[not_eq_true']at q;rw[q];rfl
 rw[not_eq_false']at q;rintro _ F ⟨rfl,l⟩;have f:=d.trans l;refine⟨_,rfl,aa (λc=>⟨?_,f⟩) (λc=>⟨_,dD _,_,((j.ok o).ok l).l0,_,dD _,_,(e.ok l).l0,aa (λb=>⟨?_,f⟩) (λb=>⟨?_,f⟩)⟩)⟩
 ·rw[not_eq_true']at c;rw[q,c];rfl
 ·rw[not_eq_false']at c;have b:M.kind≠B.kind:=by simpa using b
  rw[q,c,if_pos (show(true&&true)=true from rfl),if_neg b]
 ·rw[not_eq_false']at c;have b:M.kind=B.kind:=by simpa using b
  rw[q,c,if_pos (show(true&&true)=true from rfl),if_pos b]
end
end
variable{j:Nat}{l:Nat}{t:List UInt8}
section
section
variable {hb g h:ae} {k:Nat} {kind start:Int} {lead:List UInt8} {bL:List dP}
theorem BU.HN(w:Wf hb)(b:BU hb g k kind start lead bL n)(l:List UInt8):∃u:dM,ah SS.P 9 (.pointer (some ⟨k,2,none⟩)) (strOf l) g=some (undef,u)/\BU hb (u.app g) k kind start l bL n/\Kp g (u.app g):=by
 obtain⟨a,t,c,p,f,h,q⟩:=b.ex;refine⟨_,iX zs9 f (i:=2) (by simp[ft]) rfl rfl,⟨⟨a,t,c,p,?_,h,q.other f (by omega) (by omega) _⟩,b.ok.set _ b.nk (b.ok.wf _ _ f) w,b.nk⟩,Nat.le_refl _,λj cs e z s d m _ _=>?_⟩
 ·show(g.set k _).get k=_;rw[ae.aw,if_pos rfl];rfl
 ·show(g.set k _).get j=_;rw[ae.aw,if_neg (λc=>by
   rw[c,f]at d;injection d with d
   injection d with _ r o
   exact m ⟨r.symm,o.symm⟩)]
  exact d
theorem BU.Kn(w:Wf hb)(b:BU hb g k kind start lead bL n)(z:Int):∃u:dM,ah SS.P 3 (.pointer (some ⟨k,1,none⟩)) (.int .i64 z) g=some (undef,u)/\BU hb (u.app g) k kind z lead bL n/\Kp g (u.app g):=by
 obtain⟨a,s,c,o,f,h,p⟩:=b.ex;refine⟨_,iX zs3 f (i:=1) (by simp[ft]) rfl rfl,⟨⟨a,s,c,o,?_,h,p.other f (by omega) (by omega) _⟩,b.ok.set _ b.nk (b.ok.wf _ _ f) w,b.nk⟩,Nat.le_refl _,λj cs e z r d l _ _=>?_⟩
 ·show(g.set k _).get k=_;rw[ae.aw,if_pos rfl];rfl
 ·show(g.set k _).get j=_;rw[ae.aw,if_neg (λc=>by
   rw[c,f]at d;injection d with d
   injection d with _ q m
   exact l ⟨q.symm,m.symm⟩)]
  exact d
theorem BU.one(b:BU hb g k kind start lead bL n):aj SS.P 9 g (.pointer (some ⟨k,4,none⟩))=some (strOf (dN kind)):=by
 obtain⟨a,j,c,f,d,e,h⟩:=b.ex;exact cq KV Rx d (i:=4) (by simp[ft])
theorem ij(w:Wf h)(o:Ok h g)(i:g.get m=some mQ)(b:h.next<=m)(e:Int):
  xA (bh SS.P 29 []) λc=>xU (ah SS.P 29 (pA m) (.agg ⟨c⟩) g) g λu d=>dY SS [(pA m,some 29),(.int .i64 e,none)] d (Bn h (sN,e)):=by
 obtain⟨u,j,f⟩:=N5 w o i b (R:=(sN,e)) (a:=none) (n:=0) (c:=0) (ps:=[]) rfl (ke.nil g g) o (.inr ⟨rfl,rfl,rfl,rfl⟩);exact⟨_,aam,u,j,f⟩
theorem oX(w:Wf h)(j:Wf hb)(b:BS hb g k kind start lead bL)(o:bL.length<=3000)(r:cg bL<=30000)(m:Ok h hb)(l:hb.get n=some mQ)(t:h.next<=n):
  FW SS 46 [pA k] g λv d=>∃cs:LV,∃q:Int,v=(.tuple ⟨[(.agg ⟨cs⟩),(.int .i64 q)]⟩)/\xU (ah SS.P 29 (pA n) (.agg ⟨cs⟩) d) d λu f=>dY SS [(pA n,some 29),(.int .i64 q,none)] f (Bn h (⟨kind,start,lead,bL⟩,0)):=by
 refine(Se j b o r).mono ?_;rintro _ f ⟨a,q,c,y,rfl,i,x,e⟩;obtain⟨u,s,p⟩:=N5 w (m.trans e) (e.ext _ _ l) t (R:=(⟨kind,start,lead,bL⟩,0)) i x m (.inl (j _ _ l));exact⟨_,_,rfl,u,s,p⟩
end
def qu(kind:Int)(a b:List Int)(m:Nat):List dP:=(List.range m).map λi=>⟨[],[⟨a.getD i 0,b.getD i 0,dN kind,((i+1:Nat):Int)⟩]⟩
def Gr(kind:Int)(a b:List Int)(c:List UInt8):bw:=⟨kind,0,c,qu kind a b (max a.length b.length)++[⟨dN kind,[]⟩]⟩
def AZ(kind:Int)(b c:List Int)(a:List UInt8):bw×Int:=if(eI b&&(eI c&&ba kind a))=true then(Gr kind b c a,0)else(sN,1)
theorem px(kind:Int)(a b:List Int)(m:Nat):(qu kind a b m).length=m:=by unfold qu;simp
theorem Gn(kind:Int)(a b:List Int)(m:Nat):qu kind a b (m+1)=qu kind a b m++[⟨[],[⟨a.getD m 0,b.getD m 0,dN kind,((m+1:Nat):Int)⟩]⟩]:=by
 unfold qu;rw[range_succ,map_append];rfl
theorem DP(kind:Int)(a b:List Int):∀m,cg (qu kind a b m)=m
 |0=>rfl
 |m+1=>by rw[Gn,eA,DP kind a b m];rfl
theorem Zs(i o:Int)(w:List UInt8)(t:Int):bh SS.P 70 [(0,.int .i64 i),(1,.int .i64 o),(2,strOf w),(3,.int .i64 t)]=some (.agg ⟨fE ⟨i,o,w,t⟩⟩):=by kernel_rfl
theorem KH(h:eI p=true):p.length<=200:=by
 unfold eI at h;rw[and_eq_true]at h;exact dT h.1
theorem Cp{h:ae}{kind:Int}{G I:Option Addr}{d f:List Int}(w:Wf h)(tb:nO h)(S:dK h (.slice G n m) d)(W:dK h (.slice I j l) f)(hl:t.length<=1000000000):
  FW SS 13 [.int .i64 kind,.slice G n m,.slice I j l,strOf t] h (Bn h (AZ kind d f t)):=by
 obtain rfl:=dK.len S;obtain rfl:=dK.len W;have v:=(Ok.refl w).push mQ;have V:=aJ h mQ;have nb:h.next<(h.push mQ).next:=lt_succ_self _;refine St kind G _ m I _ l t h _ ⟨_,qC,?_⟩;generalize h.push mQ=g1 at*;refine(Fh (dK.ok S v)).mono ?_;rintro _ z ⟨rfl,e2⟩;obtain rfl:g1=z:=e2.symm;unfold AZ;refine⟨_,rfl,aa (λq=>?_) (λq=>(Fh (dK.ok W v)).mono ?_)⟩
 ·rw[not_eq_true']at q;rw[q,if_neg (show ¬(false&&(eI f&&ba kind t))=true by simp)];exact ij w v V (Nat.le_refl _) 1
 rw[not_eq_false']at q;rintro _ z ⟨rfl,e2⟩;obtain rfl:g1=z:=e2.symm;refine⟨_,rfl,aa (λA=>?_) (λA=>(l9 kind t hl (tb.ok v) v.wf).mono ?_)⟩
 ·rw[not_eq_true']at A;rw[A,if_neg (show ¬(eI d&&(false&&ba kind t))=true by simp)];exact ij w v V (Nat.le_refl _) 1
 rw[not_eq_false']at A;rintro _ z ⟨rfl,r⟩;have C:=v.trans r;have O:=r.ext _ _ V;refine⟨_,rfl,aa (λB=>?_) (λB=>(mw kind r.wf).mono ?_)⟩
 ·rw[not_eq_true']at B;rw[B,if_neg (show ¬(eI d&&(eI f&&false))=true by simp)];exact ij w C O (Nat.le_refl _) 1
 rw[not_eq_false']at B;rw[q,A,B,if_pos (show(true&&(true&&true))=true from rfl)];have lx:=KH q;have ly:=KH A;rintro _ g3 ⟨k,rfl,b3⟩;obtain⟨u,st,b4,_⟩:=b3.HN r.wf t;refine⟨_,rfl,lD ⟨_,kg k,_,mC k,u,st,(il r.wf b4 (by simp) []).mono ?_⟩⟩;rintro _ g5 ⟨rfl,b5,_⟩;have hm:(if(f.length:Int)>(d.length:Int)then(f.length:Int)else(d.length:Int))=((max d.length f.length:Nat):Int):=by
  split<;>omega
 refine⟨_,rfl,_,tx _ _ _,?_⟩;rw[hm];obtain⟨F,P⟩:∃F,F=max d.length f.length:=⟨_,rfl⟩
 have x7:F<=200:=by omega
 rw[<-P];refine zo kind G _ m I _ l t h.next k F (λmz s i g=>i<=F/\mz=F-i/\s=i/\BS z g k kind 0 t (qu kind d f i++[⟨[],[]⟩])) _ (λmz s i=>?_) F (s:=0) (i:=0) ⟨by omega,rfl,rfl,b5⟩;intros;rename_i g x3;obtain⟨f1,f2,rfl,b⟩:=x3;have D:=G3 (qu kind d f s) (⟨[],[]⟩:dP) [] (px kind d f s);refine aa (λp=>?_) (λp=>?_)
 ·have hi:s<F:=by have:=dT p;omega
  refine(il r.wf b (by rw[length_append,px];simp;omega) []).mono ?_;rintro _ g6 ⟨rfl,b6,_⟩;have or:=(Ok.refl b6.ok.wf).room 15;have o:=b6.qQ or;have M:=C.trans o.ok;refine⟨_,rfl,(Sb (dK.ok S M) s).mono ?_⟩;rintro _ T ⟨rfl,e7⟩;obtain rfl:Go.Ab.room g6 15=T:=e7.symm;refine⟨_,rfl,(Sb (dK.ok W M) s).mono ?_⟩;rintro _ T ⟨rfl,e7⟩;obtain rfl:Go.Ab.room g6 15=T:=e7.symm;have R:(qu kind d f s++[(⟨[],[]⟩:dP)]).length=s+1:=by rw[length_append,px];rfl
  rw[R];have J:(qu kind d f s++[(⟨[],[]⟩:dP)]++[(⟨[],[]⟩:dP)])[s]?=some (⟨[],[]⟩:dP):=by
   rw[append_assoc];exact G3 (qu kind d f s) (⟨[],[]⟩:dP) [⟨[],[]⟩] (px kind d f s)
  have y:(qu kind d f s++[(⟨[],[]⟩:dP)]++[(⟨[],[]⟩:dP)]).set s (⟨[],[]++[⟨d.getD s 0,f.getD s 0,dN kind,((s+1:Nat):Int)⟩]⟩:dP)=qu kind d f (s+1)++[⟨[],[]⟩]:=by
   rw[append_assoc,Gn,append_assoc];exact uI (qu kind d f s) (⟨[],[]⟩:dP) _ [⟨[],[]⟩] (px kind d f s)
  have x0:cg (qu kind d f s++[(⟨[],[]⟩:dP)]++[(⟨[],[]⟩:dP)])<=100000:=by
   rw[eA,eA,DP];show s+0+0<=_;omega
  refine⟨_,rfl,_,zy k,_,o.one,_,Zs _ _ _ _,(xb r.wf o J x0 _).mono ?_⟩;rintro _ g8 ⟨rfl,H,_⟩;rw[y]at H;rw[aN hi (by omega)];exact⟨rfl,⟨o.one,kJ _⟩,⟨o.one,kJ _⟩,iI (F-(s+1)) (by omega) ⟨by omega,rfl,rfl,H⟩⟩
 ·obtain rfl:s=F:=by have:=dF p;omega
  have o:=b.qQ ((Ok.refl b.ok.wf).room 13);obtain⟨a,y2,c,Z,Y,N,K⟩:=o.ex;obtain⟨pp,hp,x5⟩:∃p,Z[s]?=some p/\p.1=⟨[],[]⟩:=by
   rw[<-N,getElem?_map]at D;exact map_eq_some_iff.1 D
  have X:0<(Z.map uL).length:=by have:=(List.getElem?_eq_some_iff.1 hp).1;rw[lM];omega
  obtain⟨kr,x9,cr,Q,y0⟩:=K.row.blk X;injection Q with Q en ec
  subst Q en ec;obtain⟨i1,_,_⟩:=K.at_ hp;obtain⟨uu,x2,x4,x1,x6,x8⟩:=K.acY r.wf o.ok hp (dN kind);obtain⟨y1,U⟩:=oe K.row (k:=kr) rfl;have L:=x6 _ _ Y (λe=>kf U Y (by decide) e);have y:(Z.set s (⟨dN kind,pp.1.arcs⟩,pp.2)).map (·.1)=qu kind d f s++[⟨dN kind,[]⟩]:=by
   rw[map_set,N,x5];exact uI (qu kind d f s) (⟨[],[]⟩:dP) _ [] (px kind d f s)
  have E:∀x:dP,x.arcs=[]->cg (qu kind d f s++[x])=s:=λx hx=>by
   rw[eA,DP,dm,hx];rfl
  have H:BS z (uu.app (Go.Ab.room g 13)) k kind 0 t (qu kind d f s++[⟨dN kind,[]⟩]):=by
   refine⟨⟨_,_,_,_,?_,y,x4⟩,x1,o.nk⟩;rw[E _ rfl];rw[E _ rfl]at L;exact L
  refine⟨_,kg k,_,da k,_,_,_,cq zY Em Y (i:=3) (by simp[ft]),_,zy k,_,o.one,_,i1,_,nE _ _,uu,x2,?_⟩;have e:Gr kind d f t=⟨kind,0,t,qu kind d f s++[⟨dN kind,[]⟩]⟩:=by unfold Gr;rw[<-P]
  rw[e];exact oX w r.wf H (by rw[length_append,px];simp;omega) (by rw[E _ rfl];omega) C O (Nat.le_refl _)
end
section
structure Wy(M:bw):Prop where
 n:M.af.length<=300
 s:cg M.af<=2000
 start:0<=M.start/\M.start<M.af.length
 to:∀s∈M.af,∀a∈s.arcs,0<=a.t/\a.t<M.af.length
theorem pH(c:Small M)(h:ca M=true):Wy M:=by
 have b:=tz h;exact⟨c.bL,c.tot,b.start,λs d a e=>(b.arc s d a e).2⟩
theorem mi.kF(k:Nat)(g:ae):mi k none 60 [] [] g:=⟨rfl,rfl,rfl⟩
theorem DM{x:Option Addr}{y z:Nat}(r:dx g (.slice x y z) M.af):dG 4 (.agg ⟨bK M x y z⟩) (.agg ⟨bK M x y z⟩)=true:=by
 obtain⟨t,d,l,q,m⟩:=r;have:∀{e i:Nat}{j:List (List Value)},Ek g e i (.slice x y z) j->dG 3 (.slice x y z) (.slice x y z)=true:=by
  intro e i j h;obtain⟨_,⟨d|d,_⟩|⟨k,o,cs,p,z',c,s,d,_⟩⟩:=h
  ·injection d with a b c;subst a b c;simp[dG]
  ·exact absurd d m
  ·injection d with a b c;subst a b c;simp[dG]
 have h:=this l;have e:dG 4 (.agg ⟨bK M x y z⟩) (.agg ⟨bK M x y z⟩)=(dG 3 (.int .i64 M.kind) (.int .i64 M.kind)&&(dG 3 (.int .i64 M.start) (.int .i64 M.start)&&(dG 3 (strOf M.lead) (strOf M.lead)&&(dG 3 (.slice x y z) (.slice x y z)&&true)))):=rfl;have f:∀a:Int,dG 3 (.int .i64 a) (.int .i64 a)=true:=λa=>by simp[dG]
 have n:dG 3 (strOf M.lead) (strOf M.lead)=true:=by simp[dG,strOf]
 rw[e,f,f,n,h];rfl
def qt(X:bw):List dP->List dP
 |[]=>[]
 |a::r=>⟨a.f,a.arcs++[⟨0,0,X.lead,((r.length+1:Nat):Int)+X.start⟩]⟩::(r++X.af.map (my (r.length+1) none))
def VQ(A B:bw):bw:=⟨A.kind,0,dN A.kind,qt B (qt A [⟨[],[]⟩])⟩
def HV(A B:bw):bw×Int:=if Ai A B=0 then(VQ A B,0)else(sN,Ai A B)
theorem KE(X:bw)(a:List dP)(h:a≠[]):(qt X a).length=a.length+X.af.length/\cg (qt X a)<=cg a+cg X.af+X.af.length+1/\qt X a≠[]:=by
 cases a with
 |nil=>exact absurd rfl h
 |cons b r=>
  have:=lQ (r.length+1) none X.af;refine⟨by unfold qt;simp;omega,?_,by unfold qt;simp⟩;unfold qt;rw[dm,eA,dm];simp only[length_append,List.length_singleton];omega
theorem adL(A B:bw)(x x':Option Addr)(y z y' z':Nat):aF SS.P 86 2 [(0,.agg ⟨bK A x y z⟩),(1,.agg ⟨bK B x' y' z'⟩)]=some (.cells (bK A x y z++bK B x' y' z') 29 4 true,mL 2 2):=by cases x<;>cases x'<;>kernel_rfl
theorem aaD(k:Nat):aA SS.P 86 (sA k 2 2) (iA 0)=some (.pointer (some ⟨k,0,none⟩)):=by kernel_rfl
theorem aaE(k:Nat):aA SS.P 86 (sA k 2 2) (iA 1)=some (.pointer (some ⟨k,4,none⟩)):=by kernel_rfl
theorem Nu{A B:bw}(h:Ai A B=0):ca A=true/\ca B=true/\A.kind=B.kind:=by
 unfold Ai at h;split at h
 ·next c=>
  rw[and_eq_true]at c;split at h
  ·next e=>exact⟨c.1,c.2,e⟩
  ·cases h
 ·cases h
section
variable {h:ae} {A B:bw} {x x':Option Addr} {y z y' z':Nat}
theorem OU(w:Wf h)(tb:nO h)(sa:Small A)(sb:Small B)(ra:dx h (.slice x y z) A.af)(rb:dx h (.slice x' y' z') B.af):FW SS 25 [.agg ⟨bK A x y z⟩,.agg ⟨bK B x' y' z'⟩] h (Bn h (HV A B)):=by
 obtain⟨ma,H⟩:=fo w ra;obtain⟨mb,M⟩:=fo H.wf (rb.ok H);have n3:h.next<=((h.push (Bm A x y z)).push (Bm B x' y' z')).next:=(H.trans M).nx;have o3:=(Ok.refl M.wf).push mQ;have kb:=aJ ((h.push (Bm A x y z)).push (Bm B x' y' z')) mQ;have ok:=(H.trans M).trans o3;have G:=(ma.ok M).ok o3;have F:=mb.ok o3;refine OT _ _ h _ ⟨_,iH A x y z,_,iH B x' y' z',_,qC,_,G.all,_,F.all,(Nt ok.wf (tb.ok ok) sa sb G.row F.row).mono ?_⟩;generalize y9:(h.push (Bm A x y z)).next=k2 at*;generalize ((h.push (Bm A x y z)).push (Bm B x' y' z')).next=kr at*;generalize (((h.push (Bm A x y z)).push (Bm B x' y' z')).push mQ)=g3 at*;rintro _ K ⟨rfl,c⟩;have S:=ok.trans c;have E:=G.ok c;have V:=F.ok c;have N:=c.ext _ _ kb;unfold HV;refine⟨_,rfl,aa (λq=>?_) (λq=>⟨_,dD _,_,E.l0,(mw A.kind c.wf).mono ?_⟩)⟩
 ·have q:Ai A B≠0:=by simpa using q
  rw[if_neg q];exact ij w S N n3 _
 have q:Ai A B=0:=by simpa using q
 rw[if_pos q];obtain⟨vA,vB,y8⟩:=Nu q;have Z:=pH sa vA;have cB:=pH sb vB;rintro _ g5 ⟨k,rfl,b5⟩;refine⟨_,rfl,(il c.wf b5 (by simp) []).mono ?_⟩;rintro _ g6 ⟨rfl,J,z3⟩;have x4:=E.ok J.ok;have y7:=V.ok J.ok;have o7:=(Ok.refl J.ok.wf).push (.cells (bK A x y z++bK B x' y' z') 29 4 true);have b7:=J.qQ o7;have x5:=aJ g6 (.cells (bK A x y z++bK B x' y' z') 29 4 true);refine⟨_,rfl,_,x4.all,_,y7.all,_,_,_,adL A B x x' y z y' z',?_⟩;generalize g6.push (.cells (bK A x y z++bK B x' y' z') 29 4 true)=g7 at*;generalize g6.next=W at*;have hU:∀i,∃U:List dP,(i=0->U=[⟨[],[]⟩])/\(i=1->U=qt A [⟨[],[]⟩])/\(i=2->U=qt B (qt A [⟨[],[]⟩])):=λi=>by
  by_cases h0:i=0
  ·exact⟨_,λ_=>rfl,λe=>by omega,λe=>by omega⟩
  by_cases h1:i=1
  ·exact⟨_,λe=>by omega,λ_=>rfl,λe=>by omega⟩
  ·exact⟨_,λe=>by omega,λe=>by omega,λ_=>rfl⟩
 obtain⟨O,z4,x6⟩:=KE A [⟨[],[]⟩] (by simp);obtain⟨x7,z0,z5⟩:=KE B _ x6;have y5:cg ([⟨[],[]⟩]:List dP)=0:=rfl;have:=Z.n;have:=cB.n;have:=Z.s;have:=cB.s;refine wY (bK A x y z) (bK B x' y' z') kr k 0 W 2 2 (λv i g=>i<=2/\v=2-i/\(∃a r,BS K g k A.kind 0 (dN A.kind) (a::r)/\(i=0->a::r=[⟨[],[]⟩])/\(i=1->a::r=qt A [⟨[],[]⟩])/\(i=2->a::r=qt B (qt A [⟨[],[]⟩])))/\Kp g7 g) _ (λv i=>?_) 2 (i:=0) ⟨by omega,rfl,⟨⟨[],[]⟩,[],b7,λ_=>rfl,λe=>by omega,λe=>by omega⟩,Kp.refl _⟩;intros;rename_i g x3;obtain⟨f1,f2,⟨a,r,b,u0,u1,u2⟩,kp⟩:=x3;refine aa (λp=>?_) (λp=>?_)
 ·have hi:i=0\/i=1:=by have:=dT p;omega
  have kl:=kp.2 _ _ _ _ _ x5 (by decide) (by decide) (by decide);have step:∀(X:bw)(f:Option Addr)(l j:Nat),dx K (.slice f l j) X.af->Wy X->(a::r).length<=1000->cg (a::r)<=10000->(∀o u,o::u=qt X (a::r)->(i+1=0->o::u=[⟨[],[]⟩])/\(i+1=1->o::u=qt A [⟨[],[]⟩])/\(i+1=2->o::u=qt B (qt A [⟨[],[]⟩])))->
    xN (br SS.P 29) g λz7 P=>xU (ah SS.P 29 (pA (g.next)) (.agg ⟨bK X f l j⟩) P) P λz2 D=>xP (aG SS.P 29 (pA (g.next)) 2) λR=>xS (aj SS.P 9 (room D 8) (.pointer (some R))) λm=>xA (aj SS.P 29 (room D 8) (pA (g.next))) λx8=>FW SS 59 [(pA k),(.agg ⟨x8⟩),(.func (.func 60) ⟨[]⟩ ⟨[]⟩)] (room D 8) λy3 T=>yI .i64 y3 λy0=>FW SS 58 [(pA k),(iA 0),(strOf m),(.int .i64 y0)] T λy1 y6=>y1=(.tuple ⟨[]⟩)/\(aj SS.P 9 T (.pointer (some R))=some (strOf m)/\dG 4 (strOf m) (strOf m)=true)/\aI (fj (lP kr k 0 W 2 2) (λv i g=>i<=2/\v=2-i/\(∃a r,BS K g k A.kind 0 (dN A.kind) (a::r)/\(i=0->a::r=[⟨[],[]⟩])/\(i=1->a::r=qt A [⟨[],[]⟩])/\(i=2->a::r=qt B (qt A [⟨[],[]⟩])))/\Kp g7 g)) v [(pA kr),(pA k),(iA 0),(sA W 2 2),(iA 2),(.int .i64 (wrap .i64 ((i:Int)+1)))] y6:=by
   intro X f l j rX L hl hs I;obtain⟨o8,k8⟩:=ph (t:=29) (cs:=bK X f l j) b.ok.wf ((Ok.refl b.ok.wf).push mQ) (aJ g mQ) (Nat.le_refl _);have b8:=b.qQ o8;have z1:=k8;refine⟨_,qC,_,kS (t:=29) tX (cs0:=[.int .i64 0,.int .i64 0,strOf [],.slice none 0 0]) rfl (aJ g mQ) (cs:=bK X f l j) rfl (uA ..),?_⟩;generalize (dM.set g.next (.cells (bK X f l j) 29 0 true)).app (g.push mQ)=g8 at*;have or:=(Ok.refl b8.ok.wf).room 8;have b9:=b8.qQ or;have Y:MB (Go.Ab.room g8 8) g.next X f l j:=⟨k8,rX.ok b9.ok⟩
   have:=L.n;have:=L.s;refine⟨_,mC _,_,Y.l2,_,Y.all,(qD c.wf b9 rX (mi.kF k _) (by omega) (by omega) L.start L.to).mono ?_⟩;rintro _ y2 ⟨rfl,Q,C⟩;have x1:MB y2 g.next X f l j:=⟨C.2 _ _ _ _ _ Y.box (by decide) (by decide) (by decide),rX.ok Q.ok⟩
   have z6:=lQ (a::r).length none X.af;refine⟨_,rfl,(Bz c.wf Q (s:=0) (t:=a) rfl (by rw[eA];omega) X.lead (((a::r).length:Int)+X.start)).mono ?_⟩;rintro _ x9 ⟨rfl,x2,x0⟩;rw[aN (i:=i) (n:=2) (by omega) (by omega)];have y4:BS K x9 k A.kind 0 (dN A.kind) (⟨a.f,a.arcs++[⟨0,0,X.lead,((r.length+1:Nat):Int)+X.start⟩]⟩::(r++X.af.map (my (r.length+1) none))):=x2;refine⟨rfl,⟨x1.l2,kJ _⟩,bZ (2-(i+1)) (by omega) ⟨by omega,rfl,⟨⟨a.f,a.arcs++[⟨0,0,X.lead,((r.length+1:Nat):Int)+X.start⟩]⟩,r++X.af.map (my (r.length+1) none),y4,I _ _ rfl⟩,(((kp.trans (Mc o8)).trans (Mc or)).trans C).trans x0⟩⟩
  rcases hi with rfl|rfl
  ·have d:=u0 rfl;have ld:=o0 M4 Lj tX kl (i:=0) (by simp[bK]);refine⟨_,aaD _,_,ld,step A x y z E.row Z (by rw[d];simp) (by rw[d];simp[y5]) λo u e=>⟨λe=>by omega,λ_=>by rw[e,d],λe=>by omega⟩⟩
  ·have d:=u1 rfl;have ld:=o0 M4 Lj tX kl (i:=4) (by simp[bK]);refine⟨_,aaE _,_,ld,step B x' y' z' V.row cB (by rw[d,O];simp;omega) (by rw[d];omega) λo u e=>⟨λe=>by omega,λe=>by omega,λ_=>by rw[e,d]⟩⟩
 ·obtain rfl:i=2:=by have:=dF p;omega
  have d:=u2 rfl;rw[d]at b;exact oX w c.wf b (by rw[x7,O];simp;omega) (by omega) S N n3
end
end
variable{s:List UInt8}
section
def BA(A B:bw)(c:List UInt8):bw:=⟨A.kind,(B.af.length:Int)+A.start,c,B.af.map (my 0 none)++A.af.map (my B.af.length (some (((0:Nat):Int)+B.start)))⟩
def BC(A B:bw)(c:List UInt8):bw×Int:=if Ai A B=0 then(BA A B c,0)else(sN,Ai A B)
def tU(A:bw):bw:=⟨A.kind,0,dN A.kind,⟨dN A.kind,[⟨0,0,A.lead,((1:Nat):Int)+A.start⟩]⟩::A.af.map (my 1 (some ((0:Nat):Int)))⟩
def Gb(A:bw):bw×Int:=if ca A=true then(tU A,0)else(sN,1)
def iW(A:bw)(c:List UInt8):bw:=⟨A.kind,((0:Nat):Int)+A.start,c,A.af.map (my 0 none)⟩
def sg(A:bw)(a c:List UInt8):bw×Int:=if(ca A&&ba A.kind a)=true then(iW A c,0)else(sN,1)
section
variable {h:ae} {A B:bw} {x x':Option Addr} {y z y' z':Nat} {c:List UInt8}
theorem Lo(w:Wf h)(R:nO h)(N:Small A)(V:Small B)(ra:dx h (.slice x y z) A.af)(rb:dx h (.slice x' y' z') B.af)(F:Ai A B=0->cD A.kind A.lead B.lead=some c):FW SS 31 [.agg ⟨bK A x y z⟩,.agg ⟨bK B x' y' z'⟩] h (Bn h (BC A B c)):=by
 obtain⟨ma,l⟩:=fo w ra;obtain⟨mb,r⟩:=fo l.wf (rb.ok l);have J:h.next<=((h.push (Bm A x y z)).push (Bm B x' y' z')).next:=(l.trans r).nx;have D:=(Ok.refl r.wf).push mQ;have kb:=aJ ((h.push (Bm A x y z)).push (Bm B x' y' z')) mQ;have E:=(l.trans r).trans D;have i:=(ma.ok r).ok D;have f:=mb.ok D;refine Ln _ _ h _ ⟨_,iH A x y z,_,iH B x' y' z',_,qC,_,i.all,_,f.all,(Nt E.wf (R.ok E) N V i.row f.row).mono ?_⟩;generalize x2:(h.push (Bm A x y z)).next=k2 at*;generalize ((h.push (Bm A x y z)).push (Bm B x' y' z')).next=kr at*;generalize (((h.push (Bm A x y z)).push (Bm B x' y' z')).push mQ)=g3 at*;rintro _ g4 ⟨rfl,a⟩;have g:=E.trans a;have b:=i.ok a;have j:=f.ok a;have s:=a.ext _ _ kb;unfold BC;refine⟨_,rfl,aa (λq=>?_) (λq=>⟨_,dD _,_,b.l0,(mw A.kind a.wf).mono ?_⟩)⟩
 ·have q:Ai A B≠0:=by simpa using q
  rw[if_neg q];exact ij w g s J _
 have q:Ai A B=0:=by simpa using q
 rw[if_pos q];have F:=F q;obtain⟨O,W,p⟩:=Nu q;have m:=pH N O;have n:=pH V W;have Q:=tz O;have L:=tz W;have Z:aM A.kind B.lead=true:=by rw[p];exact L.lead
 rintro _ g5 ⟨k,rfl,o⟩;have T:=b.ok o.ok;have K:=j.ok o.ok;refine⟨_,rfl,_,mC _,_,T.l2,_,mC _,_,K.l2,(Fg a.wf (R.ok g) o Q.lead Z F).mono ?_⟩;rintro _ g6 ⟨rfl,o6⟩;have b6:=o.qQ o6;obtain⟨u7,P,S,x3⟩:=b6.HN a.wf c;have X:=j.ok S.ok;have:=m.n;have:=n.n;have:=m.s;have:=n.s;refine⟨_,rfl,lD ⟨_,kg k,_,mC k,u7,P,_,X.all,(qD a.wf S j.row (mi.kF k _) (by simp;omega) (by simp[cg];unfold cg at*;omega) n.start n.to).mono ?_⟩⟩;rintro _ g8 ⟨rfl,M,x4⟩;have or:=(Ok.refl M.ok.wf).room 11;have C:=M.qQ or;have H:=b.ok C.ok;have x5:=lQ 0 none B.af;have d:(([]:List dP)++B.af.map (my ([]:List dP).length none)).length=B.af.length:=by simp
 refine⟨_,rfl,_,H.all,(Co (k:=k) C.ok.wf _).mono ?_⟩;rintro _ x7 ⟨fc,rfl,lv,G⟩;have t:=C.qQ G;have v:=b.ok t.ok;refine⟨_,_,_,rfl,(qD a.wf t b.row lv (by rw[d];omega) (by show cg (B.af.map (my 0 none))+_+_<=_;omega) m.start m.to).mono ?_⟩;rintro _ x6 ⟨rfl,I,x0⟩;have x8:=lQ B.af.length (some (((0:Nat):Int)+B.start)) A.af;obtain⟨Y,u,U,x1⟩:=I.Kn a.wf ((([]++B.af.map (my ([]:List dP).length none)).length:Int)+A.start);refine⟨_,rfl,lD ⟨_,kg k,_,tn k,Y,u,⟨v.all,DM b.row⟩,?_⟩⟩;have e:BA A B c=⟨A.kind,(([]++B.af.map (my ([]:List dP).length none)).length:Int)+A.start,c,[]++B.af.map (my ([]:List dP).length none)++A.af.map (my ([]++B.af.map (my ([]:List dP).length none)).length (some ((([]:List dP).length:Int)+B.start)))⟩:=by
  unfold BA;rw[d];rfl
 rw[e];refine oX w a.wf U ?_ ?_ g s J
 ·rw[length_append,d,lM];omega
 ·rw[d,eA];show cg (B.af.map (my 0 none))+cg (A.af.map (my B.af.length (some (((0:Nat):Int)+B.start))))<=_;omega
theorem IL(w:Wf h)(N:nO h)(C:Small A)(M:dx h (.slice x y z) A.af):FW SS 33 [.agg ⟨bK A x y z⟩] h (Bn h (Gb A)):=by
 obtain⟨Q,j⟩:=fo w M;have p:h.next<=(h.push (Bm A x y z)).next:=j.nx;have H:=(Ok.refl j.wf).push mQ;have K:=aJ (h.push (Bm A x y z)) mQ;have m:=j.trans H;have c:=Q.ok H;refine Sl _ h _ ⟨_,iH A x y z,_,qC,_,c.all,(qG (N.ok m) m.wf C c.row).mono ?_⟩;generalize (h.push (Bm A x y z)).next=W at*;generalize (h.push (Bm A x y z)).push mQ=g3 at*;rintro _ u ⟨rfl,b⟩;have i:=m.trans b;have a:=c.ok b;have f:=b.ext _ _ K;unfold Gb;refine⟨_,rfl,aa (λq=>?_) (λq=>⟨_,dD _,_,a.l0,(mw A.kind b.wf).mono ?_⟩)⟩
 ·rw[not_eq_true']at q;rw[q,if_neg (by simp)];exact ij w i f p _
 rw[not_eq_false']at q;rw[if_pos q];have d:=pH C q;have:=d.n;have:=d.s;rintro _ Z ⟨k,rfl,E⟩;refine⟨_,rfl,lD ⟨_,zy k,_,E.one,(il b.wf E (by simp) _).mono ?_⟩⟩;rintro _ X ⟨rfl,r,S⟩;have R:=(Ok.refl r.ok.wf).room 11;have l:=r.qQ R;have g:=a.ok l.ok;refine⟨_,rfl,_,mC _,_,g.l2,_,g.all,(Co (k:=k) l.ok.wf _).mono ?_⟩;rintro _ V ⟨Y,rfl,L,J⟩;have B:=l.qQ J;have e:=a.ok B.ok;have O:cg ([]++[(⟨dN A.kind,[]⟩:dP)])=0:=rfl;refine⟨_,_,_,rfl,(qD b.wf B a.row L (by simp;omega) (by rw[O];omega) d.start d.to).mono ?_⟩;rintro _ P ⟨rfl,D,T⟩;have n:=a.ok D.ok;have U:=lQ 1 (some ((0:Nat):Int)) A.af;have v:BS u P k A.kind 0 (dN A.kind) (⟨dN A.kind,[]⟩::A.af.map (my 1 (some ((0:Nat):Int)))):=D;refine⟨_,rfl,(Bz b.wf v (s:=0) (t:=⟨dN A.kind,[]⟩) rfl (by rw[dm];show 0+_<=_;omega) A.lead (((1:Nat):Int)+A.start)).mono ?_⟩;rintro _ G ⟨rfl,F,I⟩;have o:BS u G k A.kind 0 (dN A.kind) (⟨dN A.kind,[⟨0,0,A.lead,((1:Nat):Int)+A.start⟩]⟩::A.af.map (my 1 (some ((0:Nat):Int)))):=F;refine⟨rfl,⟨e.l2,kJ _⟩,⟨n.l2,kJ _⟩,⟨e.all,DM a.row⟩,oX w b.wf o (by rw[length_cons,lM];omega) (by rw[dm];show 1+_<=_;omega) i f p⟩
theorem Ff(w:Wf h)(u:nO h)(G:Small A)(P:s.length<=1000000000)(Q:dx h (.slice x y z) A.af)(C:ca A=true->ba A.kind s=true->cD A.kind s A.lead=some c):FW SS 37 [.agg ⟨bK A x y z⟩,strOf s] h (Bn h (sg A s c)):=by
 obtain⟨T,p⟩:=fo w Q;have r:h.next<=(h.push (Bm A x y z)).next:=p.nx;have K:=(Ok.refl p.wf).push mQ;have O:=aJ (h.push (Bm A x y z)) mQ;have B:=p.trans K;have i:=T.ok K;refine ON _ s h _ ⟨_,iH A x y z,_,qC,_,i.all,(qG (u.ok B) B.wf G i.row).mono ?_⟩;generalize (h.push (Bm A x y z)).next=kr at*;generalize (h.push (Bm A x y z)).push mQ=g3 at*;rintro _ Y ⟨rfl,l⟩;have g:=B.trans l;have n:=i.ok l;have o:=l.ext _ _ O;unfold sg;refine⟨_,rfl,aa (λq=>?_) (λq=>⟨_,dD _,_,n.l0,(l9 A.kind s P (u.ok g) l.wf).mono ?_⟩)⟩
 ·rw[not_eq_true']at q;rw[q,if_neg (by simp)];exact ij w g o r _
 rw[not_eq_false']at q;rintro _ g5 ⟨rfl,a⟩;have f:=g.trans a;have d:=n.ok a;have m:=a.ext _ _ o;refine⟨_,rfl,aa (λb=>?_) (λb=>⟨_,dD _,_,d.l0,(mw A.kind a.wf).mono ?_⟩)⟩
 ·rw[not_eq_true']at b;rw[b,if_neg (by simp)];exact ij w f m r _
 rw[not_eq_false']at b;rw[q,b,if_pos (show(true&&true)=true from rfl)];have C:=C q b;have j:=pH G q;have I:=tz q;have:=j.n;have:=j.s;rintro _ g6 ⟨k,rfl,t⟩;have E:=d.ok t.ok;refine⟨_,rfl,_,mC _,_,E.l2,(Fg a.wf (u.ok f) t (lg b) I.lead C).mono ?_⟩;rintro _ Z ⟨rfl,U⟩;have S:=t.qQ U;obtain⟨N,L,F,V⟩:=S.HN a.wf c;have D:=d.ok F.ok;refine⟨_,rfl,lD ⟨_,kg k,_,mC k,N,L,_,D.all,(qD a.wf F d.row (mi.kF k _) (by simp;omega) (by simp[cg];unfold cg at*;omega) j.start j.to).mono ?_⟩⟩;rintro _ g9 ⟨rfl,R,W⟩;have X:=lQ 0 none A.af;obtain⟨H,v,J,M⟩:=R.Kn a.wf ((([]:List dP).length:Int)+A.start);refine⟨_,rfl,lD ⟨_,kg k,_,tn k,H,v,?_⟩⟩;have e:iW A c=⟨A.kind,(([]:List dP).length:Int)+A.start,c,[]++A.af.map (my ([]:List dP).length none)⟩:=rfl;rw[e];refine oX w a.wf J ?_ ?_ f m r
 ·rw[length_append,lM];simp;omega
 ·show cg (A.af.map (my 0 none))<=_;omega
end
end
section
def l8(A:bw)(n:Int)(m i:Nat):List dP:=(List.range (m+1)).map λ(j:Nat)=>⟨if(j:Int)>=n then dN A.kind else[],if j<i then[⟨0,0,A.lead,((m+1+j*A.af.length:Nat):Int)+A.start⟩]else[]⟩
def pn(A:bw)(m i:Nat):List dP:=(List.range i).flatMap λ(j:Nat)=>A.af.map (my (m+1+j*A.af.length) (some ((j+1:Nat):Int)))
def acT(A:bw)(n:Int)(m:Nat):bw:=⟨A.kind,0,dN A.kind,l8 A n m m++pn A m m⟩
def Yt(A:bw)(n a:Int):bw×Int:=if ca A=true/\0<=n/\n<=a/\a<=30 then(acT A n a.toNat,0)else(sN,1)
section
variable {A:bw} {n:Int} {m i:Nat}
theorem qK:(l8 A n m i).length=m+1:=by unfold l8;simp
theorem wF:pn A m (i+1)=pn A m i++A.af.map (my (m+1+i*A.af.length) (some ((i+1:Nat):Int))):=by
 unfold pn;rw[range_succ,List.flatMap_append];simp
theorem FY:∀i,(pn A m i).length=i*A.af.length
 |0=>by simp[pn]
 |i+1=>by rw[wF,length_append,FY i,lM,Nat.add_mul,Nat.one_mul]
theorem FZ:∀i,cg (pn A m i)<=i*(cg A.af+A.af.length)
 |0=>by simp[pn,cg]
 |i+1=>by
  have:=lQ (m+1+i*A.af.length) (some ((i+1:Nat):Int)) A.af;have a:=FZ i;rw[wF,eA,Nat.add_mul,Nat.one_mul];omega
theorem DH:∀{l:List dP},(∀s∈l,s.arcs.length<=1)->cg l<=l.length
 |[],_=>Nat.le_refl _
 |s::l,h=>by
  have b:=h s (List.mem_cons_self ..);have:=DH (l:=l) λt a=>h t (List.mem_cons_of_mem _ a);rw[dm,length_cons];omega
theorem QR:cg (l8 A n m i)<=m+1:=by
 have:=DH (l:=l8 A n m i) λs a=>by
  unfold l8 at a;obtain⟨j,_,rfl⟩:=mem_map.1 a;show(if j<i then _ else _:List gZ).length<=1;split<;>simp
 rw[qK]at this;exact this
theorem UP(a:i<m+1):(l8 A n m i)[i]?=some ⟨if(i:Int)>=n then dN A.kind else[],[]⟩:=by
 unfold l8;rw[getElem?_map,List.getElem?_range a,Option.map_some,if_neg (Nat.lt_irrefl i)]
theorem QQ(b:i<m+1):(l8 A n m i).set i ⟨if(i:Int)>=n then dN A.kind else[],[⟨0,0,A.lead,((m+1+i*A.af.length:Nat):Int)+A.start⟩]⟩=l8 A n m (i+1):=by
 have a:∀i j,(l8 A n m i)[j]?=if j<m+1 then some ⟨if(j:Int)>=n then dN A.kind else[],if j<i then[⟨0,0,A.lead,((m+1+j*A.af.length:Nat):Int)+A.start⟩]else[]⟩else none:=λi j=>by
  unfold l8;rw[getElem?_map];split
  ·next h=>rw[List.getElem?_range h];rfl
  ·next h=>rw[List.getElem?_eq_none (by simp;omega)];rfl
 refine List.ext_getElem? λj=>?_;rw[List.getElem?_set,a,a,qK];by_cases e:i=j
 ·subst e;rw[if_pos rfl,if_pos b,if_pos b,if_pos (lt_succ_self i)]
 ·rw[if_neg e];by_cases q:j<i
  ·rw[if_pos q,if_pos (show j<i+1 by omega)]
  ·rw[if_neg q,if_neg (show ¬j<i+1 by omega)]
theorem Lq{x:Option Addr}{z:Nat}{d:Int}(w:Wf h)(tb:nO h)(W:Small A)(h8:A.af.length<=8)(x9:cg A.af<=40)(ra:dx h (.slice x l z) A.af):FW SS 35 [.agg ⟨bK A x l z⟩,.int .i64 n,.int .i64 d] h (Bn h (Yt A n d)):=by
 obtain⟨ma,L⟩:=fo w ra;have B:h.next<=(h.push (Bm A x l z)).next:=L.nx;have Y:=(Ok.refl L.wf).push mQ;have kb:=aJ (h.push (Bm A x l z)) mQ;have P:=L.trans Y;have E:=ma.ok Y;refine Lp _ n d h _ ⟨_,iH A x l z,_,qC,_,E.all,(qG (tb.ok P) P.wf W E.row).mono ?_⟩;generalize (h.push (Bm A x l z)).next=V at*;generalize (h.push (Bm A x l z)).push mQ=g3 at*;rintro _ S ⟨rfl,r⟩;have t:=P.trans r;have a:=E.ok r;have s:=r.ext _ _ kb;unfold Yt;refine⟨_,rfl,aa (λq=>?_) (λq=>aa (λG=>?_) (λG=>aa (λF=>?_) (λF=>aa (λH=>?_) (λH=>?_))))⟩
 ·rw[not_eq_true']at q;rw[if_neg (λc=>by rw[c.1]at q;cases q)];exact ij w t s B _
 ·rw[if_neg (λc=>by have:=dT G;omega)];exact ij w t s B _
 ·rw[if_neg (λc=>by have:=dT F;omega)];exact ij w t s B _
 ·rw[if_neg (λc=>by have:=dT H;omega)];exact ij w t s B _
 rw[not_eq_false']at q;have G:=dF G;have F:=dF F;have H:=dF H;rw[if_pos ⟨q,by omega,by omega,by omega⟩];have T:=pH W q;obtain⟨m,hm,x0⟩:∃m:Nat,d=m/\m<=30:=⟨d.toNat,by omega,by omega⟩
 subst hm;have em:((m:Int)).toNat=m:=by omega
 rw[em];refine⟨_,dD _,_,a.l0,(mw A.kind r.wf).mono ?_⟩;rintro _ g5 ⟨k,rfl,b5⟩;rw[KN m (by omega)];refine⟨_,rfl,?_⟩;refine vZ (bK A x l z) n m h.next V k ((m+1:Nat):Int) (λy i g=>i<=m+1/\y=m+1-i/\BS S g k A.kind 0 (dN A.kind) ((List.range i).map λ(j:Nat)=>⟨if(j:Int)>=n then dN A.kind else[],[]⟩)) _ (λy i=>?_) (m+1) (i:=0) ⟨by omega,rfl,b5⟩;intros;rename_i g v;obtain⟨f1,f2,b⟩:=v;refine aa (λp=>?_) (λp=>?_)
 ·have u:i<m+1:=by have:=dT p;omega
  have X:∀f:List UInt8,f=(if(i:Int)>=n then dN A.kind else[])->((List.range i).map λ(j:Nat)=>(⟨if(j:Int)>=n then dN A.kind else[],[]⟩:dP))++[⟨f,[]⟩]=(List.range (i+1)).map λ(j:Nat)=>(⟨if(j:Int)>=n then dN A.kind else[],[]⟩:dP):=λf hf=>by
   rw[range_succ,map_append,hf];rfl
  have J:((List.range i).map λ(j:Nat)=>(⟨if(j:Int)>=n then dN A.kind else[],[]⟩:dP)).length<=100000:=by simp;omega
  rw[aN u (by omega)];refine aa (λM=>⟨_,zy k,_,b.one,(il r.wf b J _).mono ?_⟩) (λM=>(il r.wf b J _).mono ?_)
  ·rintro _ g6 ⟨rfl,C,_⟩;rw[X _ (by rw[if_pos (dT M)])]at C;exact⟨_,rfl,bZ (m+1-(i+1)) (by omega) ⟨by omega,rfl,C⟩⟩
  ·rintro _ g6 ⟨rfl,C,_⟩;rw[X _ (by rw[if_neg (dF M)])]at C;exact⟨_,rfl,bZ (m+1-(i+1)) (by omega) ⟨by omega,rfl,C⟩⟩
 have u:i=m+1:=by have:=dF p;omega
 subst u;have e0:((List.range (m+1)).map λ(j:Nat)=>(⟨if(j:Int)>=n then dN A.kind else[],[]⟩:dP))=l8 A n m 0++pn A m 0:=by
  have:pn A m 0=[]:=rfl;rw[this,List.append_nil];unfold l8;refine map_congr_left λj _=>?_;rw[if_neg (Nat.not_lt_zero j)]
 rw[e0]at b;have x8:=a.ok b.ok;refine wa (bK A x l z) n m h.next V k (λy i g=>i<=m/\y=m-i/\BS S g k A.kind 0 (dN A.kind) (l8 A n m i++pn A m i)) _ (λy i=>?_) m (i:=0) ⟨by omega,rfl,b⟩;intros;rename_i g1 v;obtain⟨d1,d2,O⟩:=v;have o:(l8 A n m i++pn A m i).length=m+1+i*A.af.length:=by rw[length_append,qK,FY]
 have x3:=FZ (A:=A) (m:=m) i;have x2:=QR (A:=A) (n:=n) (m:=m) (i:=i);have x4:i*A.af.length<=30*8:=Nat.mul_le_mul (by omega) h8;have x1:i*(cg A.af+A.af.length)<=30*48:=Nat.mul_le_mul (by omega) (by omega);refine aa (λp=>?_) (λp=>?_)
 ·have u:i<m:=by have:=dT p;omega
  have or:=(Ok.refl O.ok.wf).room 12;have Q:=O.qQ or;have D:=a.ok Q.ok;rw[aN u (by omega)];refine⟨_,mC _,_,D.l2,_,D.all,(Co (k:=k) Q.ok.wf _).mono ?_⟩;rintro _ g8 ⟨fc,rfl,lv,o8⟩;have U:=Q.qQ o8;have I:=a.ok U.ok;refine⟨_,_,_,rfl,(qD r.wf U a.row lv (by rw[o];omega) (by rw[eA];omega) T.start T.to).mono ?_⟩;rintro _ g9 ⟨rfl,N,x5⟩;have R:=a.ok N.ok;rw[o]at N;have hs:(l8 A n m i++pn A m i++A.af.map (my (m+1+i*A.af.length) (some ((i+1:Nat):Int))))[i]?=some (⟨if(i:Int)>=n then dN A.kind else[],[]⟩:dP):=by
   rw[append_assoc,List.getElem?_append_left (by rw[qK];omega)];exact UP (by omega)
  have x6:=lQ (m+1+i*A.af.length) (some ((i+1:Nat):Int)) A.af;rw[o];refine⟨_,rfl,(Bz r.wf N hs (by rw[eA,eA];omega) A.lead _).mono ?_⟩;rintro _ x7 ⟨rfl,K,Z⟩;have e:(l8 A n m i++pn A m i++A.af.map (my (m+1+i*A.af.length) (some ((i+1:Nat):Int)))).set i (⟨if(i:Int)>=n then dN A.kind else[],[]++[⟨0,0,A.lead,((m+1+i*A.af.length:Nat):Int)+A.start⟩]⟩:dP)=l8 A n m (i+1)++pn A m (i+1):=by
   rw[append_assoc,List.set_append_left _ _ (by rw[qK];omega),wF,<-QQ (show i<m+1 by omega)];rfl
  rw[e]at K;exact⟨rfl,⟨I.l2,kJ _⟩,⟨R.l2,kJ _⟩,⟨I.all,DM a.row⟩,bZ (m-(i+1)) (by omega) ⟨by omega,rfl,K⟩⟩
 ·have u:i=m:=by have:=dF p;omega
  subst u;exact oX w r.wf O (by rw[o];omega) (by rw[eA];omega) t s B
end
end
variable{w:Value}{Q:VH}
noncomputable def abk:FD:=cG Tryz.f54 []
theorem YW(a:OA)(n c:Nat)(h:ae)(Q:VH)(b:xN (eK SS.P 22 (.slice a n c)) h λ_ a=>Q (.func (.func 82) ⟨[]⟩ ⟨[(pA (h.next))]⟩) a):FW SS 54 [(.slice a n c)] h Q:=cQ abk Tryz.func54 (ai b)
noncomputable def wH:FD:=cG Tryz.f82 [([1,0,0],[0,5,6,7])]
abbrev sr(b:Nat)(a:OA)(n c:Nat)(i:Nat):LV:=[(.func (.yield b) ⟨[]⟩ ⟨[]⟩),(.slice a n c),(iA n),(iA i)]
theorem YU(e d:Nat)(h:ae)(Q:VH)(f:xL (aj SS.P 22 h (pA d)) λa b c=>LL SS wH [1,0,0] [(.func (.yield e) ⟨[]⟩ ⟨[]⟩),(.slice a b c),(iA b),(.int .i64 0)] h (KK SS wH [1,0] [] (EE SS wH Q))):FW SS 82 [(.func (.yield e) ⟨[]⟩ ⟨[]⟩),(pA d)] h Q:=cQ wH Tryz.func82 (ai f)
theorem Bq(l p:Nat)(a:OA)(n c:Nat)(k:Nat->Nat->ae->Prop)(Q:VH)(step:∀(j:Nat) (i:Nat) (o:Nat->Value) (h:ae),k j i h->au (decide (((i:Int):Int)<(n:Int))) (iP 22 (.slice a n c) (iA i) λg=>lI h g λf=>FW SS (YB+l) [(.int .i64 f)] h λd e=>yB d λb=>au (!b) (Q (.tuple ⟨[]⟩) e) (aI (fj (sr l a n c) k) j [(.func (.yield l) ⟨[]⟩ ⟨[]⟩),(.slice a n c),(iA n),(.int .i64 (wrap .i64 ((i:Int)+1)))] e)) (Q (.tuple ⟨[]⟩) h))(j:Nat){i:Nat}{h:ae}(m:k j i h):LL SS wH [1,0,0] (sr l a n c i) h (KK SS wH [1,0] [] (EE SS wH Q)):=
 dg (sr l a n c) k (λj i o h m=>ai (step j i o h m)) j m
noncomputable def gi:FD:=cG Tryz.f99 []
theorem OI(a:OA)(n c:Nat)(d:Nat)(h:ae)(Q:VH)(e:xN (eK SS.P 22 (.slice a n c)) h λ_ b=>RG SS gi [1,0,1,0] [(.slice a n c),(.func (.func 82) ⟨[]⟩ ⟨[(pA d)]⟩),(pA (h.next)),undef,nA,undef,(.func (.func 82) ⟨[]⟩ ⟨[(pA d)]⟩),undef,undef,undef,undef,undef,undef] b (KK SS gi [1,0,1,0] [] (EE SS gi Q))):FW SS 99 [(.slice a n c),(.func (.func 82) ⟨[]⟩ ⟨[(pA d)]⟩)] h Q:=cQ gi Tryz.func99 (ai e)
theorem Ep{ks:Nat}{o m g i l j n e f d:Value}(k:xL (aj SS.P 22 h (pA ks)) λa b c=>Q (.slice a b c) h):(KK SS gi [1,0,1,0] [] (EE SS gi Q)) .normal [v,w,(pA ks),o,m,g,i,l,j,n,e,f,d] h:=ai k
theorem En{ks:Nat}{q:Int}{i f j d e g b c a:Value}{Q:eQ}(k:Q .normal [v,w,(pA ks),i,f,(.int .i64 q),d,(.int .i64 q),e,g,b,c,a] h):TT SS gi [1,0,1,0,0] [v,w,(pA ks),i,f,j,d,(.int .i64 q),e,g,b,c,a] h Q:=ai k
theorem Eo{ks:Nat}{q:Int}{t p n o u y r s m:Value}{Q:eQ}(x:xL (aj SS.P 22 h (pA ks)) λj k l=>xR (aF SS.P 22 1 [(0,(.int .i64 q))]) h λ_ f g i=>xE (bI SS.P 22 22 (.slice j k l) (sA (h.next) f g) i) i λb c d _ e=>xU (ah SS.P 22 (pA ks) (.slice b c d) e) e λ_ a=>Q .normal [v,w,(pA ks),t,p,(.int .i64 q),n,o,(.slice j k l),(.int .i64 q),(sA (h.next) f g),(.slice b c d),m] a):TT SS gi [1,0,1,0,1] [v,w,(pA ks),t,p,(.int .i64 q),n,o,u,y,r,s,m] h Q:=ai x
noncomputable def aat:FD:=cG Tryz.f80 []
theorem Xm(f:Nat)(h:ae)(Q:VH)(g:FW SS 99 [nA,(.func (.func 82) ⟨[]⟩ ⟨[(pA f)]⟩)] h λd e=>yL d λa b c=>Q (.slice a b c) e):FW SS 80 [(.func (.func 82) ⟨[]⟩ ⟨[(pA f)]⟩)] h Q:=cQ aat Tryz.func80 (ai g)
noncomputable def YK:FD:=cG Tryz.f53 []
theorem Vh(i:Nat)(h:ae)(Q:VH)(j:FW SS 80 [(.func (.func 82) ⟨[]⟩ ⟨[(pA i)]⟩)] h λf g=>yL f λc d e=>FW SS 81 [(.slice c d e)] g λa b=>a=(.tuple ⟨[]⟩)/\Q (.slice c d e) b):FW SS 53 [(.func (.func 82) ⟨[]⟩ ⟨[(pA i)]⟩)] h Q:=cQ YK Tryz.func53 (ai j)
noncomputable def fU:FD:=cG Tryz.f52 [([1,1,0,1,0,0],[0,3]),([1,1,0,1,0,0,1,0,0,1,0,1,0,1,0,0],[0,3,4,5])]
abbrev iN(a:OA)(n c:Nat)(k:Nat):LV:=[(.slice a n c),(iA k)]
abbrev kz(a:OA)(n c:Nat)(b:OA)(m d:Nat)(k j:Nat):LV:=[(.slice a n c),(iA k),(.slice b m d),(iA j)]
theorem IX(a:OA)(n c:Nat)(h:ae)(Q:VH)(b:au (decide (((n:Int):Int)<2)) (Q (.slice a n c) h) (LL SS fU [1,1,0,1,0,0] (iN a n c 1) h (KK SS fU [1,1,0,1,0] [] (EE SS fU Q)))):FW SS 52 [(.slice a n c)] h Q:=cQ fU Tryz.func52 (ai b)
theorem zu(a:OA)(n c:Nat)  (l:Nat->Nat->ae->Prop) (Q:VH) (step:∀(m:Nat)(k:Nat)(p:Nat->Value)(h:ae),l m k h->au (decide (((k:Int):Int)<(n:Int))) (iP 22 (.slice a n c) (iA k) λj=>lI (room h 10) j λi=>iP 22 (.slice a n c) (.int .i64 (wrap .i64 ((k:Int)-1))) λg=>lI (room h 10) g λf=>au (((i:Int)==f)) (xL (bG SS.P 22 (.slice a n c) (some (iA k)) none none (room h 10)) λb d e=>LL SS fU [1,1,0,1,0,0,1,0,0,1,0,1,0,1,0,0] (kz a n c b d e k 1) (room h 10) (KK SS fU [1,0,0,1,0,1,0,1,0] [1,1,0,1,0,0] (RR fU [1,1,0,1,0,0] (fj (iN a n c) l) m (KK SS fU [1,1,0,1,0] [] (EE SS fU Q))))) (aI (fj (iN a n c) l) m [(.slice a n c),(.int .i64 (wrap .i64 ((k:Int)+1)))] (room h 10))) (Q (.slice a n c) h)) (m:Nat) {k:Nat} {h:ae} (o:l m k h):LL SS fU [1,1,0,1,0,0] (iN a n c k) h (KK SS fU [1,1,0,1,0] [] (EE SS fU Q)):=
 dg (iN a n c) l (λm k p h o=>ai (step m k p h o)) m o
theorem zv(a:OA)(n c:Nat)(t:OA)(m d:Nat)(v:Nat->Nat->ae->Prop)(w:Nat)(s:Nat->Nat->Nat->ae->Prop)(Q:VH)(step:∀(r:Nat) (k j:Nat) (q:Nat->Value) (h:ae),s r k j h->au (decide (((j:Int):Int)<(m:Int))) (iP 22 (.slice t m d) (iA j) λp=>lI (room h 10) p λo=>iP 22 (.slice t m d) (.int .i64 (wrap .i64 ((j:Int)-1))) λl=>lI (room h 10) l λi=>au (((o:Int) !=i)) (iP 22 (.slice t m d) (iA j) λg=>lI (room h 10) g λf=>iP 22 (.slice a n c) (iA k) λe=>xU (ah SS.P 3 (.pointer (some e)) (.int .i64 f) (room h 10)) (room h 10) λ_ b=>aI (qP (kz a n c t m d) s) r [(.slice a n c),(.int .i64 (wrap .i64 ((k:Int)+1))),(.slice t m d),(.int .i64 (wrap .i64 ((j:Int)+1)))] b) (aI (qP (kz a n c t m d) s) r [(.slice a n c),(iA k),(.slice t m d),(.int .i64 (wrap .i64 ((j:Int)+1)))] (room h 10))) (xL (bG SS.P 22 (.slice a n c) (some (iA k)) none none h) λe f g=>xG (dV SS.P ji (ev SS.gl [(.slice a n c),(q 1),(q 2),(iA k),(.slice t m d),(iA j),(q 6),(q 7),(q 8),(q 9),(q 10),(q 11),(q 12),(q 13),(q 14),(q 15),(q 16),(q 17),(q 18),(q 19),(q 20),(q 21),(q 22),(q 23),(q 24),(q 25),(q 26),(q 27),(q 28),(iA j),(.slice t m d),(iA m),(.bool (decide (((j:Int):Int)<(m:Int)))),(q 33),(q 34),(q 35),(q 36),(q 37),(q 38),(q 39),(q 40),(q 41),(q 42),(q 43),(q 44),(q 45),(q 46),(q 47),(q 48),(q 49),(q 50),(q 51),(q 52),(q 53),(.slice a n c),(iA k),(.slice e f g),(q 57),(q 58),(q 59),(q 60)]) (J6 (fI [1,1,0,1,0,0,1,0,0,1,0,1,1,0] fU.body) 3) h) h λ_ _ d=>xL (bG SS.P 22 (.slice a n c) none (some (iA k)) none d) λa b c=>Q (.slice a b c) d))(r:Nat){k j:Nat}{h:ae}(u:s r k j h):LL SS fU [1,1,0,1,0,0,1,0,0,1,0,1,0,1,0,0] (kz a n c t m d k j) h (KK SS fU [1,0,0,1,0,1,0,1,0] [1,1,0,1,0,0] (RR fU [1,1,0,1,0,0] (fj (iN a n c) v) w (KK SS fU [1,1,0,1,0] [] (EE SS fU Q)))):=
 nu (kz a n c t m d) s (λr k j q h u=>ai (step r k j q h u)) r u
noncomputable def vY:FD:=cG Tryz.f21 [([1,1,1,1,0,1,0,0],[4,6,7,8,35,36,37])]
abbrev rp(a k f t:Nat)(b:OA)(m d:Nat)(i:Nat):LV:=[(pA a),(pA k),(iA f),(iA t),(.slice b m d),(iA m),(iA i)]
theorem WW(A:Int)(a:OA)(n c:Nat)(h:ae)(Q:VH)(G:xN (br SS.P 29) h λ_ B=>au (decide ((A:Int)<1)) (xA (bh SS.P 29 []) λb=>xU (ah SS.P 29 (pA (h.next)) (.agg ⟨b⟩) B) B λ_ a=>dY SS [((pA (h.next)),some 29),((.int .i64 1),none)] a Q) (au (decide ((A:Int)>3)) (xA (bh SS.P 29 []) λb=>xU (ah SS.P 29 (pA (h.next)) (.agg ⟨b⟩) B) B λ_ a=>dY SS [((pA (h.next)),some 29),((.int .i64 1),none)] a Q) (FW SS 49 [(.slice a n c),(.func (.func 50) ⟨[]⟩ ⟨[]⟩)] B λH C=>yB H λE=>au E (xA (bh SS.P 29 []) λb=>xU (ah SS.P 29 (pA (h.next)) (.agg ⟨b⟩) C) C λ_ a=>dY SS [((pA (h.next)),some 29),((.int .i64 1),none)] a Q) (FW SS 42 [(.int .i64 A)] C λF D=>yO F λz=>FW SS 43 [(.pointer z),(strOf [])] (room D 10) λx y=>yI .i64 x λw=>H6 SS.P z y λv _=>fP 65 v 1 λu=>lS y u λt=>FW SS 43 [(.pointer z),(strOf t)] y λr s=>yI .i64 r λq=>(aj SS.P 9 (room D 10) (.pointer (some u))=some (strOf t)/\dG 4 (strOf t) (strOf t)=true)/\FW SS 54 [(.slice a n c)] s λo p=>yF o λl m n=>FW SS 53 [(.func (.func l) ⟨m⟩ ⟨n⟩)] p λj k=>yL j λf g i=>FW SS 52 [(.slice f g i)] k λd e=>yL d λa b c=>LL SS vY [1,1,1,1,0,1,0,0] [(pA (h.next)),(.pointer z),(.int .i64 w),(.int .i64 q),(.slice a b c),(iA b),(.int .i64 0)] e (KK SS vY [1,1,1,1,0,1,0] [] (EE SS vY Q)))))):FW SS 21 [(.int .i64 A),(.slice a n c)] h Q:=cQ vY Tryz.func21 (ai G)
theorem Ba(u:Int)(a:OA)(n c:Nat)(q k f t:Nat)(b:OA)(m d:Nat)(p:Nat->Nat->ae->Prop)(Q:VH)(step:∀(o:Nat) (i:Nat) (s:Nat->Value) (h:ae),p o i h->au (decide (((i:Int):Int)<(m:Int))) (iP 22 (.slice b m d) (iA i) λn=>lI h n λl=>fP 65 (pA k) 1 λj=>lS h j λg=>xA (bh SS.P 70 [(0,(.int .i64 l)),(1,(.int .i64 l)),(2,(strOf g)),(3,(iA t))]) λe=>FW SS 44 [(pA k),(iA f),(.agg ⟨e⟩)] h λa c=>a=(.tuple ⟨[]⟩)/\aI (fj (rp q k f t b m d) p) o [(pA q),(pA k),(iA f),(iA t),(.slice b m d),(iA m),(.int .i64 (wrap .i64 ((i:Int)+1)))] c) (FW SS 46 [(pA k)] h λd e=>∃c:LV,∃b:Int,d=(.tuple ⟨[(.agg ⟨c⟩),(.int .i64 b)]⟩)/\xU (ah SS.P 29 (pA q) (.agg ⟨c⟩) e) e λ_ a=>dY SS [((pA q),some 29),((.int .i64 b),none)] a Q))(o:Nat){i:Nat}{h:ae}(r:p o i h):LL SS vY [1,1,1,1,0,1,0,0] (rp q k f t b m d i) h (KK SS vY [1,1,1,1,0,1,0] [] (EE SS vY Q)):=
 dg (rp q k f t b m d) p (λo i s h r=>ai (step o i s h r)) o r
section
def qk(z:Int):List Value:=[zV z]
theorem qF:∀l:List Int,(l.map qk).flatten=l.map zV
 |[]=>rfl
 |z::l=>by rw[List.map_cons,List.flatten_cons,qF l];rfl
theorem Tl{l:List Int}:∀r∈l.map qk,r.length=1:=λr a=>by
 obtain⟨z,_,rfl⟩:=mem_map.1 a;rfl
theorem aaO{g:ae}{l:List Int}(o:fh g h 3 1 v (l.map qk)):Rd h 3 v (wj l):=(by
 obtain⟨_,⟨a,d⟩|⟨k,b,cs,c,a,d,f,e,j,i⟩⟩:=o
 ·left;refine⟨a,?_⟩;have:l=[]:=by simpa using d
  rw[this];rfl
 ·rw[lM,Nat.mul_one,qF]at e;rw[lM]at a;exact .inr ⟨k,b,cs,c,true,by rw[ju];exact a,f,by rw[ju];exact e⟩)
theorem aeu:dW SS.P 22=true:=by kernel_rfl
theorem Zn(a:Option Addr)(n c:Nat):eK SS.P 22 (.slice a n c)=some (.cells [.slice a n c] 22 0 true,k6):=by cases a<;>kernel_rfl
theorem RX:Go.Ab.isAgg SS.P 22=false:=by kernel_rfl
theorem acR:SS.pr 81=some Dt:=by kernel_rfl
theorem Fl:∀l:List Int,Ly (l.map zV)=some l
 |[]=>rfl
 |z::l=>by
  show(Ly (l.map zV)).map (z::·)=_;rw[Fl l];rfl
theorem Q7:mg []=[]:=by unfold mg;simp
theorem Tm{hb g:ae}(w:Wf hb)(m:Ok hb g){x:Value}{l:List Int}(i:fh hb g 3 1 x (l.map qk)){q:Int}{e:Nat}(d:g.get e=some (.cells [.int .i64 q] 3 1 true))(p:l.length<=100000):
  ∃(b:Option Addr)(n c:Nat)(u:dM),bI SS.P 22 22 x (.slice (some ⟨e,0,none⟩) 1 1) g=some (.slice b n c,u)/\fh hb (u.app g) 3 1 (.slice b n c) ((l++[q]).map qk)/\Ok hb (u.app g)/\
   (∀j B,g.get j=some B->eZ x≠some j->(u.app g).get j=some B)/\(∀j,eZ (.slice b n c)=some j->g.next<=j\/eZ x=some j)/\g.next<=(u.app g).next:=by
 have a:(l.map qk).length=l.length:=lM ..;obtain⟨b,n,c,u,h,s,f,k⟩:=fh.add qp UH J1 aeu w m i (ns:=[qk q]) (BR (cs:=qk q) d rfl) (λr o=>by rw[List.mem_singleton.1 o];rfl) rfl (by rw[FQ,a,List.length_singleton];omega) (by rw[a,List.length_singleton];omega) (.inl (Nat.le_refl _));exact⟨b,n,c,u,h,by rw[map_append];exact f,k⟩
theorem Q6{g:ae}(u:Wf g)(n:Ok g h){v:Value}{l:List Int}(o:fh g h 3 1 v (l.map qk))(x:l.length<=100000):FW SS 81 [v] h (λr i=>r = .tuple ⟨[]⟩/\fh g i 3 1 v ((mg l).map qk)/\Ok g i):=by
 have d:(l.map qk).length=l.length:=lM ..;have j:(mg l).length=l.length:=List.length_mergeSort l;by_cases e:l.length=0
 ·obtain rfl:=List.eq_nil_of_length_eq_zero e;obtain⟨a,c,rfl⟩:=o.Wv;refine BF (h':=h) (v:= .tuple ⟨[]⟩) (by kernel_rfl) acR (λA=>?_) ⟨rfl,by rw[Q7];exact o,n⟩;rfl
 ·obtain⟨D,⟨_,z⟩|⟨k,b,cs,c,rfl,q,p,m,C,s⟩⟩:=o
  ·exact absurd (by rw[<-d,z];rfl) e
  rw[d]at m s;rw[Nat.mul_one,qF]at m;rw[Nat.mul_one]at C;have f:((mg l).map qk).length=l.length:=by rw[lM,j]
  have B:((mg l).map zV).length=l.length:=by rw[lM,j]
  refine BF (h':=h.set k (.cells (cs.take b++(mg l).map zV++cs.drop (b+l.length)) 3 1 true)) (v:= .tuple ⟨[]⟩) (by kernel_rfl) acR (λA=>?_) ⟨rfl,⟨Tl,.inr ⟨k,b,_,c,by rw[d,f],q,by rw[ae.aw,if_pos rfl],?_,?_,by rw[f];exact s⟩⟩,n.set _ q (n.wf _ _ p) u⟩
  ·rw[d];show(if l.length=0 then some (Value.tuple ⟨[]⟩,h)else match h.get k with
    |some (.cells cs t w true)=>if l.length<4611686018427387904/\b+l.length<=cs.length then(Ly ((cs.drop b).take l.length)).map λy=>(Value.tuple ⟨[]⟩,h.set k (.cells (cs.take b++(mg y).map zV++cs.drop (b+l.length)) t w true))else none
    |_=>none)=_
   rw[if_neg e,p];dsimp only;rw[if_pos (⟨Nat.lt_of_le_of_lt x (by decide),by omega⟩:l.length<4611686018427387904/\b+l.length<=cs.length),m,Fl];rfl
  ·rw[f,Nat.mul_one,qF,append_assoc,List.drop_append,List.drop_eq_nil_of_le (by rw[length_take];omega),List.nil_append,show b-(cs.take b).length=0 by rw[length_take];omega,drop_zero,List.take_append_of_le_length (by omega),take_of_length_le (by omega)]
  ·rw[length_append,length_append,length_take,length_drop,B];omega
theorem Ok.del{b:ae}(a:Ok b h){k:Nat}(f:b.next<=k)(d:Wf b):Ok b (h.del k):=by
 refine⟨ae.H0 a.wf k,λj B c=>?_,a.nx⟩;rw[ae.dR,if_neg (λe=>by have:=d _ _ c;omega)];exact a.ext _ _ c
abbrev Q0(kc:Nat):Value:= .func (.func 82) ⟨[]⟩ ⟨[pA kc]⟩
abbrev tmA(ks kc:Nat):List Value:=[nA,Q0 kc,pA ks,undef,nA,undef,Q0 kc,undef,undef,undef,undef,undef,undef]
theorem hcA:rP (fI [1,0,1,0,0] gi.body) (fI [1,0,1,0,1] gi.body)=true:=by kernel_rfl
noncomputable def Nj(a:LSt)(ks kc:Nat):dS:= .loop a (tmA ks kc) [7] (fI [1,0,1,0,0] gi.body) (fI [1,0,1,0,1] gi.body) hcA
structure YI(hb g:ae)(ks ky kc:Nat)(l:List Int):Prop where
 ok:Ok hb g
 box:∃a n c,g.get ks=some (.cells [.slice a n c] 22 0 true)/\fh hb g 3 1 (.slice a n c) (l.map qk)/\∀j,eZ (.slice a n c)=some j->j≠ks/\j≠ky
 lp:g.get ky=some (Nj .ready ks kc)
 gs:hb.next<=ks
 gy:hb.next<=ky
 ne:ks≠ky
section
variable {hb g:ae} {ks ky kc:Nat} {l:List Int}
theorem Wo(w:Wf hb)(V:YI hb g ks ky kc l)(q:Int)(U:l.length<=100000):FW SS (YB+ky) [.int .i64 q] g (λv S=>v = .bool true/\YI hb S ks ky kc (l++[q])):=by
 obtain⟨K,⟨a,n,c,L,T,z⟩,J,M,G,x⟩:=V;refine Wn (X:=gi) (p:=[1,0,1,0]) (hc:=hcA) J rfl rfl (by kernel_rfl) (by kernel_rfl) ?_;have x2:=K.wf _ _ L;have x4:=K.wf _ _ J;refine En (ks:=ks) (q:=q) ?_;refine⟨rfl,J,?_⟩;have m:∀j B,j≠ky->g.get j=some B->(g.set ky (Nj .busy ks kc)).get j=some B:=λj B b k=>by rw[ae.aw,if_neg b];exact k
 have D:Ok hb (g.set ky (Nj .busy ks kc)):=K.set _ G (by omega) w;have E:=m ks _ x L;have P:(g.set ky (Nj .busy ks kc)).get ky=some (Nj .busy ks kc):=by rw[ae.aw,if_pos rfl]
 have Q:=T.kF (h':=g.set ky (Nj .busy ks kc)) λj B b k=>m j B (z j b).2 k;have x1:(g.set ky (Nj .busy ks kc)).next=g.next:=rfl;show TT SS gi [1,0,1,0,1] _ (g.set ky (Nj .busy ks kc)) _;generalize g.set ky (Nj .busy ks kc)=f at*;have y:=(Ok.refl D.wf).push (.cells [.int .i64 q] 3 1 true);have k3:=aJ f (.cells [.int .i64 q] 3 1 true);obtain⟨d,u,s,O,W,N,o,C,R,x0⟩:=Tm w (D.trans y) (Q.ok y) k3 U;have F:=C ks _ (y.ext _ _ E) (λe=>(z ks e).1 rfl);have A:=C ky _ (y.ext _ _ P) (λe=>(z ky e).2 rfl);have x3:(f.push (.cells [.int .i64 q] 3 1 true)).next=f.next+1:=rfl;have Y:=iX (t:=22) (i:=0) aet F (by simp) (v:= .slice d u s) (by cases d<;>rfl) (by cases d<;>rfl);have Z:aj SS.P 22 f (pA ks)=some (.slice a n c):=cq qp RX E (by simp);refine Eo (ks:=ks) (q:=q) ⟨a,n,c,Z,_,_,_,O2 q,d,u,s,O,W,_,Y,?_⟩;generalize O.app (f.push (.cells [.int .i64 q] 3 1 true))=g4 at*;dsimp only[dM.app];refine⟨?_,true,.ready,rfl,rfl,?_⟩
 ·rw[ae.aw,if_neg (Ne.symm x)];exact A
 have r:∀j,eZ (.slice d u s)=some j->j≠ks/\j≠ky:=λj b=>by
  rcases R j b with h|h
  ·omega
  ·exact z j h
 have I:=o.wf _ _ F;have H:=o.wf _ _ A;refine⟨(o.set _ M I w).set _ G H w,⟨d,u,s,?_,N.kF λj B b k=>?_,r⟩,?_,M,G,x⟩
 ·rw[ae.aw,if_neg x,ae.aw,if_pos rfl];rfl
 ·rw[ae.aw,if_neg (r j b).2,ae.aw,if_neg (r j b).1];exact k
 ·show(ae.set _ ky (Nj .ready ks kc)).get ky=_;rw[ae.aw,if_pos rfl]
theorem YV{c:Nat}{L:List Int}(w:Wf hb)(b:YI hb g ks ky kc [])(t:hb.get kc=some (.cells [.slice a n c] 22 0 true))(r:dK hb (.slice a n c) L)(u:L.length<=100000):FW SS 82 [.func (.yield ky) ⟨[]⟩ ⟨[]⟩,pA kc] g (λ_ l=>YI hb l ks ky kc L):=by
 obtain rfl:=dK.len r;have k:aj SS.P 22 g (pA kc)=some (.slice a L.length c):=cq qp RX (b.ok.ext _ _ t) (by simp);refine YU ky kc g _ ⟨a,L.length,c,k,?_⟩;refine Bq ky kc a L.length c (λh i g=>i<=L.length/\h=L.length-i/\YI hb g ks ky kc (L.take i)) _ (λh i=>?_) L.length (i:=0) ⟨Nat.zero_le _,rfl,by simpa using b⟩;clear k b;intros;rename_i v f;obtain⟨y,rfl,b⟩:=f;refine aa (λq=>?_) (λq=>?_)
 ·have j:i<L.length:=by have:=dT q;omega
  obtain⟨p,s,m⟩:=dK.at_ (dK.ok r b.ok) j;refine⟨_,s,_,m,(Wo w b _ (by rw[length_take];omega)).mono ?_⟩;rintro _ x ⟨rfl,o⟩;refine⟨_,rfl,aa (λe=>by cases e) (λ_=>?_)⟩;rw[aN (n:=L.length) (by omega) (by omega)];refine bZ (L.length-(i+1)) (by omega) ⟨by omega,rfl,?_⟩;rw[jV (d:=0) j];exact o
 ·have q:=dF q;rw[take_of_length_le (by omega)]at b;exact b
theorem OJ{c:Nat}(w:Wf h)(q:h.get kc=some (.cells [.slice a n c] 22 0 true))(r:dK h (.slice a n c) p)(y:p.length<=100000):FW SS 99 [nA,Q0 kc] h (λv l=>fh h l 3 1 v (p.map qk)/\Ok h l):=by
 refine OI none 0 0 kc h _ ⟨_,Zn none 0 0,?_⟩;have i:=(Ok.refl w).push (.cells [nA] 22 0 true);have C:=aJ h (.cells [nA] 22 0 true);have J:(h.push (.cells [nA] 22 0 true)).next=h.next+1:=rfl;generalize h.push (.cells [nA] 22 0 true)=b at*;refine acU (f:= .tmp 6) (ps:= #[7]) (g:=82) (first:=[]) (cap:=[pA kc]) (hc:=hcA) (by kernel_rfl) rfl rfl ⟨by unfold YB;decide,by kernel_rfl⟩ ?_;show FW SS 82 [.func (.yield b.next) ⟨[]⟩ ⟨[]⟩,pA kc] (b.push (Nj .ready h.next kc)) _;have o:=(Ok.refl i.wf).push (Nj .ready h.next kc);have t:=aJ b (Nj .ready h.next kc);have A:YI h (b.push (Nj .ready h.next kc)) h.next b.next kc []:=⟨i.trans o,⟨none,0,0,o.ext _ _ C,fh.nil _ _ _ _,λj e=>by cases e⟩,t,Nat.le_refl _,by omega,by omega⟩
 refine(YV w A q r y).mono ?_;rintro v d ⟨I,⟨a,n,c,z,x,F⟩,D,K,s,E⟩;refine⟨.normal,by rw[D];rfl,?_⟩;have m:Ok h (d.del b.next):=Ok.del I s w;have k:(d.del b.next).get h.next=some (.cells [.slice a n c] 22 0 true):=by rw[ae.dR,if_neg E];exact z
 have H:aj SS.P 22 (d.del b.next) (pA h.next)=some (.slice a n c):=cq qp RX k (by simp);exact Ep (ks:=h.next) ⟨a,n,c,H,x.kF λj B G u=>(by rw[ae.dR,if_neg (F j G).2];exact u),m⟩
theorem Xn{c:Nat}(w:Wf h)(f:h.get kc=some (.cells [.slice a n c] 22 0 true))(r:dK h (.slice a n c) p)(d:p.length<=100000):FW SS 80 [Q0 kc] h (λv b=>fh h b 3 1 v (p.map qk)/\Ok h b):=by
 refine Xm kc h _ ((OJ w f r d).mono ?_);rintro v g ⟨o,e⟩;obtain⟨j,i,rfl⟩:=o.Wv;exact⟨_,_,_,rfl,o,e⟩
theorem Vi{c:Nat}(w:Wf h)(j:h.get kc=some (.cells [.slice a n c] 22 0 true))(r:dK h (.slice a n c) p)(b:p.length<=100000):FW SS 53 [Q0 kc] h (λv d=>fh h d 3 1 v ((mg p).map qk)/\Ok h d):=by
 refine Vh kc h _ ((Xn w j r b).mono ?_);rintro v g ⟨o,i⟩;obtain⟨m,l,rfl⟩:=o.Wv;refine⟨_,_,_,rfl,(Q6 w i o b).mono ?_⟩;rintro v k ⟨rfl,f,e⟩;exact⟨rfl,f,e⟩
theorem YX{c:Nat}(w:Wf h):FW SS 54 [.slice a n c] h (λv b=>v=Q0 h.next/\b.get h.next=some (.cells [.slice a n c] 22 0 true)/\Ok h b):=
 YW a n c h _ ⟨_,Zn a n c,rfl,aJ h _,(Ok.refl w).push _⟩
end
end
variable{k:Nat}
section
def comp(l:List Int)(i:Nat):List Int:=(List.range i).flatMap λj=>if 1<=j/\l.getD j 0=l.getD (j-1) 0 then[]else[l.getD j 0]
theorem uo(l:List Int)(i:Nat):comp l (i+1)=comp l i++(if 1<=i/\l.getD i 0=l.getD (i-1) 0 then[]else[l.getD i 0]):=by
 unfold comp;rw[range_succ,List.flatMap_append];simp
section
variable {h0 g:ae} {kb off n c N:Nat} {l D:List Int}
structure sP(h0:ae)(kb off n N:Nat)(D:List Int)(g:ae):Prop where
 blk:∃cs,g.get kb=some (.cells cs 3 1 true)/\(cs.drop off).take n=D.map zV/\cs.length=N
 len:D.length=n
 ok:Ok h0 g
 fit:off+n<=N
 nb:h0.next<=kb
theorem sP.room(r:sP h0 kb off n N D g)(m:Nat):sP h0 kb off n N D (Go.Ab.room g m):=⟨r.blk,r.len,r.ok.room m,r.fit,r.nb⟩
theorem sP.rd0(r:sP h0 kb off n N D g)(c:Nat):Rd g 3 (.slice (some ⟨kb,off,none⟩) n c) (wj D):=by
 obtain⟨cs,a,b,d⟩:=r.blk;exact(.inr ⟨kb,off,cs,c,true,by rw[ju,r.len],a,by rw[ju,r.len];exact b⟩)
theorem sP.rd(r:sP h0 kb off n N D g)(c:Nat):dK g (.slice (some ⟨kb,off,none⟩) n c) D:=dK.NS (r.rd0 c)
theorem sP.rdF(r:sP h0 kb off n N D g){k:Nat}(f:k<=n)(c:Nat):dK g (.slice (some ⟨kb,off+k*1,none⟩) (n-k) c) (D.drop k):=by
 obtain⟨cs,b,d,e⟩:=r.blk;have a:(D.drop k).length=n-k:=by rw[length_drop,r.len]
 refine dK.NS (.inr ⟨kb,off+k*1,cs,c,true,by rw[ju,a],b,?_⟩);rw[ju,a,Nat.mul_one,<-List.drop_drop];have:((cs.drop off).drop k).take (n-k)=((cs.drop off).take n).drop k:=by rw[drop_take]
 rw[this,d];unfold wj;rw[List.map_drop];rfl
theorem sP.put(w:Wf h0)(r:sP h0 kb off n N D g){k:Nat}(e:k<n)(z:Int):∃u:dM,ah SS.P 3 (.pointer (some ⟨kb,off+k,none⟩)) (.int .i64 z) g=some (undef,u)/\sP h0 kb off n N (D.set k z) (u.app g):=by
 obtain⟨cs,a,d,c⟩:=r.blk;have b:=r.fit;refine⟨_,iX zs3 a (i:=off+k) (by omega) (v:= .int .i64 z) rfl rfl,⟨_,by show(g.set kb _).get kb=_;rw[ae.aw,if_pos rfl],?_,by rw[length_set];exact c⟩,by rw[length_set];exact r.len,r.ok.set _ r.nb (r.ok.wf _ _ a) w,b,r.nb⟩;rw[List.drop_set,if_neg (by omega),List.take_set,d,show off+k-off=k by omega,map_set];rfl
theorem sP.clr(w:Wf h0)(r:sP h0 kb off n N D g){k:Nat}(o:k<n)(d:Nat):∃u:dM,zt SS.P 22 (.slice (some ⟨kb,off+k*1,none⟩) (n-k) d) g=some (undef,u)/\∃a,sP h0 kb off n N a (u.app g)/\a.take k=D.take k:=by
 obtain⟨cs,b,f,m⟩:=r.blk;have c:=r.fit;have h:df (iv 0).cells.toList (n-k)=List.replicate (n-k) (zV 0):=ny _ _;refine⟨.set kb (.cells (cs.take (off+k)++List.replicate (n-k) (zV 0)++cs.drop (off+k+(n-k))) 3 1 true),?_,D.take k++List.replicate (n-k) 0,⟨⟨_,by show(g.set kb _).get kb=_;rw[ae.aw,if_pos rfl],?_,?_⟩,?_,r.ok.set _ r.nb (r.ok.wf _ _ b) w,c,r.nb⟩,?_⟩
 ·unfold zt;rw[qp];dsimp only;rw[ZP];dsimp only;rw[if_neg (by omega),h,Nat.mul_one];unfold storeAt;rw[b];dsimp only;rw[if_pos ⟨by simp;omega,by simp[zV,dO]⟩,length_replicate];rfl
 ·have l:D.take k=D.take k:=rfl;rw[append_assoc,List.drop_append,length_take,min_eq_left (by omega),List.drop_append,length_replicate];have j:off-(off+k)=0:=by omega
  rw[j,drop_zero,show 0-(n-k)=0 by omega,drop_zero];have e:(cs.take (off+k)).drop off=(cs.drop off).take k:=by rw[drop_take,show off+k-off=k by omega]
  rw[e];have i:(cs.drop off).take k=(D.take k).map zV:=by
   have:(cs.drop off).take k=((cs.drop off).take n).take k:=by rw[take_take,min_eq_left (by omega)]
   rw[this,f,map_take]
  rw[i,<-append_assoc,List.take_append_of_le_length (by simp[r.len];omega),take_of_length_le (by simp[r.len];omega),map_append,List.map_replicate]
 ·rw[length_append,length_append,length_take,length_replicate,length_drop];omega
 ·rw[length_append,length_take,length_replicate,r.len];omega
 ·rw[List.take_append_of_le_length (by rw[length_take,r.len];omega),take_take,Nat.min_self]
end
theorem Vc{g:ae}{off n c z:Nat}{cs:List Value}(b:g.get k=some (.cells cs 3 1 true))(f:z<=n)(e:n<=bH c):bG SS.P 22 (.slice (some ⟨k,off,none⟩) n c) none (some (.int .i64 (z:Int))) none g=some (.slice (some ⟨k,off,none⟩) z c):=by
 unfold bG;dsimp only;rw[qp];dsimp only[eP];rw[Ru,b];dsimp only;rw[if_pos (.inl rfl),if_pos (by omega)];have a:(((0:Nat):Int)).toNat=0:=rfl;have d:((z:Int)-((0:Nat):Int)).toNat=z:=by omega
 rw[a,d,Nat.zero_mul,Nat.add_zero,Nat.sub_zero]
theorem SH{h0:ae}(w:Wf h0)(ok:Ok h0 h){v:Value}{l:List Int}(o:fh h0 h 3 1 v (l.map qk))(hl:l.length<=100000):FW SS 52 [v] h (λr h'=>∃a n c,r = .slice a n c/\Rd h' 3 (.slice a n c) (wj (comp l l.length))/\Ok h0 h'):=by
 have J:=aaO o;by_cases K:l.length<2
 ·obtain⟨a,c,rfl⟩:=o.Wv;rw[lM]at J⊢;refine IX a l.length c h _ (aa (λ_=>⟨a,l.length,c,rfl,?_,ok⟩) (λe=>by have:=dF e;omega));have:comp l l.length=l:=by
   match l,K with
   |[],_=>rfl
   |[x],_=>rfl
   |x::y::r,K=>simp at K;omega
  rw[this];exact J
 obtain⟨_,⟨_,he⟩|⟨kb,off,cs,c,rfl,nb,Q,M,Z,N⟩⟩:=o
 ·exfalso;have:l=[]:=by simpa using he
  rw[this]at K;simp at K
 rw[lM]at M N;rw[lM]at J⊢;rw[Nat.mul_one,qF]at M;rw[Nat.mul_one]at Z;generalize x8:l.length=n at*;have r0:sP h0 kb off n cs.length l h:=⟨⟨cs,Q,M,rfl⟩,x8,ok,by omega,nb⟩
 refine IX _ n c h _ (aa (λe=>by have:=dT e;omega) (λ_=>?_));refine zu _ n c (λV k g=>1<=k/\k<=n/\V=n-k/\sP h0 kb off n cs.length l g/\comp l k=l.take k) _ (λV k=>?_) (n-1) (k:=1) ⟨by omega,by omega,rfl,r0,?_⟩
 rotate_left
 ·rw[jV (d:=0) (by omega)];have:comp l 1=[l.getD 0 0]:=by rw[uo,if_neg (by omega)];rfl
  rw[this];rfl
 intros;rename_i g x0;obtain⟨k1,k2,k3,rz,hc⟩:=x0;refine aa (λq=>?_) (λq=>?_)
 ·have Q:k<n:=by have:=dT q;omega
  obtain⟨s,rfl⟩:∃s,k=s+1:=⟨k-1,by omega⟩
  have B:=rz.room 10;obtain⟨p,e1,e2⟩:=dK.at_ (B.rd c) (i:=s+1) (by omega);obtain⟨p',e3,e4⟩:=dK.at_ (B.rd c) (i:=s) (by omega);rw[Au s (by omega)];have z:=uo l (s+1);rw[show s+1-1=s by omega]at z;refine⟨_,e1,_,e2,_,e3,_,e4,aa (λC=>?_) (λC=>?_)⟩
  ·have C:l.getD (s+1) 0=l.getD s 0:=by simpa using C
   rw[if_pos ⟨by omega,C⟩,List.append_nil,hc]at z;obtain⟨y6,g1,g2,g3⟩:=B.blk;refine⟨_,_,_,Dz qp Ru g1 (by omega) N,?_⟩;clear e1 e2 e3 e4 C;generalize y5:s+1=f at*;refine zv _ n c _ (n-f) (c-f) _ V (λS k j g=>1<=j/\j<=n-f/\S=n-f-j/\∃D,sP h0 kb off n cs.length D g/\(comp l (f+j)).length=k/\D.take k=comp l (f+j)/\k+1<=f+j/\∀p,f+j<=p+1->p<n->D.getD p 0=l.getD p 0) _ (λS k j=>?_) (n-f-1) (k:=f) (j:=1) ⟨by omega,by omega,rfl,l,B,by rw[z,length_take];omega,by rw[z],by omega,λ_ _ _=>rfl⟩;intros;rename_i g4 W;obtain⟨j1,j2,j3,D,F,dl,Y,dk,R⟩:=W;have y0:=F.len;refine aa (λU=>?_) (λU=>?_)
   ·have hj:j<n-f:=by have:=dT U;omega
    obtain⟨m,rfl⟩:∃m,j=m+1:=⟨j-1,by omega⟩
    have A:=F.room 10;have y7:(D.drop f).length=n-f:=by rw[length_drop,y0]
    obtain⟨p1,x1,O⟩:=dK.at_ (A.rdF (by omega:f<=n) (c-f)) (i:=m+1) (by omega);obtain⟨p2,x3,X⟩:=dK.at_ (A.rdF (by omega:f<=n) (c-f)) (i:=m) (by omega);have gd:∀i,(D.drop f).getD i 0=D.getD (f+i) 0:=λi=>by rw[gD,List.getElem?_drop,<-gD]
    rw[gd]at O X;rw[R (f+(m+1)) (by omega) (by omega)]at O;rw[R (f+m) (by omega) (by omega)]at X;have t:=uo l (f+(m+1));rw[show f+(m+1)-1=f+m by omega]at t;have L:k<n:=by omega
    rw[Au m (by omega),aN (i:=m+1) (n:=n) (by omega) (by omega)];refine⟨_,x1,_,O,_,x3,_,X,aa (λE=>?_) (λE=>?_)⟩
    ·have E:l.getD (f+(m+1)) 0≠l.getD (f+m) 0:=by simpa using E
     rw[if_neg (λe=>E e.2)]at t;obtain⟨u,st,x6⟩:=A.put w L (l.getD (f+(m+1)) 0);have x7:aA SS.P 22 (.slice (some ⟨kb,off,none⟩) n c) (iA k)=some (.pointer (some ⟨kb,off+k,none⟩)):=by
      have:=Pn (P:=SS.P) qp Ru (k:=kb) (off:=off) (n:=n) (c:=c) (ik:= .i64) (i:=(k:Int)) (by omega) (by omega);rw[this];have e:off+((k:Int)).toNat*1=off+k:=by omega
      rw[e]
     rw[aN (i:=k) (n:=n) (by omega) (by omega)];refine⟨_,x1,_,O,_,x7,u,st,iI (n-f-(m+1+1)) (by omega) ⟨by omega,by omega,rfl,_,x6,?_,?_,by omega,λp x9 I=>?_⟩⟩
     ·rw[show f+(m+1+1)=f+(m+1)+1 by omega,t,length_append,dl];rfl
     ·rw[show f+(m+1+1)=f+(m+1)+1 by omega,t,jV (d:=0) (by rw[length_set];omega),lr (Nat.le_refl _),Y,dv (by omega),if_pos rfl]
     ·rw[dv (by omega),if_neg (by omega)];exact R p (by omega) I
    ·have E:l.getD (f+(m+1)) 0=l.getD (f+m) 0:=by simpa using E
     rw[if_pos ⟨by omega,E⟩,List.append_nil]at t;refine iI (n-f-(m+1+1)) (by omega) ⟨by omega,by omega,rfl,D,A,?_,?_,by omega,λp x9 I=>R p (by omega) I⟩
     ·rw[show f+(m+1+1)=f+(m+1)+1 by omega,t];exact dl
     ·rw[show f+(m+1+1)=f+(m+1)+1 by omega,t];exact Y
   ·have hj:j=n-f:=by have:=dF U;omega
    have L:k<n:=by omega
    obtain⟨y4,y1,y2,y3⟩:=F.blk;obtain⟨u,cl,D',A,x5⟩:=F.clr w L (c-k);obtain⟨G,z1,z2,z3⟩:=A.blk;have T:comp l n=D.take k:=by rw[Y,hj,show f+(n-f)=n by omega]
    refine⟨_,_,_,Dz qp Ru y1 (by omega) N,undef,u,Eq.trans (b:=zt SS.P 22 (.slice (some ⟨kb,off+k*1,none⟩) (n-k) (c-k)) g4) (by kernel_rfl) cl,_,_,_,Vc z1 (by omega) N,_,_,_,rfl,?_,A.ok⟩;have H:(comp l n).length=k:=by rw[T,length_take];omega
    refine(.inr ⟨kb,off,G,c,true,by rw[ju,H],z1,?_⟩);rw[ju,H];have:(G.drop off).take k=((G.drop off).take n).take k:=by rw[take_take,min_eq_left (by omega)]
    rw[this,z2,<-map_take,x5,<-T];rfl
  ·have C:l.getD (s+1) 0≠l.getD s 0:=by simpa using C
   rw[if_neg (λe=>C e.2),hc]at z;rw[aN (i:=s+1) (n:=n) (by omega) (by omega)];refine bZ (n-(s+1+1)) (by omega) ⟨by omega,by omega,rfl,B,?_⟩;rw[z];exact(jV (d:=0) (by omega)).symm
 ·have Q:k=n:=by have:=dF q;omega
  subst Q;refine⟨_,_,_,rfl,?_,rz.ok⟩;rw[hc,take_of_length_le (by omega)];exact rz.rd0 c
end
variable{z:Int}
theorem aaU{d:ae}(r:Rd g 3 v (wj p))(h:Kp g d):Rd d 3 v (wj p):=by
 rcases r with⟨a,b⟩|⟨k,e,cs,c,i,a,b,f⟩
 ·exact .inl ⟨a,b⟩
 ·exact .inr ⟨k,e,cs,c,i,a,h.2 _ _ _ _ _ b (by decide) (by decide) (by decide),f⟩
def oc(l:List Int):List Int:=comp (mg l) (mg l).length
theorem IW(l:List Int):∀i,(comp l i).length<=i
 |0=>Nat.le_refl _
 |i+1=>by
  rw[uo,length_append];have:=IW l i;split
  ·simp;omega
  ·simp;omega
theorem Ga(l:List Int):(mg l).length=l.length:=List.length_mergeSort l
theorem TF(l:List Int):(oc l).length<=l.length:=by
 unfold oc;exact Nat.le_trans (IW _ _) (Nat.le_of_eq (Ga l))
def G9(a:Int)(l:List Int):List gZ:=l.map λs=>⟨s,s,dN a,1⟩
def CY(a:Int)(l:List Int):bw:=⟨a,0,dN a,[⟨[],G9 a (oc l)⟩,⟨dN a,[]⟩]⟩
def xu(a:Int)(l:List Int):bw×Int:=if(decide (1<=a/\a<=3)&&l.all sk)=true then(CY a l,0)else(sN,1)
theorem WX{c:Nat}{l:List Int}(w:Wf h)(r:dK h (.slice a n c) l)(hl:l.length<=10000):FW SS 21 [.int .i64 z,.slice a n c] h (Bn h (xu z l)):=by
 obtain rfl:=dK.len r;have e:=(Ok.refl w).push mQ;have o:=aJ h mQ;have nb:h.next<(h.push mQ).next:=lt_succ_self _;refine WW z a _ c h _ ⟨_,qC,?_⟩;generalize h.push mQ=K at*;unfold xu;refine aa (λq=>?_) (λq=>aa (λt=>?_) (λt=>?_))
 ·have:=dT q;rw[decide_eq_false (show ¬(1<=z/\z<=3) by omega),Bool.false_and,if_neg Bool.false_ne_true];exact ij w e o (Nat.le_refl _) 1
 ·have:=dT t;rw[decide_eq_false (show ¬(1<=z/\z<=3) by omega),Bool.false_and,if_neg Bool.false_ne_true];exact ij w e o (Nat.le_refl _) 1
 have q:=dF q;have t:=dF t;rw[decide_eq_true (show 1<=z/\z<=3 by omega),Bool.true_and];refine(SL (dK.ok r e) (by omega)).mono ?_;rintro _ N ⟨rfl,A⟩;obtain rfl:K=N:=A.symm;refine⟨_,rfl,aa (λj=>?_) (λj=>?_)⟩
 ·rw[not_eq_true']at j;rw[j,if_neg Bool.false_ne_true];exact ij w e o (Nat.le_refl _) 1
 rw[not_eq_false']at j;rw[j,if_pos rfl];refine(mw z e.wf).mono ?_;rintro _ g3 ⟨k,rfl,D⟩;have u:=D.qQ ((Ok.refl D.ok.wf).room 10);refine⟨_,rfl,(il e.wf u (by simp) []).mono ?_⟩;rintro _ Y ⟨rfl,H,V⟩;refine⟨_,rfl,lD ⟨_,zy k,_,H.one,(il e.wf H (by simp) _).mono ?_⟩⟩;rintro _ g5 ⟨rfl,x,U⟩;refine⟨_,rfl,⟨u.one,kJ _⟩,(YX x.ok.wf).mono ?_⟩;rintro _ g6 ⟨rfl,T,m⟩;have R:=dK.ok r ((e.trans x.ok).trans m);refine⟨_,_,_,rfl,(Vi m.wf T R (by omega)).mono ?_⟩;rintro v g7 ⟨F,S⟩;obtain⟨a7,X,rfl⟩:=F.Wv;refine⟨_,_,_,rfl,(SH m.wf S F (by rw[Ga];omega)).mono ?_⟩;rintro _ Z ⟨E,n8,G,rfl,J,O⟩;obtain rfl:=dK.len (dK.NS J);have P:=x.qQ (m.trans O);refine⟨_,_,_,rfl,?_⟩;have W:=TF l;rw[<-oc]at*;refine Ba z a l.length c h.next k 0 1 E (oc l).length G (λC i g=>i<=(oc l).length/\C=(oc l).length-i/\Rd g 3 (.slice E (oc l).length G) (wj (oc l))/\BS K g k z 0 (dN z) [⟨[],G9 z ((oc l).take i)⟩,⟨dN z,[]⟩]) _ (λC i=>?_) (oc l).length (i:=0) ⟨Nat.zero_le _,rfl,J,P⟩;intros;rename_i g B;obtain⟨f1,f2,L,b⟩:=B;have f:cg [(⟨[],G9 z ((oc l).take i)⟩:dP),⟨dN z,[]⟩]=i:=by
  rw[dm,dm];show(G9 z ((oc l).take i)).length+(0+0)=i;unfold G9;rw[lM,length_take];omega
 refine aa (λp=>?_) (λp=>?_)
 ·have y:i<(oc l).length:=by have:=dT p;omega
  obtain⟨pp,M,A⟩:=dK.at_ (dK.NS L) y;refine⟨_,M,_,A,_,zy k,_,b.one,_,Zs _ _ _ _,(xb (s:=0) e.wf b rfl (by rw[f];omega) ⟨(oc l).getD i 0,(oc l).getD i 0,dN z,1⟩).mono ?_⟩;rintro _ g9 ⟨rfl,Q,I⟩;rw[aN y (by omega)];refine⟨rfl,bZ ((oc l).length-(i+1)) (by omega) ⟨by omega,rfl,aaU L I,?_⟩⟩;have:G9 z ((oc l).take (i+1))=G9 z ((oc l).take i)++[⟨(oc l).getD i 0,(oc l).getD i 0,dN z,1⟩]:=by
   rw[jV (d:=0) y];unfold G9;rw[map_append];rfl
  rw[this];exact Q
 ·obtain rfl:i=(oc l).length:=by have:=dF p;omega
  rw[take_of_length_le (Nat.le_refl _)]at b f;exact oX w e.wf b (by simp) (by rw[f];omega) e o (Nat.le_refl _)
variable{Z:List (List UInt8)}
section
theorem yr:SS.P.underlying 106=some (.slice 103):=by kernel_rfl
theorem yN:aE SS.P 103=some 1:=by kernel_rfl
theorem aby:Go.Ab.isAgg SS.P 103=false:=by kernel_rfl
noncomputable def Vy:TypeInfo:=(SS.P.info? 103).getD default
theorem Vz:SS.P.info? 103=some Vy:=by kernel_rfl
theorem MY:Vy.size=1:=by kernel_rfl
theorem KB:Vy.bytes=24:=by kernel_rfl
theorem Zc:zeroOf SS.P 103=some nA:=by kernel_rfl
theorem acJ(n:Nat)(a:n<=100000):ch SS.P 106 (.int .i64 (n:Int)) (.int .i64 (n:Int))=some (.cells (List.replicate n nA) 103 1 true,mL n n):=by
 unfold ch bV;dsimp only;rw[yr]
 try dsimp only
 change (match SS.P.info? 103,zeroOf SS.P 103 with
  |some i,some z=>(if z.cells.size=i.size/\0<i.size/\(0:Int)<=(n:Int)/\(n:Int)<=(n:Int)/\(n:Int)*i.bytes<=140737488355328/\(n:Int)<=1099511627776 then some (dS.cells (df z.cells.toList (n:Int).toNat) 103 i.size true,λk=>Value.slice (some ⟨k,0,none⟩) (n:Int).toNat (n:Int).toNat)else none)
  |_,_=>none)=_
 rw[Vz,Zc];dsimp only;rw[MY,KB,if_pos ⟨rfl,by omega,by omega,Int.le_refl _,by omega,by omega⟩];have e:((n:Int)).toNat=n:=by omega
 rw[e,show(nA).cells.toList=[nA]from rfl,ny];rfl
theorem Z0{g:ae}{z:Nat}{cs:List Value}{l:Bool}(r:Rd g n v d)(p:g.get k=some (.cells cs m z l))(o:n≠m)(B:dS):Rd (g.set k B) n v d:=by
 rcases r with r|⟨h,b,e,c,f,j,a,i⟩
 ·exact .inl r
 ·exact .inr ⟨h,b,e,c,f,j,by rw[ae.aw,if_neg (λx=>by rw[x,p]at a;injection a with a;injection a with _ a;exact o a.symm)];exact a,i⟩
structure TB(h:ae)(kt X Y p:Nat)(kr:Nat->Nat)(cv:Nat->Nat->Value)(g:ae):Prop where
 out:g.get kt=some (.cells ((List.range X).map λa=>if a<p then vS (kr a) Y Y else nA) 103 1 true)
 row:∀a,a<p->g.get (kr a)=some (.cells ((List.range Y).map (cv a)) 107 1 true)
 new:h.next<=kt/\∀a,a<p->h.next<=kr a
 inj:∀a b,a<p->b<p->kr a=kr b->a=b
 ok:Ok h g
def ZN(cv:Nat->Nat->Value)(i j:Nat)(y:Value):Nat->Nat->Value:=λa b=>if a=i/\b=j then y else cv a b
section
variable {h:ae} {kt X Y p i j:Nat} {kr:Nat->Nat} {cv:Nat->Nat->Value} {g g':ae}
theorem TB.qQ(t:TB h kt X Y p kr cv g)(o:Ok g g'):TB h kt X Y p kr cv g':=⟨o.ext _ _ t.out,λa b=>o.ext _ _ (t.row a b),t.new,t.inj,t.ok.trans o⟩
theorem TB.room(t:TB h kt X Y p kr cv g)(n:Nat):TB h kt X Y p kr cv (Go.Ab.room g n):=⟨t.out,t.row,t.new,t.inj,t.ok.room n⟩
theorem TB.Wu(t:TB h kt X Y p kr cv g)(a:i<p)(b:p<=X):aj SS.P 103 g (.pointer (some ⟨kt,i,none⟩))=some (vS (kr i) Y Y):=by
 rw[cq nP aby t.out (by simp;omega),BO (by omega),if_pos a]
theorem TB.ldV(t:TB h kt X Y p kr cv g)(a:i<p)(b:j<Y):aj SS.P 107 g (.pointer (some ⟨kr i,j,none⟩))=some (cv i j):=by
 rw[cq Dy IF (t.row i a) (by simp;omega),BO b]
theorem TB.Yg(t:TB h kt X Y p kr cv g)(w:Wf h)(d:i<p)(s:j<Y){y:Value}(n:dO y=true)(m:y.cells = #[y]):∃u:dM,ah SS.P 107 (.pointer (some ⟨kr i,j,none⟩)) y g=some (undef,u)/\TB h kt X Y p kr (ZN cv i j y) (u.app g)/\(∀v l,Rd g 9 v l->Rd (u.app g) 9 v l)/\(∀k l,VB g k l->VB (u.app g) k l)/\(u.app g).next=g.next:=by
 have c:=t.row i d;refine⟨_,iX nz c (by simp;omega) n m,⟨?_,λa f=>?_,t.new,t.inj,t.ok.set _ (t.new.2 i d) (t.ok.wf _ _ c) w⟩,λv l r=>Z0 r c (by decide) _,λk l b=>?_,rfl⟩
 ·show(g.set (kr i) _).get kt=_;rw[ae.aw,if_neg (kf t.out c (by decide))];exact t.out
 ·show(g.set (kr i) _).get (kr a)=_;rw[ae.aw];by_cases e:a=i
  ·subst e;rw[if_pos rfl];congr 2;refine ext_getElem (by simp) λb o q=>?_;rw[List.getElem_set];simp only[List.getElem_map,List.getElem_range];unfold ZN;by_cases e:j=b
   ·subst e;simp
   ·rw[if_neg e,if_neg (λx=>e x.2.symm)]
  ·rw[if_neg (λx=>e (t.inj a i f d x)),t.row a f];congr 2;refine map_congr_left λb _=>?_;unfold ZN;rw[if_neg (λx=>e x.1)]
 ·show(g.set (kr i) _).get k=_;rw[ae.aw,if_neg (λx=>by rw[x]at b;have b:g.get (kr i)=_:=b;rw[c]at b;injection b with b;injection b with _ b;exact absurd b (by decide))];exact b
theorem TB.adE(t:TB h kt X Y p kr cv g)(w:Wf h)(y:p<X){i:Nat}(m:g.get i=some (.cells (List.replicate Y nA) 107 1 true))(v:h.next<=i)(j:∀a,a<p->kr a≠i)(n:∀b,cv p b=nA):∃u:dM,ah SS.P 103 (.pointer (some ⟨kt,p,none⟩)) (sA i Y Y) g=some (undef,u)/\TB h kt X Y (p+1) (λa=>if a=p then i else kr a) cv (u.app g)/\(∀k l,VB g k l->VB (u.app g) k l)/\(u.app g).next=g.next:=by
 refine⟨_,iX yN t.out (by simp;omega) rfl rfl,⟨?_,λa o=>?_,⟨t.new.1,λa o=>?_⟩,λa b o x f=>?_,t.ok.set _ t.new.1 (t.ok.wf _ _ t.out) w⟩,λk l b=>?_,rfl⟩
 ·show(g.set kt _).get kt=_;rw[ae.aw,if_pos rfl];congr 2;refine ext_getElem (by simp) λb r s=>?_;rw[List.getElem_set];simp only[List.getElem_map,List.getElem_range];by_cases e:p=b
  ·subst e;rw[if_pos rfl,if_pos (by omega),if_pos rfl];rfl
  ·rw[if_neg e];by_cases q:b<p
   ·rw[if_pos q,if_pos (by omega),if_neg (by omega)]
   ·rw[if_neg q,if_neg (by omega)]
 ·show(g.set kt _).get _=_;by_cases e:a=p
  ·subst e;rw[if_pos rfl,ae.aw,if_neg (kf m t.out (by decide)),m];congr 2;refine ext_getElem (by simp) λb r s=>?_;simp only[List.getElem_map,List.getElem_range,List.getElem_replicate];exact(n b).symm
  ·have:=t.row a (by omega);rw[if_neg e,ae.aw,if_neg (kf this t.out (by decide))];exact this
 ·split
  ·exact v
  ·exact t.new.2 a (by omega)
 ·by_cases c:a=p<;>by_cases d:b=p
  ·omega
  ·rw[if_pos c,if_neg d]at f;exact absurd f.symm (j b (by omega))
  ·rw[if_neg c,if_pos d]at f;exact absurd f (j a (by omega))
  ·rw[if_neg c,if_neg d]at f;exact t.inj a b (by omega) (by omega) f
 ·show(g.set kt _).get k=_;rw[ae.aw,if_neg (kf b t.out (by decide))];exact b
end
structure TV(kind:Int)(N X Y:Nat)(cv:Nat->Nat->Value)(T:List LM)(g:ae):Prop where
 len:T.length=X
 row:∀a,a<X->(T.getD a []).length=Y
 at_:∀a b,a<X->b<Y->∃(ad:Option Addr)(c:Nat),cv a b = .slice ad N c/\Rd g 9 (.slice ad N c) (eF (dL T a b))/\VV kind N (dL T a b)
section
variable {kind:Int} {N X Y i j:Nat} {cv:Nat->Nat->Value} {T:List LM} {g g':ae}
theorem IJ{T:List LM}{X Y i j a b:Nat}(g:T.length=X)(f:∀a,a<X->(T.getD a []).length=Y)(c:i<X)(d:j<Y)(v:List (List UInt8)):dL (fm T i j v) a b=if a=i/\b=j then v else dL T a b:=by
 unfold dL fm;rw[dv (by omega)];by_cases e:a=i
 ·subst e;rw[if_pos rfl,dv (by rw[f a c];exact d)];by_cases e:b=j
  ·rw[if_pos e,if_pos ⟨rfl,e⟩]
  ·rw[if_neg e,if_neg (λx=>e x.2)]
 ·rw[if_neg e,if_neg (λx=>e x.1)]
theorem Km{T:List LM}{X Y i j:Nat}(c:T.length=X)(b:∀a,a<X->(T.getD a []).length=Y)(e:i<X)(f:j<Y)(v:List (List UInt8)):(fm T i j v).length=X/\∀a,a<X->((fm T i j v).getD a []).length=Y:=by
 unfold fm;refine⟨by rw[length_set];exact c,λa d=>?_⟩;rw[dv (by omega)];split
 ·rw[length_set];exact b i e
 ·exact b a d
theorem TV.ok(t:TV kind N X Y cv T g)(o:Ok g g'):TV kind N X Y cv T g':=⟨t.len,t.row,λa b j d=>by obtain⟨h,c,f,i,e⟩:=t.at_ a b j d;exact⟨h,c,f,i.ok o,e⟩⟩
theorem TV.put(t:TV kind N X Y cv T g)(f:i<X)(k:j<Y)(h:∀v l,Rd g 9 v l->Rd g' 9 v l){d:Option Addr}{c:Nat}{l:List (List UInt8)}(r:Rd g 9 (.slice d N c) (eF l))(u:VV kind N l):TV kind N X Y (ZN cv i j (.slice d N c)) (fm T i j l) g':=by
 obtain⟨s,w⟩:=Km t.len t.row f k l;refine⟨s,w,λa b q m=>?_⟩;rw[IJ t.len t.row f k];unfold ZN;by_cases e:a=i/\b=j
 ·rw[if_pos e,if_pos e];exact⟨d,c,rfl,h _ _ r,u⟩
 ·rw[if_neg e,if_neg e];obtain⟨d,c,o,p,n⟩:=t.at_ a b q m;exact⟨d,c,o,h _ _ p,n⟩
end
def ZF(h g:ae)(N:Nat)(d:List (List UInt8))(cv:Nat->Nat->Value)(c:Nat->Nat->Nat)(f:Nat->Nat->Prop):Prop:=∀a b,f a b->cv a b=vS (c a b) N N/\VB g (c a b) d/\h.next<=c a b/\((a=0/\b=0)\/c a b≠c 0 0)
theorem ZF.mono{h g g':ae}{N:Nat}{cv:Nat->Nat->Value}{d:Nat->Nat->Nat}{f e:Nat->Nat->Prop}(z:ZF h g N Z cv d f)(p:∀k l,VB g k l->VB g' k l)(i:∀a b,e a b->f a b):ZF h g' N Z cv d e:=λa b c=>by
 obtain⟨m,n,j,o⟩:=z a b (i a b c);exact⟨m,p _ _ n,j,o⟩
theorem ZF.add{h g g':ae}{N i j:Nat}{cv:Nat->Nat->Value}{p:Nat->Nat->Nat}{f q:Nat->Nat->Prop}(z:ZF h g N Z cv p f)(u:∀k l,VB g k l->k<n)(y:∀k l,VB g k l->VB g' k l)(B:VB g' n Z)(w:h.next<=n)(c:(i=0/\j=0)\/f 0 0)(r:∀a b,q a b->f a b\/(a=i/\b=j))(A:i=0/\j=0->∀a b,¬f a b):ZF h g' N Z (ZN cv i j (vS n N N)) (λa b=>if a=i/\b=j then n else p a b) q:=λa b o=>by
 unfold ZN;dsimp only;by_cases e:a=i/\b=j
 ·rw[if_pos e,if_pos e];refine⟨rfl,B,w,?_⟩;by_cases d:i=0/\j=0
  ·left;omega
  ·right;rw[if_neg (by omega)];rcases c with c|c
   ·exact absurd c d
   ·have:=u _ _ (z 0 0 c).2.1;omega
 ·rw[if_neg e,if_neg e];have m:f a b:=(r a b o).resolve_right e;obtain⟨t,v,s,x⟩:=z a b m;refine⟨t,y _ _ v,s,x.imp id λC=>?_⟩;by_cases d:0=i/\0=j
  ·exact absurd m (A ⟨d.1.symm,d.2.symm⟩ a b)
  ·rw[if_neg d];exact C
def Z1(kind:Int)(N:Nat)(g:ae)(b:Option Addr)(bn bc:Nat):Option LM->Prop
 |none=>b=none/\bn=0/\bc=0
 |some B=>(∃a,b=some a)/\bn=N/\Li 107 g (.slice b bn bc) B/\Sq kind N B
theorem Z1.ok{kind:Int}{N:Nat}{g g':ae}{b:Option Addr}{bn bc:Nat}{o:Option LM}(s:Z1 kind N g b bn bc o)(k:Ok g g'):Z1 kind N g' b bn bc o:=by
 cases o with
 |none=>exact s
 |some B=>exact⟨s.1,s.2.1,s.2.2.1.ok k,s.2.2.2⟩
section
variable {h:ae} {M:bw} {x a b:Option Addr} {z c bn bc:Nat} {V:List (List UInt8)} {o:Option LM}
theorem Yv(w:Wf h)(i:On M)(r:dx h (.slice x M.af.length z) M.af)(e:Rd h 9 (.slice a M.af.length c) (eF V))(d:VV M.kind M.af.length V)(f:Z1 M.kind M.af.length h b bn bc o):FW SS 75 [.agg ⟨bK M x M.af.length z⟩,.slice a M.af.length c,.slice b bn bc] h (VR h M.kind M.af.length (fS (aY M.kind) V o)):=by
 cases o with
 |none=>
  obtain⟨rfl,rfl,rfl⟩:=f;exact Rm w r e d
 |some B=>
  obtain⟨⟨k,rfl⟩,rfl,g,j⟩:=f;exact VU w i r e d g j
end
end
section
def adq(k kt N:Nat)(F K:Int)(v:OA)(M vc:Nat)(I J:Int)(Q:VH)(G:ae->Prop)(h:ae):Prop:=xA (aj SS.P 29 h (pA k)) λH=>FW SS 76 [(.agg ⟨H⟩),(.slice v M vc),(.int .i64 I),(.int .i64 J),(.bool false)] h λE a=>∃(o:OA)(q m:Nat),∃f:Int,E=(.tuple ⟨[(.slice o q m),(.int .i64 f)]⟩)/\au (((f:Int) !=0)) (Q (.tuple ⟨[(strOf []),(.int .i64 f)]⟩) a) (xP (aA SS.P 106 (sA kt N N) (.int .i64 F)) λi=>xL (aj SS.P 103 (room a 30) (.pointer (some i))) λc d b=>xP (aG SS.P 29 (pA k) 0) λx=>xI .i64 (aj SS.P 3 (room a 30) (.pointer (some x))) λy=>xP (aA SS.P 106 (sA kt N N) (.int .i64 F)) λz=>xL (aj SS.P 103 (room a 30) (.pointer (some z))) λA w u=>xP (aA SS.P 103 (.slice A w u) (.int .i64 K)) λs=>xL (aj SS.P 107 (room a 30) (.pointer (some s))) λC D r=>FW SS 77 [(.int .i64 y),(.slice C D r),(.slice o q m)] (room a 30) λt g=>∃(j:OA)(l p:Nat),∃e:Int,t=(.tuple ⟨[(.slice j l p),(.int .i64 e)]⟩)/\xP (aA SS.P 103 (.slice c d b) (.int .i64 K)) λB=>xU (ah SS.P 107 (.pointer (some B)) (.slice j l p) g) g λL n=>(aj SS.P 103 g (.pointer (some i))=some (.slice c d b)/\dG 4 (.slice c d b) (.slice c d b)=true)/\au (((e:Int) !=0)) (Q (.tuple ⟨[(strOf []),(.int .i64 e)]⟩) n) (G n))
theorem N8(a:Option Addr)(n c:Nat):dO (.slice a n c)=true:=by cases a<;>rfl
section
variable {h0 h:ae} {M:bw} {x v:Option Addr} {z k kt X Y i j vc:Nat} {kr:Nat->Nat} {cv:Nat->Nat->Value} {T:List LM} {V:List (List UInt8)}
def Mh(M:bw)(V:List (List UInt8))(a b:Int)(T:List LM)(i j:Nat):Option (List LM):=match kN (aY M.kind) (gm M) V a b with
 |none=>none
 |some s=>match nB (aY M.kind) (dL T i j) s with
  |none=>none
  |some r=>some (fm T i j r)
theorem VY(w:Wf h0)(O:On M)(U:MB h0 k M x M.af.length z)(A:TB h0 kt X Y X kr cv h)(tv:TV M.kind M.af.length X Y cv T h)(Z:Rd h 9 (.slice v M.af.length vc) (eF V))(vv:VV M.kind M.af.length V)(a:i<X)(f:j<Y)(q r:Int){Q:VH}{G:ae->Prop}
  (n:Mh M V q r T i j=none->∀g,Ok h0 g->Q (two [] 2) g)
  (p:∀R,Mh M V q r T i j=some R->∀D g,TB h0 kt X Y X kr D g->TV M.kind M.af.length X Y D R g->Rd g 9 (.slice v M.af.length vc) (eF V)->G g):
  adq k kt X (i:Int) (j:Int) v M.af.length vc q r Q G h:=by
 have hn:=O.n;unfold Mh at n p;have B:=U.ok A.ok;refine⟨_,B.all,(VX A.ok.wf O B.row Z vv q r).mono ?_⟩;rintro _ g1 ⟨m,d⟩
 cases L:kN (aY M.kind) (gm M) V q r with
 |none=>
  rw[L]at d n;subst d;exact⟨_,_,_,_,rfl,aa (λ_=>n rfl _ (A.ok.trans m)) (λe=>by cases e)⟩
 | some s=>
  rw[L]at d n p;obtain⟨H,K,rfl,rs,vs⟩:=d;dsimp only at n p;have b:=(A.qQ m).room 30;have E:TV M.kind M.af.length X Y cv T (Go.Ab.room g1 30):=(tv.ok m).ok ((Ok.refl m.wf).room 30);have P:=U.ok b.ok;obtain⟨ad,c,ec,rc,J⟩:=E.at_ i j a f;have C:=b.ldV a f;rw[ec]at C;refine⟨_,_,_,_,rfl,aa (λe=>by cases e) (λ_=>⟨_,CS yr yN a,_,_,_,b.Wu a (Nat.le_refl _),_,dD _,_,P.l0,_,CS yr yN a,_,_,_,b.Wu a (Nat.le_refl _),_,CS nP nz f,_,_,_,C,(Y5 b.ok.wf hn rc J (Rd.ok rs ((Ok.refl m.wf).room 30)) vs).mono ?_⟩)⟩;rintro _ g2 ⟨I,d⟩;have o:=b.qQ I;have N:=E.ok I
  cases W:nB (aY M.kind) (dL T i j) s with
  |none=>
   rw[W]at d n;subst d;obtain⟨u,F,t,_,_,_⟩:=o.Yg w a f (y:=nA) rfl rfl;exact⟨_,_,_,_,rfl,_,CS nP nz f,u,F,⟨o.Wu a (Nat.le_refl _),kj _ _ _⟩,aa (λ_=>n rfl _ t.ok) (λe=>by cases e)⟩
  |some l=>
   rw[W]at d p;obtain⟨H,K,rfl,rl,vl⟩:=d;obtain⟨u,F,t,S,_,_⟩:=o.Yg w a f (y:= .slice H M.af.length K) (N8 _ _ _) (by cases H<;>rfl);exact⟨_,_,_,_,rfl,_,CS nP nz f,u,F,⟨o.Wu a (Nat.le_refl _),kj _ _ _⟩,aa (λe=>by cases e) (λ_=>p _ rfl _ _ t (N.put a f S rl vl) (S _ _ ((Rd.ok (Rd.ok Z m) ((Ok.refl m.wf).room 30)).ok I)))⟩
end
end
section
def RW(M:bw)(B:Option LM)(xs ys:List Int)(i:Nat)(T:List LM):Option (List UInt8):=match bd (qX (aY M.kind) (gm M) B xs ys) (xs.length+1-i) i T with
 |none=>none
 |some T=>oJ (aY M.kind) (gm M) (dL T xs.length ys.length)
def RN(M:bw)(B:Option LM)(xs ys:List Int)(i j:Nat)(T:List LM):Option (List UInt8):=match bd (mT (aY M.kind) (gm M) B xs ys i) (ys.length+1-j) j T with
 |none=>none
 |some T=>RW M B xs ys (i+1) T
def Rv(M:bw)(B:Option LM)(xs ys:List Int)(i j:Nat)(V:List (List UInt8))(q:Nat)(T:List LM):Option (List UInt8):=match bd (oL (aY M.kind) (gm M) xs ys V i j) (4-q) q T with
 |none=>none
 |some T=>RN M B xs ys i (j+1) T
section
variable {M:bw} {B:Option LM} {xs ys:List Int} {i j q:Nat} {V:List (List UInt8)} {T:List LM}
theorem ZZ(a:i<xs.length+1):RW M B xs ys i T=RN M B xs ys i 0 T:=by
 unfold RW RN;rw[fg _ a];have e:qX (aY M.kind) (gm M) B xs ys T i=bd (mT (aY M.kind) (gm M) B xs ys i) (ys.length+1-0) 0 T:=rfl;rw[e]
 cases bd (mT (aY M.kind) (gm M) B xs ys i) (ys.length+1-0) 0 T<;>rfl
theorem WG:RN M B xs ys i (ys.length+1) T=RW M B xs ys (i+1) T:=by unfold RN;rw[iD]
theorem RO(b:j<ys.length+1):RN M B xs ys i j T=match fS (aY M.kind) (dL T i j) B with|none=>none|some v=>Rv M B xs ys i j v 1 (fm T i j v):=by
 unfold Rv;have a:RN M B xs ys i j T=match (match fS (aY M.kind) (dL T i j) B with|none=>none|some v=>bd (oL (aY M.kind) (gm M) xs ys v i j) 3 1 (fm T i j v))with|none=>none|some T=>RN M B xs ys i (j+1) T:=by
  conv=>lhs;unfold RN
  rw[fg _ b];have e:mT (aY M.kind) (gm M) B xs ys i T j=(match fS (aY M.kind) (dL T i j) B with|none=>none|some v=>bd (oL (aY M.kind) (gm M) xs ys v i j) 3 1 (fm T i j v)):=by
   unfold mT
   cases fS (aY M.kind) (dL T i j) B<;>rfl
  rw[e];generalize (match fS (aY M.kind) (dL T i j) B with|none=>none|some v=>bd (oL (aY M.kind) (gm M) xs ys v i j) 3 1 (fm T i j v))=o
  cases o<;>rfl
 rw[a]
 cases fS (aY M.kind) (dL T i j) B<;>rfl
theorem WH:Rv M B xs ys i j V 4 T=RN M B xs ys i (j+1) T:=by unfold Rv;rw[iD]
theorem IC(a:q<4)(b:xs.length<i+q%2\/ys.length<j+q/2):Rv M B xs ys i j V q T=Rv M B xs ys i j V (q+1) T:=by
 unfold Rv;rw[fg _ a];unfold oL;rw[if_pos b]
theorem RQ(a:q<4)(b:¬(xs.length<i+q%2\/ys.length<j+q/2)):Rv M B xs ys i j V q T=match Mh M V (bO xs i (q%2)) (bO ys j (q/2)) T (i+q%2) (j+q/2)with|none=>none|some T=>Rv M B xs ys i j V (q+1) T:=by
 unfold Rv;rw[fg _ a];have e:oL (aY M.kind) (gm M) xs ys V i j T q=Mh M V (bO xs i (q%2)) (bO ys j (q/2)) T (i+q%2) (j+q/2):=by
  unfold oL Mh;rw[if_neg b]
  cases kN (aY M.kind) (gm M) V (bO xs i (q%2)) (bO ys j (q/2))with
  |none=>rfl
  |some s=>dsimp only;cases nB (aY M.kind) (dL T (i+q%2) (j+q/2)) s<;>rfl
 rw[e]
 cases Mh M V (bO xs i (q%2)) (bO ys j (q/2)) T (i+q%2) (j+q/2)<;>rfl
end
theorem aey{q:Nat}(h:q=1\/q=2\/q=3):wrap .i64 ((BitVec.ofInt (IntKind.bits .i64) (q:Int)&&&BitVec.ofInt (IntKind.bits .i64) 1).toNat:Int)=((q%2:Nat):Int):=by
 rcases h with rfl|rfl|rfl<;>decide
theorem aez{q:Nat}(h:q=1\/q=2\/q=3):ay SS.P .shr 3 (iA q) (.int .u64 1)=some (.int .i64 ((q/2:Nat):Int)):=by
 rcases h with rfl|rfl|rfl<;>kernel_rfl
theorem KM{i j:Nat}(h:i+j<=1000000000):wrap .i64 ((i:Int)+((j:Nat):Int))=((i+j:Nat):Int):=by rw[aB (by omega) (by omega)];omega
section
variable {h0:ae} {M:bw} {x:Option Addr} {z k kt:Nat} {xa ya:Option Addr} {xc yc:Nat} {xs ys:List Int} {B:Option LM} {b:Option Addr} {bn bc:Nat}
theorem Zb(w:Wf h0)(mo:On M)(mb:MB h0 k M x M.af.length z)(hx:xs.length<=200)(hy:ys.length<=200)(rx:dK h0 (.slice xa xs.length xc) xs)(ry:dK h0 (.slice ya ys.length yc) ys)(sb:Z1 M.kind M.af.length h0 b bn bc B){Q:VH}{Z:Nat->Nat}{d:Nat->Nat->Value}{T:List LM}{g:ae}
  (S:TB h0 kt (xs.length+1) (ys.length+1) (xs.length+1) Z d g) (tv:TV M.kind M.af.length (xs.length+1) (ys.length+1) d T g) (hQ:∀v g,oQ h0 (RW M B xs ys 0 T) v g->Q v g):
  LL SS cI [1,1,1,1,1,1,1,0,1,0,0] (gx xa xs.length xc ya ys.length yc k kt (xs.length+1) b bn bc 0) g (KK SS cI [1,1,1,1,1,1,1,0,1,0] [] (EE SS cI Q)):=by
 obtain⟨G,hG⟩:∃G,G=RW M B xs ys 0 T:=⟨_,rfl⟩
 rw[<-hG]at hQ;obtain⟨X,hX⟩:∃X,X=xs.length+1:=⟨_,rfl⟩
 obtain⟨Y,hY⟩:∃Y,Y=ys.length+1:=⟨_,rfl⟩
 rw[<-hX,<-hY]at S tv;rw[<-hX];have hn:=mo.n;refine DS (bK M x M.af.length z) xa xs.length xc ya ys.length yc k kt X b bn bc (λmz i g=>i<=X/\mz=X-i/\∃d T,TB h0 kt X Y X Z d g/\TV M.kind M.af.length X Y d T g/\RW M B xs ys i T=G) _ (λmz i=>?_) X (i:=0) ⟨by omega,rfl,d,T,S,tv,hG.symm⟩;intros;rename_i g1 x5;obtain⟨f1,f2,d,T,S,tv,L⟩:=x5;refine aa (λq1=>?_) (λq1=>?_)
 ·have m:i<X:=by have:=dT q1;omega
  rw[ZZ (by omega)]at L;refine DT (bK M x M.af.length z) xa xs.length xc ya ys.length yc k kt X b bn bc _ mz i (λW j g=>j<=Y/\W=Y-j/\∃d T,TB h0 kt X Y X Z d g/\TV M.kind M.af.length X Y d T g/\RN M B xs ys i j T=G) _ (λW j=>?_) Y (j:=0) ⟨by omega,rfl,d,T,S,tv,L⟩;intros;rename_i g2 x3;obtain⟨d1,d2,y1,T2,x0,x2,r⟩:=x3;refine aa (λq2=>?_) (λq2=>?_)
  ·have A:j<Y:=by have:=dT q2;omega
   rw[RO (by omega)]at r;have a:=x0.room 15;have O:TV M.kind M.af.length X Y y1 T2 (Go.Ab.room g2 15):=x2.ok ((Ok.refl x0.ok.wf).room 15);have H:=mb.ok a.ok;obtain⟨ad,c,ec,rc,vc⟩:=O.at_ i j m A;have F:=a.ldV m A;rw[ec]at F;refine⟨_,H.all,_,CS yr yN m,_,_,_,a.Wu m (Nat.le_refl _),_,CS nP nz A,_,_,_,F,(Yv a.ok.wf mo H.row rc vc (sb.ok a.ok)).mono ?_⟩;rintro _ g3 ⟨o3,hv⟩;have x1:=a.qQ o3;have x8:=O.ok o3
   cases C:fS (aY M.kind) (dL T2 i j) B with
   |none=>
    rw[C]at hv r;subst hv;exact⟨_,_,_,_,rfl,aa (λ_=>hQ _ _ ⟨by rw[<-r];rfl,x1.ok⟩) (λe=>by cases e)⟩
   | some V=>
    rw[C]at hv r;obtain⟨J,R,rfl,rl,vl⟩:=hv;dsimp only at r;obtain⟨u,st,x6,kp,_,_⟩:=x1.Yg w m A (y:= .slice J M.af.length R) (N8 _ _ _) (by cases J<;>rfl);have x7:=x8.put m A kp rl vl;have x9:=kp _ _ rl;refine⟨_,_,_,_,rfl,aa (λe=>by cases e) (λ_=>⟨_,CS yr yN m,_,_,_,x1.Wu m (Nat.le_refl _),_,CS nP nz A,u,st,?_⟩)⟩;refine DU (bK M x M.af.length z) xa xs.length xc ya ys.length yc k kt X b bn bc _ mz i _ W j J M.af.length R (λE q g=>1<=q/\q<=4/\E=4-q/\∃d T,TB h0 kt X Y X Z d g/\TV M.kind M.af.length X Y d T g/\Rd g 9 (.slice J M.af.length R) (eF V)/\Rv M B xs ys i j V q T=G) _ (λE q=>?_) 3 (q:=1) ⟨by omega,by omega,rfl,_,_,x6,x7,x9,r⟩;intros;rename_i g5 x4;obtain⟨b1,b2,b3,y3,T6,s,N,U,h⟩:=x4;refine aa (λq3=>?_) (λq3=>?_)
    ·have hq:q=1\/q=2\/q=3:=by have:=dT q3;omega
     have P:q<4:=by omega
     have y0:wrap .i64 ((q:Int)+1)=((q+1:Nat):Int):=aN P (by omega);refine⟨_,aez hq,?_⟩;dsimp only;rw[aey hq,KM (show i+q%2<=1000000000 by omega),KM (show j+q/2<=1000000000 by omega),y0];refine aa (λq4=>?_) (λq4=>aa (λq5=>?_) (λq5=>?_))
     ·have hc:xs.length<i+q%2\/ys.length<j+q/2:= .inl (by have:=dT q4;omega);exact bZ (4-(q+1)) (by omega) ⟨by omega,by omega,rfl,_,_,s,N,U,by rw[<-IC P hc];exact h⟩
     ·have hc:xs.length<i+q%2\/ys.length<j+q/2:= .inr (by have:=dT q5;omega);exact bZ (4-(q+1)) (by omega) ⟨by omega,by omega,rfl,_,_,s,N,U,by rw[<-IC P hc];exact h⟩
     ·have y2:¬xs.length<i+q%2:=by have:=dF q4;omega
      have y4:¬ys.length<j+q/2:=by have:=dF q5;omega
      rw[RQ P (by omega)]at h;have f:=VY (i:=i+q%2) (j:=j+q/2) (Q:=Q) (G:=λg=>aI (fj (fC xa xs.length xc ya ys.length yc k kt X b bn bc i j J M.af.length R) (λE q g=>1<=q/\q<=4/\E=4-q/\∃d T,TB h0 kt X Y X Z d g/\TV M.kind M.af.length X Y d T g/\Rd g 9 (.slice J M.af.length R) (eF V)/\Rv M B xs ys i j V q T=G)) E [(.slice xa xs.length xc),(.slice ya ys.length yc),(pA k),(.slice b bn bc),(sA kt X X),(iA i),(iA j),(.slice J M.af.length R),(iA (q+1))] g) w mo mb s N U vl (by omega) (by omega) (bO xs i (q%2)) (bO ys j (q/2))
       (λe g ok=>hQ _ _ ⟨by rw[e]at h;rw[<-h];rfl,ok⟩)
       (λT' e y5 g t1 t2 t3=>bZ (4-(q+1)) (by omega) ⟨by omega,by omega,rfl,_,_,t1,t2,t3,by rw[e]at h;exact h⟩)
      refine aa (λq6=>?_) (λq6=>?_)
      ·have h1:q%2=1:=by have:((q%2:Nat):Int)=1:=(by simpa using q6);omega
       obtain⟨p,C,K⟩:=dK.at_ (dK.ok rx s.ok) (i:=i) (by omega);have t:bO xs i (q%2)=xs.getD i 0:=if_pos h1;rw[t]at f;refine⟨_,C,_,K,aa (λD=>?_) (λD=>?_)⟩
       ·have I:q/2=1:=by have:((q/2:Nat):Int)=1:=(by simpa using D);omega
        obtain⟨p,C,K⟩:=dK.at_ (dK.ok ry s.ok) (i:=j) (by omega);have t:bO ys j (q/2)=ys.getD j 0:=if_pos I;rw[t]at f;exact⟨_,C,_,K,f⟩
       ·have I:¬q/2=1:=λe=>by rw[e]at D;exact absurd D (by decide)
        have t:bO ys j (q/2)=0:=if_neg I;rw[t]at f;exact f
      ·have h1:¬q%2=1:=λe=>by rw[e]at q6;exact absurd q6 (by decide)
       have t:bO xs i (q%2)=0:=if_neg h1;rw[t]at f;refine aa (λD=>?_) (λD=>?_)
       ·have I:q/2=1:=by have:((q/2:Nat):Int)=1:=(by simpa using D);omega
        obtain⟨p,C,K⟩:=dK.at_ (dK.ok ry s.ok) (i:=j) (by omega);have t:bO ys j (q/2)=ys.getD j 0:=if_pos I;rw[t]at f;exact⟨_,C,_,K,f⟩
       ·have I:¬q/2=1:=λe=>by rw[e]at D;exact absurd D (by decide)
        have t:bO ys j (q/2)=0:=if_neg I;rw[t]at f;exact f
    ·obtain rfl:q=4:=by have:=dF q3;omega
     rw[WH]at h;rw[aN A (by omega)];exact bZ (Y-(j+1)) (by omega) ⟨by omega,rfl,_,_,s,N,h⟩
  ·obtain rfl:j=Y:=by have:=dF q2;omega
   rw[hY,WG]at r;rw[aN m (by omega)];exact bZ (X-(i+1)) (by omega) ⟨by omega,rfl,_,_,x0,x2,r⟩
 ·obtain rfl:i=X:=by have:=dF q1;omega
  unfold RW at L;rw[hX,iD]at L;have L:oJ (aY M.kind) (gm M) (dL T xs.length ys.length)=G:=L;have a:=S.room 15;have O:TV M.kind M.af.length i Y d T (Go.Ab.room g1 15):=tv.ok ((Ok.refl S.ok.wf).room 15);have H:=mb.ok a.ok;have m:xs.length<i:=by omega
  have A:ys.length<Y:=by omega
  obtain⟨ad,c,ec,rc,vc⟩:=O.at_ xs.length ys.length m A;have F:=a.ldV m A;rw[ec]at F;refine⟨_,H.all,_,CS yr yN m,_,_,_,a.Wu m (Nat.le_refl _),_,CS nP nz A,_,_,_,F,(Y1 a.ok.wf mo H.row rc vc).mono ?_⟩;rintro _ g3 ⟨rfl,o3⟩;rw[L];obtain⟨l,n,C,K⟩:=je (o:=G) (a.ok.trans o3);exact⟨l,n,C,hQ _ _ K⟩
end
end
section
theorem WM{a b:Nat}(d:a<n)(c:b<m)(l:List (List UInt8)):dL (List.replicate n (List.replicate m l)) a b=l:=by
 unfold dL;rw[gD,gD,List.getElem?_replicate,if_pos d,Option.getD_some,List.getElem?_replicate,if_pos c];rfl
theorem Yu{X Y:Nat}(l:List (List UInt8)):(List.replicate X (List.replicate Y l)).length=X/\∀a,a<X->((List.replicate X (List.replicate Y l)).getD a []).length=Y:=by
 refine⟨length_replicate,λa b=>?_⟩;rw[gD,List.getElem?_replicate,if_pos b];exact length_replicate
section
variable {h0:ae} {M:bw} {x:Option Addr} {z k kt:Nat} {xa ya:Option Addr} {xc yc:Nat} {xs ys:List Int} {B:Option LM} {b:Option Addr} {bn bc:Nat}
theorem Za(w:Wf h0)(C:On M)(mb:MB h0 k M x M.af.length z)(hx:xs.length<=200)(hy:ys.length<=200)(rx:dK h0 (.slice xa xs.length xc) xs)(ry:dK h0 (.slice ya ys.length yc) ys)(sb:Z1 M.kind M.af.length h0 b bn bc B){Q:VH}{g:ae}
  (ok:Ok h0 g) (hk:g.get kt=some (.cells (List.replicate (xs.length+1) nA) 103 1 true)) (nk:h0.next<=kt) (hQ:∀v g,oQ h0 (RW M B xs ys 0 (kd (aY M.kind) (gm M) xs ys)) v g->Q v g):
  LL SS cI [1,1,1,1,1,0,1,0,0] (lz xa xs.length xc ya ys.length yc k kt (xs.length+1) b bn bc 0) g (KK SS cI [1,1,1,1,1,0,1,0] [] (EE SS cI Q)):=by
 obtain⟨X,hX⟩:∃X,X=xs.length+1:=⟨_,rfl⟩
 obtain⟨Y,hY⟩:∃Y,Y=ys.length+1:=⟨_,rfl⟩
 obtain⟨f,O⟩:∃f,f=bB (aY M.kind) M.af.length:=⟨_,rfl⟩
 rw[<-hX]at hk⊢;have hn:=C.n;have t0:TB h0 kt X Y 0 (λ_=>0) (λ_ _=>nA) g:=by
  refine⟨?_,λa o=>by omega,⟨nk,λa o=>by omega⟩,λa b o=>by omega,ok⟩;rw[hk];congr 2;refine ext_getElem (by simp) λa h1 h2=>?_;simp
 refine DQ (bK M x M.af.length z) xa xs.length xc ya ys.length yc k kt X b bn bc (λmz i g=>i<=X/\mz=X-i/\∃I r c,TB h0 kt X Y i I r g/\(∀a b,i<=a->r a b=nA)/\ZF h0 g M.af.length f r c (λa b=>a<i/\b<Y)) _ (λmz i=>?_) X (i:=0) ⟨by omega,rfl,_,_,λ_ _=>0,t0,λ_ _ _=>rfl,λa b s=>by omega⟩;intros;rename_i p x3;obtain⟨f1,f2,I,r,c,D,H,zf⟩:=x3;rw[aN (i:=ys.length) (n:=Y) (by omega) (by omega),<-hY];refine aa (λq1=>?_) (λq1=>?_)
 ·have N:i<X:=by have:=dT q1;omega
  have d:=D.qQ ((Ok.refl D.ok.wf).push (.cells (List.replicate Y nA) 107 1 true));obtain⟨u,st,t,kp,nx⟩:=d.adE w N (aJ p _) D.ok.nx (λa o=>by have:=D.ok.wf _ _ (D.row a o);omega) (λb=>H i b (Nat.le_refl _));refine⟨_,_,_,TO Y (by omega),_,CS yr yN N,u,st,?_⟩;have y3:∀q l,VB p q l->VB (p.push (.cells (List.replicate Y nA) 107 1 true)) q l:=λq l m=>((Ok.refl D.ok.wf).push (.cells (List.replicate Y nA) 107 1 true)).ext _ _ m;refine DR (bK M x M.af.length z) xa xs.length xc ya ys.length yc k kt X b bn bc _ mz i (λW j g=>j<=Y/\W=Y-j/\∃r c,TB h0 kt X Y (i+1) (λa=>if a=i then p.next else I a) r g/\(∀a b,i<a->r a b=nA)/\ZF h0 g M.af.length f r c (λa b=>b<Y/\(a<i\/(a=i/\b<j)))) _ (λW j=>?_) Y (j:=0) ⟨by omega,rfl,_,c,t,λa b o=>H a b (by omega),zf.mono (λq l m=>kp _ _ (y3 _ _ m)) (λa b s=>⟨by omega,s.1⟩)⟩;intros;rename_i L x2;obtain⟨d1,d2,y6,y4,K,E,V⟩:=x2;refine aa (λq2=>?_) (λq2=>?_)
  ·have hj:j<Y:=by have:=dT q2;omega
   have A:=K.room 9;have U:=mb.ok A.ok;have J:=A.Wu (i:=i) (by omega) (by omega);refine⟨_,CS yr yN N,_,_,_,J,_,U.all,(uS A.ok.wf C U.row).mono ?_⟩;rintro _ g3 ⟨kl,rfl,x1,nl,o3⟩;rw[<-O]at x1;have Z:=A.qQ o3;obtain⟨u,st,x7,_,P,_⟩:=Z.Yg w (i:=i) (j:=j) (by omega) hj (y:=sA kl M.af.length M.af.length) rfl rfl;have x9:∀q l,VB L q l->VB g3 q l:=λq l m=>o3.ext _ _ m;refine⟨_,_,_,rfl,_,CS nP nz hj,u,st,⟨Z.Wu (by omega) (by omega),kj _ _ _⟩,?_⟩;rw[aN hj (by omega)];refine bZ (Y-(j+1)) (by omega) ⟨by omega,rfl,_,_,x7,λa b o=>?_,V.add (λq l m=>?_) (λq l m=>P _ _ (x9 _ _ m)) (P _ _ x1) (Nat.le_trans A.ok.nx nl) ?_ (λa b s=>?_) (λe a b s=>by omega)⟩
   ·unfold ZN;rw[if_neg (by omega)];exact E a b o
   ·have:q<L.next:=K.ok.wf _ _ m;have:L.next<=(Go.Ab.room L 9).next:=Nat.le_add_right _ _;omega
   ·by_cases e:i=0/\j=0
    ·exact .inl e
    ·right;omega
   ·by_cases e:a=i/\b=j
    ·exact .inr e
    ·left;omega
  ·obtain rfl:j=Y:=by have:=dF q2;omega
   rw[aN N (by omega)];exact bZ (X-(i+1)) (by omega) ⟨by omega,rfl,_,_,_,K,λa b o=>E a b (by omega),V.mono (λ_ _ m=>m) (λa b s=>⟨s.2,by omega⟩)⟩
 ·obtain rfl:i=X:=by have:=dF q1;omega
  have d:=D.room 11;have T:=mb.ok d.ok;have h:0<i/\0<Y:=by omega
  obtain⟨x5,y1,y0,_⟩:=zf 0 0 h;have J:=d.Wu (i:=0) h.1 (Nat.le_refl _);have x0:=d.ldV (i:=0) (j:=0) h.1 h.2;rw[x5]at x0;have F:VB (Go.Ab.room p 11) (c 0 0) f:=y1;have l1:=T.l1;have x8:M.start.toNat<M.af.length:=by have:=C.start;omega
  have x4:M.start=((M.start.toNat:Nat):Int):=by have:=C.start;omega
  rw[x4]at l1;have S:f.length=M.af.length:=by rw[O];exact Nh _ _
  refine⟨_,CS yr yN (i:=0) h.1,_,_,_,J,_,CS nP nz (i:=0) h.2,_,_,_,x0,_,tn _,_,l1,_,mC _,_,T.l2,_,VB.ix ty x8,_,F.st ty (by omega) _,?_⟩;have m:=d.ok.wf _ _ F;have t:TB h0 kt i Y i I r ((dM.set (c 0 0) (.cells (eF (f.set M.start.toNat M.lead)) 9 1 true)).app (Go.Ab.room p 11)):=by
   refine⟨?_,λa o=>?_,d.new,d.inj,d.ok.set _ y0 m w⟩
   ·show((Go.Ab.room p 11).set (c 0 0) _).get kt=_;rw[ae.aw,if_neg (kf d.out F (by decide))];exact d.out
   ·have:=d.row a o;show((Go.Ab.room p 11).set (c 0 0) _).get (I a)=_;rw[ae.aw,if_neg (kf this F (by decide))];exact this
  have vz:VV M.kind M.af.length f:=by rw[O];exact VV.Ol C.kind _
  have G:TV M.kind M.af.length i Y r (kd (aY M.kind) (gm M) xs ys) ((dM.set (c 0 0) (.cells (eF (f.set M.start.toNat M.lead)) 9 1 true)).app (Go.Ab.room p 11)):=by
   have e0:kd (aY M.kind) (gm M) xs ys=fm (List.replicate i (List.replicate Y f)) 0 0 (f.set M.start.toNat M.lead):=by
    unfold kd;rw[CN,<-O,<-hX,<-hY];rfl
   rw[e0];obtain⟨r1,r2⟩:=Yu (X:=i) (Y:=Y) f;obtain⟨s1,s2⟩:=Km r1 r2 h.1 h.2 (f.set M.start.toNat M.lead);refine⟨s1,s2,λa b o R=>?_⟩;rw[IJ r1 r2 h.1 h.2,WM o R];obtain⟨ec,x6,y5,y2⟩:=zf a b ⟨o,R⟩;by_cases e:a=0/\b=0
   ·rw[if_pos e];obtain⟨rfl,rfl⟩:=e;refine⟨some ⟨c 0 0,0,none⟩,M.af.length,ec,?_,vz.set C.lead⟩;have v1:VB ((dM.set (c 0 0) (.cells (eF (f.set M.start.toNat M.lead)) 9 1 true)).app (Go.Ab.room p 11)) (c 0 0) (f.set M.start.toNat M.lead):=by
     show((Go.Ab.room p 11).set (c 0 0) _).get (c 0 0)=_;rw[ae.aw,if_pos rfl]
    have:=v1.rd M.af.length;rw[length_set,S]at this;exact this
   ·rw[if_neg e];refine⟨some ⟨c a b,0,none⟩,M.af.length,ec,?_,vz⟩;have v1:VB ((dM.set (c 0 0) (.cells (eF (f.set M.start.toNat M.lead)) 9 1 true)).app (Go.Ab.room p 11)) (c a b) f:=by
     show((Go.Ab.room p 11).set (c 0 0) _).get (c a b)=_;rw[ae.aw,if_neg (y2.resolve_left e)];exact x6
    have:=v1.rd M.af.length;rw[S]at this;exact this
  rw[hX]at t G⊢;rw[hY]at t G;exact Zb w C mb hx hy rx ry sb t G hQ
end
def wtQ(h:ae)(M:bw)(xs ys:List Int):VH:=λv g=>v=(if(ca M&&(eI xs&&eI ys))=true then Mf (eC (aY M.kind) (gm M) xs ys)else two [] 1)/\Ok h g
theorem abo(w:Wf h){M:bw}(U:Small M){x:Option Addr}{y z:Nat}(r:dx h (.slice x y z) M.af){xa ya:Option Addr}{S xc I yc:Nat}{xs ys:List Int}(C:dK h (.slice xa S xc) xs)(E:dK h (.slice ya I yc) ys):
  FW SS 48 [.agg ⟨bK M x y z⟩,.slice xa S xc,.slice ya I yc] h (wtQ h M xs ys):=by
 obtain⟨k,A⟩:=fo w r;obtain rfl:y=M.af.length:=k.len;obtain rfl:=dK.len C;obtain rfl:=dK.len E;refine abn (bK M x M.af.length z) xa xs.length xc ya ys.length yc h _ ⟨_,iH M x _ z,_,k.all,(qI A.wf U k.row).mono ?_⟩;rintro _ R ⟨rfl,H⟩;have c:=A.trans H;refine⟨_,rfl,aa (λq=>⟨?_,c⟩) (λq=>(yG (dK.ok C c)).mono ?_)⟩
 ·rw[not_eq_true']at q;rw[q];rfl
 rw[not_eq_false']at q;rintro _ D ⟨rfl,F⟩;obtain rfl:R=D:=F.symm;refine⟨_,rfl,aa (λj=>⟨?_,c⟩) (λj=>(yG (dK.ok E c)).mono ?_)⟩
 ·rw[not_eq_true']at j;rw[q,j];rfl
 rw[not_eq_false']at j;rintro _ D ⟨rfl,F⟩;obtain rfl:R=D:=F.symm;refine⟨_,rfl,aa (λm=>⟨?_,c⟩) (λm=>?_)⟩
 ·rw[not_eq_true']at m;rw[q,j,m];rfl
 rw[not_eq_false']at m;have P:∀g v,oQ h (eC (aY M.kind) (gm M) xs ys) v g->wtQ h M xs ys v g:=λg v a=>by
  refine⟨?_,a.2⟩;rw[q,j,m];exact a.1
 have J:=tz q;have u:=k.ok H;have p:∀l,eI l=true->l.length<=200:=λl p=>by
  unfold eI at p;rw[and_eq_true]at p;exact dT p.1
 have X:=p xs j;have hy:=p ys m;refine⟨_,u.all,(Y3 c.wf J u.row).mono ?_⟩;rintro _ s ⟨L,a⟩;have f:=c.trans L;have N:=u.ok L;have t:∀(B:Option LM)(b:Option Addr)(bn bc:Nat),dU (aY M.kind) (gm M)=some B->Z1 M.kind M.af.length s b bn bc B->au (((0:Int) !=0)) (wtQ h M xs ys (.tuple ⟨[(strOf []),(.int .i64 0)]⟩) s) (xR (ch SS.P 106 (.int .i64 (wrap .i64 ((xs.length:Int)+1))) (.int .i64 (wrap .i64 ((xs.length:Int)+1)))) s λx0 O G K=>LL SS cI [1,1,1,1,1,0,1,0,0] [(.slice xa xs.length xc),(.slice ya ys.length yc),(pA (h.next)),(.slice b bn bc),(sA (s.next) O G),(.int .i64 0)] K (KK SS cI [1,1,1,1,1,0,1,0] [] (EE SS cI (wtQ h M xs ys)))):=by
  intro B b bn bc Y sb;refine aa (λe=>by cases e) (λ_=>?_);rw[aN (i:=xs.length) (n:=xs.length+1) (by omega) (by omega)];refine⟨_,_,_,acJ (xs.length+1) (by omega),?_⟩;have V:=(Ok.refl f.wf).push (.cells (List.replicate (xs.length+1) nA) 103 1 true);have T:RW M B xs ys 0 (kd (aY M.kind) (gm M) xs ys)=eC (aY M.kind) (gm M) xs ys:=by
   unfold RW eC;rw[Y,Nat.sub_zero];dsimp only
   cases bd (qX (aY M.kind) (gm M) B xs ys) (xs.length+1) 0 (kd (aY M.kind) (gm M) xs ys)<;>rfl
  exact Za (kt:=s.next) f.wf J N X hy (dK.ok C f) (dK.ok E f) sb V (aJ s _) (Nat.le_refl _) (λv g a=>P g v ⟨by rw[<-T];exact a.1,f.trans a.2⟩)
 cases e:dU (aY M.kind) (gm M)with
 |none=>
  rw[e]at a;subst a;exact⟨_,_,_,_,rfl,aa (λ_=>P _ _ ⟨by unfold eC;rw[e];rfl,f⟩) (λe=>by cases e)⟩
 | some o=>
  cases o with
  |none=>
   rw[e]at a;subst a;exact⟨_,_,_,_,rfl,t none none 0 0 e ⟨rfl,rfl,rfl⟩⟩
  |some B=>
   rw[e]at a;obtain⟨Q,d,rfl,Z,W⟩:=a;exact⟨_,_,_,_,rfl,t (some B) (some Q) _ d e ⟨⟨Q,rfl⟩,rfl,Z,W⟩⟩
end
end Go.Proofs.YtaaichlgdgjgjaaGreatDoor
end
section
namespace Go.Proofs.YtaaichlgdgjgjaaGreatDoor
open Go Go.Ab Go.Num Go.Num.bm
variable{p:List Int}
section
section
variable {K:Type} {S:bm K} {dec:List UInt8->K} {kind:Int}
def vmM(S:bm K)(dec:List UInt8->K)(M:bw):m9 K:=eH S (mapM dec (gm M))
def KG(S:bm K)(dec:List UInt8->K)(M:bw):ady K:=λx y=>S.mul (dec M.lead) (m9.val S (vmM S dec M) x y M.start.toNat)
theorem acB(m:1<=kind/\kind<=3)(f:vk S dec kind):Gu (aY kind) (aq S) (λa=>aM kind a=true) dec where
 zero:=⟨sC m,f.zero⟩
 one:=by
  refine⟨?_,f.one⟩;have:kind=1\/kind=2\/kind=3:=by omega
  show aM kind (sG kind)=true;rcases this with rfl|rfl|rfl
  ·exact mU.2 (.inr (.inr (by decide)))
  ·exact qy (.inl rfl)
  ·exact qy (.inr rfl)
 xq:=λ{a} h=>by
  have d:(aq S).xq (dec a)=true↔dec a=S.zero:=uf;have g:(aY kind).xq a=true↔a=bF kind:=by show(a==bF kind)=true↔_;simp
  have l:dec a=S.zero↔a=bF kind:=⟨λe=>f.inj h (sC m) (e.trans f.zero.symm),λe=>by rw[e];exact f.zero⟩
  cases j:(aq S).xq (dec a)<;>cases k:(aY kind).xq a
  ·rfl
  ·rw[d.2 (l.2 (g.1 k))]at j;cases j
  ·rw[g.2 (l.1 (d.1 j))]at k;cases k
  ·rfl
 plus:=λ{a b c} h i e=>by
  obtain⟨d,g⟩:=f.plus h i e;exact⟨d,by show some _=some _;rw[g]⟩
 times:=λ{a b c} h i e=>by
  obtain⟨d,g⟩:=f.times h i e;exact⟨d,by show some _=some _;rw[g]⟩
 star:=λ{a c} h e=>by
  obtain⟨d,g⟩:=f.star h e;exact⟨d,by show some _=some _;rw[g]⟩
variable {M:bw}
theorem abl(d:On M):BY (λa=>aM M.kind a=true) (gm M):=by
 refine⟨d.lead,λs g f c=>?_,λs g a j=>?_⟩
 ·obtain⟨t,h,rfl⟩:=mem_map.1 g;by_cases e:t.f=[]
  ·have:(Ez t).fin=none:=if_pos e;rw[this]at c;cases c
  ·have:(Ez t).fin=some t.f:=if_neg e;rw[this]at c;obtain rfl:=oI c;exact d.fin t h e
 ·obtain⟨t,h,rfl⟩:=mem_map.1 g;obtain⟨b,i,rfl⟩:=mem_map.1 j;exact(d.arc t h b i).1
theorem XH(g:On M):kM (mapM dec (gm M)):=λs h a i=>by
 obtain⟨t,k,rfl⟩:=mem_map.1 h;obtain⟨j,c,rfl⟩:=mem_map.1 k;obtain⟨b,f,rfl⟩:=mem_map.1 i;obtain⟨e,d,rfl⟩:=mem_map.1 f;have:=g.arc j c e d;show e.t.toNat<((M.af.map Ez).map (qW dec)).length;rw[lM,lM];omega
theorem Vq(h:eI p=true):∀s∈p,s≠0:=λs a e=>by
 unfold eI at h;rw[and_eq_true,all_eq_true]at h;have:=h.2 s a;rw[e]at this;exact absurd this (by decide)
theorem VZ(f:vk S dec M.kind)(a:On M){x y:List Int}(c:∀s∈x,s≠0)(h:∀s∈y,s≠0){w:List UInt8}(e:eC (aY M.kind) (gm M) x y=some w):aM M.kind w=true/\dec w=KG S dec M x y:=by
 obtain⟨d,g⟩:=GI (acB a.kind f) (abl a) e;refine⟨d,?_⟩;have b:(mapM dec (gm M)).start<(mapM dec (gm M)).bL.length:=by
  show M.start.toNat<((M.af.map Ez).map (qW dec)).length;rw[lM,lM];have:=a.start;omega
 exact Lf (XH a) b c h g
variable {C X:bw} {L R:List dP} {low:Nat}
end
end
section
section
variable {K:Type} {S:bm K} {dec:List UInt8->K} {A B:bw}
theorem Xr(h:Wy A):A.af.map (my 0 none)=A.af:=by
 have:∀s∈A.af,my 0 none s=s:=λs b=>by
  have e:s.arcs.map (Eb 0)=s.arcs:=by
   have:∀a∈s.arcs,Eb 0 a=a:=λa _=>by
    unfold Eb;simp
   calc s.arcs.map (Eb 0)=s.arcs.map id:=map_congr_left this
    _=s.arcs:=List.map_id _
  unfold my zJ;rw[e];split
  ·next h=>rw[<-h]
  ·rfl
 calc A.af.map (my 0 none)=A.af.map id:=map_congr_left this
  _=A.af:=List.map_id _
theorem Rk(a:Wy A){wt c:List UInt8}(d:dec c=S.mul (dec wt) (dec A.lead))(x y:List Int):KG S dec (iW A c) x y=S.mul (dec wt) (KG S dec A x y):=by
 have e:vmM S dec (iW A c)=vmM S dec A:=by
  unfold vmM eH bE mapM gm iW;dsimp only;rw[Xr a]
 have b:(((0:Nat):Int)+A.start).toNat=A.start.toNat:=by omega
 show S.mul (dec c) (m9.val S (vmM S dec (iW A c)) x y (((0:Nat):Int)+A.start).toNat)=_;rw[e,b,d,S.mul_assoc];rfl
end
end
end Go.Proofs.YtaaichlgdgjgjaaGreatDoor
end
section
namespace Go.Proofs.YtaaichlgdgjgjaaGreatDoor
open Go Go.Ab Go.Num
variable{M:bw}{z:Int}{n:Nat}{m:Nat}{k:Nat}
section
structure StW(kind:Int)(N:Nat)(s:dP):Prop where
 f:s.f=[]\/ba kind s.f=true
 a:∀q∈s.arcs,hI kind N q=true
theorem Kw{a:Int}{N:Nat}:∀{l:List dP}{b:Int},b+cg l<=30000->(∀s∈l,StW a N s)->nQ a N b l=true
 |[],_,_,_=>rfl
 |s::l,b,h,c=>by
  rw[dm]at h;have d:=c s (List.mem_cons_self ..);unfold nQ;rw[and_eq_true,and_eq_true,and_eq_true];refine⟨⟨⟨decide_eq_true (by omega),?_⟩,all_eq_true.2 d.a⟩,Kw (by omega) λt f=>c t (List.mem_cons_of_mem _ f)⟩;rcases d.f with e|e
  ·rw[e];rfl
  ·rw[e,Bool.or_true]
structure Z2(M:bw):Prop where
 kind:1<=M.kind/\M.kind<=3
 n:1<=M.af.length/\M.af.length<=3000
 start:0<=M.start/\M.start<M.af.length
 lead:ba M.kind M.lead=true
 sum:cg M.af<=30000
 st:∀s∈M.af,StW M.kind M.af.length s
theorem Z2.valid(v:Z2 M):ca M=true:=by
 unfold ca;simp only[and_eq_true,decide_eq_true_eq];exact⟨⟨⟨⟨⟨⟨⟨v.kind.1,v.kind.2⟩,v.n.1⟩,v.n.2⟩,v.start.1⟩,v.start.2⟩,v.lead⟩,Kw (by have:=v.sum;omega) v.st⟩
theorem M5(h:ca M=true)(a:cg M.af<=30000):Z2 M:=by
 unfold ca at h;simp only[and_eq_true,decide_eq_true_eq]at h;obtain⟨⟨⟨⟨⟨⟨⟨e,f⟩,c⟩,i⟩,l⟩,k⟩,g⟩,d⟩:=h;refine⟨⟨e,f⟩,⟨c,i⟩,⟨l,k⟩,g,a,λs a=>?_⟩;obtain⟨b,j⟩:=Af d s a;refine⟨?_,j⟩;rw[Bool.or_eq_true]at b;exact b.imp cn id
theorem Dl{a:List UInt8}(h:ax a=true):a.length<=802:=by
 have r:=aP.1 h;obtain⟨b,c⟩:=Hz r;have d:=r.ln;have e:=r.ld;rw[r.txt,NM,length_append,length_append,<-b];have:(if Num.val (ak a)=1 then[]else 47::ag (Num.val (ak a))).length<=401:=by
  split
  ·simp
  ·rw[length_cons,<-c];omega
 have:(if Num.isNeg a=true/\Num.val (Num.numOf a)≠0 then[45]else([]:List UInt8)).length<=1:=by split<;>simp
 omega
theorem wK{a:List UInt8}(h:ba z a=true):ax a=true:=by
 unfold ba at h;rw[and_eq_true,and_eq_true]at h;exact h.1.2
theorem Z2.small(v:Z2 M)(b:M.af.length<=300)(d:cg M.af<=2000):Small M where
 lead:=by have:=Dl (wK v.lead);omega
 bL:=b
 fin:=λs a=>by
  rcases(v.st s a).f with e|e
  ·rw[e];simp
  ·have:=Dl (wK e);omega
 arcs:=λs a=>by
  obtain⟨i,f,e⟩:=List.mem_iff_getElem.1 a;have:=Kx (l:=M.af) (i:=i) (s:=s) (by rw[gE f,e]);omega
 w:=λs a q c=>by
  have h:=(v.st s a).a q c;unfold hI at h;rw[and_eq_true]at h;have:=Dl (wK h.2);omega
 tot:=d
theorem II{q:gZ}(b:sM q.i=true)(c:sM q.o=true)(a:0<=q.t/\q.t<n)(d:ba z q.w=true):hI z n q=true:=by
 unfold hI;rw[b,c,d,decide_eq_true a.1,decide_eq_true a.2];rfl
theorem acr{b:Option Int}{s:dP}(h:StW z n s)(l:k+n<=m)(e:∀t,b=some t->0<=t/\t<m):StW z m (my k b s):=by
 have c:∀q∈s.arcs.map (Eb k),hI z m q=true:=λq a=>by
  obtain⟨p,i,rfl⟩:=mem_map.1 a;have:=h.a p i;unfold hI at this;simp only[and_eq_true,decide_eq_true_eq]at this;obtain⟨⟨⟨⟨f,g⟩,o⟩,r⟩,j⟩:=this;exact II f g ⟨by show 0<=p.t+(k:Int);omega,by show p.t+(k:Int)<m;omega⟩ j
 unfold my;split
 ·exact⟨.inl rfl,c⟩
 ·next d=>
  cases b with
  |none=>exact⟨h.f,c⟩
  |some t=>
   refine⟨.inl rfl,λq a=>?_⟩;rcases List.mem_append.1 a with a|a
   ·exact c q a
   ·have:=List.mem_singleton.1 a;subst this;exact II rfl rfl (e t rfl) (h.f.resolve_left d)
section
variable {A B:bw}
theorem O9(a:Nat)(b:Option Int):cg (M.af.map (my a b))<=cg M.af+M.af.length:=lQ a b M.af
theorem YD{c:List UInt8}(d:Z2 A)(i:ba A.kind c=true)(l:A.af.length<=100)(k:cg A.af<=500):Z2 (iW A c)/\(iW A c).af.length=A.af.length/\cg (iW A c).af<=cg A.af+A.af.length:=by
 have b:(iW A c).af=A.af.map (my 0 none):=rfl;have a:(iW A c).af.length=A.af.length:=by rw[b];simp
 have f:cg (iW A c).af<=cg A.af+A.af.length:=by rw[b];exact O9 (M:=A) 0 none
 have m:=d.start;have j:=d.n;refine⟨⟨d.kind,⟨by omega,by omega⟩,⟨by show 0<=((0:Nat):Int)+A.start;omega,by rw[a];show((0:Nat):Int)+A.start<_;omega⟩,i,by omega,λs g=>?_⟩,a,f⟩;rw[a];show StW A.kind _ s;rw[b]at g;obtain⟨t,h,rfl⟩:=mem_map.1 g;exact acr (d.st t h) (by omega) (λt e=>by cases e)
end
theorem Xq{b:Option Int}{s:dP}(h:s.arcs.all zg=true):(my n b s).arcs.all zg=true:=by
 have a:(s.arcs.map (Eb n)).all zg=true:=by
  rw[List.all_map];exact h
 unfold my;split
 ·exact a
 ·cases b with
  |none=>exact a
  |some t=>
   show(s.arcs.map (Eb n)++[(⟨0,0,s.f,t⟩:gZ)]).all zg=true;rw[List.all_append,a];rfl
end
noncomputable def Tv:FD:=cG Tryz.f11 []
theorem Pz(j:OA)(i l:Nat)(k:OA)(g m:Nat)(h:ae)(Q:VH)(n:au (decide ((wrap .i64 ((i:Int)+(g:Int)):Int)<=6)) (FW SS 15 [(.slice j i l)] h λe f=>yB e λd=>au d (FW SS 15 [(.slice k g m)] f λb c=>yB b λa=>Q (.bool a) c) (Q (.bool false) f)) (Q (.bool false) h)):FW SS 11 [(.slice j i l),(.slice k g m)] h Q:=cQ Tv Tryz.func11 (ai n)
noncomputable def gk:FD:=cG Tryz.f24 [([1,1,0,1,0,0],[1,3]),([1,1,0,1,0,0,1,0,0,1,1,0,0],[1,3,4])]
abbrev iO(k:Nat)(i:Nat):LV:=[(pA k),(iA i)]
abbrev mZ(k i:Nat)(j:Nat):LV:=[(pA k),(iA i),(iA j)]
theorem Ts(k:LV)(h:ae)(Q:VH)(l:xN (eK SS.P 29 (.agg ⟨k⟩)) h λ_ j=>fP 29 (pA (h.next)) 3 λi=>lL 27 j i λ_ g _=>au (decide (((g:Int):Int)>8)) (Q (.bool true) j) (lA 29 j (pA (h.next)) λf=>FW SS 56 [(.agg ⟨f⟩)] j λd e=>yI .i64 d λc=>au (decide ((c:Int)>40)) (Q (.bool true) e) (fP 29 (pA (h.next)) 2 λb=>lS e b λa=>au (decide ((((a:LB).length:Int):Int)>40)) (Q (.bool true) e) (LL SS gk [1,1,0,1,0,0] (iO (h.next) 0) e (KK SS gk [1,1,0,1,0] [] (EE SS gk Q)))))):FW SS 24 [(.agg ⟨k⟩)] h Q:=cQ gk Tryz.func24 (ai l)
theorem zH(q:LV)(k:Nat)(n:Nat->Nat->ae->Prop)(Q:VH)(step:∀(m:Nat) (i:Nat) (p:Nat->Value) (h:ae),n m i h->fP 29 (pA k) 3 λl=>lL 27 h l λ_ j _=>au (decide (((i:Int):Int)<(j:Int))) (fP 29 (pA k) 3 λg=>lL 27 h g λd e f=>iP 27 (.slice d e f) (iA i) λc=>fP 73 (.pointer (some c)) 0 λb=>lS h b λa=>au (decide ((((a:LB).length:Int):Int)>40)) (Q (.bool true) h) (LL SS gk [1,1,0,1,0,0,1,0,0,1,1,0,0] (mZ k i 0) h (KK SS gk [1,0,0,1,1,0] [1,1,0,1,0,0] (RR gk [1,1,0,1,0,0] (fj (iO k) n) m (KK SS gk [1,1,0,1,0] [] (EE SS gk Q)))))) (Q (.bool false) h))(m:Nat){i:Nat}{h:ae}(o:n m i h):LL SS gk [1,1,0,1,0,0] (iO k i) h (KK SS gk [1,1,0,1,0] [] (EE SS gk Q)):=
 dg (iO k) n (λm i p h o=>ai (step m i p h o)) m o
theorem zI(D:LV)(k:Nat)(z:Nat->Nat->ae->Prop)(B i:Nat)(y:Nat->Nat->ae->Prop)(Q:VH)(step:∀(x:Nat) (j:Nat) (C:Nat->Value) (h:ae),y x j h->fP 29 (pA k) 3 λw=>lL 27 h w λt u v=>iP 27 (.slice t u v) (iA i) λs=>fP 73 (.pointer (some s)) 1 λr=>lL 71 h r λ_ q _=>au (decide (((j:Int):Int)<(q:Int))) (fP 29 (pA k) 3 λp=>lL 27 h p λm n o=>iP 27 (.slice m n o) (iA i) λl=>fP 73 (.pointer (some l)) 1 λg=>lL 71 h g λd e f=>iP 71 (.slice d e f) (iA j) λc=>fP 70 (.pointer (some c)) 2 λb=>lS h b λa=>au (decide ((((a:LB).length:Int):Int)>40)) (Q (.bool true) h) (aI (fj (mZ k i) y) x [(pA k),(iA i),(.int .i64 (wrap .i64 ((j:Int)+1)))] h)) (aI (fj (iO k) z) B [(pA k),(.int .i64 (wrap .i64 ((i:Int)+1)))] h))(x:Nat){j:Nat}{h:ae}(A:y x j h):LL SS gk [1,1,0,1,0,0,1,0,0,1,1,0,0] (mZ k i j) h (KK SS gk [1,0,0,1,1,0] [1,1,0,1,0,0] (RR gk [1,1,0,1,0,0] (fj (iO k) z) B (KK SS gk [1,1,0,1,0] [] (EE SS gk Q)))):=
 dg (mZ k i) y (λx j C h A=>ai (step x j C h A)) x A
noncomputable def Tu:FD:=cG Tryz.f39 []
theorem Px(g:LV)(e:Int)(i:OA)(n l:Nat)(k:OA)(j m:Nat)(h:ae)(Q:VH)(o:xN (eK SS.P 29 (.agg ⟨g⟩)) h λ_ f=>au (((e:Int) !=0)) (Q (strOf []) f) (lA 29 f (pA (h.next)) λe=>FW SS 48 [(.agg ⟨e⟩),(.slice i n l),(.slice k j m)] f λc d=>∃b:LB,∃a:Int,c=(.tuple ⟨[(strOf b),(.int .i64 a)]⟩)/\Q (strOf b) d)):FW SS 39 [(.agg ⟨g⟩),(.int .i64 e),(.slice i n l),(.slice k j m)] h Q:=cQ Tu Tryz.func39 (ai o)
noncomputable def Tr:FD:=cG Tryz.f19 []
theorem Pv(o:LV)(n:Int)(p:OA)(u s:Nat)(r:OA)(q t:Nat)(w:LB)(h:ae)(Q:VH)(v:xN (eK SS.P 29 (.agg ⟨o⟩)) h λ_ m=>lA 29 m (pA (h.next)) λl=>FW SS 26 [(.agg ⟨l⟩)] m λj k=>yB j λi=>au (!i) (Q (.bool false) k) (fP 29 (pA (h.next)) 0 λg=>lI k g λf=>au (((f:Int) !=n)) (Q (.bool false) k) (lA 29 k (pA (h.next)) λe=>FW SS 48 [(.agg ⟨e⟩),(.slice p u s),(.slice r q t)] k λc d=>∃b:LB,∃a:Int,c=(.tuple ⟨[(strOf b),(.int .i64 a)]⟩)/\au (((a:Int)==2)) (Q (.bool true) d) (au (((a:Int)==0)) (Q (.bool ((b:LB)==w)) d) (Q (.bool false) d))))):FW SS 19 [(.agg ⟨o⟩),(.int .i64 n),(.slice p u s),(.slice r q t),(strOf w)] h Q:=cQ Tr Tryz.func19 (ai v)
noncomputable def ac6:FD:=cG Tryz.f30 []
theorem aa5(k:Nat)(i j p q:Nat)(h:ae)(Q:VH)(A:fP 48 (pA k) 3 λD=>lA 29 (room h 24) (.pointer (some D)) λB=>fP 48 (pA k) 1 λE=>lL 22 (room h 24) E λy z C=>xL (bG SS.P 22 (.slice y z C) (some (iA i)) (some (iA j)) none (room h 24)) λv w x=>fP 48 (pA k) 2 λu=>lL 22 (room h 24) u λr s t=>xL (bG SS.P 22 (.slice r s t) (some (iA p)) (some (iA q)) none (room h 24)) λo p q=>FW SS 48 [(.agg ⟨B⟩),(.slice v w x),(.slice o p q)] (room h 24) λm n=>∃l:LB,∃j:Int,m=(.tuple ⟨[(strOf l),(.int .i64 j)]⟩)/\fP 48 (pA k) 4 λi=>lB n i λh=>au h (fP 48 (pA k) 4 λg=>xU (ah SS.P 4 (.pointer (some g)) (.bool (((j:Int)==0))) n) n λ_ f=>au (((j:Int) !=0)) (fP 48 (pA k) 0 λe=>lI f e λd=>FW SS 18 [(.int .i64 d)] f λb c=>yS b λa=>Q (strOf a) c) (Q (strOf l) f)) (fP 48 (pA k) 4 λg=>xU (ah SS.P 4 (.pointer (some g)) (.bool false) n) n λ_ f=>au (((j:Int) !=0)) (fP 48 (pA k) 0 λe=>lI f e λd=>FW SS 18 [(.int .i64 d)] f λb c=>yS b λa=>Q (strOf a) c) (Q (strOf l) f))):FW SS 30 [(pA k),(iA i),(iA j),(iA p),(iA q)] h Q:=cQ ac6 Tryz.func30 (ai A)
noncomputable def Vw:FD:=cG Tryz.f32 []
theorem Re(k:Nat)(a b:LB)(h:ae)(Q:VH)(m:fP 48 (pA k) 0 λl=>lI h l λj=>FW SS 65 [(.int .i64 j),(strOf a),(strOf b)] h λh i=>∃g:LB,∃f:Int,h=(.tuple ⟨[(strOf g),(.int .i64 f)]⟩)/\fP 48 (pA k) 4 λe=>lB i e λd=>au d (fP 48 (pA k) 4 λc=>xU (ah SS.P 4 (.pointer (some c)) (.bool (((f:Int)==0))) i) i λ_ b=>au (((f:Int) !=0)) (Q (strOf a) b) (Q (strOf g) b)) (fP 48 (pA k) 4 λc=>xU (ah SS.P 4 (.pointer (some c)) (.bool false) i) i λ_ b=>au (((f:Int) !=0)) (Q (strOf a) b) (Q (strOf g) b))):FW SS 32 [(pA k),(strOf a),(strOf b)] h Q:=cQ Vw Tryz.func32 (ai m)
section
def JM(s:dP):Bool:=decide (s.f.length<=40)&&s.arcs.all λq=>decide (q.w.length<=40)
def HO(M:bw):Bool:=decide (M.af.length<=8)&&(decide (cg M.af<=40)&&(decide (M.lead.length<=40)&&M.af.all JM))
def M7(xs ys:List Int):Bool:=decide (xs.length+ys.length<=6)&&(eI xs&&eI ys)
section
variable {h:ae} {M:bw} {a:Option Addr} {n c:Nat} {xa ya:Option Addr} {xn xc yn yc:Nat} {xs ys:List Int}
theorem PA(b:dK h (.slice xa xn xc) xs)(c:dK h (.slice ya yn yc) ys)(f:xs.length<=281474976710656)(i:ys.length<=281474976710656):FW SS 11 [.slice xa xn xc,.slice ya yn yc] h (λv g=>v = .bool (M7 xs ys)/\g=h):=by
 obtain rfl:=dK.len b;obtain rfl:=dK.len c;refine Pz xa _ xc ya _ yc h _ ?_;have e:wrap .i64 ((xs.length:Int)+(ys.length:Int))=((xs.length+ys.length:Nat):Int):=by rw[aB (by omega) (by omega)];omega
 rw[e];unfold M7;refine aa (λq=>(yG b).mono ?_) (λq=>?_)
 ·have q:=dT q;rw[decide_eq_true (show xs.length+ys.length<=6 by omega),Bool.true_and];rintro _ g ⟨rfl,d⟩;obtain rfl:h=g:=d.symm;refine⟨_,rfl,aa (λa=>(yG c).mono ?_) (λa=>?_)⟩
  ·rintro _ g ⟨rfl,rfl⟩;rw[a,Bool.true_and];exact⟨_,rfl,rfl,rfl⟩
  ·rw[a];exact⟨rfl,rfl⟩
 ·have q:=dF q;rw[decide_eq_false (show ¬xs.length+ys.length<=6 by omega)];exact⟨rfl,rfl⟩
theorem Tt(w:Wf h)(S:Bnd M)(r:dx h (.slice a n c) M.af):FW SS 24 [.agg ⟨bK M a n c⟩] h (λv g=>v = .bool (!HO M)/\Ok h g):=by
 obtain⟨l,H⟩:=fo w r;refine Ts (bK M a n c) h _ ⟨_,iH M a n c,?_⟩;generalize h.push (Bm M a n c)=g at*;have hl:=l.len;unfold HO;refine⟨_,da _,_,_,_,l.l3,aa (λq=>⟨?_,H⟩) (λq=>?_)⟩
 ·have:=dT q;rw[decide_eq_false (show ¬M.af.length<=8 by omega)];rfl
 have q:=dF q;have Q:M.af.length<=8:=by omega
 rw[decide_eq_true Q,Bool.true_and];refine⟨_,l.all,(Uy H.wf S (by omega) l.row).mono ?_⟩;rintro _ R ⟨rfl,O⟩;have k:=H.trans O;have e:=l.ok O;refine⟨_,rfl,aa (λt=>⟨?_,k⟩) (λt=>?_)⟩
 ·have:=dT t;rw[decide_eq_false (show ¬cg M.af<=40 by omega)];rfl
 have t:=dF t;rw[decide_eq_true (show cg M.af<=40 by omega),Bool.true_and];refine⟨_,mC _,_,e.l2,aa (λm=>⟨?_,k⟩) (λm=>?_)⟩
 ·have:=dT m;rw[decide_eq_false (show ¬M.lead.length<=40 by omega)];rfl
 have m:=dF m;rw[decide_eq_true (show M.lead.length<=40 by omega),Bool.true_and];generalize P:M.af.all JM=V;refine zH (bK M a n c) h.next (λC i A=>i<=n/\C=n-i/\A=R/\(M.af.drop i).all JM=V) _ (λC i=>?_) n (i:=0) ⟨by omega,rfl,rfl,P⟩;intros;rename_i W I;obtain⟨f1,f2,rfl,f⟩:=I;refine⟨_,da _,_,_,_,e.l3,aa (λG=>?_) (λG=>?_)⟩
 ·have X:i<n:=by have:=dT G;omega
  obtain⟨s,E⟩:∃s,M.af[i]?=some s:=⟨_,gE (by omega)⟩
  obtain⟨b,o,x',y,z,D,e2,T,N,J⟩:=e.row.at_ E;have hy:=J.len;have hm:s.arcs.length<=40:=by
   have:=C2 (List.mem_of_getElem? E);omega
  rw[fG E,all_cons]at f;refine⟨_,da _,_,_,_,e.l3,_,D,_,nE _ _,_,T,aa (λu=>⟨?_,k⟩) (λu=>?_)⟩
  ·have:=dT u;unfold JM at f;rw[decide_eq_false (show ¬s.f.length<=40 by omega),Bool.false_and,Bool.false_and]at f;rw[<-f];rfl
  have u:=dF u;have L:JM s=s.arcs.all λq=>decide (q.w.length<=40):=by
   unfold JM;rw[decide_eq_true (show s.f.length<=40 by omega),Bool.true_and]
  rw[L]at f;refine zI (bK M a n c) h.next _ C i (λx j A=>j<=y/\x=y-j/\A=W/\((s.arcs.drop j).all (λq=>decide (q.w.length<=40))&&(M.af.drop (i+1)).all JM)=V) _ (λx j=>?_) y (j:=0) ⟨by omega,rfl,rfl,f⟩;intros;rename_i g6 F;obtain⟨j1,j2,rfl,d⟩:=F;refine⟨_,da _,_,_,_,e.l3,_,D,_,iu _ _,_,_,_,N,aa (λB=>?_) (λB=>?_)⟩
  ·have Z:j<y:=by have:=dT B;omega
   obtain⟨q,K⟩:∃q,s.arcs[j]?=some q:=⟨_,gE (by omega)⟩
   obtain⟨bb,oo,Y,d2,d3,d4,U,d6⟩:=J.at_ K;rw[fG K,all_cons]at d;refine⟨_,da _,_,_,_,e.l3,_,D,_,iu _ _,_,_,_,N,_,Y,_,CD _ _,_,U,aa (λp=>⟨?_,k⟩) (λp=>?_)⟩
   ·have:=dT p;rw[decide_eq_false (show ¬q.w.length<=40 by omega),Bool.false_and,Bool.false_and]at d;rw[<-d];rfl
   ·have p:=dF p;rw[decide_eq_true (show q.w.length<=40 by omega),Bool.true_and]at d;rw[aN Z (by omega)];exact bZ (y-(j+1)) (by omega) ⟨by omega,rfl,rfl,d⟩
  ·have:=dF B;rw[List.drop_eq_nil_of_le (by omega)]at d;rw[aN X (by omega)];exact bZ (n-(i+1)) (by omega) ⟨by omega,rfl,rfl,d⟩
 ·have:=dF G;rw[List.drop_eq_nil_of_le (by omega)]at f;rw[<-f];exact⟨rfl,k⟩
def Av(M:bw)(xs ys:List Int):List UInt8×Int:=if(ca M&&(eI xs&&eI ys))=true then(match eC (aY M.kind) (gm M) xs ys with|some w=>(w,0)|none=>([],2))else([],1)
theorem Y9(M:bw)(xs ys:List Int):(if(ca M&&(eI xs&&eI ys))=true then Mf (eC (aY M.kind) (gm M) xs ys)else two [] 1)=two (Av M xs ys).1 (Av M xs ys).2:=by
 unfold Av;split
 ·cases eC (aY M.kind) (gm M) xs ys<;>rfl
 ·rfl
theorem HZ(w:Wf h)(d:Small M)(r:dx h (.slice a n c) M.af)(b:dK h (.slice xa xn xc) xs)(e:dK h (.slice ya yn yc) ys):
  FW SS 48 [.agg ⟨bK M a n c⟩,.slice xa xn xc,.slice ya yn yc] h (λv g=>v = .tuple ⟨[strOf (Av M xs ys).1,.int .i64 (Av M xs ys).2]⟩/\Ok h g):=by
 refine(abo w d r b e).mono ?_;rintro _ g ⟨rfl,f⟩;exact⟨Y9 M xs ys,f⟩
theorem Py(w:Wf h)(f:Small M)(r:dx h (.slice a n c) M.af)(e:dK h (.slice xa xn xc) xs)(i:dK h (.slice ya yn yc) ys):
  FW SS 39 [.agg ⟨bK M a n c⟩,.int .i64 0,.slice xa xn xc,.slice ya yn yc] h (λv g=>v=strOf (Av M xs ys).1/\Ok h g):=by
 obtain⟨d,b⟩:=fo w r;refine Px (bK M a n c) 0 xa xn xc ya yn yc h _ ⟨_,iH M a n c,aa (λq=>by cases q) (λ_=>⟨_,d.all,(HZ b.wf f d.row (dK.ok e b) (dK.ok i b)).mono ?_⟩)⟩;rintro _ g ⟨rfl,j⟩;exact⟨_,_,rfl,rfl,b.trans j⟩
def CO(M:bw)(b:Int)(xs ys:List Int)(a:List UInt8):Bool:=ca M&&(M.kind==b&&((Av M xs ys).2==2||((Av M xs ys).2==0&&(Av M xs ys).1==a)))
theorem Pw(w:Wf h)(p:Small M)(r:dx h (.slice a n c) M.af)(t:dK h (.slice xa xn xc) xs)(u:dK h (.slice ya yn yc) ys)(b:Int)(e:List UInt8):
  FW SS 19 [.agg ⟨bK M a n c⟩,.int .i64 b,.slice xa xn xc,.slice ya yn yc,strOf e] h (λv g=>v = .bool (CO M b xs ys e)/\Ok h g):=by
 obtain⟨l,s⟩:=fo w r;refine Pv (bK M a n c) b xa xn xc ya yn yc e h _ ⟨_,iH M a n c,_,l.all,(qI s.wf p l.row).mono ?_⟩;generalize h.push (Bm M a n c)=g at*;unfold CO;rintro _ y ⟨rfl,o⟩;have d:=s.trans o;have f:=l.ok o;refine⟨_,rfl,aa (λq=>⟨?_,d⟩) (λq=>?_)⟩
 ·rw[not_eq_true']at q;rw[q];rfl
 rw[not_eq_false']at q;rw[q,Bool.true_and];refine⟨_,dD _,_,f.l0,aa (λk=>⟨?_,d⟩) (λk=>?_)⟩
 ·have:(M.kind==b)=false:=by simpa using k
  rw[this];rfl
 have:(M.kind==b)=true:=by simpa using k
 rw[this,Bool.true_and];refine⟨_,f.all,(HZ o.wf p f.row (dK.ok t d) (dK.ok u d)).mono ?_⟩;rintro _ z ⟨rfl,x⟩;have i:=d.trans x;refine⟨_,_,rfl,aa (λj=>⟨?_,i⟩) (λj=>aa (λm=>⟨?_,i⟩) (λm=>⟨?_,i⟩))⟩
 ·rw[j];rfl
 ·rw[j,m];rfl
 ·rw[j,m];rfl
end
end
end Go.Proofs.YtaaichlgdgjgjaaGreatDoor
end
section
namespace Go.Proofs.YtaaichlgdgjgjaaGreatDoor
open Go Go.Ab Go.Num Go.Num.bm
variable{p:List Int}{a:Option Addr}{n:Nat}
section
structure TD where
 M:bw
 s:Option Addr
 sc:Nat
 xa:Option Addr
 xc:Nat
 xs:List Int
 ya:Option Addr
 yc:Nat
 ys:List Int
def TD.cs(D:TD)(ok:Bool):List Value:=[.int .i64 D.M.kind,.slice D.xa D.xs.length D.xc,.slice D.ya D.ys.length D.yc,.int .i64 D.M.kind,.int .i64 D.M.start,strOf D.M.lead,.slice D.s D.M.af.length D.sc,.bool ok]
structure TGd(D:TD)(h0:ae):Prop where
 wf:Wf h0
 st:dx h0 (.slice D.s D.M.af.length D.sc) D.M.af
 rx:dK h0 (.slice D.xa D.xs.length D.xc) D.xs
 hx:D.xs.length<=bH D.xc
 ry:dK h0 (.slice D.ya D.ys.length D.yc) D.ys
 hy:D.ys.length<=bH D.yc
 sm:Small D.M
 vm:ca D.M=true
 wx:eI D.xs=true
 wy:eI D.ys=true
structure By(D:TD)(h0 g:ae)(k:Nat)(ok:Bool):Prop where
 box:g.get k=some (.cells (D.cs ok) 48 0 true)
 ok:Ok h0 g
 nk:h0.next<=k
def Kt(k:Nat)(g g':ae):Prop:=g.next<=g'.next/\∀(j:Nat)(B:dS),j≠k->g.get j=some B->g'.get j=some B
theorem Kt.trans{k:Nat}{g d c:ae}(a:Kt k g d)(b:Kt k d c):Kt k g c:=⟨Nat.le_trans a.1 b.1,λj B e h=>b.2 j B e (a.2 j B e h)⟩
theorem Kt.ofO{g g':ae}(o:Ok g g')(k:Nat):Kt k g g':=⟨o.nx,λj B _ h=>o.ext j B h⟩
theorem DW(h:eI p=true)(i j:Nat):eI ((p.take j).drop i)=true:=by
 unfold eI at*;rw[and_eq_true,all_eq_true]at*;refine⟨?_,λx a=>h.2 x (List.mem_of_mem_take (List.mem_of_mem_drop a))⟩;have:=dT h.1;refine decide_eq_true ?_;rw[length_drop,length_take];omega
theorem abe(k:Nat):aG SS.P 48 (pA k) 1=some (.pointer (some ⟨k,1,none⟩)):=by kernel_rfl
theorem VO(k:Nat):aG SS.P 48 (pA k) 0=some (.pointer (some ⟨k,0,none⟩)):=by kernel_rfl
theorem abf(k:Nat):aG SS.P 48 (pA k) 2=some (.pointer (some ⟨k,2,none⟩)):=by kernel_rfl
theorem abg(k:Nat):aG SS.P 48 (pA k) 3=some (.pointer (some ⟨k,3,none⟩)):=by kernel_rfl
theorem HU(k:Nat):aG SS.P 48 (pA k) 4=some (.pointer (some ⟨k,7,none⟩)):=by kernel_rfl
theorem F8{g:ae}{c:Nat}(r:dK g (.slice a n c) p)(C:n<=bH c){i j:Nat}(y:i<=j)(B:j<=n):
  ∃(o:Option Addr)(m:Nat),bG SS.P 22 (.slice a n c) (some (iA i)) (some (iA j)) none g=some (.slice o (j-i) m)/\dK g (.slice o (j-i) m) ((p.take j).drop i):=by
 have t:=dK.len r;rcases r with⟨f,l⟩|⟨k,b,cs,A,w,e,z,f,l,q,u⟩
 ·injection f with d s h
  subst d;subst h;subst s;have v:p=[]:=List.eq_nil_of_length_eq_zero t.symm;obtain rfl:j=0:=by omega
  obtain rfl:i=0:=by omega
  refine⟨none,0,?_,.inl ⟨rfl,by rw[v];rfl⟩⟩;unfold bG;dsimp only;rw[qp];dsimp only[eP];rw[Ru];rfl
 ·injection f with d s h
  subst d;subst h;refine⟨some ⟨k,b+i,none⟩,c-i,?_,.inr ⟨k,b+i,cs,c-i,w,e,z,?_,l,q,?_⟩⟩
  ·unfold bG;dsimp only;rw[qp];dsimp only[eP];rw[Ru,l];dsimp only;have d:((j:Int)-(i:Int)).toNat=j-i:=by omega
   have x:((i:Nat):Int).toNat=i:=by omega
   rw[if_pos (q.elim (λa=> .inl a.2) .inr),if_pos (by omega),d,x,Nat.mul_one]
  ·rw[length_drop,length_take];congr 1;omega
  ·rw[length_drop,length_take,min_eq_left (by omega),<-List.drop_drop];have:((cs.drop b).drop i).take (j-i)=(((cs.drop b).take p.length).take j).drop i:=by
    rw[take_take,min_eq_left (by omega),drop_take]
   rw[this,u];unfold wj;rw[<-map_take,<-List.map_drop]
section
variable {K:Type} {S:bm K} {dec:List UInt8->K} {M:bw}
theorem Wm(h:vk S dec M.kind)(f:ca M=true){a b:List Int}(c:eI a=true)(d:eI b=true):(∃w,Av M a b=(w,0)/\aM M.kind w=true/\dec w=KG S dec M a b)\/Av M a b=([],2):=by
 unfold Av;rw[f,c,d,if_pos (show(true&&(true&&true))=true from rfl)]
 cases e:eC (aY M.kind) (gm M) a b with
 |none=>exact .inr rfl
 |some w=>
  obtain⟨g,i⟩:=VZ h (tz f) (Vq c) (Vq d) e;exact .inl ⟨w,rfl,g,i⟩
end
section
variable {D:TD} {h0 g g':ae} {k:Nat} {ok:Bool}
theorem By.qQ(t:By D h0 g k ok)(o:Ok g g'):By D h0 g' k ok:=⟨o.ext _ _ t.box,t.ok.trans o,t.nk⟩
theorem By.l0(t:By D h0 g k ok):aj SS.P 3 g (.pointer (some ⟨k,0,none⟩))=some (.int .i64 D.M.kind):=cq Gm Fa t.box (by simp[TD.cs])
theorem By.l1(t:By D h0 g k ok):aj SS.P 22 g (.pointer (some ⟨k,1,none⟩))=some (.slice D.xa D.xs.length D.xc):=cq qp RX t.box (by simp[TD.cs])
theorem By.l2(t:By D h0 g k ok):aj SS.P 22 g (.pointer (some ⟨k,2,none⟩))=some (.slice D.ya D.ys.length D.yc):=cq qp RX t.box (by simp[TD.cs])
theorem By.l3(t:By D h0 g k ok):aj SS.P 29 g (.pointer (some ⟨k,3,none⟩))=some (.agg ⟨bK D.M D.s D.M.af.length D.sc⟩):=o0 M4 Lj tX t.box (by simp[TD.cs])
theorem By.l4(t:By D h0 g k ok):aj SS.P 4 g (.pointer (some ⟨k,7,none⟩))=some (.bool ok):=cq un4 ag4 t.box (by simp[TD.cs])
theorem By.put(w:Wf h0)(t:By D h0 g k ok)(b:Bool):∃u:dM,ah SS.P 4 (.pointer (some ⟨k,7,none⟩)) (.bool b) g=some (undef,u)/\By D h0 (u.app g) k b/\Kt k g (u.app g):=by
 refine⟨_,iX ac4 t.box (i:=7) (by simp[TD.cs]) rfl rfl,⟨?_,t.ok.set _ t.nk (t.ok.wf _ _ t.box) w,t.nk⟩,Nat.le_refl _,λj B a h=>?_⟩
 ·show(g.set k _).get k=_;rw[ae.aw,if_pos rfl];rfl
 ·show(g.set k _).get j=_;rw[ae.aw,if_neg a];exact h
theorem CG(w:Wf h0)(t:By D h0 g k ok){n:Int}{A B:ae->Prop}(l:n≠0->∀g',By D h0 g' k false->Kt k g g'->A g')(j:n=0->∀g',By D h0 g' k ok->Kt k g g'->B g'):
  xP (aG SS.P 48 (pA k) 4) λp=>xB (aj SS.P 4 g (.pointer (some p))) λb=>au b (xP (aG SS.P 48 (pA k) 4) λh=>xU (ah SS.P 4 (.pointer (some h)) (.bool ((n:Int)==0)) g) g λu d=>au ((n:Int) !=0) (A d) (B d))
   (xP (aG SS.P 48 (pA k) 4) λh=>xU (ah SS.P 4 (.pointer (some h)) (.bool false) g) g λu d=>au ((n:Int) !=0) (A d) (B d)):=by
 refine⟨_,HU k,_,t.l4,aa (λq=>?_) (λq=>?_)⟩
 ·obtain⟨u,i,c,f⟩:=t.put w (n==0);refine⟨_,HU k,u,i,aa (λa=>?_) (λa=>?_)⟩
  ·have a:n≠0:=by simpa using a
   have e:(n==0)=false:=by simpa using a
   rw[e]at c;exact l a _ c f
  ·have a:n=0:=by simpa using a
   have e:(n==0)=true:=by simpa using a
   rw[e]at c;exact j a _ (by rw[q];exact c) f
 ·obtain⟨u,i,c,f⟩:=t.put w false;refine⟨_,HU k,u,i,aa (λa=>?_) (λa=>?_)⟩
  ·exact l (by simpa using a) _ c f
  ·exact j (by simpa using a) _ (by rw[q];exact c) f
end
section
variable {K:Type} {S:bm K} {dec:List UInt8->K} {D:TD} {h0 g:ae} {k:Nat} {ok:Bool}
def TQ(S:bm K)(dec:List UInt8->K)(D:TD)(h0 g:ae)(k:Nat)(ok:Bool)(a:K):VH:=λv g'=>∃(w:List UInt8)(b:Bool),v=strOf w/\By D h0 g' k b/\Kt k g g'/\aM D.M.kind w=true/\(b=true->ok=true/\dec w=a)
theorem Rf(o:vk S dec D.M.kind)(w:Wf h0)(t:By D h0 g k ok){a b:List UInt8}(i:aM D.M.kind a=true)(j:aM D.M.kind b=true):FW SS 32 [pA k,strOf a,strOf b] g (TQ S dec D h0 g k ok (S.mul (dec a) (dec b))):=by
 refine Re k a b g _ ⟨_,VO k,_,t.l0,(wA i j t.ok.wf).mono ?_⟩;rintro _ q ⟨rfl,d⟩;have l:=t.qQ d
 cases e:cD D.M.kind a b with
 |none=>
  refine⟨[],2,rfl,CG w l (λ_ m f h=>⟨a,false,rfl,f,(Kt.ofO d k).trans h,i,λc=>by cases c⟩) (λc=>by cases c)⟩
 |some c=>
  obtain⟨n,p⟩:=o.times i j e;exact⟨c,0,rfl,CG w l (λc=>absurd rfl c) (λ_ m f h=>⟨c,ok,rfl,f,(Kt.ofO d k).trans h,n,λe=>⟨e,p⟩⟩)⟩
theorem aa6(B:vk S dec D.M.kind)(a:TGd D h0)(t:By D h0 g k ok){i j p q:Nat}(u:i<=j)(H:j<=D.xs.length)(r:p<=q)(C:q<=D.ys.length):
  FW SS 30 [pA k,iA i,iA j,iA p,iA q] g (TQ S dec D h0 g k ok (KG S dec D.M ((D.xs.take j).drop i) ((D.ys.take q).drop p))):=by
 have s:=tz a.vm;have v:=(Ok.refl t.ok.wf).room 24;have b:=t.qQ v;obtain⟨O,M,x,z⟩:=F8 (dK.ok a.rx b.ok) a.hx u H;obtain⟨L,N,F,A⟩:=F8 (dK.ok a.ry b.ok) a.hy r C;refine aa5 k i j p q g _ ⟨_,abg k,_,b.l3,_,abe k,_,_,_,b.l1,_,_,_,x,_,abf k,_,_,_,b.l2,_,_,_,F,(HZ b.ok.wf a.sm (a.st.ok b.ok) z A).mono ?_⟩;rintro _ E ⟨rfl,o⟩;have J:=b.qQ o;have f:Kt k g E:=Kt.ofO (v.trans o) k;refine⟨_,_,rfl,CG a.wf J (λh l d m=>?_) (λh l d m=>?_)⟩
 ·refine⟨_,VO k,_,d.l0,(gT s.kind l).mono ?_⟩;rintro _ K ⟨rfl,G⟩;obtain rfl:l=K:=G.symm;exact⟨_,rfl,_,false,rfl,d,f.trans m,sC s.kind,λc=>by cases c⟩
 ·rcases Wm B a.vm (DW a.wx i j) (DW a.wy p q)with⟨w,n,I,y⟩|n
  ·rw[n];exact⟨w,ok,rfl,d,f.trans m,I,λe=>⟨e,y⟩⟩
  ·rw[n]at h;cases h
end
end
end Go.Proofs.YtaaichlgdgjgjaaGreatDoor
end
section
namespace Go.Proofs.YtaaichlgdgjgjaaGreatDoor
open Go Go.Ab Go.Num
variable{M:bw}
def Xu:Nat->Nat->List UInt8
 |0,_=>[]
 |f+1,n=>if n<10 then[eU n]else Xu f (n/10)++[eU (n%10)]
theorem NB:∀{f n:Nat},n<f->Xu f n=ag n
 |f+1,n,h=>by
  unfold Xu;by_cases c:n<10
  ·rw[if_pos c,dC c]
  ·rw[if_neg c,ib (by omega),NB (by omega)]
def DK(n:Nat):List UInt8:=Xu (n+1) n
theorem BT(n:Nat):ag n=DK n:=(NB (lt_succ_self n)).symm
def XQ(s:Bool)(n d:Nat):List UInt8:=(if s=true/\n≠0 then[45]else[])++(DK n++(if d=1 then[]else 47::DK d))
theorem ZM(s:Bool)(n d:Nat):cN s n d=XQ s n d:=by unfold cN XQ;rw[BT,BT]
def Tp(s:Bool)(n d:Nat):Option (List UInt8):=if 400<(DK (n/Nat.gcd n d)).length\/400<(DK (d/Nat.gcd n d)).length then none else some (XQ s (n/Nat.gcd n d) (d/Nat.gcd n d))
theorem UK(s:Bool)(n d:Nat):jZ s n d=Tp s n d:=by unfold jZ Tp;rw[BT,BT,ZM]
def XP(a b:List UInt8):Option (List UInt8):=Tp (de (Num.isNeg a) (Num.val (Num.numOf a)*Num.val (ak b)) (Num.isNeg b) (Num.val (Num.numOf b)*Num.val (ak a))).1 (de (Num.isNeg a) (Num.val (Num.numOf a)*Num.val (ak b)) (Num.isNeg b) (Num.val (Num.numOf b)*Num.val (ak a))).2 (Num.val (ak a)*Num.val (ak b))
def acF(a b:List UInt8):Option (List UInt8):=Tp (Num.isNeg a !=Num.isNeg b) (Num.val (Num.numOf a)*Num.val (Num.numOf b)) (Num.val (ak a)*Num.val (ak b))
def acE(a b:List UInt8):Option (List UInt8):=Tp (Num.isNeg a !=Num.isNeg b) (Num.val (Num.numOf a)*Num.val (ak b)) (Num.val (ak a)*Num.val (Num.numOf b))
def acG(a:List UInt8):List UInt8:=XQ (!Num.isNeg a) (Num.val (Num.numOf a)) (Num.val (ak a))
theorem RV:oF=XP:=by funext a b;exact UK _ _ _
theorem acK:yT=acF:=by funext a b;exact UK _ _ _
theorem acu:GA=acE:=by funext a b;exact UK _ _ _
theorem acL:qc=acG:=by funext a;exact ZM _ _ _
def To(c:Int)(a b:List UInt8):Option (List UInt8):=if c≠2 then some (if Gy c b a<0 then b else a)else if a=dj\/b=dj then some dj else XP a b
def LS(c:Int)(a b:List UInt8):Option (List UInt8):=if a=bF c\/b=bF c then some (bF c)else if a=dj\/b=dj then some dj else if a=hZ\/b=hZ then some hZ else if c=1 then XP a b else acF a b
def Tq(b:Int)(a:List UInt8):Option (List UInt8):=if b=1 then(if du a [48]>=0 then some [48]else some hZ)else if b=3 then(if du a [49]<=0 then some [49]else some dj)else if du a [49]>=0 then some dj else match XP [49] (acG a)with
 |some d=>acE [49] d
 |none=>none
theorem aaQ:eR=To:=by funext k a b;unfold eR To;rw[RV]
theorem HQ:cD=LS:=by funext k a b;unfold cD LS;rw[RV,acK]
theorem aa4:lJ=Tq:=by funext k a;unfold lJ Tq;rw[RV,acu,acL];rfl
def aaF(b:Int):qb (List UInt8):=⟨bF b,sG b,λa=>a==bF b,To b,LS b,Tq b⟩
theorem acQ(a:Int):aY a=aaF a:=by unfold aY aaF;rw[aaQ,HQ,aa4]
def ads(M:bw)(a b:List Int):List UInt8×Int:=if(ca M&&(eI a&&eI b))=true then(match eC (aaF M.kind) (gm M) a b with|some w=>(w,0)|none=>([],2))else([],1)
theorem Bv(M:bw)(a b:List Int):Av M a b=ads M a b:=by unfold Av ads;rw[acQ]<;>rfl
def KT:bw:=Gr 1 [1] [2] [51]
def Z7:bw:=Gr 1 [1] [2] [53]
def awU:bw:=VQ KT Z7
def awC:bw:=BA KT Z7 [56]
def awS:bw:=tU KT
def awR:bw:=acT KT 2 3
def awT:bw:=iW KT [55,47,50]
def awL:bw:=CY 1 [2,1,2]
def awH:bw:=Gr 2 [] [] [49,47,50]
def awK:bw:=tU awH
theorem Z9:oc [2,1,2]=[1,2]:=by
 have:mg [2,1,2]=[1,2,2]:=by simp[mg,List.mergeSort,List.MergeSort.Internal.splitInTwo]
 unfold oc;rw[this];decide
theorem Z8:awL=⟨1,0,dN 1,[⟨[],G9 1 [1,2]⟩,⟨dN 1,[]⟩]⟩:=by unfold awL CY;rw[Z9]
theorem abM:AZ 1 [1] [2] [51]=(KT,0):=by unfold AZ;rw[if_pos (by decide +kernel)];rfl
theorem abN:AZ 1 [1] [2] [53]=(Z7,0):=by unfold AZ;rw[if_pos (by decide +kernel)];rfl
theorem abV:HV KT Z7=(awU,0):=by unfold HV;rw[if_pos (by decide +kernel)];rfl
theorem aaa:cD KT.kind KT.lead Z7.lead=some [56]:=by rw[HQ];decide +kernel
theorem abO:BC KT Z7 [56]=(awC,0):=by unfold BC;rw[if_pos (by decide +kernel)];rfl
theorem abT:Gb KT=(awS,0):=by unfold Gb;rw[if_pos (by decide +kernel)];rfl
theorem abS:Yt KT 2 3=(awR,0):=by unfold Yt;rw[if_pos (by decide +kernel)];rfl
theorem aab:cD KT.kind [49,47,50] KT.lead=some [55,47,50]:=by rw[HQ];decide +kernel
theorem abU:sg KT [49,47,50] [55,47,50]=(awT,0):=by unfold sg;rw[if_pos (by decide +kernel)];rfl
theorem abR:xu 1 [2,1,2]=(awL,0):=by unfold xu;rw[if_pos (by decide)];rfl
theorem abP:AZ 2 [] [] [49,47,50]=(awH,0):=by unfold AZ;rw[if_pos (by decide +kernel)];rfl
theorem abQ:Gb awH=(awK,0):=by unfold Gb;rw[if_pos (by decide +kernel)];rfl
theorem ab0:Av awU [1] [2]=([51],0):=by rw[Bv];decide +kernel
theorem ab1:Av awU [1] [1]=([105,110,102],0):=by rw[Bv];decide +kernel
theorem ab2:Av awC [1,1] [2,2]=([56],0):=by rw[Bv];decide +kernel
theorem ab3:Av awS [] []=([48],0):=by rw[Bv];decide +kernel
theorem ab4:Av awS [1,1] [2,2]=([54],0):=by rw[Bv];decide +kernel
theorem ab5:Av awS [1] []=([105,110,102],0):=by rw[Bv];decide +kernel
theorem ab6:Av awR [1] [2]=([105,110,102],0):=by rw[Bv];decide +kernel
theorem ab7:Av awR [1,1] [2,2]=([54],0):=by rw[Bv];decide +kernel
theorem ab8:Av awT [1] [2]=([55,47,50],0):=by rw[Bv];decide +kernel
theorem aac:Av awL [2] [2]=([48],0):=by rw[Bv,Z8];decide +kernel
theorem aad:Av awL [1,2] [1,2]=([105,110,102],0):=by rw[Bv,Z8];decide +kernel
theorem aae:Av awK [] []=([50],0):=by rw[Bv];decide +kernel
theorem kG(a:ca M=true)(b:M.af.length<=300)(c:cg M.af<=2000):Small M:=(M5 a (by omega)).small b c
theorem IK:Small KT:=kG (by decide +kernel) (by decide +kernel) (by decide +kernel)
theorem Zj:Small Z7:=kG (by decide +kernel) (by decide +kernel) (by decide +kernel)
theorem Zm:Small awU:=kG (by decide +kernel) (by decide +kernel) (by decide +kernel)
theorem abW:Small awC:=kG (by decide +kernel) (by decide +kernel) (by decide +kernel)
theorem R8:Small awS:=kG (by decide +kernel) (by decide +kernel) (by decide +kernel)
theorem Zl:Small awR:=kG (by decide +kernel) (by decide +kernel) (by decide +kernel)
theorem abZ:Small awT:=kG (by decide +kernel) (by decide +kernel) (by decide +kernel)
theorem Zk:Small awL:=by rw[Z8];exact kG (by decide +kernel) (by decide +kernel) (by decide +kernel)
theorem abX:Small awH:=kG (by decide +kernel) (by decide +kernel) (by decide +kernel)
theorem abY:Small awK:=kG (by decide +kernel) (by decide +kernel) (by decide +kernel)
noncomputable def WQ:FD:=cG Tryz.f12 []
theorem R9  (h:ae) (Q:VH) (hx:xR (aF SS.P 22 1 [(0,(.int .i64 1))]) h λ_ A C B=>xR (aF SS.P 22 1 [(0,(.int .i64 2))]) B λ_ F D J=>xR (aF SS.P 22 2 [(0,(.int .i64 1)),(1,(.int .i64 1))]) J λ_ W k7 I=>xR (aF SS.P 22 2 [(0,(.int .i64 2)),(1,(.int .i64 2))]) I λ_ k3 Z k5=>FW SS 13 [(.int .i64 1),(sA (h.next) A C),(sA (B.next) F D),(strOf [51])] k5 λk1 E=>∃k0:LV,∃j9:Int,k1=(.tuple ⟨[(.agg ⟨k0⟩),(.int .i64 j9)]⟩)/\xN (br SS.P 29) E λ_ j8=>xU (ah SS.P 29 (pA (E.next)) (.agg ⟨k0⟩) j8) j8 λ_ j7=>FW SS 13 [(.int .i64 1),(sA (h.next) A C),(sA (B.next) F D),(strOf [53])] j7 λj5 L=>∃j4:LV,∃j3:Int,j5=(.tuple ⟨[(.agg ⟨j4⟩),(.int .i64 j3)]⟩)/\xN (br SS.P 29) L λ_ j2=>xU (ah SS.P 29 (pA (L.next)) (.agg ⟨j4⟩) j2) j2 λ_ H=>au (((j9:Int) !=0)) (Q (.bool false) H) (au (((j3:Int) !=0)) (Q (.bool false) H) (lA 29 H (pA (E.next)) λj0=>lA 29 H (pA (L.next)) λi9=>FW SS 25 [(.agg ⟨j0⟩),(.agg ⟨i9⟩)] H λi7 K=>∃i6:LV,∃i5:Int,i7=(.tuple ⟨[(.agg ⟨i6⟩),(.int .i64 i5)]⟩)/\xN (br SS.P 29) K λ_ i4=>xU (ah SS.P 29 (pA (K.next)) (.agg ⟨i6⟩) i4) i4 λ_ i3=>lA 29 i3 (pA (E.next)) λi2=>lA 29 i3 (pA (L.next)) λi1=>FW SS 31 [(.agg ⟨i2⟩),(.agg ⟨i1⟩)] i3 λh9 P=>∃h8:LV,∃h7:Int,h9=(.tuple ⟨[(.agg ⟨h8⟩),(.int .i64 h7)]⟩)/\xN (br SS.P 29) P λ_ h6=>xU (ah SS.P 29 (pA (P.next)) (.agg ⟨h8⟩) h6) h6 λ_ h5=>lA 29 h5 (pA (E.next)) λh4=>FW SS 33 [(.agg ⟨h4⟩)] h5 λh2 G=>∃h1:LV,∃M:Int,h2=(.tuple ⟨[(.agg ⟨h1⟩),(.int .i64 M)]⟩)/\xN (br SS.P 29) G λ_ g9=>xU (ah SS.P 29 (pA (G.next)) (.agg ⟨h1⟩) g9) g9 λ_ g7=>lA 29 g7 (pA (E.next)) λg6=>FW SS 35 [(.agg ⟨g6⟩),(.int .i64 2),(.int .i64 3)] g7 λg3 N=>∃g2:LV,∃g1:Int,g3=(.tuple ⟨[(.agg ⟨g2⟩),(.int .i64 g1)]⟩)/\xN (br SS.P 29) N λ_ g0=>xU (ah SS.P 29 (pA (N.next)) (.agg ⟨g2⟩) g0) g0 λ_ f9=>lA 29 f9 (pA (E.next)) λf8=>FW SS 37 [(.agg ⟨f8⟩),(strOf [49,47,50])] f9 λf6 V=>∃f5:LV,∃f4:Int,f6=(.tuple ⟨[(.agg ⟨f5⟩),(.int .i64 f4)]⟩)/\xN (br SS.P 29) V λ_ f3=>xU (ah SS.P 29 (pA (V.next)) (.agg ⟨f5⟩) f3) f3 λ_ f2=>xR (aF SS.P 22 3 [(0,(.int .i64 2)),(1,(.int .i64 1)),(2,(.int .i64 2))]) f2 λ_ e9 f0 f1=>FW SS 21 [(.int .i64 1),(sA (f2.next) e9 f0)] f1 λe7 O=>∃e6:LV,∃e5:Int,e7=(.tuple ⟨[(.agg ⟨e6⟩),(.int .i64 e5)]⟩)/\xN (br SS.P 29) O λ_ e4=>xU (ah SS.P 29 (pA (O.next)) (.agg ⟨e6⟩) e4) e4 λ_ e3=>FW SS 13 [(.int .i64 2),nA,nA,(strOf [49,47,50])] e3 λe1 e2=>∃e0:LV,∃d9:Int,e1=(.tuple ⟨[(.agg ⟨e0⟩),(.int .i64 d9)]⟩)/\xN (br SS.P 29) e2 λ_ d8=>xU (ah SS.P 29 (pA (e2.next)) (.agg ⟨e0⟩) d8) d8 λ_ d7=>lA 29 d7 (pA (e2.next)) λd6=>FW SS 33 [(.agg ⟨d6⟩)] d7 λd4 d5=>∃d3:LV,∃d2:Int,d4=(.tuple ⟨[(.agg ⟨d3⟩),(.int .i64 d2)]⟩)/\xN (br SS.P 29) d5 λ_ d1=>xU (ah SS.P 29 (pA (d5.next)) (.agg ⟨d3⟩) d1) d1 λ_ d0=>au (((d9:Int)==0)) (lA 29 d0 (pA (K.next)) λc9=>FW SS 39 [(.agg ⟨c9⟩),(.int .i64 i5),(sA (h.next) A C),(sA (B.next) F D)] d0 λc6 U=>yS c6 λc5=>au ((c5:LB)==[51]) (lA 29 U (pA (K.next)) λc4=>FW SS 39 [(.agg ⟨c4⟩),(.int .i64 i5),(sA (h.next) A C),(sA (h.next) A C)] U λc1 c2=>yS c1 λc0=>au ((c0:LB)==[105,110,102]) (lA 29 c2 (pA (P.next)) λb9=>FW SS 39 [(.agg ⟨b9⟩),(.int .i64 h7),(sA (J.next) W k7),(sA (I.next) k3 Z)] c2 λb7 T=>yS b7 λb6=>au ((b6:LB)==[56]) (lA 29 T (pA (G.next)) λb5=>FW SS 39 [(.agg ⟨b5⟩),(.int .i64 M),nA,nA] T λb3 X=>yS b3 λb2=>au ((b2:LB)==[48]) (lA 29 X (pA (G.next)) λb1=>FW SS 39 [(.agg ⟨b1⟩),(.int .i64 M),(sA (J.next) W k7),(sA (I.next) k3 Z)] X λa9 Y=>yS a9 λa8=>au ((a8:LB)==[54]) (lA 29 Y (pA (G.next)) λa7=>FW SS 39 [(.agg ⟨a7⟩),(.int .i64 M),(sA (h.next) A C),nA] Y λa5 S=>yS a5 λa4=>au ((a4:LB)==[105,110,102]) (lA 29 S (pA (N.next)) λa3=>FW SS 39 [(.agg ⟨a3⟩),(.int .i64 g1),(sA (h.next) A C),(sA (B.next) F D)] S λa1 R=>yS a1 λa0=>au ((a0:LB)==[105,110,102]) (lA 29 R (pA (N.next)) λz=>FW SS 39 [(.agg ⟨z⟩),(.int .i64 g1),(sA (J.next) W k7),(sA (I.next) k3 Z)] R λx y=>yS x λw=>au ((w:LB)==[54]) (lA 29 y (pA (V.next)) λv=>FW SS 39 [(.agg ⟨v⟩),(.int .i64 f4),(sA (h.next) A C),(sA (B.next) F D)] y λt u=>yS t λs=>au ((s:LB)==[55,47,50]) (lA 29 u (pA (O.next)) λr=>FW SS 39 [(.agg ⟨r⟩),(.int .i64 e5),(sA (B.next) F D),(sA (B.next) F D)] u λp q=>yS p λo=>au ((o:LB)==[48]) (lA 29 q (pA (O.next)) λn=>xR (aF SS.P 22 2 [(0,(.int .i64 1)),(1,(.int .i64 2))]) q λ_ k l m=>xR (aF SS.P 22 2 [(0,(.int .i64 1)),(1,(.int .i64 2))]) m λ_ h i j=>FW SS 39 [(.agg ⟨n⟩),(.int .i64 e5),(sA (q.next) k l),(sA (m.next) h i)] j λf g=>yS f λe=>au ((e:LB)==[105,110,102]) (lA 29 g (pA (d5.next)) λd=>FW SS 39 [(.agg ⟨d⟩),(.int .i64 d2),nA,nA] g λb c=>yS b λa=>Q (.bool ((a:LB)==[50])) c) (Q (.bool false) g)) (Q (.bool false) q)) (Q (.bool false) u)) (Q (.bool false) y)) (Q (.bool false) R)) (Q (.bool false) S)) (Q (.bool false) Y)) (Q (.bool false) X)) (Q (.bool false) T)) (Q (.bool false) c2)) (Q (.bool false) U)) (Q (.bool false) d0)))):FW SS 12 [] h Q:=cQ WQ Tryz.func12 (ai hx)
variable{h:ae}{g:ae}{a:Option Addr}{n:Nat}{k:Nat}{d:List Value}{p:List Int}{t:List UInt8}
theorem Ug{c:Nat}{d:List (dP×Value)}(w:Wf g)(b:d.map (·.1)=M.af)(f:ke h g (.slice a n c) d):
  ∃u:dM,ah SS.P 29 (.pointer (some ⟨g.next,0,none⟩)) (.agg ⟨bK M a n c⟩) (g.push mQ)=some (undef,u)/\Ok g (u.app (g.push mQ))/\MB (u.app (g.push mQ)) g.next M a n c:=by
 obtain⟨o,e⟩:=ph (cs:=bK M a n c) w ((Ok.refl w).push mQ) (aJ g mQ) (Nat.le_refl _);refine⟨_,kS (t:=29) tX (cs0:=[.int .i64 0,.int .i64 0,strOf [],.slice none 0 0]) rfl (aJ g mQ) (cs:=bK M a n c) rfl (uA ..),o,e,?_⟩;have:=f.st;rw[b]at this;exact dx.ok this o
theorem acg(z:Int):aF SS.P 22 1 [(0,.int .i64 z)]=some (.cells [.int .i64 z] 3 1 true,mL 1 1):=by kernel_rfl
theorem Xg(z y:Int):aF SS.P 22 2 [(0,.int .i64 z),(1,.int .i64 y)]=some (.cells [.int .i64 z,.int .i64 y] 3 1 true,mL 2 2):=by kernel_rfl
theorem adM(z y x:Int):aF SS.P 22 3 [(0,.int .i64 z),(1,.int .i64 y),(2,.int .i64 x)]=some (.cells [.int .i64 z,.int .i64 y,.int .i64 x] 3 1 true,mL 3 3):=by kernel_rfl
theorem se{cs:List Value}{l:List Int}(h:g.get k=some (.cells cs 3 1 true))(b:cs=wj l)(a:l.length=n):dK g (.slice (some ⟨k,0,none⟩) n n) l:=by
 subst a;subst b;exact .inr ⟨k,0,wj l,l.length,true,3,1,rfl,h,.inl ⟨rfl,rfl⟩,by rw[drop_zero,take_of_length_le (Nat.le_of_eq (ju l))]⟩
theorem wq(g:ae):dK g (.slice none 0 0) []:= .inl ⟨rfl,rfl⟩
theorem oY{R:bw}{e:Int}{r:bw×Int}(l:FW SS n d g (Bn g r))(m:r=(R,e)){Z:ae->List Value->Int->Prop}
  (p:∀(b:ae)(a:Option Addr)(i c:Nat)(u:dM),Ok g b->ah SS.P 29 (.pointer (some ⟨b.next,0,none⟩)) (.agg ⟨bK R a i c⟩) (b.push mQ)=some (undef,u)->Ok g (u.app (b.push mQ))->MB (u.app (b.push mQ)) b.next R a i c->Z b (bK R a i c) e):
  FW SS n d g λv h=>∃cs:LV,∃i:Int,v = .tuple ⟨[.agg ⟨cs⟩,.int .i64 i]⟩/\Z h cs i:=by
 refine l.mono ?_;rintro _ b ⟨a,i,c,t,rfl,f,s,j⟩;rw[m]at f⊢;obtain⟨u,o,q,k⟩:=Ug j.wf f s;exact⟨_,_,rfl,p b a i c u j o (j.trans q) k⟩
theorem nN{c:Nat}{j:List Int}(w:Wf g)(x:MB g k M a n c)(s:Small M){d f:Option Addr}{q i e m:Nat}(r:dK g (.slice d q i) p)(u:dK g (.slice f e m) j)(z:Av M p j=(t,0))
  {Z:List UInt8->ae->Prop} (y:∀b,Ok g b->Z t b):
  FW SS 39 [.agg ⟨bK M a n c⟩,.int .i64 0,.slice d q i,.slice f e m] g λv h=>yS v λl=>Z l h:=by
 refine(Py w s x.row r u).mono ?_;rintro _ b ⟨rfl,o⟩;rw[z];exact⟨_,rfl,y b o⟩
theorem Sa(w:Wf h)(r:nO h):FW SS 12 [] h (λv g=>v = .bool true/\Ok h g):=by
 have o1:=(Ok.refl w).push (.cells [.int .i64 1] 3 1 true);have e:=se (l:=[1]) (n:=1) (aJ h (.cells [.int .i64 1] 3 1 true)) rfl rfl;refine R9 h _ ⟨_,_,_,acg 1,_,_,_,acg 2,_,_,_,Xg 1 1,_,_,_,Xg 2 2,?_⟩;generalize h.push (.cells [.int .i64 1] 3 1 true)=g1 at*;have o2:=(Ok.refl o1.wf).push (.cells [.int .i64 2] 3 1 true);have f:=se (l:=[2]) (n:=1) (aJ g1 (.cells [.int .i64 2] 3 1 true)) rfl rfl;generalize g1.push (.cells [.int .i64 2] 3 1 true)=g2 at*;have X:=(Ok.refl o2.wf).push (.cells [.int .i64 1,.int .i64 1] 3 1 true);have t:=se (l:=[1,1]) (n:=2) (aJ g2 (.cells [.int .i64 1,.int .i64 1] 3 1 true)) rfl rfl;generalize g2.push (.cells [.int .i64 1,.int .i64 1] 3 1 true)=g3 at*;have M:=(Ok.refl X.wf).push (.cells [.int .i64 2,.int .i64 2] 3 1 true);have Q:=se (l:=[2,2]) (n:=2) (aJ g3 (.cells [.int .i64 2,.int .i64 2] 3 1 true)) rfl rfl;generalize g3.push (.cells [.int .i64 2,.int .i64 2] 3 1 true)=g4 at*;have q4:=((o1.trans o2).trans X).trans M;have e:=dK.ok e ((o2.trans X).trans M);have f:=dK.ok f (X.trans M);have t:=dK.ok t M;refine oY (Cp M.wf (r.ok q4) e f (by decide)) abM λv5 a n c z8 ob st T b=>⟨_,qC,z8,st,?_⟩
 generalize z8.app (v5.push mQ)=v8 at*;have y3:=q4.trans T;have e:=dK.ok e T;have f:=dK.ok f T;refine oY (Cp T.wf (r.ok y3) e f (by decide)) abN λj0 a' n' c' y8 j6 w3 V x=>⟨_,qC,y8,w3,aa (λq=>by cases q) (λ_=>aa (λq=>by cases q) (λ_=>?_))⟩
 generalize y8.app (j0.push mQ)=w5 at*;have z6:=y3.trans V;have b:=b.ok V;refine⟨_,b.all,_,x.all,oY (OU V.wf (r.ok z6) IK Zj b.row x.row) abV λu2 aU nU cU z4 q0 v3 L B=>⟨_,qC,z4,v3,?_⟩⟩;generalize z4.app (u2.push mQ)=w8 at*;have y9:=z6.trans L;have b:=b.ok L;have x:=x.ok L;refine⟨_,b.all,_,x.all,oY (Lo L.wf (r.ok y9) IK Zj b.row x.row (λ_=>aaa)) abO λw2 aC nC cC y4 X1 v7 W Z=>⟨_,qC,y4,v7,?_⟩⟩;generalize y4.app (w2.push mQ)=w7 at*;have x9:=y9.trans W;have b:=b.ok W;refine⟨_,b.all,oY (IL W.wf (r.ok x9) IK b.row) abT λu8 aS nS cS y7 j9 j3 K s=>⟨_,qC,y7,j3,?_⟩⟩;generalize y7.app (u8.push mQ)=u5 at*;have z3:=x9.trans K;have b:=b.ok K;refine⟨_,b.all,oY (Lq K.wf (r.ok z3) IK (by decide) (by decide) b.row) abS λu3 aR nR cR x5 X3 u7 o E=>⟨_,qC,x5,u7,?_⟩⟩;generalize x5.app (u3.push mQ)=w1 at*;have z0:=z3.trans o;have b:=b.ok o;refine⟨_,b.all,oY (Ff o.wf (r.ok z0) IK (by decide) b.row (λ_ _=>aab)) abU λj5 aT nT cT z1 X2 w4 p Y=>⟨_,qC,z1,w4,?_⟩⟩;generalize z1.app (j5.push mQ)=J at*;have v6:=z0.trans p;refine⟨_,_,_,adM 2 1 2,?_⟩;have m:=(Ok.refl p.wf).push (.cells [.int .i64 2,.int .i64 1,.int .i64 2] 3 1 true);have v9:=se (l:=[2,1,2]) (n:=3) (aJ J (.cells [.int .i64 2,.int .i64 1,.int .i64 2] 3 1 true)) rfl rfl;generalize J.push (.cells [.int .i64 2,.int .i64 1,.int .i64 2] 3 1 true)=q3 at*;refine oY (WX m.wf v9 (by decide)) abR λu6 aL nL cL x8 q1 j4 k G=>⟨_,qC,x8,j4,?_⟩
 generalize x8.app (u6.push mQ)=R at*;have z2:=(v6.trans m).trans k;refine oY (Cp k.wf (r.ok z2) (wq R) (wq R) (by decide)) abP λv0 aH nH cH x0 j7 j1 j mH=>⟨_,qC,x0,j1,?_⟩
 generalize x0.app (v0.push mQ)=j8 at*;have x6:=z2.trans j;refine⟨_,mH.all,oY (IL j.wf (r.ok x6) abX mH.row) abQ λz9 aK nK cK I X0 w0 i mK=>⟨_,qC,I,w0,aa (λ_=>?_) (λq=>by cases q)⟩⟩;generalize I.app (z9.push mQ)=d at*;have x7:Ok w8 d:=((((((W.trans K).trans o).trans p).trans m).trans k).trans j).trans i;have u4:Ok w7 d:=(((((K.trans o).trans p).trans m).trans k).trans j).trans i;have j2:Ok u5 d:=((((o.trans p).trans m).trans k).trans j).trans i;have v2:Ok w1 d:=(((p.trans m).trans k).trans j).trans i;have v1:Ok J d:=((m.trans k).trans j).trans i;have w9:Ok R d:=j.trans i;have u1:Ok w5 d:=L.trans x7;have P:Ok v8 d:=V.trans u1;have e4:Ok g4 d:=T.trans P;have u0:=x6.trans i;have B:=B.ok x7;have Z:=Z.ok u4;have s:=s.ok j2;have E:=E.ok v2;have Y:=Y.ok v1;have G:=G.ok w9;have e:=dK.ok e P;have f:=dK.ok f P;have t:=dK.ok t e4;have Q:=dK.ok Q e4;refine⟨_,B.all,nN i.wf B Zm e f ab0 λh1 p1=>aa (λ_=>?_) (λq=>by cases q)⟩;have y:=p1;refine⟨_,(B.ok y).all,nN y.wf (B.ok y) Zm (dK.ok e y) (dK.ok e y) ab1 λh2 p2=>aa (λ_=>?_) (λq=>by cases q)⟩;have A:=y.trans p2;refine⟨_,(Z.ok A).all,nN A.wf (Z.ok A) abW (dK.ok t A) (dK.ok Q A) ab2 λh3 p3=>aa (λ_=>?_) (λq=>by cases q)⟩;have U:=A.trans p3;refine⟨_,(s.ok U).all,nN U.wf (s.ok U) R8 (wq h3) (wq h3) ab3 λh4 p4=>aa (λ_=>?_) (λq=>by cases q)⟩;have H:=U.trans p4;refine⟨_,(s.ok H).all,nN H.wf (s.ok H) R8 (dK.ok t H) (dK.ok Q H) ab4 λh5 p5=>aa (λ_=>?_) (λq=>by cases q)⟩;have O:=H.trans p5;refine⟨_,(s.ok O).all,nN O.wf (s.ok O) R8 (dK.ok e O) (wq h5) ab5 λh6 p6=>aa (λ_=>?_) (λq=>by cases q)⟩;have C:=O.trans p6;refine⟨_,(E.ok C).all,nN C.wf (E.ok C) Zl (dK.ok e C) (dK.ok f C) ab6 λh7 p7=>aa (λ_=>?_) (λq=>by cases q)⟩;have F:=C.trans p7;refine⟨_,(E.ok F).all,nN F.wf (E.ok F) Zl (dK.ok t F) (dK.ok Q F) ab7 λh8 p8=>aa (λ_=>?_) (λq=>by cases q)⟩;have D:=F.trans p8;refine⟨_,(Y.ok D).all,nN D.wf (Y.ok D) abZ (dK.ok e D) (dK.ok f D) ab8 λh9 p9=>aa (λ_=>?_) (λq=>by cases q)⟩;have z:=D.trans p9;refine⟨_,(G.ok z).all,nN z.wf (G.ok z) Zk (dK.ok f z) (dK.ok f z) aac λz7 v4=>aa (λ_=>?_) (λq=>by cases q)⟩;have N:=z.trans v4;refine⟨_,(G.ok N).all,_,_,_,Xg 1 2,_,_,_,Xg 1 2,?_⟩;have y6:=(Ok.refl N.wf).push (.cells [.int .i64 1,.int .i64 2] 3 1 true);have y1:=se (l:=[1,2]) (n:=2) (aJ z7 (.cells [.int .i64 1,.int .i64 2] 3 1 true)) rfl rfl;generalize z7.push (.cells [.int .i64 1,.int .i64 2] 3 1 true)=y0 at*;have y5:=(Ok.refl y6.wf).push (.cells [.int .i64 1,.int .i64 2] 3 1 true);have y2:=se (l:=[1,2]) (n:=2) (aJ y0 (.cells [.int .i64 1,.int .i64 2] 3 1 true)) rfl rfl;generalize y0.push (.cells [.int .i64 1,.int .i64 2] 3 1 true)=q2 at*;have S:=(N.trans y6).trans y5;refine nN S.wf (G.ok S) Zk (dK.ok y1 y5) y2 aad λz5 w6=>aa (λ_=>?_) (λq=>by cases q);have u:=S.trans w6;refine⟨_,(mK.ok u).all,nN u.wf (mK.ok u) abY (wq z5) (wq z5) aae λX4 u9=>⟨rfl,u0.trans (u.trans u9)⟩⟩
variable{s:List UInt8}{z:Int}
theorem IE(a:List UInt8):(bj a).length<=a.length:=by
 unfold bj;split
 ·rw[length_drop];omega
 ·omega
theorem TZ(a:List UInt8):(numOf a).length<=a.length:=by
 have:=IE a;unfold numOf;rw[length_take];omega
theorem SR(a:List UInt8):(ak a).length<=a.length+1:=by
 have:=IE a;unfold ak;split
 ·rw[length_drop];omega
 ·show 1<=_;omega
theorem uQ(h:valid s=true){k:Nat}(a:s.length<=k):val s<10^k:=by
 unfold valid at h;simp only[and_eq_true]at h;exact Nat.lt_of_lt_of_le (wX h.2) (Nat.pow_le_pow_right (by omega) a)
theorem N4(s:Bool){n d:Nat}(a:n<10^400)(f:d<10^400):∃c,jZ s n d=some c:=by
 unfold jZ;have b:n/Nat.gcd n d<10^400:=Nat.lt_of_le_of_lt (Nat.div_le_self _ _) a;have e:d/Nat.gcd n d<10^400:=Nat.lt_of_le_of_lt (Nat.div_le_self _ _) f;have g:=(dc (n:=n/Nat.gcd n d) (k:=400) (by decide)).2 b;have h:=(dc (n:=d/Nat.gcd n d) (k:=400) (by decide)).2 e;rw[if_neg (by omega)];exact⟨_,rfl⟩
theorem Hh{x:Nat}(a:x<10^101)(b:n<10^101):x*n<10^202:=by
 have:x*n<10^101*10^101:=Nat.mul_lt_mul'' a b;rwa[<-Nat.pow_add]at this
theorem Ud(s:Bool)(A:Nat)(t:Bool)(B:Nat):(de s A t B).2<=A+B:=by
 unfold de;split
 ·exact Nat.le_refl _
 ·split
  ·show B-A<=_;omega
  ·show A-B<=_;omega
theorem Gp{a:List UInt8}(h:ba z a=true):ax a=true/\(z=1\/(z=2\/z=3)/\0<bg a):=by
 unfold ba at h;rw[and_eq_true,and_eq_true,decide_eq_true_eq,Bool.or_eq_true]at h;obtain⟨⟨f,b⟩,d⟩:=h;refine⟨b,?_⟩;rcases d with h|h
 ·exact .inl (by simpa using h)
 ·by_cases c:z=1
  ·exact .inl c
  ·refine .inr ⟨by omega,?_⟩;have h:=dT h;have e:=pD b ef;rw[fz]at e;refine Rat.not_le.1 λc=>?_;rcases Rat.le_iff_lt_or_eq.1 c with c|c
   ·have:=e.1.2 c;omega
   ·have:=e.2.2 c;omega
theorem Gq{a:List UInt8}(d:ax a=true)(h:z=1\/(z=2\/z=3)/\0<bg a):ba z a=true:=by
 unfold ba;rw[d];rcases h with rfl|⟨h,b⟩
 ·rfl
 ·have e:=pD d ef;rw[fz]at e;have f:¬cz a [48]<0:=λc=>by
   have:=e.1.1 c;exact(Rat.not_lt.2 (Rat.le_of_lt this)) b
  have g:¬cz a [48]=0:=λc=>by
   have:=e.2.1 c;rw[this]at b;exact Rat.lt_irrefl b
  rw[decide_eq_true (show 0<cz a [48] by omega),Bool.or_true,Bool.and_true,Bool.and_true];exact decide_eq_true (by omega)
theorem aak{A B:Nat}(h:A*10<=B)(a:0<A):A+A<B:=by omega
set_option exponentiation.threshold 1000 in
theorem VI{f:Int}{a b:List UInt8}(E:ba f a=true)(y:ba f b=true)(J:a.length<=100)(L:b.length<=100):∃c,cD f a b=some c/\ba f c=true:=by
 obtain⟨i,o⟩:=Gp E;obtain⟨g,q⟩:=Gp y;have p:=aP.1 i;have s:=aP.1 g;have r:=uQ p.num (k:=101) (by have:=TZ a;omega);have u:=uQ s.num (k:=101) (by have:=TZ b;omega);have v:=uQ p.den (k:=101) (by have:=SR a;omega);have w:=uQ s.den (k:=101) (by have:=SR b;omega);have G:(10:Nat)^202+10^202<10^400:=aak (A:=10^202) (B:=10^400) (by rw[<-Nat.pow_succ];exact Nat.pow_le_pow_right (by decide) (by decide)) (Nat.pow_pos (by decide));have t:∀x:List UInt8,ax x=true->(f=1\/(f=2\/f=3)/\0<bg x)->x≠bF f:=λx z m e=>by
  rcases m with rfl|⟨h,m⟩
  ·exact(bW z).1 e
  ·have:bF f=[48]:=by rcases h with rfl|rfl<;>rfl
   rw[e,this,fz]at m;exact Rat.lt_irrefl m
 have F:cD f a b=if f=1 then oF a b else yT a b:=by
  unfold cD;rw[if_neg (λc=>c.elim (t a i o) (t b g q)),if_neg (λc=>c.elim (bW i).1 (bW g).1),if_neg (λc=>c.elim (bW i).2 (bW g).2)]
 rw[F];have H:=Hh r u;have M:=Hh v w;have K:=Hh r w;have I:=Hh u v;by_cases j:f=1
 ·rw[if_pos j];obtain⟨c,l⟩:=N4 (de (isNeg a) (val (numOf a)*val (ak b)) (isNeg b) (val (numOf b)*val (ak a))).1 (n:=(de (isNeg a) (val (numOf a)*val (ak b)) (isNeg b) (val (numOf b)*val (ak a))).2) (d:=val (ak a)*val (ak b))
   (Nat.lt_of_le_of_lt (Ud ..) (by omega)) (by omega)
  exact⟨c,l,Gq (nf i g l).1 (.inl j)⟩
 ·rw[if_neg j];obtain⟨c,l⟩:=N4 (isNeg a !=isNeg b) (n:=val (numOf a)*val (numOf b)) (d:=val (ak a)*val (ak b)) (by omega) (by omega);obtain⟨C,D⟩:=AA i g l;refine⟨c,l,Gq C (.inr ⟨by omega,?_⟩)⟩;rw[D];exact Rat.mul_pos (o.resolve_left j).2 (q.resolve_left j).2
section
def EQ(h:ae):VH:=λv g=>v = .bool true/\Ok h g
section
variable {h g:ae}
theorem Fe(d:nO h)(a:Ok h g):FW SS 12 [] g λv c=>yB v λb=>EQ h (.bool b) c:=by
 refine(Sa a.wf (d.ok a)).mono ?_;rintro _ e ⟨rfl,o⟩;exact⟨_,rfl,rfl,a.trans o⟩
theorem Tg{K:Type}{S:bm K}{b:List UInt8->K}(d:vk S b M.kind)(c:ca M=true){xs ys:List Int}(g:eI xs=true)(i:eI ys=true){a:List UInt8}(f:aM M.kind a=true)(k:KG S b M xs ys=b a):CO M M.kind xs ys a=true:=by
 unfold CO;rw[c];rcases Wm d c g i with⟨w,e,h,j⟩|e
 ·rw[e];have:=d.inj h f (j.trans k);subst this;simp
 ·rw[e];simp
variable {kind:Int} {xa ya ua va:Option Addr} {xc yc uc vc:Nat} {xs ys us vs:List Int} {wt:List UInt8}
end
end
theorem Kr(h:HO M=true):Small M/\M.af.length<=8/\cg M.af<=40/\M.lead.length<=40:=by
 unfold HO at h;simp only[and_eq_true,decide_eq_true_eq,all_eq_true]at h;obtain⟨d,f,c,g⟩:=h;have b:∀s∈M.af,s.f.length<=40/\∀q∈s.arcs,q.w.length<=40:=λs a=>by
  have:=g s a;unfold JM at this;simp only[and_eq_true,decide_eq_true_eq,all_eq_true]at this;exact this
 refine⟨⟨by omega,by omega,λs a=>by have:=(b s a).1;omega,λs a=>?_,λs a q e=>by have:=(b s a).2 q e;omega,by omega⟩,d,f,c⟩;have:=C2 a;omega
theorem acd(D:TD):bh SS.P 48 [(0,.int .i64 D.M.kind),(1,.slice D.xa D.xs.length D.xc),(2,.slice D.ya D.ys.length D.yc),(3,.agg ⟨bK D.M D.s D.M.af.length D.sc⟩),(4,.bool true)]=some (.agg ⟨D.cs true⟩):=by kernel_rfl
theorem acf(D:TD):eK SS.P 48 (.agg ⟨D.cs true⟩)=some (.cells (D.cs true) 48 0 true,k6):=by
 cases D.s<;>cases D.xa<;>cases D.ya<;>kernel_rfl
noncomputable def OO:FD:=cG Tryz.f9 []
theorem Lr(O:LV)(w:LB)(F:OA)(E H:Nat)(G:OA)(C I:Nat)(h:ae)(Q:VH)(hx:xN (eK SS.P 29 (.agg ⟨O⟩)) h λ_ P=>lA 29 P (pA (h.next)) λL=>FW SS 24 [(.agg ⟨L⟩)] P λV N=>yB V λK=>au K (FW SS 12 [] N λb c=>yB b λa=>Q (.bool a) c) (au (decide ((((w:LB).length:Int):Int)>40)) (FW SS 12 [] N λb c=>yB b λa=>Q (.bool a) c) (FW SS 11 [(.slice F E H),(.slice G C I)] N λc5 M=>yB c5 λc4=>au (!c4) (FW SS 12 [] M λb c=>yB b λa=>Q (.bool a) c) (lA 29 M (pA (h.next)) λL=>FW SS 37 [(.agg ⟨L⟩),(strOf w)] M λc1 B=>∃T:LV,∃D:Int,c1=(.tuple ⟨[(.agg ⟨T⟩),(.int .i64 D)]⟩)/\xN (br SS.P 29) B λ_ R=>xU (ah SS.P 29 (pA (B.next)) (.agg ⟨T⟩) R) R λ_ S=>lA 29 S (pA (h.next)) λK=>FW SS 26 [(.agg ⟨K⟩)] S λb4 J=>yB b4 λW=>au (!W) (au (((D:Int)==1)) (FW SS 12 [] J λb c=>yB b λa=>Q (.bool a) c) (Q (.bool false) J)) (fP 29 (pA (h.next)) 0 λb2=>lI J b2 λb1=>FW SS 16 [(.int .i64 b1),(strOf w)] J λU A=>yB U λX=>au (!X) (au (((D:Int)==1)) (FW SS 12 [] A λb c=>yB b λa=>Q (.bool a) c) (Q (.bool false) A)) (au (((D:Int) !=0)) (lA 29 A (pA (h.next)) λj=>xR (aF SS.P 86 1 [(0,(.agg ⟨j⟩))]) A λ_ g h i=>FW SS 28 [(.int .i64 D),(sA (A.next) g h)] i λe f=>yB e λd=>au d (FW SS 12 [] f λb c=>yB b λa=>Q (.bool a) c) (au (((D:Int)==2)) (au (decide ((((w:LB).length:Int):Int)>4)) (FW SS 12 [] f λb c=>yB b λa=>Q (.bool a) c) (Q (.bool false) f)) (Q (.bool false) f))) (fP 29 (pA (h.next)) 0 λa7=>lI A a7 λa6=>lA 29 A (pA (h.next)) λa5=>xA (bh SS.P 48 [(0,(.int .i64 a6)),(1,(.slice F E H)),(2,(.slice G C I)),(3,(.agg ⟨a5⟩)),(4,(.bool true))]) λa4=>xN (eK SS.P 48 (.agg ⟨a4⟩)) A λ_ a3=>FW SS 30 [(pA (A.next)),(.int .i64 0),(iA E),(.int .i64 0),(iA C)] a3 λa1 Y=>yS a1 λZ=>FW SS 32 [(pA (A.next)),(strOf w),(strOf Z)] Y λy z=>yS y λx=>lA 29 z (pA (h.next)) λw=>FW SS 20 [(.agg ⟨w⟩)] z λu v=>yB u λt=>au t (lA 29 v (pA (B.next)) λs=>FW SS 20 [(.agg ⟨s⟩)] v λq r=>yB q λp=>au (!p) (Q (.bool false) r) (lA 29 r (pA (B.next)) λo=>FW SS 26 [(.agg ⟨o⟩)] r λm n=>yB m λl=>au (!l) (Q (.bool false) n) (fP 48 (pA (A.next)) 4 λk=>lB n k λj=>au (!j) (FW SS 12 [] n λb c=>yB b λa=>Q (.bool a) c) (lA 29 n (pA (B.next)) λi=>fP 29 (pA (h.next)) 0 λh=>lI n h λg=>FW SS 19 [(.agg ⟨i⟩),(.int .i64 g),(.slice F E H),(.slice G C I),(strOf x)] n λe f=>yB e λd=>au d (FW SS 12 [] f λb c=>yB b λa=>Q (.bool a) c) (Q (.bool false) f))))) (lA 29 v (pA (B.next)) λo=>FW SS 26 [(.agg ⟨o⟩)] v λm n=>yB m λl=>au (!l) (Q (.bool false) n) (fP 48 (pA (A.next)) 4 λk=>lB n k λj=>au (!j) (FW SS 12 [] n λb c=>yB b λa=>Q (.bool a) c) (lA 29 n (pA (B.next)) λi=>fP 29 (pA (h.next)) 0 λh=>lI n h λg=>FW SS 19 [(.agg ⟨i⟩),(.int .i64 g),(.slice F E H),(.slice G C I),(strOf x)] n λe f=>yB e λd=>au d (FW SS 12 [] f λb c=>yB b λa=>Q (.bool a) c) (Q (.bool false) f))))))))))):FW SS 9 [(.agg ⟨O⟩),(strOf w),(.slice F E H),(.slice G C I)] h Q:=cQ OO Tryz.func9 (ai hx)
end Go.Proofs.YtaaichlgdgjgjaaGreatDoor
end
