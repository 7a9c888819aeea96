/- Whatever is handed to it, in whatever memory, on every schedule, BuildUnions returns true. No condition. -/
import Derived.Test.YtaaichlgdgjgjaaGreatDoorPart3
import Derived.Test.YtaaichlgdgjgjaaGreatDoorPart2
import Derived.Test.YtaaichlgdgjgjaaGreatDoorPart6
import Derived.Shelf.SortM.Plain
import Derived.Shelf.SortM.SortNone
import Derived.Test.YtaaichlgdgjgjaaGreatDoorProg
import Derived.OpenShut
import Derived.MakeChecks
import Derived.FnData
import Derived.ChangeSame
import Derived.Test.YtaaichlgdgjgjaaGreatDoorRows
import Derived.ProofKit
import Derived.LaidLaws
import Derived.LaidHandle
import Derived.ChangeVars
import Derived.Test.YtaaichlgdgjgjaaGreatDoorCards
import Derived.Test.YtaaichlgdgjgjaaGreatDoorTie
import Derived.WalkKit
import Derived.Carry
import Derived.SevenTiedAt
set_option linter.unusedVariables false
set_option linter.unusedSimpArgs false
set_option maxRecDepth 100000
open List (all_eq_true drop_zero getElem?_map mem_append_left mem_append_right mem_cons mem_map)
open Bool (and_eq_true not_eq_false')
section
namespace Go.Proofs.YtaaichlgdgjgjaaGreatDoor
open Go Go.Ab Go.Num
noncomputable def Pj:FD:=cI Tryz.f5 []
theorem LS(T N:LV)(F:OA)(E H:Nat)(G:OA)(C I:Nat)(h:ae)(Q:VH)(hx:xN (ew SS.P 29 (.agg ⟨T⟩)) h λ_ B=>xN (ew SS.P 29 (.agg ⟨N⟩)) B λ_ U=>lA 29 U (pA (h.next)) λS=>FW SS 24 [(.agg ⟨S⟩)] U λv6 R=>yB v6 λO=>au O (FW SS 12 [] R λb c=>yB b λa=>Q (.bool a) c) (lA 29 R (pA (B.next)) λe9=>FW SS 24 [(.agg ⟨e9⟩)] R λe7 Z=>yB e7 λe6=>au e6 (FW SS 12 [] Z λb c=>yB b λa=>Q (.bool a) c) (FW SS 11 [(.slice F E H),(.slice G C I)] Z λe4 M=>yB e4 λe3=>au (!e3) (FW SS 12 [] M λb c=>yB b λa=>Q (.bool a) c) (lA 29 M (pA (h.next)) λe2=>lA 29 M (pA (B.next)) λe1=>FW SS 25 [(.agg ⟨e2⟩),(.agg ⟨e1⟩)] M λd9 D=>∃V:LV,∃J:Int,d9=(.tuple ⟨[(.agg ⟨V⟩),(.int .i64 J)]⟩)/\xN (br SS.P 29) D λ_ W=>xU (ah SS.P 29 (pA (D.next)) (.agg ⟨V⟩) W) W λ_ X=>lA 29 X (pA (h.next)) λd4=>FW SS 26 [(.agg ⟨d4⟩)] X λd2 K=>yB d2 λd1=>au (!d1) (lA 29 K (pA (h.next)) λh=>lA 29 K (pA (B.next)) λg=>FW SS 27 [(.agg ⟨h⟩),(.agg ⟨g⟩),(.int .i64 J)] K λe f=>yB e λd=>au d (FW SS 12 [] f λb c=>yB b λa=>Q (.bool a) c) (Q (.bool false) f)) (lA 29 K (pA (B.next)) λd0=>FW SS 26 [(.agg ⟨d0⟩)] K λc8 A=>yB c8 λc7=>au (!c7) (lA 29 A (pA (h.next)) λh=>lA 29 A (pA (B.next)) λg=>FW SS 27 [(.agg ⟨h⟩),(.agg ⟨g⟩),(.int .i64 J)] A λe f=>yB e λd=>au d (FW SS 12 [] f λb c=>yB b λa=>Q (.bool a) c) (Q (.bool false) f)) (fP 29 (pA (h.next)) 0 λc6=>lI A c6 λS=>fP 29 (pA (B.next)) 0 λc4=>lI A c4 λc3=>au (((S:Int) !=c3)) (lA 29 A (pA (h.next)) λh=>lA 29 A (pA (B.next)) λg=>FW SS 27 [(.agg ⟨h⟩),(.agg ⟨g⟩),(.int .i64 J)] A λe f=>yB e λd=>au d (FW SS 12 [] f λb c=>yB b λa=>Q (.bool a) c) (Q (.bool false) f)) (au (((J:Int) !=0)) (lA 29 A (pA (h.next)) λk=>lA 29 A (pA (B.next)) λj=>xR (aG SS.P 86 2 [(0,(.agg ⟨k⟩)),(1,(.agg ⟨j⟩))]) A λ_ g h i=>FW SS 28 [(.int .i64 J),(sA (A.next) g h)] i λe f=>yB e λd=>au d (FW SS 12 [] f λb c=>yB b λa=>Q (.bool a) c) (Q (.bool false) f)) (fP 29 (pA (h.next)) 0 λc2=>lI (room A 16) c2 λc1=>lA 29 (room A 16) (pA (h.next)) λc0=>xA (ba SS.P 48 [(0,(.int .i64 c1)),(1,(.slice F E H)),(2,(.slice G C I)),(3,(.agg ⟨c0⟩)),(4,(.bool true))]) λb9=>zN (ew SS.P 48 (.agg ⟨b9⟩)) λO=>fP 29 (pA (h.next)) 0 λb7=>lI (room A 16) b7 λb6=>lA 29 (room A 16) (pA (B.next)) λb5=>xA (ba SS.P 48 [(0,(.int .i64 b6)),(1,(.slice F E H)),(2,(.slice G C I)),(3,(.agg ⟨b5⟩)),(4,(.bool true))]) λb4=>zN (ew SS.P 48 (.agg ⟨b4⟩)) λb3=>aep (bZ (room A 16) A.next [(13,b3),(6,O)]) λb2=>FW SS 30 [(pA (A.next+6)),(.int .i64 0),(iA E),(.int .i64 0),(iA C)] b2 λb0 b1=>yS b0 λa9=>FW SS 30 [(pA (A.next+13)),(.int .i64 0),(iA E),(.int .i64 0),(iA C)] b1 λa7 a8=>yS a7 λa6=>FW SS 29 [(pA (A.next+6)),(strOf a9),(strOf a6)] a8 λa4 Y=>yS a4 λP=>lA 29 Y (pA (h.next)) λa2=>FW SS 20 [(.agg ⟨a2⟩)] Y λa0 L=>yB a0 λz=>au z (lA 29 L (pA (B.next)) λy=>FW SS 20 [(.agg ⟨y⟩)] L λw x=>yB w λv=>au v (lA 29 x (pA (D.next)) λu=>FW SS 20 [(.agg ⟨u⟩)] x λs t=>yB s λr=>au (!r) (Q (.bool false) t) (lA 29 t (pA (D.next)) λq=>FW SS 26 [(.agg ⟨q⟩)] t λo p=>yB o λn=>au (!n) (Q (.bool false) p) (fP 48 (pA (A.next+6)) 4 λm=>lB p m λl=>au (!l) (FW SS 12 [] p λb c=>yB b λa=>Q (.bool a) c) (fP 48 (pA (A.next+13)) 4 λk=>lB p k λj=>au (!j) (FW SS 12 [] p λb c=>yB b λa=>Q (.bool a) c) (lA 29 p (pA (D.next)) λi=>fP 29 (pA (h.next)) 0 λh=>lI p h λg=>FW SS 19 [(.agg ⟨i⟩),(.int .i64 g),(.slice F E H),(.slice G C I),(strOf P)] p λe f=>yB e λd=>au d (FW SS 12 [] f λb c=>yB b λa=>Q (.bool a) c) (Q (.bool false) f)))))) (lA 29 x (pA (D.next)) λq=>FW SS 26 [(.agg ⟨q⟩)] x λo p=>yB o λn=>au (!n) (Q (.bool false) p) (fP 48 (pA (A.next+6)) 4 λm=>lB p m λl=>au (!l) (FW SS 12 [] p λb c=>yB b λa=>Q (.bool a) c) (fP 48 (pA (A.next+13)) 4 λk=>lB p k λj=>au (!j) (FW SS 12 [] p λb c=>yB b λa=>Q (.bool a) c) (lA 29 p (pA (D.next)) λi=>fP 29 (pA (h.next)) 0 λh=>lI p h λg=>FW SS 19 [(.agg ⟨i⟩),(.int .i64 g),(.slice F E H),(.slice G C I),(strOf P)] p λe f=>yB e λd=>au d (FW SS 12 [] f λb c=>yB b λa=>Q (.bool a) c) (Q (.bool false) f)))))) (lA 29 L (pA (D.next)) λq=>FW SS 26 [(.agg ⟨q⟩)] L λo p=>yB o λn=>au (!n) (Q (.bool false) p) (fP 48 (pA (A.next+6)) 4 λm=>lB p m λl=>au (!l) (FW SS 12 [] p λb c=>yB b λa=>Q (.bool a) c) (fP 48 (pA (A.next+13)) 4 λk=>lB p k λj=>au (!j) (FW SS 12 [] p λb c=>yB b λa=>Q (.bool a) c) (lA 29 p (pA (D.next)) λi=>fP 29 (pA (h.next)) 0 λh=>lI p h λg=>FW SS 19 [(.agg ⟨i⟩),(.int .i64 g),(.slice F E H),(.slice G C I),(strOf P)] p λe f=>yB e λd=>au d (FW SS 12 [] f λb c=>yB b λa=>Q (.bool a) c) (Q (.bool false) f))))))))))))):FW SS 5 [(.agg ⟨T⟩),(.agg ⟨N⟩),(.slice F E H),(.slice G C I)] h Q:=cN Pj Tryz.func5 (ai hx)
section
theorem Bh{M:bp}(h:Ih M=true):Small M/\M.af.length<=8/\cg M.af<=40/\M.lead.length<=40:=by
 unfold Ih at h;simp only[and_eq_true,decide_eq_true_eq,all_eq_true]at h;obtain⟨d,f,c,g⟩:=h;have b:∀s∈M.af,s.f.length<=40/\∀q∈s.arcs,q.w.length<=40:=λs a=>by
  have:=g s a;unfold Kb at this;simp only[and_eq_true,decide_eq_true_eq,all_eq_true]at this;exact this
 refine⟨⟨by omega,by omega,λs a=>by have:=(b s a).1;omega,λs a=>?_,λs a q e=>by have:=(b s a).2 q e;omega,by omega⟩,d,f,c⟩;have:=Ds a;omega
theorem ZV(D:TD):ba SS.P 48 [(0,.int .i64 D.M.kind),(1,.slice D.xa D.xs.length D.xc),(2,.slice D.ya D.ys.length D.yc),(3,.agg ⟨bE D.M D.s D.M.af.length D.sc⟩),(4,.bool true)]=some (.agg ⟨D.cs true⟩):=by kernel_rfl
theorem ZX(D:TD):ew SS.P 48 (.agg ⟨D.cs true⟩)=some (.cells (D.cs true) 48 0 true,kI):=by
 cases D.s<;>cases D.xa<;>cases D.ya<;>kernel_rfl
section
variable {h g:ae} {A B M:bp} {kA kB km kt ku:Nat} {a b m:Option Addr} {nA nB nM cA cB cM:Nat} {xa ya:Option Addr} {xc yc:Nat} {xs ys:List Int}
theorem Ys(t:nP h)(p:Ok h g)(r:Small A)(v:Small B)(l:MB g kA A a nA cA)(f:MB g kB B b nB cB){e:Int}(s:Dt A B e=true):
  xA (aj SS.P 29 g (pA kA)) λo=>xA (aj SS.P 29 g (pA kB)) λj=>FW SS 27 [(.agg ⟨o⟩),(.agg ⟨j⟩),(.int .i64 e)] g λm c=>yB m λn=>au n (FW SS 12 [] c λd i=>yB d λk=>EQ h (.bool k) i) (EQ h (.bool false) c):=by
 refine⟨_,l.all,_,f.all,(PW p.wf r v l.row f.row e).mono ?_⟩;rintro _ w ⟨rfl,u⟩;exact⟨_,rfl,aa (λ_=>CK t (p.trans u)) (λq=>by rw[s]at q;cases q)⟩
abbrev unT(h:ae)(kA km kt ku:Nat)(B A:Value)(f:List UInt8)(g:ae):Prop:=
 xA (aj SS.P 29 g (pA km)) λe=>FW SS 26 [(.agg ⟨e⟩)] g λn a=>yB n λx=>au (!x) (EQ h (.bool false) a) (xP (aE SS.P 48 (pA kt) 4) λp=>xB (aj SS.P 4 a (.pointer (some p))) λw=>au (!w) (FW SS 12 [] a λk o=>yB k λi=>EQ h (.bool i) o) (xP (aE SS.P 48 (pA ku) 4) λm=>xB (aj SS.P 4 a (.pointer (some m))) λr=>au (!r) (FW SS 12 [] a λz t=>yB z λj=>EQ h (.bool j) t) (xA (aj SS.P 29 a (pA km)) λl=>xP (aE SS.P 29 (pA kA) 0) λc=>xI .i64 (aj SS.P 3 a (.pointer (some c))) λu=>FW SS 19 [(.agg ⟨l⟩),(.int .i64 u),B,A,(strOf f)] a λs b=>yB s λq=>au q (FW SS 12 [] b λy d=>yB y λv=>EQ h (.bool v) d) (EQ h (.bool false) b))))
theorem Wn{D E:TD}{o:ae}{n k:Bool}(i:nP h)(p:Ok h g)(t:xu D o g kt n)(u:xu E o g ku k)(l:Small M)(w:bT M=true)(f:MB g km M m nM cM)(z:MB g kA A a nA cA)(r:dO g (.slice xa xs.length xc) xs)(v:dO g (.slice ya ys.length yc) ys){c:List UInt8}(x:n=true->k=true->Dd M A.kind xs ys c=true):
  unT h kA km kt ku (.slice xa xs.length xc) (.slice ya ys.length yc) c g:=by
 refine⟨_,f.all,(lr p.wf l f.row).mono ?_⟩;rintro _ B ⟨rfl,b⟩;have d:=p.trans b;have e:=f.ok b;refine⟨_,rfl,aa (λq=>by rw[w]at q;cases q) (λ_=>⟨_,Eb kt,_,(t.qC b).l4,aa (λ_=>CK i d) (λq=>⟨_,Eb ku,_,(u.qC b).l4,aa (λ_=>CK i d) (λs=>⟨_,e.all,_,dt _,_,(z.ok b).l0,(PU b.wf l e.row (dO.ok r b) (dO.ok v b) A.kind c).mono ?_⟩)⟩)⟩)⟩;rintro _ C ⟨rfl,y⟩;exact⟨_,rfl,aa (λ_=>CK i (d.trans y)) (λj=>by rw[x (by simpa using q) (by simpa using s)]at j;cases j)⟩
theorem Xl{T:ae->Prop}(G:Wf g)(F:Small A)(J:Small B)(D:Small M)(z:MB g kA A a nA cA)(x:MB g kB B b nB cB)(y:MB g km M m nM cM)(s:CH A=true->CH B=true->CH M=true)(t:∀w,Ok g w->T w):
  xA (aj SS.P 29 g (pA kA)) λu=>FW SS 20 [(.agg ⟨u⟩)] g λp d=>yB p λl=>au l (xA (aj SS.P 29 d (pA kB)) λv=>FW SS 20 [(.agg ⟨v⟩)] d λn c=>yB n λj=>au j (xA (aj SS.P 29 c (pA km)) λo=>FW SS 20 [(.agg ⟨o⟩)] c λr i=>yB r λk=>au (!k) (EQ h (.bool false) i) (T i)) (T c)) (T d):=by
 refine⟨_,z.all,(HX G F z.row).mono ?_⟩;rintro _ L ⟨rfl,f⟩;refine⟨_,rfl,aa (λI=>⟨_,(x.ok f).all,(HX f.wf J (x.ok f).row).mono ?_⟩) (λ_=>t _ f)⟩;rintro _ K ⟨rfl,C⟩;have e:=f.trans C;refine⟨_,rfl,aa (λE=>⟨_,(y.ok e).all,(HX C.wf D (y.ok e).row).mono ?_⟩) (λ_=>t _ e)⟩;rintro _ N ⟨rfl,H⟩;exact⟨_,rfl,aa (λq=>by rw[s I E]at q;cases q) (λ_=>t _ (e.trans H))⟩
theorem Qf(e:qy A B≠0):Dt A B (qy A B)=true:=by
 unfold Dt qy at*;by_cases c:(bT A&&bT B)=true
 ·rw[if_pos c]at*;by_cases d:A.kind=B.kind
  ·rw[if_pos d]at e;exact absurd rfl e
  ·rw[if_neg d,if_pos c];rfl
 ·rw[if_neg c,if_neg c];rfl
theorem Wo(b:bT A=true)(c:bT B=true)(a:A.kind=B.kind):qy A B=0:=by
 unfold qy;rw[b,c,if_pos a];rfl
theorem O2(e:bT (ft A B)=true)(d:CH A=true)(c:CH B=true):CH (ft A B)=true:=by
 unfold CH Sw at*;rw[and_eq_true,all_eq_true]at d c;rw[e,Bool.true_and,all_eq_true,qA];intro s a;rcases mem_cons.1 a with rfl|a
 ·rfl
 ·rcases List.mem_append.1 a with a|a
  ·obtain⟨t,b,rfl⟩:=mem_map.1 a;exact N2 (d.2 t b)
  ·obtain⟨t,b,rfl⟩:=mem_map.1 a;exact N2 (c.2 t b)
theorem LU(w:Wf h)(H:nP h)(bA:Bnd A)(bB:Bnd B)(rA:dm h (.slice a nA cA) A.af)(rB:dm h (.slice b nB cB) B.af)(z:dO h (.slice xa xs.length xc) xs)(C:dO h (.slice ya ys.length yc) ys)(hx:xs.length<=281474976710656)(hy:ys.length<=281474976710656)(x4:xs.length<=bH xc)(x5:ys.length<=bH yc):
  FW SS 5 [.agg ⟨bE A a nA cA⟩,.agg ⟨bE B b nB cB⟩,.slice xa xs.length xc,.slice ya ys.length yc] h (EQ h):=by
 obtain⟨d,o1⟩:=eJ w rA;obtain⟨g,o2⟩:=eJ o1.wf (rB.ok o1);refine LS (bE A a nA cA) (bE B b nB cB) xa _ xc ya _ yc h _ ⟨_,gL A a nA cA,_,gL B b nB cB,?_⟩;generalize h.push (Bm A a nA cA)=g2 at*;generalize g2.push (Bm B b nB cB)=g4 at*;have d:=d.ok o2;have W:=o1.trans o2;generalize h.next=kA at*;generalize g2.next=kB at*;refine⟨_,d.all,(JR W.wf bA d.row).mono ?_⟩;rintro _ g5 ⟨rfl,O⟩;have y4:=W.trans O;refine⟨_,rfl,aa (λ_=>CK H y4) (λq=>⟨_,(g.ok O).all,(JR O.wf bB (g.ok O).row).mono ?_⟩)⟩;rw[not_eq_false']at q;obtain⟨G,z5,z1,y9⟩:=Bh q;rintro _ g6 ⟨rfl,o6⟩;have L:=O.trans o6;have m:=W.trans L;refine⟨_,rfl,aa (λ_=>CK H m) (λq=>(P0 (dO.ok z m) (dO.ok C m) hx hy).mono ?_)⟩;rw[not_eq_false']at q;obtain⟨y,z6,z0,y8⟩:=Bh q;rintro _ g7 ⟨rfl,e0⟩;obtain rfl:g6=g7:=e0.symm;have d:=d.ok L;have g:=g.ok L;refine⟨_,rfl,aa (λ_=>CK H m) (λZ=>⟨_,d.all,_,g.all,o9 (FJ m.wf (H.ok m) G y d.row g.row) (e:=qy A B) (R:=(wX A B).1) (by unfold wX;split<;>simp_all) λx8 m' nM cM u ob st q8 F=>⟨_,qJ,u,st,?_⟩⟩)⟩;rw[not_eq_false']at Z;unfold Nw at Z;rw[and_eq_true,and_eq_true]at Z;obtain⟨_,wx,wy⟩:=Z;generalize u.app (x8.push mS)=g8 at*;generalize x8.next=km at*;have x0:=m.trans q8;have d:=d.ok q8;have g:=g.ok q8;refine⟨_,d.all,(lr x0.wf G d.row).mono ?_⟩;rintro _ g9 ⟨rfl,J⟩;have N:=x0.trans J;have d:=d.ok J;have g:=g.ok J;have bad:∀{g':ae},Ok g9 g'->(bT A=true->bT B=true->A.kind=B.kind->False)->_:=λ{g'} o hb=>Ys H (N.trans o) G y (d.ok o) (g.ok o) (e:=qy A B) (Qf λc=>by
  unfold qy at c;by_cases U:(bT A&&bT B)=true
  ·rw[if_pos U]at c;rw[and_eq_true]at U;by_cases c2:A.kind=B.kind
   ·exact hb U.1 U.2 c2
   ·rw[if_neg c2]at c;cases c
  ·rw[if_neg U]at c;cases c)
 refine⟨_,rfl,aa (λq=>bad (Ok.refl J.wf) λh1 _ _=>by rw[h1]at q;cases q) (λI=>⟨_,g.all,(lr N.wf y g.row).mono ?_⟩)⟩;rw[not_eq_false']at I;rintro _ f ⟨rfl,l⟩;refine⟨_,rfl,aa (λq=>bad l λ_ Y _=>by rw[Y]at q;cases q) (λV=>⟨_,dt _,_,(d.ok l).l0,_,dt _,_,(g.ok l).l0,aa (λq=>bad l λ_ _ h3=>by rw[h3]at q;simp at q) (λs=>?_)⟩)⟩;rw[not_eq_false']at V;have s:A.kind=B.kind:=by simpa using s
 have x:=N.trans l;have d:=d.ok l;have g:=g.ok l;have Y:=Wo I V s;have hu:wX A B=(ft A B,0):=if_pos Y;rw[Y];rw[hu]at F;dsimp only at F;have F:=(F.ok J).ok l;refine aa (λq=>by cases q) (λ_=>?_);have or:=(Ok.refl l.wf).room 16;have y1:=d.len;have y2:=g.len;subst y1 y2;have z:=dO.ok z x;have C:=dO.ok C x
 let D:TD:=⟨A,a,cA,xa,xc,xs,ya,yc,ys⟩
 let E:TD:=⟨B,b,cB,xa,xc,xs,ya,yc,ys⟩
 have tD:TGd D f:=⟨l.wf,d.row,z,x4,C,x5,G,I,wx,wy⟩
 have tE:TGd E f:=⟨l.wf,g.row,z,x4,C,x5,y,V,wx,wy⟩
 obtain⟨on,gt,gu⟩:=Zl l.wf (n:=16) (i:=6) (j:=13) (by omega) (by omega) (by omega) (.cells (D.cs true) 48 0 true) (.cells (E.cs true) 48 0 true);refine⟨_,dt _,_,(d.ok or).l0,_,(d.ok or).all,_,ZV D,_,ZX D,_,dt _,_,(d.ok or).l0,_,(g.ok or).all,_,(by rw[s];exact ZV E),_,ZX E,?_⟩;show FW SS 30 _ (bZ (room f 16) f.next [(13,.cells (E.cs true) 48 0 true),(6,.cells (D.cs true) 48 0 true)]) _;generalize bZ (room f 16) f.next [(13,.cells (E.cs true) 48 0 true),(6,.cells (D.cs true) 48 0 true)]=x6 at*;have t:xu D f x6 (f.next+6) true:=⟨gt,on,by omega⟩
 have uu:xu E f x6 (f.next+13) true:=⟨gu,on,by omega⟩
 have P:f.next+6≠f.next+13:=by omega
 generalize f.next+6=kt at*;generalize f.next+13=ku at*;have x7:=tN I;obtain⟨K,S,r,Q⟩:=xl x7.kind;have y7:sP S r B.kind:=s▸Q;refine(VW (S:=S) (dec:=r) (i:=0) (j:=xs.length) (p:=0) (q:=ys.length) Q tD t (Nat.zero_le _) (Nat.le_refl _) (Nat.zero_le _) (Nat.le_refl _)).mono ?_;rintro _ z2 ⟨w1,b1,rfl,t1,k1,v1,d1⟩;have u1:=uu.kt k1 P.symm t1.ok;refine⟨w1,rfl,(VW (S:=S) (dec:=r) (i:=0) (j:=xs.length) (p:=0) (q:=ys.length) y7 tE u1 (Nat.zero_le _) (Nat.le_refl _) (Nat.zero_le _) (Nat.le_refl _)).mono ?_⟩;rintro _ z3 ⟨w2,b2,rfl,u2,k2,v2,d2⟩;have t2:=t1.kt k2 P u2.ok;have v2:aM D.M.kind w2=true:=by show aM A.kind w2=true;rw[s];exact v2
 refine⟨w2,rfl,(VY (D:=D) Q tD.wf t2 v1 v2).mono ?_⟩;rintro _ z4 ⟨w3,b3,rfl,t3,k3,v3,d3⟩;have u3:=u2.kt k3 P.symm t3.ok;have k:=t3.ok;have y6:=x.trans k;have vA:=Nu I (by omega);have vB:=Nu V (by omega);obtain⟨X,nU,sU⟩:=Zm vA vB s (by omega) (by omega) (by omega) (by omega);have sm:Small (ft A B):=X.small (by omega) (by omega);have y5:=od G I;have y3:=od y V;refine⟨w3,rfl,Xl (T:=unT h kA km kt ku (.slice xa xs.length xc) (.slice ya ys.length yc) w3) k.wf G y sm (d.ok k) (g.ok k) (F.ok k) (O2 X.valid) λg' v=>Wn H (y6.trans v) (t3.qC v) (u3.qC v) sm X.valid ((F.ok k).ok v) ((d.ok k).ok v) (dO.ok z (k.trans v)) (dO.ok C (k.trans v)) λy0 x9=>?_⟩;obtain⟨e2,x3⟩:=d3 y0;obtain⟨_,x2⟩:=d2 x9;obtain⟨_,x1⟩:=d1 e2;rw[List.take_length,List.take_length,drop_zero,drop_zero]at x1 x2;refine TJ (M:=ft A B) Q X.valid wx wy v3 ?_;rw[RK y5 y3 (XV x7.kind Q),x3,x1,x2]
end
end
end Go.Proofs.YtaaichlgdgjgjaaGreatDoor
end
section
namespace Go.Proofs.YtaaichlgdgjgjaaGreatDoor
open Go.Shelf Go.RowKit Go.Lib Go.Sort
def KS:Go.Shelf.Ren:=⟨fun|5=>81|8=>101|7=>100|19=>134|20=>135|10=>125|11=>126|12=>127|13=>128|14=>129|15=>130|16=>131|17=>132|18=>133|30=>160|31=>161|32=>162|33=>163|34=>164|35=>165|40=>182|n=>n,fun|23=>22|25=>3|3=>3|32=>111|22=>22|0=>0|44=>148|46=>150|4=>4|36=>140|35=>139|41=>145|5=>5|9=>9|53=>166|57=>170|63=>185|64=>186|n=>n,fun|n=>n⟩
theorem Y9:Go.Proofs.SlLaysM.n5 Tryz.prog KS:={
 mixed:=by kernel_rfl,
 f5:=⟨Tryz.f81.name,by decide,Tryz.func81.trans (congrArg some (by kernel_rfl))⟩,
 f7:=⟨Tryz.f100.name,by decide,Tryz.func100.trans (congrArg some (by kernel_rfl))⟩,
 f8:=Tryz.func101.trans (congrArg some (by kernel_rfl)),
 f10:=⟨Tryz.f125.name,by decide,Tryz.func125.trans (congrArg some (by kernel_rfl))⟩,
 f11:=⟨Tryz.f126.name,by decide,Tryz.func126.trans (congrArg some (by kernel_rfl))⟩,
 f12:=⟨Tryz.f127.name,by decide,Tryz.func127.trans (congrArg some (by kernel_rfl))⟩,
 f13:=⟨Tryz.f128.name,by decide,Tryz.func128.trans (congrArg some (by kernel_rfl))⟩,
 f14:=⟨Tryz.f129.name,by decide,Tryz.func129.trans (congrArg some (by kernel_rfl))⟩,
 f15:=⟨Tryz.f130.name,by decide,Tryz.func130.trans (congrArg some (by kernel_rfl))⟩,
 f16:=⟨Tryz.f131.name,by decide,Tryz.func131.trans (congrArg some (by kernel_rfl))⟩,
 f17:=⟨Tryz.f132.name,by decide,Tryz.func132.trans (congrArg some (by kernel_rfl))⟩,
 f18:=⟨Tryz.f133.name,by decide,Tryz.func133.trans (congrArg some (by kernel_rfl))⟩,
 f19:=Tryz.func134.trans (congrArg some (by kernel_rfl)),
 f20:=Tryz.func135.trans (congrArg some (by kernel_rfl)),
 f30:=⟨Tryz.f160.name,by decide,Tryz.func160.trans (congrArg some (by kernel_rfl))⟩,
 f31:=Tryz.func161.trans (congrArg some (by kernel_rfl)),
 f32:=Tryz.func162.trans (congrArg some (by kernel_rfl)),
 f33:=⟨Tryz.f163.name,by decide,Tryz.func163.trans (congrArg some (by kernel_rfl))⟩,
 f34:=⟨Tryz.f164.name,by decide,Tryz.func164.trans (congrArg some (by kernel_rfl))⟩,
 f35:=⟨Tryz.f165.name,by decide,Tryz.func165.trans (congrArg some (by kernel_rfl))⟩,
 f40:=⟨Tryz.f182.name,by decide,Tryz.func182.trans (congrArg some (by kernel_rfl))⟩,
 t0:=Tryz.underlying0,
 a0:=Tryz.isAgg0,
 z0:=Tryz.sizeOf0,
 v0:=Tryz.zeroValue0,
 t3:=Tryz.underlying3,
 a3:=Tryz.isAgg3,
 z3:=Tryz.sizeOf3,
 v3:=Tryz.zeroValue3,
 t4:=Tryz.underlying4,
 a4:=Tryz.isAgg4,
 z4:=Tryz.sizeOf4,
 v4:=Tryz.zeroValue4,
 t5:=Tryz.underlying5,
 a5:=Tryz.isAgg5,
 z5:=Tryz.sizeOf5,
 v5:=Tryz.zeroValue5,
 t9:=Tryz.underlying9,
 a9:=Tryz.isAgg9,
 z9:=Tryz.sizeOf9,
 v9:=Tryz.zeroValue9,
 t22:=Tryz.underlying22,
 a22:=Tryz.isAgg22,
 z22:=Tryz.sizeOf22,
 v22:=Tryz.zeroValue22,
 t23:=Tryz.underlying22,
 a23:=Tryz.isAgg22,
 z23:=Tryz.sizeOf22,
 v23:=Tryz.zeroValue22,
 t25:=Tryz.underlying3,
 a25:=Tryz.isAgg3,
 z25:=Tryz.sizeOf3,
 v25:=Tryz.zeroValue3,
 t32:=Tryz.underlying111,
 a32:=Tryz.isAgg111,
 z32:=Tryz.sizeOf111,
 v32:=Tryz.zeroValue111,
 t35:=Tryz.underlying139,
 a35:=Tryz.isAgg139,
 z35:=Tryz.sizeOf139,
 v35:=Tryz.zeroValue139,
 t36:=Tryz.underlying140,
 a36:=Tryz.isAgg140,
 z36:=Tryz.sizeOf140,
 v36:=Tryz.zeroValue140,
 t41:=Tryz.underlying145,
 a41:=Tryz.isAgg145,
 z41:=Tryz.sizeOf145,
 v41:=Tryz.zeroValue145,
 t44:=Tryz.underlying148,
 a44:=Tryz.isAgg148,
 z44:=Tryz.sizeOf148,
 v44:=Tryz.zeroValue148,
 t46:=Tryz.underlying150,
 a46:=Tryz.isAgg150,
 z46:=Tryz.sizeOf150,
 v46:=Tryz.zeroValue150,
 t53:=Tryz.underlying166,
 a53:=Tryz.isAgg166,
 z53:=Tryz.sizeOf166,
 v53:=Tryz.zeroValue166,
 t57:=Tryz.underlying170,
 a57:=Tryz.isAgg170,
 z57:=Tryz.sizeOf170,
 v57:=Tryz.zeroValue170,
 t63:=Tryz.underlying185,
 a63:=Tryz.isAgg185,
 z63:=Tryz.sizeOf185,
 v63:=Tryz.zeroValue185,
 t64:=Tryz.underlying186,
 a64:=Tryz.isAgg186,
 z64:=Tryz.sizeOf186,
 v64:=Tryz.zeroValue186 }
end Go.Proofs.YtaaichlgdgjgjaaGreatDoor
end
section
namespace Go.Proofs.YtaaichlgdgjgjaaGreatDoor
open Go Go.Ab Go.RowKit
theorem Dx:oT Tryz.prog WY 222 qS:=J7 (fn:=(Tryz.prog.funcs[222]?).getD default) (by kernel_rfl) (by kernel_rfl) (by kernel_rfl) (by kernel_rfl) (by kernel_rfl)
theorem Bz:oT Tryz.prog WY 226 pz:=Ht (fn:=(Tryz.prog.funcs[226]?).getD default) (by kernel_rfl) (by kernel_rfl) (by kernel_rfl) (by kernel_rfl) (by kernel_rfl)
theorem Fk:oT Tryz.prog WY 166 (wV Tryz.prog WY Tryz.f166 (Nc FM) (Ie (Ie FM)) 5):=
 Tj OJ.names Tryz.func166 rfl rfl rfl rfl rfl rfl rfl Tryz.func183 rfl Hs (by kernel_rfl) (by kernel_rfl)
theorem Ni:oT Tryz.prog WY 81 DV:=VE Y9 (f5:=Tryz.f81) Tryz.func81 (by kernel_rfl)
theorem UC:rC Tryz.prog WY prS:=oq Ni (oq Dx (oq Bz (oq Fk Kh)))
end Go.Proofs.YtaaichlgdgjgjaaGreatDoor
end
section
namespace Go.Proofs.YtaaichlgdgjgjaaGreatDoor
open Go Go.Ab Go.ChangeShapes Go.RowKit
variable{n:Nat}{J:dJ}{s:List UInt8}{v:Value}{w:Value}{h:ae}
section
theorem co3:Tryz.prog.cellsOf 3=1:=by kernel_rfl
theorem co9:Tryz.prog.cellsOf 9=1:=by kernel_rfl
theorem aeg:Tryz.prog.cellsOf 27=1:=by kernel_rfl
theorem aeh:Tryz.prog.cellsOf 29=4:=by kernel_rfl
theorem aei:Tryz.prog.cellsOf 71=1:=by kernel_rfl
theorem acO:Tryz.prog.cellsOf 73=2:=by kernel_rfl
theorem acN:Tryz.prog.cellsOf 70=4:=by kernel_rfl
theorem acM:Tryz.prog.cellsOf 150=1:=by kernel_rfl
theorem ad4:Tryz.prog.bytesOf 70=40:=by kernel_rfl
theorem HA{a c:Type}{p:a->c}{P:a->Prop}:∀{l:List c},(∀x∈l,∃q,x=p q/\P q)->∃k:List a,l=k.map p/\∀q∈k,P q
 |[],_=>⟨[],rfl,λ_ h=>by cases h⟩
 | x::l,h=>by
  obtain⟨q,rfl,e⟩:=h x (List.mem_cons_self ..);obtain⟨k,rfl,f⟩:=HA λx d=>h x (List.mem_cons_of_mem _ d);exact⟨q::k,rfl,λy b=>by
   rcases mem_cons.1 b with rfl|b
   ·exact e
   ·exact f y b⟩
def Sn(W:World)(q:dA×Value):Prop:=AY W q.2 4 (q.1.arcs.map fH)/\q.1.arcs.length<=281474976710656
section
variable {H:Type} {enc:TypeId×Value->H} {W:World} {held:Bool}
theorem Sy{cs:List Value}{y:DataW H×List MemPlace}(h:DataW.trod enc Tryz.prog W 0 (λ_=>true) held n 70 cs=some y):∃q:gN,cs=fH q/\True:=by
 obtain⟨r,m,_,_,l,a,b⟩:=DataW.trod_struct Tryz.underlying70 h;rw[acN]at l;have a:r.length=4:=a
 match r,a,cs,l with
 |[k,v,g,p],_,[f,c,e,d],_=>
  obtain⟨i,z,_,_⟩:=DataW.trod_int (x:=k) Tryz.underlying3 (show DataW.trod enc Tryz.prog W 0 (λ_=>true) held m 3 (([f,c,e,d].drop 0).take (Tryz.prog.cellsOf 3))=some k from b 0 _ rfl);obtain⟨o,j,_,_⟩:=DataW.trod_int (x:=v) Tryz.underlying3 (show DataW.trod enc Tryz.prog W 0 (λ_=>true) held m 3 (([f,c,e,d].drop 1).take (Tryz.prog.cellsOf 3))=some v from b 1 _ rfl);obtain⟨s,w,_,_⟩:=DataW.trod_string (x:=g) Tryz.underlying9 (show DataW.trod enc Tryz.prog W 0 (λ_=>true) held m 9 (([f,c,e,d].drop 2).take (Tryz.prog.cellsOf 9))=some g from b 2 _ rfl);obtain⟨t,u,_,_⟩:=DataW.trod_int (x:=p) Tryz.underlying3 (show DataW.trod enc Tryz.prog W 0 (λ_=>true) held m 3 (([f,c,e,d].drop 3).take (Tryz.prog.cellsOf 3))=some p from b 3 _ rfl);simp only[co3,co9,List.drop,List.take,List.cons.injEq,and_true]at z j w u;subst z;subst j;subst w;subst u;exact⟨⟨i,o,s.data.toList,t⟩,rfl,trivial⟩
theorem Nk{cs:List Value}{y:DataW H×List MemPlace}(h:DataW.trod enc Tryz.prog W 0 (λ_=>true) held n 73 cs=some y)(d:(y.1.weights Tryz.prog 73).all (· <=reachBytes)=true):∃q:dA×Value,cs=uZ q/\Sn W q:=by
 obtain⟨k,o,m,rfl,c,i,f⟩:=trod_struct2 Tryz.underlying73 h;rw[acO]at c
 match cs,c with
 |[u,g],_=>
  obtain⟨s,e,_,_⟩:=DataW.trod_string Tryz.underlying9 i;simp only[DataW.weights,Tryz.underlying73,DataW.weightsEach,List.map,List.append_nil,List.all_append,and_eq_true]at d;obtain⟨v,t,b,r,j,a⟩:=Ak (P:=Tryz.prog) (p:=λcs=>∃q:gN,cs=fH q/\True) Tryz.underlying71 acN (by decide) (λn cs y h _=>Sy h) f d.2;simp only[co9,aei,List.drop,List.take,List.cons.injEq,and_true]at e b;subst e;subst b;obtain⟨l,rfl,_⟩:=HA j;refine⟨(⟨s.data.toList,l⟩,g),rfl,r,?_⟩;rw[ad4,lM]at a;unfold reachBytes at a;show l.length<=_;omega
theorem Hz{cs:List Value}{y:DataW H×List MemPlace}(h:DataW.trod enc Tryz.prog W 0 (λ_=>true) held n 29 cs=some y)(e:(y.1.weights Tryz.prog 29).all (· <=reachBytes)=true):
  ∃(k s:Int)(o:List UInt8)(v:Value)(j:List (dA×Value)),cs=[.int .i64 k,.int .i64 s,strOf o,v]/\AY W v 2 (j.map uZ)/\∀q∈j,Sn W q:=by
 obtain⟨A,m,_,rfl,d,a,c⟩:=DataW.trod_struct Tryz.underlying29 h;rw[aeh]at d;have a:A.length=4:=a
 match A,a,cs,d with
 |[w,C,t,z],_,[i,f,g,b],_=>
  obtain⟨k,E,_,_⟩:=DataW.trod_int (x:=w) Tryz.underlying3 (show DataW.trod enc Tryz.prog W 0 (λ_=>true) held m 3 (([i,f,g,b].drop 0).take (Tryz.prog.cellsOf 3))=some w from c 0 _ rfl);obtain⟨s,u,_,_⟩:=DataW.trod_int (x:=C) Tryz.underlying3 (show DataW.trod enc Tryz.prog W 0 (λ_=>true) held m 3 (([i,f,g,b].drop 1).take (Tryz.prog.cellsOf 3))=some C from c 1 _ rfl);obtain⟨o,D,_,_⟩:=DataW.trod_string (x:=t) Tryz.underlying9 (show DataW.trod enc Tryz.prog W 0 (λ_=>true) held m 9 (([i,f,g,b].drop 2).take (Tryz.prog.cellsOf 9))=some t from c 2 _ rfl);simp only[DataW.weights,Tryz.underlying29,DataW.weightsEach,List.map,List.append_nil,List.all_append,and_eq_true]at e;obtain⟨v,G,B,r,F,_⟩:=Ak (P:=Tryz.prog) (x:=z) (p:=λcs=>∃q:dA×Value,cs=uZ q/\Sn W q) Tryz.underlying27 acO (by decide) (λn cs y h e=>Nk h e) (show DataW.trod enc Tryz.prog W 0 (λ_=>true) held m 27 (([i,f,g,b].drop 3).take (Tryz.prog.cellsOf 27))=some z from c 3 _ rfl) e.2.2.2;simp only[co3,co9,aeg,List.drop,List.take,List.cons.injEq,and_true]at E u D B;subst E;subst u;subst D;subst B;obtain⟨l,rfl,d⟩:=HA F;exact⟨k,s,o.data.toList,b,l,rfl,r,d⟩
end
section
variable {W:World}
theorem O8(q:gN):(fH q).all Go.Ab.bare=true:=rfl
theorem Zc(h:aD J v w):bo J [strOf s,v] [strOf s,w]:= .cons (.string _) (.cons h (.nil J))
theorem F5:∀(a:List (dA×Value)),(∀q∈a,Sn W q)->∀{c:dJ}{h:ae},vj c h W->
  ∃(d:dJ)(m:ae)(b:List (dA×Value)),vj d m W/\c.le d/\Ok h m/\b.length=a.length/\b.map (·.1)=a.map (·.1)/\(∀p∈b,ml m p.2 p.1.arcs)/\
   ∀(k:Nat) r s,(b.map uZ)[k]?=some r->(a.map uZ)[k]?=some s->bo d r s
 |[],_,c,h,i=>⟨c,h,[],i,c.le_refl,Ok.refl i.wf,rfl,rfl,λ_ f=>absurd f (by simp),λk v q h=>absurd h (by simp)⟩
 | q::a,u,c,h,i=>by
  obtain⟨r,_⟩:=u q (List.mem_cons_self ..);obtain⟨K,g,v,A,G,z,C,I⟩:=i.row (e:=70) r (rs:=q.1.arcs.map fH) rfl (λk r s g j=>by
    rw[g]at j;obtain rfl:=oI j;rw[getElem?_map]at g;obtain⟨x,_,rfl⟩:=Option.map_eq_some_iff.1 g;exact bo.ym (O8 x))
  obtain⟨t,j,b,B,y,w,D,f,F,H⟩:=F5 a (λq f=>u q (List.mem_cons_of_mem _ f)) A;refine⟨t,j,(q.1,v)::b,B,dJ.le_trans G y,z.trans w,by simp[D],by simp[f],λp o=>?_,λk J E n l=>?_⟩
  ·rcases mem_cons.1 o with rfl|o
   ·exact ml.ok I w
   ·exact F p o
  ·cases k with
   |zero=>
    simp only[List.map_cons,List.getElem?_cons_zero,Option.some.injEq]at n l;subst n;subst l;exact Zc (C.mono y)
   |succ k=>exact H k J E (by simpa using n) (by simpa using l)
theorem JX(i:vj J h W){v:Value}{b:List (dA×Value)}(r:AY W v 2 (b.map uZ))(y:∀q∈b,Sn W q)(F:∀a,v = .slice (some a) 0 0->a.spot=none/\∃cs t x,W.heap[a.block]?=some (.cells cs t x)):
  ∃c f d,vj c f W/\J.le c/\Ok h f/\aD c d v/\dm f d (b.map (·.1)):=by
 obtain⟨H,I,j,n,B,l,u,m,A,D⟩:=F5 b y i;obtain⟨g,z,d,o,G,k,w,s,C⟩:=n.Vi (e:=73) (rs:=j.map uZ) r (by simp[u]) D F;exact⟨g,z,d,o,dJ.le_trans B G,l.trans k,w,j,m,s,λp E=>ml.ok (A p E) k,C⟩
end
end
end Go.Proofs.YtaaichlgdgjgjaaGreatDoor
end
section
namespace Go.Proofs.YtaaichlgdgjgjaaGreatDoor
open Go Go.ChangeShapes Go.WideShapes Go.ChangeAt Go.RowKit
theorem Vu:ownKnob Tryz.prog.godebug=none:=by kernel_rfl
abbrev ni{H:Type}:List (String×DataW H):=[("math/bits.deBruijn32tab",Rows.laid_math_bits_deBruijn32tab),("math/bits.deBruijn64tab",Rows.laid_math_bits_deBruijn64tab),("internal/strconv.uint64pow10",Rows.laid_internal_strconv_uint64pow10)]
def aa7:DataW Unit->Value
 |.lit (.int k n)=> .int k n
 |_=>undef
def CU:DataW Unit->Array Value
 |.agg l=>(l.map aa7).toArray
 |_=> #[]
def T5(c:Array Value):Obj->Obj
 |.cells _ t a=> .cells c t a
 |o=>o
noncomputable def F3(a:Os):World:=
 { World.holding Tryz.prog a ⟨#[],#[],[]⟩with heap:=(((World.holding Tryz.prog a ⟨#[],#[],[]⟩).heap.modify 2 (T5 (CU Rows.laid_math_bits_deBruijn32tab))).modify 3 (T5 (CU Rows.laid_math_bits_deBruijn64tab))).modify 1 (T5 (CU Rows.laid_internal_strconv_uint64pow10)) }
theorem E4(b:Os)(a:Array Value):laidMetH Tryz.prog ni ((F3 b).forCall (λ_ _=>0) ⟨#[],a,[]⟩).memory:=
 laidMetH_of_parts (laidMet_of_run' 24 (by kernel_rfl) (by kernel_rfl)) (by kernel_rfl)
end Go.Proofs.YtaaichlgdgjgjaaGreatDoor
end
section
namespace Go.Proofs.YtaaichlgdgjgjaaGreatDoor
open Go Go.Ab Go.ChangeShapes Go.WideShapes Go.RowKit
variable{v:Value}
section
theorem Dk{P:Program}{w:World}:∀{l:List (String×DataW Unit)}{c:List MemPlace},DataW.LaidVars P w l c->∀n d,(n,d)∈l->
  ∃g t cs a p,P.globalNamed n=some g/\(P.globals[g]?).map (·.type)=some t/\w.var? P n=some cs/\DataW.trod (λ_=>()) P w 0 (λ_=>true) false a t cs.toList=some (d,p)
 |[],_,_,_,_,b=>by cases b
 | (s,o)::r,c,h,n,d,b=>by
  obtain⟨g,t,cs,a,p,q,i,j,f,k,m,_⟩:=h;rcases mem_cons.1 b with e|e
  ·cases e
   exact⟨g,t,cs,a,p,i,j,f,k⟩
  ·exact Dk m n d e
theorem UB:Rows.laid_internal_strconv_uint64pow10=(.agg ((List.range 20).map λi=>(.lit (.int .u64 ((10^i:Nat):Int)):DataW Unit)):DataW Unit):=by kernel_rfl
section
variable {W:World}
theorem YG(j:laidMetH Tryz.prog ni W):∃cs t a,W.heap[1]?=some (.cells cs t a)/\∀s,gi s KY 0 cs:=by
 rw[MakeChecks.laidMetH_plain _ _ _ (by kernel_rfl)]at j;obtain⟨F,l,_⟩:=j;obtain⟨g,t,cs,x,p,r,E,b,C⟩:=Dk l "internal/strconv.uint64pow10" Rows.laid_internal_strconv_uint64pow10 (by simp[ni]);obtain rfl:=oI ((show Tryz.prog.globalNamed "internal/strconv.uint64pow10" = some 1 by kernel_rfl).symm.trans r);obtain rfl:=oI ((show(Tryz.prog.globals[1]?).map (·.type)=some 230 by kernel_rfl).symm.trans E);obtain⟨f,m,_,D,_,l,o⟩:=DataW.trod_array Tryz.underlying230 C;have w:f.map (·.1)=(List.range 20).map λi=>(.lit (.int .u64 ((10^i:Nat):Int)):DataW Unit):=by
  have:=(Prod.mk.inj D).1.symm.trans UB;exact DataW.agg.inj this
 have d:∃t a,W.heap[1]?=some (.cells cs t a):=by
  simp only[World.var?,r,Option.bind_some]at b;split at b
  ·next c t a d=>obtain rfl:=oI b;exact⟨t,a,d⟩
  ·cases b
 obtain⟨t,a,d⟩:=d;refine⟨cs,t,a,d,λs k v h=>?_⟩;have e:k<20:=by
  have:=(List.getElem?_eq_some_iff.1 h).1;simpa[KY]using this
 have b:v=uv (10^k):=by
  simp[KY,List.getElem?_range e]at h;exact h.symm
 have n:=o k e;rw[acM,Nat.mul_one,gE (by omega)]at n;obtain⟨z,u,B,_⟩:=DataW.trod_int Tryz.underlying150 n;have q:(f.map (·.1))[k]?=some (.lit (.int .u64 ((10^k:Nat):Int))):=by rw[w];simp[List.getElem?_range e]
 rw[getElem?_map,gE (by omega:k<f.length),B]at q;have A:z=((10^k:Nat):Int):=by
  simpa using q
 subst A;have:cs.toList[k]?=some (.int .u64 ((10^k:Nat):Int)):=by
  have y:((cs.toList.drop k).take 1)[0]?=some (.int .u64 ((10^k:Nat):Int)):=by rw[u];rfl
  simpa using y
 refine⟨.int .u64 ((10^k:Nat):Int),by simpa using this,?_⟩;rw[b];exact .int _ _
theorem Yf(c:laidMetH Tryz.prog ni W):∃a h,vj a h W/\Gl WY a/\nP h:=by
 obtain⟨cs,t,f,b,e⟩:=YG c;refine⟨_,_,(aen 1 W).push b (e _),λg d=>?_,t,false,ae.fD ⟨1,.nil⟩ _⟩;have:g=1:=by simpa[WY]using d
 subst this;exact⟨_,dJ.cF _ _ _,rfl,rfl,rfl⟩
theorem Wk{base:Nat}{k s:Int}{o:List UInt8}(b:Value.okWide Tryz.prog W .any base 29 (.agg #[.int .i64 k,.int .i64 s,strOf o,v]))(a:Addr)(e:v = .slice (some a) 0 0):a.spot=none/\∃cs t f,W.heap[a.block]?=some (.cells cs t f):=by
 simp only[Value.okWide,Tryz.underlying29]at b;obtain⟨cs,h,_,r,i,_,p⟩:=b;obtain rfl:=Value.agg.inj h;obtain rfl:=oI ((show Tryz.prog.cellTypes Tryz.prog.depth 29=some [3,3,9,27] by kernel_rfl).symm.trans i);obtain⟨u,n,g⟩:=p 3 v rfl;obtain rfl:27=u:=oI n;subst e;simp only[Cell.okWide,Cell.ok,Tryz.underlying27]at g;obtain⟨_,_,_,m,q,j,d,_⟩:=g;refine⟨m,?_⟩;unfold World.shape? at d;split at d
 ·next c t f l=>exact⟨c,t,f,l⟩
 ·cases d
end
end
variable{n:Nat}{J:dJ}{h:ae}
section
theorem bo3:Tryz.prog.bytesOf 3=8:=by kernel_rfl
section
variable {H:Type} {enc:TypeId×Value->H} {W:World} {held:Bool}
theorem PO{cs:List Value}{y:DataW H×List MemPlace}(h:DataW.trod enc Tryz.prog W 0 (λ_=>true) held n 22 cs=some y)(c:(y.1.weights Tryz.prog 22).all (· <=reachBytes)=true):
  ∃(v:Value)(l:List Int),cs=[v]/\AY W v 1 (l.map qp)/\l.length<=281474976710656:=by
 obtain⟨v,f,b,r,d,a⟩:=Ak (P:=Tryz.prog) (p:=λcs=>∃z:Int,cs=qp z/\True) Tryz.underlying22 co3 (by decide) (λn cs y h _=>by
  obtain⟨z,e,_,_⟩:=DataW.trod_int Tryz.underlying3 h;exact⟨z,e,trivial⟩) h c
 obtain⟨l,rfl,_⟩:=HA d;refine⟨v,l,b,r,?_⟩;rw[bo3,lM]at a;unfold reachBytes at a;omega
theorem Qb(i:vj J h W){v:Value}{l:List Int}(r:AY W v 1 (l.map qp))(B:∀a,v = .slice (some a) 0 0->a.spot=none/\∃cs t s,W.heap[a.block]?=some (.cells cs t s)):
  ∃g u a c,vj g u W/\J.le g/\Ok h u/\aD g (.slice a l.length c) v/\dO u (.slice a l.length c) l/\l.length<=bH c:=by
 obtain⟨D,⟨rfl,q⟩|⟨a,rfl,q⟩|⟨b,d,f,cs,t,s,rfl,y,E,p,F,C⟩⟩:=r
 ·obtain rfl:l=[]:=by simpa using q
  exact⟨J,h,none,0,i,J.le_refl,Ok.refl i.wf,.lX,.inl ⟨rfl,rfl⟩,Nat.zero_le _⟩
 ·obtain rfl:l=[]:=by simpa using q
  obtain⟨x,cs,t,s,p⟩:=B a rfl;obtain⟨b,d,w⟩:=a
  cases (show w=none from x)
  have o:=i.push (cs:=[]) p (λk v e=>by simp at e);exact⟨_,_,some ⟨h.next,0,none⟩,0,o,i.le _,(Ok.refl i.wf).push _,aD.slice (n:=0) (c:=0) (c':=0) (sl:=Ao b cs.size t) (dJ.cF _ _ _) rfl (λ_=>rfl) (λh=>by unfold dn at h;omega) (by unfold bH;split<;>omega) (.inr ⟨rfl,rfl⟩) (.inl rfl),.inr ⟨h.next,0,_,0,false,t,0,rfl,ae.fD _ _,.inr rfl,rfl⟩,Nat.zero_le _⟩
 ·rw[lM]at y⊢;have j:gi J (List.replicate d hW++l.map zV) 0 cs:=λk v e=>by
   rw[Nat.zero_add];rw[List.getElem?_append]at e;split at e
   ·next m=>
    rw[List.length_replicate]at m;rw[List.getElem?_replicate,if_pos m]at e;obtain rfl:=oI e;exact⟨_,Array.getElem?_eq_getElem (by omega),.hW _⟩
   ·next m=>
    rw[List.length_replicate]at m e;rw[getElem?_map]at e;obtain⟨z,A,rfl⟩:=Option.map_eq_some_iff.1 e;have:=C (k-d) (qp z) (by rw[getElem?_map,A];rfl) 0 (by omega);rw[show d+((k-d)*1+0)=k by omega]at this;exact⟨_,this,.int _ _⟩
  have o:=i.push p j;refine⟨_,_,some ⟨h.next,d,none⟩,f,o,i.le _,(Ok.refl i.wf).push _,aD.slice (sl:=Ao b cs.size t) (i:=d) (n:=l.length) (c:=f) (i':=d) (c':=f) (dJ.cF _ _ _) rfl (λ_=>rfl) (λh=>by omega) (by unfold bH;split<;>omega) (.inl (by simp)) (.inl rfl),.inr ⟨h.next,d,_,f,false,t,0,rfl,ae.fD _ _,.inr rfl,?_⟩,by unfold bH;split<;>omega⟩;rw[List.drop_append,List.length_replicate,List.drop_eq_nil_of_le (by simp),List.nil_append,Nat.sub_self,drop_zero,List.take_of_length_le (by simp)];rfl
end
end
variable{c:List Value}{g:ae}{f:FuncId}{F:Func}
section
section
variable {W:World}
def Ldx(W:World)(v:Value)(S:Value->ae->Prop):Prop:=(∀c h a,Ok h a->S c h->S c a)/\∀{d:dJ}{h:ae},vj d h W->∃b a c,vj b a W/\d.le b/\Ok h a/\aD b c v/\S c a
def Lds(W:World)(e:List Value)(T:List Value->ae->Prop):Prop:=∀{d:dJ}{h:ae},vj d h W->∃a c b,vj a c W/\d.le a/\Ok h c/\bo a b e/\T b c
theorem Ym:Lds W [] λa _=>a=[]:=λ{b h} i=>⟨b,h,[],i,b.le_refl,Ok.refl i.wf,.nil _,rfl⟩
theorem xY{S:Value->ae->Prop}{T:List Value->ae->Prop}(a:Ldx W v S)(b:Lds W c T):Lds W (v::c) λe h=>∃x r,e=x::r/\S x h/\T r h:=λ{w h} i=>by
 obtain⟨t,u,x,l,q,j,n,s⟩:=a.2 i;obtain⟨d,p,r,m,g,f,o,k⟩:=b l;exact⟨d,p,x::r,m,dJ.le_trans q g,j.trans f,.cons (n.mono g) o,x,r,rfl,a.1 _ _ _ f s,k⟩
def abV(v:Value)(h:ae):Prop:=∃(M:bp)(a:Option Addr)(c:Nat),v = .agg ⟨bE M a M.af.length c⟩/\Bnd M/\dm h (.slice a M.af.length c) M.af
def Xk(v:Value)(h:ae):Prop:=∃(l:List Int)(a:Option Addr)(c:Nat),v = .slice a l.length c/\dO h (.slice a l.length c) l/\l.length<=281474976710656/\l.length<=bH c
theorem Xk.ok(o:Ok h g)(s:Xk v h):Xk v g:=by
 obtain⟨l,a,c,d,e,b,f⟩:=s;exact⟨l,a,c,d,e.ok o,b,f⟩
theorem KQ{b:Nat}{t:TypeId}(h:W.shape? b=some (t,n)):∃cs t a,W.heap[b]?=some (.cells cs t a):=by
 unfold World.shape? at h;split at h
 ·next c t a d=>exact⟨c,t,a,d⟩
 ·cases h
variable {H:Type} {enc:TypeId×Value->H}
theorem Oa{base:Nat}{A:DataW H}{p:List MemPlace}(f:Value.okWide Tryz.prog W .any base 29 v)(l:DataW.Trod enc Tryz.prog W 0 (λ_=>true) true 29 v A p)(G:(A.weights Tryz.prog 29).all (· <=reachBytes)=true):Ldx W v abV:=by
 refine⟨λN h O o s=>?_,λ{Q h} i=>?_⟩
 ·obtain⟨M,a,c,e,b,r⟩:=s;exact⟨M,a,c,e,b,r.ok o⟩
 obtain⟨cs,rfl,_⟩:=okWide_struct Tryz.underlying29 f;obtain⟨I,l⟩:=l;obtain⟨k,s,m,N,d,j,L,w⟩:=Hz l G;have j:cs = #[.int .i64 k,.int .i64 s,strOf m,N]:=by
  rw[<-Array.toList_inj];exact j
 subst j;obtain⟨y,F,P,D,J,C,n,g⟩:=JX i L w (Wk f);obtain⟨K,t,u,_,_⟩:=id g;obtain⟨a,c,rfl⟩:=u.W0;have B:(K.map uZ).length=(d.map (·.1)).length:=by rw[<-t,lM,lM]
 rw[B]at n g;refine⟨y,F,.agg ⟨bE ⟨k,s,m,d.map (·.1)⟩ a (d.map (·.1)).length c⟩,D,J,C,?_,⟨k,s,m,d.map (·.1)⟩,a,c,rfl,λx E=>?_,g⟩
 ·exact .agg rfl (jO.toList.2 (.cons (.int _ _) (.cons (.int _ _) (.cons (.string _) (.cons n (.nil _)))))).2
 ·obtain⟨q,z,rfl⟩:=mem_map.1 E;exact(w q z).2
theorem Ur{base:Nat}(b:Value.okWide Tryz.prog W .any base 22 v)(a:Addr)(e:v = .slice (some a) 0 0):a.spot=none/\∃cs t g,W.heap[a.block]?=some (.cells cs t g):=by
 subst e;simp only[Value.okWide,Cell.okWide,Cell.ok,Tryz.underlying22]at b;obtain⟨_,_,_,f,h,d,c,_⟩:=b;exact⟨f,KQ c⟩
theorem T7{base:Nat}{m:DataW H}{p:List MemPlace}(b:Value.okWide Tryz.prog W .any base 22 v)(d:DataW.Trod enc Tryz.prog W 0 (λ_=>true) true 22 v m p)(y:(m.weights Tryz.prog 22).all (· <=reachBytes)=true):Ldx W v Xk:=by
 refine⟨λv h C o s=>s.ok o,λ{D h} i=>?_⟩;obtain⟨f,j,k,rfl⟩:=okWide_slice Tryz.underlying22 b;obtain⟨z,d⟩:=d;obtain⟨v,l,e,r,u⟩:=PO d y;have e:Value.slice f j k=v:=by
  have:[Value.slice f j k]=[v]:=e;simpa using this
 subst e;obtain⟨g,w,a,c,q,A,n,t,x,B⟩:=Qb i r (Ur b);exact⟨g,w,_,q,A,n,t,l,a,c,rfl,x,u,B⟩
theorem Qa(m:Tryz.prog.funcs[f]?=some F)(b:F.body.isSome=true)(q:f<YB){a:Array Value}{T:List Value->ae->Prop}(l:Lds W a.toList T)(p:laidMetH Tryz.prog ni W)
  (i:∀{h:ae}{c:List Value}(_:nP h)(_:Wf h),T c h->FW SS f c h (EQ h)):Calls Tryz.prog f a W λe d=>e = .returned (.bool true)/\Below W.heap.size W d:=by
 obtain⟨t,C,k,v,n⟩:=Yf p;obtain⟨y,z,c,g,s,j,o,u⟩:=l k;refine(Jm OJ UC (i (n.ok j) g.wf u) q m b g (v.mono s) (args':=a) o).mono ?_;rintro e d ⟨x,A,B,w,rfl,⟨rfl,_⟩,r,_,b⟩
 cases r
 exact⟨rfl,b⟩
end
end
end Go.Proofs.YtaaichlgdgjgjaaGreatDoor
end
section
namespace Go.Proofs.YtaaichlgdgjgjaaGreatDoor
open Go Go.Ab Go.ChangeShapes Go.WideShapes Go.ChangeAt Go.RowKit
theorem uM:laidOutB Tryz.prog=true:=by kernel_rfl
set_option maxRecDepth 100000 in
theorem wD(l:Os)(k:l.Started)(H:Type)(d:TypeId×Value->H):
  ReturnsInHanded {} Tryz.checked l 5 .any (λw b=>(Rows.buildUnionsSpec.pre d Tryz.prog Tryz.f5 [] false w b/\laidMetH Tryz.prog ni w)/\sizedMet d Tryz.prog Tryz.f5 (OpenSpec.ofChange Rows.buildUnionsSpec) false w b)
   (Rows.buildUnionsSpec.post d Tryz.prog Tryz.f5 false true false false):=by
 refine returnsInHanded_of_change_and (C:=Tryz.checked) (X:=λw _=>laidMetH Tryz.prog ni w) (λ_ _ _ hh h=>h.of_heap hh) Vu k (by kernel_rfl) Tryz.func5
  (ChangeSpec.witness_at (enc:=d) (C:=Tryz.checked) (os:=l) (X:=λw _=>laidMetH Tryz.prog ni w) false (F3 l) #[.agg #[.int .i64 0,.int .i64 0,.string ⟨#[]⟩,.slice none 0 0],.agg #[.int .i64 0,.int .i64 0,.string ⟨#[]⟩,.slice none 0 0],.slice none 0 0,.slice none 0 0] 8 rfl (by kernel_rfl) (by kernel_rfl) (by kernel_rfl) (by kernel_rfl) (by kernel_rfl) (E4 l _)) ?_
 intro W base b P gs E o U _ x7 hL _;have c:∀(j:Nat) t v,Tryz.f5.params[j]?=some t->b[j]?=some v->Value.okWide Tryz.prog W .any base t v:=o;have n:=U;obtain⟨p,q,F,hV,rfl,y5,x9⟩:=U;have hA:DataW.TrodAll d Tryz.prog W 0 (λ_=>true) true Tryz.f5.params.toList b.toList P p:=F;rw[Tryz.params5]at hA c;obtain⟨r,z3,D,y6,Q,q0,f,rfl,rfl,I,x5⟩:=trodAll_cons hA;obtain⟨B,z1,A,y3,p1,q1,rfl,rfl,rfl,t1,x6⟩:=trodAll_cons x5;obtain⟨y,y0,u,z0,K,q2,rfl,rfl,rfl,G,M⟩:=trodAll_cons x6;obtain⟨s,z2,z,y7,p3,q3,rfl,rfl,rfl,t3,S⟩:=trodAll_cons M;obtain⟨rfl,rfl,rfl⟩:=trodAll_nil S;have f:b = #[r,B,y,s]:=by
  rw[<-Array.toList_inj];exact f
 subst f;obtain⟨rfl,rfl⟩:=trodVars_none hV;rw[List.append_nil]at n;have V:(DataW.weightsEach Tryz.prog (Tryz.f5.params.toList++Rows.buildUnionsSpec.plain.varTypes Tryz.prog) ([D,A,u,z]++[])).all (· <=reachBytes)=true:=x7;rw[Tryz.params5]at V;have Z:(D.weights Tryz.prog 29++(A.weights Tryz.prog 29++(u.weights Tryz.prog 22++(z.weights Tryz.prog 22++(DataW.weightsEach Tryz.prog (Rows.buildUnionsSpec.plain.varTypes Tryz.prog) []))))).all (· <=reachBytes)=true:=V;simp only[List.all_append,and_eq_true]at Z;obtain⟨w0,w1,w2,w3,_⟩:=Z;have ld:Lds W #[r,B,y,s].toList _:=xY (Oa (c 0 29 r rfl rfl) I w0) (xY (Oa (c 1 29 B rfl rfl) t1 w1) (xY (T7 (c 2 22 y rfl rfl) G w2) (xY (T7 (c 3 22 s rfl rfl) t3 w3) (Ym))));refine(Qa Tryz.func5 (by kernel_rfl) (by unfold YB;decide) ld hL λtb w T=>?_).mono λe W2 ⟨he,m⟩=>?_
 ·obtain⟨x0,L,rfl,s0,x1,J,rfl,s1,x2,r2,rfl,s2,x3,r3,rfl,s3,rfl⟩:=T;obtain⟨M0,a0,c0,rfl,b0,L⟩:=s0;obtain⟨M1,a1,c1,rfl,b1,J⟩:=s1;obtain⟨y9,y1,y8,rfl,Y,x4,R⟩:=s2;obtain⟨z4,y4,y2,rfl,N,x8,O⟩:=s3;exact LU w tb b0 b1 L J Y N x4 x8 R O
 subst he;have g:∀x∈Q++(p1++(K++(p3++([])))),x.block<W.heap.size:=λx a=>n.lt x a;exact⟨_,rfl,T4 (ds:=[D,A,u,z]) (places:=Q++(p1++(K++(p3++([]))))) rfl n m rfl rfl (λ_ _ _=>(trodAll_cons_mk (shut_bool Tryz.underlying4 _) trodAll_mk0))
  (ok_one (by kernel_rfl) rfl (okWide_bool_mk Tryz.underlying4 _)) (λsp i=>by
   rw[Tryz.params5];exact trodAll_cons_mk (WideElems.Trod_stays uM (by kernel_rfl) (dT (by kernel_rfl)) I (λx a=>m.same (g x (mem_append_left _ a))) (λx a=>i x (mem_append_left _ a))) (trodAll_cons_mk (WideElems.Trod_stays uM (by kernel_rfl) (dT (by kernel_rfl)) t1 (λx a=>m.same (g x (mem_append_right _ (mem_append_left _ a)))) (λx a=>i x (mem_append_right _ (mem_append_left _ a)))) (trodAll_cons_mk (WideElems.Trod_stays uM (by kernel_rfl) (dT (by kernel_rfl)) G (λx a=>m.same (g x (mem_append_right _ (mem_append_right _ (mem_append_left _ a))))) (λx a=>i x (mem_append_right _ (mem_append_right _ (mem_append_left _ a))))) (trodAll_cons_mk (WideElems.Trod_stays uM (by kernel_rfl) (dT (by kernel_rfl)) t3 (λx a=>m.same (g x (mem_append_right _ (mem_append_right _ (mem_append_right _ (mem_append_left _ a)))))) (λx a=>i x (mem_append_right _ (mem_append_right _ (mem_append_right _ (mem_append_left _ a)))))) (trodAll_mk0)))))⟩
theorem zM:Rows.BuildUnionsSaid:=
 OpenClaim.holds_of_wide 5 Tryz.f5 rfl rfl rfl rfl rfl rfl rfl ⟨rfl,rfl,rfl,rfl,rfl⟩ rfl rfl rfl rfl rfl (by kernel_rfl) Tryz.func5 (by kernel_rfl)
  (dT (by kernel_rfl)) (by unfold Func.isWrapper;first|(rw[if_pos (by decide +kernel)];kernel_rfl)|(rw[if_neg (by decide +kernel)];exact⟨rfl,rfl⟩))
  (λc a H b _=>wD c a H b)
theorem buildUnions_holds:Rows.BuildUnionsCardSaid:=
 Claim7.holds_tied_plain_at .later [] [.data,.data,.data] true (true,"c6fdbccbd4f7b918257715cfda7cd04cead22867ce6bb9351446e2ee10eec580") true
  zM (λ_ h=>by cases h) (by kernel_rfl) (λ_ h=>by cases h) buildUnions_row_tie rfl ⟨rfl,rfl⟩ (by kernel_rfl) rfl
  (λf d e b=>by
   obtain rfl:f=5:=oI ((show Tryz.prog.funcNamed "abugida/abugidalaw09.BuildUnions" = some 5 by kernel_rfl).symm.trans e) |>.symm
   obtain rfl:d=Tryz.f5:=(oI (Tryz.func5.symm.trans b)).symm;exact⟨by kernel_rfl,λj t c=>by
    rw[Tryz.params5]at c;have g:t∈[29,29,22,22]:=by simpa using Array.mem_of_getElem? c
    have a:([29,29,22,22].all λu=> !Tryz.prog.wantsStandIn u)=true:=by kernel_rfl
    exact(show Tryz.prog.wantsStandIn t=false by simpa using all_eq_true.1 a t g)⟩)
  (by kernel_rfl)
end Go.Proofs.YtaaichlgdgjgjaaGreatDoor
end
