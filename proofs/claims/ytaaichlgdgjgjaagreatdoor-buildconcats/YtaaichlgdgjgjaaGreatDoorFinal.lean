/- Whatever is handed to it, in whatever memory, on every schedule, BuildConcats returns true. No condition. -/
import Derived.Test.YtaaichlgdgjgjaaGreatDoorPart6
import Derived.Test.YtaaichlgdgjgjaaGreatDoorPart3
import Derived.Test.YtaaichlgdgjgjaaGreatDoorPart2
import Derived.Shelf.SortM.Plain
import Derived.Shelf.SortM.SortNone
import Derived.Test.YtaaichlgdgjgjaaGreatDoorProg
import Derived.OpenShut
import Derived.MakeChecks
import Derived.FnData
import Derived.ChangeSame
import Derived.Test.YtaaichlgdgjgjaaGreatDoorRows
import Derived.ProofKit
import Derived.LaidLaws
import Derived.LaidHandle
import Derived.ChangeVars
import Derived.Test.YtaaichlgdgjgjaaGreatDoorCards
import Derived.Test.YtaaichlgdgjgjaaGreatDoorTie
import Derived.WalkKit
import Derived.Carry
import Derived.SevenTiedAt
set_option linter.unusedVariables false
set_option linter.unusedSimpArgs false
set_option maxRecDepth 100000
open List (all_eq_true drop_zero getElem?_map mem_append_left mem_append_right mem_cons mem_map)
open Bool (and_eq_true not_eq_false')
open Go.IntKind (wrap)
section
namespace Go.Proofs.YtaaichlgdgjgjaaGreatDoor
open Go Go.Ab Go.Num
variable{s:List UInt8}{n:Nat}{z:Int}
theorem JE(a:List UInt8):(bk a).length<=a.length:=by
 unfold bk;split
 ·rw[List.length_drop];omega
 ·omega
theorem U7(a:List UInt8):(numOf a).length<=a.length:=by
 have:=JE a;unfold numOf;rw[List.length_take];omega
theorem T8(a:List UInt8):(ak a).length<=a.length+1:=by
 have:=JE a;unfold ak;split
 ·rw[List.length_drop];omega
 ·show 1<=_;omega
theorem vH(h:valid s=true){k:Nat}(a:s.length<=k):val s<10^k:=by
 unfold valid at h;simp only[and_eq_true]at h;exact Nat.lt_of_lt_of_le (yh h.2) (Nat.pow_le_pow_right (by omega) a)
theorem O7(s:Bool){n d:Nat}(a:n<10^400)(f:d<10^400):∃c,kC s n d=some c:=by
 unfold kC;have b:n/Nat.gcd n d<10^400:=Nat.lt_of_le_of_lt (Nat.div_le_self _ _) a;have e:d/Nat.gcd n d<10^400:=Nat.lt_of_le_of_lt (Nat.div_le_self _ _) f;have g:=(dh (n:=n/Nat.gcd n d) (k:=400) (by decide)).2 b;have h:=(dh (n:=d/Nat.gcd n d) (k:=400) (by decide)).2 e;rw[if_neg (by omega)];exact⟨_,rfl⟩
theorem H8{x:Nat}(a:x<10^101)(b:n<10^101):x*n<10^202:=by
 have:x*n<10^101*10^101:=Nat.mul_lt_mul'' a b;rwa[<-Nat.pow_add]at this
theorem Vj(s:Bool)(A:Nat)(t:Bool)(B:Nat):(di s A t B).2<=A+B:=by
 unfold di;split
 ·exact Nat.le_refl _
 ·split
  ·show B-A<=_;omega
  ·show A-B<=_;omega
theorem Hg{a:List UInt8}(h:bj z a=true):ay a=true/\(z=1\/(z=2\/z=3)/\0<bh a):=by
 unfold bj at h;rw[and_eq_true,and_eq_true,decide_eq_true_eq,Bool.or_eq_true]at h;obtain⟨⟨f,b⟩,d⟩:=h;refine⟨b,?_⟩;rcases d with h|h
 ·exact .inl (by simpa using h)
 ·by_cases c:z=1
  ·exact .inl c
  ·refine .inr ⟨by omega,?_⟩;have h:=dT h;have e:=pV b eA;rw[fK]at e;refine Rat.not_le.1 λc=>?_;rcases Rat.le_iff_lt_or_eq.1 c with c|c
   ·have:=e.1.2 c;omega
   ·have:=e.2.2 c;omega
theorem Hh{a:List UInt8}(d:ay a=true)(h:z=1\/(z=2\/z=3)/\0<bh a):bj z a=true:=by
 unfold bj;rw[d];rcases h with rfl|⟨h,b⟩
 ·rfl
 ·have e:=pV d eA;rw[fK]at e;have f:¬cI a [48]<0:=λc=>by
   have:=e.1.1 c;exact(Rat.not_lt.2 (Rat.le_of_lt this)) b
  have g:¬cI a [48]=0:=λc=>by
   have:=e.2.1 c;rw[this]at b;exact Rat.lt_irrefl b
  rw[decide_eq_true (show 0<cI a [48] by omega),Bool.or_true,Bool.and_true,Bool.and_true];exact decide_eq_true (by omega)
theorem abw{A B:Nat}(h:A*10<=B)(a:0<A):A+A<B:=by omega
set_option exponentiation.threshold 1000 in
theorem Xf{f:Int}{a b:List UInt8}(E:bj f a=true)(y:bj f b=true)(J:a.length<=100)(L:b.length<=100):∃c,cJ f a b=some c/\bj f c=true:=by
 obtain⟨i,o⟩:=Hg E;obtain⟨g,q⟩:=Hg y;have p:=aW.1 i;have s:=aW.1 g;have r:=vH p.num (k:=101) (by have:=U7 a;omega);have u:=vH s.num (k:=101) (by have:=U7 b;omega);have v:=vH p.den (k:=101) (by have:=T8 a;omega);have w:=vH s.den (k:=101) (by have:=T8 b;omega);have G:(10:Nat)^202+10^202<10^400:=abw (A:=10^202) (B:=10^400) (by rw[<-Nat.pow_succ];exact Nat.pow_le_pow_right (by decide) (by decide)) (Nat.pow_pos (by decide));have t:∀x:List UInt8,ay x=true->(f=1\/(f=2\/f=3)/\0<bh x)->x≠bJ f:=λx z m e=>by
  rcases m with rfl|⟨h,m⟩
  ·exact(ch z).1 e
  ·have:bJ f=[48]:=by rcases h with rfl|rfl<;>rfl
   rw[e,this,fK]at m;exact Rat.lt_irrefl m
 have F:cJ f a b=if f=1 then oX a b else zS a b:=by
  unfold cJ;rw[if_neg (λc=>c.elim (t a i o) (t b g q)),if_neg (λc=>c.elim (ch i).1 (ch g).1),if_neg (λc=>c.elim (ch i).2 (ch g).2)]
 rw[F];have H:=H8 r u;have M:=H8 v w;have K:=H8 r w;have I:=H8 u v;by_cases j:f=1
 ·rw[if_pos j];obtain⟨c,l⟩:=O7 (di (isNeg a) (val (numOf a)*val (ak b)) (isNeg b) (val (numOf b)*val (ak a))).1 (n:=(di (isNeg a) (val (numOf a)*val (ak b)) (isNeg b) (val (numOf b)*val (ak a))).2) (d:=val (ak a)*val (ak b))
   (Nat.lt_of_le_of_lt (Vj ..) (by omega)) (by omega)
  exact⟨c,l,Hh (nw i g l).1 (.inl j)⟩
 ·rw[if_neg j];obtain⟨c,l⟩:=O7 (isNeg a !=isNeg b) (n:=val (numOf a)*val (numOf b)) (d:=val (ak a)*val (ak b)) (by omega) (by omega);obtain⟨C,D⟩:=Bk i g l;refine⟨c,l,Hh C (.inr ⟨by omega,?_⟩)⟩;rw[D];exact Rat.mul_pos (o.resolve_left j).2 (q.resolve_left j).2
variable{M:bq}
section
def EQ(h:ae):VH:=λv g=>v = .bool true/\Ok h g
section
variable {h g:ae}
theorem Dc(d:oi h)(a:Ok h g):FW SS 12 [] g λv c=>yB v λb=>EQ h (.bool b) c:=by
 refine(Tn a.wf (d.ok a)).mono ?_;rintro _ e ⟨rfl,o⟩;exact⟨_,rfl,rfl,a.trans o⟩
theorem Uu{K:Type}{S:aP K}{b:List UInt8->K}(d:te S b M.kind)(c:bO M=true){xs ys:List Int}(g:eU xs=true)(i:eU ys=true){a:List UInt8}(f:aJ M.kind a=true)(k:zD S b M xs ys=b a):DF M M.kind xs ys a=true:=by
 unfold DF;rw[c];rcases XL d c g i with⟨w,e,h,j⟩|e
 ·rw[e];have:=d.inj h f (j.trans k);subst this;simp
 ·rw[e];simp
variable {kind:Int} {xa ya ua va:Option Addr} {xc yc uc vc:Nat} {xs ys us vs:List Int} {wt:List UInt8}
end
end
section
theorem BJ{M:bq}(h:IK M=true):Small M/\M.af.length<=8/\cn M.af<=40/\M.lead.length<=40:=by
 unfold IK at h;simp only[and_eq_true,decide_eq_true_eq,all_eq_true]at h;obtain⟨d,f,c,g⟩:=h;have b:∀s∈M.af,s.f.length<=40/\∀q∈s.arcs,q.w.length<=40:=λs a=>by
  have:=g s a;unfold KN at this;simp only[and_eq_true,decide_eq_true_eq,all_eq_true]at this;exact this
 refine⟨⟨by omega,by omega,λs a=>by have:=(b s a).1;omega,λs a=>?_,λs a q e=>by have:=(b s a).2 q e;omega,by omega⟩,d,f,c⟩;have:=DU a;omega
theorem aaE(D:TD):bd SS.P 48 [(0,.int .i64 D.M.kind),(1,.slice D.xa D.xs.length D.xc),(2,.slice D.ya D.ys.length D.yc),(3,.agg ⟨bF D.M D.s D.M.af.length D.sc⟩),(4,.bool true)]=some (.agg ⟨D.cs true⟩):=by kernel_rfl
theorem aaG(D:TD):eE SS.P 48 (.agg ⟨D.cs true⟩)=some (.cells (D.cs true) 48 0 true,kS):=by
 cases D.s<;>cases D.xa<;>cases D.ya<;>kernel_rfl
section
variable {h g:ae} {A B M:bq} {kA kB km kt ku:Nat} {a b m:Option Addr} {nA nB nM cA cB cM:Nat} {xa ya:Option Addr} {xc yc:Nat} {xs ys:List Int}
theorem Zd(t:oi h)(p:Ok h g)(r:Small A)(v:Small B)(l:MB g kA A a nA cA)(f:MB g kB B b nB cB){e:Int}(s:DV A B e=true):
  xA (aj SS.P 29 g (pA kA)) λo=>xA (aj SS.P 29 g (pA kB)) λj=>FW SS 27 [(.agg ⟨o⟩),(.agg ⟨j⟩),(.int .i64 e)] g λm c=>yB m λn=>au n (FW SS 12 [] c λd i=>yB d λk=>EQ h (.bool k) i) (EQ h (.bool false) c):=by
 refine⟨_,l.all,_,f.all,(QL p.wf r v l.row f.row e).mono ?_⟩;rintro _ w ⟨rfl,u⟩;exact⟨_,rfl,aa (λ_=>Dc t (p.trans u)) (λq=>by rw[s]at q;cases q)⟩
abbrev unT(h:ae)(kA km kt ku:Nat)(B A:Value)(f:List UInt8)(g:ae):Prop:=
 xA (aj SS.P 29 g (pA km)) λe=>FW SS 26 [(.agg ⟨e⟩)] g λn a=>yB n λx=>au (!x) (EQ h (.bool false) a) (xP (aF SS.P 48 (pA kt) 4) λp=>xB (aj SS.P 4 a (.pointer (some p))) λw=>au (!w) (FW SS 12 [] a λk o=>yB k λi=>EQ h (.bool i) o) (xP (aF SS.P 48 (pA ku) 4) λm=>xB (aj SS.P 4 a (.pointer (some m))) λr=>au (!r) (FW SS 12 [] a λz t=>yB z λj=>EQ h (.bool j) t) (xA (aj SS.P 29 a (pA km)) λl=>xP (aF SS.P 29 (pA kA) 0) λc=>xI .i64 (aj SS.P 3 a (.pointer (some c))) λu=>FW SS 19 [(.agg ⟨l⟩),(.int .i64 u),B,A,(strOf f)] a λs b=>yB s λq=>au q (FW SS 12 [] b λy d=>yB y λv=>EQ h (.bool v) d) (EQ h (.bool false) b))))
theorem Xk{D E:TD}{o:ae}{n k:Bool}(i:oi h)(p:Ok h g)(t:wm D o g kt n)(u:wm E o g ku k)(l:Small M)(w:bO M=true)(f:MB g km M m nM cM)(z:MB g kA A a nA cA)(r:dR g (.slice xa xs.length xc) xs)(v:dR g (.slice ya ys.length yc) ys){c:List UInt8}(x:n=true->k=true->DF M A.kind xs ys c=true):
  unT h kA km kt ku (.slice xa xs.length xc) (.slice ya ys.length yc) c g:=by
 refine⟨_,f.all,(lQ p.wf l f.row).mono ?_⟩;rintro _ B ⟨rfl,b⟩;have d:=p.trans b;have e:=f.ok b;refine⟨_,rfl,aa (λq=>by rw[w]at q;cases q) (λ_=>⟨_,ED kt,_,(t.qJ b).l4,aa (λ_=>Dc i d) (λq=>⟨_,ED ku,_,(u.qJ b).l4,aa (λ_=>Dc i d) (λs=>⟨_,e.all,_,dr _,_,(z.ok b).l0,(QJ b.wf l e.row (dR.ok r b) (dR.ok v b) A.kind c).mono ?_⟩)⟩)⟩)⟩;rintro _ C ⟨rfl,y⟩;exact⟨_,rfl,aa (λ_=>Dc i (d.trans y)) (λj=>by rw[x (by simpa using q) (by simpa using s)]at j;cases j)⟩
theorem Ya{T:ae->Prop}(G:Wf g)(F:Small A)(J:Small B)(D:Small M)(z:MB g kA A a nA cA)(x:MB g kB B b nB cB)(y:MB g km M m nM cM)(s:C9 A=true->C9 B=true->C9 M=true)(t:∀w,Ok g w->T w):
  xA (aj SS.P 29 g (pA kA)) λu=>FW SS 20 [(.agg ⟨u⟩)] g λp d=>yB p λl=>au l (xA (aj SS.P 29 d (pA kB)) λv=>FW SS 20 [(.agg ⟨v⟩)] d λn c=>yB n λj=>au j (xA (aj SS.P 29 c (pA km)) λo=>FW SS 20 [(.agg ⟨o⟩)] c λr i=>yB r λk=>au (!k) (EQ h (.bool false) i) (T i)) (T c)) (T d):=by
 refine⟨_,z.all,(It G F z.row).mono ?_⟩;rintro _ L ⟨rfl,f⟩;refine⟨_,rfl,aa (λI=>⟨_,(x.ok f).all,(It f.wf J (x.ok f).row).mono ?_⟩) (λ_=>t _ f)⟩;rintro _ K ⟨rfl,C⟩;have e:=f.trans C;refine⟨_,rfl,aa (λE=>⟨_,(y.ok e).all,(It C.wf D (y.ok e).row).mono ?_⟩) (λ_=>t _ e)⟩;rintro _ N ⟨rfl,H⟩;exact⟨_,rfl,aa (λq=>by rw[s I E]at q;cases q) (λ_=>t _ (e.trans H))⟩
theorem QV(e:oK A B≠0):DV A B (oK A B)=true:=by
 unfold DV oK at*;by_cases c:(bO A&&bO B)=true
 ·rw[if_pos c]at*;by_cases d:A.kind=B.kind
  ·rw[if_pos d]at e;exact absurd rfl e
  ·rw[if_neg d,if_pos c];rfl
 ·rw[if_neg c,if_neg c];rfl
theorem Xl(b:bO A=true)(c:bO B=true)(a:A.kind=B.kind):oK A B=0:=by
 unfold oK;rw[b,c,if_pos a];rfl
end
end
noncomputable def dy:FD:=cP Tryz.f6 [([1,1,1,1,1,1,1,0,1,0,0],[2,3,4,5,9,11,12,13,14]),([1,1,1,1,1,1,1,0,1,0,0,1,0,0,1,0,0],[2,3,4,5,9,11,12,13,14,15])]
abbrev fR(a:OA)(l f:Nat)(e:OA)(b k g c d h j:Nat)(s:LB)(i:Nat):LV:=[(.slice a l f),(.slice e b k),(pA g),(pA c),(pA d),(pA h),(pA j),(strOf s),(iA i)]
abbrev kf(a:OA)(m f:Nat)(e:OA)(b l g c d h k i:Nat)(s:LB)(j:Nat):LV:=[(.slice a m f),(.slice e b l),(pA g),(pA c),(pA d),(pA h),(pA k),(strOf s),(iA i),(iA j)]
theorem JM(N K:LV)(C:OA)(H F:Nat)(E:OA)(D G:Nat)(h:ae)(Q:VH)(Z:xN (eE SS.P 29 (.agg ⟨N⟩)) h λ_ A=>xN (eE SS.P 29 (.agg ⟨K⟩)) A λ_ P=>lA 29 P (pA (h.next)) λc5=>FW SS 24 [(.agg ⟨c5⟩)] P λU M=>yB U λY=>au Y (FW SS 12 [] M λb c=>yB b λa=>Q (.bool a) c) (lA 29 M (pA (A.next)) λb7=>FW SS 24 [(.agg ⟨b7⟩)] M λb5 O=>yB b5 λb4=>au b4 (FW SS 12 [] O λb c=>yB b λa=>Q (.bool a) c) (FW SS 11 [(.slice C H F),(.slice E D G)] O λb2 J=>yB b2 λb1=>au (!b1) (FW SS 12 [] J λb c=>yB b λa=>Q (.bool a) c) (lA 29 J (pA (h.next)) λb0=>lA 29 J (pA (A.next)) λV=>FW SS 31 [(.agg ⟨b0⟩),(.agg ⟨V⟩)] J λa7 L=>∃R:LV,∃B:Int,a7=(.tuple ⟨[(.agg ⟨R⟩),(.int .i64 B)]⟩)/\xN (bw SS.P 29) L λ_ T=>xU (ah SS.P 29 (pA (L.next)) (.agg ⟨R⟩) T) T λ_ S=>lA 29 S (pA (h.next)) λW=>FW SS 26 [(.agg ⟨W⟩)] S λX I=>yB X λz=>au (!z) (lA 29 I (pA (h.next)) λh=>lA 29 I (pA (A.next)) λg=>FW SS 27 [(.agg ⟨h⟩),(.agg ⟨g⟩),(.int .i64 B)] I λe f=>yB e λd=>au d (FW SS 12 [] f λb c=>yB b λa=>Q (.bool a) c) (Q (.bool false) f)) (lA 29 I (pA (A.next)) λy=>FW SS 26 [(.agg ⟨y⟩)] I λw x=>yB w λv=>au (!v) (lA 29 x (pA (h.next)) λh=>lA 29 x (pA (A.next)) λg=>FW SS 27 [(.agg ⟨h⟩),(.agg ⟨g⟩),(.int .i64 B)] x λe f=>yB e λd=>au d (FW SS 12 [] f λb c=>yB b λa=>Q (.bool a) c) (Q (.bool false) f)) (fP 29 (pA (h.next)) 0 λu=>lI x u λt=>fP 29 (pA (A.next)) 0 λs=>lI x s λr=>au (((t:Int) !=r)) (lA 29 x (pA (h.next)) λh=>lA 29 x (pA (A.next)) λg=>FW SS 27 [(.agg ⟨h⟩),(.agg ⟨g⟩),(.int .i64 B)] x λe f=>yB e λd=>au d (FW SS 12 [] f λb c=>yB b λa=>Q (.bool a) c) (Q (.bool false) f)) (au (((B:Int) !=0)) (lA 29 x (pA (h.next)) λk=>lA 29 x (pA (A.next)) λj=>xR (aI SS.P 86 2 [(0,(.agg ⟨k⟩)),(1,(.agg ⟨j⟩))]) x λ_ g h i=>FW SS 28 [(.int .i64 B),(sA (x.next) g h)] i λe f=>yB e λd=>au d (FW SS 12 [] f λb c=>yB b λa=>Q (.bool a) c) (Q (.bool false) f)) (fP 29 (pA (h.next)) 0 λq=>lI (room x 16) q λp=>lA 29 (room x 16) (pA (h.next)) λo=>xA (bd SS.P 48 [(0,(.int .i64 p)),(1,(.slice C H F)),(2,(.slice E D G)),(3,(.agg ⟨o⟩)),(4,(.bool true))]) λn=>zN (eE SS.P 48 (.agg ⟨n⟩)) λm=>fP 29 (pA (h.next)) 0 λl=>lI (room x 16) l λk=>lA 29 (room x 16) (pA (A.next)) λj=>xA (bd SS.P 48 [(0,(.int .i64 k)),(1,(.slice C H F)),(2,(.slice E D G)),(3,(.agg ⟨j⟩)),(4,(.bool true))]) λi=>zN (eE SS.P 48 (.agg ⟨i⟩)) λg=>abS (cg (room x 16) x.next [(13,g),(6,m)]) λf=>fP 29 (pA (h.next)) 0 λe=>lI f e λd=>FW SS 18 [(.int .i64 d)] f λb c=>yS b λa=>LL SS dy [1,1,1,1,1,1,1,0,1,0,0] (fR C H F E D G (h.next) (A.next) (L.next) (x.next+6) (x.next+13) a 0) c (KK SS dy [1,1,1,1,1,1,1,0,1,0] [] (EE SS dy Q)))))))))):FW SS 6 [(.agg ⟨N⟩),(.agg ⟨K⟩),(.slice C H F),(.slice E D G)] h Q:=cV dy Tryz.func6 (ai Z)
theorem vO(V U:LV)(D:OA)(C H:Nat)(G:OA)(F K:Nat)(B M A I J:Nat)(L:Nat->LB->Nat->ae->Prop)(Q:VH)(step:∀(E:Nat) (s:LB) (i:Nat) (P:Nat->Value) (h:ae),L E s i h->au (decide (((i:Int):Int)<=(C:Int))) (LL SS dy [1,1,1,1,1,1,1,0,1,0,0,1,0,0,1,0,0] (kf D C H G F K B M A I J i s 0) h (KK SS dy [1,0,0,1,0] [1,1,1,1,1,1,1,0,1,0,0] (RR dy [1,1,1,1,1,1,1,0,1,0,0] (pU (fR D C H G F K B M A I J) L) E (KK SS dy [1,1,1,1,1,1,1,0,1,0] [] (EE SS dy Q))))) (lA 29 h (pA B) λS=>FW SS 20 [(.agg ⟨S⟩)] h λT N=>yB T λR=>au R (lA 29 N (pA M) λz=>FW SS 20 [(.agg ⟨z⟩)] N λx y=>yB x λw=>au w (lA 29 y (pA A) λv=>FW SS 20 [(.agg ⟨v⟩)] y λt u=>yB t λr=>au (!r) (Q (.bool false) u) (lA 29 u (pA A) λq=>FW SS 26 [(.agg ⟨q⟩)] u λo p=>yB o λn=>au (!n) (Q (.bool false) p) (fP 48 (pA I) 4 λm=>lB p m λl=>au (!l) (FW SS 12 [] p λb c=>yB b λa=>Q (.bool a) c) (fP 48 (pA J) 4 λk=>lB p k λj=>au (!j) (FW SS 12 [] p λb c=>yB b λa=>Q (.bool a) c) (lA 29 p (pA A) λi=>fP 29 (pA B) 0 λh=>lI p h λg=>FW SS 19 [(.agg ⟨i⟩),(.int .i64 g),(.slice D C H),(.slice G F K),(strOf s)] p λe f=>yB e λd=>au d (FW SS 12 [] f λb c=>yB b λa=>Q (.bool a) c) (Q (.bool false) f)))))) (lA 29 y (pA A) λq=>FW SS 26 [(.agg ⟨q⟩)] y λo p=>yB o λn=>au (!n) (Q (.bool false) p) (fP 48 (pA I) 4 λm=>lB p m λl=>au (!l) (FW SS 12 [] p λb c=>yB b λa=>Q (.bool a) c) (fP 48 (pA J) 4 λk=>lB p k λj=>au (!j) (FW SS 12 [] p λb c=>yB b λa=>Q (.bool a) c) (lA 29 p (pA A) λi=>fP 29 (pA B) 0 λh=>lI p h λg=>FW SS 19 [(.agg ⟨i⟩),(.int .i64 g),(.slice D C H),(.slice G F K),(strOf s)] p λe f=>yB e λd=>au d (FW SS 12 [] f λb c=>yB b λa=>Q (.bool a) c) (Q (.bool false) f)))))) (lA 29 N (pA A) λq=>FW SS 26 [(.agg ⟨q⟩)] N λo p=>yB o λn=>au (!n) (Q (.bool false) p) (fP 48 (pA I) 4 λm=>lB p m λl=>au (!l) (FW SS 12 [] p λb c=>yB b λa=>Q (.bool a) c) (fP 48 (pA J) 4 λk=>lB p k λj=>au (!j) (FW SS 12 [] p λb c=>yB b λa=>Q (.bool a) c) (lA 29 p (pA A) λi=>fP 29 (pA B) 0 λh=>lI p h λg=>FW SS 19 [(.agg ⟨i⟩),(.int .i64 g),(.slice D C H),(.slice G F K),(strOf s)] p λe f=>yB e λd=>au d (FW SS 12 [] f λb c=>yB b λa=>Q (.bool a) c) (Q (.bool false) f)))))))(E:Nat){s:LB}{i:Nat}{h:ae}(O:L E s i h):LL SS dy [1,1,1,1,1,1,1,0,1,0,0] (fR D C H G F K B M A I J s i) h (KK SS dy [1,1,1,1,1,1,1,0,1,0] [] (EE SS dy Q)):=
 mw (fR D C H G F K B M A I J) L (λE s i P h O=>ai (step E s i P h O)) E O
theorem vP(H G:LV)(v:OA)(u z:Nat)(y:OA)(q B:Nat)(A w x p t:Nat)(C:Nat->LB->Nat->ae->Prop)(E i:Nat)(r:Nat->LB->Nat->ae->Prop)(Q:VH)(step:∀(o:Nat) (s:LB) (j:Nat) (F:Nat->Value) (h:ae),r o s j h->au (decide (((j:Int):Int)<=(q:Int))) (FW SS 30 [(pA p),(.int .i64 0),(iA i),(.int .i64 0),(iA j)] h λm n=>yS m λl=>FW SS 30 [(pA t),(iA i),(iA u),(iA j),(iA q)] n λh k=>yS h λg=>FW SS 32 [(pA p),(strOf l),(strOf g)] k λe f=>yS e λd=>FW SS 29 [(pA p),(strOf s),(strOf d)] f λb c=>yS b λa=>aM (pU (kf v u z y q B A w x p t i) r) o [(.slice v u z),(.slice y q B),(pA A),(pA w),(pA x),(pA p),(pA t),(strOf a),(iA i),(.int .i64 (wrap .i64 ((j:Int)+1)))] c) (aM (pU (fR v u z y q B A w x p t) C) E [(.slice v u z),(.slice y q B),(pA A),(pA w),(pA x),(pA p),(pA t),(strOf s),(.int .i64 (wrap .i64 ((i:Int)+1)))] h))(o:Nat){s:LB}{j:Nat}{h:ae}(D:r o s j h):LL SS dy [1,1,1,1,1,1,1,0,1,0,0,1,0,0,1,0,0] (kf v u z y q B A w x p t i s j) h (KK SS dy [1,0,0,1,0] [1,1,1,1,1,1,1,0,1,0,0] (RR dy [1,1,1,1,1,1,1,0,1,0,0] (pU (fR v u z y q B A w x p t) C) E (KK SS dy [1,1,1,1,1,1,1,0,1,0] [] (EE SS dy Q)))):=
 mw (kf v u z y q B A w x p t i) r (λo s j F h D=>ai (step o s j F h D)) o D
section
section
variable {h g:ae} {A B M:bq} {kA kB km kt ku:Nat} {a b m:Option Addr} {nA nB nM cA cB cM:Nat} {xa ya:Option Addr} {xc yc:Nat} {xs ys:List Int}
structure CI{K:Type}(S:aP K)(dec:List UInt8->K)(D E:TD)(h0:ae)(kt ku:Nat)(s:List UInt8)(val:K)(g:ae):Prop where
 ex:∃bt bu,wm D h0 g kt bt/\wm E h0 g ku bu/\(bt=true->bu=true->dec s=val)
 v:aJ D.M.kind s=true
theorem CI.cast{K:Type}{S:aP K}{b:List UInt8->K}{D E:TD}{f:ae}{kt ku:Nat}{d a:K}{g:ae}(c:CI S b D E f kt ku s d g)(e:d=a):CI S b D E f kt ku s a g:=e▸c
theorem Mo{c:List UInt8}(f:bO (eS A B c)=true)(e:C9 A=true)(d:C9 B=true):C9 (eS A B c)=true:=by
 unfold C9 Th at*;rw[and_eq_true,all_eq_true]at e d;rw[f,Bool.true_and,all_eq_true];intro s a;rcases List.mem_append.1 a with a|a
 ·obtain⟨t,b,rfl⟩:=mem_map.1 a;exact OG (d.2 t b)
 ·obtain⟨t,b,rfl⟩:=mem_map.1 a;exact OG (e.2 t b)
theorem JN(w:Wf h)(W:oi h)(bA:Bnd A)(bB:Bnd B)(rA:dt h (.slice a nA cA) A.af)(rB:dt h (.slice b nB cB) B.af)(P:dR h (.slice xa xs.length xc) xs)(Q:dR h (.slice ya ys.length yc) ys)(hx:xs.length<=281474976710656)(hy:ys.length<=281474976710656)(x8:xs.length<=bL xc)(x9:ys.length<=bL yc):
  FW SS 6 [.agg ⟨bF A a nA cA⟩,.agg ⟨bF B b nB cB⟩,.slice xa xs.length xc,.slice ya ys.length yc] h (EQ h):=by
 obtain⟨d,o1⟩:=eQ w rA;obtain⟨l,o2⟩:=eQ o1.wf (rB.ok o1);refine JM (bF A a nA cA) (bF B b nB cB) xa _ xc ya _ yc h _ ⟨_,gW A a nA cA,_,gW B b nB cB,?_⟩;generalize h.push (Bm A a nA cA)=g2 at*;generalize g2.push (Bm B b nB cB)=g4 at*;have d:=d.ok o2;have x6:=o1.trans o2;generalize h.next=kA at*;generalize g2.next=kB at*;refine⟨_,d.all,(Kr x6.wf bA d.row).mono ?_⟩;rintro _ g5 ⟨rfl,o5⟩;have z8:=x6.trans o5;refine⟨_,rfl,aa (λ_=>Dc W z8) (λq=>⟨_,(l.ok o5).all,(Kr o5.wf bB (l.ok o5).row).mono ?_⟩)⟩;rw[not_eq_false']at q;obtain⟨V,w0,v0,u8⟩:=BJ q;rintro _ g6 ⟨rfl,o6⟩;have Z:=o5.trans o6;have v:=x6.trans Z;refine⟨_,rfl,aa (λ_=>Dc W v) (λq=>(QP (dR.ok P v) (dR.ok Q v) hx hy).mono ?_)⟩;rw[not_eq_false']at q;obtain⟨O,w5,u9,u7⟩:=BJ q;rintro _ g7 ⟨rfl,e0⟩;obtain rfl:g6=g7:=e0.symm;have d:=d.ok Z;have l:=l.ok Z;obtain⟨c0,y2⟩:∃c,oK A B=0->cJ A.kind A.lead B.lead=some c/\bj A.kind c=true:=by
  by_cases e:oK A B=0
  ·have C:bO A=true/\bO B=true/\A.kind=B.kind:=by
    unfold oK at e;by_cases x:(bO A&&bO B)=true
    ·rw[if_pos x]at e;rw[and_eq_true]at x;by_cases c2:A.kind=B.kind
     ·exact⟨x.1,x.2,c2⟩
     ·rw[if_neg c2]at e;cases e
    ·rw[if_neg x]at e;cases e
   have vA:=EI C.1 (by omega);have vB:=EI C.2.1 (by omega);have lB:bj A.kind B.lead=true:=by rw[C.2.2];exact vB.lead
   obtain⟨c,h1,H⟩:=Xf vA.lead lB (by omega) (by omega);exact⟨c,λ_=>⟨h1,H⟩⟩
  ·exact⟨[],λc=>absurd c e⟩
 refine⟨_,rfl,aa (λ_=>Dc W v) (λz=>⟨_,d.all,_,l.all,px (Dd v.wf (W.ok v) V O d.row l.row λe=>(y2 e).1) (e:=oK A B) (R:=(r7 A B c0).1) (by unfold r7;split<;>simp_all) λy1 m' nM cM u ob st q8 U=>⟨_,qY,u,st,?_⟩⟩)⟩;rw[not_eq_false']at z;unfold N9 at z;rw[and_eq_true,and_eq_true]at z;obtain⟨_,wx,wy⟩:=z;generalize u.app (y1.push m7)=g8 at*;generalize y1.next=km at*;have x7:=v.trans q8;have d:=d.ok q8;have l:=l.ok q8;refine⟨_,d.all,(lQ x7.wf V d.row).mono ?_⟩;rintro _ g9 ⟨rfl,Y⟩;have x0:=x7.trans Y;have d:=d.ok Y;have l:=l.ok Y;have bad:∀{g':ae},Ok g9 g'->(bO A=true->bO B=true->A.kind=B.kind->False)->_:=λ{g'} o hb=>Zd W (x0.trans o) V O (d.ok o) (l.ok o) (e:=oK A B) (QV λc=>by
  unfold oK at c;by_cases x:(bO A&&bO B)=true
  ·rw[if_pos x]at c;rw[and_eq_true]at x;by_cases c2:A.kind=B.kind
   ·exact hb x.1 x.2 c2
   ·rw[if_neg c2]at c;cases c
  ·rw[if_neg x]at c;cases c)
 refine⟨_,rfl,aa (λq=>bad (Ok.refl Y.wf) λh1 _ _=>by rw[h1]at q;cases q) (λX=>⟨_,l.all,(lQ x0.wf O l.row).mono ?_⟩)⟩;rw[not_eq_false']at X;rintro _ k ⟨rfl,r⟩;refine⟨_,rfl,aa (λq=>bad r λ_ H _=>by rw[H]at q;cases q) (λqB=>⟨_,dr _,_,(d.ok r).l0,_,dr _,_,(l.ok r).l0,aa (λq=>bad r λ_ _ h3=>by rw[h3]at q;simp at q) (λy=>?_)⟩)⟩;rw[not_eq_false']at qB;have y:A.kind=B.kind:=by simpa using y
 have J:=x0.trans r;have d:=d.ok r;have l:=l.ok r;have H:=Xl X qB y;have hu:r7 A B c0=(eS A B c0,0):=if_pos H;rw[H];rw[hu]at U;dsimp only at U;have U:=(U.ok Y).ok r;refine aa (λq=>by cases q) (λ_=>?_);have or:=(Ok.refl r.wf).room 16;have z3:=d.len;have z4:=l.len;subst z3 z4;have P:=dR.ok P J;have Q:=dR.ok Q J
 let D:TD:=⟨A,a,cA,xa,xc,xs,ya,yc,ys⟩
 let E:TD:=⟨B,b,cB,xa,xc,xs,ya,yc,ys⟩
 have tD:TGd D k:=⟨r.wf,d.row,P,x8,Q,x9,V,X,wx,wy⟩
 have tE:TGd E k:=⟨r.wf,l.row,P,x8,Q,x9,O,qB,wx,wy⟩
 obtain⟨on,gt,gu⟩:=aaa r.wf (n:=16) (i:=6) (j:=13) (by omega) (by omega) (by omega) (.cells (D.cs true) 48 0 true) (.cells (E.cs true) 48 0 true);refine⟨_,dr _,_,(d.ok or).l0,_,(d.ok or).all,_,aaE D,_,aaG D,_,dr _,_,(d.ok or).l0,_,(l.ok or).all,_,(by rw[y];exact aaE E),_,aaG E,?_⟩;show abS (cg (room k 16) k.next [(13,.cells (E.cs true) 48 0 true),(6,.cells (D.cs true) 48 0 true)]) _;unfold abS;generalize cg (room k 16) k.next [(13,.cells (E.cs true) 48 0 true),(6,.cells (D.cs true) 48 0 true)]=N at*;have t:wm D k N (k.next+6) true:=⟨gt,on,by omega⟩
 have uu:wm E k N (k.next+13) true:=⟨gu,on,by omega⟩
 have L:k.next+6≠k.next+13:=by omega
 generalize k.next+6=kt at*;generalize k.next+13=ku at*;have x5:=ui X;obtain⟨K,S,f,F⟩:=xZ x5.kind;have u5:te S f B.kind:=y▸F;have vA:=EI X (by omega);have vB:=EI qB (by omega);obtain⟨y7,z2⟩:=y2 H;obtain⟨vU,nU,sU⟩:=TY vA vB y z2 (by omega) (by omega) (by omega) (by omega);have sm:Small (eS A B c0):=vU.small (by omega) (by omega);have z9:=oz V X;have z6:=oz O qB;have lx:=zH wx;have ly:=zH wy;obtain⟨G,hG⟩:∃G:Nat->Nat->K,G=λi j=>S.mul (zD S f A (xs.take i) (ys.take j)) (zD S f B (xs.drop i) (ys.drop j)):=⟨_,rfl⟩
 have y8:Jf S (zD S f A) (zD S f B) xs ys=ZL S G (ys.length+1) (xs.length+1):=by
  unfold Jf ZL;rw[Qr,hG]
 refine⟨_,dr _,_,(d.ok on).l0,(gA x5.kind N).mono ?_⟩;rintro _ y6 ⟨rfl,e0⟩;obtain rfl:N=y6:=e0.symm;refine⟨_,rfl,vO (bF A a A.af.length cA) (bF B b B.af.length cB) xa xs.length xc ya ys.length yc kA kB km kt ku (λmz s i g=>i<=xs.length+1/\mz=xs.length+1-i/\CI S f D E k kt ku s (ZL S G (ys.length+1) i) g) _ (λmz s i=>?_) (xs.length+1) (i:=0) ⟨Nat.zero_le _,rfl,⟨true,true,t,uu,λ_ _=>F.zero⟩,qu x5.kind⟩⟩;intros;rename_i v5 y5;obtain⟨f1,f2,ci⟩:=y5;refine aa (λq=>?_) (λq=>?_)
 ·have hi:i<=xs.length:=by have:=dT q;omega
  refine vP (bF A a A.af.length cA) (bF B b B.af.length cB) xa xs.length xc ya ys.length yc kA kB km kt ku _ mz i (λy0 s j g=>j<=ys.length+1/\y0=ys.length+1-j/\CI S f D E k kt ku s (S.add (ZL S G (ys.length+1) i) (S.ca (G i) j)) g) _ (λy0 s j=>?_) (ys.length+1) (j:=0) ⟨Nat.zero_le _,rfl,ci.cast (aP.add_zero _).symm⟩;intros;rename_i v6 y4;obtain⟨j1,j2,y3⟩:=y4;refine aa (λc=>?_) (λc=>?_)
  ·have hj:j<=ys.length:=by have:=dT c;omega
   have z:wrap .i64 ((j:Int)+1)=((j+1:Nat):Int):=by rw[aD (by omega) (by omega)];omega
   obtain⟨⟨bt,bu,t,uu,hd⟩,C⟩:=y3;refine(WS (S:=S) (dec:=f) (i:=0) (j:=i) (p:=0) (q:=j) F tD t (Nat.zero_le _) hi (Nat.zero_le _) hj).mono ?_;rintro _ v9 ⟨w1,b1,rfl,t1,k1,v1,d1⟩;have u1:=uu.kt k1 L.symm t1.ok;refine⟨w1,rfl,(WS (S:=S) (dec:=f) (i:=i) (j:=xs.length) (p:=j) (q:=ys.length) u5 tE u1 hi (Nat.le_refl _) hj (Nat.le_refl _)).mono ?_⟩;rintro _ v8 ⟨w2,b2,rfl,u2,k2,v2,d2⟩;have t2:=t1.kt k2 L u2.ok;have v2:aJ D.M.kind w2=true:=by show aJ A.kind w2=true;rw[y];exact v2
   refine⟨w2,rfl,(Ss (D:=D) F tD.wf t2 v1 v2).mono ?_⟩;rintro _ w6 ⟨w3,b3,rfl,t3,k3,v3,d3⟩;have u3:=u2.kt k3 L.symm t3.ok;refine⟨w3,rfl,(WU (D:=D) F tD.wf t3 C v3).mono ?_⟩;rintro _ v7 ⟨w4,b4,rfl,t4,k4,v4,d4⟩;have u4:=u3.kt k4 L.symm t4.ok;rw[z];refine⟨w4,rfl,hW (ys.length+1-(j+1)) (by omega) ⟨by omega,rfl,⟨b4,b2,t4,u4,λe4 e2=>?_⟩,v4⟩⟩;obtain⟨e3,x4⟩:=d4 e4;obtain⟨e1,x3⟩:=d3 e3;obtain⟨e0,x1⟩:=d1 e1;obtain⟨eu,x2⟩:=d2 e2;have z7:=hd e0 eu;have z5:S.ca (G i) (j+1)=S.add (S.ca (G i) j) (G i j):=rfl;have u6:f w1=zD S f A (xs.take i) (ys.take j):=by rw[x1,drop_zero,drop_zero]
   have z1:f w2=zD S f B (xs.drop i) (ys.drop j):=by
    rw[x2];show zD S f B ((xs.take xs.length).drop i) ((ys.take ys.length).drop j)=_;rw[List.take_length,List.take_length]
   rw[x4,x3,u6,z1,z7,z5,<-aP.add_assoc,hG]
  ·have hj:j=ys.length+1:=by have:=dF c;omega
   have z:wrap .i64 ((i:Int)+1)=((i+1:Nat):Int):=by rw[aD (by omega) (by omega)];omega
   rw[z];refine hW (xs.length+1-(i+1)) (by omega) ⟨by omega,rfl,y3.cast ?_⟩;rw[hj];rfl
 ·have hi:i=xs.length+1:=by have:=dF q;omega
  rw[hi,<-y8]at ci;obtain⟨⟨bt,bu,t3,u3,hd⟩,C⟩:=ci;have m:=t3.ok;have u0:=J.trans m;refine Ya (T:=unT h kA km kt ku (.slice xa xs.length xc) (.slice ya ys.length yc) s) m.wf V O sm (d.ok m) (l.ok m) (U.ok m) (Mo vU.valid) λg' I=>Xk W (u0.trans I) (t3.qJ I) (u3.qJ I) sm vU.valid ((U.ok m).ok I) ((d.ok m).ok I) (dR.ok P (m.trans I)) (dR.ok Q (m.trans I)) λz0 y9=>?_;refine Uu (M:=eS A B c0) F vU.valid wx wy C ?_;rw[N6 z9 z6 (F.times (m6 vA.lead) (by rw[y];exact m6 vB.lead) y7).2,hd z0 y9]
end
end
end Go.Proofs.YtaaichlgdgjgjaaGreatDoor
end
section
namespace Go.Proofs.YtaaichlgdgjgjaaGreatDoor
open Go.Shelf Go.RowKit Go.Lib Go.Sort
def Lr:Go.Shelf.Ren:=⟨fun|5=>81|8=>101|7=>100|19=>134|20=>135|10=>125|11=>126|12=>127|13=>128|14=>129|15=>130|16=>131|17=>132|18=>133|30=>160|31=>161|32=>162|33=>163|34=>164|35=>165|40=>182|n=>n,fun|23=>22|25=>3|3=>3|32=>111|22=>22|0=>0|44=>148|46=>150|4=>4|36=>140|35=>139|41=>145|5=>5|9=>9|53=>166|57=>170|63=>185|64=>186|n=>n,fun|n=>n⟩
theorem ZY:Go.Proofs.SlLaysM.n5 Tryz.prog Lr:={
 mixed:=by kernel_rfl,
 f5:=⟨Tryz.f81.name,by decide,Tryz.func81.trans (congrArg some (by kernel_rfl))⟩,
 f7:=⟨Tryz.f100.name,by decide,Tryz.func100.trans (congrArg some (by kernel_rfl))⟩,
 f8:=Tryz.func101.trans (congrArg some (by kernel_rfl)),
 f10:=⟨Tryz.f125.name,by decide,Tryz.func125.trans (congrArg some (by kernel_rfl))⟩,
 f11:=⟨Tryz.f126.name,by decide,Tryz.func126.trans (congrArg some (by kernel_rfl))⟩,
 f12:=⟨Tryz.f127.name,by decide,Tryz.func127.trans (congrArg some (by kernel_rfl))⟩,
 f13:=⟨Tryz.f128.name,by decide,Tryz.func128.trans (congrArg some (by kernel_rfl))⟩,
 f14:=⟨Tryz.f129.name,by decide,Tryz.func129.trans (congrArg some (by kernel_rfl))⟩,
 f15:=⟨Tryz.f130.name,by decide,Tryz.func130.trans (congrArg some (by kernel_rfl))⟩,
 f16:=⟨Tryz.f131.name,by decide,Tryz.func131.trans (congrArg some (by kernel_rfl))⟩,
 f17:=⟨Tryz.f132.name,by decide,Tryz.func132.trans (congrArg some (by kernel_rfl))⟩,
 f18:=⟨Tryz.f133.name,by decide,Tryz.func133.trans (congrArg some (by kernel_rfl))⟩,
 f19:=Tryz.func134.trans (congrArg some (by kernel_rfl)),
 f20:=Tryz.func135.trans (congrArg some (by kernel_rfl)),
 f30:=⟨Tryz.f160.name,by decide,Tryz.func160.trans (congrArg some (by kernel_rfl))⟩,
 f31:=Tryz.func161.trans (congrArg some (by kernel_rfl)),
 f32:=Tryz.func162.trans (congrArg some (by kernel_rfl)),
 f33:=⟨Tryz.f163.name,by decide,Tryz.func163.trans (congrArg some (by kernel_rfl))⟩,
 f34:=⟨Tryz.f164.name,by decide,Tryz.func164.trans (congrArg some (by kernel_rfl))⟩,
 f35:=⟨Tryz.f165.name,by decide,Tryz.func165.trans (congrArg some (by kernel_rfl))⟩,
 f40:=⟨Tryz.f182.name,by decide,Tryz.func182.trans (congrArg some (by kernel_rfl))⟩,
 t0:=Tryz.underlying0,
 a0:=Tryz.isAgg0,
 z0:=Tryz.sizeOf0,
 v0:=Tryz.zeroValue0,
 t3:=Tryz.underlying3,
 a3:=Tryz.isAgg3,
 z3:=Tryz.sizeOf3,
 v3:=Tryz.zeroValue3,
 t4:=Tryz.underlying4,
 a4:=Tryz.isAgg4,
 z4:=Tryz.sizeOf4,
 v4:=Tryz.zeroValue4,
 t5:=Tryz.underlying5,
 a5:=Tryz.isAgg5,
 z5:=Tryz.sizeOf5,
 v5:=Tryz.zeroValue5,
 t9:=Tryz.underlying9,
 a9:=Tryz.isAgg9,
 z9:=Tryz.sizeOf9,
 v9:=Tryz.zeroValue9,
 t22:=Tryz.underlying22,
 a22:=Tryz.isAgg22,
 z22:=Tryz.sizeOf22,
 v22:=Tryz.zeroValue22,
 t23:=Tryz.underlying22,
 a23:=Tryz.isAgg22,
 z23:=Tryz.sizeOf22,
 v23:=Tryz.zeroValue22,
 t25:=Tryz.underlying3,
 a25:=Tryz.isAgg3,
 z25:=Tryz.sizeOf3,
 v25:=Tryz.zeroValue3,
 t32:=Tryz.underlying111,
 a32:=Tryz.isAgg111,
 z32:=Tryz.sizeOf111,
 v32:=Tryz.zeroValue111,
 t35:=Tryz.underlying139,
 a35:=Tryz.isAgg139,
 z35:=Tryz.sizeOf139,
 v35:=Tryz.zeroValue139,
 t36:=Tryz.underlying140,
 a36:=Tryz.isAgg140,
 z36:=Tryz.sizeOf140,
 v36:=Tryz.zeroValue140,
 t41:=Tryz.underlying145,
 a41:=Tryz.isAgg145,
 z41:=Tryz.sizeOf145,
 v41:=Tryz.zeroValue145,
 t44:=Tryz.underlying148,
 a44:=Tryz.isAgg148,
 z44:=Tryz.sizeOf148,
 v44:=Tryz.zeroValue148,
 t46:=Tryz.underlying150,
 a46:=Tryz.isAgg150,
 z46:=Tryz.sizeOf150,
 v46:=Tryz.zeroValue150,
 t53:=Tryz.underlying166,
 a53:=Tryz.isAgg166,
 z53:=Tryz.sizeOf166,
 v53:=Tryz.zeroValue166,
 t57:=Tryz.underlying170,
 a57:=Tryz.isAgg170,
 z57:=Tryz.sizeOf170,
 v57:=Tryz.zeroValue170,
 t63:=Tryz.underlying185,
 a63:=Tryz.isAgg185,
 z63:=Tryz.sizeOf185,
 v63:=Tryz.zeroValue185,
 t64:=Tryz.underlying186,
 a64:=Tryz.isAgg186,
 z64:=Tryz.sizeOf186,
 v64:=Tryz.zeroValue186 }
end Go.Proofs.YtaaichlgdgjgjaaGreatDoor
end
section
namespace Go.Proofs.YtaaichlgdgjgjaaGreatDoor
open Go Go.Ab Go.RowKit
theorem DZ:ph Tryz.prog XR 222 rk:=KI (fn:=(Tryz.prog.funcs[222]?).getD default) (by kernel_rfl) (by kernel_rfl) (by kernel_rfl) (by kernel_rfl) (by kernel_rfl)
theorem B3:ph Tryz.prog XR 226 pN:=HV (fn:=(Tryz.prog.funcs[226]?).getD default) (by kernel_rfl) (by kernel_rfl) (by kernel_rfl) (by kernel_rfl) (by kernel_rfl)
theorem FQ:ph Tryz.prog XR 166 (xz Tryz.prog XR Tryz.f166 (NO Gf) (II (II Gf)) 5):=
 T7 Pk.names Tryz.func166 rfl rfl rfl rfl rfl rfl rfl Tryz.func183 rfl HU (by kernel_rfl) (by kernel_rfl)
theorem NT:ph Tryz.prog XR 81 El:=Wz ZY (f5:=Tryz.f81) Tryz.func81 (by kernel_rfl)
theorem Vl:rT Tryz.prog XR prS:=oE NT (oE DZ (oE B3 (oE FQ KT)))
end Go.Proofs.YtaaichlgdgjgjaaGreatDoor
end
section
namespace Go.Proofs.YtaaichlgdgjgjaaGreatDoor
open Go Go.Ab Go.ChangeShapes Go.RowKit
variable{n:Nat}{J:dN}{s:List UInt8}{v:Value}{w:Value}{h:ae}
section
theorem co3:Tryz.prog.cellsOf 3=1:=by kernel_rfl
theorem co9:Tryz.prog.cellsOf 9=1:=by kernel_rfl
theorem aeY:Tryz.prog.cellsOf 27=1:=by kernel_rfl
theorem aeZ:Tryz.prog.cellsOf 29=4:=by kernel_rfl
theorem ae0:Tryz.prog.cellsOf 71=1:=by kernel_rfl
theorem adA:Tryz.prog.cellsOf 73=2:=by kernel_rfl
theorem adz:Tryz.prog.cellsOf 70=4:=by kernel_rfl
theorem ady:Tryz.prog.cellsOf 150=1:=by kernel_rfl
theorem aeM:Tryz.prog.bytesOf 70=40:=by kernel_rfl
theorem H3{a c:Type}{p:a->c}{P:a->Prop}:∀{l:List c},(∀x∈l,∃q,x=p q/\P q)->∃k:List a,l=k.map p/\∀q∈k,P q
 |[],_=>⟨[],rfl,λ_ h=>by cases h⟩
 | x::l,h=>by
  obtain⟨q,rfl,e⟩:=h x (List.mem_cons_self ..);obtain⟨k,rfl,f⟩:=H3 λx d=>h x (List.mem_cons_of_mem _ d);exact⟨q::k,rfl,λy b=>by
   rcases mem_cons.1 b with rfl|b
   ·exact e
   ·exact f y b⟩
def Ta(W:World)(q:dE×Value):Prop:=Bq W q.2 4 (q.1.arcs.map fQ)/\q.1.arcs.length<=281474976710656
section
variable {H:Type} {enc:TypeId×Value->H} {W:World} {held:Bool}
theorem Ti{cs:List Value}{y:DataW H×List MemPlace}(h:DataW.trod enc Tryz.prog W 0 (λ_=>true) held n 70 cs=some y):∃q:gY,cs=fQ q/\True:=by
 obtain⟨r,m,_,_,l,a,b⟩:=DataW.trod_struct Tryz.underlying70 h;rw[adz]at l;have a:r.length=4:=a
 match r,a,cs,l with
 |[k,v,g,p],_,[f,c,e,d],_=>
  obtain⟨i,z,_,_⟩:=DataW.trod_int (x:=k) Tryz.underlying3 (show DataW.trod enc Tryz.prog W 0 (λ_=>true) held m 3 (([f,c,e,d].drop 0).take (Tryz.prog.cellsOf 3))=some k from b 0 _ rfl);obtain⟨o,j,_,_⟩:=DataW.trod_int (x:=v) Tryz.underlying3 (show DataW.trod enc Tryz.prog W 0 (λ_=>true) held m 3 (([f,c,e,d].drop 1).take (Tryz.prog.cellsOf 3))=some v from b 1 _ rfl);obtain⟨s,w,_,_⟩:=DataW.trod_string (x:=g) Tryz.underlying9 (show DataW.trod enc Tryz.prog W 0 (λ_=>true) held m 9 (([f,c,e,d].drop 2).take (Tryz.prog.cellsOf 9))=some g from b 2 _ rfl);obtain⟨t,u,_,_⟩:=DataW.trod_int (x:=p) Tryz.underlying3 (show DataW.trod enc Tryz.prog W 0 (λ_=>true) held m 3 (([f,c,e,d].drop 3).take (Tryz.prog.cellsOf 3))=some p from b 3 _ rfl);simp only[co3,co9,List.drop,List.take,List.cons.injEq,and_true]at z j w u;subst z;subst j;subst w;subst u;exact⟨⟨i,o,s.data.toList,t⟩,rfl,trivial⟩
theorem NV{cs:List Value}{y:DataW H×List MemPlace}(h:DataW.trod enc Tryz.prog W 0 (λ_=>true) held n 73 cs=some y)(d:(y.1.weights Tryz.prog 73).all (· <=reachBytes)=true):∃q:dE×Value,cs=vE q/\Ta W q:=by
 obtain⟨k,o,m,rfl,c,i,f⟩:=trod_struct2 Tryz.underlying73 h;rw[adA]at c
 match cs,c with
 |[u,g],_=>
  obtain⟨s,e,_,_⟩:=DataW.trod_string Tryz.underlying9 i;simp only[DataW.weights,Tryz.underlying73,DataW.weightsEach,List.map,List.append_nil,List.all_append,and_eq_true]at d;obtain⟨v,t,b,r,j,a⟩:=AK (P:=Tryz.prog) (p:=λcs=>∃q:gY,cs=fQ q/\True) Tryz.underlying71 adz (by decide) (λn cs y h _=>Ti h) f d.2;simp only[co9,ae0,List.drop,List.take,List.cons.injEq,and_true]at e b;subst e;subst b;obtain⟨l,rfl,_⟩:=H3 j;refine⟨(⟨s.data.toList,l⟩,g),rfl,r,?_⟩;rw[aeM,lM]at a;unfold reachBytes at a;show l.length<=_;omega
theorem H2{cs:List Value}{y:DataW H×List MemPlace}(h:DataW.trod enc Tryz.prog W 0 (λ_=>true) held n 29 cs=some y)(e:(y.1.weights Tryz.prog 29).all (· <=reachBytes)=true):
  ∃(k s:Int)(o:List UInt8)(v:Value)(j:List (dE×Value)),cs=[.int .i64 k,.int .i64 s,strOf o,v]/\Bq W v 2 (j.map vE)/\∀q∈j,Ta W q:=by
 obtain⟨A,m,_,rfl,d,a,c⟩:=DataW.trod_struct Tryz.underlying29 h;rw[aeZ]at d;have a:A.length=4:=a
 match A,a,cs,d with
 |[w,C,t,z],_,[i,f,g,b],_=>
  obtain⟨k,E,_,_⟩:=DataW.trod_int (x:=w) Tryz.underlying3 (show DataW.trod enc Tryz.prog W 0 (λ_=>true) held m 3 (([i,f,g,b].drop 0).take (Tryz.prog.cellsOf 3))=some w from c 0 _ rfl);obtain⟨s,u,_,_⟩:=DataW.trod_int (x:=C) Tryz.underlying3 (show DataW.trod enc Tryz.prog W 0 (λ_=>true) held m 3 (([i,f,g,b].drop 1).take (Tryz.prog.cellsOf 3))=some C from c 1 _ rfl);obtain⟨o,D,_,_⟩:=DataW.trod_string (x:=t) Tryz.underlying9 (show DataW.trod enc Tryz.prog W 0 (λ_=>true) held m 9 (([i,f,g,b].drop 2).take (Tryz.prog.cellsOf 9))=some t from c 2 _ rfl);simp only[DataW.weights,Tryz.underlying29,DataW.weightsEach,List.map,List.append_nil,List.all_append,and_eq_true]at e;obtain⟨v,G,B,r,F,_⟩:=AK (P:=Tryz.prog) (x:=z) (p:=λcs=>∃q:dE×Value,cs=vE q/\Ta W q) Tryz.underlying27 adA (by decide) (λn cs y h e=>NV h e) (show DataW.trod enc Tryz.prog W 0 (λ_=>true) held m 27 (([i,f,g,b].drop 3).take (Tryz.prog.cellsOf 27))=some z from c 3 _ rfl) e.2.2.2;simp only[co3,co9,aeY,List.drop,List.take,List.cons.injEq,and_true]at E u D B;subst E;subst u;subst D;subst B;obtain⟨l,rfl,d⟩:=H3 F;exact⟨k,s,o.data.toList,b,l,rfl,r,d⟩
end
section
variable {W:World}
theorem PM(q:gY):(fQ q).all Go.Ab.bare=true:=rfl
theorem Z1(h:aE J v w):bp J [strOf s,v] [strOf s,w]:= .cons (.string _) (.cons h (.nil J))
theorem Gy:∀(a:List (dE×Value)),(∀q∈a,Ta W q)->∀{c:dN}{h:ae},vM c h W->
  ∃(d:dN)(m:ae)(b:List (dE×Value)),vM d m W/\c.le d/\Ok h m/\b.length=a.length/\b.map (·.1)=a.map (·.1)/\(∀p∈b,mE m p.2 p.1.arcs)/\
   ∀(k:Nat) r s,(b.map vE)[k]?=some r->(a.map vE)[k]?=some s->bp d r s
 |[],_,c,h,i=>⟨c,h,[],i,c.le_refl,Ok.refl i.wf,rfl,rfl,λ_ f=>absurd f (by simp),λk v q h=>absurd h (by simp)⟩
 | q::a,u,c,h,i=>by
  obtain⟨r,_⟩:=u q (List.mem_cons_self ..);obtain⟨K,g,v,A,G,z,C,I⟩:=i.row (e:=70) r (rs:=q.1.arcs.map fQ) rfl (λk r s g j=>by
    rw[g]at j;obtain rfl:=oI j;rw[getElem?_map]at g;obtain⟨x,_,rfl⟩:=Option.map_eq_some_iff.1 g;exact bp.yT (PM x))
  obtain⟨t,j,b,B,y,w,D,f,F,H⟩:=Gy a (λq f=>u q (List.mem_cons_of_mem _ f)) A;refine⟨t,j,(q.1,v)::b,B,dN.le_trans G y,z.trans w,by simp[D],by simp[f],λp o=>?_,λk J E n l=>?_⟩
  ·rcases mem_cons.1 o with rfl|o
   ·exact mE.ok I w
   ·exact F p o
  ·cases k with
   |zero=>
    simp only[List.map_cons,List.getElem?_cons_zero,Option.some.injEq]at n l;subst n;subst l;exact Z1 (C.mono y)
   |succ k=>exact H k J E (by simpa using n) (by simpa using l)
theorem Ky(i:vM J h W){v:Value}{b:List (dE×Value)}(r:Bq W v 2 (b.map vE))(y:∀q∈b,Ta W q)(F:∀a,v = .slice (some a) 0 0->a.spot=none/\∃cs t x,W.heap[a.block]?=some (.cells cs t x)):
  ∃c f d,vM c f W/\J.le c/\Ok h f/\aE c d v/\dt f d (b.map (·.1)):=by
 obtain⟨H,I,j,n,B,l,u,m,A,D⟩:=Gy b y i;obtain⟨g,z,d,o,G,k,w,s,C⟩:=n.Wb (e:=73) (rs:=j.map vE) r (by simp[u]) D F;exact⟨g,z,d,o,dN.le_trans B G,l.trans k,w,j,m,s,λp E=>mE.ok (A p E) k,C⟩
end
end
end Go.Proofs.YtaaichlgdgjgjaaGreatDoor
end
section
namespace Go.Proofs.YtaaichlgdgjgjaaGreatDoor
open Go Go.ChangeShapes Go.WideShapes Go.ChangeAt Go.RowKit
theorem Wp:ownKnob Tryz.prog.godebug=none:=by kernel_rfl
abbrev nE{H:Type}:List (String×DataW H):=[("math/bits.deBruijn32tab",Rows.laid_math_bits_deBruijn32tab),("math/bits.deBruijn64tab",Rows.laid_math_bits_deBruijn64tab),("internal/strconv.uint64pow10",Rows.laid_internal_strconv_uint64pow10)]
def abT:DataW Unit->Value
 |.lit (.int k n)=> .int k n
 |_=>undef
def Dm:DataW Unit->Array Value
 |.agg l=>(l.map abT).toArray
 |_=> #[]
def UL(c:Array Value):Obj->Obj
 |.cells _ t a=> .cells c t a
 |o=>o
noncomputable def Gv(a:Os):World:=
 { World.holding Tryz.prog a ⟨#[],#[],[]⟩with heap:=(((World.holding Tryz.prog a ⟨#[],#[],[]⟩).heap.modify 2 (UL (Dm Rows.laid_math_bits_deBruijn32tab))).modify 3 (UL (Dm Rows.laid_math_bits_deBruijn64tab))).modify 1 (UL (Dm Rows.laid_internal_strconv_uint64pow10)) }
theorem Fy(b:Os)(a:Array Value):laidMetH Tryz.prog nE ((Gv b).forCall (λ_ _=>0) ⟨#[],a,[]⟩).memory:=
 laidMetH_of_parts (laidMet_of_run' 24 (by kernel_rfl) (by kernel_rfl)) (by kernel_rfl)
end Go.Proofs.YtaaichlgdgjgjaaGreatDoor
end
section
namespace Go.Proofs.YtaaichlgdgjgjaaGreatDoor
open Go Go.Ab Go.ChangeShapes Go.WideShapes Go.RowKit
variable{v:Value}
section
theorem DN{P:Program}{w:World}:∀{l:List (String×DataW Unit)}{c:List MemPlace},DataW.LaidVars P w l c->∀n d,(n,d)∈l->
  ∃g t cs a p,P.globalNamed n=some g/\(P.globals[g]?).map (·.type)=some t/\w.var? P n=some cs/\DataW.trod (λ_=>()) P w 0 (λ_=>true) false a t cs.toList=some (d,p)
 |[],_,_,_,_,b=>by cases b
 | (s,o)::r,c,h,n,d,b=>by
  obtain⟨g,t,cs,a,p,q,i,j,f,k,m,_⟩:=h;rcases mem_cons.1 b with e|e
  ·cases e
   exact⟨g,t,cs,a,p,i,j,f,k⟩
  ·exact DN m n d e
theorem Vk:Rows.laid_internal_strconv_uint64pow10=(.agg ((List.range 20).map λi=>(.lit (.int .u64 ((10^i:Nat):Int)):DataW Unit)):DataW Unit):=by kernel_rfl
section
variable {W:World}
theorem Zr(j:laidMetH Tryz.prog nE W):∃cs t a,W.heap[1]?=some (.cells cs t a)/\∀s,gB s Lx 0 cs:=by
 rw[MakeChecks.laidMetH_plain _ _ _ (by kernel_rfl)]at j;obtain⟨F,l,_⟩:=j;obtain⟨g,t,cs,x,p,r,E,b,C⟩:=DN l "internal/strconv.uint64pow10" Rows.laid_internal_strconv_uint64pow10 (by simp[nE]);obtain rfl:=oI ((show Tryz.prog.globalNamed "internal/strconv.uint64pow10" = some 1 by kernel_rfl).symm.trans r);obtain rfl:=oI ((show(Tryz.prog.globals[1]?).map (·.type)=some 230 by kernel_rfl).symm.trans E);obtain⟨f,m,_,D,_,l,o⟩:=DataW.trod_array Tryz.underlying230 C;have w:f.map (·.1)=(List.range 20).map λi=>(.lit (.int .u64 ((10^i:Nat):Int)):DataW Unit):=by
  have:=(Prod.mk.inj D).1.symm.trans Vk;exact DataW.agg.inj this
 have d:∃t a,W.heap[1]?=some (.cells cs t a):=by
  simp only[World.var?,r,Option.bind_some]at b;split at b
  ·next c t a d=>obtain rfl:=oI b;exact⟨t,a,d⟩
  ·cases b
 obtain⟨t,a,d⟩:=d;refine⟨cs,t,a,d,λs k v h=>?_⟩;have e:k<20:=by
  have:=(List.getElem?_eq_some_iff.1 h).1;simpa[Lx]using this
 have b:v=uv (10^k):=by
  simp[Lx,List.getElem?_range e]at h;exact h.symm
 have n:=o k e;rw[ady,Nat.mul_one,gE (by omega)]at n;obtain⟨z,u,B,_⟩:=DataW.trod_int Tryz.underlying150 n;have q:(f.map (·.1))[k]?=some (.lit (.int .u64 ((10^k:Nat):Int))):=by rw[w];simp[List.getElem?_range e]
 rw[getElem?_map,gE (by omega:k<f.length),B]at q;have A:z=((10^k:Nat):Int):=by
  simpa using q
 subst A;have:cs.toList[k]?=some (.int .u64 ((10^k:Nat):Int)):=by
  have y:((cs.toList.drop k).take 1)[0]?=some (.int .u64 ((10^k:Nat):Int)):=by rw[u];rfl
  simpa using y
 refine⟨.int .u64 ((10^k:Nat):Int),by simpa using this,?_⟩;rw[b];exact .int _ _
theorem YZ(c:laidMetH Tryz.prog nE W):∃a h,vM a h W/\Gl XR a/\oi h:=by
 obtain⟨cs,t,f,b,e⟩:=Zr c;refine⟨_,_,(ae5 1 W).push b (e _),λg d=>?_,t,false,ae.fL ⟨1,.nil⟩ _⟩;have:g=1:=by simpa[XR]using d
 subst this;exact⟨_,dN.cN _ _ _,rfl,rfl,rfl⟩
theorem Xi{base:Nat}{k s:Int}{o:List UInt8}(b:Value.okWide Tryz.prog W .any base 29 (.agg #[.int .i64 k,.int .i64 s,strOf o,v]))(a:Addr)(e:v = .slice (some a) 0 0):a.spot=none/\∃cs t f,W.heap[a.block]?=some (.cells cs t f):=by
 simp only[Value.okWide,Tryz.underlying29]at b;obtain⟨cs,h,_,r,i,_,p⟩:=b;obtain rfl:=Value.agg.inj h;obtain rfl:=oI ((show Tryz.prog.cellTypes Tryz.prog.depth 29=some [3,3,9,27] by kernel_rfl).symm.trans i);obtain⟨u,n,g⟩:=p 3 v rfl;obtain rfl:27=u:=oI n;subst e;simp only[Cell.okWide,Cell.ok,Tryz.underlying27]at g;obtain⟨_,_,_,m,q,j,d,_⟩:=g;refine⟨m,?_⟩;unfold World.shape? at d;split at d
 ·next c t f l=>exact⟨c,t,f,l⟩
 ·cases d
end
end
variable{n:Nat}{J:dN}{h:ae}
section
theorem bo3:Tryz.prog.bytesOf 3=8:=by kernel_rfl
section
variable {H:Type} {enc:TypeId×Value->H} {W:World} {held:Bool}
theorem QD{cs:List Value}{y:DataW H×List MemPlace}(h:DataW.trod enc Tryz.prog W 0 (λ_=>true) held n 22 cs=some y)(c:(y.1.weights Tryz.prog 22).all (· <=reachBytes)=true):
  ∃(v:Value)(l:List Int),cs=[v]/\Bq W v 1 (l.map qH)/\l.length<=281474976710656:=by
 obtain⟨v,f,b,r,d,a⟩:=AK (P:=Tryz.prog) (p:=λcs=>∃z:Int,cs=qH z/\True) Tryz.underlying22 co3 (by decide) (λn cs y h _=>by
  obtain⟨z,e,_,_⟩:=DataW.trod_int Tryz.underlying3 h;exact⟨z,e,trivial⟩) h c
 obtain⟨l,rfl,_⟩:=H3 d;refine⟨v,l,b,r,?_⟩;rw[bo3,lM]at a;unfold reachBytes at a;omega
theorem QR(i:vM J h W){v:Value}{l:List Int}(r:Bq W v 1 (l.map qH))(B:∀a,v = .slice (some a) 0 0->a.spot=none/\∃cs t s,W.heap[a.block]?=some (.cells cs t s)):
  ∃g u a c,vM g u W/\J.le g/\Ok h u/\aE g (.slice a l.length c) v/\dR u (.slice a l.length c) l/\l.length<=bL c:=by
 obtain⟨D,⟨rfl,q⟩|⟨a,rfl,q⟩|⟨b,d,f,cs,t,s,rfl,y,E,p,F,C⟩⟩:=r
 ·obtain rfl:l=[]:=by simpa using q
  exact⟨J,h,none,0,i,J.le_refl,Ok.refl i.wf,.mg,.inl ⟨rfl,rfl⟩,Nat.zero_le _⟩
 ·obtain rfl:l=[]:=by simpa using q
  obtain⟨x,cs,t,s,p⟩:=B a rfl;obtain⟨b,d,w⟩:=a
  cases (show w=none from x)
  have o:=i.push (cs:=[]) p (λk v e=>by simp at e);exact⟨_,_,some ⟨h.next,0,none⟩,0,o,i.le _,(Ok.refl i.wf).push _,aE.slice (n:=0) (c:=0) (c':=0) (sl:=AO b cs.size t) (dN.cN _ _ _) rfl (λ_=>rfl) (λh=>by unfold dv at h;omega) (by unfold bL;split<;>omega) (.inr ⟨rfl,rfl⟩) (.inl rfl),.inr ⟨h.next,0,_,0,false,t,0,rfl,ae.fL _ _,.inr rfl,rfl⟩,Nat.zero_le _⟩
 ·rw[lM]at y⊢;have j:gB J (List.replicate d iq++l.map zV) 0 cs:=λk v e=>by
   rw[Nat.zero_add];rw[List.getElem?_append]at e;split at e
   ·next m=>
    rw[List.length_replicate]at m;rw[List.getElem?_replicate,if_pos m]at e;obtain rfl:=oI e;exact⟨_,Array.getElem?_eq_getElem (by omega),.iq _⟩
   ·next m=>
    rw[List.length_replicate]at m e;rw[getElem?_map]at e;obtain⟨z,A,rfl⟩:=Option.map_eq_some_iff.1 e;have:=C (k-d) (qH z) (by rw[getElem?_map,A];rfl) 0 (by omega);rw[show d+((k-d)*1+0)=k by omega]at this;exact⟨_,this,.int _ _⟩
  have o:=i.push p j;refine⟨_,_,some ⟨h.next,d,none⟩,f,o,i.le _,(Ok.refl i.wf).push _,aE.slice (sl:=AO b cs.size t) (i:=d) (n:=l.length) (c:=f) (i':=d) (c':=f) (dN.cN _ _ _) rfl (λ_=>rfl) (λh=>by omega) (by unfold bL;split<;>omega) (.inl (by simp)) (.inl rfl),.inr ⟨h.next,d,_,f,false,t,0,rfl,ae.fL _ _,.inr rfl,?_⟩,by unfold bL;split<;>omega⟩;rw[List.drop_append,List.length_replicate,List.drop_eq_nil_of_le (by simp),List.nil_append,Nat.sub_self,drop_zero,List.take_of_length_le (by simp)];rfl
end
end
variable{c:List Value}{g:ae}{f:FuncId}{F:Func}
section
section
variable {W:World}
def Ldx(W:World)(v:Value)(S:Value->ae->Prop):Prop:=(∀c h a,Ok h a->S c h->S c a)/\∀{d:dN}{h:ae},vM d h W->∃b a c,vM b a W/\d.le b/\Ok h a/\aE b c v/\S c a
def Lds(W:World)(e:List Value)(T:List Value->ae->Prop):Prop:=∀{d:dN}{h:ae},vM d h W->∃a c b,vM a c W/\d.le a/\Ok h c/\bp a b e/\T b c
theorem Y6:Lds W [] λa _=>a=[]:=λ{b h} i=>⟨b,h,[],i,b.le_refl,Ok.refl i.wf,.nil _,rfl⟩
theorem yD{S:Value->ae->Prop}{T:List Value->ae->Prop}(a:Ldx W v S)(b:Lds W c T):Lds W (v::c) λe h=>∃x r,e=x::r/\S x h/\T r h:=λ{w h} i=>by
 obtain⟨t,u,x,l,q,j,n,s⟩:=a.2 i;obtain⟨d,p,r,m,g,f,o,k⟩:=b l;exact⟨d,p,x::r,m,dN.le_trans q g,j.trans f,.cons (n.mono g) o,x,r,rfl,a.1 _ _ _ f s,k⟩
def acJ(v:Value)(h:ae):Prop:=∃(M:bq)(a:Option Addr)(c:Nat),v = .agg ⟨bF M a M.af.length c⟩/\Bnd M/\dt h (.slice a M.af.length c) M.af
def X9(v:Value)(h:ae):Prop:=∃(l:List Int)(a:Option Addr)(c:Nat),v = .slice a l.length c/\dR h (.slice a l.length c) l/\l.length<=281474976710656/\l.length<=bL c
theorem X9.ok(o:Ok h g)(s:X9 v h):X9 v g:=by
 obtain⟨l,a,c,d,e,b,f⟩:=s;exact⟨l,a,c,d,e.ok o,b,f⟩
theorem Lp{b:Nat}{t:TypeId}(h:W.shape? b=some (t,n)):∃cs t a,W.heap[b]?=some (.cells cs t a):=by
 unfold World.shape? at h;split at h
 ·next c t a d=>exact⟨c,t,a,d⟩
 ·cases h
variable {H:Type} {enc:TypeId×Value->H}
theorem OO{base:Nat}{A:DataW H}{p:List MemPlace}(f:Value.okWide Tryz.prog W .any base 29 v)(l:DataW.Trod enc Tryz.prog W 0 (λ_=>true) true 29 v A p)(G:(A.weights Tryz.prog 29).all (· <=reachBytes)=true):Ldx W v acJ:=by
 refine⟨λN h O o s=>?_,λ{Q h} i=>?_⟩
 ·obtain⟨M,a,c,e,b,r⟩:=s;exact⟨M,a,c,e,b,r.ok o⟩
 obtain⟨cs,rfl,_⟩:=okWide_struct Tryz.underlying29 f;obtain⟨I,l⟩:=l;obtain⟨k,s,m,N,d,j,L,w⟩:=H2 l G;have j:cs = #[.int .i64 k,.int .i64 s,strOf m,N]:=by
  rw[<-Array.toList_inj];exact j
 subst j;obtain⟨y,F,P,D,J,C,n,g⟩:=Ky i L w (Xi f);obtain⟨K,t,u,_,_⟩:=id g;obtain⟨a,c,rfl⟩:=u.XT;have B:(K.map vE).length=(d.map (·.1)).length:=by rw[<-t,lM,lM]
 rw[B]at n g;refine⟨y,F,.agg ⟨bF ⟨k,s,m,d.map (·.1)⟩ a (d.map (·.1)).length c⟩,D,J,C,?_,⟨k,s,m,d.map (·.1)⟩,a,c,rfl,λx E=>?_,g⟩
 ·exact .agg rfl (jV.toList.2 (.cons (.int _ _) (.cons (.int _ _) (.cons (.string _) (.cons n (.nil _)))))).2
 ·obtain⟨q,z,rfl⟩:=mem_map.1 E;exact(w q z).2
theorem U8{base:Nat}(b:Value.okWide Tryz.prog W .any base 22 v)(a:Addr)(e:v = .slice (some a) 0 0):a.spot=none/\∃cs t g,W.heap[a.block]?=some (.cells cs t g):=by
 subst e;simp only[Value.okWide,Cell.okWide,Cell.ok,Tryz.underlying22]at b;obtain⟨_,_,_,f,h,d,c,_⟩:=b;exact⟨f,Lp c⟩
theorem UM{base:Nat}{m:DataW H}{p:List MemPlace}(b:Value.okWide Tryz.prog W .any base 22 v)(d:DataW.Trod enc Tryz.prog W 0 (λ_=>true) true 22 v m p)(y:(m.weights Tryz.prog 22).all (· <=reachBytes)=true):Ldx W v X9:=by
 refine⟨λv h C o s=>s.ok o,λ{D h} i=>?_⟩;obtain⟨f,j,k,rfl⟩:=okWide_slice Tryz.underlying22 b;obtain⟨z,d⟩:=d;obtain⟨v,l,e,r,u⟩:=QD d y;have e:Value.slice f j k=v:=by
  have:[Value.slice f j k]=[v]:=e;simpa using this
 subst e;obtain⟨g,w,a,c,q,A,n,t,x,B⟩:=QR i r (U8 b);exact⟨g,w,_,q,A,n,t,l,a,c,rfl,x,u,B⟩
theorem QQ(m:Tryz.prog.funcs[f]?=some F)(b:F.body.isSome=true)(q:f<YB){a:Array Value}{T:List Value->ae->Prop}(l:Lds W a.toList T)(p:laidMetH Tryz.prog nE W)
  (i:∀{h:ae}{c:List Value}(_:oi h)(_:Wf h),T c h->FW SS f c h (EQ h)):Calls Tryz.prog f a W λe d=>e = .returned (.bool true)/\Below W.heap.size W d:=by
 obtain⟨t,C,k,v,n⟩:=YZ p;obtain⟨y,z,c,g,s,j,o,u⟩:=l k;refine(JV Pk Vl (i (n.ok j) g.wf u) q m b g (v.mono s) (args':=a) o).mono ?_;rintro e d ⟨x,A,B,w,rfl,⟨rfl,_⟩,r,_,b⟩
 cases r
 exact⟨rfl,b⟩
end
end
end Go.Proofs.YtaaichlgdgjgjaaGreatDoor
end
section
namespace Go.Proofs.YtaaichlgdgjgjaaGreatDoor
open Go Go.Ab Go.ChangeShapes Go.WideShapes Go.ChangeAt Go.RowKit
theorem vj:laidOutB Tryz.prog=true:=by kernel_rfl
set_option maxRecDepth 100000 in
theorem vQ(l:Os)(k:l.Started)(H:Type)(d:TypeId×Value->H):
  ReturnsInHanded {} Tryz.checked l 6 .any (λw b=>(Rows.buildConcatsSpec.pre d Tryz.prog Tryz.f6 [] false w b/\laidMetH Tryz.prog nE w)/\sizedMet d Tryz.prog Tryz.f6 (OpenSpec.ofChange Rows.buildConcatsSpec) false w b)
   (Rows.buildConcatsSpec.post d Tryz.prog Tryz.f6 false true false false):=by
 refine returnsInHanded_of_change_and (C:=Tryz.checked) (X:=λw _=>laidMetH Tryz.prog nE w) (λ_ _ _ hh h=>h.of_heap hh) Wp k (by kernel_rfl) Tryz.func6
  (ChangeSpec.witness_at (enc:=d) (C:=Tryz.checked) (os:=l) (X:=λw _=>laidMetH Tryz.prog nE w) false (Gv l) #[.agg #[.int .i64 0,.int .i64 0,.string ⟨#[]⟩,.slice none 0 0],.agg #[.int .i64 0,.int .i64 0,.string ⟨#[]⟩,.slice none 0 0],.slice none 0 0,.slice none 0 0] 8 rfl (by kernel_rfl) (by kernel_rfl) (by kernel_rfl) (by kernel_rfl) (by kernel_rfl) (Fy l _)) ?_
 intro W base b P gs E o U _ x7 hL _;have c:∀(j:Nat) t v,Tryz.f6.params[j]?=some t->b[j]?=some v->Value.okWide Tryz.prog W .any base t v:=o;have n:=U;obtain⟨p,q,F,hV,rfl,y5,x9⟩:=U;have hA:DataW.TrodAll d Tryz.prog W 0 (λ_=>true) true Tryz.f6.params.toList b.toList P p:=F;rw[Tryz.params6]at hA c;obtain⟨r,z3,D,y6,Q,q0,f,rfl,rfl,I,x5⟩:=trodAll_cons hA;obtain⟨B,z1,A,y3,p1,q1,rfl,rfl,rfl,t1,x6⟩:=trodAll_cons x5;obtain⟨y,y0,u,z0,K,q2,rfl,rfl,rfl,G,M⟩:=trodAll_cons x6;obtain⟨s,z2,z,y7,p3,q3,rfl,rfl,rfl,t3,S⟩:=trodAll_cons M;obtain⟨rfl,rfl,rfl⟩:=trodAll_nil S;have f:b = #[r,B,y,s]:=by
  rw[<-Array.toList_inj];exact f
 subst f;obtain⟨rfl,rfl⟩:=trodVars_none hV;rw[List.append_nil]at n;have V:(DataW.weightsEach Tryz.prog (Tryz.f6.params.toList++Rows.buildConcatsSpec.plain.varTypes Tryz.prog) ([D,A,u,z]++[])).all (· <=reachBytes)=true:=x7;rw[Tryz.params6]at V;have Z:(D.weights Tryz.prog 29++(A.weights Tryz.prog 29++(u.weights Tryz.prog 22++(z.weights Tryz.prog 22++(DataW.weightsEach Tryz.prog (Rows.buildConcatsSpec.plain.varTypes Tryz.prog) []))))).all (· <=reachBytes)=true:=V;simp only[List.all_append,and_eq_true]at Z;obtain⟨w0,w1,w2,w3,_⟩:=Z;have ld:Lds W #[r,B,y,s].toList _:=yD (OO (c 0 29 r rfl rfl) I w0) (yD (OO (c 1 29 B rfl rfl) t1 w1) (yD (UM (c 2 22 y rfl rfl) G w2) (yD (UM (c 3 22 s rfl rfl) t3 w3) (Y6))));refine(QQ Tryz.func6 (by kernel_rfl) (by unfold YB;decide) ld hL λtb w T=>?_).mono λe W2 ⟨he,m⟩=>?_
 ·obtain⟨x0,L,rfl,s0,x1,J,rfl,s1,x2,r2,rfl,s2,x3,r3,rfl,s3,rfl⟩:=T;obtain⟨M0,a0,c0,rfl,b0,L⟩:=s0;obtain⟨M1,a1,c1,rfl,b1,J⟩:=s1;obtain⟨y9,y1,y8,rfl,Y,x4,R⟩:=s2;obtain⟨z4,y4,y2,rfl,N,x8,O⟩:=s3;exact JN w tb b0 b1 L J Y N x4 x8 R O
 subst he;have g:∀x∈Q++(p1++(K++(p3++([])))),x.block<W.heap.size:=λx a=>n.lt x a;exact⟨_,rfl,UK (ds:=[D,A,u,z]) (places:=Q++(p1++(K++(p3++([]))))) rfl n m rfl rfl (λ_ _ _=>(trodAll_cons_mk (shut_bool Tryz.underlying4 _) trodAll_mk0))
  (ok_one (by kernel_rfl) rfl (okWide_bool_mk Tryz.underlying4 _)) (λsp i=>by
   rw[Tryz.params6];exact trodAll_cons_mk (WideElems.Trod_stays vj (by kernel_rfl) (dT (by kernel_rfl)) I (λx a=>m.same (g x (mem_append_left _ a))) (λx a=>i x (mem_append_left _ a))) (trodAll_cons_mk (WideElems.Trod_stays vj (by kernel_rfl) (dT (by kernel_rfl)) t1 (λx a=>m.same (g x (mem_append_right _ (mem_append_left _ a)))) (λx a=>i x (mem_append_right _ (mem_append_left _ a)))) (trodAll_cons_mk (WideElems.Trod_stays vj (by kernel_rfl) (dT (by kernel_rfl)) G (λx a=>m.same (g x (mem_append_right _ (mem_append_right _ (mem_append_left _ a))))) (λx a=>i x (mem_append_right _ (mem_append_right _ (mem_append_left _ a))))) (trodAll_cons_mk (WideElems.Trod_stays vj (by kernel_rfl) (dT (by kernel_rfl)) t3 (λx a=>m.same (g x (mem_append_right _ (mem_append_right _ (mem_append_right _ (mem_append_left _ a)))))) (λx a=>i x (mem_append_right _ (mem_append_right _ (mem_append_right _ (mem_append_left _ a)))))) (trodAll_mk0)))))⟩
theorem yl:Rows.BuildConcatsSaid:=
 OpenClaim.holds_of_wide 6 Tryz.f6 rfl rfl rfl rfl rfl rfl rfl ⟨rfl,rfl,rfl,rfl,rfl⟩ rfl rfl rfl rfl rfl (by kernel_rfl) Tryz.func6 (by kernel_rfl)
  (dT (by kernel_rfl)) (by unfold Func.isWrapper;first|(rw[if_pos (by decide +kernel)];kernel_rfl)|(rw[if_neg (by decide +kernel)];exact⟨rfl,rfl⟩))
  (λc a H b _=>vQ c a H b)
theorem buildConcats_holds:Rows.BuildConcatsCardSaid:=
 Claim7.holds_tied_plain_at .later [] [.data,.data,.data] true (true,"c6fdbccbd4f7b918257715cfda7cd04cead22867ce6bb9351446e2ee10eec580") true
  yl (λ_ h=>by cases h) (by kernel_rfl) (λ_ h=>by cases h) buildConcats_row_tie rfl ⟨rfl,rfl⟩ (by kernel_rfl) rfl
  (λf d e b=>by
   obtain rfl:f=6:=oI ((show Tryz.prog.funcNamed "abugida/abugidalaw09.BuildConcats" = some 6 by kernel_rfl).symm.trans e) |>.symm
   obtain rfl:d=Tryz.f6:=(oI (Tryz.func6.symm.trans b)).symm;exact⟨by kernel_rfl,λj t c=>by
    rw[Tryz.params6]at c;have g:t∈[29,29,22,22]:=by simpa using Array.mem_of_getElem? c
    have a:([29,29,22,22].all λu=> !Tryz.prog.wantsStandIn u)=true:=by kernel_rfl
    exact(show Tryz.prog.wantsStandIn t=false by simpa using all_eq_true.1 a t g)⟩)
  (by kernel_rfl)
end Go.Proofs.YtaaichlgdgjgjaaGreatDoor
end
