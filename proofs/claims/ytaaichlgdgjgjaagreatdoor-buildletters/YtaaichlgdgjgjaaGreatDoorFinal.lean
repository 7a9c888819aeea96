/- Whatever is handed to it, in whatever memory, on every schedule, BuildLetters returns true. No condition. -/
import Derived.Test.YtaaichlgdgjgjaaGreatDoorPart3
import Derived.Test.YtaaichlgdgjgjaaGreatDoorPart2
import Derived.Test.YtaaichlgdgjgjaaGreatDoorPart6
import Derived.Shelf.SortM.Plain
import Derived.Shelf.SortM.SortNone
import Derived.Test.YtaaichlgdgjgjaaGreatDoorProg
import Derived.OpenShut
import Derived.MakeChecks
import Derived.FnData
import Derived.ChangeSame
import Derived.Test.YtaaichlgdgjgjaaGreatDoorRows
import Derived.ProofKit
import Derived.LaidLaws
import Derived.LaidHandle
import Derived.ChangeVars
import Derived.Test.YtaaichlgdgjgjaaGreatDoorCards
import Derived.Test.YtaaichlgdgjgjaaGreatDoorTie
import Derived.WalkKit
import Derived.Carry
import Derived.SevenTiedAt
set_option linter.unusedVariables false
set_option linter.unusedSimpArgs false
set_option maxRecDepth 100000
open List (mem_append_left mem_append_right)
open Bool (and_eq_true)
open Go.IntKind (wrap)
section
namespace Go.Proofs.YtaaichlgdgjgjaaGreatDoor
open Go Go.Ab Go.Num
noncomputable def k9:FD:=cA Tryz.f4 [([1,1,1,1,1,0,1,0,0],[0,1,2,3,9,10,11,12,13])]
abbrev ba(b:Int)(a:OA)(n c:Nat)(d:OA)(l j:Nat)(h:OA)(f k g:Nat)(e:Int)(bad is:Bool)(i:Nat):LV:=[(.int .i64 b),(.slice a n c),(.slice d l j),(.slice h f k),(pA g),(.int .i64 e),(.bool bad),(.bool is),(iA i)]
theorem IG(p:Int)(a:OA)(n c:Nat)(q:OA)(v t:Nat)(s:OA)(r u:Nat)(h:ae)(Q:VH)(w:au (decide (((n:Int):Int)>2000)) (FW SS 12 [] h λb c=>yB b λa=>Q (.bool a) c) (FW SS 11 [(.slice q v t),(.slice s r u)] h λm o=>yB m λl=>au (!l) (FW SS 12 [] o λb c=>yB b λa=>Q (.bool a) c) (FW SS 21 [(.int .i64 p),(.slice a n c)] o λj k=>∃i:LV,∃h:Int,j=(.tuple ⟨[(.agg ⟨i⟩),(.int .i64 h)]⟩)/\xN (bq SS.P 29) k λ_ g=>xU (ah SS.P 29 (pA (k.next)) (.agg ⟨i⟩) g) g λ_ f=>FW SS 14 [(.int .i64 p)] f λd e=>yB d λb=>LL SS k9 [1,1,1,1,1,0,1,0,0] (ba p a n c q v t s r u (k.next) h (!b) false 0) e (KK SS k9 [1,1,1,1,1,0,1,0] [] (EE SS k9 Q))))):FW SS 4 [(.int .i64 p),(.slice a n c),(.slice q v t),(.slice s r u)] h Q:=cN k9 Tryz.func4 (ai w)
theorem uR(t:Int)(a:OA)(n c:Nat)(x:OA)(v z:Nat)(y:OA)(u A:Nat)(w:Nat)(e:Int)(B:Nat->Bool->Bool->Nat->ae->Prop)(Q:VH)(step:∀(C:Nat) (bad is:Bool) (i:Nat) (E:Nat->Value) (h:ae),B C bad is i h->au (decide (((i:Int):Int)<(n:Int))) (au bad (au is (aB (Al (ba t a n c x v z y u A w e) B) C [(.int .i64 t),(.slice a n c),(.slice x v z),(.slice y u A),(pA w),(.int .i64 e),(.bool true),(.bool true),(.int .i64 (wrap .i64 ((i:Int)+1)))] (room h 32)) (au ((((v:Int):Int)==1)) (au ((((u:Int):Int)==1)) (iP 22 (.slice x v z) (.int .i64 0) λm=>lI (room h 32) m λl=>iP 22 (.slice a n c) (iA i) λk=>lI (room h 32) k λj=>au (((l:Int)==j)) (iP 22 (.slice y u A) (.int .i64 0) λg=>lI (room h 32) g λf=>iP 22 (.slice a n c) (iA i) λd=>lI (room h 32) d λb=>aB (Al (ba t a n c x v z y u A w e) B) C [(.int .i64 t),(.slice a n c),(.slice x v z),(.slice y u A),(pA w),(.int .i64 e),(.bool true),(.bool (((f:Int)==b))),(.int .i64 (wrap .i64 ((i:Int)+1)))] (room h 32)) (aB (Al (ba t a n c x v z y u A w e) B) C [(.int .i64 t),(.slice a n c),(.slice x v z),(.slice y u A),(pA w),(.int .i64 e),(.bool true),(.bool false),(.int .i64 (wrap .i64 ((i:Int)+1)))] (room h 32))) (aB (Al (ba t a n c x v z y u A w e) B) C [(.int .i64 t),(.slice a n c),(.slice x v z),(.slice y u A),(pA w),(.int .i64 e),(.bool true),(.bool false),(.int .i64 (wrap .i64 ((i:Int)+1)))] (room h 32))) (aB (Al (ba t a n c x v z y u A w e) B) C [(.int .i64 t),(.slice a n c),(.slice x v z),(.slice y u A),(pA w),(.int .i64 e),(.bool true),(.bool false),(.int .i64 (wrap .i64 ((i:Int)+1)))] (room h 32)))) (iP 22 (.slice a n c) (iA i) λr=>lI h r λq=>au (decide ((q:Int)<1)) (au is (aB (Al (ba t a n c x v z y u A w e) B) C [(.int .i64 t),(.slice a n c),(.slice x v z),(.slice y u A),(pA w),(.int .i64 e),(.bool true),(.bool true),(.int .i64 (wrap .i64 ((i:Int)+1)))] (room h 32)) (au ((((v:Int):Int)==1)) (au ((((u:Int):Int)==1)) (iP 22 (.slice x v z) (.int .i64 0) λm=>lI (room h 32) m λl=>iP 22 (.slice a n c) (iA i) λk=>lI (room h 32) k λj=>au (((l:Int)==j)) (iP 22 (.slice y u A) (.int .i64 0) λg=>lI (room h 32) g λf=>iP 22 (.slice a n c) (iA i) λd=>lI (room h 32) d λb=>aB (Al (ba t a n c x v z y u A w e) B) C [(.int .i64 t),(.slice a n c),(.slice x v z),(.slice y u A),(pA w),(.int .i64 e),(.bool true),(.bool (((f:Int)==b))),(.int .i64 (wrap .i64 ((i:Int)+1)))] (room h 32)) (aB (Al (ba t a n c x v z y u A w e) B) C [(.int .i64 t),(.slice a n c),(.slice x v z),(.slice y u A),(pA w),(.int .i64 e),(.bool true),(.bool false),(.int .i64 (wrap .i64 ((i:Int)+1)))] (room h 32))) (aB (Al (ba t a n c x v z y u A w e) B) C [(.int .i64 t),(.slice a n c),(.slice x v z),(.slice y u A),(pA w),(.int .i64 e),(.bool true),(.bool false),(.int .i64 (wrap .i64 ((i:Int)+1)))] (room h 32))) (aB (Al (ba t a n c x v z y u A w e) B) C [(.int .i64 t),(.slice a n c),(.slice x v z),(.slice y u A),(pA w),(.int .i64 e),(.bool true),(.bool false),(.int .i64 (wrap .i64 ((i:Int)+1)))] (room h 32)))) (iP 22 (.slice a n c) (iA i) λp=>lI h p λo=>au is (aB (Al (ba t a n c x v z y u A w e) B) C [(.int .i64 t),(.slice a n c),(.slice x v z),(.slice y u A),(pA w),(.int .i64 e),(.bool (decide ((o:Int)>500))),(.bool true),(.int .i64 (wrap .i64 ((i:Int)+1)))] (room h 32)) (au ((((v:Int):Int)==1)) (au ((((u:Int):Int)==1)) (iP 22 (.slice x v z) (.int .i64 0) λm=>lI (room h 32) m λl=>iP 22 (.slice a n c) (iA i) λk=>lI (room h 32) k λj=>au (((l:Int)==j)) (iP 22 (.slice y u A) (.int .i64 0) λg=>lI (room h 32) g λf=>iP 22 (.slice a n c) (iA i) λd=>lI (room h 32) d λb=>aB (Al (ba t a n c x v z y u A w e) B) C [(.int .i64 t),(.slice a n c),(.slice x v z),(.slice y u A),(pA w),(.int .i64 e),(.bool (decide ((o:Int)>500))),(.bool (((f:Int)==b))),(.int .i64 (wrap .i64 ((i:Int)+1)))] (room h 32)) (aB (Al (ba t a n c x v z y u A w e) B) C [(.int .i64 t),(.slice a n c),(.slice x v z),(.slice y u A),(pA w),(.int .i64 e),(.bool (decide ((o:Int)>500))),(.bool false),(.int .i64 (wrap .i64 ((i:Int)+1)))] (room h 32))) (aB (Al (ba t a n c x v z y u A w e) B) C [(.int .i64 t),(.slice a n c),(.slice x v z),(.slice y u A),(pA w),(.int .i64 e),(.bool (decide ((o:Int)>500))),(.bool false),(.int .i64 (wrap .i64 ((i:Int)+1)))] (room h 32))) (aB (Al (ba t a n c x v z y u A w e) B) C [(.int .i64 t),(.slice a n c),(.slice x v z),(.slice y u A),(pA w),(.int .i64 e),(.bool (decide ((o:Int)>500))),(.bool false),(.int .i64 (wrap .i64 ((i:Int)+1)))] (room h 32)))))) (au bad (au (((e:Int)==1)) (FW SS 12 [] h λb c=>yB b λa=>Q (.bool a) c) (Q (.bool false) h)) (FW SS 18 [(.int .i64 t)] h λr s=>yS r λq=>au is (FW SS 22 [(.int .i64 t)] s λo p=>yS o λn=>au (((e:Int)==0)) (fP 29 (pA w) 3 λm=>lL 27 p m λ_ l _=>au (decide (((l:Int):Int)<=2)) (lA 29 p (pA w) λk=>FW SS 23 [(.agg ⟨k⟩)] p λi j=>yB i λh=>au h (lA 29 j (pA w) λg=>FW SS 19 [(.agg ⟨g⟩),(.int .i64 t),(.slice x v z),(.slice y u A),(strOf n)] j λe f=>yB e λd=>au d (FW SS 12 [] f λb c=>yB b λa=>Q (.bool a) c) (Q (.bool false) f)) (Q (.bool false) j)) (Q (.bool false) p)) (Q (.bool false) p)) (au (((e:Int)==0)) (fP 29 (pA w) 3 λm=>lL 27 s m λ_ l _=>au (decide (((l:Int):Int)<=2)) (lA 29 s (pA w) λk=>FW SS 23 [(.agg ⟨k⟩)] s λi j=>yB i λh=>au h (lA 29 j (pA w) λg=>FW SS 19 [(.agg ⟨g⟩),(.int .i64 t),(.slice x v z),(.slice y u A),(strOf q)] j λe f=>yB e λd=>au d (FW SS 12 [] f λb c=>yB b λa=>Q (.bool a) c) (Q (.bool false) f)) (Q (.bool false) j)) (Q (.bool false) s)) (Q (.bool false) s)))))(C:Nat){bad is:Bool}{i:Nat}{h:ae}(D:B C bad is i h):LL SS k9 [1,1,1,1,1,0,1,0,0] (ba t a n c x v z y u A w e bad is i) h (KK SS k9 [1,1,1,1,1,0,1,0] [] (EE SS k9 Q)):=
 NZ (ba t a n c x v z y u A w e) B (λC bad is i E h D=>ai (step C bad is i E h D)) C D
variable{M:bt}
section
def EQ(h:ae):VH:=λv g=>v = .bool true/\Ok h g
section
variable {h g:ae}
theorem Nm(d:nO h)(a:Ok h g):FW SS 12 [] g λv c=>yB v λb=>EQ h (.bool b) c:=by
 refine(R5 a.wf (d.ok a)).mono ?_;rintro _ e ⟨rfl,o⟩;exact⟨_,rfl,rfl,a.trans o⟩
theorem holds_of{K:Type}{S:bd K}{b:List UInt8->K}(d:wL S b M.kind)(c:cn M=true){xs ys:List Int}(g:fE xs=true)(i:fE ys=true){a:List UInt8}(f:aM M.kind a=true)(k:YA S b M xs ys=b a):CL M M.kind xs ys a=true:=by
 unfold CL;rw[c];rcases aa5 d c g i with⟨w,e,h,j⟩|e
 ·rw[e];have:=d.inj h f (j.trans k);subst this;simp
 ·rw[e];simp
variable {kind:Int} {xa ya ua va:Option Addr} {xc yc uc vc:Nat} {xs ys us vs:List Int} {wt:List UInt8}
end
end
section
def sO(xs ys:List Int)(s:Int):Bool:=decide (xs=[s]/\ys=[s])
section
variable {h g:ae} {kind:Int} {a xa ya:Option Addr} {n c xc yc:Nat} {l xs ys:List Int}
theorem GZ{G:Bool->Prop}(E:du g (.slice a n c) l)(F:du g (.slice xa xs.length xc) xs)(I:du g (.slice ya ys.length yc) ys){i:Nat}(K:i<l.length){is:Bool}(h:G (is||sO xs ys (l.getD i 0))):
  au is (G true) (au ((((xs.length:Int):Int)==1)) (au ((((ys.length:Int):Int)==1)) (xP (ax SS.P 22 (.slice xa xs.length xc) (.int .i64 0)) λt=>xI .i64 (aj SS.P 3 g (.pointer (some t))) λD=>xP (ax SS.P 22 (.slice a n c) (iA i)) λo=>xI .i64 (aj SS.P 3 g (.pointer (some o))) λv=>au (((D:Int)==v)) (xP (ax SS.P 22 (.slice ya ys.length yc) (.int .i64 0)) λw=>xI .i64 (aj SS.P 3 g (.pointer (some w))) λA=>xP (ax SS.P 22 (.slice a n c) (iA i)) λC=>xI .i64 (aj SS.P 3 g (.pointer (some C))) λz=>G (((A:Int)==z))) (G false)) (G false)) (G false)):=by
 refine aa (λe=>?_) (λe=>?_)
 ·rw[e,Bool.true_or]at h;exact h
 rw[e,Bool.false_or]at h;have m:(∀s,xs=[s]->ys=[s]->s=l.getD i 0->False)->G false:=λu=>by
  have:sO xs ys (l.getD i 0)=false:=decide_eq_false λc=>u _ c.1 c.2 rfl;rwa[this]at h
 obtain⟨p,r,B⟩:=E.at_ K;refine aa (λq=>aa (λf=>?_) (λf=>m λs j k _=>?_)) (λq=>m λs j k _=>?_)
 ·have q:(xs.length:Int)=1:=by simpa using q
  have f:(ys.length:Int)=1:=by simpa using f
  obtain⟨x,rfl⟩:∃x,xs=[x]:=List.length_eq_one_iff.1 (by omega);obtain⟨y,rfl⟩:∃y,ys=[y]:=List.length_eq_one_iff.1 (by omega);obtain⟨P,M,J⟩:=F.at_ (i:=0) (by simp);obtain⟨O,N,L⟩:=I.at_ (i:=0) (by simp);refine⟨_,M,_,J,_,r,_,B,aa (λb=>⟨_,N,_,L,_,r,_,B,?_⟩) (λb=>m λs j k H=>?_)⟩
  ·have b:x=l.getD i 0:=by simpa using b
   have:sO [x] [y] (l.getD i 0)=((([y]:List Int).getD 0 0:Int)==l.getD i 0):=by
    unfold sO;rw[<-b];by_cases c:y=x
    ·subst c;simp
    ·have:((([y]:List Int).getD 0 0:Int)==x)=false:=by simpa using c
     rw[this];exact decide_eq_false λd=>c (by simpa using d.2)
   rw[this]at h;exact h
  ·have b:¬x=l.getD i 0:=by simpa using b
   have:x=s:=by simpa using j
   exact b (this.trans H)
 ·have f:¬(ys.length:Int)=1:=by simpa using f
  rw[k]at f;simp at f
 ·have q:¬(xs.length:Int)=1:=by simpa using q
  rw[j]at q;simp at q
def Jz(c:ae)(l xs ys:List Int)(b:Bool)(a:Nat)(bad is:Bool)(i:Nat)(g:ae):Prop:=i<=l.length/\a=l.length-i/\Ok c g/\bad=(b || !(l.take i).all kx)/\is=(l.take i).any (sO xs ys)
theorem NG(F:nO h)(x:Ok h g){i:Nat}{M:bt}{a:Option Addr}{n c:Nat}(p:Small M)(e:MB g i M a n c)(B:du g (.slice xa xs.length xc) xs)(C:du g (.slice ya ys.length yc) ys)(J:M.af.length<=2)(G:IW M=true){b:List UInt8}(D:CL M kind xs ys b=true):
  au (((0:Int)==0)) (xP (aW SS.P 29 (pA i) 3) λv=>xL (aj SS.P 27 g (.pointer (some v))) λI r H=>au (decide (((r:Int):Int)<=2)) (xA (aj SS.P 29 g (pA i)) λl=>FW SS 23 [(.agg ⟨l⟩)] g λs d=>yB s λu=>au u (xA (aj SS.P 29 d (pA i)) λA=>FW SS 19 [(.agg ⟨A⟩),(.int .i64 kind),(.slice xa xs.length xc),(.slice ya ys.length yc),(strOf b)] d λo k=>yB o λt=>au t (FW SS 12 [] k λz m=>yB z λy=>EQ h (.bool y) m) (EQ h (.bool false) k)) (EQ h (.bool false) d)) (EQ h (.bool false) g)) (EQ h (.bool false) g):=by
 have L:=e.len;refine aa (λ_=>⟨_,cI _,_,_,_,e.l3,aa (λ_=>⟨_,e.all,(XX x.wf p e.row).mono ?_⟩) (λq=>?_)⟩) (λq=>by cases q)
 ·rintro _ K ⟨rfl,f⟩;have w:=x.trans f;have j:=e.ok f;refine⟨_,rfl,aa (λ_=>⟨_,j.all,(Pp f.wf p j.row (du.ok B f) (du.ok C f) kind b).mono ?_⟩) (λq=>by rw[G]at q;cases q)⟩;rintro _ N ⟨rfl,E⟩;exact⟨_,rfl,aa (λ_=>Nm F (w.trans E)) (λq=>by rw[D]at q;cases q)⟩
 ·exfalso;have q:=dF q;omega
theorem IH(w:Wf h)(N:nO h)(I:du h (.slice a l.length c) l)(F:du h (.slice xa xs.length xc) xs)(H:du h (.slice ya ys.length yc) ys)(hx:xs.length<=281474976710656)(hy:ys.length<=281474976710656):
  FW SS 4 [.int .i64 kind,.slice a l.length c,.slice xa xs.length xc,.slice ya ys.length yc] h (EQ h):=by
 refine IG kind a _ c xa _ xc ya _ yc h _ (aa (λ_=>Nm N (Ok.refl w)) (λhl=>(Pt F H hx hy).mono ?_));have hl:l.length<=2000:=by have:=dF hl;omega
 rintro _ g5 ⟨rfl,C⟩;obtain rfl:h=g5:=C.symm;refine⟨_,rfl,aa (λ_=>Nm N (Ok.refl w)) (λV=>oT (Nn w I (by omega)) (e:=(eY kind l).2) (R:=(eY kind l).1) rfl λZ a' n c' u ob st X mb=>⟨_,qD,u,st,(ni kind _).mono ?_⟩)⟩;rw[Bool.not_eq_false']at V;unfold M1 at V;rw[and_eq_true,and_eq_true]at V;obtain⟨_,wx,wy⟩:=V;generalize u.app (Z.push mO)=g at*;generalize Z.next=t at*;rintro _ g6 ⟨rfl,C⟩;obtain rfl:g=g6:=C.symm;obtain⟨k,D⟩:∃k,k=(decide (1<=kind)&&decide (kind<=3)):=⟨_,rfl⟩
 rw[<-D];refine⟨_,rfl,uR kind a l.length c xa xs.length xc ya ys.length yc t (eY kind l).2 (Jz g l xs ys (!k)) _ (λT bad is i=>?_) l.length (bad:= !k) (is:=false) (i:=0) ⟨Nat.zero_le _,rfl,Ok.refl X.wf,by simp,rfl⟩⟩;intros;rename_i v x0;obtain⟨f1,f2,P,A,hs⟩:=x0;refine aa (λq=>?_) (λq=>?_)
 ·have r:i<l.length:=by have:=dT q;omega
  have or:=P.trans ((Ok.refl P.wf).room 32);have f:=X.trans or;have nx:∀(B Q:Bool),B=(bad || !kx (l.getD i 0))->Q=(is||sO xs ys (l.getD i 0))->aB (Al (ba kind a l.length c xa xs.length xc ya ys.length yc t (eY kind l).2) (Jz g l xs ys (!k))) T [(.int .i64 kind),(.slice a l.length c),(.slice xa xs.length xc),(.slice ya ys.length yc),(pA t),(.int .i64 (eY kind l).2),(.bool B),(.bool Q),(.int .i64 (wrap .i64 ((i:Int)+1)))] (room v 32):=λB Q U W=>by
   rw[aJ r (by omega)];refine Fo (l.length-(i+1)) (by omega) ⟨by omega,rfl,or,?_,?_⟩
   ·rw[U,A,gb (d:=0) r,List.all_append]
    cases k<;>cases (l.take i).all kx<;>simp
   ·rw[W,hs,gb (d:=0) r,List.any_append];simp
  have sy:∀{z:Int},kx z=(!(decide (z<1)) && !(decide (z>500))):=λ{z}=>by
   unfold kx;by_cases c1:1<=z<;>by_cases c2:z<=500<;>simp[c1,c2]<;>omega
  obtain⟨p,U,W⟩:=du.at_ (du.ok I (X.trans P)) r;refine aa (λy=>?_) (λy=>⟨_,U,_,W,aa (λx=>?_) (λx=>⟨_,U,_,W,?_⟩)⟩)
  ·exact GZ (G:=λb=>aB (Al (ba kind a l.length c xa xs.length xc ya ys.length yc t (eY kind l).2) (Jz g l xs ys (!k))) T [(.int .i64 kind),(.slice a l.length c),(.slice xa xs.length xc),(.slice ya ys.length yc),(pA t),(.int .i64 (eY kind l).2),(.bool true),(.bool b),(.int .i64 (wrap .i64 ((i:Int)+1)))] (room v 32)) (du.ok I f) (du.ok F f) (du.ok H f) r (nx _ _ (by rw[y];rfl) rfl)
  ·refine GZ (G:=λb=>aB (Al (ba kind a l.length c xa xs.length xc ya ys.length yc t (eY kind l).2) (Jz g l xs ys (!k))) T [(.int .i64 kind),(.slice a l.length c),(.slice xa xs.length xc),(.slice ya ys.length yc),(pA t),(.int .i64 (eY kind l).2),(.bool true),(.bool b),(.int .i64 (wrap .i64 ((i:Int)+1)))] (room v 32)) (du.ok I f) (du.ok F f) (du.ok H f) r (nx _ _ ?_ rfl);rw[y,sy,x];rfl
  ·refine GZ (G:=λb=>aB (Al (ba kind a l.length c xa xs.length xc ya ys.length yc t (eY kind l).2) (Jz g l xs ys (!k))) T [(.int .i64 kind),(.slice a l.length c),(.slice xa xs.length xc),(.slice ya ys.length yc),(pA t),(.int .i64 (eY kind l).2),(.bool (decide (l.getD i 0>500))),(.bool b),(.int .i64 (wrap .i64 ((i:Int)+1)))] (room v 32)) (du.ok I f) (du.ok F f) (du.ok H f) r (nx _ _ ?_ rfl);rw[y,sy,x];simp
 ·have r:i=l.length:=by have:=dF q;omega
  rw[r,List.take_length]at A hs;have m:=X.trans P;have E:=mb.ok P;refine aa (λy=>?_) (λy=>?_)
  ·have:eY kind l=(tY,1):=if_neg λc=>by
    rw[and_eq_true,decide_eq_true_eq]at c;rw[y,c.2,D,decide_eq_true c.1.1,decide_eq_true c.1.2]at A
    cases A
   rw[this];exact aa (λ_=>Nm N m) (λq=>by cases q)
  rw[y]at A;have x1:k=true/\l.all kx=true:=by
   cases k<;>cases h:l.all kx<;>rw[h]at A<;>simp at A⊢
  obtain⟨x2,j⟩:=x1;rw[x2,eq_comm,and_eq_true,decide_eq_true_eq,decide_eq_true_eq]at D;have o:1<=kind/\kind<=3:=D;have hr:eY kind l=(dx kind l,0):=if_pos (by rw[j,Bool.and_true];exact decide_eq_true o);rw[hr]at E⊢;dsimp only at E⊢;have h5:=Jv j;have O:=CW o j;have sm:Small (dx kind l):=O.small (by show 2<=300;omega) (by rw[xv];omega);obtain⟨K,S,x3,L⟩:=wP o;have J:=KE o L j xs ys;have Y:(∃s,s∈l/\xs=[s]/\ys=[s])↔is=true:=by
   rw[hs,List.any_eq_true];constructor
   ·rintro⟨s,h1,h2⟩;exact⟨s,h1,decide_eq_true h2⟩
   ·rintro⟨s,h1,h2⟩;exact⟨s,h1,dT h2⟩
  refine(gX o v).mono ?_;rintro _ g8 ⟨rfl,C⟩;obtain rfl:v=g8:=C.symm;refine⟨_,rfl,aa (λx=>(Ho kind v).mono ?_) (λx=>?_)⟩
  ·rintro _ g9 ⟨rfl,C⟩;obtain rfl:v=g9:=C.symm;refine⟨_,rfl,NG N m sm E (du.ok F m) (du.ok H m) (Nat.le_refl _) (xu o j) (holds_of (M:=dx kind l) L O.valid wx wy (XH o) ?_)⟩;rw[J,if_pos (Y.2 x)];have:dc kind=pE kind:=C6 o;rw[this];exact L.one.symm
  ·refine NG N m sm E (du.ok F m) (du.ok H m) (Nat.le_refl _) (xu o j) (holds_of (M:=dx kind l) L O.valid wx wy (sw o) ?_);rw[J,if_neg (λc=>by have:=Y.1 c;rw[this]at x;cases x)];exact L.zero.symm
end
end
end Go.Proofs.YtaaichlgdgjgjaaGreatDoor
end
section
namespace Go.Proofs.YtaaichlgdgjgjaaGreatDoor
open Go.Shelf Go.RowKit Go.Lib Go.Sort
def Kr:Go.Shelf.Ren:=⟨fun|5=>81|8=>101|7=>100|19=>134|20=>135|10=>125|11=>126|12=>127|13=>128|14=>129|15=>130|16=>131|17=>132|18=>133|30=>160|31=>161|32=>162|33=>163|34=>164|35=>165|40=>182|n=>n,fun|23=>22|25=>3|3=>3|32=>111|22=>22|0=>0|44=>148|46=>150|4=>4|36=>140|35=>139|41=>145|5=>5|9=>9|53=>166|57=>170|63=>185|64=>186|n=>n,fun|n=>n⟩
theorem Yn:Go.Proofs.SlLaysM.n5 Tryz.prog Kr:={
 mixed:=by kernel_rfl,
 f5:=⟨Tryz.f81.name,by decide,Tryz.func81.trans (congrArg some (by kernel_rfl))⟩,
 f7:=⟨Tryz.f100.name,by decide,Tryz.func100.trans (congrArg some (by kernel_rfl))⟩,
 f8:=Tryz.func101.trans (congrArg some (by kernel_rfl)),
 f10:=⟨Tryz.f125.name,by decide,Tryz.func125.trans (congrArg some (by kernel_rfl))⟩,
 f11:=⟨Tryz.f126.name,by decide,Tryz.func126.trans (congrArg some (by kernel_rfl))⟩,
 f12:=⟨Tryz.f127.name,by decide,Tryz.func127.trans (congrArg some (by kernel_rfl))⟩,
 f13:=⟨Tryz.f128.name,by decide,Tryz.func128.trans (congrArg some (by kernel_rfl))⟩,
 f14:=⟨Tryz.f129.name,by decide,Tryz.func129.trans (congrArg some (by kernel_rfl))⟩,
 f15:=⟨Tryz.f130.name,by decide,Tryz.func130.trans (congrArg some (by kernel_rfl))⟩,
 f16:=⟨Tryz.f131.name,by decide,Tryz.func131.trans (congrArg some (by kernel_rfl))⟩,
 f17:=⟨Tryz.f132.name,by decide,Tryz.func132.trans (congrArg some (by kernel_rfl))⟩,
 f18:=⟨Tryz.f133.name,by decide,Tryz.func133.trans (congrArg some (by kernel_rfl))⟩,
 f19:=Tryz.func134.trans (congrArg some (by kernel_rfl)),
 f20:=Tryz.func135.trans (congrArg some (by kernel_rfl)),
 f30:=⟨Tryz.f160.name,by decide,Tryz.func160.trans (congrArg some (by kernel_rfl))⟩,
 f31:=Tryz.func161.trans (congrArg some (by kernel_rfl)),
 f32:=Tryz.func162.trans (congrArg some (by kernel_rfl)),
 f33:=⟨Tryz.f163.name,by decide,Tryz.func163.trans (congrArg some (by kernel_rfl))⟩,
 f34:=⟨Tryz.f164.name,by decide,Tryz.func164.trans (congrArg some (by kernel_rfl))⟩,
 f35:=⟨Tryz.f165.name,by decide,Tryz.func165.trans (congrArg some (by kernel_rfl))⟩,
 f40:=⟨Tryz.f182.name,by decide,Tryz.func182.trans (congrArg some (by kernel_rfl))⟩,
 t0:=Tryz.underlying0,
 a0:=Tryz.isAgg0,
 z0:=Tryz.sizeOf0,
 v0:=Tryz.zeroValue0,
 t3:=Tryz.underlying3,
 a3:=Tryz.isAgg3,
 z3:=Tryz.sizeOf3,
 v3:=Tryz.zeroValue3,
 t4:=Tryz.underlying4,
 a4:=Tryz.isAgg4,
 z4:=Tryz.sizeOf4,
 v4:=Tryz.zeroValue4,
 t5:=Tryz.underlying5,
 a5:=Tryz.isAgg5,
 z5:=Tryz.sizeOf5,
 v5:=Tryz.zeroValue5,
 t9:=Tryz.underlying9,
 a9:=Tryz.isAgg9,
 z9:=Tryz.sizeOf9,
 v9:=Tryz.zeroValue9,
 t22:=Tryz.underlying22,
 a22:=Tryz.isAgg22,
 z22:=Tryz.sizeOf22,
 v22:=Tryz.zeroValue22,
 t23:=Tryz.underlying22,
 a23:=Tryz.isAgg22,
 z23:=Tryz.sizeOf22,
 v23:=Tryz.zeroValue22,
 t25:=Tryz.underlying3,
 a25:=Tryz.isAgg3,
 z25:=Tryz.sizeOf3,
 v25:=Tryz.zeroValue3,
 t32:=Tryz.underlying111,
 a32:=Tryz.isAgg111,
 z32:=Tryz.sizeOf111,
 v32:=Tryz.zeroValue111,
 t35:=Tryz.underlying139,
 a35:=Tryz.isAgg139,
 z35:=Tryz.sizeOf139,
 v35:=Tryz.zeroValue139,
 t36:=Tryz.underlying140,
 a36:=Tryz.isAgg140,
 z36:=Tryz.sizeOf140,
 v36:=Tryz.zeroValue140,
 t41:=Tryz.underlying145,
 a41:=Tryz.isAgg145,
 z41:=Tryz.sizeOf145,
 v41:=Tryz.zeroValue145,
 t44:=Tryz.underlying148,
 a44:=Tryz.isAgg148,
 z44:=Tryz.sizeOf148,
 v44:=Tryz.zeroValue148,
 t46:=Tryz.underlying150,
 a46:=Tryz.isAgg150,
 z46:=Tryz.sizeOf150,
 v46:=Tryz.zeroValue150,
 t53:=Tryz.underlying166,
 a53:=Tryz.isAgg166,
 z53:=Tryz.sizeOf166,
 v53:=Tryz.zeroValue166,
 t57:=Tryz.underlying170,
 a57:=Tryz.isAgg170,
 z57:=Tryz.sizeOf170,
 v57:=Tryz.zeroValue170,
 t63:=Tryz.underlying185,
 a63:=Tryz.isAgg185,
 z63:=Tryz.sizeOf185,
 v63:=Tryz.zeroValue185,
 t64:=Tryz.underlying186,
 a64:=Tryz.isAgg186,
 z64:=Tryz.sizeOf186,
 v64:=Tryz.zeroValue186 }
end Go.Proofs.YtaaichlgdgjgjaaGreatDoor
end
section
namespace Go.Proofs.YtaaichlgdgjgjaaGreatDoor
open Go Go.Ab Go.RowKit
theorem C3:oJ Tryz.prog V0 222 qL:=JI (fn:=(Tryz.prog.funcs[222]?).getD default) (by kernel_rfl) (by kernel_rfl) (by kernel_rfl) (by kernel_rfl) (by kernel_rfl)
theorem A4:oJ Tryz.prog V0 226 po:=GW (fn:=(Tryz.prog.funcs[226]?).getD default) (by kernel_rfl) (by kernel_rfl) (by kernel_rfl) (by kernel_rfl) (by kernel_rfl)
theorem EK:oJ Tryz.prog V0 166 (wC Tryz.prog V0 Tryz.f166 (MJ E9) (HE (HE E9)) 5):=
 SK Ob.names Tryz.func166 rfl rfl rfl rfl rfl rfl rfl Tryz.func183 rfl GV (by kernel_rfl) (by kernel_rfl)
theorem MP:oJ Tryz.prog V0 81 Ds:=UZ Yn (f5:=Tryz.f81) Tryz.func81 (by kernel_rfl)
theorem TZ:q9 Tryz.prog V0 prS:=nX MP (nX C3 (nX A4 (nX EK JS)))
end Go.Proofs.YtaaichlgdgjgjaaGreatDoor
end
section
namespace Go.Proofs.YtaaichlgdgjgjaaGreatDoor
open Go Go.Ab Go.ChangeShapes Go.RowKit
theorem co3:Tryz.prog.cellsOf 3=1:=by kernel_rfl
theorem ab0:Tryz.prog.cellsOf 150=1:=by kernel_rfl
theorem Ty{a c:Type}{p:a->c}{P:a->Prop}:∀{l:List c},(∀x∈l,∃q,x=p q/\P q)->∃k:List a,l=k.map p/\∀q∈k,P q
 |[],_=>⟨[],rfl,λ_ h=>by cases h⟩
 | x::l,h=>by
  obtain⟨q,rfl,e⟩:=h x (List.mem_cons_self ..);obtain⟨k,rfl,f⟩:=Ty λx d=>h x (List.mem_cons_of_mem _ d);exact⟨q::k,rfl,λy b=>by
   rcases List.mem_cons.1 b with rfl|b
   ·exact e
   ·exact f y b⟩
end Go.Proofs.YtaaichlgdgjgjaaGreatDoor
end
section
namespace Go.Proofs.YtaaichlgdgjgjaaGreatDoor
open Go Go.ChangeShapes Go.WideShapes Go.ChangeAt Go.RowKit
theorem UP:ownKnob Tryz.prog.godebug=none:=by kernel_rfl
abbrev m8{H:Type}:List (String×DataW H):=[("math/bits.deBruijn32tab",Rows.laid_math_bits_deBruijn32tab),("math/bits.deBruijn64tab",Rows.laid_math_bits_deBruijn64tab),("internal/strconv.uint64pow10",Rows.laid_internal_strconv_uint64pow10)]
def aao:DataW Unit->Value
 |.lit (.int k n)=> .int k n
 |_=>undef
def Cw:DataW Unit->Array Value
 |.agg l=>(l.map aao).toArray
 |_=> #[]
def To(c:Array Value):Obj->Obj
 |.cells _ t a=> .cells c t a
 |o=>o
noncomputable def Fq(a:Os):World:=
 { World.holding Tryz.prog a ⟨#[],#[],[]⟩with heap:=(((World.holding Tryz.prog a ⟨#[],#[],[]⟩).heap.modify 2 (To (Cw Rows.laid_math_bits_deBruijn32tab))).modify 3 (To (Cw Rows.laid_math_bits_deBruijn64tab))).modify 1 (To (Cw Rows.laid_internal_strconv_uint64pow10)) }
theorem Eu(b:Os)(a:Array Value):laidMetH Tryz.prog m8 ((Fq b).forCall (λ_ _=>0) ⟨#[],a,[]⟩).memory:=
 laidMetH_of_parts (laidMet_of_run' 24 (by kernel_rfl) (by kernel_rfl)) (by kernel_rfl)
end Go.Proofs.YtaaichlgdgjgjaaGreatDoor
end
section
namespace Go.Proofs.YtaaichlgdgjgjaaGreatDoor
open Go Go.Ab Go.ChangeShapes Go.WideShapes Go.RowKit
section
theorem CS{P:Program}{w:World}:∀{l:List (String×DataW Unit)}{c:List MemPlace},DataW.LaidVars P w l c->∀n d,(n,d)∈l->
  ∃g t cs a p,P.globalNamed n=some g/\(P.globals[g]?).map (·.type)=some t/\w.var? P n=some cs/\DataW.trod (λ_=>()) P w 0 (λ_=>true) false a t cs.toList=some (d,p)
 |[],_,_,_,_,b=>by cases b
 | (s,o)::r,c,h,n,d,b=>by
  obtain⟨g,t,cs,a,p,q,i,j,f,k,m,_⟩:=h;rcases List.mem_cons.1 b with e|e
  ·cases e
   exact⟨g,t,cs,a,p,i,j,f,k⟩
  ·exact CS m n d e
theorem TY:Rows.laid_internal_strconv_uint64pow10=(.agg ((List.range 20).map λi=>(.lit (.int .u64 ((10^i:Nat):Int)):DataW Unit)):DataW Unit):=by kernel_rfl
section
variable {W:World}
theorem XN(j:laidMetH Tryz.prog m8 W):∃cs t a,W.heap[1]?=some (.cells cs t a)/\∀s,gL s Kx 0 cs:=by
 rw[MakeChecks.laidMetH_plain _ _ _ (by kernel_rfl)]at j;obtain⟨F,l,_⟩:=j;obtain⟨g,t,cs,x,p,r,E,b,C⟩:=CS l "internal/strconv.uint64pow10" Rows.laid_internal_strconv_uint64pow10 (by simp[m8]);obtain rfl:=oI ((show Tryz.prog.globalNamed "internal/strconv.uint64pow10" = some 1 by kernel_rfl).symm.trans r);obtain rfl:=oI ((show(Tryz.prog.globals[1]?).map (·.type)=some 230 by kernel_rfl).symm.trans E);obtain⟨f,m,_,D,_,l,o⟩:=DataW.trod_array Tryz.underlying230 C;have w:f.map (·.1)=(List.range 20).map λi=>(.lit (.int .u64 ((10^i:Nat):Int)):DataW Unit):=by
  have:=(Prod.mk.inj D).1.symm.trans TY;exact DataW.agg.inj this
 have d:∃t a,W.heap[1]?=some (.cells cs t a):=by
  simp only[World.var?,r,Option.bind_some]at b;split at b
  ·next c t a d=>obtain rfl:=oI b;exact⟨t,a,d⟩
  ·cases b
 obtain⟨t,a,d⟩:=d;refine⟨cs,t,a,d,λs k v h=>?_⟩;have e:k<20:=by
  have:=(List.getElem?_eq_some_iff.1 h).1;simpa[Kx]using this
 have b:v=uv (10^k):=by
  simp[Kx,List.getElem?_range e]at h;exact h.symm
 have n:=o k e;rw[ab0,Nat.mul_one,gE (by omega)]at n;obtain⟨z,u,B,_⟩:=DataW.trod_int Tryz.underlying150 n;have q:(f.map (·.1))[k]?=some (.lit (.int .u64 ((10^k:Nat):Int))):=by rw[w];simp[List.getElem?_range e]
 rw[List.getElem?_map,gE (by omega:k<f.length),B]at q;have A:z=((10^k:Nat):Int):=by
  simpa using q
 subst A;have:cs.toList[k]?=some (.int .u64 ((10^k:Nat):Int)):=by
  have y:((cs.toList.drop k).take 1)[0]?=some (.int .u64 ((10^k:Nat):Int)):=by rw[u];rfl
  simpa using y
 refine⟨.int .u64 ((10^k:Nat):Int),by simpa using this,?_⟩;rw[b];exact .int _ _
theorem Xm(c:laidMetH Tryz.prog m8 W):∃a h,EN a h W/\Gl V0 a/\nO h:=by
 obtain⟨cs,t,f,b,e⟩:=XN c;refine⟨_,_,(ady 1 W).push b (e _),λg d=>?_,t,false,ae.iR ⟨1,.nil⟩ _⟩;have:g=1:=by simpa[V0]using d
 subst this;exact⟨_,dQ.cQ _ _ _,rfl,rfl,rfl⟩
end
end
variable{n:Nat}{J:dQ}{h:ae}
section
theorem bo3:Tryz.prog.bytesOf 3=8:=by kernel_rfl
section
variable {H:Type} {enc:TypeId×Value->H} {W:World} {held:Bool}
theorem Pk{cs:List Value}{y:DataW H×List MemPlace}(h:DataW.trod enc Tryz.prog W 0 (λ_=>true) held n 22 cs=some y)(c:(y.1.weights Tryz.prog 22).all (· <=reachBytes)=true):
  ∃(v:Value)(l:List Int),cs=[v]/\RM W v 1 (l.map qm)/\l.length<=281474976710656:=by
 obtain⟨v,f,b,r,d,a⟩:=Qy (P:=Tryz.prog) (p:=λcs=>∃z:Int,cs=qm z/\True) Tryz.underlying22 co3 (by decide) (λn cs y h _=>by
  obtain⟨z,e,_,_⟩:=DataW.trod_int Tryz.underlying3 h;exact⟨z,e,trivial⟩) h c
 obtain⟨l,rfl,_⟩:=Ty d;refine⟨v,l,b,r,?_⟩;rw[bo3,lM]at a;unfold reachBytes at a;omega
theorem Pv(i:EN J h W){v:Value}{l:List Int}(r:RM W v 1 (l.map qm))(B:∀a,v = .slice (some a) 0 0->a.spot=none/\∃cs t s,W.heap[a.block]?=some (.cells cs t s)):
  ∃g u a c,EN g u W/\J.le g/\Ok h u/\aG g (.slice a l.length c) v/\du u (.slice a l.length c) l/\l.length<=bO c:=by
 obtain⟨D,⟨rfl,q⟩|⟨a,rfl,q⟩|⟨b,d,f,cs,t,s,rfl,y,E,p,F,C⟩⟩:=r
 ·obtain rfl:l=[]:=by simpa using q
  exact⟨J,h,none,0,i,J.le_refl,Ok.refl i.wf,.oY,.inl ⟨rfl,rfl⟩,Nat.zero_le _⟩
 ·obtain rfl:l=[]:=by simpa using q
  obtain⟨x,cs,t,s,p⟩:=B a rfl;obtain⟨b,d,w⟩:=a
  cases (show w=none from x)
  have o:=i.push (cs:=[]) p (λk v e=>by simp at e);exact⟨_,_,some ⟨h.next,0,none⟩,0,o,i.le _,(Ok.refl i.wf).push _,aG.slice (n:=0) (c:=0) (c':=0) (sl:=HA b cs.size t) (dQ.cQ _ _ _) rfl (λ_=>rfl) (λh=>by unfold dj at h;omega) (by unfold bO;split<;>omega) (.inr ⟨rfl,rfl⟩) (.inl rfl),.inr ⟨h.next,0,_,0,false,t,0,rfl,ae.iR _ _,.inr rfl,rfl⟩,Nat.zero_le _⟩
 ·rw[lM]at y⊢;have j:gL J (List.replicate d iL++l.map zV) 0 cs:=λk v e=>by
   rw[Nat.zero_add];rw[List.getElem?_append]at e;split at e
   ·next m=>
    rw[List.length_replicate]at m;rw[List.getElem?_replicate,if_pos m]at e;obtain rfl:=oI e;exact⟨_,Array.getElem?_eq_getElem (by omega),.iL _⟩
   ·next m=>
    rw[List.length_replicate]at m e;rw[List.getElem?_map]at e;obtain⟨z,A,rfl⟩:=Option.map_eq_some_iff.1 e;have:=C (k-d) (qm z) (by rw[List.getElem?_map,A];rfl) 0 (by omega);rw[show d+((k-d)*1+0)=k by omega]at this;exact⟨_,this,.int _ _⟩
  have o:=i.push p j;refine⟨_,_,some ⟨h.next,d,none⟩,f,o,i.le _,(Ok.refl i.wf).push _,aG.slice (sl:=HA b cs.size t) (i:=d) (n:=l.length) (c:=f) (i':=d) (c':=f) (dQ.cQ _ _ _) rfl (λ_=>rfl) (λh=>by omega) (by unfold bO;split<;>omega) (.inl (by simp)) (.inl rfl),.inr ⟨h.next,d,_,f,false,t,0,rfl,ae.iR _ _,.inr rfl,?_⟩,by unfold bO;split<;>omega⟩;rw[List.drop_append,List.length_replicate,List.drop_eq_nil_of_le (by simp),List.nil_append,Nat.sub_self,List.drop_zero,List.take_of_length_le (by simp)];rfl
end
end
variable{v:Value}{c:List Value}{g:ae}{f:FuncId}{F:Func}
section
section
variable {W:World}
def Ldx(W:World)(v:Value)(S:Value->ae->Prop):Prop:=(∀c h a,Ok h a->S c h->S c a)/\∀{d:dQ}{h:ae},EN d h W->∃b a c,EN b a W/\d.le b/\Ok h a/\aG b c v/\S c a
def Lds(W:World)(e:List Value)(T:List Value->ae->Prop):Prop:=∀{d:dQ}{h:ae},EN d h W->∃a c b,EN a c W/\d.le a/\Ok h c/\bB a b e/\T b c
theorem Xt:Lds W [] λa _=>a=[]:=λ{b h} i=>⟨b,h,[],i,b.le_refl,Ok.refl i.wf,.nil _,rfl⟩
theorem xq{S:Value->ae->Prop}{T:List Value->ae->Prop}(a:Ldx W v S)(b:Lds W c T):Lds W (v::c) λe h=>∃x r,e=x::r/\S x h/\T r h:=λ{w h} i=>by
 obtain⟨t,u,x,l,q,j,n,s⟩:=a.2 i;obtain⟨d,p,r,m,g,f,o,k⟩:=b l;exact⟨d,p,x::r,m,dQ.le_trans q g,j.trans f,.cons (n.mono g) o,x,r,rfl,a.1 _ _ _ f s,k⟩
def ac8(v:Value)(_:ae):Prop:=∃z:Int,v = .int .i64 z
def Wn(v:Value)(h:ae):Prop:=∃(l:List Int)(a:Option Addr)(c:Nat),v = .slice a l.length c/\du h (.slice a l.length c) l/\l.length<=281474976710656/\l.length<=bO c
theorem Wn.ok(o:Ok h g)(s:Wn v h):Wn v g:=by
 obtain⟨l,a,c,d,e,b,f⟩:=s;exact⟨l,a,c,d,e.ok o,b,f⟩
theorem aan{base:Nat}(a:Value.okWide Tryz.prog W .any base 3 v):Ldx W v ac8:=by
 obtain⟨z,rfl⟩:=okWide_int Tryz.underlying3 a;exact⟨λ_ _ _ _ s=>s,λ{b h} i=>⟨b,h,_,i,b.le_refl,Ok.refl i.wf,.int _ _,z,rfl⟩⟩
theorem Ko{b:Nat}{t:TypeId}(h:W.shape? b=some (t,n)):∃cs t a,W.heap[b]?=some (.cells cs t a):=by
 unfold World.shape? at h;split at h
 ·next c t a d=>exact⟨c,t,a,d⟩
 ·cases h
variable {H:Type} {enc:TypeId×Value->H}
theorem TL{base:Nat}(b:Value.okWide Tryz.prog W .any base 22 v)(a:Addr)(e:v = .slice (some a) 0 0):a.spot=none/\∃cs t g,W.heap[a.block]?=some (.cells cs t g):=by
 subst e;simp only[Value.okWide,Cell.okWide,Cell.ok,Tryz.underlying22]at b;obtain⟨_,_,_,f,h,d,c,_⟩:=b;exact⟨f,Ko c⟩
theorem LP{base:Nat}{m:DataW H}{p:List MemPlace}(b:Value.okWide Tryz.prog W .any base 22 v)(d:DataW.Trod enc Tryz.prog W 0 (λ_=>true) true 22 v m p)(y:(m.weights Tryz.prog 22).all (· <=reachBytes)=true):Ldx W v Wn:=by
 refine⟨λv h C o s=>s.ok o,λ{D h} i=>?_⟩;obtain⟨f,j,k,rfl⟩:=okWide_slice Tryz.underlying22 b;obtain⟨z,d⟩:=d;obtain⟨v,l,e,r,u⟩:=Pk d y;have e:Value.slice f j k=v:=by
  have:[Value.slice f j k]=[v]:=e;simpa using this
 subst e;obtain⟨g,w,a,c,q,A,n,t,x,B⟩:=Pv i r (TL b);exact⟨g,w,_,q,A,n,t,l,a,c,rfl,x,u,B⟩
theorem Pu(m:Tryz.prog.funcs[f]?=some F)(b:F.body.isSome=true)(q:f<YB){a:Array Value}{T:List Value->ae->Prop}(l:Lds W a.toList T)(p:laidMetH Tryz.prog m8 W)
  (i:∀{h:ae}{c:List Value}(_:nO h)(_:Wf h),T c h->FW SS f c h (EQ h)):Calls Tryz.prog f a W λe d=>e = .returned (.bool true)/\Below W.heap.size W d:=by
 obtain⟨t,C,k,v,n⟩:=Xm p;obtain⟨y,z,c,g,s,j,o,u⟩:=l k;refine(IQ Ob TZ (i (n.ok j) g.wf u) q m b g (v.mono s) (args':=a) o).mono ?_;rintro e d ⟨x,A,B,w,rfl,⟨rfl,_⟩,r,_,b⟩
 cases r
 exact⟨rfl,b⟩
end
end
end Go.Proofs.YtaaichlgdgjgjaaGreatDoor
end
section
namespace Go.Proofs.YtaaichlgdgjgjaaGreatDoor
open Go Go.Ab Go.ChangeShapes Go.WideShapes Go.ChangeAt Go.RowKit
theorem ur:laidOutB Tryz.prog=true:=by kernel_rfl
set_option maxRecDepth 100000 in
theorem uS(l:Os)(k:l.Started)(H:Type)(d:TypeId×Value->H):
  ReturnsInHanded {} Tryz.checked l 4 .any (λw b=>(Rows.buildLettersSpec.pre d Tryz.prog Tryz.f4 [] false w b/\laidMetH Tryz.prog m8 w)/\sizedMet d Tryz.prog Tryz.f4 (OpenSpec.ofChange Rows.buildLettersSpec) false w b)
   (Rows.buildLettersSpec.post d Tryz.prog Tryz.f4 false true false false):=by
 refine returnsInHanded_of_change_and (C:=Tryz.checked) (X:=λw _=>laidMetH Tryz.prog m8 w) (λ_ _ _ hh h=>h.of_heap hh) UP k (by kernel_rfl) Tryz.func4
  (ChangeSpec.witness_at (enc:=d) (C:=Tryz.checked) (os:=l) (X:=λw _=>laidMetH Tryz.prog m8 w) false (Fq l) #[.int .i64 0,.slice none 0 0,.slice none 0 0,.slice none 0 0] 8 rfl (by kernel_rfl) (by kernel_rfl) (by kernel_rfl) (by kernel_rfl) (by kernel_rfl) (Eu l _)) ?_
 intro W base b L gs E o O _ x4 hL _;have c:∀(j:Nat) t v,Tryz.f4.params[j]?=some t->b[j]?=some v->Value.okWide Tryz.prog W .any base t v:=o;have n:=O;obtain⟨p,q,F,hV,rfl,y8,x8⟩:=O;have hA:DataW.TrodAll d Tryz.prog W 0 (λ_=>true) true Tryz.f4.params.toList b.toList L p:=F;rw[Tryz.params4]at hA c;obtain⟨r,z8,D,z1,M,q0,f,rfl,rfl,t0,Y⟩:=trodAll_cons hA;obtain⟨B,z6,A,y6,p1,q1,rfl,rfl,rfl,t1,Z⟩:=trodAll_cons Y;obtain⟨y,x9,u,z5,I,q2,rfl,rfl,rfl,G,J⟩:=trodAll_cons Z;obtain⟨s,z7,z,z2,p3,q3,rfl,rfl,rfl,S,N⟩:=trodAll_cons J;obtain⟨rfl,rfl,rfl⟩:=trodAll_nil N;have f:b = #[r,B,y,s]:=by
  rw[<-Array.toList_inj];exact f
 subst f;obtain⟨rfl,rfl⟩:=trodVars_none hV;rw[List.append_nil]at n;have P:(DataW.weightsEach Tryz.prog (Tryz.f4.params.toList++Rows.buildLettersSpec.plain.varTypes Tryz.prog) ([D,A,u,z]++[])).all (· <=reachBytes)=true:=x4;rw[Tryz.params4]at P;have R:(D.weights Tryz.prog 3++(A.weights Tryz.prog 22++(u.weights Tryz.prog 22++(z.weights Tryz.prog 22++(DataW.weightsEach Tryz.prog (Rows.buildLettersSpec.plain.varTypes Tryz.prog) []))))).all (· <=reachBytes)=true:=P;simp only[List.all_append,and_eq_true]at R;obtain⟨w0,w1,w2,w3,_⟩:=R;have ld:Lds W #[r,B,y,s].toList _:=xq (aan (c 0 3 r rfl rfl)) (xq (LP (c 1 22 B rfl rfl) t1 w1) (xq (LP (c 2 22 y rfl rfl) G w2) (xq (LP (c 3 22 s rfl rfl) S w3) (Xt))));refine(Pu Tryz.func4 (by kernel_rfl) (by unfold YB;decide) ld hL λtb w T=>?_).mono λe W2 ⟨he,m⟩=>?_
 ·obtain⟨x0,r0,rfl,s0,x1,r1,rfl,s1,x2,r2,rfl,s2,x3,r3,rfl,s3,rfl⟩:=T;obtain⟨z0,rfl⟩:=s0;obtain⟨x7,y2,x6,rfl,U,y4,y1⟩:=s1;obtain⟨z4,y0,z3,rfl,Q,V,y9⟩:=s2;obtain⟨z9,y7,y3,rfl,K,x5,y5⟩:=s3;exact IH w tb U Q K V x5
 subst he;have g:∀x∈M++(p1++(I++(p3++([])))),x.block<W.heap.size:=λx a=>n.lt x a;exact⟨_,rfl,Tn (ds:=[D,A,u,z]) (places:=M++(p1++(I++(p3++([]))))) rfl n m rfl rfl (λ_ _ _=>(trodAll_cons_mk (shut_bool Tryz.underlying4 _) trodAll_mk0))
  (ok_one (by kernel_rfl) rfl (okWide_bool_mk Tryz.underlying4 _)) (λsp i=>by
   rw[Tryz.params4];exact trodAll_cons_mk (WideElems.Trod_stays ur (by kernel_rfl) (dT (by kernel_rfl)) t0 (λx a=>m.same (g x (mem_append_left _ a))) (λx a=>i x (mem_append_left _ a))) (trodAll_cons_mk (WideElems.Trod_stays ur (by kernel_rfl) (dT (by kernel_rfl)) t1 (λx a=>m.same (g x (mem_append_right _ (mem_append_left _ a)))) (λx a=>i x (mem_append_right _ (mem_append_left _ a)))) (trodAll_cons_mk (WideElems.Trod_stays ur (by kernel_rfl) (dT (by kernel_rfl)) G (λx a=>m.same (g x (mem_append_right _ (mem_append_right _ (mem_append_left _ a))))) (λx a=>i x (mem_append_right _ (mem_append_right _ (mem_append_left _ a))))) (trodAll_cons_mk (WideElems.Trod_stays ur (by kernel_rfl) (dT (by kernel_rfl)) S (λx a=>m.same (g x (mem_append_right _ (mem_append_right _ (mem_append_right _ (mem_append_left _ a)))))) (λx a=>i x (mem_append_right _ (mem_append_right _ (mem_append_right _ (mem_append_left _ a)))))) (trodAll_mk0)))))⟩
theorem wY:Rows.BuildLettersSaid:=
 OpenClaim.holds_of_wide 4 Tryz.f4 rfl rfl rfl rfl rfl rfl rfl ⟨rfl,rfl,rfl,rfl,rfl⟩ rfl rfl rfl rfl rfl (by kernel_rfl) Tryz.func4 (by kernel_rfl)
  (dT (by kernel_rfl)) (by unfold Func.isWrapper;first|(rw[if_pos (by decide +kernel)];kernel_rfl)|(rw[if_neg (by decide +kernel)];exact⟨rfl,rfl⟩))
  (λc a H b _=>uS c a H b)
theorem buildLetters_holds:Rows.BuildLettersCardSaid:=
 Claim7.holds_tied_plain_at .later [] [.data,.data,.data] true (true,"c6fdbccbd4f7b918257715cfda7cd04cead22867ce6bb9351446e2ee10eec580") true
  wY (λ_ h=>by cases h) (by kernel_rfl) (λ_ h=>by cases h) buildLetters_row_tie rfl ⟨rfl,rfl⟩ (by kernel_rfl) rfl
  (λf d e b=>by
   obtain rfl:f=4:=oI ((show Tryz.prog.funcNamed "abugida/abugidalaw09.BuildLetters" = some 4 by kernel_rfl).symm.trans e) |>.symm
   obtain rfl:d=Tryz.f4:=(oI (Tryz.func4.symm.trans b)).symm;exact⟨by kernel_rfl,λj t c=>by
    rw[Tryz.params4]at c;have g:t∈[3,22,22,22]:=by simpa using Array.mem_of_getElem? c
    have a:([3,22,22,22].all λu=> !Tryz.prog.wantsStandIn u)=true:=by kernel_rfl
    exact(show Tryz.prog.wantsStandIn t=false by simpa using List.all_eq_true.1 a t g)⟩)
  (by kernel_rfl)
end Go.Proofs.YtaaichlgdgjgjaaGreatDoor
end
